/-
  Lemmas and contracts, joined: Sx Own2 Ex Fr Heap Ops Fr2 Ops2 TysCi.
-/
import Derived.Deep.RegionHeld
import Derived.Test.YtbemhgojfehnjaaDoorPk1
import Derived.BigQuiet
import Derived.Deep.RegionHeldLaw
import Derived.MapKept
namespace Go.Proofs.YtbemhgojfehnjaaDoor
open Go
section
variable {P : Program} {ops : Array Oper} {Q : Exit → Act → World → Prop} {md : Region.Mode} {S : World → Prop} {k : Nat}

/-- Whatever comes up; as long as number k has not, S holds. -/
def AnyT (P : Program) (md : Region.Mode) (ops : Array Oper) (Q : Exit → Act → World → Prop) (S : World → Prop) (k : Nat) : Nat → Array Bool → Act → World → Prop
  | 0, listed, a, w => Region.ready md ops listed = [] ∧ Q .normal a w
  | fuel + 1, listed, a, w => (Region.ready md ops listed = [] → Q .normal a w) ∧ ∀ i ∈ Region.ready md ops listed, wpOp P ops Q i (fun a' w' => ((listed.setIfInBounds i true).getD k false = false → S w') ∧ AnyT P md ops Q S k fuel (listed.setIfInBounds i true) a' w') a w
theorem AnyT.any : ∀ (fuel : Nat) (listed : Array Bool) (a : Act) (w : World), AnyT P md ops Q S k fuel listed a w → wpAny P md ops Q fuel listed a w
  | 0, _, _, _, h => h
  | fuel + 1, _, _, _, h => ⟨h.1, fun i hi => wpOp_mono (fun a' w' h' => AnyT.any fuel _ a' w' h'.2) (h.2 i hi)⟩
/-- Number k waits for number i. -/
def waitB (md : Region.Mode) (ops : Array Oper) (k i : Nat) : Bool := match ops[k]? with | some o => o.after.toList.any (fun e => Region.binds md e && e.on == i) | none => true
theorem waitB_spec {i j : Nat} {o : Oper} (h : waitB md ops k i = true) (hj : ops[j]? = some o) (hno : ∀ e ∈ o.after, Region.binds md e = true → e.on ≠ i) : j ≠ k := by
  rintro rfl
  unfold waitB at h
  rw [hj] at h
  simp only [List.any_eq_true, Bool.and_eq_true, beq_iff_eq] at h
  obtain ⟨e, he, h2, h3⟩ := h
  exact hno e (by simpa using he) h2 h3
theorem getD_set_other {listed : Array Bool} {i : Nat} (h : i ≠ k) : (listed.setIfInBounds i true).getD k false = listed.getD k false := getD_set_ne false h
theorem getD_set_open {listed : Array Bool} {i : Nat} (h : (listed.setIfInBounds i true).getD k false = false) : listed.getD k false = false := by
  by_cases e : i = k
  · subst e
    simp only [Array.getD_eq_getD_getElem?, Array.getElem?_setIfInBounds] at h ⊢
    by_cases hi : i < listed.size
    · simp [hi] at h
    · simp [hi]
  · rwa [getD_set_other e] at h
/-- The common part: number i is taken first, where S is known of whatever world comes before it (or i looks at no world). -/
theorem AnyT.first {i : Nat} {oi : Oper} {v : Value} {S' : World → Prop} (hi : ops[i]? = some oi) (hsel : ∀ (j : Nat) (o : Oper) cs b, ops[j]? = some o → o.op ≠ .select cs b) (hQ : ∀ c a w, Q (.panic c) (a.put oi.dst v) w → Q (.panic c) a w)
    (hik : i ≠ k) :
    ∀ (fuel : Nat) (listed : Array Bool) (a : Act) (w : World), (∀ j oj, ops[j]? = some oj → j ≠ i → listed.getD j true = false → (∀ e ∈ oj.after, Region.binds md e = true → e.on ≠ i) → oi.apart ops oj = true) →
      i ∈ Region.ready md ops listed → YieldsIf P ops S' oi v a → (listed.getD k false = false → S w) → (S' = fun _ => True) ∨ (waitB md ops k i = true ∧ S' = S ∧ listed.getD k false = false) →
      AnyT P md ops Q S k fuel (listed.setIfInBounds i true) (a.put oi.dst v) w → AnyT P md ops Q S k (fuel + 1) listed a w
  | fuel, listed, a, w, hfree, hr, hy, hS, hop, H => by
    have hSw : S' w := by
      rcases hop with h | h
      · rw [h]; trivial
      · rw [h.2.1]; exact hS h.2.2
    refine ⟨fun h => (by rw [h] at hr; cases hr), fun j hj => ?_⟩
    by_cases hji : j = i
    · subst hji; exact hy.wpOp hi hSw ⟨fun ho => hS (getD_set_open ho), H⟩
    · obtain ⟨hjun, oj, hoj, hall⟩ := mem_ready.1 hj
      have hnot : ∀ e ∈ oj.after, Region.binds md e = true → e.on ≠ i := fun e he hb heq => by
        have h1 := hall e he hb
        have h0 := (mem_ready.1 hr).1
        rw [heq] at h1
        rcases Nat.lt_or_ge i listed.size with h' | h'
        · simp [h'] at h0 h1; rw [h0] at h1; cases h1
        · simp [Array.getElem?_eq_none h'] at h1
      cases fuel with
      | zero =>
        have := ready_mono hj hji
        rw [H.1] at this
        cases this
      | succ fuel =>
        have h1 := H.2 j (ready_mono hj hji)
        have h2 := wpOp_putIf hoj (hfree j oj hoj hji hjun hnot) (fun cs b => hsel i oi cs b hi) (fun cs b => hsel j oj cs b hoj) hQ hy h1
        refine wpOp_mono (fun a' w' h3 => ?_) h2
        have hcomm : (listed.setIfInBounds i true).setIfInBounds j true = (listed.setIfInBounds j true).setIfInBounds i true := Array.setIfInBounds_comm _ _ (Ne.symm hji)
        -- S behind number j, said of the list without i
        have hSj : (listed.setIfInBounds j true).getD k false = false → S w' := fun ho => h3.2.1 (by rw [hcomm, getD_set_other hik]; exact ho)
        refine ⟨hSj, AnyT.first hi hsel hQ hik fuel (listed.setIfInBounds j true) a' w' (fun n on hn hni hun hno => ?_) (ready_mono hr (Ne.symm hji)) h3.1 hSj ?_ ?_⟩
        · refine hfree n on hn hni ?_ hno
          by_cases hjn : j = n
          · subst hjn; exact hjun
          · rw [getD_set_ne true hjn] at hun; exact hun
        · rcases hop with h | h
          · exact .inl h
          · exact .inr ⟨h.1, h.2.1, by rw [getD_set_other (waitB_spec h.1 hoj hnot)]; exact h.2.2⟩
        · rw [← hcomm]
          exact h3.2.2
/-- A load, which number k waits for. -/
theorem anyT_take {i : Nat} {oi : Oper} {v : Value} {fuel : Nat} {listed : Array Bool} {a : Act} {w : World} (hi : ops[i]? = some oi) (hs : Region.noSelect ops = true) (hf : Region.free md ops listed i = true) (hr : (Region.ready md ops listed).contains i = true)
    (hw : (waitB md ops k i && !(listed.getD k false) && (i != k)) = true) (hQ : ∀ c a w, Q (.panic c) (a.put oi.dst v) w → Q (.panic c) a w) (hy : YieldsIf P ops S oi v a) (hS : S w) (h : AnyT P md ops Q S k fuel (listed.setIfInBounds i true) (a.put oi.dst v) w) : AnyT P md ops Q S k (fuel + 1) listed a w := by
  simp only [Bool.and_eq_true, Bool.not_eq_true', bne_iff_ne] at hw
  exact AnyT.first hi (Region.noSelect_spec hs) hQ hw.2 fuel listed a w (Region.free_spec hi hf) (by simpa using hr) hy (fun _ => hS) (.inr ⟨hw.1.1, rfl, hw.1.2⟩) h
/-- An operation that looks at no world. -/
theorem anyT_takeY {i : Nat} {oi : Oper} {v : Value} {fuel : Nat} {listed : Array Bool} {a : Act} {w : World} (hi : ops[i]? = some oi) (hs : Region.noSelect ops = true) (hf : Region.free md ops listed i = true) (hr : (Region.ready md ops listed).contains i = true)
    (hw : (i != k) = true) (hQ : ∀ c a w, Q (.panic c) (a.put oi.dst v) w → Q (.panic c) a w) (hy : YieldsIf P ops (fun _ => True) oi v a) (hS : listed.getD k false = false → S w) (h : AnyT P md ops Q S k fuel (listed.setIfInBounds i true) (a.put oi.dst v) w) : AnyT P md ops Q S k (fuel + 1) listed a w := by
  exact AnyT.first hi (Region.noSelect_spec hs) hQ (by simpa using hw) fuel listed a w (Region.free_spec hi hf) (by simpa using hr) hy hS (.inl rfl) h
/-- The one operation that may come up. -/
theorem anyT_one {i : Nat} {o : Oper} {fuel : Nat} {listed : Array Bool} {a : Act} {w : World} (hr : Region.ready md ops listed = [i]) (ho : ops[i]? = some o)
    (h : ∀ K' : Act → World → Prop, Shut (∀ a w, ((listed.setIfInBounds i true).getD k false = false → S w) → (((listed.setIfInBounds i true).getD k false = false → S w) → AnyT P md ops Q S k fuel (listed.setIfInBounds i true) a w) → K' a w) → if Region.wanted o (yielded ops a.tmps) = true then Oper.wp P o a w K' Q else K' (a.put o.dst undef) w) :
    AnyT P md ops Q S k (fuel + 1) listed a w :=
  ⟨fun h0 => (by rw [hr] at h0; cases h0), fun j hj => by
    rw [hr] at hj
    obtain rfl : j = i := by simpa using hj
    exact wpOp_step ho (fun K' hK => h K' (fun a w hS hW => hK a w ⟨hS, hW hS⟩))⟩
theorem anyT_done {listed : Array Bool} {a : Act} {w : World} (hr : Region.ready md ops listed = []) (h : Q .normal a w) : ∀ fuel, AnyT P md ops Q S k fuel listed a w
  | 0 => ⟨hr, h⟩
  | _ + 1 => ⟨fun _ => h, by rw [hr]; simp⟩
theorem region_T {id : Nat} {a : Act} {w : World} (hm : P.follows .mixedOrders = true) (S : World → Prop) (k : Nat) (hS : S w.drew) (h : S w.drew → AnyT P .any ops Q S k ops.size (Array.replicate ops.size false) a w.drew) : (Code.region id ops true).wp P Q a w :=
  wp_region_any hm (AnyT.any _ _ _ _ (h hS))
end
end Go.Proofs.YtbemhgojfehnjaaDoor

namespace Go.Proofs.YtbemhgojfehnjaaDoor
open Go
section
variable {P : Program} {ops : Array Oper} {Q : Exit → Act → World → Prop} {md : Region.Mode} {S : World → Prop} {k : Nat}

/-- How each operation is met: 0: it yields in every world that S holds of (number k waits for it and has not come up); 1: it yields in whatever world; 2: nothing else may come up, S holds behind it; 3: nothing else may come up, k has come up with it. -/
def lexT (md : Region.Mode) (ops : Array Oper) (k : Nat) : List (Nat × Nat) → Array Bool → Bool
  | [], listed => (Region.ready md ops listed).isEmpty
  | (i, 0) :: r, listed => (Region.ready md ops listed).contains i && Region.free md ops listed i && (waitB md ops k i && !(listed.getD k false) && (i != k)) && lexT md ops k r (listed.setIfInBounds i true)
  | (i, 1) :: r, listed => (Region.ready md ops listed).contains i && Region.free md ops listed i && (i != k) && lexT md ops k r (listed.setIfInBounds i true)
  | (i, 2) :: r, listed => (Region.ready md ops listed == [i]) && !((listed.setIfInBounds i true).getD k false) && lexT md ops k r (listed.setIfInBounds i true)
  | (i, _) :: r, listed => (Region.ready md ops listed == [i]) && (listed.setIfInBounds i true).getD k false && lexT md ops k r (listed.setIfInBounds i true)
/-- The walk along the list. -/
def wpT (P : Program) (ops : Array Oper) (Q : Exit → Act → World → Prop) (S : World → Prop) : List (Nat × Nat) → Act → World → Prop
  | [], a, w => Q .normal a w
  | (i, 0) :: r, a, w => ∃ o v, ops[i]? = some o ∧ YieldsIf P ops S o v a ∧ wpT P ops Q S r (a.put o.dst v) w
  | (i, 1) :: r, a, w => ∃ o v, ops[i]? = some o ∧ YieldsIf P ops (fun _ => True) o v a ∧ wpT P ops Q S r (a.put o.dst v) w
  | (i, 2) :: r, a, w => ∃ o, ops[i]? = some o ∧ ∀ K : Act → World → Prop, Shut (∀ a w, S w → (S w → wpT P ops Q S r a w) → K a w) → if Region.wanted o (yielded ops a.tmps) = true then Oper.wp P o a w K Q else K (a.put o.dst undef) w
  | (i, _) :: r, a, w => ∃ o, ops[i]? = some o ∧ ∀ K : Act → World → Prop, Shut (∀ a w, wpT P ops Q S r a w → K a w) → if Region.wanted o (yielded ops a.tmps) = true then Oper.wp P o a w K Q else K (a.put o.dst undef) w
theorem anyT_of_wpT (hs : Region.noSelect ops = true) (hQ : ∀ c a t v w, Q (.panic c) (a.put t v) w → Q (.panic c) a w) :
    ∀ (r : List (Nat × Nat)) (listed : Array Bool) (a : Act) (w : World), lexT md ops k r listed = true → (listed.getD k false = false → S w) → wpT P ops Q S r a w → AnyT P md ops Q S k r.length listed a w
  | [], listed, a, w, hl, _, h => ⟨by simpa [lexT] using hl, h⟩
  | (i, 0) :: r, listed, a, w, hl, hS, h => by
    simp only [lexT, Bool.and_eq_true] at hl
    obtain ⟨⟨⟨h1, h2⟩, h3⟩, h4⟩ := hl
    obtain ⟨o, v, ho, hy, h⟩ := h
    have hk : listed.getD k false = false := by simpa using h3.1.2
    exact anyT_take ho hs h2 h1 (by simp only [Bool.and_eq_true]; exact h3) (fun c a w => hQ c a _ _ w) hy (hS hk)
      (anyT_of_wpT hs hQ r _ _ _ h4 (fun _ => hS hk) h)
  | (i, 1) :: r, listed, a, w, hl, hS, h => by
    simp only [lexT, Bool.and_eq_true] at hl
    obtain ⟨⟨⟨h1, h2⟩, h3⟩, h4⟩ := hl
    obtain ⟨o, v, ho, hy, h⟩ := h
    exact anyT_takeY ho hs h2 h1 h3 (fun c a w => hQ c a _ _ w) hy hS
      (anyT_of_wpT hs hQ r _ _ _ h4 (fun h => hS (getD_set_open h)) h)
  | (i, 2) :: r, listed, a, w, hl, hS, h => by
    simp only [lexT, Bool.and_eq_true] at hl
    obtain ⟨⟨h1, h2⟩, h4⟩ := hl
    obtain ⟨o, ho, h⟩ := h
    have hk : (listed.setIfInBounds i true).getD k false = false := by simpa using h2
    refine anyT_one (by simpa using h1) ho (fun K hK => ?_)
    exact h K (fun a w hSw hW => hK a w (fun _ => hSw) (fun _ => anyT_of_wpT hs hQ r _ _ _ h4 (fun _ => hSw) (hW hSw)))
  | (i, n + 3) :: r, listed, a, w, hl, hS, h => by
    simp only [lexT, Bool.and_eq_true] at hl
    obtain ⟨⟨h1, h2⟩, h4⟩ := hl
    obtain ⟨o, ho, h⟩ := h
    have hk : ¬ (listed.setIfInBounds i true).getD k false = false := by simp [h2]
    refine anyT_one (by simpa using h1) ho (fun K hK => ?_)
    exact h K (fun a w hW => hK a w (fun h => absurd h hk) (fun _ => anyT_of_wpT hs hQ r _ _ _ h4 (fun h => absurd h hk) hW))
theorem region_L {id : Nat} {a : Act} {w : World} (S : World → Prop) (k : Nat) (r : List (Nat × Nat)) (hm : P.follows .mixedOrders = true) (hs : (Region.noSelect ops && (r.length == ops.size) && lexT .any ops k r (Array.replicate ops.size false)) = true)
    (hQ : ∀ c a t v w, Q (.panic c) (a.put t v) w → Q (.panic c) a w) (hS : S w.drew) (h : S w.drew → wpT P ops Q S r a w.drew) : (Code.region id ops true).wp P Q a w := by
  simp only [Bool.and_eq_true, beq_iff_eq] at hs
  obtain ⟨⟨h1, h2⟩, h3⟩ := hs
  refine region_T hm S k hS (fun hS => ?_)
  rw [← h2]
  have := anyT_of_wpT h1 hQ r _ a _ h3 (fun _ => hS) (h hS)
  rwa [h2] at this ⊢
/-- The same, where the list ends before the region does. -/
def lexU (md : Region.Mode) (ops : Array Oper) (k : Nat) (fin : Array Bool → Bool) : List (Nat × Nat) → Array Bool → Bool
  | [], listed => fin listed
  | (i, 0) :: r, listed => (Region.ready md ops listed).contains i && Region.free md ops listed i && (waitB md ops k i && !(listed.getD k false) && (i != k)) && lexU md ops k fin r (listed.setIfInBounds i true)
  | (i, 1) :: r, listed => (Region.ready md ops listed).contains i && Region.free md ops listed i && (i != k) && lexU md ops k fin r (listed.setIfInBounds i true)
  | (i, 2) :: r, listed => (Region.ready md ops listed == [i]) && !((listed.setIfInBounds i true).getD k false) && lexU md ops k fin r (listed.setIfInBounds i true)
  | (i, _) :: r, listed => (Region.ready md ops listed == [i]) && (listed.setIfInBounds i true).getD k false && lexU md ops k fin r (listed.setIfInBounds i true)
theorem anyT_of_wpU (hs : Region.noSelect ops = true) (hQ : ∀ c a t v w, Q (.panic c) (a.put t v) w → Q (.panic c) a w) {fin : Array Bool → Bool} {KF : Act → World → Prop} {fuel : Nat}
    (hend : ∀ listed a w, fin listed = true → (listed.getD k false = false → S w) → KF a w → AnyT P md ops Q S k fuel listed a w) :
    ∀ (r : List (Nat × Nat)) (listed : Array Bool) (a : Act) (w : World), lexU md ops k fin r listed = true → (listed.getD k false = false → S w) → wpT P ops (Exit.then KF Q) S r a w → AnyT P md ops Q S k (fuel + r.length) listed a w
  | [], listed, a, w, hl, hS, h => hend listed a w hl hS h
  | (i, 0) :: r, listed, a, w, hl, hS, h => by
    simp only [lexU, Bool.and_eq_true] at hl
    obtain ⟨⟨⟨h1, h2⟩, h3⟩, h4⟩ := hl
    obtain ⟨o, v, ho, hy, h⟩ := h
    have hk : listed.getD k false = false := by simpa using h3.1.2
    exact anyT_take ho hs h2 h1 (by simp only [Bool.and_eq_true]; exact h3) (fun c a w => hQ c a _ _ w) hy (hS hk)
      (anyT_of_wpU hs hQ hend r _ _ _ h4 (fun _ => hS hk) h)
  | (i, 1) :: r, listed, a, w, hl, hS, h => by
    simp only [lexU, Bool.and_eq_true] at hl
    obtain ⟨⟨⟨h1, h2⟩, h3⟩, h4⟩ := hl
    obtain ⟨o, v, ho, hy, h⟩ := h
    exact anyT_takeY ho hs h2 h1 h3 (fun c a w => hQ c a _ _ w) hy hS
      (anyT_of_wpU hs hQ hend r _ _ _ h4 (fun h => hS (getD_set_open h)) h)
  | (i, 2) :: r, listed, a, w, hl, hS, h => by
    simp only [lexU, Bool.and_eq_true] at hl
    obtain ⟨⟨h1, h2⟩, h4⟩ := hl
    obtain ⟨o, ho, h⟩ := h
    have hk : (listed.setIfInBounds i true).getD k false = false := by simpa using h2
    refine anyT_one (by simpa using h1) ho (fun K hK => ?_)
    exact h K (fun a w hSw hW => hK a w (fun _ => hSw) (fun _ => anyT_of_wpU hs hQ hend r _ _ _ h4 (fun _ => hSw) (hW hSw)))
  | (i, n + 3) :: r, listed, a, w, hl, hS, h => by
    simp only [lexU, Bool.and_eq_true] at hl
    obtain ⟨⟨h1, h2⟩, h4⟩ := hl
    obtain ⟨o, ho, h⟩ := h
    have hk : ¬ (listed.setIfInBounds i true).getD k false = false := by simp [h2]
    refine anyT_one (by simpa using h1) ho (fun K hK => ?_)
    exact h K (fun a w hW => hK a w (fun h => absurd h hk) (fun _ => anyT_of_wpU hs hQ hend r _ _ _ h4 (fun h => absurd h hk) hW))
/-- Where one of two comes up: each is walked along a list of its own. -/
def forkB (md : Region.Mode) (ops : Array Oper) (k : Nat) (i j : Nat) (r s : List (Nat × Nat)) (listed : Array Bool) : Bool :=
  (Region.ready md ops listed == [i, j]) && (i != j) && !((listed.setIfInBounds i true).getD k false) && !((listed.setIfInBounds j true).getD k false) && (s.length == r.length) && lexT md ops k r (listed.setIfInBounds i true) && lexT md ops k s (listed.setIfInBounds j true)
theorem any_fork (hs : Region.noSelect ops = true) (hQ : ∀ c a t v w, Q (.panic c) (a.put t v) w → Q (.panic c) a w) {i j : Nat} {r s : List (Nat × Nat)} {listed : Array Bool} {a : Act} {w : World}
    (hl : forkB md ops k i j r s listed = true) (h : wpT P ops Q S ((i, 2) :: r) a w ∧ wpT P ops Q S ((j, 2) :: s) a w) : AnyT P md ops Q S k (r.length + 1) listed a w := by
  simp only [forkB, Bool.and_eq_true, beq_iff_eq] at hl
  obtain ⟨⟨⟨⟨⟨⟨h1, h2⟩, h3⟩, h4⟩, h5⟩, h6⟩, h7⟩ := hl
  have step : ∀ (q : Nat) (l : List (Nat × Nat)), l.length = r.length → lexT md ops k l (listed.setIfInBounds q true) = true → wpT P ops Q S ((q, 2) :: l) a w →
      wpOp P ops Q q (fun a' w' => ((listed.setIfInBounds q true).getD k false = false → S w') ∧ AnyT P md ops Q S k r.length (listed.setIfInBounds q true) a' w') a w := fun q l hlen hlx hw => by
    obtain ⟨o, ho, hw⟩ := hw
    refine wpOp_step ho (fun K hK => ?_)
    refine hw K (fun a' w' hS hW => hK a' w' ⟨fun _ => hS, ?_⟩)
    have := anyT_of_wpT hs hQ l _ a' w' hlx (fun _ => hS) (hW hS)
    rwa [hlen] at this
  refine ⟨fun h0 => (by rw [h1] at h0; cases h0), fun q hq => ?_⟩
  rw [h1] at hq
  simp only [List.mem_cons, List.not_mem_nil, or_false] at hq
  rcases hq with rfl | rfl
  · exact step _ r rfl h6 h.1
  · exact step _ s h5 h7 h.2
theorem region_F {id : Nat} {a : Act} {w : World} (S : World → Prop) (k : Nat) (pre : List (Nat × Nat)) (i j : Nat) (r s : List (Nat × Nat)) (hm : P.follows .mixedOrders = true) (hs : (Region.noSelect ops && (r.length + 1 + pre.length == ops.size) && lexU .any ops k (forkB .any ops k i j r s) pre (Array.replicate ops.size false)) = true)
    (hQ : ∀ c a t v w, Q (.panic c) (a.put t v) w → Q (.panic c) a w) (hS : S w.drew) (h : wpT P ops (Exit.then (fun a w => wpT P ops Q S ((i, 2) :: r) a w ∧ wpT P ops Q S ((j, 2) :: s) a w) Q) S pre a w.drew) : (Code.region id ops true).wp P Q a w := by
  simp only [Bool.and_eq_true, beq_iff_eq] at hs
  obtain ⟨⟨h1, h2⟩, h3⟩ := hs
  refine region_T hm S k hS (fun hS => ?_)
  rw [← h2]
  have := anyT_of_wpU (fuel := r.length + 1) h1 hQ (fun listed a w hl _ hh => any_fork h1 hQ hl hh) pre _ a _ h3 (fun _ => hS) h
  rwa [h2] at this ⊢
section
variable {i : Nat} {r : List (Nat × Nat)} {a : Act} {w : World} {o : Oper} {v : Value}
theorem t0 (ho : ops[i]? = some o) (hy : YieldsIf P ops S o v a) (h : wpT P ops Q S r (a.put o.dst v) w) : wpT P ops Q S ((i, 0) :: r) a w := ⟨o, v, ho, hy, h⟩
theorem t1 (ho : ops[i]? = some o) (hy : YieldsIf P ops (fun _ => True) o v a) (h : wpT P ops Q S r (a.put o.dst v) w) : wpT P ops Q S ((i, 1) :: r) a w := ⟨o, v, ho, hy, h⟩
/-- An operation that has no guard. -/
theorem yields {S : World → Prop} (hg : o.guard = none) (h : ∀ w, S w → (execOp a.eval o).run P w = .ok (.value v) w) : YieldsIf P ops S o v a := .inl ⟨by unfold Region.wanted; rw [hg], h⟩
theorem t2 (ho : ops[i]? = some o) (h : ∀ K : Act → World → Prop, Shut (∀ a w, S w → (S w → wpT P ops Q S r a w) → K a w) → if Region.wanted o (yielded ops a.tmps) = true then Oper.wp P o a w K Q else K (a.put o.dst undef) w) : wpT P ops Q S ((i, 2) :: r) a w := ⟨o, ho, h⟩
theorem t3 (ho : ops[i]? = some o) (h : ∀ K : Act → World → Prop, Shut (∀ a w, wpT P ops Q S r a w → K a w) → if Region.wanted o (yielded ops a.tmps) = true then Oper.wp P o a w K Q else K (a.put o.dst undef) w) : wpT P ops Q S ((i, 3) :: r) a w := ⟨o, ho, h⟩
theorem t_end (h : Q .normal a w) : wpT P ops Q S [] a w := h
end
end
end Go.Proofs.YtbemhgojfehnjaaDoor

namespace Go.Proofs.YtbemhgojfehnjaaDoor
open Go Go.RowKit

/-- The value that a list of slots gives. -/
def lk : List (Nat × Value) → Nat → Option Value
  | [], _ => none
  | (j, v) :: r, k => match Nat.beq j k with
    | true => some v
    | false => lk r k
/-- What is known of a frame. -/
structure Fm (n : Nat) (m : List (Nat × Value)) (a : Act) : Prop where
  size : a.tmps.size = n
  defers : a.defers = []
  has : ∀ k v, lk m k = some v → a.tmps[k]? = some v
def ev (m : List (Nat × Value)) : Operand → Option Value
  | .tmp t => lk m t
  | .const v => some v
  | .global g => some (.pointer (some ⟨g, 0, none⟩))
  | .func f => some (.func (.func f) #[] #[])
def evs (m : List (Nat × Value)) : List Operand → Option (List Value)
  | [] => some []
  | x :: l => match ev m x, evs m l with
    | some v, some r => some (v :: r)
    | _, _ => none
theorem Fm.ev {n : Nat} {m : List (Nat × Value)} {a : Act} (h : Fm n m a) {x : Operand} {v : Value} (hx : ev m x = some v) : a.eval x = v := by
  cases x with
  | tmp t =>
    have := h.has t v hx
    show a.tmps.getD t undef = v
    simp [Array.getD_eq_getD_getElem?, this]
  | const u => exact Option.some.inj hx
  | global g => exact Option.some.inj hx
  | func f => exact Option.some.inj hx
theorem Fm.evs {n : Nat} {m : List (Nat × Value)} {a : Act} (h : Fm n m a) : ∀ {l : List Operand} {vs : List Value}, evs m l = some vs → l.map a.eval = vs
  | [], vs, hx => by simp only [YtbemhgojfehnjaaDoor.evs, Option.some.injEq] at hx; subst hx; rfl
  | x :: l, vs, hx => by
    simp only [YtbemhgojfehnjaaDoor.evs] at hx
    split at hx
    · rename_i v r hv hr
      injection hx with hx
      subst hx
      simp only [List.map_cons, h.ev hv, h.evs hr]
    · cases hx
theorem Fm.put {n : Nat} {m : List (Nat × Value)} {a : Act} (h : Fm n m a) {d : Nat} (hd : d < n) (v : Value) : Fm n ((d, v) :: m) (a.put (some d) v) := by
  refine ⟨by simp [Act.put, h.size], h.defers, ?_⟩
  intro k u hk
  simp only [lk] at hk
  by_cases e : d = k
  · subst e
    simp only [show Nat.beq d d = true from Nat.beq_refl d] at hk
    injection hk with hk
    subst hk
    simp [Act.put, h.size, hd]
  · rw [show Nat.beq d k = false from Bool.eq_false_iff.2 (fun h => e (Nat.eq_of_beq_eq_true h))] at hk
    have := h.has k u hk
    simp [Act.put, e, this]
/-- A frame of which less is told. -/
def Sub : List (Nat × Value) → List (Nat × Value) → Prop
  | [], _ => True
  | (k, v) :: r, m => lk m k = some v ∧ Sub r m
theorem Sub.lk : ∀ {r m : List (Nat × Value)}, Sub r m → ∀ k v, lk r k = some v → lk m k = some v
  | [], _, _, _, _, h => by cases h
  | (j, u) :: r, m, hs, k, v, h => by
    simp only [YtbemhgojfehnjaaDoor.lk] at h
    split at h
    · rename_i e
      have : j = k := Nat.eq_of_beq_eq_true e
      subst this
      injection h with h
      subst h
      exact hs.1
    · exact Sub.lk hs.2 k v h
theorem Fm.sub {n : Nat} {m r : List (Nat × Value)} {a : Act} (h : Fm n m a) (hs : Sub r m) : Fm n r a := ⟨h.size, h.defers, fun k v hk => h.has k v (hs.lk k v hk)⟩
/-- A value as a guard reads it. -/
def yv : Value → Option Bool
  | .bool b => some b
  | _ => none
/-- Whether an operation with this guard is carried out. -/
def wantedM (ops : Array Oper) (m : List (Nat × Value)) : Option (Nat × Bool) → Option Bool
  | none => some true
  | some (j, want) => match (ops[j]?).bind (·.dst) with
    | none => some false
    | some d => match lk m d with
      | some v => some (yv v == some want)
      | none => none
theorem Fm.wanted {n : Nat} {m : List (Nat × Value)} {a : Act} (h : Fm n m a) {ops : Array Oper} {o : Oper} {b : Bool} (hw : wantedM ops m o.guard = some b) : Region.wanted o (yielded ops a.tmps) = b := by
  unfold wantedM at hw
  unfold Region.wanted
  split at hw
  · rename_i hg
    rw [hg]
    exact Option.some.inj hw
  · rename_i j want hg
    rw [hg]
    simp only
    unfold yielded
    split at hw
    · rename_i hd
      rw [hd]
      injection hw
    · rename_i d hd
      rw [hd]
      split at hw
      · rename_i v hl
        have := h.has d _ hl
        injection hw with hw
        subst hw
        simp only [Option.bind_some, this]
        cases v <;> rfl
      · cases hw
section
variable {P : Program}

/-- The walk along a region's operations, from whatever frame that m tells of. -/
def wl (P : Program) (ops : Array Oper) (Q : Exit → Act → World → Prop) (l : List Oper) (n : Nat) (m : List (Nat × Value)) (w : World) : Prop := ∀ a, Fm n m a → wpList P ops Q l a w
/-- A piece of code, likewise. -/
def cw (P : Program) (c : Code) (Q : Exit → Act → World → Prop) (n : Nat) (m : List (Nat × Value)) (w : World) : Prop := ∀ a, Fm n m a → c.wp P Q a w
/-- An exit, likewise. -/
def xw (Q : Exit → Act → World → Prop) (e : Exit) (n : Nat) (m : List (Nat × Value)) (w : World) : Prop := ∀ a, Fm n m a → Q e a w
/-- What reads as m says. -/
def Reads (m : List (Nat × Value)) (ρ : Operand → Value) : Prop := ∀ x v, ev m x = some v → ρ x = v
section
variable {ops : Array Oper} {Q : Exit → Act → World → Prop} {rest : List Oper} {n : Nat} {m : List (Nat × Value)} {w w' : World} {d : Nat} {op : Op} {t : TypeId} {pos : String} {aft : Array Edge} {gd : Option (Nat × Bool)} {v : Value}
theorem Fm.reads {a : Act} (h : Fm n m a) : Reads m a.eval := fun _ _ hx => h.ev hx
theorem wl_val (hr : ∀ ρ, Reads m ρ → (execOp ρ ⟨some d, op, t, pos, aft, gd⟩).run P w = .ok (.value v) w') (hg : wantedM ops m gd = some true) (hd : Nat.blt d n = true) (h : wl P ops Q rest n ((d, v) :: m) w') :
    wl P ops Q (⟨some d, op, t, pos, aft, gd⟩ :: rest) n m w := fun a ha => by
  unfold wpList
  rw [if_pos (ha.wanted hg)]
  left
  unfold Oper.wp
  rw [hr _ ha.reads]
  exact h _ (ha.put (by simpa [Nat.blt_eq] using hd) v)
theorem wl_skip (hg : wantedM ops m gd = some false) (hd : Nat.blt d n = true) (h : wl P ops Q rest n ((d, undef) :: m) w) : wl P ops Q (⟨some d, op, t, pos, aft, gd⟩ :: rest) n m w := fun a ha => by
  unfold wpList
  rw [if_neg (by rw [ha.wanted hg]; simp)]
  exact h _ (ha.put (by simpa [Nat.blt_eq] using hd) _)
theorem wl_skip0 (hg : wantedM ops m gd = some false) (h : wl P ops Q rest n m w) : wl P ops Q (⟨none, op, t, pos, aft, gd⟩ :: rest) n m w := fun a ha => by
  unfold wpList
  rw [if_neg (by rw [ha.wanted hg]; simp)]
  exact h _ ha
theorem wl_none (hr : ∀ ρ, Reads m ρ → (execOp ρ ⟨none, op, t, pos, aft, gd⟩).run P w = .ok .skip w') (hg : wantedM ops m gd = some true) (h : wl P ops Q rest n m w') :
    wl P ops Q (⟨none, op, t, pos, aft, gd⟩ :: rest) n m w := fun a ha => by
  unfold wpList
  rw [if_pos (ha.wanted hg)]
  left
  unfold Oper.wp
  rw [hr _ ha.reads]
  exact h _ ha
/-- A call of f enters f's text. -/
def Enters (P : Program) (f : FuncId) : Prop := ∀ args w, (callFunc f args).run P w = .ok (.enter f args) w
theorem enters_of {f : FuncId} {fn : Func} {c : Code} (hf : P.funcs[f]? = some fn) (hname : (fn.name == "runtime.NumGoroutine") = false) (hb : fn.body = some c) : Enters P f := fun args w => by
  have h1 : fn.name ≠ "runtime.NumGoroutine" := by simpa using hname
  simp [callFunc, hf, h1, hb]
theorem exec_call {ρ : Operand → Value} {d : Option Tmp} {f : FuncId} {xs : Array Operand} {ts : Array TypeId} {args : Array Value} (he : Enters P f) (hf : ρ (.func f) = .func (.func f) #[] #[]) (h : xs.map ρ = args) : (execOp ρ ⟨d, .call ⟨.value (.func f), xs, ts⟩, t, pos, aft, gd⟩).run P w = .ok (.enter f args) w := by
  subst h
  simp [go_sem, hf, he _ _]
theorem wl_call {f : FuncId} {xs : List Operand} {ts : Array TypeId} {args : List Value} (he : Enters P f) (hargs : evs m xs = some args) (hg : wantedM ops m gd = some true) (hd : Nat.blt d n = true)
    (h : Calls P f args.toArray w fun e w' => ∃ v, e = .returned v ∧ wl P ops Q rest n ((d, v) :: m) w') :
    wl P ops Q (⟨some d, .call ⟨.value (.func f), xs.toArray, ts⟩, t, pos, aft, gd⟩ :: rest) n m w := fun a ha => by
  unfold wpList
  rw [if_pos (ha.wanted hg)]
  left
  unfold Oper.wp
  rw [exec_call he rfl (args := args.toArray) (by rw [List.map_toArray, ha.evs hargs])]
  refine h.mono ?_
  rintro e w' ⟨v, rfl, hh⟩
  exact hh _ (ha.put (by simpa [Nat.blt_eq] using hd) v)
theorem wl_nil (h : xw Q .normal n m w) : wl P ops Q [] n m w := fun a ha => h a ha
/-- A region in the order of the text. -/
theorem cw_region {id : Nat} {l : List Oper} (h : wl P l.toArray Q l n m w) : cw P (.region id l.toArray false) Q n m w := fun a ha => wp_region_lit (h a ha)
theorem cw_seq {x y : Code} (h : ∀ K : Act → World → Prop, Shut (∀ n m w, cw P y Q n m w → ∀ a, Fm n m a → K a w) → cw P x (Exit.then K Q) n m w) : cw P (.seq x y) Q n m w := fun a ha =>
  wp_seq_k (fun K hK => h K (fun _ _ _ hy a ha => hK _ _ (hy a ha)) a ha)
theorem xw_next {K : Act → World → Prop} {y : Code} (hK : Shut (∀ n m w, cw P y Q n m w → ∀ a, Fm n m a → K a w)) (h : cw P y Q n m w) : xw (Exit.then K Q) .normal n m w := fun a ha => hK.out _ _ _ h a ha
/-- An exit that is not the normal one goes by what comes next. -/
theorem xw_past {K : Act → World → Prop} {e : Exit} (he : e ≠ .normal) (h : xw Q e n m w) : xw (Exit.then K Q) e n m w := fun a ha => by
  cases e <;> first | exact absurd rfl he | exact h a ha
theorem cw_true {c : Operand} {x y : Code} (hc : ev m c = some (.bool true)) (h : cw P x Q n m w) : cw P (.cond c x y) Q n m w := fun a ha => wp_cond_true (ha.ev hc) (h a ha)
theorem cw_false {c : Operand} {x y : Code} (hc : ev m c = some (.bool false)) (h : cw P y Q n m w) : cw P (.cond c x y) Q n m w := fun a ha => wp_cond_false (ha.ev hc) (h a ha)
theorem cw_cond {c : Operand} {x y : Code} {b : Bool} (hc : ev m c = some (.bool b)) (h1 : b = true → cw P x Q n m w) (h2 : b = false → cw P y Q n m w) : cw P (.cond c x y) Q n m w := fun a ha => wp_cond_split (ha.ev hc) (fun h => h1 h a ha) (fun h => h2 h a ha)
theorem cw_skip (h : xw Q .normal n m w) : cw P .skip Q n m w := fun a ha => wp_skip (h a ha)
theorem cw_exit {id : Nat} (h : xw Q (.exit id) n m w) : cw P (.exit id) Q n m w := fun a ha => wp_exit (h a ha)
theorem cw_ret (h : xw Q .ret n m w) : cw P .ret Q n m w := fun a ha => wp_ret (h a ha)
theorem cw_block {id : Nat} {c : Code} (h : cw P c (Exit.inBlock id Q) n m w) : cw P (.block id c) Q n m w := fun a ha => wp_block (h a ha)
theorem xw_block {id : Nat} (h : xw Q .normal n m w) : xw (Exit.inBlock id Q) .normal n m w := fun a ha => h a ha
theorem xw_here {id : Nat} (h : xw Q .normal n m w) : xw (Exit.inBlock id Q) (.exit id) n m w := fun a ha => by
  show (if id = id then _ else _)
  rw [if_pos rfl]
  exact h a ha
theorem xw_other {id i : Nat} (hne : Nat.beq i id = false) (h : xw Q (.exit i) n m w) : xw (Exit.inBlock id Q) (.exit i) n m w := fun a ha => by
  show (if i = id then _ else _)
  rw [if_neg (by intro e; rw [e, Nat.beq_refl] at hne; cases hne)]
  exact h a ha
theorem xw_blockret {id : Nat} (h : xw Q .ret n m w) : xw (Exit.inBlock id Q) .ret n m w := fun a ha => h a ha
/-- Less told of the frame. -/
theorem cw_sub {c : Code} {r : List (Nat × Value)} (hs : Sub r m) (h : cw P c Q n r w) : cw P c Q n m w := fun a ha => h a (ha.sub hs)
theorem xw_sub {e : Exit} {r : List (Nat × Value)} (hs : Sub r m) (h : xw Q e n r w) : xw Q e n m w := fun a ha => h a (ha.sub hs)
theorem least {p : Nat → Prop} (h : ∃ k, p k) : ∃ k, p k ∧ ∀ j, p j → k ≤ j := by
  obtain ⟨k, hk⟩ := h
  induction k using Nat.strongRecOn with
  | _ k ih =>
    by_cases he : ∃ j, j < k ∧ p j
    · obtain ⟨j, h1, h2⟩ := he
      exact ih j h1 h2
    · exact ⟨k, hk, fun j hj => Nat.le_of_not_lt (fun h => he ⟨j, h, hj⟩)⟩
/-- A loop: at its head the frame reads as M i and J i holds, for some i; μ falls from round to round. -/
theorem cw_loop {c : Code} {ι : Type} (M : ι → List (Nat × Value)) (J : ι → World → Prop) (μ : ι → Nat) (i0 : ι) (h0 : J i0 w) (hs : Sub (M i0) m)
    (round : ∀ i w, J i w → ∀ K : Act → World → Prop, Shut (∀ j m' w', μ j < μ i → J j w' → Sub (M j) m' → ∀ a, Fm n m' a → K a w') → cw P c (Exit.then K Q) n (M i) w) : cw P (.loop c) Q n m w := fun a ha => by
  classical
  let p : Act → World → Nat → Prop := fun a w k => ∃ i, μ i = k ∧ Fm n (M i) a ∧ J i w
  refine wp_loop (fun a w => ∃ k, p a w k) (fun a w => if h : ∃ k, p a w k then Classical.choose (least h) else 0) ⟨_, i0, rfl, ha.sub hs, h0⟩ ?_
  intro a w hI
  have hspec := Classical.choose_spec (least hI)
  obtain ⟨⟨i, hi, hfr, hJ⟩, hmin⟩ := hspec
  refine round i w hJ _ ?_ a hfr
  intro j m' w' hlt hJ' hs' a' ha'
  have hI' : ∃ k, p a' w' k := ⟨_, j, rfl, ha'.sub hs', hJ'⟩
  refine ⟨hI', ?_⟩
  simp only [dif_pos hI, dif_pos hI']
  have := (Classical.choose_spec (least hI')).2 (μ j) ⟨j, rfl, ha'.sub hs', hJ'⟩
  omega
theorem xw_round {ι : Type} {M : ι → List (Nat × Value)} {J : ι → World → Prop} {μ : ι → Nat} {i : ι} {K : Act → World → Prop} (hK : Shut (∀ j m' w', μ j < μ i → J j w' → Sub (M j) m' → ∀ a, Fm n m' a → K a w')) (j : ι) (hlt : μ j < μ i) (hJ : J j w) (hs : Sub (M j) m) : xw (Exit.then K Q) .normal n m w := fun a ha => hK.out j m w hlt hJ hs a ha
end
end
end Go.Proofs.YtbemhgojfehnjaaDoor

namespace Go.Proofs.YtbemhgojfehnjaaDoor
open Go
section
variable {P : Program} {ops : Array Oper} {C : World → Prop} {Q : Act → Prop} {a : Act} {o : Oper} {rest : List Oper}
theorem region_C {id : Nat} {Q : Exit → Act → World → Prop} {w : World} {l : List Oper} (C : World → Prop) (hm : P.follows .mixedOrders = true) (hB : Region.lexB .any l.toArray = true) (hC : C w.drew)
    (h : wpQuiet P l.toArray C (fun a' => ∀ w', C w' → Q .normal a' w') l a) : (Code.region id l.toArray true).wp P Q a w :=
  wp_region_quiet (C := C) hm hB hC (by simpa using h)
theorem q_skip (hw : Region.wanted o (yielded ops a.tmps) = false) (h : wpQuiet P ops C Q rest (a.put o.dst undef)) : wpQuiet P ops C Q (o :: rest) a := BigFrame.wpQuiet_skip hw h
theorem q_move (x : Operand) (hop : o.op = .move x) (hw : Region.wanted o (yielded ops a.tmps) = true) (h : wpQuiet P ops C Q rest (a.put o.dst (a.eval x))) : wpQuiet P ops C Q (o :: rest) a :=
  BigFrame.wpQuiet_want hw fun _ hK => BigFrame.quiet_move x hop (hK _ h)
theorem q_assign (x : Operand) (hop : o.op = .assign x) (hw : Region.wanted o (yielded ops a.tmps) = true) (h : wpQuiet P ops C Q rest (a.put o.dst (a.eval x))) : wpQuiet P ops C Q (o :: rest) a :=
  BigFrame.wpQuiet_want hw fun _ hK => BigFrame.quiet_assign x hop (hK _ h)
/-- What is asked of an operation in each world of the class. -/
theorem q_step (v : Value) (hw : Region.wanted o (yielded ops a.tmps) = true) (hv : ∀ w, C w → o.quietAt P a C w v) (h : wpQuiet P ops C Q rest (a.put o.dst v)) : wpQuiet P ops C Q (o :: rest) a :=
  BigFrame.wpQuiet_want hw fun _ hK => ⟨v, hv, hK _ h⟩
theorem q_nil {Q : Exit → Act → World → Prop} (h : ∀ w', C w' → Q .normal a w') : wpQuiet P ops C (fun a' => ∀ w', C w' → Q .normal a' w') [] a := h
end
end Go.Proofs.YtbemhgojfehnjaaDoor

namespace Go.Proofs.YtbemhgojfehnjaaDoor
open Go Go.RowKit
section
variable {P : Program} {ops : Array Oper} {Q : Exit → Act → World → Prop} {S C : World → Prop} {r : List (Nat × Nat)} {rest : List Oper} {n : Nat} {m : List (Nat × Value)} {w w' : World} {i d : Nat} {op : Op} {t : TypeId} {pos : String} {aft : Array Edge} {gd : Option (Nat × Bool)} {v : Value}
/-- Along a list of a region that draws its order (RegL). -/
def wt (P : Program) (ops : Array Oper) (Q : Exit → Act → World → Prop) (S : World → Prop) (r : List (Nat × Nat)) (n : Nat) (m : List (Nat × Value)) (w : World) : Prop := ∀ a, Fm n m a → wpT P ops Q S r a w
theorem wt0 (ho : ops[i]? = some ⟨some d, op, t, pos, aft, gd⟩) (hr : ∀ ρ, Reads m ρ → ∀ W, S W → (execOp ρ ⟨some d, op, t, pos, aft, gd⟩).run P W = .ok (.value v) W) (hg : wantedM ops m gd = some true) (hd : Nat.blt d n = true)
    (h : wt P ops Q S r n ((d, v) :: m) w) : wt P ops Q S ((i, 0) :: r) n m w := fun a ha =>
  ⟨_, v, ho, .inl ⟨ha.wanted hg, hr _ ha.reads⟩, h _ (ha.put (by simpa [Nat.blt_eq] using hd) v)⟩
theorem wt1 (ho : ops[i]? = some ⟨some d, op, t, pos, aft, gd⟩) (hr : ∀ ρ, Reads m ρ → ∀ W, (execOp ρ ⟨some d, op, t, pos, aft, gd⟩).run P W = .ok (.value v) W) (hg : wantedM ops m gd = some true) (hd : Nat.blt d n = true)
    (h : wt P ops Q S r n ((d, v) :: m) w) : wt P ops Q S ((i, 1) :: r) n m w := fun a ha =>
  ⟨_, v, ho, .inl ⟨ha.wanted hg, fun W _ => hr _ ha.reads W⟩, h _ (ha.put (by simpa [Nat.blt_eq] using hd) v)⟩
theorem wt1_skip (ho : ops[i]? = some ⟨some d, op, t, pos, aft, gd⟩) (hg : wantedM ops m gd = some false) (hd : Nat.blt d n = true)
    (h : wt P ops Q S r n ((d, undef) :: m) w) : wt P ops Q S ((i, 1) :: r) n m w := fun a ha =>
  ⟨_, undef, ho, .inr ⟨ha.wanted hg, rfl⟩, h _ (ha.put (by simpa [Nat.blt_eq] using hd) undef)⟩
theorem wt0_skip (ho : ops[i]? = some ⟨some d, op, t, pos, aft, gd⟩) (hg : wantedM ops m gd = some false) (hd : Nat.blt d n = true)
    (h : wt P ops Q S r n ((d, undef) :: m) w) : wt P ops Q S ((i, 0) :: r) n m w := fun a ha =>
  ⟨_, undef, ho, .inr ⟨ha.wanted hg, rfl⟩, h _ (ha.put (by simpa [Nat.blt_eq] using hd) undef)⟩
theorem wt2 (ho : ops[i]? = some ⟨some d, op, t, pos, aft, gd⟩) (hr : ∀ ρ, Reads m ρ → (execOp ρ ⟨some d, op, t, pos, aft, gd⟩).run P w = .ok (.value v) w') (hg : wantedM ops m gd = some true) (hd : Nat.blt d n = true) (hS : S w')
    (h : wt P ops Q S r n ((d, v) :: m) w') : wt P ops Q S ((i, 2) :: r) n m w := fun a ha =>
  ⟨_, ho, fun K hK => by
    rw [if_pos (ha.wanted hg)]
    unfold Oper.wp
    rw [hr _ ha.reads]
    exact hK.out _ _ hS (fun _ => h _ (ha.put (by simpa [Nat.blt_eq] using hd) v))⟩
theorem wt2_none (ho : ops[i]? = some ⟨none, op, t, pos, aft, gd⟩) (hr : ∀ ρ, Reads m ρ → (execOp ρ ⟨none, op, t, pos, aft, gd⟩).run P w = .ok .skip w') (hg : wantedM ops m gd = some true) (hS : S w')
    (h : wt P ops Q S r n m w') : wt P ops Q S ((i, 2) :: r) n m w := fun a ha =>
  ⟨_, ho, fun K hK => by
    rw [if_pos (ha.wanted hg)]
    unfold Oper.wp
    rw [hr _ ha.reads]
    exact hK.out _ _ hS (fun _ => h _ ha)⟩
theorem wt2_new {T : TypeId} {cs : Array Value} (ho : ops[i]? = some ⟨some d, op, t, pos, aft, gd⟩) (hr : ∀ ρ, Reads m ρ → (execOp ρ ⟨some d, op, t, pos, aft, gd⟩).run P w = .ok (.value (.pointer (some ⟨w.heap.size, 0, none⟩))) (w.alloc (.cells cs T))) (hg : wantedM ops m gd = some true) (hd : Nat.blt d n = true)
    (h : ∀ g w', Below w.heap.size w w' → Blk w' g T cs → w.heap.size = g → w'.heap.size = g + 1 → S w' ∧ wt P ops Q S r n ((d, .pointer (some ⟨g, 0, none⟩)) :: m) w') : wt P ops Q S ((i, 2) :: r) n m w := fun a ha =>
  ⟨_, ho, fun K hK => by
    obtain ⟨h1, h2⟩ := h _ _ ((Below.refl _ _).alloc (Nat.le_refl _) _) (Blk.new _ _ _) rfl (by simp)
    rw [if_pos (ha.wanted hg)]
    unfold Oper.wp
    rw [hr _ ha.reads]
    exact hK.out _ _ h1 (fun _ => h2 _ (ha.put (by simpa [Nat.blt_eq] using hd) _))⟩
theorem wt2_call {f : FuncId} {xs : List Operand} {ts : Array TypeId} {args : List Value} (ho : ops[i]? = some ⟨some d, .call ⟨.value (.func f), xs.toArray, ts⟩, t, pos, aft, gd⟩) (he : Enters P f) (hargs : evs m xs = some args) (hg : wantedM ops m gd = some true) (hd : Nat.blt d n = true)
    (h : Calls P f args.toArray w fun e w' => ∃ v, e = .returned v ∧ S w' ∧ wt P ops Q S r n ((d, v) :: m) w') : wt P ops Q S ((i, 2) :: r) n m w := fun a ha =>
  ⟨_, ho, fun K hK => by
    rw [if_pos (ha.wanted hg)]
    unfold Oper.wp
    rw [exec_call he rfl (args := args.toArray) (by rw [List.map_toArray, ha.evs hargs])]
    refine h.mono ?_
    rintro e w' ⟨v, rfl, hS, hh⟩
    exact hK.out _ _ hS (fun _ => hh _ (ha.put (by simpa [Nat.blt_eq] using hd) v))⟩
theorem wt3 (ho : ops[i]? = some ⟨some d, op, t, pos, aft, gd⟩) (hr : ∀ ρ, Reads m ρ → (execOp ρ ⟨some d, op, t, pos, aft, gd⟩).run P w = .ok (.value v) w') (hg : wantedM ops m gd = some true) (hd : Nat.blt d n = true)
    (h : wt P ops Q S r n ((d, v) :: m) w') : wt P ops Q S ((i, 3) :: r) n m w := fun a ha =>
  ⟨_, ho, fun K hK => by
    rw [if_pos (ha.wanted hg)]
    unfold Oper.wp
    rw [hr _ ha.reads]
    exact hK.out _ _ (h _ (ha.put (by simpa [Nat.blt_eq] using hd) v))⟩
theorem wt3_none (ho : ops[i]? = some ⟨none, op, t, pos, aft, gd⟩) (hr : ∀ ρ, Reads m ρ → (execOp ρ ⟨none, op, t, pos, aft, gd⟩).run P w = .ok .skip w') (hg : wantedM ops m gd = some true)
    (h : wt P ops Q S r n m w') : wt P ops Q S ((i, 3) :: r) n m w := fun a ha =>
  ⟨_, ho, fun K hK => by
    rw [if_pos (ha.wanted hg)]
    unfold Oper.wp
    rw [hr _ ha.reads]
    exact hK.out _ _ (h _ ha)⟩
theorem wt3_call {f : FuncId} {xs : List Operand} {ts : Array TypeId} {args : List Value} (ho : ops[i]? = some ⟨some d, .call ⟨.value (.func f), xs.toArray, ts⟩, t, pos, aft, gd⟩) (he : Enters P f) (hargs : evs m xs = some args) (hg : wantedM ops m gd = some true) (hd : Nat.blt d n = true)
    (h : Calls P f args.toArray w fun e w' => ∃ v, e = .returned v ∧ wt P ops Q S r n ((d, v) :: m) w') : wt P ops Q S ((i, 3) :: r) n m w := fun a ha =>
  ⟨_, ho, fun K hK => by
    rw [if_pos (ha.wanted hg)]
    unfold Oper.wp
    rw [exec_call he rfl (args := args.toArray) (by rw [List.map_toArray, ha.evs hargs])]
    refine h.mono ?_
    rintro e w' ⟨v, rfl, hh⟩
    exact hK.out _ _ (hh _ (ha.put (by simpa [Nat.blt_eq] using hd) v))⟩
theorem wt_nil (h : xw Q .normal n m w) : wt P ops Q S [] n m w := fun a ha => h a ha
/-- What was written into the frame makes no difference to a panic. -/
def PQ (Q : Exit → Act → World → Prop) : Prop := ∀ c a t v w, Q (.panic c) (a.put t v) w → Q (.panic c) a w
theorem PQ.body {fn : Func} {R : Ending → World → Prop} : PQ (bodyPost P fn R) := fun _ _ t _ _ h => by cases t <;> exact h
theorem PQ.then_ {K : Act → World → Prop} (h : PQ Q) : PQ (Exit.then K Q) := fun c a t v w hh => h c a t v w hh
theorem PQ.block {id : Nat} (h : PQ Q) : PQ (Exit.inBlock id Q) := fun c a t v w hh => h c a t v w hh
theorem cw_drawn {id : Nat} {l : List Oper} (S : World → Prop) (k : Nat) (r : List (Nat × Nat)) (hm : P.follows .mixedOrders = true) (hs : (Region.noSelect l.toArray && (r.length == l.toArray.size) && lexT .any l.toArray k r (Array.replicate l.toArray.size false)) = true)
    (hQ : PQ Q) (hS : S w.drew) (h : wt P l.toArray Q S r n m w.drew) : cw P (.region id l.toArray true) Q n m w := fun a ha => region_L S k r hm hs hQ hS (fun _ => h a ha)

/-- Two of its operations may come up first: each way by itself. -/
theorem cw_fork {id : Nat} {l : List Oper} (S : World → Prop) (k : Nat) (pre : List (Nat × Nat)) (i j : Nat) (r s : List (Nat × Nat)) (hm : P.follows .mixedOrders = true) (hs : (Region.noSelect l.toArray && (r.length + 1 + pre.length == l.toArray.size) && lexU .any l.toArray k (forkB .any l.toArray k i j r s) pre (Array.replicate l.toArray.size false)) = true)
    (hQ : PQ Q) (hS : S w.drew) (h : wt P l.toArray (Exit.then (fun a w => wpT P l.toArray Q S ((i, 2) :: r) a w ∧ wpT P l.toArray Q S ((j, 2) :: s) a w) Q) S pre n m w.drew) : cw P (.region id l.toArray true) Q n m w := fun a ha => region_F S k pre i j r s hm hs hQ hS (h a ha)
theorem xw_fork {i j : Nat} {r s : List (Nat × Nat)} (h1 : wt P ops Q S ((i, 2) :: r) n m w) (h2 : wt P ops Q S ((j, 2) :: s) n m w) : xw (Exit.then (fun a w => wpT P ops Q S ((i, 2) :: r) a w ∧ wpT P ops Q S ((j, 2) :: s) a w) Q) .normal n m w := fun a ha => ⟨h1 a ha, h2 a ha⟩
/-- What follows, proved once for several ways. -/
theorem xw_rest {K : Act → World → Prop} {r : List (Nat × Value)} (h : ∀ a, Fm n r a → K a w) (hs : Sub r m) : xw (Exit.then K Q) .normal n m w := fun a ha => h a (ha.sub hs)
/-- Along the text of a region whose operations keep a class of worlds. -/
def wq (P : Program) (ops : Array Oper) (C : World → Prop) (Q : Exit → Act → World → Prop) (l : List Oper) (n : Nat) (m : List (Nat × Value)) : Prop := ∀ a, Fm n m a → wpQuiet P ops C (fun a' => ∀ w', C w' → Q .normal a' w') l a
theorem wq_val (hr : ∀ ρ, Reads m ρ → ∀ W, C W → (execOp ρ ⟨some d, op, t, pos, aft, gd⟩).run P W = .ok (.value v) W) (hg : wantedM ops m gd = some true) (hd : Nat.blt d n = true) (h : wq P ops C Q rest n ((d, v) :: m)) : wq P ops C Q (⟨some d, op, t, pos, aft, gd⟩ :: rest) n m := fun a ha =>
  q_step v (ha.wanted hg) (fun W hW => by unfold Oper.quietAt; rw [hr _ ha.reads W hW]; exact ⟨rfl, rfl⟩) (h _ (ha.put (by simpa [Nat.blt_eq] using hd) v))
theorem wq_skip (hg : wantedM ops m gd = some false) (hd : Nat.blt d n = true) (h : wq P ops C Q rest n ((d, undef) :: m)) : wq P ops C Q (⟨some d, op, t, pos, aft, gd⟩ :: rest) n m := fun a ha =>
  q_skip (ha.wanted hg) (h _ (ha.put (by simpa [Nat.blt_eq] using hd) undef))
theorem wq_call {f : FuncId} {xs : List Operand} {ts : Array TypeId} {args : List Value} (he : Enters P f) (hargs : evs m xs = some args) (hg : wantedM ops m gd = some true) (hd : Nat.blt d n = true)
    (hc : ∀ W, C W → Calls P f args.toArray W fun e w' => e = .returned v ∧ C w') (h : wq P ops C Q rest n ((d, v) :: m)) : wq P ops C Q (⟨some d, .call ⟨.value (.func f), xs.toArray, ts⟩, t, pos, aft, gd⟩ :: rest) n m := fun a ha =>
  q_step v (ha.wanted hg) (fun W hW => by
    unfold Oper.quietAt
    rw [exec_call he rfl (args := args.toArray) (by rw [List.map_toArray, ha.evs hargs])]
    exact ⟨rfl, hc W hW⟩) (h _ (ha.put (by simpa [Nat.blt_eq] using hd) v))
theorem wq_nil (h : ∀ w', C w' → xw Q .normal n m w') : wq P ops C Q [] n m := fun a ha w' hw => h w' hw a ha
theorem cw_quiet {id : Nat} {l : List Oper} (C : World → Prop) (hm : P.follows .mixedOrders = true) (hB : Region.lexB .any l.toArray = true) (hC : C w.drew) (h : wq P l.toArray C Q l n m) : cw P (.region id l.toArray true) Q n m w := fun a ha => region_C C hm hB hC (h a ha)

/-- The arguments, by slot. -/
def argSlots : Nat → List Value → List (Nat × Value)
  | _, [] => []
  | k, v :: l => (k, v) :: argSlots (k + 1) l
theorem argSlots_lk : ∀ (l : List Value) (k j : Nat) (v : Value), lk (argSlots k l) j = some v → k ≤ j ∧ l[j - k]? = some v
  | [], _, _, _, h => by cases h
  | u :: l, k, j, v, h => by
    simp only [argSlots, lk] at h
    split at h
    · rename_i e
      have : k = j := Nat.eq_of_beq_eq_true e
      subst this
      injection h with h
      subst h
      simp
    · obtain ⟨h1, h2⟩ := argSlots_lk l (k + 1) j v h
      refine ⟨by omega, ?_⟩
      have : j - k = (j - (k + 1)) + 1 := by omega
      rw [this, List.getElem?_cons_succ]
      exact h2
theorem sx_enter {f : FuncId} {fn : Func} {c : Code} {n : Nat} {args : List Value} {w : World} {R : Ending → World → Prop} (hf : P.funcs[f]? = some fn) (hb : fn.body = some c) (hn : fn.ntmps = n) (hle : args.length ≤ n)
    (h : cw P c (bodyPost P fn R) n (argSlots 0 args) w) : Calls P f args.toArray w R := by
  refine calls_of_wp hf hb (h _ ⟨?_, rfl, ?_⟩)
  · simp only [Array.size_append, List.size_toArray, Array.size_replicate, hn]
    omega
  · intro k v hk
    obtain ⟨_, h2⟩ := argSlots_lk _ _ _ _ hk
    have hlt : k < args.length := (List.getElem?_eq_some_iff.1 h2).1
    rw [Array.getElem?_append_left (by simpa using hlt)]
    simpa using h2
theorem xw_ret {fn : Func} {R : Ending → World → Prop} {w : World} (hr : ∀ T : Array Value, (∀ k v, lk m k = some v → T[k]? = some v) → (results fn T).run P w = .ok v w) (hR : R (.returned v) w) : xw (bodyPost P fn R) .ret n m w := fun _ ha =>
  bodyPost_ret (hr _ ha.has) ha.defers hR
theorem xw_end {fn : Func} {R : Ending → World → Prop} {w : World} (hr : ∀ T : Array Value, (∀ k v, lk m k = some v → T[k]? = some v) → (results fn T).run P w = .ok v w) (hR : R (.returned v) w) : xw (bodyPost P fn R) .normal n m w := fun _ ha =>
  bodyPost_end (hr _ ha.has) ha.defers hR
theorem res1 {fn : Func} {a : Nat} (h : fn.results = #[.tmp a]) (T : Array Value) (w : World) (h1 : T[a]? = some v) : (results fn T).run P w = .ok v w := by
  simp [results, h, Array.getD_eq_getD_getElem?, h1]
theorem res2 {fn : Func} {a b : Nat} {u : Value} (h : fn.results = #[.tmp a, .tmp b]) (T : Array Value) (w : World) (h1 : T[a]? = some v) (h2 : T[b]? = some u) : (results fn T).run P w = .ok (.tuple #[v, u]) w := by
  simp [results, h, Array.getD_eq_getD_getElem?, h1, h2]
theorem res3 {fn : Func} {a b c : Nat} {u x : Value} (h : fn.results = #[.tmp a, .tmp b, .tmp c]) (T : Array Value) (w : World) (h1 : T[a]? = some v) (h2 : T[b]? = some u) (h3 : T[c]? = some x) : (results fn T).run P w = .ok (.tuple #[v, u, x]) w := by
  simp [results, h, Array.getD_eq_getD_getElem?, h1, h2, h3]
end
end Go.Proofs.YtbemhgojfehnjaaDoor
namespace Go.Proofs.YtbemhgojfehnjaaDoor
open Go Go.RowKit

theorem step_append_cells (w0 : World) {ops : Array Oper} {o : Oper} {a : Act} {K : Act → World → Prop} {Q : Exit → Act → World → Prop} {E : Prop} (hgd : o.guard = none) (s x : Operand) (t e : TypeId) (size bytes : Nat) (z : Value)
    (ht : Tryd.prog.underlying t = some (.slice e)) (hinfo : (Tryd.prog.info? e).map (fun i => (i.zero, i.size, i.bytes)) = some (some z, size, bytes)) (hzs : z.cells.size = size) (hsz : 0 < size)
    (ho : o.op = .call { callee := .builtin .append, args := #[s, x], argTypes := #[t, t] }) (base : Nat) (v : Value) (n : Nat) (xs : List Value) (hs : a.eval s = v) (hown : w0.ownsRow base e size v n xs)
    (cells : List Value) (hl : cells.length = size) (h1 : ∀ u ∈ cells, u.oneCell' = true) (hx : a.eval x = .slice (some ⟨w0.heap.size, 0, none⟩) 1 1) (hlen : (n + 1) * bytes ≤ 140737488355328) (hn : n ≤ 1099511627776) (hbase : base ≤ w0.heap.size)
    (h : ∀ A c w', w'.ownsRow base e size (.slice A (n + 1) c) (n + 1) (xs ++ cells) → w0.grownBy w' v.ownBlock → K (a.put o.dst (.slice A (n + 1) c)) w') :
    if Region.wanted o (yielded ops a.tmps) = true then Oper.wp Tryd.prog o a (w0.alloc (.cells cells.toArray e)) K Q else E := by
  rw [if_pos (by simp [Region.wanted, hgd])]
  obtain ⟨i, hi, hz, hs', hb⟩ := info_parts hinfo
  obtain ⟨v', w', hrun, h2, h3, _⟩ := run_append_own (P := Tryd.prog) (w0.alloc (.cells cells.toArray e)) base t o.type e i _ size bytes ht hi hz hs' hb hzs hsz v n xs (hown.alloc _) ⟨w0.heap.size, 0, none⟩ 1 1 cells (by omega)
    (fun j u hu => by
      have hadd : (⟨w0.heap.size, 0, none⟩ : Addr).add j = ⟨w0.heap.size, j, none⟩ := by unfold Addr.add; split <;> simp_all
      rw [hadd, (Blk.new w0 e cells.toArray).cell j]
      simpa using hu)
    h1 (by unfold maxLen; omega) hlen (by simp; omega)
  obtain ⟨A, c, rfl⟩ := own_form h2
  unfold Oper.wp execOp
  simp only [ho, resolve, invoke, builtin, Sem.run_bind, Sem.run_pure, Result.andThen_ok, List.map_toArray, List.map_cons, List.map_nil, hs, hx, hrun]
  exact h A c w' h2 ⟨h3.os, h3.tape, h3.output, Nat.le_trans (by simp) h3.size, fun k hk hne => (h3.block k (by simp; omega) hne).trans (Below.heap_alloc _ _ _ hk)⟩

def OwnBools (w : World) (base : Nat) (v : Value) (l : List Bool) : Prop := w.ownsRow base 4 1 v l.length (l.map Value.bool)
theorem OwnBools.V {w : World} {base : Nat} {v : Value} {l : List Bool} (h : OwnBools w base v l) : BoolsV w w.heap.size v l := by
  obtain ⟨h1, h2⟩ := h
  rcases h2 with ⟨rfl, hn⟩ | ⟨g, cap, cur, rfl, _, hg, hnc, hcm, _, htake⟩
  · exact ⟨none, 0, by rw [hn], by omega, by unfold maxLen; omega, fun hp => by omega⟩
  · refine ⟨_, cap, rfl, hnc, hcm, fun _ => ⟨g, 0, (Array.getElem?_eq_some_iff.1 hg).1, rfl, fun i x hx => ?_⟩⟩
    show w.cell? _ = _
    rw [show 0 + i * 1 = i from by omega, cell_of_row w g i cur _ (0, 0) hg]
    have : cur.toList.take (l.length * 1) = l.map Value.bool := htake
    have hi : i < l.length := (List.getElem?_eq_some_iff.1 hx).1
    have h3 : (cur.toList.take (l.length * 1))[i]? = some (.bool x) := by rw [this, List.getElem?_map, hx]; rfl
    rw [List.getElem?_take_of_lt (by omega)] at h3
    simpa using h3
theorem OwnBools.nil (w : World) (base : Nat) : OwnBools w base (.slice none 0 0) [] := World.ownsRow_nil w base _ _
theorem OwnBools.snoc {w : World} {base : Nat} {v : Value} {l : List Bool} {y : Bool} (h : w.ownsRow base 4 1 v (l.length + 1) (l.map Value.bool ++ [.bool y])) : OwnBools w base v (l ++ [y]) := by
  unfold OwnBools
  rw [List.length_append, List.map_append]
  exact h
theorem info_bool' : (Tryd.prog.info? 4).map (fun i => (i.zero, i.size, i.bytes)) = some (some (.bool false), 1, 1) := by kernel_rfl
end Go.Proofs.YtbemhgojfehnjaaDoor
namespace Go.Proofs.YtbemhgojfehnjaaDoor
open Go Go.RowKit
/-- A call of f enters f's text. -/
def Ent (f : FuncId) : Prop := ∀ args w, (callFunc f args).run Tryd.prog w = .ok (.enter f args) w
theorem ent_of {f : FuncId} {fn : Func} {c : Code} (hf : Tryd.prog.funcs[f]? = some fn) (hname : (fn.name == "runtime.NumGoroutine") = false) (hb : fn.body = some c) : Ent f := fun args w => by
  have h1 : fn.name ≠ "runtime.NumGoroutine" := by simpa using hname
  simp [callFunc, hf, h1, hb]
section
variable {ρ : Operand → Value} {d : Option Tmp} {x y z : Operand} {t : TypeId} {pos : String} {aft : Array Edge} {gd : Option (Nat × Bool)} {w : World}
theorem ex_move {v : Value} (hx : ρ x = v) : (execOp ρ ⟨d, .move x, t, pos, aft, gd⟩).run Tryd.prog w = .ok (.value v) w := by
  simp [go_sem, hx]
theorem ex_assign {v : Value} (hx : ρ x = v) : (execOp ρ ⟨d, .assign x, t, pos, aft, gd⟩).run Tryd.prog w = .ok (.value v) w := by
  simp [go_sem, hx]
theorem ex_int {p : Addr} {v : Int} (hx : ρ x = .pointer (some p)) (h : w.cell? p = some (.int .i64 v)) : (execOp ρ ⟨d, .load 3 x, t, pos, aft, gd⟩).run Tryd.prog w = .ok (.value (.int .i64 v)) w := by
  simp [go_sem, hx, h]
theorem ex_bool {p : Addr} {v : Bool} (hx : ρ x = .pointer (some p)) (h : w.cell? p = some (.bool v)) : (execOp ρ ⟨d, .load 4 x, t, pos, aft, gd⟩).run Tryd.prog w = .ok (.value (.bool v)) w := by
  simp [go_sem, hx, h]
theorem ex_ints {p : Addr} {v : Value} (hx : ρ x = .pointer (some p)) (h : w.cell? p = some v) : (execOp ρ ⟨d, .load 36 x, t, pos, aft, gd⟩).run Tryd.prog w = .ok (.value v) w := by
  simp [go_sem, hx, h]
theorem ex_index {g o n c : Nat} {i : Int} (hx : ρ x = .slice (some ⟨g, o, none⟩) n c) (hy : ρ y = .int .i64 i) (h0 : 0 ≤ i) (h1 : i < n) : (execOp ρ ⟨d, .indexAddr 36 x y, t, pos, aft, gd⟩).run Tryd.prog w = .ok (.value (.pointer (some ⟨g, o + i.toNat, none⟩))) w := by
  simp [go_sem, hx, hy, h0, h1]
theorem ex_index0 {g n c : Nat} {i : Nat} (hx : ρ x = .slice (some ⟨g, 0, none⟩) n c) (hy : ρ y = .int .i64 (i : Int)) (h1 : i < n) : (execOp ρ ⟨d, .indexAddr 36 x y, t, pos, aft, gd⟩).run Tryd.prog w = .ok (.value (.pointer (some ⟨g, i, none⟩))) w := by
  rw [ex_index hx hy (by omega) (by omega)]; simp
theorem ex_neg {v : Int} (hx : ρ x = .int .i64 v) (h : IntKind.i64.wrap (-v) = -v) : (execOp ρ ⟨d, .unOp .neg 3 x, t, pos, aft, gd⟩).run Tryd.prog w = .ok (.value (.int .i64 (-v))) w := by
  simp [go_sem, hx, h]
theorem ex_not {b : Bool} (hx : ρ x = .bool b) : (execOp ρ ⟨d, .unOp .not 4 x, t, pos, aft, gd⟩).run Tryd.prog w = .ok (.value (.bool (!b))) w := by
  simp [go_sem, hx]
theorem ex_eqb {b b' : Bool} (hx : ρ x = .bool b) (hy : ρ y = .bool b') : (execOp ρ ⟨d, .binOp .eql 4 x y 4, t, pos, aft, gd⟩).run Tryd.prog w = .ok (.value (.bool (b == b'))) w := by
  simp [go_sem, hx, hy]
theorem ex_neb {b b' : Bool} (hx : ρ x = .bool b) (hy : ρ y = .bool b') : (execOp ρ ⟨d, .binOp .neq 4 x y 4, t, pos, aft, gd⟩).run Tryd.prog w = .ok (.value (.bool (b != b'))) w := by
  cases b <;> cases b' <;> simp [go_sem, hx, hy]
theorem ex_kind {g o : Nat} (hx : ρ x = .pointer (some ⟨g, o, none⟩)) : (execOp ρ ⟨d, .fieldAddr 38 x 0, t, pos, aft, gd⟩).run Tryd.prog w = .ok (.value (.pointer (some ⟨g, o, none⟩))) w := by
  simp [go_sem, hx]
theorem ex_lit {g o : Nat} (hx : ρ x = .pointer (some ⟨g, o, none⟩)) : (execOp ρ ⟨d, .fieldAddr 38 x 1, t, pos, aft, gd⟩).run Tryd.prog w = .ok (.value (.pointer (some ⟨g, o + 1, none⟩))) w := by
  simp [go_sem, hx]
theorem ex_extract {vs : Array Value} {v : Value} {i : Nat} (hx : ρ x = .tuple vs) (hi : vs[i]? = some v) : (execOp ρ ⟨d, .extract x i, t, pos, aft, gd⟩).run Tryd.prog w = .ok (.value v) w := by
  simp [go_sem, hx, hi]
theorem ex_build1 {v0 : Int} (hx : ρ x = .int .i64 v0) : (execOp ρ ⟨d, .buildSlice 36 1 #[(0, x)], t, pos, aft, gd⟩).run Tryd.prog w = .ok (.value (.slice (some ⟨w.heap.size, 0, none⟩) 1 1)) (w.alloc (.cells (intCells [v0]) 3)) := by
  simp [go_sem, hx, intCells]
theorem ex_build2 {v0 v1 : Int} (hx : ρ x = .int .i64 v0) (hy : ρ y = .int .i64 v1) : (execOp ρ ⟨d, .buildSlice 36 2 #[(0, x), (1, y)], t, pos, aft, gd⟩).run Tryd.prog w = .ok (.value (.slice (some ⟨w.heap.size, 0, none⟩) 2 2)) (w.alloc (.cells (intCells [v0, v1]) 3)) := by
  simp [go_sem, hx, hy, intCells]
theorem ex_build3 {v0 v1 v2 : Int} (hx : ρ x = .int .i64 v0) (hy : ρ y = .int .i64 v1) (hz : ρ z = .int .i64 v2) : (execOp ρ ⟨d, .buildSlice 36 3 #[(0, x), (1, y), (2, z)], t, pos, aft, gd⟩).run Tryd.prog w = .ok (.value (.slice (some ⟨w.heap.size, 0, none⟩) 3 3)) (w.alloc (.cells (intCells [v0, v1, v2]) 3)) := by
  simp [go_sem, hx, hy, hz, intCells]
theorem ex_call {f : FuncId} {xs : Array Operand} {ts : Array TypeId} {args : Array Value} (he : Ent f) (hf : ρ (.func f) = .func (.func f) #[] #[]) (h : xs.map ρ = args) : (execOp ρ ⟨d, .call ⟨.value (.func f), xs, ts⟩, t, pos, aft, gd⟩).run Tryd.prog w = .ok (.enter f args) w := by
  subst h
  simp [go_sem, hf, he _ _]
end
section
variable {ops : Array Oper} {Q : Exit → Act → World → Prop} {S : World → Prop} {i : Nat} {r : List (Nat × Nat)} {a : Act} {w w' : World} {d : Option Tmp} {op : Op} {t : TypeId} {pos : String} {aft : Array Edge} {v : Value}
/-- An operation that may make memory, and yields. -/
theorem t2_val (ho : ops[i]? = some ⟨d, op, t, pos, aft, none⟩) (hr : (execOp a.eval ⟨d, op, t, pos, aft, none⟩).run Tryd.prog w = .ok (.value v) w') (hS : S w') (h : wpT Tryd.prog ops Q S r (a.put d v) w') : wpT Tryd.prog ops Q S ((i, 2) :: r) a w :=
  t2 ho (fun K hK => by
    rw [if_pos (by simp [Region.wanted])]
    unfold Oper.wp
    rw [hr]
    exact hK.out _ _ hS (fun _ => h))
theorem t2_calls {f : FuncId} {xs : Array Operand} {ts : Array TypeId} {args : Array Value} (ho : ops[i]? = some ⟨d, .call ⟨.value (.func f), xs, ts⟩, t, pos, aft, none⟩) (he : Ent f) (hargs : xs.map a.eval = args)
    (h : Calls Tryd.prog f args w fun e w' => ∃ v, e = .returned v ∧ S w' ∧ wpT Tryd.prog ops Q S r (a.put d v) w') : wpT Tryd.prog ops Q S ((i, 2) :: r) a w :=
  t2 ho (fun K hK => by
    rw [if_pos (by simp [Region.wanted])]
    unfold Oper.wp
    rw [ex_call he rfl hargs]
    refine h.mono ?_
    rintro e w' ⟨v, rfl, hS, hh⟩
    exact hK.out _ _ hS (fun _ => hh))
theorem t2_call2 {f : FuncId} {x y : Operand} {u v : Value} {ts : Array TypeId} (ho : ops[i]? = some ⟨d, .call ⟨.value (.func f), #[x, y], ts⟩, t, pos, aft, none⟩) (he : Ent f) (hx : a.eval x = u) (hy : a.eval y = v)
    (h : Calls Tryd.prog f #[u, v] w fun e w' => ∃ v, e = .returned v ∧ S w' ∧ wpT Tryd.prog ops Q S r (a.put d v) w') : wpT Tryd.prog ops Q S ((i, 2) :: r) a w := t2_calls ho he (by simp [hx, hy]) h
theorem t2_call3 {f : FuncId} {x y z : Operand} {u v p : Value} {ts : Array TypeId} (ho : ops[i]? = some ⟨d, .call ⟨.value (.func f), #[x, y, z], ts⟩, t, pos, aft, none⟩) (he : Ent f) (hx : a.eval x = u) (hy : a.eval y = v) (hz : a.eval z = p)
    (h : Calls Tryd.prog f #[u, v, p] w fun e w' => ∃ v, e = .returned v ∧ S w' ∧ wpT Tryd.prog ops Q S r (a.put d v) w') : wpT Tryd.prog ops Q S ((i, 2) :: r) a w := t2_calls ho he (by simp [hx, hy, hz]) h
theorem t2_call4 {f : FuncId} {x y z x4 : Operand} {u v p p4 : Value} {ts : Array TypeId} (ho : ops[i]? = some ⟨d, .call ⟨.value (.func f), #[x, y, z, x4], ts⟩, t, pos, aft, none⟩) (he : Ent f) (hx : a.eval x = u) (hy : a.eval y = v) (hz : a.eval z = p) (h4 : a.eval x4 = p4)
    (h : Calls Tryd.prog f #[u, v, p, p4] w fun e w' => ∃ v, e = .returned v ∧ S w' ∧ wpT Tryd.prog ops Q S r (a.put d v) w') : wpT Tryd.prog ops Q S ((i, 2) :: r) a w := t2_calls ho he (by simp [hx, hy, hz, h4]) h
/-- A store, or what comes behind it. -/
theorem t3_skip (ho : ops[i]? = some ⟨none, op, t, pos, aft, none⟩) (hr : (execOp a.eval ⟨none, op, t, pos, aft, none⟩).run Tryd.prog w = .ok .skip w') (h : wpT Tryd.prog ops Q S r a w') : wpT Tryd.prog ops Q S ((i, 3) :: r) a w :=
  t3 ho (fun K hK => by
    rw [if_pos (by simp [Region.wanted])]
    unfold Oper.wp
    rw [hr]
    exact hK.out _ _ h)
theorem t3_val (ho : ops[i]? = some ⟨d, op, t, pos, aft, none⟩) (hr : (execOp a.eval ⟨d, op, t, pos, aft, none⟩).run Tryd.prog w = .ok (.value v) w') (h : wpT Tryd.prog ops Q S r (a.put d v) w') : wpT Tryd.prog ops Q S ((i, 3) :: r) a w :=
  t3 ho (fun K hK => by
    rw [if_pos (by simp [Region.wanted])]
    unfold Oper.wp
    rw [hr]
    exact hK.out _ _ h)
end
end Go.Proofs.YtbemhgojfehnjaaDoor

namespace Go.Proofs.YtbemhgojfehnjaaDoor
open Go Go.RowKit
section
variable {ρ : Operand → Value} {d : Option Tmp} {x y z : Operand} {t : TypeId} {pos : String} {aft : Array Edge} {gd : Option (Nat × Bool)} {w : World}
theorem ex_circ {g o : Nat} {v0 v1 : Value} (hx : ρ x = .pointer (some ⟨g, o, none⟩)) (h0 : w.cell? ⟨g, o, none⟩ = some v0) (h1 : w.cell? ⟨g, o + 1, none⟩ = some v1) : (execOp ρ ⟨d, .load 24 x, t, pos, aft, gd⟩).run Tryd.prog w = .ok (.value (.agg #[v0, v1])) w := by
  simp [go_sem, hx, h0, h1]
theorem ex_set {g o : Nat} {v0 v1 : Value} (hx : ρ x = .pointer (some ⟨g, o, none⟩)) (h0 : w.cell? ⟨g, o, none⟩ = some v0) (h1 : w.cell? ⟨g, o + 1, none⟩ = some v1) : (execOp ρ ⟨d, .load 27 x, t, pos, aft, gd⟩).run Tryd.prog w = .ok (.value (.agg #[v0, v1])) w := by
  simp [go_sem, hx, h0, h1]
theorem ex_pick {b : Bool} {u v : Value} (hx : ρ x = .bool b) (hy : ρ y = u) (hz : ρ z = v) : (execOp ρ ⟨d, .pick x y z, t, pos, aft, gd⟩).run Tryd.prog w = .ok (.value (if b then u else v)) w := by
  cases b <;> simp [go_sem, hx, hy, hz]
theorem ex_pick1 {u : Value} (hx : ρ x = .bool true) (hy : ρ y = u) : (execOp ρ ⟨d, .pick x y z, t, pos, aft, gd⟩).run Tryd.prog w = .ok (.value u) w := by
  simp [go_sem, hx, hy]
theorem ex_pick0 {v : Value} (hx : ρ x = .bool false) (hz : ρ z = v) : (execOp ρ ⟨d, .pick x y z, t, pos, aft, gd⟩).run Tryd.prog w = .ok (.value v) w := by
  simp [go_sem, hx, hz]
theorem ex_nesame {p q : Int} (hx : ρ x = .agg #[.int .u64 p, .int .u64 q]) (hy : ρ y = .agg #[.int .u64 p, .int .u64 q]) (hr : ∀ W, (Op.equalIn 10000 27 (.agg #[.int .u64 p, .int .u64 q]) (.agg #[.int .u64 p, .int .u64 q])).run Tryd.prog W = .ok true W) : (execOp ρ ⟨d, .binOp .neq 27 x y 27, t, pos, aft, gd⟩).run Tryd.prog w = .ok (.value (.bool false)) w := by
  simp [go_sem, hx, hy, hr]
theorem ex_circN {g o : Nat} (hx : ρ x = .pointer (some ⟨g, o, none⟩)) : (execOp ρ ⟨d, .fieldAddr 24 x 0, t, pos, aft, gd⟩).run Tryd.prog w = .ok (.value (.pointer (some ⟨g, o, none⟩))) w := by
  simp [go_sem, hx]
end
section
variable {ops : Array Oper} {C : World → Prop} {Q : Act → Prop} {a : Act} {o : Oper} {rest : List Oper} {d : Option Tmp} {t : TypeId} {pos : String} {aft : Array Edge} {gd : Option (Nat × Bool)} {v : Value}
theorem qs_val (hw : Region.wanted o (yielded ops a.tmps) = true) (h : ∀ W, C W → (execOp a.eval o).run Tryd.prog W = .ok (.value v) W) (hr : wpQuiet Tryd.prog ops C Q rest (a.put o.dst v)) : wpQuiet Tryd.prog ops C Q (o :: rest) a :=
  q_step v hw (fun W hW => by unfold Oper.quietAt; rw [h W hW]; exact ⟨rfl, rfl⟩) hr
theorem qs_calls {f : FuncId} {xs : Array Operand} {ts : Array TypeId} {args : Array Value} (hw : Region.wanted ⟨d, .call ⟨.value (.func f), xs, ts⟩, t, pos, aft, gd⟩ (yielded ops a.tmps) = true) (he : Ent f) (hargs : xs.map a.eval = args)
    (h : ∀ W, C W → Calls Tryd.prog f args W fun e w' => e = .returned v ∧ C w') (hr : wpQuiet Tryd.prog ops C Q rest (a.put d v)) : wpQuiet Tryd.prog ops C Q (⟨d, .call ⟨.value (.func f), xs, ts⟩, t, pos, aft, gd⟩ :: rest) a :=
  q_step v hw (fun W hW => by unfold Oper.quietAt; rw [ex_call he rfl hargs]; exact ⟨rfl, h W hW⟩) hr
theorem qs_call1 {f : FuncId} {x : Operand} {u : Value} {ts : Array TypeId} (hw : Region.wanted ⟨d, .call ⟨.value (.func f), #[x], ts⟩, t, pos, aft, gd⟩ (yielded ops a.tmps) = true) (he : Ent f) (hx : a.eval x = u)
    (h : ∀ W, C W → Calls Tryd.prog f #[u] W fun e w' => e = .returned v ∧ C w') (hr : wpQuiet Tryd.prog ops C Q rest (a.put d v)) : wpQuiet Tryd.prog ops C Q (⟨d, .call ⟨.value (.func f), #[x], ts⟩, t, pos, aft, gd⟩ :: rest) a := qs_calls hw he (by simp [hx]) h hr
theorem qs_call2 {f : FuncId} {x y : Operand} {u p : Value} {ts : Array TypeId} (hw : Region.wanted ⟨d, .call ⟨.value (.func f), #[x, y], ts⟩, t, pos, aft, gd⟩ (yielded ops a.tmps) = true) (he : Ent f) (hx : a.eval x = u) (hy : a.eval y = p)
    (h : ∀ W, C W → Calls Tryd.prog f #[u, p] W fun e w' => e = .returned v ∧ C w') (hr : wpQuiet Tryd.prog ops C Q rest (a.put d v)) : wpQuiet Tryd.prog ops C Q (⟨d, .call ⟨.value (.func f), #[x, y], ts⟩, t, pos, aft, gd⟩ :: rest) a := qs_calls hw he (by simp [hx, hy]) h hr
end
end Go.Proofs.YtbemhgojfehnjaaDoor

namespace Go.Proofs.YtbemhgojfehnjaaDoor
open Go Go.RowKit
section
variable {P : Program} {ops : Array Oper} {Q : Exit → Act → World → Prop} {S : World → Prop} {r : List (Nat × Nat)} {rest : List Oper} {n : Nat} {m : List (Nat × Value)} {w w' : World} {i d : Nat} {op : Op} {t T : TypeId} {pos : String} {aft : Array Edge} {gd : Option (Nat × Bool)} {v : Value} {cs : Array Value}
/-- A new block; its number is named. -/
theorem wl_new (hr : ∀ ρ, Reads m ρ → (execOp ρ ⟨some d, op, t, pos, aft, gd⟩).run P w = .ok (.value (.pointer (some ⟨w.heap.size, 0, none⟩))) (w.alloc (.cells cs T))) (hg : wantedM ops m gd = some true) (hd : Nat.blt d n = true)
    (h : ∀ g w', Below w.heap.size w w' → Blk w' g T cs → w.heap.size = g → w'.heap.size = g + 1 → wl P ops Q rest n ((d, .pointer (some ⟨g, 0, none⟩)) :: m) w') :
    wl P ops Q (⟨some d, op, t, pos, aft, gd⟩ :: rest) n m w :=
  wl_val hr hg hd (h _ _ ((Below.refl _ _).alloc (Nat.le_refl _) _) (Blk.new _ _ _) rfl (by simp))
theorem wl_newslice {k c : Nat} (hr : ∀ ρ, Reads m ρ → (execOp ρ ⟨some d, op, t, pos, aft, gd⟩).run P w = .ok (.value (.slice (some ⟨w.heap.size, 0, none⟩) k c)) (w.alloc (.cells cs T))) (hg : wantedM ops m gd = some true) (hd : Nat.blt d n = true)
    (h : ∀ g w', Below w.heap.size w w' → Blk w' g T cs → w.heap.size = g → w'.heap.size = g + 1 → wl P ops Q rest n ((d, .slice (some ⟨g, 0, none⟩) k c) :: m) w') :
    wl P ops Q (⟨some d, op, t, pos, aft, gd⟩ :: rest) n m w :=
  wl_val hr hg hd (h _ _ ((Below.refl _ _).alloc (Nat.le_refl _) _) (Blk.new _ _ _) rfl (by simp))
theorem xw_then {K : Act → World → Prop} (h : xw (fun _ a w => K a w) .normal n m w) : xw (Exit.then K Q) .normal n m w := h
end
section
variable {ρ : Operand → Value} {d : Option Tmp} {x y z : Operand} {t : TypeId} {pos : String} {aft : Array Edge} {gd : Option (Nat × Bool)} {w : World}
theorem ex_boxGate {v0 v1 v2 : Value} (hx : ρ x = .agg #[v0, v1, v2]) : (execOp ρ ⟨d, .box 38 x, t, pos, aft, gd⟩).run Tryd.prog w = .ok (.value (.pointer (some ⟨w.heap.size, 0, none⟩))) (w.alloc (.cells #[v0, v1, v2] 38)) := by
  simp [go_sem, hx]
theorem ex_boxCirc {v0 v1 : Value} (hx : ρ x = .agg #[v0, v1]) : (execOp ρ ⟨d, .box 24 x, t, pos, aft, gd⟩).run Tryd.prog w = .ok (.value (.pointer (some ⟨w.heap.size, 0, none⟩))) (w.alloc (.cells #[v0, v1] 24)) := by
  simp [go_sem, hx]
theorem ex_boxSet {v0 v1 : Value} (hx : ρ x = .agg #[v0, v1]) : (execOp ρ ⟨d, .box 27 x, t, pos, aft, gd⟩).run Tryd.prog w = .ok (.value (.pointer (some ⟨w.heap.size, 0, none⟩))) (w.alloc (.cells #[v0, v1] 27)) := by
  simp [go_sem, hx]
theorem ex_allocSet : (execOp ρ ⟨d, .alloc 27, t, pos, aft, gd⟩).run Tryd.prog w = .ok (.value (.pointer (some ⟨w.heap.size, 0, none⟩))) (w.alloc (.cells #[.int .u64 0, .int .u64 0] 27)) := by
  simp [go_sem]
theorem ex_lenI {A : Option Addr} {k c : Nat} (hx : ρ x = .slice A k c) : (execOp ρ ⟨d, .call ⟨.builtin .len, #[x], #[36]⟩, t, pos, aft, gd⟩).run Tryd.prog w = .ok (.value (.int .i64 (k : Int))) w := by
  simp [go_sem, hx]
theorem ex_lenG {A : Option Addr} {k c : Nat} (hx : ρ x = .slice A k c) : (execOp ρ ⟨d, .call ⟨.builtin .len, #[x], #[22]⟩, t, pos, aft, gd⟩).run Tryd.prog w = .ok (.value (.int .i64 (k : Int))) w := by
  simp [go_sem, hx]
theorem ex_lenB {A : Option Addr} {k c : Nat} (hx : ρ x = .slice A k c) : (execOp ρ ⟨d, .call ⟨.builtin .len, #[x], #[41]⟩, t, pos, aft, gd⟩).run Tryd.prog w = .ok (.value (.int .i64 (k : Int))) w := by
  simp [go_sem, hx]
theorem ex_add {u v : Int} (hx : ρ x = .int .i64 u) (hy : ρ y = .int .i64 v) (h : IntKind.i64.wrap (u + v) = u + v) : (execOp ρ ⟨d, .binOp .add 3 x y 3, t, pos, aft, gd⟩).run Tryd.prog w = .ok (.value (.int .i64 (u + v))) w := by
  simp [go_sem, hx, hy, h]
theorem ex_sub {u v : Int} (hx : ρ x = .int .i64 u) (hy : ρ y = .int .i64 v) (h : IntKind.i64.wrap (u - v) = u - v) : (execOp ρ ⟨d, .binOp .sub 3 x y 3, t, pos, aft, gd⟩).run Tryd.prog w = .ok (.value (.int .i64 (u - v))) w := by
  simp [go_sem, hx, hy, h]
theorem ex_mul {u v : Int} (hx : ρ x = .int .i64 u) (hy : ρ y = .int .i64 v) (h : IntKind.i64.wrap (u * v) = u * v) : (execOp ρ ⟨d, .binOp .mul 3 x y 3, t, pos, aft, gd⟩).run Tryd.prog w = .ok (.value (.int .i64 (u * v))) w := by
  simp [go_sem, hx, hy, h]
theorem wrap_in {u : Int} (h0 : -9223372036854775808 ≤ u) (h1 : u ≤ 9223372036854775807) : IntKind.i64.wrap u = u := by rw [IntKind.wrap_i64]; omega
theorem ex_inc {k : Nat} (hx : ρ x = .int .i64 (k : Int)) (hy : ρ y = .int .i64 1) (h : k < 4611686018427387904) : (execOp ρ ⟨d, .binOp .add 3 x y 3, t, pos, aft, gd⟩).run Tryd.prog w = .ok (.value (.int .i64 ((k + 1 : Nat) : Int))) w := by
  rw [ex_add hx hy (wrap_in (by omega) (by omega))]; rfl
theorem ex_lss1 {u v : Int} (hx : ρ x = .int .i64 u) (hy : ρ y = .int .i64 v) (h : u < v) : (execOp ρ ⟨d, .binOp .lss 3 x y 3, t, pos, aft, gd⟩).run Tryd.prog w = .ok (.value (.bool true)) w := by
  simp [go_sem, hx, hy, h]
theorem ex_lss0 {u v : Int} (hx : ρ x = .int .i64 u) (hy : ρ y = .int .i64 v) (h : v ≤ u) : (execOp ρ ⟨d, .binOp .lss 3 x y 3, t, pos, aft, gd⟩).run Tryd.prog w = .ok (.value (.bool false)) w := by
  have h' : ¬ u < v := by omega
  simp [go_sem, hx, hy, h']
theorem ex_gtr1 {u v : Int} (hx : ρ x = .int .i64 u) (hy : ρ y = .int .i64 v) (h : v < u) : (execOp ρ ⟨d, .binOp .gtr 3 x y 3, t, pos, aft, gd⟩).run Tryd.prog w = .ok (.value (.bool true)) w := by
  simp [go_sem, hx, hy, h]
theorem ex_gtr0 {u v : Int} (hx : ρ x = .int .i64 u) (hy : ρ y = .int .i64 v) (h : u ≤ v) : (execOp ρ ⟨d, .binOp .gtr 3 x y 3, t, pos, aft, gd⟩).run Tryd.prog w = .ok (.value (.bool false)) w := by
  have h' : ¬ v < u := by omega
  simp [go_sem, hx, hy, h']
theorem ex_leq1 {u v : Int} (hx : ρ x = .int .i64 u) (hy : ρ y = .int .i64 v) (h : u ≤ v) : (execOp ρ ⟨d, .binOp .leq 3 x y 3, t, pos, aft, gd⟩).run Tryd.prog w = .ok (.value (.bool true)) w := by
  simp [go_sem, hx, hy, h]
theorem ex_leq0 {u v : Int} (hx : ρ x = .int .i64 u) (hy : ρ y = .int .i64 v) (h : v < u) : (execOp ρ ⟨d, .binOp .leq 3 x y 3, t, pos, aft, gd⟩).run Tryd.prog w = .ok (.value (.bool false)) w := by
  simp [go_sem, hx, hy, h]
theorem ex_geq1 {u v : Int} (hx : ρ x = .int .i64 u) (hy : ρ y = .int .i64 v) (h : v ≤ u) : (execOp ρ ⟨d, .binOp .geq 3 x y 3, t, pos, aft, gd⟩).run Tryd.prog w = .ok (.value (.bool true)) w := by
  simp [go_sem, hx, hy, h]
theorem ex_geq0 {u v : Int} (hx : ρ x = .int .i64 u) (hy : ρ y = .int .i64 v) (h : u < v) : (execOp ρ ⟨d, .binOp .geq 3 x y 3, t, pos, aft, gd⟩).run Tryd.prog w = .ok (.value (.bool false)) w := by
  simp [go_sem, hx, hy, h]
theorem ex_eql1 {u v : Int} (hx : ρ x = .int .i64 u) (hy : ρ y = .int .i64 v) (h : u = v) : (execOp ρ ⟨d, .binOp .eql 3 x y 3, t, pos, aft, gd⟩).run Tryd.prog w = .ok (.value (.bool true)) w := by
  subst h
  simp [go_sem, hx, hy]
theorem ex_eql0 {u v : Int} (hx : ρ x = .int .i64 u) (hy : ρ y = .int .i64 v) (h : u ≠ v) : (execOp ρ ⟨d, .binOp .eql 3 x y 3, t, pos, aft, gd⟩).run Tryd.prog w = .ok (.value (.bool false)) w := by
  simp [go_sem, hx, hy, h]
theorem ex_neq1 {u v : Int} (hx : ρ x = .int .i64 u) (hy : ρ y = .int .i64 v) (h : u ≠ v) : (execOp ρ ⟨d, .binOp .neq 3 x y 3, t, pos, aft, gd⟩).run Tryd.prog w = .ok (.value (.bool true)) w := by
  simp [go_sem, hx, hy, h]
theorem ex_neq0 {u v : Int} (hx : ρ x = .int .i64 u) (hy : ρ y = .int .i64 v) (h : u = v) : (execOp ρ ⟨d, .binOp .neq 3 x y 3, t, pos, aft, gd⟩).run Tryd.prog w = .ok (.value (.bool false)) w := by
  subst h
  simp [go_sem, hx, hy]
end
end Go.Proofs.YtbemhgojfehnjaaDoor

namespace Go.Proofs.YtbemhgojfehnjaaDoor
open Go Go.RowKit
section
variable {ops : Array Oper} {Q : Exit → Act → World → Prop} {S : World → Prop} {r : List (Nat × Nat)} {rest : List Oper} {n : Nat} {m : List (Nat × Value)} {w : World} {i d : Nat} {t : TypeId} {pos : String} {aft : Array Edge} {gd : Option (Nat × Bool)}
/-- 'append(v, y)' where y's one cell lies in block g. -/
theorem run_append_int {v : Value} {l : List Int} {y : Int} {g base : Nat} (ty : TypeId) (hown : OwnInts w base v l) (hk : Blk w g 3 #[.int .i64 y]) (hlen : l.length ≤ 1099511627776) (hbase : base ≤ w.heap.size) :
    ∃ A c w', (Builtin.append_ #[36, 36] ty #[v, .slice (some ⟨g, 0, none⟩) 1 1]).run Tryd.prog w = .ok (.slice A (l.length + 1) c) w' ∧ OwnInts w' base (.slice A (l.length + 1) c) (l ++ [y]) ∧ w.grownBy w' v.ownBlock ∧ ((Value.slice A (l.length + 1) c).ownBlock = v.ownBlock ∨ (Value.slice A (l.length + 1) c).ownBlock = some w.heap.size) := by
  obtain ⟨i, hi, hz, hsz, hb⟩ := info_parts info_int
  obtain ⟨v', w', hrun, h2, h3, _, h5⟩ := run_append_own_at (P := Tryd.prog) (w := w) base 36 ty 3 i _ 1 8 Tryd.underlying36 hi hz hsz hb rfl (by decide) v _ _ hown ⟨g, 0, none⟩ 1 1 [.int .i64 y] rfl
    (fun j u hu => by
      have hadd : (⟨g, 0, none⟩ : Addr).add j = ⟨g, j, none⟩ := by unfold Addr.add; split <;> simp_all
      rw [hadd, hk.cell j]
      simpa using hu)
    (by intro u hu; simp at hu; subst hu; rfl) (by unfold maxLen; omega) (by omega) hbase
  obtain ⟨A, c, rfl⟩ := own_form h2
  exact ⟨A, c, w', hrun, OwnInts.cast h2, h3, h5⟩
theorem exec_append_int {ρ : Operand → Value} {d : Option Tmp} {x y : Operand} {v u : Value} {w' : World} {V : Value} (hx : ρ x = v) (hy : ρ y = u) (h : (Builtin.append_ #[36, 36] t #[v, u]).run Tryd.prog w = .ok V w') :
    (execOp ρ ⟨d, .call ⟨.builtin .append, #[x, y], #[36, 36]⟩, t, pos, aft, gd⟩).run Tryd.prog w = .ok (.value V) w' := by
  unfold execOp
  simp only [resolve, invoke, builtin, Sem.run_bind, Sem.run_pure, Result.andThen_ok, List.map_toArray, List.map_cons, List.map_nil, hx, hy, h]
theorem wl_append {x y : Operand} {v : Value} {l : List Int} {yv : Int} {g base : Nat} (hx : ev m x = some v) (hy : ev m y = some (.slice (some ⟨g, 0, none⟩) 1 1)) (hg : wantedM ops m gd = some true) (hd : Nat.blt d n = true) (hown : OwnInts w base v l) (hk : Blk w g 3 #[.int .i64 yv]) (hlen : l.length ≤ 1099511627776) (hbase : base ≤ w.heap.size)
    (h : ∀ A c w', OwnInts w' base (.slice A (l.length + 1) c) (l ++ [yv]) → w.grownBy w' v.ownBlock → ((Value.slice A (l.length + 1) c).ownBlock = v.ownBlock ∨ (Value.slice A (l.length + 1) c).ownBlock = some w.heap.size) → wl Tryd.prog ops Q rest n ((d, .slice A (l.length + 1) c) :: m) w') :
    wl Tryd.prog ops Q (⟨some d, .call ⟨.builtin .append, #[x, y], #[36, 36]⟩, t, pos, aft, gd⟩ :: rest) n m w := by
  obtain ⟨A, c, w', h1, h2, h3, h4⟩ := run_append_int t hown hk hlen hbase
  exact wl_val (fun ρ e => exec_append_int (e _ _ hx) (e _ _ hy) h1) hg hd (h A c w' h2 h3 h4)
theorem wt2_append {x y : Operand} {v : Value} {l : List Int} {yv : Int} {g base : Nat} (ho : ops[i]? = some ⟨some d, .call ⟨.builtin .append, #[x, y], #[36, 36]⟩, t, pos, aft, gd⟩) (hx : ev m x = some v) (hy : ev m y = some (.slice (some ⟨g, 0, none⟩) 1 1)) (hg : wantedM ops m gd = some true) (hd : Nat.blt d n = true) (hown : OwnInts w base v l) (hk : Blk w g 3 #[.int .i64 yv]) (hlen : l.length ≤ 1099511627776) (hbase : base ≤ w.heap.size)
    (h : ∀ A c w', OwnInts w' base (.slice A (l.length + 1) c) (l ++ [yv]) → w.grownBy w' v.ownBlock → ((Value.slice A (l.length + 1) c).ownBlock = v.ownBlock ∨ (Value.slice A (l.length + 1) c).ownBlock = some w.heap.size) → S w' ∧ wt Tryd.prog ops Q S r n ((d, .slice A (l.length + 1) c) :: m) w') :
    wt Tryd.prog ops Q S ((i, 2) :: r) n m w := by
  obtain ⟨A, c, w', h1, h2, h3, h4⟩ := run_append_int t hown hk hlen hbase
  obtain ⟨h5, h6⟩ := h A c w' h2 h3 h4
  exact wt2 ho (fun ρ e => exec_append_int (e _ _ hx) (e _ _ hy) h1) hg hd h5 h6
end
section
variable {ρ : Operand → Value} {d : Option Tmp} {x y : Operand} {t : TypeId} {pos : String} {aft : Array Edge} {gd : Option (Nat × Bool)} {w : World}
theorem ex_gates {p : Addr} {v : Value} (hx : ρ x = .pointer (some p)) (h : w.cell? p = some v) : (execOp ρ ⟨d, .load 22 x, t, pos, aft, gd⟩).run Tryd.prog w = .ok (.value v) w := by
  simp [go_sem, hx, h]
theorem ex_gate {g o : Nat} {v0 v1 v2 : Value} (hx : ρ x = .pointer (some ⟨g, o, none⟩)) (h0 : w.cell? ⟨g, o, none⟩ = some v0) (h1 : w.cell? ⟨g, o + 1, none⟩ = some v1) (h2 : w.cell? ⟨g, o + 2, none⟩ = some v2) : (execOp ρ ⟨d, .load 38 x, t, pos, aft, gd⟩).run Tryd.prog w = .ok (.value (.agg #[v0, v1, v2])) w := by
  simp [go_sem, hx, h0, h1, h2]
theorem ex_gidx {g o n c i : Nat} (hx : ρ x = .slice (some ⟨g, o, none⟩) n c) (hy : ρ y = .int .i64 (i : Int)) (h1 : i < n) : (execOp ρ ⟨d, .indexAddr 22 x y, t, pos, aft, gd⟩).run Tryd.prog w = .ok (.value (.pointer (some ⟨g, o + i * 3, none⟩))) w := by
  simp [go_sem, hx, hy, h1]
theorem ex_iidx {g o n c i : Nat} (hx : ρ x = .slice (some ⟨g, o, none⟩) n c) (hy : ρ y = .int .i64 (i : Int)) (h1 : i < n) : (execOp ρ ⟨d, .indexAddr 36 x y, t, pos, aft, gd⟩).run Tryd.prog w = .ok (.value (.pointer (some ⟨g, o + i, none⟩))) w := by
  simp [go_sem, hx, hy, h1]
theorem ex_gateF2 {g o : Nat} (hx : ρ x = .pointer (some ⟨g, o, none⟩)) : (execOp ρ ⟨d, .fieldAddr 38 x 2, t, pos, aft, gd⟩).run Tryd.prog w = .ok (.value (.pointer (some ⟨g, o + 2, none⟩))) w := by
  simp [go_sem, hx]
theorem ex_circF1 {g o : Nat} (hx : ρ x = .pointer (some ⟨g, o, none⟩)) : (execOp ρ ⟨d, .fieldAddr 24 x 1, t, pos, aft, gd⟩).run Tryd.prog w = .ok (.value (.pointer (some ⟨g, o + 1, none⟩))) w := by
  simp [go_sem, hx]
theorem ex_storeSlice {p : Addr} {A : Option Addr} {k c : Nat} {u : Value} (hx : ρ x = .pointer (some p)) (hy : ρ y = .slice A k c) (h : w.cell? p = some u) (hf : w.frozen? p = false) : (execOp ρ ⟨d, .store 36 x y, t, pos, aft, gd⟩).run Tryd.prog w = .ok .skip (w.setCell p (.slice A k c)) := by
  simp [go_sem, hx, hy, h, hf]
theorem ex_neqE1 {u v : Int} (hx : ρ x = .int .i64 u) (hy : ρ y = .int .i64 v) (h : u ≠ v) : (execOp ρ ⟨d, .binOp .neq 32 x y 32, t, pos, aft, gd⟩).run Tryd.prog w = .ok (.value (.bool true)) w := by
  simp [go_sem, hx, hy, h]
theorem ex_neqE0 {u v : Int} (hx : ρ x = .int .i64 u) (hy : ρ y = .int .i64 v) (h : u = v) : (execOp ρ ⟨d, .binOp .neq 32 x y 32, t, pos, aft, gd⟩).run Tryd.prog w = .ok (.value (.bool false)) w := by
  subst h
  simp [go_sem, hx, hy]
theorem ex_eqlE {u v : Int} (hx : ρ x = .int .i64 u) (hy : ρ y = .int .i64 v) : (execOp ρ ⟨d, .binOp .eql 32 x y 32, t, pos, aft, gd⟩).run Tryd.prog w = .ok (.value (.bool (u == v))) w := by
  simp [go_sem, hx, hy]
end
end Go.Proofs.YtbemhgojfehnjaaDoor
namespace Go.Proofs.YtbemhgojfehnjaaDoor
open Go Go.RowKit

structure Frame (S : Nat → Prop) (w w' : World) : Prop where
  os : w'.os = w.os
  tape : w'.tape = w.tape
  output : w'.output = w.output
  size : w.heap.size ≤ w'.heap.size
  block : ∀ k, k < w.heap.size → ¬ S k → w'.heap[k]? = w.heap[k]?
def NoB : Nat → Prop := fun _ => False
theorem noB {k : Nat} : ¬ NoB k := id
theorem Frame.refl (S : Nat → Prop) (w : World) : Frame S w w := ⟨rfl, rfl, rfl, Nat.le_refl _, fun _ _ _ => rfl⟩
theorem Frame.trans {S T : Nat → Prop} {a b c : World} (h : Frame S a b) (k : Frame T b c) (hT : ∀ k, k < a.heap.size → T k → S k) : Frame S a c :=
  ⟨k.os.trans h.os, k.tape.trans h.tape, k.output.trans h.output, Nat.le_trans h.size k.size, fun i hi hs => (k.block i (Nat.lt_of_lt_of_le hi h.size) (fun ht => hs (hT i hi ht))).trans (h.block i hi hs)⟩
theorem Frame.mono {S T : Nat → Prop} {a b : World} (h : Frame S a b) (hT : ∀ k, k < a.heap.size → S k → T k) : Frame T a b :=
  ⟨h.os, h.tape, h.output, h.size, fun i hi hs => h.block i hi (fun ht => hs (hT i hi ht))⟩
theorem Frame.of_below {w w' : World} (h : Below w.heap.size w w') : Frame NoB w w' := ⟨h.os, h.tape, h.output, h.size, fun k hk _ => h.block k hk⟩
theorem Frame.drew (w : World) : Frame NoB w w.drew := ⟨rfl, rfl, rfl, Nat.le_refl _, fun _ _ _ => rfl⟩
theorem Frame.grown {w w' : World} {row : Option Nat} (h : w.grownBy w' row) : Frame (fun k => some k = row) w w' := ⟨h.os, h.tape, h.output, h.size, fun k hk hs => h.block k hk hs⟩
theorem Frame.put (w : World) (g i : Nat) (u : Value) : Frame (fun k => k = g) w (w.setCell ⟨g, i, none⟩ u) :=
  ⟨rfl, rfl, rfl, Nat.le_of_eq (by simp [World.setCell]), fun k _ hs => Below.heap_setCell w _ u k hs⟩
theorem Frame.alloc (w : World) (o : Obj) : Frame NoB w (w.alloc o) := ⟨rfl, rfl, rfl, by simp, fun k hk _ => Below.heap_alloc w o k hk⟩
theorem Frame.below {S : Nat → Prop} {w w' : World} {B : Nat} (h : Frame S w w') (hB : B ≤ w.heap.size) (hS : ∀ k, k < w.heap.size → S k → B ≤ k) : Below B w w' :=
  ⟨h.os, h.tape, h.output, h.size, fun k hk => h.block k (by omega) (fun hs => by have := hS k (by omega) hs; omega)⟩
theorem Blk.fr {S : Nat → Prop} {w w' : World} {g : Nat} {t : TypeId} {cs : Array Value} (h : Blk w g t cs) (hf : Frame S w w') (hg : ¬ S g) : Blk w' g t cs := (hf.block g h.lt hg).trans h

/-- Block m is a map that holds just these entries, in this order. -/
def MapB (w : World) (m : Nat) (l : List (Value × Value)) : Prop := ∃ (es : Array MapEntry) (clock : Nat), w.heap[m]? = some (.map es clock) ∧ es.toList.map (fun e => (e.key, e.val)) = l
theorem MapB.lt {w : World} {m : Nat} {l : List (Value × Value)} (h : MapB w m l) : m < w.heap.size := by
  obtain ⟨es, clock, h, _⟩ := h
  exact (Array.getElem?_eq_some_iff.1 h).1
theorem MapB.fr {S : Nat → Prop} {w w' : World} {m : Nat} {l : List (Value × Value)} (h : MapB w m l) (hf : Frame S w w') (hg : ¬ S m) : MapB w' m l := by
  have hlt := h.lt
  obtain ⟨es, clock, h, hl⟩ := h
  exact ⟨es, clock, (hf.block m hlt hg).trans h, hl⟩

/-- Where a key stands, and what is there. -/
def look {κ : Type} [DecidableEq κ] (k : κ) : List (κ × Value) → Nat → Option (Nat × Value)
  | [], _ => none
  | (a, v) :: l, i => if k = a then some (i, v) else look k l (i + 1)
def encL {κ : Type} (enc : κ → Value) (l : List (κ × Value)) : List (Value × Value) := l.map fun p => (enc p.1, p.2)
theorem findNow_enc {κ : Type} [DecidableEq κ] (enc : κ → Value) (kind : TypeDesc) (hs : ∀ a b, Instr.sameNow kind (enc a) (enc b) = some (decide (a = b))) (k : κ) :
    ∀ (l : List (κ × Value)) (es : List MapEntry) (i : Nat), es.map (fun e => (e.key, e.val)) = encL enc l → Instr.findNow kind (enc k) es i = some (look k l i)
  | [], es, i, h => by
    cases es with
    | nil => rfl
    | cons e es => cases h
  | (a, v) :: l, es, i, h => by
    cases es with
    | nil => cases h
    | cons e es =>
      simp only [List.map_cons, encL, List.cons.injEq, Prod.mk.injEq] at h
      obtain ⟨⟨h1, h2⟩, h3⟩ := h
      unfold Instr.findNow look
      rw [h1, hs]
      by_cases hk : k = a
      · simp [hk, h2]
      · simp only [hk, decide_false, if_false]
        exact findNow_enc enc kind hs k l es (i + 1) h3

/-- What entries become when a key is written. -/
def aput {κ : Type} [DecidableEq κ] (k : κ) (v : Value) : List (κ × Value) → List (κ × Value)
  | [] => [(k, v)]
  | (a, u) :: l => if k = a then (a, v) :: l else (a, u) :: aput k v l
structure Key {κ : Type} [DecidableEq κ] (enc : κ → Value) (kind : TypeDesc) : Prop where
  same : ∀ a b, Instr.sameNow kind (enc a) (enc b) = some (decide (a = b))
  isKey : ∀ a, MapKept.IsKey kind (enc a)
section
variable {P : Program} {κ : Type} [DecidableEq κ] {enc : κ → Value} {kind : TypeDesc} {t kt e : TypeId} {w : World} {m : Nat} {l : List (κ × Value)}
theorem run_look (K : Key enc kind) (ht : P.underlying t = some (.map kt e)) (hk : P.underlying kt = some kind) (h : MapB w m (encL enc l)) (k : κ) {r : Option (Nat × Value)} (hr : look k l 0 = r) {z : Value} (hz : (zeroValue e).run P w = .ok z w) (ok : Bool) :
    (Instr.lookup t (.map (some m)) (enc k) ok).run P w = .ok (if ok then .tuple #[(match r with | some (_, v) => v | none => z), .bool r.isSome] else (match r with | some (_, v) => v | none => z)) w := by
  obtain ⟨es, clock, hb, hl⟩ := h
  have h1 := findNow_enc enc kind K.same k l es.toList 0 hl
  rw [hr] at h1
  cases r with
  | none => cases ok <;> simp [Instr.lookup, run_underlying ht, MapKept.run_getObj_map hb, MapKept.run_checkKey hk (K.isKey k), MapKept.run_findKey hk h1, hz, Result.andThen]
  | some p => cases ok <;> simp [Instr.lookup, run_underlying ht, MapKept.run_getObj_map hb, MapKept.run_checkKey hk (K.isKey k), MapKept.run_findKey hk h1, Result.andThen]
theorem look_shift (k : κ) : ∀ (l : List (κ × Value)) (i : Nat) (j : Nat) (v : Value), look k l i = some (j, v) → i ≤ j ∧ ∃ a, a = k ∧ l[j - i]? = some (a, v)
  | [], _, _, _, h => by cases h
  | (a, u) :: l, i, j, v, h => by
    unfold look at h
    by_cases hk : k = a
    · rw [if_pos hk] at h
      injection h with h
      injection h with h1 h2
      subst h1; subst h2
      exact ⟨Nat.le_refl _, a, hk.symm, by simp⟩
    · rw [if_neg hk] at h
      obtain ⟨h1, b, hb, h2⟩ := look_shift k l (i + 1) j v h
      refine ⟨by omega, b, hb, ?_⟩
      rw [show j - i = (j - (i + 1)) + 1 from by omega, List.getElem?_cons_succ]
      exact h2
theorem aput_none (k : κ) (v : Value) : ∀ (l : List (κ × Value)) (i : Nat), look k l i = none → aput k v l = l ++ [(k, v)]
  | [], _, _ => rfl
  | (a, u) :: l, i, h => by
    unfold look at h
    by_cases hk : k = a
    · rw [if_pos hk] at h; cases h
    · rw [if_neg hk] at h
      unfold aput
      rw [if_neg hk, aput_none k v l (i + 1) h]; rfl
theorem aput_some (k : κ) (v : Value) : ∀ (l : List (κ × Value)) (i j : Nat) (u : Value), look k l i = some (j, u) → aput k v l = l.modify (j - i) (fun p => (p.1, v))
  | [], _, _, _, h => by cases h
  | (a, u) :: l, i, j, u', h => by
    have hh := h
    unfold look at h
    unfold aput
    by_cases hk : k = a
    · rw [if_pos hk] at h ⊢
      injection h with h
      injection h with h1 _
      subst h1
      simp
    · rw [if_neg hk] at h ⊢
      have := (look_shift k l (i + 1) j u' h).1
      rw [aput_some k v l (i + 1) j u' h, show j - i = (j - (i + 1)) + 1 from by omega, List.modify_succ_cons]
theorem run_put (K : Key enc kind) (ht : P.underlying t = some (.map kt e)) (hk : P.underlying kt = some kind) (h : MapB w m (encL enc l)) (k : κ) (v : Value) :
    ∃ w', (Instr.mapUpdate t (.map (some m)) (enc k) v).run P w = .ok () w' ∧ MapB w' m (encL enc (aput k v l)) ∧ Frame (fun j => j = m) w w' ∧ w'.heap.size = w.heap.size := by
  obtain ⟨es, clock, hb, hl⟩ := h
  have h1 := findNow_enc enc kind K.same k l es.toList 0 hl
  have fr : ∀ o, Frame (fun j => j = m) w { w with heap := w.heap.setIfInBounds m o } := fun o => ⟨rfl, rfl, rfl, by simp, fun j _ hj => (MapKept.heap_set (o' := o) hb).2 j hj⟩
  cases hr : look k l 0 with
  | none =>
    rw [hr] at h1
    refine ⟨_, by simp only [Instr.mapUpdate, Sem.run_bind, run_underlying ht, MapKept.run_getObj_map hb, MapKept.run_checkKey hk (K.isKey k), MapKept.run_findKey hk h1, MapKept.run_setObj_map _ hb, Result.andThen]; rfl, ?_, fr _, by simp⟩
    refine ⟨_, _, (MapKept.heap_set hb).1, ?_⟩
    rw [aput_none k v l 0 hr]
    simp [encL, hl]
  | some p =>
    obtain ⟨j, u⟩ := p
    rw [hr] at h1
    obtain ⟨_, a, ha, h3⟩ := look_shift k l 0 j u hr
    have hj : ∃ x, es[j]? = some x ∧ x.key = enc k := by
      have h4 : (es.toList.map fun e => (e.key, e.val))[j]? = some (enc a, u) := by rw [hl]; unfold encL; rw [List.getElem?_map]; rw [Nat.sub_zero] at h3; rw [h3]; rfl
      rw [List.getElem?_map] at h4
      cases h5 : es.toList[j]? with
      | none => rw [h5] at h4; cases h4
      | some x =>
        rw [h5] at h4
        injection h4 with h4
        injection h4 with h6 _
        exact ⟨x, by simpa using h5, by rw [h6, ha]⟩
    obtain ⟨x, hx, hxk⟩ := hj
    refine ⟨_, by simp only [Instr.mapUpdate, Sem.run_bind, run_underlying ht, MapKept.run_getObj_map hb, MapKept.run_checkKey hk (K.isKey k), MapKept.run_findKey hk h1, hx, Option.map_some, Option.getD_some, hxk, MapKept.run_keyThatStays (K.isKey k), MapKept.run_setObj_map _ hb, Result.andThen]; rfl, ?_, fr _, by simp⟩
    refine ⟨_, _, (MapKept.heap_set hb).1, ?_⟩
    rw [aput_some k v l 0 j u hr]
    have e1 : (es.modify j fun e => { e with key := enc k, val := v }).toList = es.toList.modify j fun e => { e with key := enc k, val := v } := by simp
    rw [e1]
    apply List.ext_getElem?
    intro q
    have hq : (es.toList.map fun e => (e.key, e.val))[q]? = (encL enc l)[q]? := by rw [hl]
    unfold encL at hq ⊢
    simp only [List.getElem?_map, List.getElem?_modify, Nat.sub_zero] at hq ⊢
    by_cases hqj : j = q
    · subst hqj
      rw [Nat.sub_zero] at h3
      simp [h3, hx, ha]
    · simp only [hqj, if_false]
      simpa using hq
end
end Go.Proofs.YtbemhgojfehnjaaDoor
namespace Go.Proofs.YtbemhgojfehnjaaDoor
open Go Go.RowKit

inductive En where
  | blk (g : Nat) (T : TypeId) (cs : Array Value)
  | row (v : Value) (T : TypeId) (sz n : Nat) (xs : List Value)
  | map (g : Nat) (l : List (Value × Value))
  | iter (g : Nat) (s : ByteArray) (pos : Nat)
  | ro (D : Nat → Prop) (p : World → Prop)
/-- The blocks of an entry. -/
def En.dom : En → Nat → Prop
  | .blk g _ _, k => k = g
  | .row v _ _ _ _, k => v.ownBlock = some k
  | .map g _, k => k = g
  | .iter g _ _, k => k = g
  | .ro D _, k => D k
def En.own : En → Prop
  | .ro _ _ => False
  | _ => True
def En.holds (w : World) : En → Prop
  | .blk g T cs => Blk w g T cs
  | .row v T sz n xs => w.ownsRow 0 T sz v n xs
  | .map g l => MapB w g l
  | .iter g s pos => w.heap[g]? = some (.stringIter s pos)
  | .ro D p => p w ∧ (∀ k, D k → k < w.heap.size) ∧ ∀ w1 w2 : World, w1.heap.size ≤ w2.heap.size → (∀ k, D k → w2.heap[k]? = w1.heap[k]?) → p w1 → p w2
theorem En.lt {e : En} {w : World} (h : e.holds w) {k : Nat} (hk : e.dom k) : k < w.heap.size := by
  cases e with
  | blk g T cs => cases hk; exact Blk.lt h
  | row v T sz n xs => exact (World.ownsRow.lt h k hk).2
  | map g l => cases hk; exact MapB.lt h
  | iter g s pos => cases hk; exact (Array.getElem?_eq_some_iff.1 h).1
  | ro D p => exact h.2.1 k hk
theorem ownsRow_move {w w' : World} {base : Nat} {T : TypeId} {sz n : Nat} {v : Value} {xs : List Value} (h : w.ownsRow base T sz v n xs) (hk : ∀ k, v.ownBlock = some k → w'.heap[k]? = w.heap[k]?) : w'.ownsRow base T sz v n xs := by
  refine ⟨h.1, ?_⟩
  rcases h.2 with h1 | ⟨g, cap, cur, rfl, h1, h2, h3⟩
  · exact .inl h1
  · exact .inr ⟨g, cap, cur, rfl, h1, (hk g rfl).trans h2, h3⟩
theorem En.move {e : En} {w w' : World} (h : e.holds w) (hs : w.heap.size ≤ w'.heap.size) (hk : ∀ k, e.dom k → w'.heap[k]? = w.heap[k]?) : e.holds w' := by
  cases e with
  | blk g T cs => exact (hk g rfl).trans h
  | row v T sz n xs => exact ownsRow_move h hk
  | map g l =>
    obtain ⟨es, clock, h1, h2⟩ := h
    exact ⟨es, clock, (hk g rfl).trans h1, h2⟩
  | iter g s pos => exact (hk g rfl).trans h
  | ro D p => exact ⟨h.2.2 w w' hs hk h.1, fun k q => Nat.lt_of_lt_of_le (h.2.1 k q) hs, h.2.2⟩
def Apart (a b : En) : Prop := (a.own ∨ b.own) → ∀ k, a.dom k → b.dom k → False
theorem Apart.symm {a b : En} (h : Apart a b) : Apart b a := fun ho k h1 h2 => h ho.symm k h2 h1
/-- Z true: the old blocks that may be written; Z false: those that may be read. -/
structure Own (Z : Bool → Nat → Prop) (w0 W : World) (L : List En) : Prop where
  fr : Frame (Z true) w0 W
  has : ∀ e ∈ L, e.holds W
  dist : L.Pairwise Apart
  free : ∀ e ∈ L, ∀ k, e.dom k → (Z false k ∧ (e.own → Z true k)) ∨ w0.heap.size ≤ k
/-- Nothing old is written. -/
def Z0 : Bool → Nat → Prop := fun b _ => b = false
/-- What a call is handed. -/
def zone (A : List En) : Bool → Nat → Prop
  | true, k => ∃ e ∈ A, e.own ∧ e.dom k
  | false, k => ∃ e ∈ A, e.dom k
section
variable {Z : Bool → Nat → Prop} {w0 W W' : World} {L A R : List En}
theorem Own.start (w : World) : Own Z w w [] := ⟨Frame.refl _ _, fun _ he => (List.not_mem_nil he).elim, List.Pairwise.nil, fun _ he => (List.not_mem_nil he).elim⟩
theorem Own.enter (hh : ∀ e ∈ A, e.holds W) (hd : A.Pairwise Apart) : Own (zone A) W W A :=
  ⟨Frame.refl _ _, hh, hd, fun e he _ hk => .inl ⟨⟨e, he, hk⟩, fun ho => ⟨e, he, ho, hk⟩⟩⟩
/-- The step in general: what was told by A is told by A'. -/
theorem Own.step {T : Nat → Prop} {A' : List En} (h : Own Z w0 W (A ++ R)) (fr : Frame T W W') (hT : ∀ k, k < W.heap.size → T k → ∃ e ∈ A, e.own ∧ e.dom k) (hh : ∀ e ∈ A', e.holds W') (hd : A'.Pairwise Apart)
    (hdom : ∀ e ∈ A', ∀ k, e.dom k → (∃ a ∈ A, a.dom k ∧ (e.own → ∃ a ∈ A, a.own ∧ a.dom k)) ∨ W.heap.size ≤ k) : Own Z w0 W' (A' ++ R) := by
  have hp := List.pairwise_append.1 h.dist
  have hsz := h.fr.size
  refine ⟨h.fr.trans fr ?_, ?_, ?_, ?_⟩
  · intro k hk hT'
    obtain ⟨e, he, ho, hek⟩ := hT k (Nat.lt_of_lt_of_le hk hsz) hT'
    rcases h.free e (List.mem_append_left _ he) k hek with h1 | h1
    · exact h1.2 ho
    · omega
  · intro e he
    rcases List.mem_append.1 he with he | he
    · exact hh e he
    · refine En.move (h.has e (List.mem_append_right _ he)) fr.size (fun k hk => fr.block k (En.lt (h.has e (List.mem_append_right _ he)) hk) (fun hT' => ?_))
      obtain ⟨a, ha, ho, hak⟩ := hT k (En.lt (h.has e (List.mem_append_right _ he)) hk) hT'
      exact hp.2.2 a ha e he (.inl ho) k hak hk
  · refine List.pairwise_append.2 ⟨hd, hp.2.1, fun a' ha' r hr ho k h1 h2 => ?_⟩
    rcases hdom a' ha' k h1 with ⟨a, ha, hak, hown⟩ | hk
    · rcases ho with ho | ho
      · obtain ⟨b, hb, hbo, hbk⟩ := hown ho
        exact hp.2.2 b hb r hr (.inl hbo) k hbk h2
      · exact hp.2.2 a ha r hr (.inr ho) k hak h2
    · have := En.lt (h.has r (List.mem_append_right _ hr)) h2
      omega
  · intro e he k hk
    rcases List.mem_append.1 he with he | he
    · rcases hdom e he k hk with ⟨a, ha, hak, hown⟩ | hk
      · rcases h.free a (List.mem_append_left _ ha) k hak with h1 | h1
        · by_cases ho : e.own
          · obtain ⟨b, hb, hbo, hbk⟩ := hown ho
            rcases h.free b (List.mem_append_left _ hb) k hbk with h3 | h3
            · exact .inl ⟨h1.1, fun _ => h3.2 hbo⟩
            · exact .inr h3
          · exact .inl ⟨h1.1, fun ho' => absurd ho' ho⟩
        · exact .inr h1
      · exact .inr (by omega)
    · exact h.free e (List.mem_append_right _ he) k hk
/-- Memory is told less of, in another order. -/
def pickL (L : List En) : List Nat → List En
  | [] => []
  | i :: r => match L[i]? with
    | some e => e :: pickL L r
    | none => pickL L r
def freshB : List Nat → Bool
  | [] => true
  | i :: r => !(r.contains i) && freshB r
theorem pickL_mem {L : List En} : ∀ {is : List Nat} {e : En}, e ∈ pickL L is → ∃ i ∈ is, L[i]? = some e
  | [], e, h => by cases h
  | i :: r, e, h => by
    unfold pickL at h
    split at h
    · rename_i e' he
      rcases List.mem_cons.1 h with rfl | h
      · exact ⟨i, by simp, he⟩
      · obtain ⟨j, hj, h2⟩ := pickL_mem h
        exact ⟨j, by simp [hj], h2⟩
    · obtain ⟨j, hj, h2⟩ := pickL_mem h
      exact ⟨j, by simp [hj], h2⟩
theorem pw_get {L : List En} (h : L.Pairwise Apart) {i j : Nat} {a b : En} (hi : L[i]? = some a) (hj : L[j]? = some b) (hne : i ≠ j) : Apart a b := by
  obtain ⟨h1, rfl⟩ := List.getElem?_eq_some_iff.1 hi
  obtain ⟨h2, rfl⟩ := List.getElem?_eq_some_iff.1 hj
  rcases Nat.lt_or_gt_of_ne hne with h3 | h3
  · exact List.pairwise_iff_getElem.1 h i j h1 h2 h3
  · exact (List.pairwise_iff_getElem.1 h j i h2 h1 h3).symm
theorem pickL_pw (h : L.Pairwise Apart) : ∀ {is : List Nat}, freshB is = true → (pickL L is).Pairwise Apart
  | [], _ => List.Pairwise.nil
  | i :: r, hf => by
    simp only [freshB, Bool.and_eq_true, Bool.not_eq_true', List.contains_eq_mem, decide_eq_false_iff_not] at hf
    unfold pickL
    split
    · rename_i e he
      refine List.Pairwise.cons (fun b hb => ?_) (pickL_pw h hf.2)
      obtain ⟨j, hj, h2⟩ := pickL_mem hb
      exact pw_get h he h2 (fun e => hf.1 (e ▸ hj))
    · exact pickL_pw h hf.2
theorem Own.re (h : Own Z w0 W L) (is : List Nat) (hf : freshB is = true) : Own Z w0 W (pickL L is) :=
  ⟨h.fr, fun e he => by obtain ⟨i, _, h2⟩ := pickL_mem he; exact h.has e (List.mem_of_getElem? h2), pickL_pw h.dist hf,
    fun e he => by obtain ⟨i, _, h2⟩ := pickL_mem he; exact h.free e (List.mem_of_getElem? h2)⟩
theorem Own.get (h : Own Z w0 W L) (i : Nat) {e : En} (hi : L[i]? = some e) : e.holds W := h.has e (List.mem_of_getElem? hi)
theorem Own.blk (h : Own Z w0 W L) (i : Nat) {g : Nat} {T : TypeId} {cs : Array Value} (hi : L[i]? = some (.blk g T cs)) : Blk W g T cs := h.get i hi
theorem Own.row (h : Own Z w0 W L) (i : Nat) {v : Value} {T : TypeId} {sz n : Nat} {xs : List Value} (hi : L[i]? = some (.row v T sz n xs)) : W.ownsRow 0 T sz v n xs := h.get i hi
theorem Own.map (h : Own Z w0 W L) (i : Nat) {g : Nat} {l : List (Value × Value)} (hi : L[i]? = some (.map g l)) : MapB W g l := h.get i hi
theorem Own.iter (h : Own Z w0 W L) (i : Nat) {g : Nat} {s : ByteArray} {pos : Nat} (hi : L[i]? = some (.iter g s pos)) : W.heap[g]? = some (.stringIter s pos) := h.get i hi
theorem Own.ro (h : Own Z w0 W L) (i : Nat) {D : Nat → Prop} {p : World → Prop} (hi : L[i]? = some (.ro D p)) : p W := (h.get i hi).1
/-- A cell of a block. -/
theorem Own.cell (h : Own Z w0 W L) (i j : Nat) {g : Nat} {T : TypeId} {cs : Array Value} {v : Value} (hi : L[i]? = some (.blk g T cs)) (hj : cs[j]? = some v) : W.cell? ⟨g, j, none⟩ = some v := ((h.blk i hi).cell j).trans hj
/-- What a call leaves that writes new memory alone. -/
theorem Own.below (h : Own Z w0 W L) (hb : Below W.heap.size W W') : Own Z w0 W' L :=
  h.step (A := []) (A' := []) (Frame.of_below hb) (fun _ _ hn => hn.elim) (fun e he => by cases he) List.Pairwise.nil (fun e he => by cases he)
theorem Own.drew (h : Own Z w0 W L) : Own Z w0 W.drew L := h.below (Below.refl _ _).drew
theorem Own.add (h : Own Z w0 W L) (hb : Below W.heap.size W W') {e : En} (he : e.holds W') (hd : ∀ k, e.dom k → W.heap.size ≤ k) : Own Z w0 W' (e :: L) :=
  h.step (A := []) (A' := [e]) (Frame.of_below hb) (fun _ _ hn => hn.elim) (fun e' he' => by rw [List.mem_singleton.1 he']; exact he) (List.pairwise_singleton _ _)
    (fun e' he' k hk => .inr (hd k (by rw [← List.mem_singleton.1 he']; exact hk)))
theorem Own.newb (h : Own Z w0 W L) (hb : Below W.heap.size W W') {g : Nat} {T : TypeId} {cs : Array Value} (hk : Blk W' g T cs) (hg : W.heap.size = g) : Own Z w0 W' (.blk g T cs :: L) :=
  h.add hb (e := .blk g T cs) hk (fun k q => by cases q; omega)
theorem Own.nilrow (h : Own Z w0 W L) (T : TypeId) (sz : Nat) : Own Z w0 W (.row (.slice none 0 0) T sz 0 [] :: L) :=
  h.add (Below.refl _ _) (e := .row (.slice none 0 0) T sz 0 []) (World.ownsRow_nil W 0 T sz) (fun k q => by cases q)
/-- One entry is written. -/
theorem Own.one {T : Nat → Prop} {e e' : En} (h : Own Z w0 W (e :: L)) (fr : Frame T W W') (ho : e.own) (hT : ∀ k, k < W.heap.size → T k → e.dom k) (hh : e'.holds W') (hd : ∀ k, e'.dom k → e.dom k ∨ W.heap.size ≤ k) : Own Z w0 W' (e' :: L) :=
  Own.step (A := [e]) (A' := [e']) h fr (fun k hk q => ⟨e, by simp, ho, hT k hk q⟩) (fun x hx => by rw [List.mem_singleton.1 hx]; exact hh) (List.pairwise_singleton _ _)
    (fun x hx k hk => by
      rw [List.mem_singleton.1 hx] at hk
      rcases hd k hk with h1 | h1
      · exact .inl ⟨e, by simp, h1, fun _ => ⟨e, by simp, ho, h1⟩⟩
      · exact .inr h1)
theorem Own.put {g : Nat} {T : TypeId} {cs : Array Value} (h : Own Z w0 W (.blk g T cs :: L)) (i : Nat) (u : Value) : Own Z w0 (W.setCell ⟨g, i, none⟩ u) (.blk g T (cs.setIfInBounds i u) :: L) :=
  h.one (Frame.put W g i u) trivial (fun _ _ q => q) ((h.blk 0 rfl).put i u) (fun _ q => .inl q)
theorem Own.app {T : TypeId} {sz n m : Nat} {v v' : Value} {xs ys : List Value} (h : Own Z w0 W (.row v T sz n xs :: L)) (hr : W'.ownsRow 0 T sz v' m ys) (fr : Frame (fun k => some k = v.ownBlock) W W') (hv : v'.ownBlock = v.ownBlock ∨ v'.ownBlock = some W.heap.size) :
    Own Z w0 W' (.row v' T sz m ys :: L) :=
  h.one fr trivial (fun _ _ q => q.symm) hr (fun k q => by
    rcases hv with e | e
    · exact .inl (show v.ownBlock = some k from e ▸ q)
    · have q' : v'.ownBlock = some k := q
      rw [e] at q'
      injection q' with q'
      exact .inr (Nat.le_of_eq q'))
theorem Own.mapput {g : Nat} {l l' : List (Value × Value)} (h : Own Z w0 W (.map g l :: L)) (hm : MapB W' g l') (fr : Frame (fun k => k = g) W W') : Own Z w0 W' (.map g l' :: L) :=
  h.one fr trivial (fun _ _ q => q) hm (fun _ q => .inl q)
/-- What a call leaves that was handed A. -/
theorem Own.frame {A' : List En} (h : Own Z w0 W (A ++ R)) (h' : Own (zone A) W W' A') : Own Z w0 W' (A' ++ R) :=
  h.step h'.fr (fun _ _ q => q) h'.has h'.dist (fun e he k hk => by
    rcases h'.free e he k hk with ⟨⟨a, ha, hak⟩, h2⟩ | h1
    · exact .inl ⟨a, ha, hak, h2⟩
    · exact .inr h1)
/-- What is handed to a call. -/
theorem Own.hand (h : Own Z w0 W (A ++ R)) : Own (zone A) W W A :=
  Own.enter (fun e he => h.has e (List.mem_append_left _ he)) (List.pairwise_append.1 h.dist).1
theorem Own.old (h : Own Z0 w0 W L) : Below w0.heap.size w0 W := h.fr.below (Nat.le_refl _) (fun k _ q => by cases q)
/-- An entry is told otherwise. -/
theorem Own.as {e e' : En} (h : Own Z w0 W (e :: L)) (hh : e'.holds W) (hd : ∀ k, e'.dom k → e.dom k) (ho : e'.own → e.own) : Own Z w0 W (e' :: L) :=
  Own.step (A := [e]) (A' := [e']) h (Frame.refl NoB _) (fun _ _ hn => hn.elim) (fun x hx => by rw [List.mem_singleton.1 hx]; exact hh) (List.pairwise_singleton _ _)
    (fun x hx k hk => by
      rw [List.mem_singleton.1 hx] at hk
      refine .inl ⟨e, by simp, hd k hk, fun hx' => ⟨e, by simp, ho ?_, hd k hk⟩⟩
      rw [← List.mem_singleton.1 hx]; exact hx')
end
end Go.Proofs.YtbemhgojfehnjaaDoor
namespace Go.Proofs.YtbemhgojfehnjaaDoor
open Go Go.RowKit

def isAggD : TypeDesc → Bool
  | .struct _ => true
  | .array _ _ => true
  | _ => false
/-- How many cells a value of a type takes, and whether it is a struct or an array. -/
structure TyB (T : TypeId) (n : Nat) (b : Bool) : Prop where
  size : (Tryd.prog.info? T).map (·.size) = some n
  agg : (Tryd.prog.underlying T).map isAggD = some b
def ZeroB (T : TypeId) (z : Value) : Prop := (Tryd.prog.info? T).map (·.zero) = some (some z)
/-- The element of a slice's type, and how many cells it takes. -/
structure ElB (T e : TypeId) (n : Nat) : Prop where
  elem : Tryd.prog.underlying T = some (.slice e)
  size : (Tryd.prog.info? e).map (·.size) = some n
/-- Where a field of a struct's type lies. -/
structure FieldB (T : TypeId) (f off : Nat) : Prop where
  at_ : ∃ fs F, Tryd.prog.underlying T = some (.struct fs) ∧ fs[f]? = some F ∧ F.offset = off ∧ ∃ n, (Tryd.prog.info? F.type).map (·.size) = some (n + 1)
theorem map_size {o : Option TypeInfo} {n : Nat} (h : o.map (·.size) = some n) : ∃ i, o = some i ∧ i.size = n := by
  cases o with
  | none => cases h
  | some i => exact ⟨i, rfl, Option.some.inj h⟩
section
variable {w : World} {T : TypeId} {n : Nat} {b : Bool}
theorem run_isAgg (h : TyB T n b) : (isAgg T).run Tryd.prog w = .ok b w := by
  have h2 := h.agg
  cases hd : Tryd.prog.underlying T with
  | none => rw [hd] at h2; cases h2
  | some d =>
    rw [hd] at h2
    have h3 : isAggD d = b := Option.some.inj h2
    clear h2
    unfold isAgg
    simp only [Sem.run_bind, run_underlying hd, Result.andThen_ok]
    rw [← h3]
    cases d <;> rfl
theorem run_size (h : (Tryd.prog.info? T).map (·.size) = some n) : (Go.sizeOf T).run Tryd.prog w = .ok n w := by
  obtain ⟨i, hi, rfl⟩ := map_size h
  simp [Go.sizeOf, typeInfo, hi]
theorem run_zeroB {z : Value} (h : ZeroB T z) : (zeroValue T).run Tryd.prog w = .ok z w := by
  unfold ZeroB at h
  cases hi : Tryd.prog.info? T with
  | none => rw [hi] at h; cases h
  | some i =>
    rw [hi] at h
    simp at h
    simp [zeroValue, typeInfo, hi, h]
theorem addr_plus (g o i : Nat) : (⟨g, o, none⟩ : Addr).add i = ⟨g, o + i, none⟩ := by unfold Addr.add; split <;> simp_all
theorem run_loadFrom (g o : Nat) (vs : List Value) (h : ∀ j v, vs[j]? = some v → w.cell? ⟨g, o + j, none⟩ = some v) : ∀ (n i : Nat) (acc : Array Value), i + n = vs.length → (loadCellsFrom ⟨g, o, none⟩ i n acc).run Tryd.prog w = .ok (acc ++ (vs.drop i).toArray) w
  | 0, i, acc, hn => by
    rw [List.drop_eq_nil_of_le (by omega)]
    simp [loadCellsFrom]
  | n + 1, i, acc, hn => by
    have hi : i < vs.length := by omega
    have hc := h i vs[i] (List.getElem?_eq_getElem hi)
    unfold loadCellsFrom
    simp only [Sem.run_bind, addr_plus, run_load, hc, Result.andThen_ok]
    rw [run_loadFrom g o vs h n (i + 1) _ (by omega), List.drop_eq_getElem_cons hi]
    simp
end
def cmpB (op : BinOp) (u v : Int) : Option Bool := match op with
  | .eql => some (u == v)
  | .neq => some (u != v)
  | .lss => some (decide (u < v))
  | .leq => some (decide (u ≤ v))
  | .gtr => some (decide (v < u))
  | .geq => some (decide (v ≤ u))
  | _ => none
section
variable {u v : Int}
theorem eql1 (h : u = v) : cmpB .eql u v = some true := by simp [cmpB, h]
theorem eql0 (h : u ≠ v) : cmpB .eql u v = some false := by simp [cmpB, h]
theorem neq1 (h : u ≠ v) : cmpB .neq u v = some true := by simp [cmpB, h]
theorem neq0 (h : u = v) : cmpB .neq u v = some false := by simp [cmpB, h]
theorem lss1 (h : u < v) : cmpB .lss u v = some true := by simp [cmpB, h]
theorem lss0 (h : v ≤ u) : cmpB .lss u v = some false := by simp [cmpB]; omega
theorem leq1 (h : u ≤ v) : cmpB .leq u v = some true := by simp [cmpB, h]
theorem leq0 (h : v < u) : cmpB .leq u v = some false := by simp [cmpB]; omega
theorem gtr1 (h : v < u) : cmpB .gtr u v = some true := by simp [cmpB, h]
theorem gtr0 (h : u ≤ v) : cmpB .gtr u v = some false := by simp [cmpB]; omega
theorem geq1 (h : v ≤ u) : cmpB .geq u v = some true := by simp [cmpB, h]
theorem geq0 (h : u < v) : cmpB .geq u v = some false := by simp [cmpB]; omega
end
/-- Some cells behind each other, written. -/
def putN (w : World) (g o : Nat) : List Value → World
  | [] => w
  | v :: r => putN (w.setCell ⟨g, o, none⟩ v) g (o + 1) r
def setN (cs : Array Value) (o : Nat) : List Value → Array Value
  | [] => cs
  | v :: r => setN (cs.setIfInBounds o v) (o + 1) r
theorem setN_size : ∀ (vs : List Value) (cs : Array Value) (o : Nat), (setN cs o vs).size = cs.size
  | [], _, _ => rfl
  | v :: r, cs, o => by unfold setN; rw [setN_size r]; simp
theorem run_storeFrom (g o : Nat) (T : TypeId) : ∀ (vs : List Value) (w : World) (cs : Array Value) (i : Nat), Blk w g T cs → o + i + vs.length ≤ cs.size → (∀ v ∈ vs, v.oneCell' = true) → (storeCells ⟨g, o, none⟩ vs i).run Tryd.prog w = .ok () (putN w g (o + i) vs)
  | [], w, cs, i, _, _, _ => by simp [storeCells, putN]
  | v :: r, w, cs, i, hk, hn, h1 => by
    have hi : o + i < cs.size := by simp at hn; omega
    unfold storeCells putN
    have hc := hk.cell (o + i)
    rw [Array.getElem?_eq_getElem hi] at hc
    simp only [Sem.run_bind, addr_plus, run_store _ _ _ _ _ (h1 v (by simp)), hc, hk.free, Bool.false_eq_true, if_false, Result.andThen_ok]
    have := run_storeFrom g o T r (w.setCell ⟨g, o + i, none⟩ v) (cs.setIfInBounds (o + i) v) (i + 1) (hk.put _ _) (by simp at hn ⊢; omega) (fun u hu => h1 u (by simp [hu]))
    rw [this, Nat.add_assoc]
section
variable {ρ : Operand → Value} {d : Option Tmp} {x y z : Operand} {t T : TypeId} {pos : String} {aft : Array Edge} {gd : Option (Nat × Bool)} {w : World} {n : Nat} {b : Bool}
theorem ex_load1 {p : Addr} {v : Value} (hT : TyB T 1 false) (hx : ρ x = .pointer (some p)) (h : w.cell? p = some v) : (execOp ρ ⟨d, .load T x, t, pos, aft, gd⟩).run Tryd.prog w = .ok (.value v) w := by
  simp [execOp, Instr.loadAt, Instr.sureAddr, loadVar, hx, run_isAgg hT, h]
theorem ex_loadN {g o : Nat} {vs : List Value} (hT : TyB T n true) (hx : ρ x = .pointer (some ⟨g, o, none⟩)) (hn : vs.length = n) (h : ∀ j v, vs[j]? = some v → w.cell? ⟨g, o + j, none⟩ = some v) : (execOp ρ ⟨d, .load T x, t, pos, aft, gd⟩).run Tryd.prog w = .ok (.value (.agg vs.toArray)) w := by
  have := run_loadFrom g o vs h n 0 #[] (by omega)
  simp [execOp, Instr.loadAt, Instr.sureAddr, loadVar, hx, run_isAgg hT, run_size hT.size, loadCells, this]
theorem cells2 {g o : Nat} {a b : Value} (h0 : w.cell? ⟨g, o, none⟩ = some a) (h1 : w.cell? ⟨g, o + 1, none⟩ = some b) : ∀ j v, [a, b][j]? = some v → w.cell? ⟨g, o + j, none⟩ = some v := by
  intro j v hj
  match j, hj with
  | 0, hj => injection hj with hj; subst hj; exact h0
  | 1, hj => injection hj with hj; subst hj; exact h1
theorem cells3 {g o : Nat} {a b c : Value} (h0 : w.cell? ⟨g, o, none⟩ = some a) (h1 : w.cell? ⟨g, o + 1, none⟩ = some b) (h2 : w.cell? ⟨g, o + 2, none⟩ = some c) : ∀ j v, [a, b, c][j]? = some v → w.cell? ⟨g, o + j, none⟩ = some v := by
  intro j v hj
  match j, hj with
  | 0, hj => injection hj with hj; subst hj; exact h0
  | 1, hj => injection hj with hj; subst hj; exact h1
  | 2, hj => injection hj with hj; subst hj; exact h2
theorem ex_idx {g o q m c i e sz : Nat} (hT : ElB T e sz) (hx : ρ x = .slice (some ⟨g, o, none⟩) m c) (hy : ρ y = .int .i64 (i : Int)) (h1 : i < m) (hq : o + i * sz = q) : (execOp ρ ⟨d, .indexAddr T x y, t, pos, aft, gd⟩).run Tryd.prog w = .ok (.value (.pointer (some ⟨g, q, none⟩))) w := by
  subst hq
  simp [execOp, Instr.indexAt, hx, hy, asIntOf, run_underlying hT.elem, h1, run_size hT.size, addr_plus]
theorem ex_field {g o q f off : Nat} (hT : FieldB T f off) (hx : ρ x = .pointer (some ⟨g, o, none⟩)) (hq : o + off = q) : (execOp ρ ⟨d, .fieldAddr T x f, t, pos, aft, gd⟩).run Tryd.prog w = .ok (.value (.pointer (some ⟨g, q, none⟩))) w := by
  obtain ⟨fs, F, hu, hf, rfl, k, hk⟩ := hT.at_
  subst hq
  simp [execOp, Instr.fieldAt, Instr.sureAddr, hx, run_underlying hu, hf, fieldPlace, run_size hk, addr_plus]
theorem ex_nil {g o : Nat} (hx : ρ x = .pointer (some ⟨g, o, none⟩)) : (execOp ρ ⟨d, .nilCheck x, t, pos, aft, gd⟩).run Tryd.prog w = .ok (.value (.pointer (some ⟨g, o, none⟩))) w := by
  simp [execOp, hx]
theorem ex_len {A : Option Addr} {k c e sz : Nat} (hT : ElB T e sz) (hx : ρ x = .slice A k c) : (execOp ρ ⟨d, .call ⟨.builtin .len, #[x], #[T]⟩, t, pos, aft, gd⟩).run Tryd.prog w = .ok (.value (.int .i64 (k : Int))) w := by
  simp [go_sem, hx, hT.elem]
theorem ex_cmp {op : BinOp} {k : IntKind} {u v : Int} {r : Bool} {T1 : TypeId} (hx : ρ x = .int k u) (hy : ρ y = .int k v) (h : cmpB op u v = some r) :
    (execOp ρ ⟨d, .binOp op T x y T1, t, pos, aft, gd⟩).run Tryd.prog w = .ok (.value (.bool r)) w := by
  cases op <;> first | (cases h; done) | skip
  all_goals injection h with h
  all_goals subst h
  all_goals simp [execOp, hx, hy, eqGuard, binOp, Op.intCmp]
end
end Go.Proofs.YtbemhgojfehnjaaDoor
namespace Go.Proofs.YtbemhgojfehnjaaDoor
open Go Go.RowKit

/-- What is known of an element's type. -/
structure El (te e : TypeId) (size bytes : Nat) (z : Value) : Prop where
  under : Tryd.prog.underlying te = some (.slice e)
  info : (Tryd.prog.info? e).map (fun i => (i.zero, i.size, i.bytes)) = some (some z, size, bytes)
  cells : z.cells.size = size
  pos : 0 < size
section
variable {te e : TypeId} {size bytes : Nat} {z : Value}
theorem run_append_cells (E : El te e size bytes z) {w : World} {v : Value} {n g base : Nat} {xs cells : List Value} (ty : TypeId) (hown : w.ownsRow base e size v n xs) (hk : Blk w g e cells.toArray) (hl : cells.length = size) (h1 : ∀ u ∈ cells, u.oneCell' = true)
    (hlen : (n + 1) * bytes ≤ 140737488355328) (hn : n ≤ 1099511627776) (hbase : base ≤ w.heap.size) :
    ∃ A c w', (Builtin.append_ #[te, te] ty #[v, .slice (some ⟨g, 0, none⟩) 1 1]).run Tryd.prog w = .ok (.slice A (n + 1) c) w' ∧ w'.ownsRow base e size (.slice A (n + 1) c) (n + 1) (xs ++ cells) ∧ w.grownBy w' v.ownBlock ∧ ((Value.slice A (n + 1) c).ownBlock = v.ownBlock ∨ (Value.slice A (n + 1) c).ownBlock = some w.heap.size) := by
  obtain ⟨i, hi, hz, hsz, hb⟩ := info_parts E.info
  obtain ⟨v', w', hrun, h2, h3, _, h5⟩ := run_append_own_at (P := Tryd.prog) (w := w) base te ty e i _ size bytes E.under hi hz hsz hb E.cells E.pos v _ _ hown ⟨g, 0, none⟩ 1 1 cells (by omega)
    (fun j u hu => by
      have hadd : (⟨g, 0, none⟩ : Addr).add j = ⟨g, j, none⟩ := by unfold Addr.add; split <;> simp_all
      rw [hadd, hk.cell j]
      simpa using hu)
    h1 (by unfold maxLen; omega) hlen hbase
  obtain ⟨A, c, rfl⟩ := own_form h2
  exact ⟨A, c, w', hrun, h2, h3, h5⟩
theorem exec_append {ρ : Operand → Value} {d : Option Tmp} {x y : Operand} {t : TypeId} {pos : String} {aft : Array Edge} {gd : Option (Nat × Bool)} {w w' : World} {v u V : Value} (hx : ρ x = v) (hy : ρ y = u) (h : (Builtin.append_ #[te, te] t #[v, u]).run Tryd.prog w = .ok V w') :
    (execOp ρ ⟨d, .call ⟨.builtin .append, #[x, y], #[te, te]⟩, t, pos, aft, gd⟩).run Tryd.prog w = .ok (.value V) w' := by
  unfold execOp
  simp only [resolve, invoke, builtin, Sem.run_bind, Sem.run_pure, Result.andThen_ok, List.map_toArray, List.map_cons, List.map_nil, hx, hy, h]
end
section
variable {te e : TypeId} {size bytes : Nat} {z : Value} {ops : Array Oper} {Q : Exit → Act → World → Prop} {S : World → Prop} {r : List (Nat × Nat)} {rest : List Oper} {n : Nat} {m : List (Nat × Value)} {w : World} {i d : Nat} {t : TypeId} {pos : String} {aft : Array Edge} {gd : Option (Nat × Bool)}
variable {x y : Operand} {v : Value} {k g base : Nat} {xs cells : List Value}
theorem wl_app (E : El te e size bytes z) (hx : ev m x = some v) (hy : ev m y = some (.slice (some ⟨g, 0, none⟩) 1 1)) (hg : wantedM ops m gd = some true) (hd : Nat.blt d n = true) (hown : w.ownsRow base e size v k xs) (hk : Blk w g e cells.toArray) (hl : cells.length = size) (h1 : ∀ u ∈ cells, u.oneCell' = true) (hlen : (k + 1) * bytes ≤ 140737488355328) (hn : k ≤ 1099511627776) (hbase : base ≤ w.heap.size)
    (h : ∀ A c w', w'.ownsRow base e size (.slice A (k + 1) c) (k + 1) (xs ++ cells) → Frame (fun j => some j = v.ownBlock) w w' → ((Value.slice A (k + 1) c).ownBlock = v.ownBlock ∨ (Value.slice A (k + 1) c).ownBlock = some w.heap.size) → wl Tryd.prog ops Q rest n ((d, .slice A (k + 1) c) :: m) w') :
    wl Tryd.prog ops Q (⟨some d, .call ⟨.builtin .append, #[x, y], #[te, te]⟩, t, pos, aft, gd⟩ :: rest) n m w := by
  obtain ⟨A, c, w', h2, h3, h4, h5⟩ := run_append_cells E t hown hk hl h1 hlen hn hbase
  exact wl_val (fun ρ e => exec_append (e _ _ hx) (e _ _ hy) h2) hg hd (h A c w' h3 (.grown h4) h5)
theorem wt2_app (ho : ops[i]? = some ⟨some d, .call ⟨.builtin .append, #[x, y], #[te, te]⟩, t, pos, aft, gd⟩) (E : El te e size bytes z) (hx : ev m x = some v) (hy : ev m y = some (.slice (some ⟨g, 0, none⟩) 1 1)) (hg : wantedM ops m gd = some true) (hd : Nat.blt d n = true) (hown : w.ownsRow base e size v k xs) (hk : Blk w g e cells.toArray) (hl : cells.length = size) (h1 : ∀ u ∈ cells, u.oneCell' = true) (hlen : (k + 1) * bytes ≤ 140737488355328) (hn : k ≤ 1099511627776) (hbase : base ≤ w.heap.size)
    (h : ∀ A c w', w'.ownsRow base e size (.slice A (k + 1) c) (k + 1) (xs ++ cells) → Frame (fun j => some j = v.ownBlock) w w' → ((Value.slice A (k + 1) c).ownBlock = v.ownBlock ∨ (Value.slice A (k + 1) c).ownBlock = some w.heap.size) → S w' ∧ wt Tryd.prog ops Q S r n ((d, .slice A (k + 1) c) :: m) w') :
    wt Tryd.prog ops Q S ((i, 2) :: r) n m w := by
  obtain ⟨A, c, w', h2, h3, h4, h5⟩ := run_append_cells E t hown hk hl h1 hlen hn hbase
  obtain ⟨h6, h7⟩ := h A c w' h3 (.grown h4) h5
  exact wt2 ho (fun ρ e => exec_append (e _ _ hx) (e _ _ hy) h2) hg hd h6 h7
theorem wt3_app (ho : ops[i]? = some ⟨some d, .call ⟨.builtin .append, #[x, y], #[te, te]⟩, t, pos, aft, gd⟩) (E : El te e size bytes z) (hx : ev m x = some v) (hy : ev m y = some (.slice (some ⟨g, 0, none⟩) 1 1)) (hg : wantedM ops m gd = some true) (hd : Nat.blt d n = true) (hown : w.ownsRow base e size v k xs) (hk : Blk w g e cells.toArray) (hl : cells.length = size) (h1 : ∀ u ∈ cells, u.oneCell' = true) (hlen : (k + 1) * bytes ≤ 140737488355328) (hn : k ≤ 1099511627776) (hbase : base ≤ w.heap.size)
    (h : ∀ A c w', w'.ownsRow base e size (.slice A (k + 1) c) (k + 1) (xs ++ cells) → Frame (fun j => some j = v.ownBlock) w w' → ((Value.slice A (k + 1) c).ownBlock = v.ownBlock ∨ (Value.slice A (k + 1) c).ownBlock = some w.heap.size) → wt Tryd.prog ops Q S r n ((d, .slice A (k + 1) c) :: m) w') :
    wt Tryd.prog ops Q S ((i, 3) :: r) n m w := by
  obtain ⟨A, c, w', h2, h3, h4, h5⟩ := run_append_cells E t hown hk hl h1 hlen hn hbase
  exact wt3 ho (fun ρ e => exec_append (e _ _ hx) (e _ _ hy) h2) hg hd (h A c w' h3 (.grown h4) h5)
end
theorem elInt : El 36 3 1 8 (.int .i64 0) := ⟨Tryd.underlying36, by kernel_rfl, rfl, by decide⟩
theorem elGate : El 22 38 3 40 (.agg #[.int .i64 0, .int .i64 0, .slice none 0 0]) := ⟨Tryd.underlying22, by kernel_rfl, rfl, by decide⟩
theorem elByte : El 92 5 1 1 (.int .u8 0) := ⟨Tryd.underlying92, by kernel_rfl, rfl, by decide⟩
theorem elBool : El 41 4 1 1 (.bool false) := ⟨Tryd.underlying41, by kernel_rfl, rfl, by decide⟩
end Go.Proofs.YtbemhgojfehnjaaDoor
namespace Go.Proofs.YtbemhgojfehnjaaDoor
open Go Go.RowKit

/-- The parts of a composite value, by slot. -/
def evp (m : List (Nat × Value)) : List (Nat × Operand) → Option (List (Nat × Value))
  | [] => some []
  | (i, x) :: l => match ev m x, evp m l with
    | some v, some r => some ((i, v) :: r)
    | _, _ => none
theorem Reads.parts {m : List (Nat × Value)} {ρ : Operand → Value} (h : Reads m ρ) : ∀ {l : List (Nat × Operand)} {vs : List (Nat × Value)}, evp m l = some vs → l.map (fun p => (p.1, ρ p.2)) = vs
  | [], vs, hx => by simp only [evp, Option.some.injEq] at hx; subst hx; rfl
  | (i, x) :: l, vs, hx => by
    simp only [evp] at hx
    split at hx
    · rename_i v r hv hr
      injection hx with hx
      subst hx
      simp only [List.map_cons, h x v hv, h.parts hr]
    · cases hx
/-- How a struct's value is built. -/
structure StB (T : TypeId) (places : Array (Nat × Nat)) (zero : Array Value) : Prop where
  z : ∃ zv, ZeroB T zv ∧ zv.cells = zero
  st : ∃ fs, Tryd.prog.underlying T = some (.struct fs) ∧ ∀ w, (fs.mapM fun f => do pure (f.offset, ← Go.sizeOf f.type) : Sem (Array (Nat × Nat))).run Tryd.prog w = .ok places w
def lookV (r : Option (Nat × Value)) (z : Value) : Value := match r with
  | some p => p.2
  | none => z
/-- The cells of a slice that is written out. -/
def rowFill (n sz : Nat) (z : Value) (ps : List (Nat × Value)) : Option (Array Value) :=
  Instr.fill (fun i => some (i * sz, sz)) ((Array.range (n * sz)).map ((if n * sz = 0 then #[] else z.cells)[· % (if n * sz = 0 then #[] else z.cells).size]!)) ps
section
variable {Z : Bool → Nat → Prop} {w0 w : World} {L : List En}
theorem ex_build {ρ : Operand → Value} {d : Option Tmp} {t T : TypeId} {pos : String} {aft : Array Edge} {gd : Option (Nat × Bool)} {places : Array (Nat × Nat)} {zero cells : Array Value} {xs : List (Nat × Operand)} {ps : List (Nat × Value)} (hS : StB T places zero) (hx : xs.map (fun p => (p.1, ρ p.2)) = ps) (hf : Instr.fill (places[·]?) zero ps = some cells) :
    (execOp ρ ⟨d, .build T xs.toArray, t, pos, aft, gd⟩).run Tryd.prog w = .ok (.value (.agg cells)) w := by
  obtain ⟨⟨zv, hz, rfl⟩, fs, hu, hp⟩ := hS
  subst hx
  simp only [execOp, Instr.build, Sem.run_bind, run_zeroB hz, run_underlying hu, hp, Result.andThen_ok, List.map_toArray]
  rw [hf]
  rfl
/-- How an array's value is built. -/
structure ArB (T : TypeId) (sz : Nat) (zero : Array Value) : Prop where
  z : ∃ zv, ZeroB T zv ∧ zv.cells = zero
  st : ∃ n e, Tryd.prog.underlying T = some (.array n e) ∧ (Tryd.prog.info? e).map (·.size) = some sz
theorem ex_buildA {ρ : Operand → Value} {d : Option Tmp} {t T sz : TypeId} {pos : String} {aft : Array Edge} {gd : Option (Nat × Bool)} {zero cells : Array Value} {xs : List (Nat × Operand)} {ps : List (Nat × Value)} (hS : ArB T sz zero) (hx : xs.map (fun p => (p.1, ρ p.2)) = ps) (hf : Instr.fill (fun i => some (i * sz, sz)) zero ps = some cells) :
    (execOp ρ ⟨d, .build T xs.toArray, t, pos, aft, gd⟩).run Tryd.prog w = .ok (.value (.agg cells)) w := by
  obtain ⟨⟨zv, hz, rfl⟩, n, e, hu, hp⟩ := hS
  subst hx
  simp only [execOp, Instr.build, Sem.run_bind, run_zeroB hz, run_underlying hu, run_size hp, Result.andThen_ok, List.map_toArray]
  rw [hf]
  rfl
theorem own_box (hO : Own Z w0 w L) (T : TypeId) (v : Value) {cs : Array Value} (hc : v.cells = cs) :
    ∃ g w', (∀ (ρ : Operand → Value) x d t pos aft gd, ρ x = v → (execOp ρ ⟨d, .box T x, t, pos, aft, gd⟩).run Tryd.prog w = .ok (.value (.pointer (some ⟨g, 0, none⟩))) w') ∧ Own Z w0 w' (.blk g T cs :: L) ∧ w.heap.size = g ∧ w'.heap.size = g + 1 := by
  subst hc
  refine ⟨w.heap.size, w.alloc (.cells v.cells T), fun ρ x d t pos aft gd hx => ?_, hO.newb ((Below.refl _ _).alloc (Nat.le_refl _) _) (Blk.new _ _ _) rfl, rfl, by simp⟩
  simp [execOp, Instr.box, newVar, newRow, hx]
theorem own_alloc (hO : Own Z w0 w L) (T : TypeId) {z : Value} (hz : ZeroB T z) {cs : Array Value} (hc : z.cells = cs) :
    ∃ g w', (∀ (ρ : Operand → Value) d t pos aft gd, (execOp ρ ⟨d, .alloc T, t, pos, aft, gd⟩).run Tryd.prog w = .ok (.value (.pointer (some ⟨g, 0, none⟩))) w') ∧ Own Z w0 w' (.blk g T cs :: L) ∧ w.heap.size = g ∧ w'.heap.size = g + 1 := by
  subst hc
  refine ⟨w.heap.size, w.alloc (.cells z.cells T), fun ρ d t pos aft gd => ?_, hO.newb ((Below.refl _ _).alloc (Nat.le_refl _) _) (Blk.new _ _ _) rfl, rfl, by simp⟩
  simp [execOp, Instr.alloc, newVar, newRow, run_zeroB hz]
theorem own_slice (hO : Own Z w0 w L) {T e sz : Nat} (hT : ElB T e sz) {z : Value} (hz : ZeroB e z) (n : Nat) (ps : List (Nat × Value)) {cs : Array Value} (hn : n * sz ≤ 16777216) (hc : rowFill n sz z ps = some cs) :
    ∃ g w', (∀ (ρ : Operand → Value) (xs : List (Nat × Operand)) d t pos aft gd, xs.map (fun p => (p.1, ρ p.2)) = ps → (execOp ρ ⟨d, .buildSlice T n xs.toArray, t, pos, aft, gd⟩).run Tryd.prog w = .ok (.value (.slice (some ⟨g, 0, none⟩) n n)) w') ∧ Own Z w0 w' (.blk g e cs :: L) ∧ w.heap.size = g ∧ w'.heap.size = g + 1 := by
  refine ⟨w.heap.size, w.alloc (.cells cs e), fun ρ xs d t pos aft gd hx => ?_, hO.newb ((Below.refl _ _).alloc (Nat.le_refl _) _) (Blk.new _ _ _) rfl, rfl, by simp⟩
  subst hx
  unfold rowFill at hc
  by_cases h0 : n * sz = 0
  · simp only [if_pos h0] at hc
    simp only [execOp, Instr.buildSlice, Sem.run_bind, run_underlying hT.elem, run_size hT.size, Result.andThen_ok, List.map_toArray, if_neg (show ¬ (n * sz > 2 ^ 24) by omega), if_pos h0, Sem.run_pure]
    rw [hc]
    simp [newRow]
  · simp only [if_neg h0] at hc
    simp only [execOp, Instr.buildSlice, Sem.run_bind, run_underlying hT.elem, run_size hT.size, Result.andThen_ok, List.map_toArray, if_neg (show ¬ (n * sz > 2 ^ 24) by omega), if_neg h0, run_zeroB hz, Sem.run_pure]
    rw [hc]
    simp [newRow]
theorem blk_putN {g : Nat} {T : TypeId} : ∀ (vs : List Value) {w : World} {cs : Array Value} {o : Nat}, Own Z w0 w (.blk g T cs :: L) → Own Z w0 (putN w g o vs) (.blk g T (setN cs o vs) :: L)
  | [], _, _, _, h => h
  | v :: r, _, _, o, h => blk_putN r (h.put o v)
theorem putN_size (g : Nat) : ∀ (vs : List Value) (w : World) (o : Nat), (putN w g o vs).heap.size = w.heap.size
  | [], _, _ => rfl
  | v :: r, w, o => by unfold putN; rw [putN_size g r]; simp [World.setCell]
theorem own_put {g o n : Nat} {b : Bool} {T T' : TypeId} {cs cs' : Array Value} (hO : Own Z w0 w (.blk g T' cs :: L)) (hT : TyB T n b) (v : Value) (vs : List Value) (hv : v.cells.toList = vs) (h1 : vs.all (·.oneCell') = true) (hn : vs.length = n) (hc : o + n ≤ cs.size) (hcs : setN cs o vs = cs') :
    ∃ w', (∀ (ρ : Operand → Value) x y t pos aft gd, ρ x = .pointer (some ⟨g, o, none⟩) → ρ y = v → (execOp ρ ⟨none, .store T x y, t, pos, aft, gd⟩).run Tryd.prog w = .ok .skip w') ∧ Own Z w0 w' (.blk g T' cs' :: L) ∧ w'.heap.size = w.heap.size := by
  subst hcs
  refine ⟨putN w g o vs, fun ρ x y t pos aft gd hx hy => ?_, blk_putN vs hO, putN_size g vs w o⟩
  have h2 := run_storeFrom g o T' vs w cs 0 (hO.blk 0 rfl) (by omega) (fun u hu => by simpa using List.all_eq_true.1 h1 u hu)
  have h3 : v.cells.size = n := by rw [← hn, ← hv]; simp
  simp only [execOp, Instr.storeAt, Instr.sureAddr, hx, hy, storeVar, Sem.run_bind, Sem.run_pure, Result.andThen_ok, run_size hT.size, h3, ne_eq, not_true, if_false, hv, h2, Nat.add_zero]
theorem own_app1 {te e : TypeId} {size bytes : Nat} {z v : Value} {k g : Nat} {xs cells : List Value} (hO : Own Z w0 w (.row v e size k xs :: L)) (E : El te e size bytes z) (hk : Blk w g e cells.toArray) (hl : cells.length = size) (h1 : cells.all (·.oneCell') = true) (hlen : (k + 1) * bytes ≤ 140737488355328) (hn : k ≤ 1099511627776) {ys : List Value} (hy : xs ++ cells = ys) :
    ∃ A c w', (∀ (ρ : Operand → Value) x y d t pos aft gd, ρ x = v → ρ y = .slice (some ⟨g, 0, none⟩) 1 1 → (execOp ρ ⟨d, .call ⟨.builtin .append, #[x, y], #[te, te]⟩, t, pos, aft, gd⟩).run Tryd.prog w = .ok (.value (.slice A (k + 1) c)) w') ∧
      Own Z w0 w' (.row (.slice A (k + 1) c) e size (k + 1) ys :: L) ∧ w.heap.size ≤ w'.heap.size ∧ k + 1 ≤ c := by
  subst hy
  obtain ⟨i, hi, hz, hsz, hb⟩ := info_parts E.info
  have hown := hO.row 0 rfl
  obtain ⟨v', w', hrun, h2, h3, _, h5⟩ := run_append_own_at (P := Tryd.prog) (w := w) 0 te 0 e i _ size bytes E.under hi hz hsz hb E.cells E.pos v _ _ hown ⟨g, 0, none⟩ 1 1 cells (by omega)
    (fun j u hu => by
      rw [addr_plus, Nat.zero_add, hk.cell j]
      simpa using hu)
    (fun u hu => by simpa using List.all_eq_true.1 h1 u hu) (by unfold maxLen; omega) hlen (Nat.zero_le _)
  obtain ⟨A, c, rfl⟩ := own_form h2
  have hcap : k + 1 ≤ c := by
    rcases h2.2 with ⟨_, h6⟩ | ⟨g', cap, cur, h6, _, _, h7, _⟩
    · omega
    · injection h6 with _ _ h6
      omega
  refine ⟨A, c, w', fun ρ x y d t pos aft gd hx hy => ?_, hO.app h2 (.grown h3) h5, h3.size, hcap⟩
  exact exec_append hx hy (by
    have : ∀ ty ty', Builtin.append_ #[te, te] ty #[v, .slice (some ⟨g, 0, none⟩) 1 1] = Builtin.append_ #[te, te] ty' #[v, .slice (some ⟨g, 0, none⟩) 1 1] := fun _ _ => rfl
    rw [this t 0]
    exact hrun)
theorem own_makeMap (hO : Own Z w0 w L) (T : TypeId) :
    ∃ g w', (∀ (ρ : Operand → Value) d t pos aft gd, (execOp ρ ⟨d, .makeMap T none, t, pos, aft, gd⟩).run Tryd.prog w = .ok (.value (.map (some g))) w') ∧ Own Z w0 w' (.map g [] :: L) ∧ w.heap.size = g ∧ w'.heap.size = g + 1 := by
  refine ⟨w.heap.size, w.alloc (.map #[] 0), fun ρ d t pos aft gd => ?_, hO.add ((Below.refl _ _).alloc (Nat.le_refl _) _) (e := .map w.heap.size []) ⟨#[], 0, heap_alloc_new w _, rfl⟩ (fun k q => Nat.le_of_eq q.symm), rfl, by simp⟩
  simp [execOp, Instr.makeMap]
section
variable {κ : Type} [DecidableEq κ] {enc : κ → Value} {kind : TypeDesc} {T kt e : TypeId} {g : Nat} {l : List (κ × Value)}
theorem ex_look {ρ : Operand → Value} {x y : Operand} {d : Option Tmp} {t : TypeId} {pos : String} {aft : Array Edge} {gd : Option (Nat × Bool)} (K : Key enc kind) (ht : Tryd.prog.underlying T = some (.map kt e)) (hk : Tryd.prog.underlying kt = some kind) {z : Value} (hz : ZeroB e z) (h : MapB w g (encL enc l)) (k : κ) {r : Option (Nat × Value)} (hr : look k l 0 = r) (ok : Bool) (hx : ρ x = .map (some g)) (hy : ρ y = enc k) {V : Value} (hV : (if ok then .tuple #[lookV r z, .bool r.isSome] else lookV r z) = V) :
    (execOp ρ ⟨d, .lookup T x y ok, t, pos, aft, gd⟩).run Tryd.prog w = .ok (.value V) w := by
  subst hV
  have := run_look K ht hk h k hr (run_zeroB hz (w := w)) ok
  cases r <;> simp only [execOp, hx, hy, Sem.run_bind, this, Result.andThen_ok, Sem.run_pure] <;> rfl
theorem own_mapput (hO : Own Z w0 w (.map g (encL enc l) :: L)) (K : Key enc kind) (ht : Tryd.prog.underlying T = some (.map kt e)) (hk : Tryd.prog.underlying kt = some kind) (k : κ) (v : Value) :
    ∃ w', (∀ (ρ : Operand → Value) x y z t pos aft gd, ρ x = .map (some g) → ρ y = enc k → ρ z = v → (execOp ρ ⟨none, .mapUpdate T x y z, t, pos, aft, gd⟩).run Tryd.prog w = .ok .skip w') ∧ Own Z w0 w' (.map g (encL enc (aput k v l)) :: L) ∧ w'.heap.size = w.heap.size := by
  obtain ⟨w', h1, h2, h3, h4⟩ := run_put K ht hk (hO.map 0 rfl) k v
  refine ⟨w', fun ρ x y z t pos aft gd hx hy hz => ?_, hO.mapput h2 h3, h4⟩
  simp only [execOp, hx, hy, hz, Sem.run_bind, h1, Result.andThen_ok, Sem.run_pure]
end
end
section
variable {ρ : Operand → Value} {d : Option Tmp} {x y z : Operand} {t T : TypeId} {pos : String} {aft : Array Edge} {gd : Option (Nat × Bool)} {w : World}
theorem ex_func {fn : Fn} {xs ys : List Operand} {us vs : List Value} (hx : xs.map ρ = us) (hy : ys.map ρ = vs) : (execOp ρ ⟨d, .makeFunc fn xs.toArray ys.toArray, t, pos, aft, gd⟩).run Tryd.prog w = .ok (.value (.func fn us.toArray vs.toArray)) w := by
  subst hx hy
  simp [execOp, Instr.makeFunc]
theorem ex_arith {op : BinOp} {k : IntKind} {u v r : Int} {T1 : TypeId} (hx : ρ x = .int k u) (hy : ρ y = .int k v) (h : (match op with | .add => some (k.wrap (u + v)) | .sub => some (k.wrap (u - v)) | .mul => some (k.wrap (u * v)) | _ => none) = some r) :
    (execOp ρ ⟨d, .binOp op T x y T1, t, pos, aft, gd⟩).run Tryd.prog w = .ok (.value (.int k r)) w := by
  cases op <;> first | (cases h; done) | skip
  all_goals injection h with h
  all_goals simp [execOp, hx, hy, eqGuard, binOp, Op.intArith, h]
theorem ex_minus {v : Int} (hx : ρ x = .int .i64 v) (h : IntKind.i64.wrap (-v) = -v) : (execOp ρ ⟨d, .unOp .neg T x, t, pos, aft, gd⟩).run Tryd.prog w = .ok (.value (.int .i64 (-v))) w := by
  simp [execOp, hx, Op.unary, Op.intArith, h]
theorem ex_lnot {b : Bool} (hx : ρ x = .bool b) : (execOp ρ ⟨d, .unOp .not T x, t, pos, aft, gd⟩).run Tryd.prog w = .ok (.value (.bool (!b))) w := by
  simp [execOp, hx, Op.unary]
end
section
variable {P : Program} {ops : Array Oper} {Q : Exit → Act → World → Prop} {S : World → Prop} {r : List (Nat × Nat)} {rest : List Oper} {n : Nat} {m : List (Nat × Value)} {w : World} {i d : Nat} {t : TypeId} {pos : String} {aft : Array Edge} {gd : Option (Nat × Bool)}
theorem exec_callv {ρ : Operand → Value} {d : Option Tmp} {f : FuncId} {c : Operand} {xs : Array Operand} {ts : Array TypeId} {first cap args all : Array Value} (he : Enters P f) (hf : ρ c = .func (.func f) first cap) (h : xs.map ρ = args) (ha : first ++ args ++ cap = all) : (execOp ρ ⟨d, .call ⟨.value c, xs, ts⟩, t, pos, aft, gd⟩).run P w = .ok (.enter f all) w := by
  subst h ha
  simp only [execOp, resolve, hf, Deferred.ofValue, Sem.run_bind, Sem.run_pure, Result.andThen_ok, invoke]
  exact he _ _
theorem wl_callv {f : FuncId} {c : Operand} {first cap : Array Value} {xs : List Operand} {ts : Array TypeId} {args all : List Value} (he : Enters P f) (hc : ev m c = some (.func (.func f) first cap)) (hargs : evs m xs = some args) (ha : first ++ args.toArray ++ cap = all.toArray) (hg : wantedM ops m gd = some true) (hd : Nat.blt d n = true)
    (h : Calls P f all.toArray w fun e w' => ∃ v, e = .returned v ∧ wl P ops Q rest n ((d, v) :: m) w') :
    wl P ops Q (⟨some d, .call ⟨.value c, xs.toArray, ts⟩, t, pos, aft, gd⟩ :: rest) n m w := fun a hfm => by
  unfold wpList
  rw [if_pos (hfm.wanted hg)]
  left
  unfold Oper.wp
  rw [exec_callv he (hfm.ev hc) (args := args.toArray) (by rw [List.map_toArray, hfm.evs hargs]) ha]
  refine h.mono ?_
  rintro e w' ⟨v, rfl, hh⟩
  exact hh _ (hfm.put (by simpa [Nat.blt_eq] using hd) v)
theorem wt2_callv {f : FuncId} {c : Operand} {first cap : Array Value} {xs : List Operand} {ts : Array TypeId} {args all : List Value} (ho : ops[i]? = some ⟨some d, .call ⟨.value c, xs.toArray, ts⟩, t, pos, aft, gd⟩) (he : Enters P f) (hc : ev m c = some (.func (.func f) first cap)) (hargs : evs m xs = some args) (ha : first ++ args.toArray ++ cap = all.toArray) (hg : wantedM ops m gd = some true) (hd : Nat.blt d n = true)
    (h : Calls P f all.toArray w fun e w' => ∃ v, e = .returned v ∧ S w' ∧ wt P ops Q S r n ((d, v) :: m) w') : wt P ops Q S ((i, 2) :: r) n m w := fun a ha' =>
  ⟨_, ho, fun K hK => by
    rw [if_pos (ha'.wanted hg)]
    unfold Oper.wp
    rw [exec_callv he (ha'.ev hc) (args := args.toArray) (by rw [List.map_toArray, ha'.evs hargs]) ha]
    refine h.mono ?_
    rintro e w' ⟨v, rfl, hS, hh⟩
    exact hK.out _ _ hS (fun _ => hh _ (ha'.put (by simpa [Nat.blt_eq] using hd) v))⟩
theorem wt3_callv {f : FuncId} {c : Operand} {first cap : Array Value} {xs : List Operand} {ts : Array TypeId} {args all : List Value} (ho : ops[i]? = some ⟨some d, .call ⟨.value c, xs.toArray, ts⟩, t, pos, aft, gd⟩) (he : Enters P f) (hc : ev m c = some (.func (.func f) first cap)) (hargs : evs m xs = some args) (ha : first ++ args.toArray ++ cap = all.toArray) (hg : wantedM ops m gd = some true) (hd : Nat.blt d n = true)
    (h : Calls P f all.toArray w fun e w' => ∃ v, e = .returned v ∧ wt P ops Q S r n ((d, v) :: m) w') : wt P ops Q S ((i, 3) :: r) n m w := fun a ha' =>
  ⟨_, ho, fun K hK => by
    rw [if_pos (ha'.wanted hg)]
    unfold Oper.wp
    rw [exec_callv he (ha'.ev hc) (args := args.toArray) (by rw [List.map_toArray, ha'.evs hargs]) ha]
    refine h.mono ?_
    rintro e w' ⟨v, rfl, hh⟩
    exact hK.out _ _ (hh _ (ha'.put (by simpa [Nat.blt_eq] using hd) v))⟩
end
end Go.Proofs.YtbemhgojfehnjaaDoor
namespace Go.Proofs.YtbemhgojfehnjaaDoor
open Go Go.RowKit
section
variable {Z : Bool → Nat → Prop} {w0 w W W' : World} {L : List En}
theorem Own.cells (h : Own Z w0 W L) (i o : Nat) {g : Nat} {T : TypeId} {cs : Array Value} {vs : List Value} (hi : L[i]? = some (.blk g T cs)) (hv : (cs.toList.drop o).take vs.length = vs) : ∀ j v, vs[j]? = some v → W.cell? ⟨g, o + j, none⟩ = some v := by
  intro j v hj
  have hlt : j < vs.length := (List.getElem?_eq_some_iff.1 hj).1
  refine h.cell i (o + j) hi ?_
  rw [← hv, List.getElem?_take_of_lt hlt, List.getElem?_drop] at hj
  simpa using hj
theorem row_base {T : TypeId} {sz n base : Nat} {v : Value} {xs : List Value} (h : W.ownsRow 0 T sz v n xs) (hb : ∀ k, v.ownBlock = some k → base ≤ k) : W.ownsRow base T sz v n xs := by
  refine ⟨h.1, ?_⟩
  rcases h.2 with h1 | ⟨g, cap, cur, rfl, h1, h2⟩
  · exact .inl h1
  · exact .inr ⟨g, cap, cur, rfl, hb g rfl, h2⟩
theorem row_zero {T : TypeId} {sz n base : Nat} {v : Value} {xs : List Value} (h : W.ownsRow base T sz v n xs) : W.ownsRow 0 T sz v n xs := by
  refine ⟨h.1, ?_⟩
  rcases h.2 with h1 | ⟨g, cap, cur, rfl, h1, h2⟩
  · exact .inl h1
  · exact .inr ⟨g, cap, cur, rfl, Nat.zero_le _, h2⟩
/-- A row that lies in new memory. -/
theorem Own.newrow (h : Own Z0 w0 W L) (i : Nat) {v : Value} {T : TypeId} {sz n : Nat} {xs : List Value} (hi : L[i]? = some (.row v T sz n xs)) : W.ownsRow w0.heap.size T sz v n xs :=
  row_base (h.row i hi) (fun k hk => by
    rcases h.free _ (List.mem_of_getElem? hi) k hk with h1 | h1
    · exact absurd (h1.2 trivial) (by simp [Z0])
    · exact h1)
/-- One row alone, behind a call that went on with it. -/
theorem Own.rownext {T : TypeId} {sz n m : Nat} {v v' : Value} {xs ys : List Value} (h : Own Z0 w0 W [.row v T sz n xs]) (hr : W'.ownsRow w0.heap.size T sz v' m ys) (hb : Below w0.heap.size W W') : Own Z0 w0 W' [.row v' T sz m ys] := by
  have hb' := h.old.trans hb
  refine ⟨⟨hb'.os, hb'.tape, hb'.output, hb'.size, fun k hk _ => hb'.block k hk⟩, fun e he => ?_, List.pairwise_singleton _ _, fun e he k hk => ?_⟩
  · rw [List.mem_singleton.1 he]; exact row_zero hr
  · rw [List.mem_singleton.1 he] at hk
    exact .inr (hr.lt k hk).1
end
end Go.Proofs.YtbemhgojfehnjaaDoor
namespace Go.Proofs.YtbemhgojfehnjaaDoor
open Go Go.RowKit
theorem ty2 : TyB 2 1 false := ⟨by kernel_rfl, by kernel_rfl⟩
theorem ze2 : ZeroB 2 (.int .i64 0) := by unfold ZeroB; kernel_rfl
theorem ty3 : TyB 3 1 false := ⟨by kernel_rfl, by kernel_rfl⟩
theorem ze3 : ZeroB 3 (.int .i64 0) := by unfold ZeroB; kernel_rfl
theorem ty4 : TyB 4 1 false := ⟨by kernel_rfl, by kernel_rfl⟩
theorem ze4 : ZeroB 4 (.bool false) := by unfold ZeroB; kernel_rfl
theorem ty5 : TyB 5 1 false := ⟨by kernel_rfl, by kernel_rfl⟩
theorem ze5 : ZeroB 5 (.int .u8 0) := by unfold ZeroB; kernel_rfl
theorem ty9 : TyB 9 1 false := ⟨by kernel_rfl, by kernel_rfl⟩
theorem ze9 : ZeroB 9 (.string ⟨#[]⟩) := by unfold ZeroB; kernel_rfl
theorem ty22 : TyB 22 1 false := ⟨by kernel_rfl, by kernel_rfl⟩
theorem ze22 : ZeroB 22 (.slice none 0 0) := by unfold ZeroB; kernel_rfl
theorem el22 : ElB 22 38 3 := ⟨Tryd.underlying22, by kernel_rfl⟩
theorem ap22 : El 22 38 3 40 (.agg #[.int .i64 0, .int .i64 0, .slice none 0 0]) := ⟨Tryd.underlying22, by kernel_rfl, rfl, by decide⟩
theorem ty24 : TyB 24 2 true := ⟨by kernel_rfl, by kernel_rfl⟩
theorem ze24 : ZeroB 24 (.agg #[.int .i64 0, .slice none 0 0]) := by unfold ZeroB; kernel_rfl
theorem fi24_0 : FieldB 24 0 0 := ⟨⟨_, _, Tryd.underlying24, rfl, rfl, 0, by kernel_rfl⟩⟩
theorem fi24_1 : FieldB 24 1 1 := ⟨⟨_, _, Tryd.underlying24, rfl, rfl, 0, by kernel_rfl⟩⟩
theorem st24 : StB 24 #[(0, 1), (1, 1)] #[.int .i64 0, .slice none 0 0] := ⟨⟨_, ze24, rfl⟩, ⟨_, Tryd.underlying24, fun w => by kernel_rfl⟩⟩
theorem ty25 : TyB 25 1 false := ⟨by kernel_rfl, by kernel_rfl⟩
theorem ze25 : ZeroB 25 (.int .u64 0) := by unfold ZeroB; kernel_rfl
theorem ty27 : TyB 27 2 true := ⟨by kernel_rfl, by kernel_rfl⟩
theorem ze27 : ZeroB 27 (.agg #[.int .u64 0, .int .u64 0]) := by unfold ZeroB; kernel_rfl
theorem ar27 : ArB 27 1 #[.int .u64 0, .int .u64 0] := ⟨⟨_, ze27, rfl⟩, ⟨_, _, Tryd.underlying27, by kernel_rfl⟩⟩
theorem ty32 : TyB 32 1 false := ⟨by kernel_rfl, by kernel_rfl⟩
theorem ze32 : ZeroB 32 (.int .i64 0) := by unfold ZeroB; kernel_rfl
theorem ty36 : TyB 36 1 false := ⟨by kernel_rfl, by kernel_rfl⟩
theorem ze36 : ZeroB 36 (.slice none 0 0) := by unfold ZeroB; kernel_rfl
theorem el36 : ElB 36 3 1 := ⟨Tryd.underlying36, by kernel_rfl⟩
theorem ap36 : El 36 3 1 8 (.int .i64 0) := ⟨Tryd.underlying36, by kernel_rfl, rfl, by decide⟩
theorem ty38 : TyB 38 3 true := ⟨by kernel_rfl, by kernel_rfl⟩
theorem ze38 : ZeroB 38 (.agg #[.int .i64 0, .int .i64 0, .slice none 0 0]) := by unfold ZeroB; kernel_rfl
theorem fi38_0 : FieldB 38 0 0 := ⟨⟨_, _, Tryd.underlying38, rfl, rfl, 0, by kernel_rfl⟩⟩
theorem fi38_1 : FieldB 38 1 1 := ⟨⟨_, _, Tryd.underlying38, rfl, rfl, 0, by kernel_rfl⟩⟩
theorem fi38_2 : FieldB 38 2 2 := ⟨⟨_, _, Tryd.underlying38, rfl, rfl, 0, by kernel_rfl⟩⟩
theorem st38 : StB 38 #[(0, 1), (1, 1), (2, 1)] #[.int .i64 0, .int .i64 0, .slice none 0 0] := ⟨⟨_, ze38, rfl⟩, ⟨_, Tryd.underlying38, fun w => by kernel_rfl⟩⟩
theorem ty41 : TyB 41 1 false := ⟨by kernel_rfl, by kernel_rfl⟩
theorem ze41 : ZeroB 41 (.slice none 0 0) := by unfold ZeroB; kernel_rfl
theorem el41 : ElB 41 4 1 := ⟨Tryd.underlying41, by kernel_rfl⟩
theorem ap41 : El 41 4 1 1 (.bool false) := ⟨Tryd.underlying41, by kernel_rfl, rfl, by decide⟩
theorem ty45 : TyB 45 1 false := ⟨by kernel_rfl, by kernel_rfl⟩
theorem ze45 : ZeroB 45 (.slice none 0 0) := by unfold ZeroB; kernel_rfl
theorem el45 : ElB 45 22 1 := ⟨Tryd.underlying45, by kernel_rfl⟩
theorem ap45 : El 45 22 1 24 (.slice none 0 0) := ⟨Tryd.underlying45, by kernel_rfl, rfl, by decide⟩
theorem ty53 : TyB 53 1 false := ⟨by kernel_rfl, by kernel_rfl⟩
theorem ze53 : ZeroB 53 (.pointer none) := by unfold ZeroB; kernel_rfl
theorem ty54 : TyB 54 1 false := ⟨by kernel_rfl, by kernel_rfl⟩
theorem ze54 : ZeroB 54 (.map none) := by unfold ZeroB; kernel_rfl
theorem ty56 : TyB 56 2 true := ⟨by kernel_rfl, by kernel_rfl⟩
theorem ze56 : ZeroB 56 (.agg #[.slice none 0 0, .map none]) := by unfold ZeroB; kernel_rfl
theorem fi56_0 : FieldB 56 0 0 := ⟨⟨_, _, Tryd.underlying56, rfl, rfl, 0, by kernel_rfl⟩⟩
theorem fi56_1 : FieldB 56 1 1 := ⟨⟨_, _, Tryd.underlying56, rfl, rfl, 0, by kernel_rfl⟩⟩
theorem st56 : StB 56 #[(0, 1), (1, 1)] #[.slice none 0 0, .map none] := ⟨⟨_, ze56, rfl⟩, ⟨_, Tryd.underlying56, fun w => by kernel_rfl⟩⟩
theorem ty57 : TyB 57 1 false := ⟨by kernel_rfl, by kernel_rfl⟩
theorem ze57 : ZeroB 57 (.map none) := by unfold ZeroB; kernel_rfl
theorem ty59 : TyB 59 1 false := ⟨by kernel_rfl, by kernel_rfl⟩
theorem ze59 : ZeroB 59 (.nilFunc) := by unfold ZeroB; kernel_rfl
theorem ty61 : TyB 61 1 false := ⟨by kernel_rfl, by kernel_rfl⟩
theorem ze61 : ZeroB 61 (.pointer none) := by unfold ZeroB; kernel_rfl
theorem ty63 : TyB 63 1 true := ⟨by kernel_rfl, by kernel_rfl⟩
theorem ze63 : ZeroB 63 (.agg #[.slice none 0 0]) := by unfold ZeroB; kernel_rfl
theorem fi63_0 : FieldB 63 0 0 := ⟨⟨_, _, Tryd.underlying63, rfl, rfl, 0, by kernel_rfl⟩⟩
theorem st63 : StB 63 #[(0, 1)] #[.slice none 0 0] := ⟨⟨_, ze63, rfl⟩, ⟨_, Tryd.underlying63, fun w => by kernel_rfl⟩⟩
theorem ty87 : TyB 87 1 false := ⟨by kernel_rfl, by kernel_rfl⟩
theorem ze87 : ZeroB 87 (.map none) := by unfold ZeroB; kernel_rfl
theorem ty92 : TyB 92 1 false := ⟨by kernel_rfl, by kernel_rfl⟩
theorem ze92 : ZeroB 92 (.slice none 0 0) := by unfold ZeroB; kernel_rfl
theorem el92 : ElB 92 5 1 := ⟨Tryd.underlying92, by kernel_rfl⟩
theorem ap92 : El 92 5 1 1 (.int .u8 0) := ⟨Tryd.underlying92, by kernel_rfl, rfl, by decide⟩
end Go.Proofs.YtbemhgojfehnjaaDoor
