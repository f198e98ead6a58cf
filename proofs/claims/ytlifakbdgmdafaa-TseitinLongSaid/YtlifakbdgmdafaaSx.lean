/-
  A region that draws its order, one of whose last operations (number k) writes what the others load: what is said of the world need hold only until then. A region that draws its order, walked along one list of its operations: what is asked of the order is reckoned once, by the kernel. The walk by single steps: of the frame only the named slots are known; each operation by a lemma. A region that draws its order, whose loads and calls keep a class of worlds: walked once, in the order of the text. The walk by single steps: regions that draw their order, entry and return.
-/
import Derived.Deep.RegionHeld
import Derived.Test.YtlifakbdgmdafaaMem
import Derived.BigQuiet
namespace Go.Proofs.Ytlifakbdgmdafaa
open Go
section
variable {P : Program} {ops : Array Oper} {Q : Exit → Act → World → Prop} {md : Region.Mode} {S : World → Prop} {k : Nat}

/-- Whatever comes up; as long as number k has not, S holds. -/
def AnyT (P : Program) (md : Region.Mode) (ops : Array Oper) (Q : Exit → Act → World → Prop) (S : World → Prop) (k : Nat) : Nat → Array Bool → Act → World → Prop
  | 0, listed, a, w => Region.ready md ops listed = [] ∧ Q .normal a w
  | fuel + 1, listed, a, w => (Region.ready md ops listed = [] → Q .normal a w) ∧ ∀ i ∈ Region.ready md ops listed, wpOp P ops Q i (fun a' w' => ((listed.setIfInBounds i true).getD k false = false → S w') ∧ AnyT P md ops Q S k fuel (listed.setIfInBounds i true) a' w') a w
theorem AnyT.any : ∀ (fuel : Nat) (listed : Array Bool) (a : Act) (w : World), AnyT P md ops Q S k fuel listed a w → wpAny P md ops Q fuel listed a w
  | 0, _, _, _, h => h
  | fuel + 1, _, _, _, h => ⟨h.1, fun i hi => wpOp_mono (fun a' w' h' => AnyT.any fuel _ a' w' h'.2) (h.2 i hi)⟩
/-- Number k waits for number i. -/
def waitB (md : Region.Mode) (ops : Array Oper) (k i : Nat) : Bool := match ops[k]? with | some o => o.after.toList.any (fun e => Region.binds md e && e.on == i) | none => true
theorem waitB_spec {i j : Nat} {o : Oper} (h : waitB md ops k i = true) (hj : ops[j]? = some o) (hno : ∀ e ∈ o.after, Region.binds md e = true → e.on ≠ i) : j ≠ k := by
  rintro rfl
  unfold waitB at h
  rw [hj] at h
  simp only [List.any_eq_true, Bool.and_eq_true, beq_iff_eq] at h
  obtain ⟨e, he, h2, h3⟩ := h
  exact hno e (by simpa using he) h2 h3
theorem getD_set_other {listed : Array Bool} {i : Nat} (h : i ≠ k) : (listed.setIfInBounds i true).getD k false = listed.getD k false := getD_set_ne false h
theorem getD_set_open {listed : Array Bool} {i : Nat} (h : (listed.setIfInBounds i true).getD k false = false) : listed.getD k false = false := by
  by_cases e : i = k
  · subst e
    simp only [Array.getD_eq_getD_getElem?, Array.getElem?_setIfInBounds] at h ⊢
    by_cases hi : i < listed.size
    · simp [hi] at h
    · simp [hi]
  · rwa [getD_set_other e] at h
/-- The common part: number i is taken first, where S is known of whatever world comes before it (or i looks at no world). -/
theorem AnyT.first {i : Nat} {oi : Oper} {v : Value} {S' : World → Prop} (hi : ops[i]? = some oi) (hsel : ∀ (j : Nat) (o : Oper) cs b, ops[j]? = some o → o.op ≠ .select cs b) (hQ : ∀ c a w, Q (.panic c) (a.put oi.dst v) w → Q (.panic c) a w)
    (hik : i ≠ k) :
    ∀ (fuel : Nat) (listed : Array Bool) (a : Act) (w : World), (∀ j oj, ops[j]? = some oj → j ≠ i → listed.getD j true = false → (∀ e ∈ oj.after, Region.binds md e = true → e.on ≠ i) → oi.apart ops oj = true) →
      i ∈ Region.ready md ops listed → YieldsIf P ops S' oi v a → (listed.getD k false = false → S w) → (S' = fun _ => True) ∨ (waitB md ops k i = true ∧ S' = S ∧ listed.getD k false = false) →
      AnyT P md ops Q S k fuel (listed.setIfInBounds i true) (a.put oi.dst v) w → AnyT P md ops Q S k (fuel + 1) listed a w
  | fuel, listed, a, w, hfree, hr, hy, hS, hop, H => by
    have hSw : S' w := by
      rcases hop with h | h
      · rw [h]; trivial
      · rw [h.2.1]; exact hS h.2.2
    refine ⟨fun h => (by rw [h] at hr; cases hr), fun j hj => ?_⟩
    by_cases hji : j = i
    · subst hji; exact hy.wpOp hi hSw ⟨fun ho => hS (getD_set_open ho), H⟩
    · obtain ⟨hjun, oj, hoj, hall⟩ := mem_ready.1 hj
      have hnot : ∀ e ∈ oj.after, Region.binds md e = true → e.on ≠ i := fun e he hb heq => by
        have h1 := hall e he hb
        have h0 := (mem_ready.1 hr).1
        rw [heq] at h1
        rcases Nat.lt_or_ge i listed.size with h' | h'
        · simp [h'] at h0 h1; rw [h0] at h1; cases h1
        · simp [Array.getElem?_eq_none h'] at h1
      cases fuel with
      | zero =>
        have := ready_mono hj hji
        rw [H.1] at this
        cases this
      | succ fuel =>
        have h1 := H.2 j (ready_mono hj hji)
        have h2 := wpOp_putIf hoj (hfree j oj hoj hji hjun hnot) (fun cs b => hsel i oi cs b hi) (fun cs b => hsel j oj cs b hoj) hQ hy h1
        refine wpOp_mono (fun a' w' h3 => ?_) h2
        have hcomm : (listed.setIfInBounds i true).setIfInBounds j true = (listed.setIfInBounds j true).setIfInBounds i true := Array.setIfInBounds_comm _ _ (Ne.symm hji)
        -- S behind number j, said of the list without i
        have hSj : (listed.setIfInBounds j true).getD k false = false → S w' := fun ho => h3.2.1 (by rw [hcomm, getD_set_other hik]; exact ho)
        refine ⟨hSj, AnyT.first hi hsel hQ hik fuel (listed.setIfInBounds j true) a' w' (fun n on hn hni hun hno => ?_) (ready_mono hr (Ne.symm hji)) h3.1 hSj ?_ ?_⟩
        · refine hfree n on hn hni ?_ hno
          by_cases hjn : j = n
          · subst hjn; exact hjun
          · rw [getD_set_ne true hjn] at hun; exact hun
        · rcases hop with h | h
          · exact .inl h
          · exact .inr ⟨h.1, h.2.1, by rw [getD_set_other (waitB_spec h.1 hoj hnot)]; exact h.2.2⟩
        · rw [← hcomm]
          exact h3.2.2
/-- A load, which number k waits for. -/
theorem anyT_take {i : Nat} {oi : Oper} {v : Value} {fuel : Nat} {listed : Array Bool} {a : Act} {w : World} (hi : ops[i]? = some oi) (hs : Region.noSelect ops = true) (hf : Region.free md ops listed i = true) (hr : (Region.ready md ops listed).contains i = true)
    (hw : (waitB md ops k i && !(listed.getD k false) && (i != k)) = true) (hQ : ∀ c a w, Q (.panic c) (a.put oi.dst v) w → Q (.panic c) a w) (hy : YieldsIf P ops S oi v a) (hS : S w) (h : AnyT P md ops Q S k fuel (listed.setIfInBounds i true) (a.put oi.dst v) w) : AnyT P md ops Q S k (fuel + 1) listed a w := by
  simp only [Bool.and_eq_true, Bool.not_eq_true', bne_iff_ne] at hw
  exact AnyT.first hi (Region.noSelect_spec hs) hQ hw.2 fuel listed a w (Region.free_spec hi hf) (by simpa using hr) hy (fun _ => hS) (.inr ⟨hw.1.1, rfl, hw.1.2⟩) h
/-- An operation that looks at no world. -/
theorem anyT_takeY {i : Nat} {oi : Oper} {v : Value} {fuel : Nat} {listed : Array Bool} {a : Act} {w : World} (hi : ops[i]? = some oi) (hs : Region.noSelect ops = true) (hf : Region.free md ops listed i = true) (hr : (Region.ready md ops listed).contains i = true)
    (hw : (i != k) = true) (hQ : ∀ c a w, Q (.panic c) (a.put oi.dst v) w → Q (.panic c) a w) (hy : YieldsIf P ops (fun _ => True) oi v a) (hS : listed.getD k false = false → S w) (h : AnyT P md ops Q S k fuel (listed.setIfInBounds i true) (a.put oi.dst v) w) : AnyT P md ops Q S k (fuel + 1) listed a w := by
  exact AnyT.first hi (Region.noSelect_spec hs) hQ (by simpa using hw) fuel listed a w (Region.free_spec hi hf) (by simpa using hr) hy hS (.inl rfl) h
/-- The one operation that may come up. -/
theorem anyT_one {i : Nat} {o : Oper} {fuel : Nat} {listed : Array Bool} {a : Act} {w : World} (hr : Region.ready md ops listed = [i]) (ho : ops[i]? = some o)
    (h : ∀ K' : Act → World → Prop, Shut (∀ a w, ((listed.setIfInBounds i true).getD k false = false → S w) → (((listed.setIfInBounds i true).getD k false = false → S w) → AnyT P md ops Q S k fuel (listed.setIfInBounds i true) a w) → K' a w) → if Region.wanted o (yielded ops a.tmps) = true then Oper.wp P o a w K' Q else K' (a.put o.dst undef) w) :
    AnyT P md ops Q S k (fuel + 1) listed a w :=
  ⟨fun h0 => (by rw [hr] at h0; cases h0), fun j hj => by
    rw [hr] at hj
    obtain rfl : j = i := by simpa using hj
    exact wpOp_step ho (fun K' hK => h K' (fun a w hS hW => hK a w ⟨hS, hW hS⟩))⟩
theorem anyT_done {listed : Array Bool} {a : Act} {w : World} (hr : Region.ready md ops listed = []) (h : Q .normal a w) : ∀ fuel, AnyT P md ops Q S k fuel listed a w
  | 0 => ⟨hr, h⟩
  | _ + 1 => ⟨fun _ => h, by rw [hr]; simp⟩
theorem region_T {id : Nat} {a : Act} {w : World} (hm : P.follows .mixedOrders = true) (S : World → Prop) (k : Nat) (hS : S w.drew) (h : S w.drew → AnyT P .any ops Q S k ops.size (Array.replicate ops.size false) a w.drew) : (Code.region id ops true).wp P Q a w :=
  wp_region_any hm (AnyT.any _ _ _ _ (h hS))
end
end Go.Proofs.Ytlifakbdgmdafaa

namespace Go.Proofs.Ytlifakbdgmdafaa
open Go
section
variable {P : Program} {ops : Array Oper} {Q : Exit → Act → World → Prop} {md : Region.Mode} {S : World → Prop} {k : Nat}

/-- How each operation is met: 0: it yields in every world that S holds of (number k waits for it and has not come up); 1: it yields in whatever world; 2: nothing else may come up, S holds behind it; 3: nothing else may come up, k has come up with it. -/
def lexT (md : Region.Mode) (ops : Array Oper) (k : Nat) : List (Nat × Nat) → Array Bool → Bool
  | [], listed => (Region.ready md ops listed).isEmpty
  | (i, 0) :: r, listed => (Region.ready md ops listed).contains i && Region.free md ops listed i && (waitB md ops k i && !(listed.getD k false) && (i != k)) && lexT md ops k r (listed.setIfInBounds i true)
  | (i, 1) :: r, listed => (Region.ready md ops listed).contains i && Region.free md ops listed i && (i != k) && lexT md ops k r (listed.setIfInBounds i true)
  | (i, 2) :: r, listed => (Region.ready md ops listed == [i]) && !((listed.setIfInBounds i true).getD k false) && lexT md ops k r (listed.setIfInBounds i true)
  | (i, _) :: r, listed => (Region.ready md ops listed == [i]) && (listed.setIfInBounds i true).getD k false && lexT md ops k r (listed.setIfInBounds i true)
/-- The walk along the list. -/
def wpT (P : Program) (ops : Array Oper) (Q : Exit → Act → World → Prop) (S : World → Prop) : List (Nat × Nat) → Act → World → Prop
  | [], a, w => Q .normal a w
  | (i, 0) :: r, a, w => ∃ o v, ops[i]? = some o ∧ YieldsIf P ops S o v a ∧ wpT P ops Q S r (a.put o.dst v) w
  | (i, 1) :: r, a, w => ∃ o v, ops[i]? = some o ∧ YieldsIf P ops (fun _ => True) o v a ∧ wpT P ops Q S r (a.put o.dst v) w
  | (i, 2) :: r, a, w => ∃ o, ops[i]? = some o ∧ ∀ K : Act → World → Prop, Shut (∀ a w, S w → (S w → wpT P ops Q S r a w) → K a w) → if Region.wanted o (yielded ops a.tmps) = true then Oper.wp P o a w K Q else K (a.put o.dst undef) w
  | (i, _) :: r, a, w => ∃ o, ops[i]? = some o ∧ ∀ K : Act → World → Prop, Shut (∀ a w, wpT P ops Q S r a w → K a w) → if Region.wanted o (yielded ops a.tmps) = true then Oper.wp P o a w K Q else K (a.put o.dst undef) w
theorem anyT_of_wpT (hs : Region.noSelect ops = true) (hQ : ∀ c a t v w, Q (.panic c) (a.put t v) w → Q (.panic c) a w) :
    ∀ (r : List (Nat × Nat)) (listed : Array Bool) (a : Act) (w : World), lexT md ops k r listed = true → (listed.getD k false = false → S w) → wpT P ops Q S r a w → AnyT P md ops Q S k r.length listed a w
  | [], listed, a, w, hl, _, h => ⟨by simpa [lexT] using hl, h⟩
  | (i, 0) :: r, listed, a, w, hl, hS, h => by
    simp only [lexT, Bool.and_eq_true] at hl
    obtain ⟨⟨⟨h1, h2⟩, h3⟩, h4⟩ := hl
    obtain ⟨o, v, ho, hy, h⟩ := h
    have hk : listed.getD k false = false := by simpa using h3.1.2
    exact anyT_take ho hs h2 h1 (by simp only [Bool.and_eq_true]; exact h3) (fun c a w => hQ c a _ _ w) hy (hS hk)
      (anyT_of_wpT hs hQ r _ _ _ h4 (fun _ => hS hk) h)
  | (i, 1) :: r, listed, a, w, hl, hS, h => by
    simp only [lexT, Bool.and_eq_true] at hl
    obtain ⟨⟨⟨h1, h2⟩, h3⟩, h4⟩ := hl
    obtain ⟨o, v, ho, hy, h⟩ := h
    exact anyT_takeY ho hs h2 h1 h3 (fun c a w => hQ c a _ _ w) hy hS
      (anyT_of_wpT hs hQ r _ _ _ h4 (fun h => hS (getD_set_open h)) h)
  | (i, 2) :: r, listed, a, w, hl, hS, h => by
    simp only [lexT, Bool.and_eq_true] at hl
    obtain ⟨⟨h1, h2⟩, h4⟩ := hl
    obtain ⟨o, ho, h⟩ := h
    have hk : (listed.setIfInBounds i true).getD k false = false := by simpa using h2
    refine anyT_one (by simpa using h1) ho (fun K hK => ?_)
    exact h K (fun a w hSw hW => hK a w (fun _ => hSw) (fun _ => anyT_of_wpT hs hQ r _ _ _ h4 (fun _ => hSw) (hW hSw)))
  | (i, n + 3) :: r, listed, a, w, hl, hS, h => by
    simp only [lexT, Bool.and_eq_true] at hl
    obtain ⟨⟨h1, h2⟩, h4⟩ := hl
    obtain ⟨o, ho, h⟩ := h
    have hk : ¬ (listed.setIfInBounds i true).getD k false = false := by simp [h2]
    refine anyT_one (by simpa using h1) ho (fun K hK => ?_)
    exact h K (fun a w hW => hK a w (fun h => absurd h hk) (fun _ => anyT_of_wpT hs hQ r _ _ _ h4 (fun h => absurd h hk) hW))
theorem region_L {id : Nat} {a : Act} {w : World} (S : World → Prop) (k : Nat) (r : List (Nat × Nat)) (hm : P.follows .mixedOrders = true) (hs : (Region.noSelect ops && (r.length == ops.size) && lexT .any ops k r (Array.replicate ops.size false)) = true)
    (hQ : ∀ c a t v w, Q (.panic c) (a.put t v) w → Q (.panic c) a w) (hS : S w.drew) (h : S w.drew → wpT P ops Q S r a w.drew) : (Code.region id ops true).wp P Q a w := by
  simp only [Bool.and_eq_true, beq_iff_eq] at hs
  obtain ⟨⟨h1, h2⟩, h3⟩ := hs
  refine region_T hm S k hS (fun hS => ?_)
  rw [← h2]
  have := anyT_of_wpT h1 hQ r _ a _ h3 (fun _ => hS) (h hS)
  rwa [h2] at this ⊢
/-- The same, where the list ends before the region does. -/
def lexU (md : Region.Mode) (ops : Array Oper) (k : Nat) (fin : Array Bool → Bool) : List (Nat × Nat) → Array Bool → Bool
  | [], listed => fin listed
  | (i, 0) :: r, listed => (Region.ready md ops listed).contains i && Region.free md ops listed i && (waitB md ops k i && !(listed.getD k false) && (i != k)) && lexU md ops k fin r (listed.setIfInBounds i true)
  | (i, 1) :: r, listed => (Region.ready md ops listed).contains i && Region.free md ops listed i && (i != k) && lexU md ops k fin r (listed.setIfInBounds i true)
  | (i, 2) :: r, listed => (Region.ready md ops listed == [i]) && !((listed.setIfInBounds i true).getD k false) && lexU md ops k fin r (listed.setIfInBounds i true)
  | (i, _) :: r, listed => (Region.ready md ops listed == [i]) && (listed.setIfInBounds i true).getD k false && lexU md ops k fin r (listed.setIfInBounds i true)
theorem anyT_of_wpU (hs : Region.noSelect ops = true) (hQ : ∀ c a t v w, Q (.panic c) (a.put t v) w → Q (.panic c) a w) {fin : Array Bool → Bool} {KF : Act → World → Prop} {fuel : Nat}
    (hend : ∀ listed a w, fin listed = true → (listed.getD k false = false → S w) → KF a w → AnyT P md ops Q S k fuel listed a w) :
    ∀ (r : List (Nat × Nat)) (listed : Array Bool) (a : Act) (w : World), lexU md ops k fin r listed = true → (listed.getD k false = false → S w) → wpT P ops (Exit.then KF Q) S r a w → AnyT P md ops Q S k (fuel + r.length) listed a w
  | [], listed, a, w, hl, hS, h => hend listed a w hl hS h
  | (i, 0) :: r, listed, a, w, hl, hS, h => by
    simp only [lexU, Bool.and_eq_true] at hl
    obtain ⟨⟨⟨h1, h2⟩, h3⟩, h4⟩ := hl
    obtain ⟨o, v, ho, hy, h⟩ := h
    have hk : listed.getD k false = false := by simpa using h3.1.2
    exact anyT_take ho hs h2 h1 (by simp only [Bool.and_eq_true]; exact h3) (fun c a w => hQ c a _ _ w) hy (hS hk)
      (anyT_of_wpU hs hQ hend r _ _ _ h4 (fun _ => hS hk) h)
  | (i, 1) :: r, listed, a, w, hl, hS, h => by
    simp only [lexU, Bool.and_eq_true] at hl
    obtain ⟨⟨⟨h1, h2⟩, h3⟩, h4⟩ := hl
    obtain ⟨o, v, ho, hy, h⟩ := h
    exact anyT_takeY ho hs h2 h1 h3 (fun c a w => hQ c a _ _ w) hy hS
      (anyT_of_wpU hs hQ hend r _ _ _ h4 (fun h => hS (getD_set_open h)) h)
  | (i, 2) :: r, listed, a, w, hl, hS, h => by
    simp only [lexU, Bool.and_eq_true] at hl
    obtain ⟨⟨h1, h2⟩, h4⟩ := hl
    obtain ⟨o, ho, h⟩ := h
    have hk : (listed.setIfInBounds i true).getD k false = false := by simpa using h2
    refine anyT_one (by simpa using h1) ho (fun K hK => ?_)
    exact h K (fun a w hSw hW => hK a w (fun _ => hSw) (fun _ => anyT_of_wpU hs hQ hend r _ _ _ h4 (fun _ => hSw) (hW hSw)))
  | (i, n + 3) :: r, listed, a, w, hl, hS, h => by
    simp only [lexU, Bool.and_eq_true] at hl
    obtain ⟨⟨h1, h2⟩, h4⟩ := hl
    obtain ⟨o, ho, h⟩ := h
    have hk : ¬ (listed.setIfInBounds i true).getD k false = false := by simp [h2]
    refine anyT_one (by simpa using h1) ho (fun K hK => ?_)
    exact h K (fun a w hW => hK a w (fun h => absurd h hk) (fun _ => anyT_of_wpU hs hQ hend r _ _ _ h4 (fun h => absurd h hk) hW))
/-- Where one of two comes up: each is walked along a list of its own. -/
def forkB (md : Region.Mode) (ops : Array Oper) (k : Nat) (i j : Nat) (r s : List (Nat × Nat)) (listed : Array Bool) : Bool :=
  (Region.ready md ops listed == [i, j]) && (i != j) && !((listed.setIfInBounds i true).getD k false) && !((listed.setIfInBounds j true).getD k false) && (s.length == r.length) && lexT md ops k r (listed.setIfInBounds i true) && lexT md ops k s (listed.setIfInBounds j true)
theorem any_fork (hs : Region.noSelect ops = true) (hQ : ∀ c a t v w, Q (.panic c) (a.put t v) w → Q (.panic c) a w) {i j : Nat} {r s : List (Nat × Nat)} {listed : Array Bool} {a : Act} {w : World}
    (hl : forkB md ops k i j r s listed = true) (h : wpT P ops Q S ((i, 2) :: r) a w ∧ wpT P ops Q S ((j, 2) :: s) a w) : AnyT P md ops Q S k (r.length + 1) listed a w := by
  simp only [forkB, Bool.and_eq_true, beq_iff_eq] at hl
  obtain ⟨⟨⟨⟨⟨⟨h1, h2⟩, h3⟩, h4⟩, h5⟩, h6⟩, h7⟩ := hl
  have step : ∀ (q : Nat) (l : List (Nat × Nat)), l.length = r.length → lexT md ops k l (listed.setIfInBounds q true) = true → wpT P ops Q S ((q, 2) :: l) a w →
      wpOp P ops Q q (fun a' w' => ((listed.setIfInBounds q true).getD k false = false → S w') ∧ AnyT P md ops Q S k r.length (listed.setIfInBounds q true) a' w') a w := fun q l hlen hlx hw => by
    obtain ⟨o, ho, hw⟩ := hw
    refine wpOp_step ho (fun K hK => ?_)
    refine hw K (fun a' w' hS hW => hK a' w' ⟨fun _ => hS, ?_⟩)
    have := anyT_of_wpT hs hQ l _ a' w' hlx (fun _ => hS) (hW hS)
    rwa [hlen] at this
  refine ⟨fun h0 => (by rw [h1] at h0; cases h0), fun q hq => ?_⟩
  rw [h1] at hq
  simp only [List.mem_cons, List.not_mem_nil, or_false] at hq
  rcases hq with rfl | rfl
  · exact step _ r rfl h6 h.1
  · exact step _ s h5 h7 h.2
theorem region_F {id : Nat} {a : Act} {w : World} (S : World → Prop) (k : Nat) (pre : List (Nat × Nat)) (i j : Nat) (r s : List (Nat × Nat)) (hm : P.follows .mixedOrders = true) (hs : (Region.noSelect ops && (r.length + 1 + pre.length == ops.size) && lexU .any ops k (forkB .any ops k i j r s) pre (Array.replicate ops.size false)) = true)
    (hQ : ∀ c a t v w, Q (.panic c) (a.put t v) w → Q (.panic c) a w) (hS : S w.drew) (h : wpT P ops (Exit.then (fun a w => wpT P ops Q S ((i, 2) :: r) a w ∧ wpT P ops Q S ((j, 2) :: s) a w) Q) S pre a w.drew) : (Code.region id ops true).wp P Q a w := by
  simp only [Bool.and_eq_true, beq_iff_eq] at hs
  obtain ⟨⟨h1, h2⟩, h3⟩ := hs
  refine region_T hm S k hS (fun hS => ?_)
  rw [← h2]
  have := anyT_of_wpU (fuel := r.length + 1) h1 hQ (fun listed a w hl _ hh => any_fork h1 hQ hl hh) pre _ a _ h3 (fun _ => hS) h
  rwa [h2] at this ⊢
section
variable {i : Nat} {r : List (Nat × Nat)} {a : Act} {w : World} {o : Oper} {v : Value}
theorem t0 (ho : ops[i]? = some o) (hy : YieldsIf P ops S o v a) (h : wpT P ops Q S r (a.put o.dst v) w) : wpT P ops Q S ((i, 0) :: r) a w := ⟨o, v, ho, hy, h⟩
theorem t1 (ho : ops[i]? = some o) (hy : YieldsIf P ops (fun _ => True) o v a) (h : wpT P ops Q S r (a.put o.dst v) w) : wpT P ops Q S ((i, 1) :: r) a w := ⟨o, v, ho, hy, h⟩
/-- An operation that has no guard. -/
theorem yields {S : World → Prop} (hg : o.guard = none) (h : ∀ w, S w → (execOp a.eval o).run P w = .ok (.value v) w) : YieldsIf P ops S o v a := .inl ⟨by unfold Region.wanted; rw [hg], h⟩
theorem t2 (ho : ops[i]? = some o) (h : ∀ K : Act → World → Prop, Shut (∀ a w, S w → (S w → wpT P ops Q S r a w) → K a w) → if Region.wanted o (yielded ops a.tmps) = true then Oper.wp P o a w K Q else K (a.put o.dst undef) w) : wpT P ops Q S ((i, 2) :: r) a w := ⟨o, ho, h⟩
theorem t3 (ho : ops[i]? = some o) (h : ∀ K : Act → World → Prop, Shut (∀ a w, wpT P ops Q S r a w → K a w) → if Region.wanted o (yielded ops a.tmps) = true then Oper.wp P o a w K Q else K (a.put o.dst undef) w) : wpT P ops Q S ((i, 3) :: r) a w := ⟨o, ho, h⟩
theorem t_end (h : Q .normal a w) : wpT P ops Q S [] a w := h
end
end
end Go.Proofs.Ytlifakbdgmdafaa

namespace Go.Proofs.Ytlifakbdgmdafaa
open Go Go.RowKit

/-- The value that a list of slots gives. -/
def lk : List (Nat × Value) → Nat → Option Value
  | [], _ => none
  | (j, v) :: r, k => match Nat.beq j k with
    | true => some v
    | false => lk r k
/-- What is known of a frame. -/
structure Fm (n : Nat) (m : List (Nat × Value)) (a : Act) : Prop where
  size : a.tmps.size = n
  defers : a.defers = []
  has : ∀ k v, lk m k = some v → a.tmps[k]? = some v
def ev (m : List (Nat × Value)) : Operand → Option Value
  | .tmp t => lk m t
  | .const v => some v
  | .global g => some (.pointer (some ⟨g, 0, none⟩))
  | .func f => some (.func (.func f) #[] #[])
def evs (m : List (Nat × Value)) : List Operand → Option (List Value)
  | [] => some []
  | x :: l => match ev m x, evs m l with
    | some v, some r => some (v :: r)
    | _, _ => none
theorem Fm.ev {n : Nat} {m : List (Nat × Value)} {a : Act} (h : Fm n m a) {x : Operand} {v : Value} (hx : ev m x = some v) : a.eval x = v := by
  cases x with
  | tmp t =>
    have := h.has t v hx
    show a.tmps.getD t undef = v
    simp [Array.getD_eq_getD_getElem?, this]
  | const u => exact Option.some.inj hx
  | global g => exact Option.some.inj hx
  | func f => exact Option.some.inj hx
theorem Fm.evs {n : Nat} {m : List (Nat × Value)} {a : Act} (h : Fm n m a) : ∀ {l : List Operand} {vs : List Value}, evs m l = some vs → l.map a.eval = vs
  | [], vs, hx => by simp only [Ytlifakbdgmdafaa.evs, Option.some.injEq] at hx; subst hx; rfl
  | x :: l, vs, hx => by
    simp only [Ytlifakbdgmdafaa.evs] at hx
    split at hx
    · rename_i v r hv hr
      injection hx with hx
      subst hx
      simp only [List.map_cons, h.ev hv, h.evs hr]
    · cases hx
theorem Fm.put {n : Nat} {m : List (Nat × Value)} {a : Act} (h : Fm n m a) {d : Nat} (hd : d < n) (v : Value) : Fm n ((d, v) :: m) (a.put (some d) v) := by
  refine ⟨by simp [Act.put, h.size], h.defers, ?_⟩
  intro k u hk
  simp only [lk] at hk
  by_cases e : d = k
  · subst e
    simp only [show Nat.beq d d = true from Nat.beq_refl d] at hk
    injection hk with hk
    subst hk
    simp [Act.put, h.size, hd]
  · rw [show Nat.beq d k = false from Bool.eq_false_iff.2 (fun h => e (Nat.eq_of_beq_eq_true h))] at hk
    have := h.has k u hk
    simp [Act.put, e, this]
/-- A frame of which less is told. -/
def Sub : List (Nat × Value) → List (Nat × Value) → Prop
  | [], _ => True
  | (k, v) :: r, m => lk m k = some v ∧ Sub r m
theorem Sub.lk : ∀ {r m : List (Nat × Value)}, Sub r m → ∀ k v, lk r k = some v → lk m k = some v
  | [], _, _, _, _, h => by cases h
  | (j, u) :: r, m, hs, k, v, h => by
    simp only [Ytlifakbdgmdafaa.lk] at h
    split at h
    · rename_i e
      have : j = k := Nat.eq_of_beq_eq_true e
      subst this
      injection h with h
      subst h
      exact hs.1
    · exact Sub.lk hs.2 k v h
theorem Fm.sub {n : Nat} {m r : List (Nat × Value)} {a : Act} (h : Fm n m a) (hs : Sub r m) : Fm n r a := ⟨h.size, h.defers, fun k v hk => h.has k v (hs.lk k v hk)⟩
/-- A value as a guard reads it. -/
def yv : Value → Option Bool
  | .bool b => some b
  | _ => none
/-- Whether an operation with this guard is carried out. -/
def wantedM (ops : Array Oper) (m : List (Nat × Value)) : Option (Nat × Bool) → Option Bool
  | none => some true
  | some (j, want) => match (ops[j]?).bind (·.dst) with
    | none => some false
    | some d => match lk m d with
      | some v => some (yv v == some want)
      | none => none
theorem Fm.wanted {n : Nat} {m : List (Nat × Value)} {a : Act} (h : Fm n m a) {ops : Array Oper} {o : Oper} {b : Bool} (hw : wantedM ops m o.guard = some b) : Region.wanted o (yielded ops a.tmps) = b := by
  unfold wantedM at hw
  unfold Region.wanted
  split at hw
  · rename_i hg
    rw [hg]
    exact Option.some.inj hw
  · rename_i j want hg
    rw [hg]
    simp only
    unfold yielded
    split at hw
    · rename_i hd
      rw [hd]
      injection hw
    · rename_i d hd
      rw [hd]
      split at hw
      · rename_i v hl
        have := h.has d _ hl
        injection hw with hw
        subst hw
        simp only [Option.bind_some, this]
        cases v <;> rfl
      · cases hw
section
variable {P : Program}

/-- The walk along a region's operations, from whatever frame that m tells of. -/
def wl (P : Program) (ops : Array Oper) (Q : Exit → Act → World → Prop) (l : List Oper) (n : Nat) (m : List (Nat × Value)) (w : World) : Prop := ∀ a, Fm n m a → wpList P ops Q l a w
/-- A piece of code, likewise. -/
def cw (P : Program) (c : Code) (Q : Exit → Act → World → Prop) (n : Nat) (m : List (Nat × Value)) (w : World) : Prop := ∀ a, Fm n m a → c.wp P Q a w
/-- An exit, likewise. -/
def xw (Q : Exit → Act → World → Prop) (e : Exit) (n : Nat) (m : List (Nat × Value)) (w : World) : Prop := ∀ a, Fm n m a → Q e a w
/-- What reads as m says. -/
def Reads (m : List (Nat × Value)) (ρ : Operand → Value) : Prop := ∀ x v, ev m x = some v → ρ x = v
section
variable {ops : Array Oper} {Q : Exit → Act → World → Prop} {rest : List Oper} {n : Nat} {m : List (Nat × Value)} {w w' : World} {d : Nat} {op : Op} {t : TypeId} {pos : String} {aft : Array Edge} {gd : Option (Nat × Bool)} {v : Value}
theorem Fm.reads {a : Act} (h : Fm n m a) : Reads m a.eval := fun _ _ hx => h.ev hx
theorem wl_val (hr : ∀ ρ, Reads m ρ → (execOp ρ ⟨some d, op, t, pos, aft, gd⟩).run P w = .ok (.value v) w') (hg : wantedM ops m gd = some true) (hd : Nat.blt d n = true) (h : wl P ops Q rest n ((d, v) :: m) w') :
    wl P ops Q (⟨some d, op, t, pos, aft, gd⟩ :: rest) n m w := fun a ha => by
  unfold wpList
  rw [if_pos (ha.wanted hg)]
  left
  unfold Oper.wp
  rw [hr _ ha.reads]
  exact h _ (ha.put (by simpa [Nat.blt_eq] using hd) v)
theorem wl_skip (hg : wantedM ops m gd = some false) (hd : Nat.blt d n = true) (h : wl P ops Q rest n ((d, undef) :: m) w) : wl P ops Q (⟨some d, op, t, pos, aft, gd⟩ :: rest) n m w := fun a ha => by
  unfold wpList
  rw [if_neg (by rw [ha.wanted hg]; simp)]
  exact h _ (ha.put (by simpa [Nat.blt_eq] using hd) _)
theorem wl_skip0 (hg : wantedM ops m gd = some false) (h : wl P ops Q rest n m w) : wl P ops Q (⟨none, op, t, pos, aft, gd⟩ :: rest) n m w := fun a ha => by
  unfold wpList
  rw [if_neg (by rw [ha.wanted hg]; simp)]
  exact h _ ha
theorem wl_none (hr : ∀ ρ, Reads m ρ → (execOp ρ ⟨none, op, t, pos, aft, gd⟩).run P w = .ok .skip w') (hg : wantedM ops m gd = some true) (h : wl P ops Q rest n m w') :
    wl P ops Q (⟨none, op, t, pos, aft, gd⟩ :: rest) n m w := fun a ha => by
  unfold wpList
  rw [if_pos (ha.wanted hg)]
  left
  unfold Oper.wp
  rw [hr _ ha.reads]
  exact h _ ha
/-- A call of f enters f's text. -/
def Enters (P : Program) (f : FuncId) : Prop := ∀ args w, (callFunc f args).run P w = .ok (.enter f args) w
theorem enters_of {f : FuncId} {fn : Func} {c : Code} (hf : P.funcs[f]? = some fn) (hname : (fn.name == "runtime.NumGoroutine") = false) (hb : fn.body = some c) : Enters P f := fun args w => by
  have h1 : fn.name ≠ "runtime.NumGoroutine" := by simpa using hname
  simp [callFunc, hf, h1, hb]
theorem exec_call {ρ : Operand → Value} {d : Option Tmp} {f : FuncId} {xs : Array Operand} {ts : Array TypeId} {args : Array Value} (he : Enters P f) (hf : ρ (.func f) = .func (.func f) #[] #[]) (h : xs.map ρ = args) : (execOp ρ ⟨d, .call ⟨.value (.func f), xs, ts⟩, t, pos, aft, gd⟩).run P w = .ok (.enter f args) w := by
  subst h
  simp [go_sem, hf, he _ _]
theorem wl_call {f : FuncId} {xs : List Operand} {ts : Array TypeId} {args : List Value} (he : Enters P f) (hargs : evs m xs = some args) (hg : wantedM ops m gd = some true) (hd : Nat.blt d n = true)
    (h : Calls P f args.toArray w fun e w' => ∃ v, e = .returned v ∧ wl P ops Q rest n ((d, v) :: m) w') :
    wl P ops Q (⟨some d, .call ⟨.value (.func f), xs.toArray, ts⟩, t, pos, aft, gd⟩ :: rest) n m w := fun a ha => by
  unfold wpList
  rw [if_pos (ha.wanted hg)]
  left
  unfold Oper.wp
  rw [exec_call he rfl (args := args.toArray) (by rw [List.map_toArray, ha.evs hargs])]
  refine h.mono ?_
  rintro e w' ⟨v, rfl, hh⟩
  exact hh _ (ha.put (by simpa [Nat.blt_eq] using hd) v)
theorem wl_nil (h : xw Q .normal n m w) : wl P ops Q [] n m w := fun a ha => h a ha
/-- A region in the order of the text. -/
theorem cw_region {id : Nat} {l : List Oper} (h : wl P l.toArray Q l n m w) : cw P (.region id l.toArray false) Q n m w := fun a ha => wp_region_lit (h a ha)
theorem cw_seq {x y : Code} (h : ∀ K : Act → World → Prop, Shut (∀ n m w, cw P y Q n m w → ∀ a, Fm n m a → K a w) → cw P x (Exit.then K Q) n m w) : cw P (.seq x y) Q n m w := fun a ha =>
  wp_seq_k (fun K hK => h K (fun _ _ _ hy a ha => hK _ _ (hy a ha)) a ha)
theorem xw_next {K : Act → World → Prop} {y : Code} (hK : Shut (∀ n m w, cw P y Q n m w → ∀ a, Fm n m a → K a w)) (h : cw P y Q n m w) : xw (Exit.then K Q) .normal n m w := fun a ha => hK.out _ _ _ h a ha
/-- An exit that is not the normal one goes by what comes next. -/
theorem xw_past {K : Act → World → Prop} {e : Exit} (he : e ≠ .normal) (h : xw Q e n m w) : xw (Exit.then K Q) e n m w := fun a ha => by
  cases e <;> first | exact absurd rfl he | exact h a ha
theorem cw_true {c : Operand} {x y : Code} (hc : ev m c = some (.bool true)) (h : cw P x Q n m w) : cw P (.cond c x y) Q n m w := fun a ha => wp_cond_true (ha.ev hc) (h a ha)
theorem cw_false {c : Operand} {x y : Code} (hc : ev m c = some (.bool false)) (h : cw P y Q n m w) : cw P (.cond c x y) Q n m w := fun a ha => wp_cond_false (ha.ev hc) (h a ha)
theorem cw_cond {c : Operand} {x y : Code} {b : Bool} (hc : ev m c = some (.bool b)) (h1 : b = true → cw P x Q n m w) (h2 : b = false → cw P y Q n m w) : cw P (.cond c x y) Q n m w := fun a ha => wp_cond_split (ha.ev hc) (fun h => h1 h a ha) (fun h => h2 h a ha)
theorem cw_skip (h : xw Q .normal n m w) : cw P .skip Q n m w := fun a ha => wp_skip (h a ha)
theorem cw_exit {id : Nat} (h : xw Q (.exit id) n m w) : cw P (.exit id) Q n m w := fun a ha => wp_exit (h a ha)
theorem cw_ret (h : xw Q .ret n m w) : cw P .ret Q n m w := fun a ha => wp_ret (h a ha)
theorem cw_block {id : Nat} {c : Code} (h : cw P c (Exit.inBlock id Q) n m w) : cw P (.block id c) Q n m w := fun a ha => wp_block (h a ha)
theorem xw_block {id : Nat} (h : xw Q .normal n m w) : xw (Exit.inBlock id Q) .normal n m w := fun a ha => h a ha
theorem xw_here {id : Nat} (h : xw Q .normal n m w) : xw (Exit.inBlock id Q) (.exit id) n m w := fun a ha => by
  show (if id = id then _ else _)
  rw [if_pos rfl]
  exact h a ha
theorem xw_other {id i : Nat} (hne : Nat.beq i id = false) (h : xw Q (.exit i) n m w) : xw (Exit.inBlock id Q) (.exit i) n m w := fun a ha => by
  show (if i = id then _ else _)
  rw [if_neg (by intro e; rw [e, Nat.beq_refl] at hne; cases hne)]
  exact h a ha
theorem xw_blockret {id : Nat} (h : xw Q .ret n m w) : xw (Exit.inBlock id Q) .ret n m w := fun a ha => h a ha
/-- Less told of the frame. -/
theorem cw_sub {c : Code} {r : List (Nat × Value)} (hs : Sub r m) (h : cw P c Q n r w) : cw P c Q n m w := fun a ha => h a (ha.sub hs)
theorem xw_sub {e : Exit} {r : List (Nat × Value)} (hs : Sub r m) (h : xw Q e n r w) : xw Q e n m w := fun a ha => h a (ha.sub hs)
theorem least {p : Nat → Prop} (h : ∃ k, p k) : ∃ k, p k ∧ ∀ j, p j → k ≤ j := by
  obtain ⟨k, hk⟩ := h
  induction k using Nat.strongRecOn with
  | _ k ih =>
    by_cases he : ∃ j, j < k ∧ p j
    · obtain ⟨j, h1, h2⟩ := he
      exact ih j h1 h2
    · exact ⟨k, hk, fun j hj => Nat.le_of_not_lt (fun h => he ⟨j, h, hj⟩)⟩
/-- A loop: at its head the frame reads as M i and J i holds, for some i; μ falls from round to round. -/
theorem cw_loop {c : Code} {ι : Type} (M : ι → List (Nat × Value)) (J : ι → World → Prop) (μ : ι → Nat) (i0 : ι) (h0 : J i0 w) (hs : Sub (M i0) m)
    (round : ∀ i w, J i w → ∀ K : Act → World → Prop, Shut (∀ j m' w', μ j < μ i → J j w' → Sub (M j) m' → ∀ a, Fm n m' a → K a w') → cw P c (Exit.then K Q) n (M i) w) : cw P (.loop c) Q n m w := fun a ha => by
  classical
  let p : Act → World → Nat → Prop := fun a w k => ∃ i, μ i = k ∧ Fm n (M i) a ∧ J i w
  refine wp_loop (fun a w => ∃ k, p a w k) (fun a w => if h : ∃ k, p a w k then Classical.choose (least h) else 0) ⟨_, i0, rfl, ha.sub hs, h0⟩ ?_
  intro a w hI
  have hspec := Classical.choose_spec (least hI)
  obtain ⟨⟨i, hi, hfr, hJ⟩, hmin⟩ := hspec
  refine round i w hJ _ ?_ a hfr
  intro j m' w' hlt hJ' hs' a' ha'
  have hI' : ∃ k, p a' w' k := ⟨_, j, rfl, ha'.sub hs', hJ'⟩
  refine ⟨hI', ?_⟩
  simp only [dif_pos hI, dif_pos hI']
  have := (Classical.choose_spec (least hI')).2 (μ j) ⟨j, rfl, ha'.sub hs', hJ'⟩
  omega
theorem xw_round {ι : Type} {M : ι → List (Nat × Value)} {J : ι → World → Prop} {μ : ι → Nat} {i : ι} {K : Act → World → Prop} (hK : Shut (∀ j m' w', μ j < μ i → J j w' → Sub (M j) m' → ∀ a, Fm n m' a → K a w')) (j : ι) (hlt : μ j < μ i) (hJ : J j w) (hs : Sub (M j) m) : xw (Exit.then K Q) .normal n m w := fun a ha => hK.out j m w hlt hJ hs a ha
end
end
end Go.Proofs.Ytlifakbdgmdafaa

namespace Go.Proofs.Ytlifakbdgmdafaa
open Go
section
variable {P : Program} {ops : Array Oper} {C : World → Prop} {Q : Act → Prop} {a : Act} {o : Oper} {rest : List Oper}
theorem region_C {id : Nat} {Q : Exit → Act → World → Prop} {w : World} {l : List Oper} (C : World → Prop) (hm : P.follows .mixedOrders = true) (hB : Region.lexB .any l.toArray = true) (hC : C w.drew)
    (h : wpQuiet P l.toArray C (fun a' => ∀ w', C w' → Q .normal a' w') l a) : (Code.region id l.toArray true).wp P Q a w :=
  wp_region_quiet (C := C) hm hB hC (by simpa using h)
theorem q_skip (hw : Region.wanted o (yielded ops a.tmps) = false) (h : wpQuiet P ops C Q rest (a.put o.dst undef)) : wpQuiet P ops C Q (o :: rest) a := BigFrame.wpQuiet_skip hw h
theorem q_move (x : Operand) (hop : o.op = .move x) (hw : Region.wanted o (yielded ops a.tmps) = true) (h : wpQuiet P ops C Q rest (a.put o.dst (a.eval x))) : wpQuiet P ops C Q (o :: rest) a :=
  BigFrame.wpQuiet_want hw fun _ hK => BigFrame.quiet_move x hop (hK _ h)
theorem q_assign (x : Operand) (hop : o.op = .assign x) (hw : Region.wanted o (yielded ops a.tmps) = true) (h : wpQuiet P ops C Q rest (a.put o.dst (a.eval x))) : wpQuiet P ops C Q (o :: rest) a :=
  BigFrame.wpQuiet_want hw fun _ hK => BigFrame.quiet_assign x hop (hK _ h)
/-- What is asked of an operation in each world of the class. -/
theorem q_step (v : Value) (hw : Region.wanted o (yielded ops a.tmps) = true) (hv : ∀ w, C w → o.quietAt P a C w v) (h : wpQuiet P ops C Q rest (a.put o.dst v)) : wpQuiet P ops C Q (o :: rest) a :=
  BigFrame.wpQuiet_want hw fun _ hK => ⟨v, hv, hK _ h⟩
theorem q_nil {Q : Exit → Act → World → Prop} (h : ∀ w', C w' → Q .normal a w') : wpQuiet P ops C (fun a' => ∀ w', C w' → Q .normal a' w') [] a := h
end
end Go.Proofs.Ytlifakbdgmdafaa

namespace Go.Proofs.Ytlifakbdgmdafaa
open Go Go.RowKit
section
variable {P : Program} {ops : Array Oper} {Q : Exit → Act → World → Prop} {S C : World → Prop} {r : List (Nat × Nat)} {rest : List Oper} {n : Nat} {m : List (Nat × Value)} {w w' : World} {i d : Nat} {op : Op} {t : TypeId} {pos : String} {aft : Array Edge} {gd : Option (Nat × Bool)} {v : Value}
/-- Along a list of a region that draws its order (RegL). -/
def wt (P : Program) (ops : Array Oper) (Q : Exit → Act → World → Prop) (S : World → Prop) (r : List (Nat × Nat)) (n : Nat) (m : List (Nat × Value)) (w : World) : Prop := ∀ a, Fm n m a → wpT P ops Q S r a w
theorem wt0 (ho : ops[i]? = some ⟨some d, op, t, pos, aft, gd⟩) (hr : ∀ ρ, Reads m ρ → ∀ W, S W → (execOp ρ ⟨some d, op, t, pos, aft, gd⟩).run P W = .ok (.value v) W) (hg : wantedM ops m gd = some true) (hd : Nat.blt d n = true)
    (h : wt P ops Q S r n ((d, v) :: m) w) : wt P ops Q S ((i, 0) :: r) n m w := fun a ha =>
  ⟨_, v, ho, .inl ⟨ha.wanted hg, hr _ ha.reads⟩, h _ (ha.put (by simpa [Nat.blt_eq] using hd) v)⟩
theorem wt1 (ho : ops[i]? = some ⟨some d, op, t, pos, aft, gd⟩) (hr : ∀ ρ, Reads m ρ → ∀ W, (execOp ρ ⟨some d, op, t, pos, aft, gd⟩).run P W = .ok (.value v) W) (hg : wantedM ops m gd = some true) (hd : Nat.blt d n = true)
    (h : wt P ops Q S r n ((d, v) :: m) w) : wt P ops Q S ((i, 1) :: r) n m w := fun a ha =>
  ⟨_, v, ho, .inl ⟨ha.wanted hg, fun W _ => hr _ ha.reads W⟩, h _ (ha.put (by simpa [Nat.blt_eq] using hd) v)⟩
theorem wt1_skip (ho : ops[i]? = some ⟨some d, op, t, pos, aft, gd⟩) (hg : wantedM ops m gd = some false) (hd : Nat.blt d n = true)
    (h : wt P ops Q S r n ((d, undef) :: m) w) : wt P ops Q S ((i, 1) :: r) n m w := fun a ha =>
  ⟨_, undef, ho, .inr ⟨ha.wanted hg, rfl⟩, h _ (ha.put (by simpa [Nat.blt_eq] using hd) undef)⟩
theorem wt0_skip (ho : ops[i]? = some ⟨some d, op, t, pos, aft, gd⟩) (hg : wantedM ops m gd = some false) (hd : Nat.blt d n = true)
    (h : wt P ops Q S r n ((d, undef) :: m) w) : wt P ops Q S ((i, 0) :: r) n m w := fun a ha =>
  ⟨_, undef, ho, .inr ⟨ha.wanted hg, rfl⟩, h _ (ha.put (by simpa [Nat.blt_eq] using hd) undef)⟩
theorem wt2 (ho : ops[i]? = some ⟨some d, op, t, pos, aft, gd⟩) (hr : ∀ ρ, Reads m ρ → (execOp ρ ⟨some d, op, t, pos, aft, gd⟩).run P w = .ok (.value v) w') (hg : wantedM ops m gd = some true) (hd : Nat.blt d n = true) (hS : S w')
    (h : wt P ops Q S r n ((d, v) :: m) w') : wt P ops Q S ((i, 2) :: r) n m w := fun a ha =>
  ⟨_, ho, fun K hK => by
    rw [if_pos (ha.wanted hg)]
    unfold Oper.wp
    rw [hr _ ha.reads]
    exact hK.out _ _ hS (fun _ => h _ (ha.put (by simpa [Nat.blt_eq] using hd) v))⟩
theorem wt2_none (ho : ops[i]? = some ⟨none, op, t, pos, aft, gd⟩) (hr : ∀ ρ, Reads m ρ → (execOp ρ ⟨none, op, t, pos, aft, gd⟩).run P w = .ok .skip w') (hg : wantedM ops m gd = some true) (hS : S w')
    (h : wt P ops Q S r n m w') : wt P ops Q S ((i, 2) :: r) n m w := fun a ha =>
  ⟨_, ho, fun K hK => by
    rw [if_pos (ha.wanted hg)]
    unfold Oper.wp
    rw [hr _ ha.reads]
    exact hK.out _ _ hS (fun _ => h _ ha)⟩
theorem wt2_new {T : TypeId} {cs : Array Value} (ho : ops[i]? = some ⟨some d, op, t, pos, aft, gd⟩) (hr : ∀ ρ, Reads m ρ → (execOp ρ ⟨some d, op, t, pos, aft, gd⟩).run P w = .ok (.value (.pointer (some ⟨w.heap.size, 0, none⟩))) (w.alloc (.cells cs T))) (hg : wantedM ops m gd = some true) (hd : Nat.blt d n = true)
    (h : ∀ g w', Below w.heap.size w w' → Blk w' g T cs → w.heap.size = g → w'.heap.size = g + 1 → S w' ∧ wt P ops Q S r n ((d, .pointer (some ⟨g, 0, none⟩)) :: m) w') : wt P ops Q S ((i, 2) :: r) n m w := fun a ha =>
  ⟨_, ho, fun K hK => by
    obtain ⟨h1, h2⟩ := h _ _ ((Below.refl _ _).alloc (Nat.le_refl _) _) (Blk.new _ _ _) rfl (by simp)
    rw [if_pos (ha.wanted hg)]
    unfold Oper.wp
    rw [hr _ ha.reads]
    exact hK.out _ _ h1 (fun _ => h2 _ (ha.put (by simpa [Nat.blt_eq] using hd) _))⟩
theorem wt2_call {f : FuncId} {xs : List Operand} {ts : Array TypeId} {args : List Value} (ho : ops[i]? = some ⟨some d, .call ⟨.value (.func f), xs.toArray, ts⟩, t, pos, aft, gd⟩) (he : Enters P f) (hargs : evs m xs = some args) (hg : wantedM ops m gd = some true) (hd : Nat.blt d n = true)
    (h : Calls P f args.toArray w fun e w' => ∃ v, e = .returned v ∧ S w' ∧ wt P ops Q S r n ((d, v) :: m) w') : wt P ops Q S ((i, 2) :: r) n m w := fun a ha =>
  ⟨_, ho, fun K hK => by
    rw [if_pos (ha.wanted hg)]
    unfold Oper.wp
    rw [exec_call he rfl (args := args.toArray) (by rw [List.map_toArray, ha.evs hargs])]
    refine h.mono ?_
    rintro e w' ⟨v, rfl, hS, hh⟩
    exact hK.out _ _ hS (fun _ => hh _ (ha.put (by simpa [Nat.blt_eq] using hd) v))⟩
theorem wt3 (ho : ops[i]? = some ⟨some d, op, t, pos, aft, gd⟩) (hr : ∀ ρ, Reads m ρ → (execOp ρ ⟨some d, op, t, pos, aft, gd⟩).run P w = .ok (.value v) w') (hg : wantedM ops m gd = some true) (hd : Nat.blt d n = true)
    (h : wt P ops Q S r n ((d, v) :: m) w') : wt P ops Q S ((i, 3) :: r) n m w := fun a ha =>
  ⟨_, ho, fun K hK => by
    rw [if_pos (ha.wanted hg)]
    unfold Oper.wp
    rw [hr _ ha.reads]
    exact hK.out _ _ (h _ (ha.put (by simpa [Nat.blt_eq] using hd) v))⟩
theorem wt3_none (ho : ops[i]? = some ⟨none, op, t, pos, aft, gd⟩) (hr : ∀ ρ, Reads m ρ → (execOp ρ ⟨none, op, t, pos, aft, gd⟩).run P w = .ok .skip w') (hg : wantedM ops m gd = some true)
    (h : wt P ops Q S r n m w') : wt P ops Q S ((i, 3) :: r) n m w := fun a ha =>
  ⟨_, ho, fun K hK => by
    rw [if_pos (ha.wanted hg)]
    unfold Oper.wp
    rw [hr _ ha.reads]
    exact hK.out _ _ (h _ ha)⟩
theorem wt3_call {f : FuncId} {xs : List Operand} {ts : Array TypeId} {args : List Value} (ho : ops[i]? = some ⟨some d, .call ⟨.value (.func f), xs.toArray, ts⟩, t, pos, aft, gd⟩) (he : Enters P f) (hargs : evs m xs = some args) (hg : wantedM ops m gd = some true) (hd : Nat.blt d n = true)
    (h : Calls P f args.toArray w fun e w' => ∃ v, e = .returned v ∧ wt P ops Q S r n ((d, v) :: m) w') : wt P ops Q S ((i, 3) :: r) n m w := fun a ha =>
  ⟨_, ho, fun K hK => by
    rw [if_pos (ha.wanted hg)]
    unfold Oper.wp
    rw [exec_call he rfl (args := args.toArray) (by rw [List.map_toArray, ha.evs hargs])]
    refine h.mono ?_
    rintro e w' ⟨v, rfl, hh⟩
    exact hK.out _ _ (hh _ (ha.put (by simpa [Nat.blt_eq] using hd) v))⟩
theorem wt_nil (h : xw Q .normal n m w) : wt P ops Q S [] n m w := fun a ha => h a ha
/-- What was written into the frame makes no difference to a panic. -/
def PQ (Q : Exit → Act → World → Prop) : Prop := ∀ c a t v w, Q (.panic c) (a.put t v) w → Q (.panic c) a w
theorem PQ.body {fn : Func} {R : Ending → World → Prop} : PQ (bodyPost P fn R) := fun _ _ t _ _ h => by cases t <;> exact h
theorem PQ.then_ {K : Act → World → Prop} (h : PQ Q) : PQ (Exit.then K Q) := fun c a t v w hh => h c a t v w hh
theorem PQ.block {id : Nat} (h : PQ Q) : PQ (Exit.inBlock id Q) := fun c a t v w hh => h c a t v w hh
theorem cw_drawn {id : Nat} {l : List Oper} (S : World → Prop) (k : Nat) (r : List (Nat × Nat)) (hm : P.follows .mixedOrders = true) (hs : (Region.noSelect l.toArray && (r.length == l.toArray.size) && lexT .any l.toArray k r (Array.replicate l.toArray.size false)) = true)
    (hQ : PQ Q) (hS : S w.drew) (h : wt P l.toArray Q S r n m w.drew) : cw P (.region id l.toArray true) Q n m w := fun a ha => region_L S k r hm hs hQ hS (fun _ => h a ha)

/-- Two of its operations may come up first: each way by itself. -/
theorem cw_fork {id : Nat} {l : List Oper} (S : World → Prop) (k : Nat) (pre : List (Nat × Nat)) (i j : Nat) (r s : List (Nat × Nat)) (hm : P.follows .mixedOrders = true) (hs : (Region.noSelect l.toArray && (r.length + 1 + pre.length == l.toArray.size) && lexU .any l.toArray k (forkB .any l.toArray k i j r s) pre (Array.replicate l.toArray.size false)) = true)
    (hQ : PQ Q) (hS : S w.drew) (h : wt P l.toArray (Exit.then (fun a w => wpT P l.toArray Q S ((i, 2) :: r) a w ∧ wpT P l.toArray Q S ((j, 2) :: s) a w) Q) S pre n m w.drew) : cw P (.region id l.toArray true) Q n m w := fun a ha => region_F S k pre i j r s hm hs hQ hS (h a ha)
theorem xw_fork {i j : Nat} {r s : List (Nat × Nat)} (h1 : wt P ops Q S ((i, 2) :: r) n m w) (h2 : wt P ops Q S ((j, 2) :: s) n m w) : xw (Exit.then (fun a w => wpT P ops Q S ((i, 2) :: r) a w ∧ wpT P ops Q S ((j, 2) :: s) a w) Q) .normal n m w := fun a ha => ⟨h1 a ha, h2 a ha⟩
/-- What follows, proved once for several ways. -/
theorem xw_rest {K : Act → World → Prop} {r : List (Nat × Value)} (h : ∀ a, Fm n r a → K a w) (hs : Sub r m) : xw (Exit.then K Q) .normal n m w := fun a ha => h a (ha.sub hs)
/-- Along the text of a region whose operations keep a class of worlds. -/
def wq (P : Program) (ops : Array Oper) (C : World → Prop) (Q : Exit → Act → World → Prop) (l : List Oper) (n : Nat) (m : List (Nat × Value)) : Prop := ∀ a, Fm n m a → wpQuiet P ops C (fun a' => ∀ w', C w' → Q .normal a' w') l a
theorem wq_val (hr : ∀ ρ, Reads m ρ → ∀ W, C W → (execOp ρ ⟨some d, op, t, pos, aft, gd⟩).run P W = .ok (.value v) W) (hg : wantedM ops m gd = some true) (hd : Nat.blt d n = true) (h : wq P ops C Q rest n ((d, v) :: m)) : wq P ops C Q (⟨some d, op, t, pos, aft, gd⟩ :: rest) n m := fun a ha =>
  q_step v (ha.wanted hg) (fun W hW => by unfold Oper.quietAt; rw [hr _ ha.reads W hW]; exact ⟨rfl, rfl⟩) (h _ (ha.put (by simpa [Nat.blt_eq] using hd) v))
theorem wq_skip (hg : wantedM ops m gd = some false) (hd : Nat.blt d n = true) (h : wq P ops C Q rest n ((d, undef) :: m)) : wq P ops C Q (⟨some d, op, t, pos, aft, gd⟩ :: rest) n m := fun a ha =>
  q_skip (ha.wanted hg) (h _ (ha.put (by simpa [Nat.blt_eq] using hd) undef))
theorem wq_call {f : FuncId} {xs : List Operand} {ts : Array TypeId} {args : List Value} (he : Enters P f) (hargs : evs m xs = some args) (hg : wantedM ops m gd = some true) (hd : Nat.blt d n = true)
    (hc : ∀ W, C W → Calls P f args.toArray W fun e w' => e = .returned v ∧ C w') (h : wq P ops C Q rest n ((d, v) :: m)) : wq P ops C Q (⟨some d, .call ⟨.value (.func f), xs.toArray, ts⟩, t, pos, aft, gd⟩ :: rest) n m := fun a ha =>
  q_step v (ha.wanted hg) (fun W hW => by
    unfold Oper.quietAt
    rw [exec_call he rfl (args := args.toArray) (by rw [List.map_toArray, ha.evs hargs])]
    exact ⟨rfl, hc W hW⟩) (h _ (ha.put (by simpa [Nat.blt_eq] using hd) v))
theorem wq_nil (h : ∀ w', C w' → xw Q .normal n m w') : wq P ops C Q [] n m := fun a ha w' hw => h w' hw a ha
theorem cw_quiet {id : Nat} {l : List Oper} (C : World → Prop) (hm : P.follows .mixedOrders = true) (hB : Region.lexB .any l.toArray = true) (hC : C w.drew) (h : wq P l.toArray C Q l n m) : cw P (.region id l.toArray true) Q n m w := fun a ha => region_C C hm hB hC (h a ha)

/-- The arguments, by slot. -/
def argSlots : Nat → List Value → List (Nat × Value)
  | _, [] => []
  | k, v :: l => (k, v) :: argSlots (k + 1) l
theorem argSlots_lk : ∀ (l : List Value) (k j : Nat) (v : Value), lk (argSlots k l) j = some v → k ≤ j ∧ l[j - k]? = some v
  | [], _, _, _, h => by cases h
  | u :: l, k, j, v, h => by
    simp only [argSlots, lk] at h
    split at h
    · rename_i e
      have : k = j := Nat.eq_of_beq_eq_true e
      subst this
      injection h with h
      subst h
      simp
    · obtain ⟨h1, h2⟩ := argSlots_lk l (k + 1) j v h
      refine ⟨by omega, ?_⟩
      have : j - k = (j - (k + 1)) + 1 := by omega
      rw [this, List.getElem?_cons_succ]
      exact h2
theorem sx_enter {f : FuncId} {fn : Func} {c : Code} {n : Nat} {args : List Value} {w : World} {R : Ending → World → Prop} (hf : P.funcs[f]? = some fn) (hb : fn.body = some c) (hn : fn.ntmps = n) (hle : args.length ≤ n)
    (h : cw P c (bodyPost P fn R) n (argSlots 0 args) w) : Calls P f args.toArray w R := by
  refine calls_of_wp hf hb (h _ ⟨?_, rfl, ?_⟩)
  · simp only [Array.size_append, List.size_toArray, Array.size_replicate, hn]
    omega
  · intro k v hk
    obtain ⟨_, h2⟩ := argSlots_lk _ _ _ _ hk
    have hlt : k < args.length := (List.getElem?_eq_some_iff.1 h2).1
    rw [Array.getElem?_append_left (by simpa using hlt)]
    simpa using h2
theorem xw_ret {fn : Func} {R : Ending → World → Prop} {w : World} (hr : ∀ T : Array Value, (∀ k v, lk m k = some v → T[k]? = some v) → (results fn T).run P w = .ok v w) (hR : R (.returned v) w) : xw (bodyPost P fn R) .ret n m w := fun _ ha =>
  bodyPost_ret (hr _ ha.has) ha.defers hR
theorem xw_end {fn : Func} {R : Ending → World → Prop} {w : World} (hr : ∀ T : Array Value, (∀ k v, lk m k = some v → T[k]? = some v) → (results fn T).run P w = .ok v w) (hR : R (.returned v) w) : xw (bodyPost P fn R) .normal n m w := fun _ ha =>
  bodyPost_end (hr _ ha.has) ha.defers hR
theorem res1 {fn : Func} {a : Nat} (h : fn.results = #[.tmp a]) (T : Array Value) (w : World) (h1 : T[a]? = some v) : (results fn T).run P w = .ok v w := by
  simp [results, h, Array.getD_eq_getD_getElem?, h1]
theorem res2 {fn : Func} {a b : Nat} {u : Value} (h : fn.results = #[.tmp a, .tmp b]) (T : Array Value) (w : World) (h1 : T[a]? = some v) (h2 : T[b]? = some u) : (results fn T).run P w = .ok (.tuple #[v, u]) w := by
  simp [results, h, Array.getD_eq_getD_getElem?, h1, h2]
theorem res3 {fn : Func} {a b c : Nat} {u x : Value} (h : fn.results = #[.tmp a, .tmp b, .tmp c]) (T : Array Value) (w : World) (h1 : T[a]? = some v) (h2 : T[b]? = some u) (h3 : T[c]? = some x) : (results fn T).run P w = .ok (.tuple #[v, u, x]) w := by
  simp [results, h, Array.getD_eq_getD_getElem?, h1, h2, h3]
end
end Go.Proofs.Ytlifakbdgmdafaa
