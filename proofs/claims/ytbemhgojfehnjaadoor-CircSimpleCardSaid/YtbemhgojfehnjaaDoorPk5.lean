/-
  Lemmas and contracts, joined: Need Cneed Cmany.
-/
import Derived.Test.YtbemhgojfehnjaaDoorPk4
namespace Go.Proofs.YtbemhgojfehnjaaDoor
open Go Go.RowKit
def OwnIns (D : Nat → Prop) (L : List Gate) (vs : List Value) (w : World) : Prop := L.length = vs.length ∧ ∀ (i : Nat) (g : Gate) (v : Value), L[i]? = some g → vs[i]? = some v → w.ownsRow 0 3 1 v g.inp.length (intCs g.inp) ∧ ∀ k, v.ownBlock = some k → D k
theorem OwnIns.move {D : Nat → Prop} {L : List Gate} {vs : List Value} {w w' : World} (h : OwnIns D L vs w) (hk : ∀ k, D k → w'.heap[k]? = w.heap[k]?) : OwnIns D L vs w' :=
  ⟨h.1, fun i g v h1 h2 => ⟨ownsRow_move (h.2 i g v h1 h2).1 (fun k q => hk k ((h.2 i g v h1 h2).2 k q)), (h.2 i g v h1 h2).2⟩⟩
theorem OwnIns.nil (w : World) : OwnIns (fun _ => False) [] [] w := ⟨rfl, fun i g v h => by simp at h⟩
theorem OwnIns.ins {D : Nat → Prop} {L : List Gate} {vs : List Value} {w : World} (h : OwnIns D L vs w) : Ins D L vs w :=
  ⟨h.1, fun i g v h1 h2 => (IntsD.of_row (l := g.inp) (h.2 i g v h1 h2).1).mono (h.2 i g v h1 h2).2⟩
theorem snoc_cases {α : Type} {L : List α} {x y : α} {i : Nat} (h : (L ++ [x])[i]? = some y) : L[i]? = some y ∧ i < L.length ∨ i = L.length ∧ y = x := by
  by_cases hi : i < L.length
  · rw [List.getElem?_append_left hi] at h; exact .inl ⟨h, hi⟩
  · rw [List.getElem?_append_right (by omega)] at h
    have e : i - L.length = 0 := by
      rcases Nat.eq_zero_or_pos (i - L.length) with q | q
      · exact q
      · rw [List.getElem?_eq_none (by simp; omega)] at h; cases h
    rw [e] at h
    simp at h
    exact .inr ⟨by omega, h.symm⟩
theorem OwnIns.snoc {D : Nat → Prop} {L : List Gate} {vs : List Value} {w : World} (h : OwnIns D L vs w) {g : Gate} {v : Value} (hg : w.ownsRow 0 3 1 v g.inp.length (intCs g.inp)) : OwnIns (fun k => D k ∨ v.ownBlock = some k) (L ++ [g]) (vs ++ [v]) w := by
  refine ⟨by simp [h.1], fun i g' v' h1 h2 => ?_⟩
  rcases snoc_cases h1 with ⟨a, ha⟩ | ⟨a, rfl⟩
  · rcases snoc_cases h2 with ⟨b, _⟩ | ⟨b, _⟩
    · exact ⟨(h.2 i g' v' a b).1, fun k q => .inl ((h.2 i g' v' a b).2 k q)⟩
    · have := h.1; omega
  · rcases snoc_cases h2 with ⟨_, b⟩ | ⟨_, rfl⟩
    · have := h.1; omega
    · exact ⟨hg, fun k q => .inr q⟩
def ownE (D : Nat → Prop) (L : List Gate) (vs : List Value) : En := .ro D (OwnIns D L vs)
section
variable {Z : Bool → Nat → Prop} {w0 W : World} {LL : List En} {D : Nat → Prop} {L : List Gate} {vs : List Value}
theorem Own.nilown (h : Own Z w0 W LL) : Own Z w0 W (ownE (fun _ => False) [] [] :: LL) :=
  h.add (Below.refl _ _) (e := ownE (fun _ => False) [] []) ⟨OwnIns.nil _, fun _ hk => hk.elim, fun _ _ _ _ _ => OwnIns.nil _⟩ (fun _ hk => hk.elim)
theorem Own.ownsnoc {v : Value} {n : Nat} {g : Gate} (h : Own Z w0 W (.row v 3 1 n (intCs g.inp) :: ownE D L vs :: LL)) (hn : n = g.inp.length) : Own Z w0 W (ownE (fun k => D k ∨ v.ownBlock = some k) (L ++ [g]) (vs ++ [v]) :: LL) := by
  subst hn
  have h1 : OwnIns D L vs W := h.ro 1 rfl
  refine Own.step (A := [.row v 3 1 g.inp.length (intCs g.inp), ownE D L vs]) (A' := [ownE (fun k => D k ∨ v.ownBlock = some k) (L ++ [g]) (vs ++ [v])]) h (Frame.refl NoB W) (fun _ _ hn => hn.elim) (fun e he => ?_) (List.pairwise_singleton _ _) (fun e he k hk => ?_)
  · rw [List.mem_singleton.1 he]
    exact ⟨h1.snoc (h.row 0 rfl), fun k hk => hk.elim (fun q => (h.get 1 rfl).2.1 k q) (fun q => (World.ownsRow.lt (h.row 0 rfl) k q).2), fun _ _ _ hk h => h.move hk⟩
  · rw [List.mem_singleton.1 he] at hk ⊢
    refine .inl ?_
    rcases hk with q | q
    · exact ⟨ownE D L vs, by simp, q, fun h => h.elim⟩
    · exact ⟨.row v 3 1 g.inp.length (intCs g.inp), by simp, q, fun h => h.elim⟩
/-- A new row's block is new. -/
theorem Own.rownew {T sz n : Nat} {v : Value} {xs : List Value} (h : Own Z0 w0 W LL) (i : Nat) (hi : LL[i]? = some (.row v T sz n xs)) : ∀ k, v.ownBlock = some k → w0.heap.size ≤ k := fun k hk => ((h.newrow i hi).lt k hk).1
end
theorem markIn_cons (u : List Bool) (x : Int) (l : List Int) : markIn u (x :: l) = markIn (u.set x.toNat true) l := rfl
theorem markIn_len : ∀ (l : List Int) (u : List Bool), (markIn u l).length = u.length
  | [], _ => rfl
  | x :: l, u => by rw [markIn_cons, markIn_len l]; simp
theorem useGo_succ (L : List Gate) {j : Nat} (u : List Bool) (h : j < L.length) : useGo L (j + 1) u = useGo L j (if u.getD j false then markIn u L[j].inp else u) := by
  rw [useGo]
  simp [gateAt, List.getElem?_eq_getElem h]
/-- The list of inputs while it is renumbered. -/
def renum (p : List Int) (inp : List Int) (k : Nat) : List Int := (inp.take k).map (fun x => p.getD x.toNat 0) ++ inp.drop k
theorem renum_zero (p inp : List Int) : renum p inp 0 = inp := by simp [renum]
theorem renum_full (p inp : List Int) : renum p inp inp.length = inp.map (fun x => p.getD x.toNat 0) := by simp [renum]
theorem renum_len (p inp : List Int) {k : Nat} (h : k ≤ inp.length) : (renum p inp k).length = inp.length := by simp [renum]; omega
theorem renum_get (p inp : List Int) {k : Nat} {x : Int} (h : inp[k]? = some x) : (renum p inp k)[k]? = some x := by
  have hk := (List.getElem?_eq_some_iff.1 h).1
  unfold renum
  rw [List.getElem?_append_right (by simp; omega)]
  simp only [List.length_map, List.length_take, Nat.min_eq_left (Nat.le_of_lt hk), Nat.sub_self, List.getElem?_drop, Nat.add_zero]
  exact h
theorem renum_succ (p inp : List Int) {k : Nat} {x : Int} (h : inp[k]? = some x) : (renum p inp k).set k (p.getD x.toNat 0) = renum p inp (k + 1) := by
  obtain ⟨hk, rfl⟩ := List.getElem?_eq_some_iff.1 h
  unfold renum
  rw [List.set_append_right _ _ (by simp; omega)]
  simp only [List.length_map, List.length_take, Nat.min_eq_left (Nat.le_of_lt hk), Nat.sub_self]
  have e : inp.take (k + 1) = inp.take k ++ [inp[k]] := (List.take_append_getElem hk).symm
  rw [List.drop_eq_getElem_cons hk, List.set_cons_zero, e, List.map_append]
  simp only [List.map_cons, List.map_nil, List.append_assoc, List.singleton_append]
theorem intCs_set (l : List Int) (k : Nat) (x : Int) : (intCs l).set k (.int .i64 x) = intCs (l.set k x) := by simp [intCs, List.map_set]
end Go.Proofs.YtbemhgojfehnjaaDoor
namespace Go.Proofs.YtbemhgojfehnjaaDoor
open Go Go.RowKit
theorem IntsV.at1 {w : World} {B n c : Nat} {A : Option Addr} {xs : List Int} (h : IntsV w B (.slice A n c) xs) {b o n' c' k : Nat} {x : Int} (hb : Value.slice A n c = .slice (some ⟨b, o, none⟩) n' c') (hk : k < xs.length) (hx : xs[k]? = some x) : w.cell? ⟨b, o + k, none⟩ = some (.int .i64 x) := by
  injection hb with h1 _ _
  subst h1
  obtain ⟨b', o', hA, _, h2⟩ := h.at_ (Below.refl _ _) hk
  injection hA with hA
  injection hA with h3 h4 _
  subst h3 h4
  rw [h2]
  rw [List.getElem?_eq_getElem hk] at hx
  injection hx with hx
  rw [hx]
theorem needed_ {W : World} {R : Option Addr} {c rt B : Nat} {N : Int} {D : Nat → Prop} {L : List Gate} {vs : List Value} (hrow : W.ownsRow 0 38 3 (.slice R L.length c) L.length (gcells L vs)) (hI : Ins D L vs W) (hDlt : ∀ k, D k → k < W.heap.size) (hwf : wfL N B L) (hB : B ≤ 1000000) (hL : L.length ≤ 1000000) (hc : L.length ≤ c) (hrt : rt < L.length) :
    Calls Tryd.prog 40 #[.slice R L.length c, .int .i64 (rt : Int)] W fun e w' => ∃ A cA D' vo, e = .returned (.slice A (neededG L (rt : Int)).length cA) ∧ Own Z0 W w' [.row (.slice A (neededG L (rt : Int)).length cA) 38 3 (neededG L (rt : Int)).length (gcells (neededG L (rt : Int)) vo), ownE D' (neededG L (rt : Int)) vo] ∧ ∀ k, D' k → W.heap.size ≤ k := by
  have hins : Ins D L vs W := hI
  have hvl := hins.1
  obtain ⟨r, rfl⟩ := rowaddr hrow (by omega)
  have hr : r < W.heap.size := (World.ownsRow.lt hrow r rfl).2
  have O0 : Own Z0 W W [] := Own.start W
  refine sx_enter (args := [.slice (some ⟨r, 0, none⟩) L.length c, .int .i64 (rt : Int)]) Tryd.func40 rfl rfl (by simp) ?_
  refine cw_seq (fun FK1 K1 => ?_)
  refine cw_region ?_
  refine wl_val (v := .slice none 0 0) (fun ρ e => ex_assign (e _ _ rfl)) rfl rfl ?_
  refine wl_nil ?_
  refine xw_next K1 ?_
  refine cw_seq (fun FK2 K2 => ?_)
  refine cw_region ?_
  refine wl_val (v := .int .i64 (rt : Int)) (fun ρ e => ex_move (e _ _ rfl)) rfl rfl ?_
  refine wl_val (v := .int .i64 ((rt + 1 : Nat) : Int)) (fun ρ e => ex_arith (k := .i64) (u := (rt : Int)) (v := 1) (e _ _ rfl) (e _ _ rfl) (congrArg some ((congrArg _ (by omega)).trans (wrap_in (u := ((rt + 1 : Nat) : Int)) (by omega) (by omega))))) rfl rfl ?_
  obtain ⟨g3, w4, r5, O6, hg7, hs8⟩ := own_make1 O0 ap41 rfl (rt + 1) (by decide) (by omega) (cs := (boolCs (List.replicate (rt + 1) false)).toArray) (by simp [boolCs])
  refine wl_val (v := .slice (some ⟨g3, 0, none⟩) (rt + 1) (rt + 1)) (fun ρ e => r5 ρ _ _ _ _ _ _ _ (e _ _ rfl) (e _ _ rfl)) rfl rfl ?_
  refine wl_val (v := .slice (some ⟨g3, 0, none⟩) (rt + 1) (rt + 1)) (fun ρ e => ex_assign (e _ _ rfl)) rfl rfl ?_
  refine wl_nil ?_
  refine xw_next K2 ?_
  refine cw_seq (fun FK9 K9 => ?_)
  refine cw_region ?_
  refine wl_val (v := .slice (some ⟨g3, 0, none⟩) (rt + 1) (rt + 1)) (fun ρ e => ex_move (e _ _ rfl)) rfl rfl ?_
  refine wl_val (v := .int .i64 (rt : Int)) (fun ρ e => ex_move (e _ _ rfl)) rfl rfl ?_
  refine wl_val (v := .pointer (some ⟨g3, rt, none⟩)) (fun ρ e => ex_idx (q := rt) (i := rt) el41 (e _ _ rfl) (e _ _ rfl) (by omega) (by omega)) rfl rfl ?_
  obtain ⟨w10, r11, O12, hs13⟩ := own_put (o := rt) (n := 1) O6 ty4 (.bool true) [.bool true] (cs' := (boolCs ((List.replicate (rt + 1) false).set rt true)).toArray) rfl rfl rfl (by simp [boolCs] <;> omega) (setBo (List.replicate (rt + 1) false) rt true)
  refine wl_none (fun ρ e => r11 ρ _ _ _ _ _ _ (e _ _ rfl) (e _ _ rfl)) rfl ?_
  refine wl_nil ?_
  refine xw_next K9 ?_
  refine cw_seq (fun FK14 K14 => ?_)
  refine cw_seq (fun FK15 K15 => ?_)
  refine cw_region ?_
  refine wl_val (v := .int .i64 (rt : Int)) (fun ρ e => ex_move (e _ _ rfl)) rfl rfl ?_
  refine wl_val (v := .int .i64 (rt : Int)) (fun ρ e => ex_assign (e _ _ rfl)) rfl rfl ?_
  refine wl_nil ?_
  refine xw_next K15 ?_
  refine cw_block ?_
  refine cw_loop (ι := Nat × Int × List Bool) (fun q => [(0, .slice (some ⟨r, 0, none⟩) L.length c), (1, .int .i64 (rt : Int)), (5, .slice (some ⟨g3, 0, none⟩) (rt + 1) (rt + 1)), (6, .int .i64 q.2.1)]) (fun q X => (q.1 ≤ rt + 1) ∧ (q.2.1 = (q.1 : Int) - 1) ∧ (q.2.2.length = rt + 1) ∧ (useOf L rt = useGo L q.1 q.2.2) ∧ Own Z0 W X [.blk g3 4 ((boolCs q.2.2).toArray)]) (fun q => q.1) (rt + 1, (rt : Int), ((List.replicate (rt + 1) false).set rt true)) ⟨Nat.le_refl _, (by show (rt : Int) = ((rt + 1 : Nat) : Int) - 1; omega), (by show (List.set _ _ _).length = _; simp), rfl, O12⟩ ⟨rfl, rfl, rfl, rfl, trivial⟩ (fun q w16 hJ F17 K18 => ?_)
  obtain ⟨j, t, u⟩ := q
  obtain ⟨hj, ht, hul, hu, O19⟩ := hJ
  dsimp only at hj ht hul hu O19 ⊢
  rcases j with _ | j
  · skip
    simp only [useGo] at hu
    refine cw_seq (fun FK20 K20 => ?_)
    refine cw_seq (fun FK21 K21 => ?_)
    refine cw_region ?_
    refine wl_val (v := .int .i64 t) (fun ρ e => ex_move (e _ _ rfl)) rfl rfl ?_
    refine wl_val (v := .bool false) (fun ρ e => ex_cmp (u := t) (v := 0) (e _ _ rfl) (e _ _ rfl) (geq0 (by omega))) rfl rfl ?_
    refine wl_nil ?_
    refine xw_next K21 ?_
    refine cw_false rfl ?_
    refine cw_exit ?_
    refine xw_past (by intro h; cases h) ?_
    refine xw_past (by intro h; cases h) ?_
    refine xw_here ?_
    refine xw_next K14 ?_
    refine cw_seq (fun FK22 K22 => ?_)
    refine cw_region ?_
    refine wl_val (v := .slice none 0 0) (fun ρ e => ex_assign (e _ _ rfl)) rfl rfl ?_
    refine wl_nil ?_
    refine xw_next K22 ?_
    refine cw_seq (fun FK23 K23 => ?_)
    refine cw_region ?_
    refine wl_val (v := .int .i64 (rt : Int)) (fun ρ e => ex_move (e _ _ rfl)) rfl rfl ?_
    refine wl_val (v := .int .i64 ((rt + 1 : Nat) : Int)) (fun ρ e => ex_arith (k := .i64) (u := (rt : Int)) (v := 1) (e _ _ rfl) (e _ _ rfl) (congrArg some ((congrArg _ (by omega)).trans (wrap_in (u := ((rt + 1 : Nat) : Int)) (by omega) (by omega))))) rfl rfl ?_
    obtain ⟨g24, w25, r26, O27, hg28, hs29⟩ := own_make1 O19 ap36 rfl (rt + 1) (by decide) (by omega) (cs := (intCs (List.replicate (rt + 1) 0)).toArray) (by simp [intCs])
    refine wl_val (v := .slice (some ⟨g24, 0, none⟩) (rt + 1) (rt + 1)) (fun ρ e => r26 ρ _ _ _ _ _ _ _ (e _ _ rfl) (e _ _ rfl)) rfl rfl ?_
    refine wl_val (v := .slice (some ⟨g24, 0, none⟩) (rt + 1) (rt + 1)) (fun ρ e => ex_assign (e _ _ rfl)) rfl rfl ?_
    refine wl_nil ?_
    refine xw_next K23 ?_
    refine cw_seq (fun FK30 K30 => ?_)
    refine cw_seq (fun FK31 K31 => ?_)
    refine cw_region ?_
    refine wl_val (v := .slice (some ⟨r, 0, none⟩) L.length c) (fun ρ e => ex_move (e _ _ rfl)) rfl rfl ?_
    refine wl_val (v := .int .i64 (rt : Int)) (fun ρ e => ex_move (e _ _ rfl)) rfl rfl ?_
    refine wl_val (v := .int .i64 ((rt + 1 : Nat) : Int)) (fun ρ e => ex_arith (k := .i64) (u := (rt : Int)) (v := 1) (e _ _ rfl) (e _ _ rfl) (congrArg some ((congrArg _ (by omega)).trans (wrap_in (u := ((rt + 1 : Nat) : Int)) (by omega) (by omega))))) rfl rfl ?_
    refine wl_val (v := .slice (some ⟨r, 0, none⟩) (rt + 1) c) (fun ρ e => ex_sliceHi (h := rt + 1) (n := L.length) el22 (e _ _ rfl) (e _ _ rfl) (by omega)) rfl rfl ?_
    refine wl_val (v := .int .i64 ((rt + 1 : Nat) : Int)) (fun ρ e => ex_len el22 (e _ _ rfl)) rfl rfl ?_
    refine wl_val (v := .int .i64 0) (fun ρ e => ex_move (e _ _ rfl)) rfl rfl ?_
    refine wl_nil ?_
    refine xw_next K31 ?_
    refine cw_block ?_
    have O32 : Own Z0 W w25 [.row (.slice none 0 0) 38 3 0 (gcells [] []), .blk g24 3 ((intCs (List.replicate (rt + 1) 0)).toArray), .blk g3 4 ((boolCs u).toArray)] := O27.nilrow 38 3
    have O33 : Own Z0 W w25 [.ro (fun _ => False) (OwnIns (fun _ => False) [] []), .row (.slice none 0 0) 38 3 0 (gcells [] []), .blk g24 3 ((intCs (List.replicate (rt + 1) 0)).toArray), .blk g3 4 ((boolCs u).toArray)] := O32.nilown
    have O34 : Own Z0 W w25 [.row (.slice none 0 0) 38 3 0 (gcells [] []), .ro (fun _ => False) (OwnIns (fun _ => False) [] []), .blk g24 3 ((intCs (List.replicate (rt + 1) 0)).toArray), .blk g3 4 ((boolCs u).toArray)] := (O33.re [1, 0, 2, 3] rfl : Own Z0 W w25 [.row (.slice none 0 0) 38 3 0 (gcells [] []), .ro (fun _ => False) (OwnIns (fun _ => False) [] []), .blk g24 3 ((intCs (List.replicate (rt + 1) 0)).toArray), .blk g3 4 ((boolCs u).toArray)])
    have hul0 := hul
    skip
    refine cw_loop (ι := Nat × Option Addr × Nat × Nat × List Gate × List Value × (Nat → Prop) × List Int) (fun q => [(5, .slice (some ⟨g3, 0, none⟩) (rt + 1) (rt + 1)), (9, .slice q.2.1 q.2.2.2.1 q.2.2.1), (10, .slice (some ⟨g24, 0, none⟩) (rt + 1) (rt + 1)), (51, .slice (some ⟨r, 0, none⟩) (rt + 1) c), (52, .int .i64 ((rt + 1 : Nat) : Int)), (53, .int .i64 (q.1 : Int))]) (fun q X => (q.1 ≤ rt + 1) ∧ (q.2.2.2.1 = q.2.2.2.2.1.length) ∧ (q.2.2.2.1 ≤ q.1) ∧ (q.2.2.2.2.2.2.2.length = rt + 1) ∧ (∀ k, q.2.2.2.2.2.2.1 k → W.heap.size ≤ k) ∧ ((placeGo u (L.take (rt + 1)) 0 ([], List.replicate (rt + 1) 0)).1 = (placeGo u ((L.take (rt + 1)).drop q.1) q.1 (q.2.2.2.2.1, q.2.2.2.2.2.2.2)).1) ∧ Own Z0 W X [.row (.slice q.2.1 q.2.2.2.1 q.2.2.1) 38 3 q.2.2.2.1 (gcells q.2.2.2.2.1 q.2.2.2.2.2.1), .ro q.2.2.2.2.2.2.1 (OwnIns q.2.2.2.2.2.2.1 q.2.2.2.2.1 q.2.2.2.2.2.1), .blk g24 3 ((intCs q.2.2.2.2.2.2.2).toArray), .blk g3 4 ((boolCs u).toArray)]) (fun q => rt + 1 - q.1) (0, none, 0, 0, [], [], (fun _ => False), (List.replicate (rt + 1) 0)) ⟨Nat.zero_le _, rfl, Nat.zero_le _, (by show (List.replicate _ _).length = _; simp), (fun k hk => hk.elim), rfl, O34⟩ ⟨rfl, rfl, rfl, rfl, rfl, rfl, trivial⟩ (fun q w35 hJ F36 K37 => ?_)
    obtain ⟨i, A, cA, n, o, vo, Do, p⟩ := q
    obtain ⟨hi0, hn, hni, hpl, hDo, hgo, O38⟩ := hJ
    dsimp only at hi0 hn hni hpl hDo hgo O38 ⊢
    by_cases hi : i < rt + 1
    · have hqi : i < L.length := by omega
      obtain ⟨ub, hub⟩ : ∃ b, u[i]? = some b := ⟨u[i], List.getElem?_eq_getElem (by omega)⟩
      have hdr : (L.take (rt + 1)).drop i = L[i] :: (L.take (rt + 1)).drop (i + 1) := by rw [List.drop_eq_getElem_cons (by simp; omega), List.getElem_take]
      rw [hdr, placeGo, List.getD_eq_getElem?_getD, hub] at hgo
      cases ub
      · skip
        simp only [Option.getD_some, if_true, Bool.false_eq_true, if_false] at hgo
        refine cw_seq (fun FK39 K39 => ?_)
        refine cw_region ?_
        refine wl_val (v := .bool true) (fun ρ e => ex_cmp (u := (i : Int)) (v := ((rt + 1 : Nat) : Int)) (e _ _ rfl) (e _ _ rfl) (lss1 (by omega))) rfl rfl ?_
        refine wl_nil ?_
        refine xw_next K39 ?_
        refine cw_seq (fun FK40 K40 => ?_)
        refine cw_true rfl ?_
        refine cw_skip ?_
        refine xw_next K40 ?_
        refine cw_seq (fun FK41 K41 => ?_)
        refine cw_block ?_
        refine cw_seq (fun FK42 K42 => ?_)
        obtain ⟨hg0, hg1, hg2⟩ := gcells_get (L := L) (vs := vs) (List.getElem?_eq_getElem hqi) (List.getElem?_eq_getElem (show i < vs.length by omega))
        have hD := hins.2 i _ _ (List.getElem?_eq_getElem hqi) (List.getElem?_eq_getElem (show i < vs.length by omega))
        have hwg := hwf i _ (List.getElem?_eq_getElem hqi)
        have hIV : IntsV W W.heap.size vs[i] L[i].inp := hD.V hDlt
        obtain ⟨AI, cI, hAI⟩ := hD.slice
        rw [hAI] at hg2 hIV
        refine cw_region ?_
        refine wl_val (v := .int .i64 (i : Int)) (fun ρ e => ex_move (e _ _ rfl)) rfl rfl ?_
        refine wl_val (v := .pointer (some ⟨r, i * 3, none⟩)) (fun ρ e => ex_idx (q := i * 3) (i := i) el22 (e _ _ rfl) (e _ _ rfl) (by omega) (by omega)) rfl rfl ?_
        refine wl_val (v := .agg #[.int .i64 (L[i].kind), .int .i64 (L[i].lit), .slice AI (L[i].inp.length) cI]) (fun ρ e => ex_loadN (vs := [.int .i64 (L[i].kind), .int .i64 (L[i].lit), .slice AI (L[i].inp.length) cI]) ty38 (e _ _ rfl) rfl (cells3 ((O38.old.cell (p := ⟨r, i * 3, none⟩) hr).trans (rowcell hrow hg0)) ((O38.old.cell (p := ⟨r, i * 3 + 1, none⟩) hr).trans (rowcell hrow hg1)) ((O38.old.cell (p := ⟨r, i * 3 + 2, none⟩) hr).trans (rowcell hrow hg2)))) rfl rfl ?_
        obtain ⟨g43, w44, r45, O46, hg47, hs48⟩ := own_alloc O38 38 ze38 rfl
        refine wl_val (v := .pointer (some ⟨g43, 0, none⟩)) (fun ρ e => r45 ρ _ _ _ _ _) rfl rfl ?_
        refine wl_val (v := .int .i64 (i : Int)) (fun ρ e => ex_assign (e _ _ rfl)) rfl rfl ?_
        obtain ⟨w49, r50, O51, hs52⟩ := own_put (o := 0) (n := 3) O46 ty38 (.agg #[.int .i64 (L[i].kind), .int .i64 (L[i].lit), .slice AI (L[i].inp.length) cI]) [.int .i64 (L[i].kind), .int .i64 (L[i].lit), .slice AI (L[i].inp.length) cI] (cs' := #[.int .i64 (L[i].kind), .int .i64 (L[i].lit), .slice AI (L[i].inp.length) cI]) rfl rfl rfl (Nat.le_of_ble_eq_true rfl) rfl
        refine wl_none (fun ρ e => r50 ρ _ _ _ _ _ _ (e _ _ rfl) (e _ _ rfl)) rfl ?_
        refine wl_nil ?_
        refine xw_next K42 ?_
        refine cw_seq (fun FK53 K53 => ?_)
        refine cw_seq (fun FK54 K54 => ?_)
        refine cw_region ?_
        refine wl_val (v := .slice (some ⟨g3, 0, none⟩) (rt + 1) (rt + 1)) (fun ρ e => ex_move (e _ _ rfl)) rfl rfl ?_
        refine wl_val (v := .int .i64 (i : Int)) (fun ρ e => ex_move (e _ _ rfl)) rfl rfl ?_
        refine wl_val (v := .pointer (some ⟨g3, i, none⟩)) (fun ρ e => ex_idx (q := i) (i := i) el41 (e _ _ rfl) (e _ _ rfl) (by omega) (by omega)) rfl rfl ?_
        refine wl_val (v := .bool false) (fun ρ e => ex_load1 ty4 (e _ _ rfl) (O51.cell 4 i rfl (getBo hub))) rfl rfl ?_
        refine wl_val (v := .bool true) (fun ρ e => ex_lnot (b := false) (e _ _ rfl)) rfl rfl ?_
        refine wl_nil ?_
        refine xw_next K54 ?_
        refine cw_true rfl ?_
        refine cw_exit ?_
        refine xw_past (by intro h; cases h) ?_
        refine xw_here ?_
        refine xw_next K41 ?_
        refine cw_region ?_
        refine wl_val (v := .int .i64 ((i + 1 : Nat) : Int)) (fun ρ e => ex_arith (k := .i64) (u := (i : Int)) (v := 1) (e _ _ rfl) (e _ _ rfl) (congrArg some ((congrArg _ (by omega)).trans (wrap_in (u := ((i + 1 : Nat) : Int)) (by omega) (by omega))))) rfl rfl ?_
        refine wl_val (v := .int .i64 ((i + 1 : Nat) : Int)) (fun ρ e => ex_move (e _ _ rfl)) rfl rfl ?_
        refine wl_nil ?_
        refine xw_round K37 (i + 1, A, cA, n, o, vo, Do, p) (by show rt + 1 - (i + 1) < rt + 1 - i; omega) ⟨(by show i + 1 ≤ _; omega), hn, (by show n ≤ i + 1; omega), hpl, hDo, hgo, (O51.re [1, 2, 3, 4] rfl : Own Z0 W w49 [.row (.slice A n cA) 38 3 n (gcells o vo), .ro Do (OwnIns Do o vo), .blk g24 3 ((intCs p).toArray), .blk g3 4 ((boolCs u).toArray)])⟩ ⟨rfl, rfl, rfl, rfl, rfl, rfl, trivial⟩
      · skip
        simp only [Option.getD_some, if_true, Bool.false_eq_true, if_false] at hgo
        refine cw_seq (fun FK55 K55 => ?_)
        refine cw_region ?_
        refine wl_val (v := .bool true) (fun ρ e => ex_cmp (u := (i : Int)) (v := ((rt + 1 : Nat) : Int)) (e _ _ rfl) (e _ _ rfl) (lss1 (by omega))) rfl rfl ?_
        refine wl_nil ?_
        refine xw_next K55 ?_
        refine cw_seq (fun FK56 K56 => ?_)
        refine cw_true rfl ?_
        refine cw_skip ?_
        refine xw_next K56 ?_
        refine cw_seq (fun FK57 K57 => ?_)
        refine cw_block ?_
        refine cw_seq (fun FK58 K58 => ?_)
        obtain ⟨hg0, hg1, hg2⟩ := gcells_get (L := L) (vs := vs) (List.getElem?_eq_getElem hqi) (List.getElem?_eq_getElem (show i < vs.length by omega))
        have hD := hins.2 i _ _ (List.getElem?_eq_getElem hqi) (List.getElem?_eq_getElem (show i < vs.length by omega))
        have hwg := hwf i _ (List.getElem?_eq_getElem hqi)
        have hIV : IntsV W W.heap.size vs[i] L[i].inp := hD.V hDlt
        obtain ⟨AI, cI, hAI⟩ := hD.slice
        rw [hAI] at hg2 hIV
        refine cw_region ?_
        refine wl_val (v := .int .i64 (i : Int)) (fun ρ e => ex_move (e _ _ rfl)) rfl rfl ?_
        refine wl_val (v := .pointer (some ⟨r, i * 3, none⟩)) (fun ρ e => ex_idx (q := i * 3) (i := i) el22 (e _ _ rfl) (e _ _ rfl) (by omega) (by omega)) rfl rfl ?_
        refine wl_val (v := .agg #[.int .i64 (L[i].kind), .int .i64 (L[i].lit), .slice AI (L[i].inp.length) cI]) (fun ρ e => ex_loadN (vs := [.int .i64 (L[i].kind), .int .i64 (L[i].lit), .slice AI (L[i].inp.length) cI]) ty38 (e _ _ rfl) rfl (cells3 ((O38.old.cell (p := ⟨r, i * 3, none⟩) hr).trans (rowcell hrow hg0)) ((O38.old.cell (p := ⟨r, i * 3 + 1, none⟩) hr).trans (rowcell hrow hg1)) ((O38.old.cell (p := ⟨r, i * 3 + 2, none⟩) hr).trans (rowcell hrow hg2)))) rfl rfl ?_
        obtain ⟨g59, w60, r61, O62, hg63, hs64⟩ := own_alloc O38 38 ze38 rfl
        refine wl_val (v := .pointer (some ⟨g59, 0, none⟩)) (fun ρ e => r61 ρ _ _ _ _ _) rfl rfl ?_
        refine wl_val (v := .int .i64 (i : Int)) (fun ρ e => ex_assign (e _ _ rfl)) rfl rfl ?_
        obtain ⟨w65, r66, O67, hs68⟩ := own_put (o := 0) (n := 3) O62 ty38 (.agg #[.int .i64 (L[i].kind), .int .i64 (L[i].lit), .slice AI (L[i].inp.length) cI]) [.int .i64 (L[i].kind), .int .i64 (L[i].lit), .slice AI (L[i].inp.length) cI] (cs' := #[.int .i64 (L[i].kind), .int .i64 (L[i].lit), .slice AI (L[i].inp.length) cI]) rfl rfl rfl (Nat.le_of_ble_eq_true rfl) rfl
        refine wl_none (fun ρ e => r66 ρ _ _ _ _ _ _ (e _ _ rfl) (e _ _ rfl)) rfl ?_
        refine wl_nil ?_
        refine xw_next K58 ?_
        refine cw_seq (fun FK69 K69 => ?_)
        refine cw_seq (fun FK70 K70 => ?_)
        refine cw_region ?_
        refine wl_val (v := .slice (some ⟨g3, 0, none⟩) (rt + 1) (rt + 1)) (fun ρ e => ex_move (e _ _ rfl)) rfl rfl ?_
        refine wl_val (v := .int .i64 (i : Int)) (fun ρ e => ex_move (e _ _ rfl)) rfl rfl ?_
        refine wl_val (v := .pointer (some ⟨g3, i, none⟩)) (fun ρ e => ex_idx (q := i) (i := i) el41 (e _ _ rfl) (e _ _ rfl) (by omega) (by omega)) rfl rfl ?_
        refine wl_val (v := .bool true) (fun ρ e => ex_load1 ty4 (e _ _ rfl) (O67.cell 4 i rfl (getBo hub))) rfl rfl ?_
        refine wl_val (v := .bool false) (fun ρ e => ex_lnot (b := true) (e _ _ rfl)) rfl rfl ?_
        refine wl_nil ?_
        refine xw_next K70 ?_
        refine cw_false rfl ?_
        refine cw_skip ?_
        refine xw_next K69 ?_
        refine cw_seq (fun FK71 K71 => ?_)
        refine cw_region ?_
        refine wl_val (v := .pointer (some ⟨g59, 2, none⟩)) (fun ρ e => ex_field (q := 2) fi38_2 (e _ _ rfl) rfl) rfl rfl ?_
        refine wl_val (v := .slice AI (L[i].inp.length) cI) (fun ρ e => ex_load1 ty36 (e _ _ rfl) (O67.cell 0 2 rfl rfl)) rfl rfl ?_
        refine wl_call (args := [.slice AI (L[i].inp.length) cI]) in_66 rfl rfl rfl ?_
        refine (clone_ ((hIV.below O67.old).more O67.old.size) (by omega)).mono ?_
        rintro _ w74 ⟨A72, cA2, rfl, h75⟩
        have h75n := h75.rownew 0 rfl
        have h75s := O67.old.size
        have O76 : Own Z0 W w74 [.row (.slice A72 (L[i].inp.length) cA2) 3 1 (L[i].inp.length) (intCs L[i].inp), .blk g59 38 #[.int .i64 (L[i].kind), .int .i64 (L[i].lit), .slice AI (L[i].inp.length) cI], .row (.slice A n cA) 38 3 n (gcells o vo), .ro Do (OwnIns Do o vo), .blk g24 3 ((intCs p).toArray), .blk g3 4 ((boolCs u).toArray)] := O67.join1 h75 trivial
        refine ⟨_, rfl, ?_⟩
        refine wl_val (v := .slice A72 (L[i].inp.length) cA2) (fun ρ e => ex_assign (e _ _ rfl)) rfl rfl ?_
        refine wl_nil ?_
        refine xw_next K71 ?_
        refine cw_seq (fun FK77 K77 => ?_)
        refine cw_seq (fun FK78 K78 => ?_)
        refine cw_region ?_
        refine wl_val (v := .slice A72 (L[i].inp.length) cA2) (fun ρ e => ex_move (e _ _ rfl)) rfl rfl ?_
        refine wl_val (v := .int .i64 ((L[i].inp.length : Nat) : Int)) (fun ρ e => ex_len el36 (e _ _ rfl)) rfl rfl ?_
        refine wl_val (v := .int .i64 0) (fun ρ e => ex_move (e _ _ rfl)) rfl rfl ?_
        refine wl_nil ?_
        refine xw_next K78 ?_
        refine cw_block ?_
        have O79 : Own Z0 W w74 [.row (.slice A72 (L[i].inp.length) cA2) 3 1 (L[i].inp.length) (intCs L[i].inp), .blk g59 38 #[.int .i64 (L[i].kind), .int .i64 (L[i].lit), .slice AI (L[i].inp.length) cI], .row (.slice A n cA) 38 3 n (gcells o vo), .ro Do (OwnIns Do o vo), .blk g24 3 ((intCs p).toArray), .blk g3 4 ((boolCs u).toArray)] := O76
        refine cw_loop (ι := Nat × List Int) (fun q => [(5, .slice (some ⟨g3, 0, none⟩) (rt + 1) (rt + 1)), (9, .slice A n cA), (10, .slice (some ⟨g24, 0, none⟩) (rt + 1) (rt + 1)), (11, .int .i64 (i : Int)), (12, .pointer (some ⟨g59, 0, none⟩)), (13, .slice A72 (L[i].inp.length) cA2), (51, .slice (some ⟨r, 0, none⟩) (rt + 1) c), (52, .int .i64 ((rt + 1 : Nat) : Int)), (53, .int .i64 (i : Int)), (66, .slice A72 (L[i].inp.length) cA2), (67, .int .i64 ((L[i].inp.length : Nat) : Int)), (68, .int .i64 (q.1 : Int))]) (fun q X => (q.1 ≤ L[i].inp.length) ∧ (q.2 = renum p L[i].inp q.1) ∧ Own Z0 W X [.row (.slice A72 (L[i].inp.length) cA2) 3 1 (L[i].inp.length) (intCs q.2), .blk g59 38 #[.int .i64 (L[i].kind), .int .i64 (L[i].lit), .slice AI (L[i].inp.length) cI], .row (.slice A n cA) 38 3 n (gcells o vo), .ro Do (OwnIns Do o vo), .blk g24 3 ((intCs p).toArray), .blk g3 4 ((boolCs u).toArray)]) (fun q => L[i].inp.length - q.1) (0, L[i].inp) ⟨Nat.zero_le _, (renum_zero p _).symm, O79⟩ ⟨rfl, rfl, rfl, rfl, rfl, rfl, rfl, rfl, rfl, rfl, rfl, rfl, trivial⟩ (fun q w80 hJ F81 K82 => ?_)
        obtain ⟨k2, y⟩ := q
        obtain ⟨hk20, hy, O83⟩ := hJ
        dsimp only at hk20 hy O83 ⊢
        by_cases hk2 : k2 < L[i].inp.length
        · obtain ⟨gc, rfl⟩ := O83.rowshape 0 rfl (by omega)
          obtain ⟨x0, hxk, hdr2, hxm⟩ := drop_cons hk2
          have hxr := (good_parts hwg.1).2.2 x0 hxm
          obtain ⟨x, rfl⟩ : ∃ n : Nat, x0 = n := ⟨x0.toNat, by omega⟩
          have hpx : p[x]? = some (p.getD (x : Int).toNat 0) := by simp [List.getElem?_eq_getElem (show x < p.length by omega)]
          refine cw_seq (fun FK84 K84 => ?_)
          refine cw_region ?_
          refine wl_val (v := .bool true) (fun ρ e => ex_cmp (u := (k2 : Int)) (v := ((L[i].inp.length : Nat) : Int)) (e _ _ rfl) (e _ _ rfl) (lss1 (by omega))) rfl rfl ?_
          refine wl_nil ?_
          refine xw_next K84 ?_
          refine cw_seq (fun FK85 K85 => ?_)
          refine cw_true rfl ?_
          refine cw_skip ?_
          refine xw_next K85 ?_
          refine cw_seq (fun FK86 K86 => ?_)
          refine cw_block ?_
          refine cw_seq (fun FK87 K87 => ?_)
          refine cw_region ?_
          refine wl_val (v := .int .i64 (k2 : Int)) (fun ρ e => ex_move (e _ _ rfl)) rfl rfl ?_
          refine wl_val (v := .pointer (some ⟨gc, k2, none⟩)) (fun ρ e => ex_idx (q := k2) (i := k2) el36 (e _ _ rfl) (e _ _ rfl) (by omega) (by omega)) rfl rfl ?_
          refine wl_val (v := .int .i64 (x : Int)) (fun ρ e => ex_load1 ty3 (e _ _ rfl) (rowcell (O83.row 0 rfl) (j := k2) (by rw [hy]; simp [intCs, renum_get p _ hxk]))) rfl rfl ?_
          refine wl_val (v := .int .i64 (k2 : Int)) (fun ρ e => ex_assign (e _ _ rfl)) rfl rfl ?_
          refine wl_val (v := .int .i64 (x : Int)) (fun ρ e => ex_assign (e _ _ rfl)) rfl rfl ?_
          refine wl_nil ?_
          refine xw_next K87 ?_
          refine cw_region ?_
          refine wl_val (v := .slice (some ⟨gc, 0, none⟩) (L[i].inp.length) cA2) (fun ρ e => ex_move (e _ _ rfl)) rfl rfl ?_
          refine wl_val (v := .int .i64 (k2 : Int)) (fun ρ e => ex_move (e _ _ rfl)) rfl rfl ?_
          refine wl_val (v := .slice (some ⟨g24, 0, none⟩) (rt + 1) (rt + 1)) (fun ρ e => ex_move (e _ _ rfl)) rfl rfl ?_
          refine wl_val (v := .int .i64 (x : Int)) (fun ρ e => ex_move (e _ _ rfl)) rfl rfl ?_
          refine wl_val (v := .pointer (some ⟨g24, x, none⟩)) (fun ρ e => ex_idx (q := x) (i := x) el36 (e _ _ rfl) (e _ _ rfl) (by omega) (by omega)) rfl rfl ?_
          refine wl_val (v := .int .i64 (p.getD (x : Int).toNat 0)) (fun ρ e => ex_load1 ty3 (e _ _ rfl) (O83.cell 4 x rfl (getI hpx))) rfl rfl ?_
          refine wl_val (v := .pointer (some ⟨gc, k2, none⟩)) (fun ρ e => ex_idx (q := k2) (i := k2) el36 (e _ _ rfl) (e _ _ rfl) (by omega) (by omega)) rfl rfl ?_
          obtain ⟨w88, r89, O90, hs91⟩ := own_putrow (k := k2) O83 ty3 (by omega) (.int .i64 (p.getD (x : Int).toNat 0)) rfl rfl (ys := intCs (renum p L[i].inp (k2 + 1))) (by rw [hy, intCs_set, renum_succ p _ hxk])
          refine wl_none (fun ρ e => r89 ρ _ _ _ _ _ _ (e _ _ rfl) (e _ _ rfl)) rfl ?_
          refine wl_nil ?_
          refine xw_block ?_
          refine xw_next K86 ?_
          refine cw_region ?_
          refine wl_val (v := .int .i64 ((k2 + 1 : Nat) : Int)) (fun ρ e => ex_arith (k := .i64) (u := (k2 : Int)) (v := 1) (e _ _ rfl) (e _ _ rfl) (congrArg some ((congrArg _ (by omega)).trans (wrap_in (u := ((k2 + 1 : Nat) : Int)) (by omega) (by omega))))) rfl rfl ?_
          refine wl_val (v := .int .i64 ((k2 + 1 : Nat) : Int)) (fun ρ e => ex_move (e _ _ rfl)) rfl rfl ?_
          refine wl_nil ?_
          refine xw_round K82 (k2 + 1, (renum p L[i].inp (k2 + 1))) (by show L[i].inp.length - (k2 + 1) < L[i].inp.length - k2; omega) ⟨(by show k2 + 1 ≤ _; omega), rfl, O90⟩ ⟨rfl, rfl, rfl, rfl, rfl, rfl, rfl, rfl, rfl, rfl, rfl, rfl, trivial⟩
        · have hke : k2 = L[i].inp.length := by omega
          rw [hke, renum_full] at hy
          subst hy
          refine cw_seq (fun FK92 K92 => ?_)
          refine cw_region ?_
          refine wl_val (v := .bool false) (fun ρ e => ex_cmp (u := (k2 : Int)) (v := ((L[i].inp.length : Nat) : Int)) (e _ _ rfl) (e _ _ rfl) (lss0 (by omega))) rfl rfl ?_
          refine wl_nil ?_
          refine xw_next K92 ?_
          refine cw_seq (fun FK93 K93 => ?_)
          refine cw_false rfl ?_
          refine cw_exit ?_
          refine xw_past (by intro h; cases h) ?_
          refine xw_past (by intro h; cases h) ?_
          refine xw_here ?_
          refine xw_next K77 ?_
          refine cw_seq (fun FK94 K94 => ?_)
          refine cw_region ?_
          refine wl_val (v := .slice (some ⟨g24, 0, none⟩) (rt + 1) (rt + 1)) (fun ρ e => ex_move (e _ _ rfl)) rfl rfl ?_
          refine wl_val (v := .int .i64 (i : Int)) (fun ρ e => ex_move (e _ _ rfl)) rfl rfl ?_
          refine wl_val (v := .slice A n cA) (fun ρ e => ex_move (e _ _ rfl)) rfl rfl ?_
          refine wl_val (v := .int .i64 (n : Int)) (fun ρ e => ex_len el22 (e _ _ rfl)) rfl rfl ?_
          refine wl_val (v := .pointer (some ⟨g24, i, none⟩)) (fun ρ e => ex_idx (q := i) (i := i) el36 (e _ _ rfl) (e _ _ rfl) (by omega) (by omega)) rfl rfl ?_
          obtain ⟨w95, r96, O97, hs98⟩ := own_put (o := i) (n := 1) (O83.re [4, 0, 1, 2, 3, 5] rfl : Own Z0 W w80 [.blk g24 3 ((intCs p).toArray), .row (.slice A72 (L[i].inp.length) cA2) 3 1 (L[i].inp.length) (intCs (L[i].inp.map (fun x : Int => p.getD x.toNat 0))), .blk g59 38 #[.int .i64 (L[i].kind), .int .i64 (L[i].lit), .slice AI (L[i].inp.length) cI], .row (.slice A n cA) 38 3 n (gcells o vo), .ro Do (OwnIns Do o vo), .blk g3 4 ((boolCs u).toArray)]) ty3 (.int .i64 (n : Int)) [.int .i64 (n : Int)] (cs' := (intCs (p.set i (n : Int))).toArray) rfl rfl rfl (by simp [intCs] <;> omega) (setI p i (n : Int))
          refine wl_none (fun ρ e => r96 ρ _ _ _ _ _ _ (e _ _ rfl) (e _ _ rfl)) rfl ?_
          refine wl_nil ?_
          refine xw_next K94 ?_
          refine cw_region ?_
          refine wl_val (v := .slice A n cA) (fun ρ e => ex_move (e _ _ rfl)) rfl rfl ?_
          refine wl_val (v := .pointer (some ⟨g59, 0, none⟩)) (fun ρ e => ex_field (q := 0) fi38_0 (e _ _ rfl) rfl) rfl rfl ?_
          refine wl_val (v := .int .i64 (L[i].kind)) (fun ρ e => ex_load1 ty3 (e _ _ rfl) (O97.cell 2 0 rfl rfl)) rfl rfl ?_
          refine wl_val (v := .pointer (some ⟨g59, 1, none⟩)) (fun ρ e => ex_field (q := 1) fi38_1 (e _ _ rfl) rfl) rfl rfl ?_
          refine wl_val (v := .int .i64 (L[i].lit)) (fun ρ e => ex_load1 ty3 (e _ _ rfl) (O97.cell 2 1 rfl rfl)) rfl rfl ?_
          refine wl_val (v := .slice A72 (L[i].inp.length) cA2) (fun ρ e => ex_move (e _ _ rfl)) rfl rfl ?_
          refine wl_val (v := .agg #[.int .i64 (L[i].kind), .int .i64 (L[i].lit), .slice A72 (L[i].inp.length) cA2]) (fun ρ e => ex_build (cells := #[.int .i64 (L[i].kind), .int .i64 (L[i].lit), .slice A72 (L[i].inp.length) cA2]) st38 (e.parts rfl) rfl) rfl rfl ?_
          obtain ⟨g99, w100, r101, O102, hg103, hs104⟩ := own_slice O97 el22 ze38 1 [(0, .agg #[.int .i64 (L[i].kind), .int .i64 (L[i].lit), .slice A72 (L[i].inp.length) cA2])] (cs := #[.int .i64 (L[i].kind), .int .i64 (L[i].lit), .slice A72 (L[i].inp.length) cA2]) (by decide) (by kernel_rfl)
          refine wl_val (v := .slice (some ⟨g99, 0, none⟩) 1 1) (fun ρ e => r101 ρ _ _ _ _ _ _ (e.parts rfl)) rfl rfl ?_
          obtain ⟨A105, c106, w107, r108, O109, hz110, hc111⟩ := own_app1 (O102.re [4, 0, 1, 2, 3, 5, 6] rfl : Own Z0 W w100 [.row (.slice A n cA) 38 3 n (gcells o vo), .blk g99 38 #[.int .i64 (L[i].kind), .int .i64 (L[i].lit), .slice A72 (L[i].inp.length) cA2], .blk g24 3 ((intCs (p.set i (n : Int))).toArray), .row (.slice A72 (L[i].inp.length) cA2) 3 1 (L[i].inp.length) (intCs (L[i].inp.map (fun x : Int => p.getD x.toNat 0))), .blk g59 38 #[.int .i64 (L[i].kind), .int .i64 (L[i].lit), .slice AI (L[i].inp.length) cI], .ro Do (OwnIns Do o vo), .blk g3 4 ((boolCs u).toArray)]) ap22 ((O102.re [4, 0, 1, 2, 3, 5, 6] rfl : Own Z0 W w100 [.row (.slice A n cA) 38 3 n (gcells o vo), .blk g99 38 #[.int .i64 (L[i].kind), .int .i64 (L[i].lit), .slice A72 (L[i].inp.length) cA2], .blk g24 3 ((intCs (p.set i (n : Int))).toArray), .row (.slice A72 (L[i].inp.length) cA2) 3 1 (L[i].inp.length) (intCs (L[i].inp.map (fun x : Int => p.getD x.toNat 0))), .blk g59 38 #[.int .i64 (L[i].kind), .int .i64 (L[i].lit), .slice AI (L[i].inp.length) cI], .ro Do (OwnIns Do o vo), .blk g3 4 ((boolCs u).toArray)]).blk 1 rfl) (cells := [.int .i64 (L[i].kind), .int .i64 (L[i].lit), .slice A72 (L[i].inp.length) cA2]) rfl rfl (by omega) (by omega) (ys := (gcells (o ++ [(Gate.mk L[i].kind L[i].lit (L[i].inp.map (fun x : Int => p.getD x.toNat 0)))]) (vo ++ [Value.slice A72 (L[i].inp.length) cA2]))) (gcells_snoc (Gate.mk L[i].kind L[i].lit (L[i].inp.map (fun x : Int => p.getD x.toNat 0))) (Value.slice A72 (L[i].inp.length) cA2) o vo (O102.ro 5 rfl : OwnIns Do o vo _).1).symm
          refine wl_val (v := .slice A105 (n + 1) c106) (fun ρ e => r108 ρ _ _ _ _ _ _ _ (e _ _ rfl) (e _ _ rfl)) rfl rfl ?_
          refine wl_val (v := .slice A105 (n + 1) c106) (fun ρ e => ex_assign (e _ _ rfl)) rfl rfl ?_
          refine wl_nil ?_
          refine xw_block ?_
          refine xw_next K57 ?_
          refine cw_region ?_
          refine wl_val (v := .int .i64 ((i + 1 : Nat) : Int)) (fun ρ e => ex_arith (k := .i64) (u := (i : Int)) (v := 1) (e _ _ rfl) (e _ _ rfl) (congrArg some ((congrArg _ (by omega)).trans (wrap_in (u := ((i + 1 : Nat) : Int)) (by omega) (by omega))))) rfl rfl ?_
          refine wl_val (v := .int .i64 ((i + 1 : Nat) : Int)) (fun ρ e => ex_move (e _ _ rfl)) rfl rfl ?_
          refine wl_nil ?_
          have hlm : L[i].inp.length = (L[i].inp.map (fun x : Int => p.getD x.toNat 0)).length := by simp
          have O112 := Own.ownsnoc (v := .slice A72 (L[i].inp.length) cA2) (g := (Gate.mk L[i].kind L[i].lit (L[i].inp.map (fun x : Int => p.getD x.toNat 0)))) (n := L[i].inp.length) (D := Do) (L := o) (vs := vo) (LL := [.row (.slice A105 (n + 1) c106) 38 3 (n + 1) (gcells (o ++ [(Gate.mk L[i].kind L[i].lit (L[i].inp.map (fun x : Int => p.getD x.toNat 0)))]) (vo ++ [Value.slice A72 (L[i].inp.length) cA2])), .blk g99 38 #[.int .i64 (L[i].kind), .int .i64 (L[i].lit), .slice A72 (L[i].inp.length) cA2], .blk g24 3 ((intCs (p.set i (n : Int))).toArray), .blk g59 38 #[.int .i64 (L[i].kind), .int .i64 (L[i].lit), .slice AI (L[i].inp.length) cI], .blk g3 4 ((boolCs u).toArray)]) (O109.re [3, 5, 0, 1, 2, 4, 6] rfl : Own Z0 W w107 [.row (.slice A72 (L[i].inp.length) cA2) 3 1 (L[i].inp.length) (intCs (L[i].inp.map (fun x : Int => p.getD x.toNat 0))), .ro Do (OwnIns Do o vo), .row (.slice A105 (n + 1) c106) 38 3 (n + 1) (gcells (o ++ [(Gate.mk L[i].kind L[i].lit (L[i].inp.map (fun x : Int => p.getD x.toNat 0)))]) (vo ++ [Value.slice A72 (L[i].inp.length) cA2])), .blk g99 38 #[.int .i64 (L[i].kind), .int .i64 (L[i].lit), .slice A72 (L[i].inp.length) cA2], .blk g24 3 ((intCs (p.set i (n : Int))).toArray), .blk g59 38 #[.int .i64 (L[i].kind), .int .i64 (L[i].lit), .slice AI (L[i].inp.length) cI], .blk g3 4 ((boolCs u).toArray)]) hlm
          refine xw_round K37 (i + 1, A105, c106, n + 1, (o ++ [(Gate.mk L[i].kind L[i].lit (L[i].inp.map (fun x : Int => p.getD x.toNat 0)))]), (vo ++ [Value.slice A72 (L[i].inp.length) cA2]), (fun k => Do k ∨ (Value.ownBlock (.slice A72 (L[i].inp.length) cA2)) = some k), (p.set i (n : Int))) (by show rt + 1 - (i + 1) < rt + 1 - i; omega) ⟨(by show i + 1 ≤ _; omega), (by show n + 1 = (o ++ [_]).length; simp [hn]), (by show n + 1 ≤ i + 1; omega), (by show (List.set _ _ _).length = _; simp [hpl]), (fun k hk => hk.elim (hDo k) (fun q => Nat.le_trans h75s (h75n k q))), (hn ▸ hgo), (O112.re [1, 0, 3, 5] rfl : Own Z0 W w107 [.row (.slice A105 (n + 1) c106) 38 3 (n + 1) (gcells (o ++ [(Gate.mk L[i].kind L[i].lit (L[i].inp.map (fun x : Int => p.getD x.toNat 0)))]) (vo ++ [Value.slice A72 (L[i].inp.length) cA2])), .ro (fun k => Do k ∨ (Value.ownBlock (.slice A72 (L[i].inp.length) cA2)) = some k) (OwnIns (fun k => Do k ∨ (Value.ownBlock (.slice A72 (L[i].inp.length) cA2)) = some k) (o ++ [(Gate.mk L[i].kind L[i].lit (L[i].inp.map (fun x : Int => p.getD x.toNat 0)))]) (vo ++ [Value.slice A72 (L[i].inp.length) cA2])), .blk g24 3 ((intCs (p.set i (n : Int))).toArray), .blk g3 4 ((boolCs u).toArray)])⟩ ⟨rfl, rfl, rfl, rfl, rfl, rfl, trivial⟩
    · have hie : i = rt + 1 := by omega
      rw [List.drop_eq_nil_of_le (by simp; omega)] at hgo
      simp only [placeGo] at hgo
      refine cw_seq (fun FK113 K113 => ?_)
      refine cw_region ?_
      refine wl_val (v := .bool false) (fun ρ e => ex_cmp (u := (i : Int)) (v := ((rt + 1 : Nat) : Int)) (e _ _ rfl) (e _ _ rfl) (lss0 (by omega))) rfl rfl ?_
      refine wl_nil ?_
      refine xw_next K113 ?_
      refine cw_seq (fun FK114 K114 => ?_)
      refine cw_false rfl ?_
      refine cw_exit ?_
      refine xw_past (by intro h; cases h) ?_
      refine xw_past (by intro h; cases h) ?_
      refine xw_here ?_
      refine xw_next K30 ?_
      refine cw_seq (fun FK115 K115 => ?_)
      refine cw_region ?_
      refine wl_val (v := .slice A n cA) (fun ρ e => ex_move (e _ _ rfl)) rfl rfl ?_
      refine wl_val (v := .slice A n cA) (fun ρ e => ex_assign (e _ _ rfl)) rfl rfl ?_
      refine wl_nil ?_
      refine xw_next K115 ?_
      refine cw_ret ?_
      refine xw_ret (v := .slice A n cA) (fun T hT => res1 rfl T _ (hT 4 _ rfl)) ?_
      have hres : neededG L (rt : Int) = o := by unfold neededG; rw [Int.toNat_natCast, hu]; exact hgo
      rw [hres, ← hn]
      exact ⟨A, cA, Do, vo, rfl, (O38.re [0, 1] rfl : Own Z0 W w35 [.row (.slice A n cA) 38 3 n (gcells o vo), .ro Do (OwnIns Do o vo)]), hDo⟩
  · obtain rfl : t = (j : Int) := by omega
    have hqj : j < L.length := by omega
    rw [useGo_succ L u hqj] at hu
    obtain ⟨ub, hub⟩ : ∃ b, u[j]? = some b := ⟨u[j], List.getElem?_eq_getElem (by omega)⟩
    rw [List.getD_eq_getElem?_getD, hub] at hu
    simp only [Option.getD_some] at hu
    cases ub
    · skip
      simp only [if_true, Bool.false_eq_true, if_false] at hu
      refine cw_seq (fun FK116 K116 => ?_)
      refine cw_seq (fun FK117 K117 => ?_)
      refine cw_region ?_
      refine wl_val (v := .int .i64 (j : Int)) (fun ρ e => ex_move (e _ _ rfl)) rfl rfl ?_
      refine wl_val (v := .bool true) (fun ρ e => ex_cmp (u := (j : Int)) (v := 0) (e _ _ rfl) (e _ _ rfl) (geq1 (by omega))) rfl rfl ?_
      refine wl_nil ?_
      refine xw_next K117 ?_
      refine cw_true rfl ?_
      refine cw_skip ?_
      refine xw_next K116 ?_
      refine cw_seq (fun FK118 K118 => ?_)
      refine cw_block ?_
      refine cw_seq (fun FK119 K119 => ?_)
      refine cw_region ?_
      refine wl_val (v := .slice (some ⟨g3, 0, none⟩) (rt + 1) (rt + 1)) (fun ρ e => ex_move (e _ _ rfl)) rfl rfl ?_
      refine wl_val (v := .int .i64 (j : Int)) (fun ρ e => ex_move (e _ _ rfl)) rfl rfl ?_
      refine wl_val (v := .pointer (some ⟨g3, j, none⟩)) (fun ρ e => ex_idx (q := j) (i := j) el41 (e _ _ rfl) (e _ _ rfl) (by omega) (by omega)) rfl rfl ?_
      refine wl_val (v := .bool false) (fun ρ e => ex_load1 ty4 (e _ _ rfl) (O19.cell 0 j rfl (getBo hub))) rfl rfl ?_
      refine wl_nil ?_
      refine xw_next K119 ?_
      refine cw_false rfl ?_
      refine cw_skip ?_
      refine xw_block ?_
      refine xw_next K118 ?_
      refine cw_region ?_
      refine wl_val (v := .int .i64 (j : Int)) (fun ρ e => ex_move (e _ _ rfl)) rfl rfl ?_
      refine wl_val (v := .int .i64 ((j : Int) - 1)) (fun ρ e => ex_arith (k := .i64) (u := (j : Int)) (v := 1) (e _ _ rfl) (e _ _ rfl) (congrArg some (wrap_in (by omega) (by omega)))) rfl rfl ?_
      refine wl_val (v := .int .i64 ((j : Int) - 1)) (fun ρ e => ex_assign (e _ _ rfl)) rfl rfl ?_
      refine wl_nil ?_
      refine xw_round K18 (j, ((j : Int) - 1), u) (by show j < j + 1; omega) ⟨(by show j ≤ _; omega), rfl, hul, hu, O19⟩ ⟨rfl, rfl, rfl, rfl, trivial⟩
    · skip
      simp only [if_true, Bool.false_eq_true, if_false] at hu
      refine cw_seq (fun FK120 K120 => ?_)
      refine cw_seq (fun FK121 K121 => ?_)
      refine cw_region ?_
      refine wl_val (v := .int .i64 (j : Int)) (fun ρ e => ex_move (e _ _ rfl)) rfl rfl ?_
      refine wl_val (v := .bool true) (fun ρ e => ex_cmp (u := (j : Int)) (v := 0) (e _ _ rfl) (e _ _ rfl) (geq1 (by omega))) rfl rfl ?_
      refine wl_nil ?_
      refine xw_next K121 ?_
      refine cw_true rfl ?_
      refine cw_skip ?_
      refine xw_next K120 ?_
      refine cw_seq (fun FK122 K122 => ?_)
      refine cw_block ?_
      refine cw_seq (fun FK123 K123 => ?_)
      refine cw_region ?_
      refine wl_val (v := .slice (some ⟨g3, 0, none⟩) (rt + 1) (rt + 1)) (fun ρ e => ex_move (e _ _ rfl)) rfl rfl ?_
      refine wl_val (v := .int .i64 (j : Int)) (fun ρ e => ex_move (e _ _ rfl)) rfl rfl ?_
      refine wl_val (v := .pointer (some ⟨g3, j, none⟩)) (fun ρ e => ex_idx (q := j) (i := j) el41 (e _ _ rfl) (e _ _ rfl) (by omega) (by omega)) rfl rfl ?_
      refine wl_val (v := .bool true) (fun ρ e => ex_load1 ty4 (e _ _ rfl) (O19.cell 0 j rfl (getBo hub))) rfl rfl ?_
      refine wl_nil ?_
      refine xw_next K123 ?_
      refine cw_true rfl ?_
      refine cw_seq (fun FK124 K124 => ?_)
      obtain ⟨hg0, hg1, hg2⟩ := gcells_get (L := L) (vs := vs) (List.getElem?_eq_getElem hqj) (List.getElem?_eq_getElem (show j < vs.length by omega))
      have hD := hins.2 j _ _ (List.getElem?_eq_getElem hqj) (List.getElem?_eq_getElem (show j < vs.length by omega))
      have hwg := hwf j _ (List.getElem?_eq_getElem hqj)
      have hIV : IntsV W W.heap.size vs[j] L[j].inp := hD.V hDlt
      obtain ⟨AI, cI, hAI⟩ := hD.slice
      rw [hAI] at hg2 hIV
      refine cw_region ?_
      refine wl_val (v := .slice (some ⟨r, 0, none⟩) L.length c) (fun ρ e => ex_move (e _ _ rfl)) rfl rfl ?_
      refine wl_val (v := .int .i64 (j : Int)) (fun ρ e => ex_move (e _ _ rfl)) rfl rfl ?_
      refine wl_val (v := .pointer (some ⟨r, j * 3, none⟩)) (fun ρ e => ex_idx (q := j * 3) (i := j) el22 (e _ _ rfl) (e _ _ rfl) (by omega) (by omega)) rfl rfl ?_
      refine wl_val (v := .pointer (some ⟨r, j * 3 + 2, none⟩)) (fun ρ e => ex_field (q := j * 3 + 2) fi38_2 (e _ _ rfl) rfl) rfl rfl ?_
      refine wl_val (v := .slice AI (L[j].inp.length) cI) (fun ρ e => ex_load1 ty36 (e _ _ rfl) ((O19.old.cell (p := ⟨r, j * 3 + 2, none⟩) hr).trans (rowcell hrow hg2))) rfl rfl ?_
      refine wl_val (v := .int .i64 ((L[j].inp.length : Nat) : Int)) (fun ρ e => ex_len el36 (e _ _ rfl)) rfl rfl ?_
      refine wl_val (v := .int .i64 0) (fun ρ e => ex_move (e _ _ rfl)) rfl rfl ?_
      refine wl_nil ?_
      refine xw_next K124 ?_
      refine cw_block ?_
      have O125 : Own Z0 W w16 [.blk g3 4 ((boolCs u).toArray)] := O19
      refine cw_loop (ι := Nat × List Bool) (fun q => [(0, .slice (some ⟨r, 0, none⟩) L.length c), (1, .int .i64 (rt : Int)), (5, .slice (some ⟨g3, 0, none⟩) (rt + 1) (rt + 1)), (6, .int .i64 (j : Int)), (35, .slice AI (L[j].inp.length) cI), (36, .int .i64 ((L[j].inp.length : Nat) : Int)), (37, .int .i64 (q.1 : Int))]) (fun q X => (q.1 ≤ L[j].inp.length) ∧ (q.2.length = rt + 1) ∧ (markIn q.2 (L[j].inp.drop q.1) = markIn u L[j].inp) ∧ Own Z0 W X [.blk g3 4 ((boolCs q.2).toArray)]) (fun q => L[j].inp.length - q.1) (0, u) ⟨Nat.zero_le _, hul, rfl, O125⟩ ⟨rfl, rfl, rfl, rfl, rfl, rfl, rfl, trivial⟩ (fun q w126 hJ F127 K128 => ?_)
      obtain ⟨k2, u2⟩ := q
      obtain ⟨hk20, hul2, hm, O129⟩ := hJ
      dsimp only at hk20 hul2 hm O129 ⊢
      by_cases hk2 : k2 < L[j].inp.length
      · obtain ⟨x0, hxk, hdr, hxm⟩ := drop_cons hk2
        have hxr := (good_parts hwg.1).2.2 x0 hxm
        obtain ⟨x, rfl⟩ : ∃ n : Nat, x0 = n := ⟨x0.toNat, by omega⟩
        obtain ⟨bI, oI, cJ, hbI⟩ := (IntsD.of_V hIV).form (by omega)
        refine cw_seq (fun FK130 K130 => ?_)
        refine cw_region ?_
        refine wl_val (v := .bool true) (fun ρ e => ex_cmp (u := (k2 : Int)) (v := ((L[j].inp.length : Nat) : Int)) (e _ _ rfl) (e _ _ rfl) (lss1 (by omega))) rfl rfl ?_
        refine wl_nil ?_
        refine xw_next K130 ?_
        refine cw_seq (fun FK131 K131 => ?_)
        refine cw_true rfl ?_
        refine cw_skip ?_
        refine xw_next K131 ?_
        refine cw_seq (fun FK132 K132 => ?_)
        refine cw_block ?_
        refine cw_seq (fun FK133 K133 => ?_)
        refine cw_region ?_
        refine wl_val (v := .pointer (some ⟨bI, oI + k2, none⟩)) (fun ρ e => ex_idx (q := oI + k2) (o := oI) (i := k2) el36 ((e _ _ rfl).trans hbI) (e _ _ rfl) hk2 (by omega)) rfl rfl ?_
        refine wl_val (v := .int .i64 (x : Int)) (fun ρ e => ex_load1 ty3 (e _ _ rfl) (((hIV.below O129.old).at1 hbI hk2 hxk))) rfl rfl ?_
        refine wl_val (v := .int .i64 (x : Int)) (fun ρ e => ex_assign (e _ _ rfl)) rfl rfl ?_
        refine wl_nil ?_
        refine xw_next K133 ?_
        refine cw_region ?_
        refine wl_val (v := .slice (some ⟨g3, 0, none⟩) (rt + 1) (rt + 1)) (fun ρ e => ex_move (e _ _ rfl)) rfl rfl ?_
        refine wl_val (v := .int .i64 (x : Int)) (fun ρ e => ex_move (e _ _ rfl)) rfl rfl ?_
        refine wl_val (v := .pointer (some ⟨g3, x, none⟩)) (fun ρ e => ex_idx (q := x) (i := x) el41 (e _ _ rfl) (e _ _ rfl) (by omega) (by omega)) rfl rfl ?_
        obtain ⟨w134, r135, O136, hs137⟩ := own_put (o := x) (n := 1) O129 ty4 (.bool true) [.bool true] (cs' := (boolCs (u2.set x true)).toArray) rfl rfl rfl (by simp [boolCs] <;> omega) (setBo u2 x true)
        refine wl_none (fun ρ e => r135 ρ _ _ _ _ _ _ (e _ _ rfl) (e _ _ rfl)) rfl ?_
        refine wl_nil ?_
        refine xw_block ?_
        refine xw_next K132 ?_
        refine cw_region ?_
        refine wl_val (v := .int .i64 ((k2 + 1 : Nat) : Int)) (fun ρ e => ex_arith (k := .i64) (u := (k2 : Int)) (v := 1) (e _ _ rfl) (e _ _ rfl) (congrArg some ((congrArg _ (by omega)).trans (wrap_in (u := ((k2 + 1 : Nat) : Int)) (by omega) (by omega))))) rfl rfl ?_
        refine wl_val (v := .int .i64 ((k2 + 1 : Nat) : Int)) (fun ρ e => ex_move (e _ _ rfl)) rfl rfl ?_
        refine wl_nil ?_
        refine xw_round K128 (k2 + 1, (u2.set x true)) (by show L[j].inp.length - (k2 + 1) < L[j].inp.length - k2; omega) ⟨(by show k2 + 1 ≤ _; omega), (by show (List.set _ _ _).length = _; simp [hul2]), (by show markIn (u2.set x true) (L[j].inp.drop (k2 + 1)) = _; rw [← hm, hdr, markIn_cons]; rfl), O136⟩ ⟨rfl, rfl, rfl, rfl, rfl, rfl, rfl, trivial⟩
      · have hke : k2 = L[j].inp.length := by omega
        rw [List.drop_eq_nil_of_le (by omega)] at hm
        have hu3 : useOf L rt = useGo L j u2 := by rw [hu, ← hm]; rfl
        refine cw_seq (fun FK138 K138 => ?_)
        refine cw_region ?_
        refine wl_val (v := .bool false) (fun ρ e => ex_cmp (u := (k2 : Int)) (v := ((L[j].inp.length : Nat) : Int)) (e _ _ rfl) (e _ _ rfl) (lss0 (by omega))) rfl rfl ?_
        refine wl_nil ?_
        refine xw_next K138 ?_
        refine cw_seq (fun FK139 K139 => ?_)
        refine cw_false rfl ?_
        refine cw_exit ?_
        refine xw_past (by intro h; cases h) ?_
        refine xw_past (by intro h; cases h) ?_
        refine xw_here ?_
        refine xw_block ?_
        refine xw_next K122 ?_
        refine cw_region ?_
        refine wl_val (v := .int .i64 (j : Int)) (fun ρ e => ex_move (e _ _ rfl)) rfl rfl ?_
        refine wl_val (v := .int .i64 ((j : Int) - 1)) (fun ρ e => ex_arith (k := .i64) (u := (j : Int)) (v := 1) (e _ _ rfl) (e _ _ rfl) (congrArg some (wrap_in (by omega) (by omega)))) rfl rfl ?_
        refine wl_val (v := .int .i64 ((j : Int) - 1)) (fun ρ e => ex_assign (e _ _ rfl)) rfl rfl ?_
        refine wl_nil ?_
        refine xw_round K18 (j, ((j : Int) - 1), u2) (by show j < j + 1; omega) ⟨(by show j ≤ _; omega), rfl, hul2, hu3, O129⟩ ⟨rfl, rfl, rfl, rfl, trivial⟩
end Go.Proofs.YtbemhgojfehnjaaDoor
namespace Go.Proofs.YtbemhgojfehnjaaDoor
open Go Go.RowKit
theorem manyG_or (L : List Gate) (ins : List Int) : manyG L 5 ins = match manyGo L 0 1 ins [] with
  | .inl i => (L, i)
  | .inr [] => findG L ⟨0, 0, []⟩
  | .inr [x] => (L, x)
  | .inr left => findG L ⟨5, 0, left⟩ := rfl
theorem manyG_and (L : List Gate) (ins : List Int) : manyG L 4 ins = match manyGo L 1 0 ins [] with
  | .inl i => (L, i)
  | .inr [] => findG L ⟨1, 0, []⟩
  | .inr [x] => (L, x)
  | .inr left => findG L ⟨4, 0, left⟩ := rfl
section
variable {W : World} {f m c : Nat} {R : Option Addr} {D DI : Nat → Prop} {L : List Gate} {vs : List Value} {V GV : Value} {kind lit : Int} {ins : List Int}
theorem many5 (O0 : Own (zone (foldE f m R c D L vs ++ [inE DI V ins])) W W (foldE f m R c D L vs ++ [inE DI V ins])) (hin : ∀ x ∈ ins, 0 ≤ x ∧ x < (L.length : Int)) (hil : ins.length ≤ 1000000) (hL : L.length ≤ 1000000) :
    Calls Tryd.prog 62 #[.pointer (some ⟨f, 0, none⟩), .agg #[.int .i64 5, .int .i64 lit, GV], V] W (FPost (foldE f m R c D L vs ++ [inE DI V ins]) W f m (manyG L 5 ins)) := by
  have hV : IntsD DI W V ins := O0.ro 5 rfl
  have hVf := fun (h : 0 < ins.length) => hV.form h
  obtain ⟨AI, cI, rfl⟩ := hV.slice
  refine sx_enter (args := [.pointer (some ⟨f, 0, none⟩), .agg #[.int .i64 5, .int .i64 lit, GV], .slice AI ins.length cI]) Tryd.func62 rfl rfl (by simp) ?_
  refine cw_seq (fun FK1 K1 => ?_)
  refine cw_region ?_
  obtain ⟨g2, w3, r4, O5, hg6, hs7⟩ := own_box O0 38 (.agg #[.int .i64 5, .int .i64 lit, GV]) rfl
  refine wl_val (v := .pointer (some ⟨g2, 0, none⟩)) (fun ρ e => r4 ρ _ _ _ _ _ _ (e _ _ rfl)) rfl rfl ?_
  refine wl_val (v := .int .i64 0) (fun ρ e => ex_assign (e _ _ rfl)) rfl rfl ?_
  refine wl_nil ?_
  refine xw_next K1 ?_
  refine cw_seq (fun FK8 K8 => ?_)
  refine cw_region ?_
  refine wl_val (v := .int .i64 1) (fun ρ e => ex_assign (e _ _ rfl)) rfl rfl ?_
  refine wl_val (v := .int .i64 0) (fun ρ e => ex_assign (e _ _ rfl)) rfl rfl ?_
  refine wl_nil ?_
  refine xw_next K8 ?_
  refine cw_seq (fun FK9 K9 => ?_)
  refine cw_seq (fun FK10 K10 => ?_)
  refine cw_region ?_
  refine wl_val (v := .pointer (some ⟨g2, 0, none⟩)) (fun ρ e => ex_field (q := 0) fi38_0 (e _ _ rfl) rfl) rfl rfl ?_
  refine wl_val (v := .int .i64 5) (fun ρ e => ex_load1 ty3 (e _ _ rfl) (O5.cell 0 0 rfl rfl)) rfl rfl ?_
  refine wl_val (v := .bool true) (fun ρ e => ex_cmp (u := 5) (v := 5) (e _ _ rfl) (e _ _ rfl) (eql1 (by omega))) rfl rfl ?_
  refine wl_nil ?_
  refine xw_next K10 ?_
  refine cw_true rfl ?_
  refine cw_region ?_
  refine wl_val (v := .int .i64 0) (fun ρ e => ex_move (e _ _ rfl)) rfl rfl ?_
  refine wl_val (v := .int .i64 1) (fun ρ e => ex_move (e _ _ rfl)) rfl rfl ?_
  refine wl_val (v := .int .i64 0) (fun ρ e => ex_assign (e _ _ rfl)) rfl rfl ?_
  refine wl_val (v := .int .i64 1) (fun ρ e => ex_assign (e _ _ rfl)) rfl rfl ?_
  refine wl_nil ?_
  refine xw_next K9 ?_
  refine cw_seq (fun FK11 K11 => ?_)
  refine cw_region ?_
  refine wl_val (v := .slice none 0 0) (fun ρ e => ex_assign (e _ _ rfl)) rfl rfl ?_
  refine wl_nil ?_
  refine xw_next K11 ?_
  refine cw_seq (fun FK12 K12 => ?_)
  refine cw_region ?_
  obtain ⟨g13, w14, r15, O16, hg17, hs18⟩ := own_makeMap O5 87
  refine wl_val (v := .map (some g13)) (fun ρ e => r15 ρ _ _ _ _ _) rfl rfl ?_
  refine wl_val (v := .map (some g13)) (fun ρ e => ex_assign (e _ _ rfl)) rfl rfl ?_
  refine wl_nil ?_
  refine xw_next K12 ?_
  refine cw_seq (fun FK19 K19 => ?_)
  refine cw_seq (fun FK20 K20 => ?_)
  refine cw_region ?_
  refine wl_val (v := .slice AI ins.length cI) (fun ρ e => ex_move (e _ _ rfl)) rfl rfl ?_
  refine wl_val (v := .int .i64 ((ins.length : Nat) : Int)) (fun ρ e => ex_len el36 (e _ _ rfl)) rfl rfl ?_
  refine wl_val (v := .int .i64 0) (fun ρ e => ex_move (e _ _ rfl)) rfl rfl ?_
  refine wl_nil ?_
  refine xw_next K20 ?_
  refine cw_block ?_
  have O21 : Own (zone (foldE f m R c D L vs ++ [inE DI (.slice AI ins.length cI) ins])) W w14 [.row (.slice none 0 0) 3 1 0 (intCs []), .map g13 ([]), .blk g2 38 #[.int .i64 5, .int .i64 lit, GV], .blk f 56 #[.slice R L.length c, .map (some m)], .map m (encL strE (keysGo L 0)), .row (.slice R L.length c) 38 3 L.length (gcells L vs), .ro D (Ins D L vs), .ro TabD Tab, .ro DI (fun w => IntsD DI w (.slice AI ins.length cI) ins)] := O16.nilrow 3 1
  have O22 : Own (zone (foldE f m R c D L vs ++ [inE DI (.slice AI ins.length cI) ins])) W w14 [.row (.slice none 0 0) 3 1 0 (intCs []), .map g13 ([]), .blk g2 38 #[.int .i64 5, .int .i64 lit, GV], .blk f 56 #[.slice R L.length c, .map (some m)], .map m (encL strE (keysGo L 0)), .row (.slice R L.length c) 38 3 L.length (gcells L vs), .ro D (Ins D L vs), .ro TabD Tab, .ro DI (fun w => IntsD DI w (.slice AI ins.length cI) ins)] := O21
  refine cw_loop (ι := Nat × Option Addr × Nat × Nat × List Int × List (Int × Value)) (fun q => [(0, .pointer (some ⟨f, 0, none⟩)), (4, .pointer (some ⟨g2, 0, none⟩)), (6, .int .i64 0), (7, .int .i64 0), (8, .int .i64 1), (10, .map (some g13)), (19, .slice AI ins.length cI), (20, .int .i64 ((ins.length : Nat) : Int)), (9, .slice q.2.1 q.2.2.2.1 q.2.2.1), (21, .int .i64 (q.1 : Int))]) (fun q X => (q.1 ≤ ins.length) ∧ (q.2.2.2.1 = q.2.2.2.2.1.length) ∧ (q.2.2.2.1 ≤ q.1) ∧ (seenIs q.2.2.2.2.2 (fun x => decide (x ∈ q.2.2.2.2.1))) ∧ (∀ x ∈ q.2.2.2.2.1, 0 ≤ x ∧ x < (L.length : Int)) ∧ (manyGo L 0 1 ins [] = manyGo L 0 1 (ins.drop q.1) q.2.2.2.2.1) ∧ Own (zone (foldE f m R c D L vs ++ [inE DI (.slice AI ins.length cI) ins])) W X [.row (.slice q.2.1 q.2.2.2.1 q.2.2.1) 3 1 q.2.2.2.1 (intCs q.2.2.2.2.1), .map g13 (encL intE q.2.2.2.2.2), .blk g2 38 #[.int .i64 5, .int .i64 lit, GV], .blk f 56 #[.slice R L.length c, .map (some m)], .map m (encL strE (keysGo L 0)), .row (.slice R L.length c) 38 3 L.length (gcells L vs), .ro D (Ins D L vs), .ro TabD Tab, .ro DI (fun w => IntsD DI w (.slice AI ins.length cI) ins)]) (fun q => ins.length - q.1) (0, none, 0, 0, [], []) ⟨Nat.zero_le _, rfl, Nat.zero_le _, (fun x => by simp [look, lookV]), (fun x hx => absurd hx (List.not_mem_nil)), rfl, O22⟩ ⟨rfl, rfl, rfl, rfl, rfl, rfl, rfl, rfl, rfl, rfl, trivial⟩ (fun q w23 hJ F24 K25 => ?_)
  obtain ⟨k, A, cA, n, l, sl⟩ := q
  obtain ⟨hk0, hn, hnk, hsl, hl1, hgo, O26⟩ := hJ
  dsimp only at hk0 hn hnk hsl hl1 hgo O26 ⊢
  by_cases hk : k < ins.length
  · obtain ⟨x, hxk, hdr, hxm⟩ := drop_cons hk
    have hxL := hin x hxm
    obtain ⟨bI, oI, cJ, hbI⟩ := hVf (by omega)
    refine cw_seq (fun FK27 K27 => ?_)
    refine cw_region ?_
    refine wl_val (v := .bool true) (fun ρ e => ex_cmp (u := (k : Int)) (v := ((ins.length : Nat) : Int)) (e _ _ rfl) (e _ _ rfl) (lss1 (by omega))) rfl rfl ?_
    refine wl_nil ?_
    refine xw_next K27 ?_
    refine cw_seq (fun FK28 K28 => ?_)
    refine cw_true rfl ?_
    refine cw_skip ?_
    refine xw_next K28 ?_
    refine cw_seq (fun FK29 K29 => ?_)
    refine cw_block ?_
    refine cw_seq (fun FK30 K30 => ?_)
    refine cw_region ?_
    refine wl_val (v := .pointer (some ⟨bI, oI + k, none⟩)) (fun ρ e => ex_idx (q := oI + k) (o := oI) (i := k) el36 ((e _ _ rfl).trans hbI) (e _ _ rfl) hk (by omega)) rfl rfl ?_
    refine wl_val (v := .int .i64 x) (fun ρ e => ex_load1 ty3 (e _ _ rfl) (IntsD.cellq ((hbI ▸ (O26.ro 8 rfl)) : IntsD DI _ (.slice (some ⟨bI, oI, none⟩) ins.length cJ) ins) hxk)) rfl rfl ?_
    refine wl_val (v := .int .i64 x) (fun ρ e => ex_assign (e _ _ rfl)) rfl rfl ?_
    refine wl_nil ?_
    refine xw_next K30 ?_
    refine cw_seq (fun FK31 K31 => ?_)
    refine cw_seq (fun FK32 K32 => ?_)
    refine cw_region ?_
    refine wl_val (v := .pointer (some ⟨f, 0, none⟩)) (fun ρ e => ex_move (e _ _ rfl)) rfl rfl ?_
    refine wl_val (v := .int .i64 x) (fun ρ e => ex_move (e _ _ rfl)) rfl rfl ?_
    refine wl_val (v := .int .i64 1) (fun ρ e => ex_move (e _ _ rfl)) rfl rfl ?_
    by_cases c33 : kindAt L x = 1
    · skip
      refine wl_call (args := [.pointer (some ⟨f, 0, none⟩), .int .i64 x, .int .i64 1]) in_82 rfl rfl rfl ?_
      refine (is1 (f := f) (m := m) (R := R) (c := c) (D := D) (L := L) (vs := vs) (rest := [.row (.slice A n cA) 3 1 n (intCs l), .map g13 (encL intE sl), .blk g2 38 #[.int .i64 5, .int .i64 lit, GV], .ro DI (fun w => IntsD DI w (.slice AI ins.length cI) ins)]) (O26.re [3, 4, 5, 6, 7, 0, 1, 2, 8] rfl : Own (zone (foldE f m R c D L vs ++ [inE DI (.slice AI ins.length cI) ins])) W w23 [.blk f 56 #[.slice R L.length c, .map (some m)], .map m (encL strE (keysGo L 0)), .row (.slice R L.length c) 38 3 L.length (gcells L vs), .ro D (Ins D L vs), .ro TabD Tab, .row (.slice A n cA) 3 1 n (intCs l), .map g13 (encL intE sl), .blk g2 38 #[.int .i64 5, .int .i64 lit, GV], .ro DI (fun w => IntsD DI w (.slice AI ins.length cI) ins)]) hxL c33).mono ?_
      rintro _ w34 ⟨rfl, hb35⟩
      have O36 : Own (zone (foldE f m R c D L vs ++ [inE DI (.slice AI ins.length cI) ins])) W w34 [.row (.slice A n cA) 3 1 n (intCs l), .map g13 (encL intE sl), .blk g2 38 #[.int .i64 5, .int .i64 lit, GV], .blk f 56 #[.slice R L.length c, .map (some m)], .map m (encL strE (keysGo L 0)), .row (.slice R L.length c) 38 3 L.length (gcells L vs), .ro D (Ins D L vs), .ro TabD Tab, .ro DI (fun w => IntsD DI w (.slice AI ins.length cI) ins)] := O26.below hb35
      refine ⟨_, rfl, ?_⟩
      refine wl_nil ?_
      refine xw_next K32 ?_
      refine cw_true rfl ?_
      refine cw_seq (fun FK37 K37 => ?_)
      refine cw_region ?_
      refine wl_val (v := .int .i64 x) (fun ρ e => ex_move (e _ _ rfl)) rfl rfl ?_
      refine wl_val (v := .int .i64 x) (fun ρ e => ex_assign (e _ _ rfl)) rfl rfl ?_
      refine wl_nil ?_
      refine xw_next K37 ?_
      refine cw_ret ?_
      refine xw_past (by intro h; cases h) ?_
      refine xw_blockret ?_
      refine xw_past (by intro h; cases h) ?_
      refine xw_past (by intro h; cases h) ?_
      refine xw_blockret ?_
      refine xw_past (by intro h; cases h) ?_
      refine xw_ret (v := .int .i64 x) (fun T hT => res1 rfl T _ (hT 6 _ rfl)) ?_
      exact FPost.eq (q' := (L, x)) ⟨_, _, _, _, rfl, (O36.re [3, 4, 5, 6, 7] rfl : Own (zone (foldE f m R c D L vs ++ [inE DI (.slice AI ins.length cI) ins])) W w34 [.blk f 56 #[.slice R L.length c, .map (some m)], .map m (encL strE (keysGo L 0)), .row (.slice R L.length c) 38 3 L.length (gcells L vs), .ro D (Ins D L vs), .ro TabD Tab])⟩ (by rw [manyG_or, hgo, hdr, manyGo, if_pos c33])
    · skip
      refine wl_call (args := [.pointer (some ⟨f, 0, none⟩), .int .i64 x, .int .i64 1]) in_82 rfl rfl rfl ?_
      refine (is0 (f := f) (m := m) (R := R) (c := c) (D := D) (L := L) (vs := vs) (rest := [.row (.slice A n cA) 3 1 n (intCs l), .map g13 (encL intE sl), .blk g2 38 #[.int .i64 5, .int .i64 lit, GV], .ro DI (fun w => IntsD DI w (.slice AI ins.length cI) ins)]) (O26.re [3, 4, 5, 6, 7, 0, 1, 2, 8] rfl : Own (zone (foldE f m R c D L vs ++ [inE DI (.slice AI ins.length cI) ins])) W w23 [.blk f 56 #[.slice R L.length c, .map (some m)], .map m (encL strE (keysGo L 0)), .row (.slice R L.length c) 38 3 L.length (gcells L vs), .ro D (Ins D L vs), .ro TabD Tab, .row (.slice A n cA) 3 1 n (intCs l), .map g13 (encL intE sl), .blk g2 38 #[.int .i64 5, .int .i64 lit, GV], .ro DI (fun w => IntsD DI w (.slice AI ins.length cI) ins)]) hxL c33).mono ?_
      rintro _ w38 ⟨rfl, hb39⟩
      have O40 : Own (zone (foldE f m R c D L vs ++ [inE DI (.slice AI ins.length cI) ins])) W w38 [.row (.slice A n cA) 3 1 n (intCs l), .map g13 (encL intE sl), .blk g2 38 #[.int .i64 5, .int .i64 lit, GV], .blk f 56 #[.slice R L.length c, .map (some m)], .map m (encL strE (keysGo L 0)), .row (.slice R L.length c) 38 3 L.length (gcells L vs), .ro D (Ins D L vs), .ro TabD Tab, .ro DI (fun w => IntsD DI w (.slice AI ins.length cI) ins)] := O26.below hb39
      refine ⟨_, rfl, ?_⟩
      refine wl_nil ?_
      refine xw_next K32 ?_
      refine cw_false rfl ?_
      refine cw_skip ?_
      refine xw_next K31 ?_
      refine cw_seq (fun FK41 K41 => ?_)
      refine cw_region ?_
      refine wl_val (v := .pointer (some ⟨f, 0, none⟩)) (fun ρ e => ex_move (e _ _ rfl)) rfl rfl ?_
      refine wl_val (v := .int .i64 x) (fun ρ e => ex_move (e _ _ rfl)) rfl rfl ?_
      refine wl_val (v := .int .i64 0) (fun ρ e => ex_move (e _ _ rfl)) rfl rfl ?_
      by_cases c42 : kindAt L x = 0
      · skip
        refine wl_call (args := [.pointer (some ⟨f, 0, none⟩), .int .i64 x, .int .i64 0]) in_82 rfl rfl rfl ?_
        refine (is1 (f := f) (m := m) (R := R) (c := c) (D := D) (L := L) (vs := vs) (rest := [.row (.slice A n cA) 3 1 n (intCs l), .map g13 (encL intE sl), .blk g2 38 #[.int .i64 5, .int .i64 lit, GV], .ro DI (fun w => IntsD DI w (.slice AI ins.length cI) ins)]) (O40.re [3, 4, 5, 6, 7, 0, 1, 2, 8] rfl : Own (zone (foldE f m R c D L vs ++ [inE DI (.slice AI ins.length cI) ins])) W w38 [.blk f 56 #[.slice R L.length c, .map (some m)], .map m (encL strE (keysGo L 0)), .row (.slice R L.length c) 38 3 L.length (gcells L vs), .ro D (Ins D L vs), .ro TabD Tab, .row (.slice A n cA) 3 1 n (intCs l), .map g13 (encL intE sl), .blk g2 38 #[.int .i64 5, .int .i64 lit, GV], .ro DI (fun w => IntsD DI w (.slice AI ins.length cI) ins)]) hxL c42).mono ?_
        rintro _ w43 ⟨rfl, hb44⟩
        have O45 : Own (zone (foldE f m R c D L vs ++ [inE DI (.slice AI ins.length cI) ins])) W w43 [.row (.slice A n cA) 3 1 n (intCs l), .map g13 (encL intE sl), .blk g2 38 #[.int .i64 5, .int .i64 lit, GV], .blk f 56 #[.slice R L.length c, .map (some m)], .map m (encL strE (keysGo L 0)), .row (.slice R L.length c) 38 3 L.length (gcells L vs), .ro D (Ins D L vs), .ro TabD Tab, .ro DI (fun w => IntsD DI w (.slice AI ins.length cI) ins)] := O40.below hb44
        refine ⟨_, rfl, ?_⟩
        refine wl_val (v := .bool false) (fun ρ e => ex_lnot (b := true) (e _ _ rfl)) rfl rfl ?_
        refine wl_val (v := .bool false) (fun ρ e => ex_move (e _ _ rfl)) rfl rfl ?_
        refine wl_skip rfl rfl ?_
        refine wl_skip rfl rfl ?_
        refine wl_skip rfl rfl ?_
        refine wl_skip rfl rfl ?_
        refine wl_val (v := .bool false) (fun ρ e => ex_pick0 (e _ _ rfl) (e _ _ rfl)) rfl rfl ?_
        refine wl_nil ?_
        refine xw_next K41 ?_
        refine cw_false rfl ?_
        refine cw_skip ?_
        refine xw_block ?_
        refine xw_next K29 ?_
        refine cw_region ?_
        refine wl_val (v := .int .i64 ((k + 1 : Nat) : Int)) (fun ρ e => ex_arith (k := .i64) (u := (k : Int)) (v := 1) (e _ _ rfl) (e _ _ rfl) (congrArg some ((congrArg _ (by omega)).trans (wrap_in (u := ((k + 1 : Nat) : Int)) (by omega) (by omega))))) rfl rfl ?_
        refine wl_val (v := .int .i64 ((k + 1 : Nat) : Int)) (fun ρ e => ex_move (e _ _ rfl)) rfl rfl ?_
        refine wl_nil ?_
        refine xw_round K25 (k + 1, A, cA, n, l, sl) (by show ins.length - (k + 1) < ins.length - k; omega) ⟨(by show k + 1 ≤ _; omega), hn, (by show n ≤ k + 1; omega), hsl, hl1, (by show _ = manyGo L 0 1 (ins.drop (k + 1)) l; rw [hgo, hdr, manyGo, if_neg c33, if_neg (fun h => h.1 c42)]), O45⟩ ⟨rfl, rfl, rfl, rfl, rfl, rfl, rfl, rfl, rfl, rfl, trivial⟩
      · skip
        refine wl_call (args := [.pointer (some ⟨f, 0, none⟩), .int .i64 x, .int .i64 0]) in_82 rfl rfl rfl ?_
        refine (is0 (f := f) (m := m) (R := R) (c := c) (D := D) (L := L) (vs := vs) (rest := [.row (.slice A n cA) 3 1 n (intCs l), .map g13 (encL intE sl), .blk g2 38 #[.int .i64 5, .int .i64 lit, GV], .ro DI (fun w => IntsD DI w (.slice AI ins.length cI) ins)]) (O40.re [3, 4, 5, 6, 7, 0, 1, 2, 8] rfl : Own (zone (foldE f m R c D L vs ++ [inE DI (.slice AI ins.length cI) ins])) W w38 [.blk f 56 #[.slice R L.length c, .map (some m)], .map m (encL strE (keysGo L 0)), .row (.slice R L.length c) 38 3 L.length (gcells L vs), .ro D (Ins D L vs), .ro TabD Tab, .row (.slice A n cA) 3 1 n (intCs l), .map g13 (encL intE sl), .blk g2 38 #[.int .i64 5, .int .i64 lit, GV], .ro DI (fun w => IntsD DI w (.slice AI ins.length cI) ins)]) hxL c42).mono ?_
        rintro _ w46 ⟨rfl, hb47⟩
        have O48 : Own (zone (foldE f m R c D L vs ++ [inE DI (.slice AI ins.length cI) ins])) W w46 [.row (.slice A n cA) 3 1 n (intCs l), .map g13 (encL intE sl), .blk g2 38 #[.int .i64 5, .int .i64 lit, GV], .blk f 56 #[.slice R L.length c, .map (some m)], .map m (encL strE (keysGo L 0)), .row (.slice R L.length c) 38 3 L.length (gcells L vs), .ro D (Ins D L vs), .ro TabD Tab, .ro DI (fun w => IntsD DI w (.slice AI ins.length cI) ins)] := O40.below hb47
        refine ⟨_, rfl, ?_⟩
        refine wl_val (v := .bool true) (fun ρ e => ex_lnot (b := false) (e _ _ rfl)) rfl rfl ?_
        refine wl_val (v := .bool true) (fun ρ e => ex_move (e _ _ rfl)) rfl rfl ?_
        refine wl_val (v := .map (some g13)) (fun ρ e => ex_move (e _ _ rfl)) rfl rfl ?_
        refine wl_val (v := .int .i64 x) (fun ρ e => ex_move (e _ _ rfl)) rfl rfl ?_
        by_cases c49 : x ∈ l
        · skip
          refine wl_val (v := .bool true) (fun ρ e => ex_look0 intKey Tryd.underlying87 Tryd.underlying3 ze4 (O48.map 1 rfl) x ((hsl x).trans (congrArg Value.bool (decide_eq_true c49))) (e _ _ rfl) (e _ _ rfl)) rfl rfl ?_
          refine wl_val (v := .bool false) (fun ρ e => ex_lnot (b := true) (e _ _ rfl)) rfl rfl ?_
          refine wl_val (v := .bool false) (fun ρ e => ex_pick1 (e _ _ rfl) (e _ _ rfl)) rfl rfl ?_
          refine wl_nil ?_
          refine xw_next K41 ?_
          refine cw_false rfl ?_
          refine cw_skip ?_
          refine xw_block ?_
          refine xw_next K29 ?_
          refine cw_region ?_
          refine wl_val (v := .int .i64 ((k + 1 : Nat) : Int)) (fun ρ e => ex_arith (k := .i64) (u := (k : Int)) (v := 1) (e _ _ rfl) (e _ _ rfl) (congrArg some ((congrArg _ (by omega)).trans (wrap_in (u := ((k + 1 : Nat) : Int)) (by omega) (by omega))))) rfl rfl ?_
          refine wl_val (v := .int .i64 ((k + 1 : Nat) : Int)) (fun ρ e => ex_move (e _ _ rfl)) rfl rfl ?_
          refine wl_nil ?_
          refine xw_round K25 (k + 1, A, cA, n, l, sl) (by show ins.length - (k + 1) < ins.length - k; omega) ⟨(by show k + 1 ≤ _; omega), hn, (by show n ≤ k + 1; omega), hsl, hl1, (by show _ = manyGo L 0 1 (ins.drop (k + 1)) l; rw [hgo, hdr, manyGo, if_neg c33, if_neg (fun h => h.2 c49)]), O48⟩ ⟨rfl, rfl, rfl, rfl, rfl, rfl, rfl, rfl, rfl, rfl, trivial⟩
        · skip
          refine wl_val (v := .bool false) (fun ρ e => ex_look0 intKey Tryd.underlying87 Tryd.underlying3 ze4 (O48.map 1 rfl) x ((hsl x).trans (congrArg Value.bool (decide_eq_false c49))) (e _ _ rfl) (e _ _ rfl)) rfl rfl ?_
          refine wl_val (v := .bool true) (fun ρ e => ex_lnot (b := false) (e _ _ rfl)) rfl rfl ?_
          refine wl_val (v := .bool true) (fun ρ e => ex_pick1 (e _ _ rfl) (e _ _ rfl)) rfl rfl ?_
          refine wl_nil ?_
          refine xw_next K41 ?_
          refine cw_true rfl ?_
          refine cw_seq (fun FK50 K50 => ?_)
          refine cw_region ?_
          refine wl_val (v := .map (some g13)) (fun ρ e => ex_move (e _ _ rfl)) rfl rfl ?_
          refine wl_val (v := .int .i64 x) (fun ρ e => ex_move (e _ _ rfl)) rfl rfl ?_
          obtain ⟨w51, r52, O53, hs54⟩ := own_mapput (O48.re [1, 0, 2, 3, 4, 5, 6, 7, 8] rfl : Own (zone (foldE f m R c D L vs ++ [inE DI (.slice AI ins.length cI) ins])) W w46 [.map g13 (encL intE sl), .row (.slice A n cA) 3 1 n (intCs l), .blk g2 38 #[.int .i64 5, .int .i64 lit, GV], .blk f 56 #[.slice R L.length c, .map (some m)], .map m (encL strE (keysGo L 0)), .row (.slice R L.length c) 38 3 L.length (gcells L vs), .ro D (Ins D L vs), .ro TabD Tab, .ro DI (fun w => IntsD DI w (.slice AI ins.length cI) ins)]) intKey Tryd.underlying87 Tryd.underlying3 x (.bool true)
          refine wl_none (fun ρ e => r52 ρ _ _ _ _ _ _ _ (e _ _ rfl) (e _ _ rfl) (e _ _ rfl)) rfl ?_
          refine wl_nil ?_
          refine xw_next K50 ?_
          refine cw_region ?_
          refine wl_val (v := .slice A n cA) (fun ρ e => ex_move (e _ _ rfl)) rfl rfl ?_
          refine wl_val (v := .int .i64 x) (fun ρ e => ex_move (e _ _ rfl)) rfl rfl ?_
          obtain ⟨g55, w56, r57, O58, hg59, hs60⟩ := own_slice O53 el36 ze3 1 [(0, .int .i64 x)] (cs := #[.int .i64 x]) (by decide) (by kernel_rfl)
          refine wl_val (v := .slice (some ⟨g55, 0, none⟩) 1 1) (fun ρ e => r57 ρ _ _ _ _ _ _ (e.parts rfl)) rfl rfl ?_
          obtain ⟨A61, c62, w63, r64, O65, hz66, hc67⟩ := own_app1 (O58.re [2, 0, 1, 3, 4, 5, 6, 7, 8, 9] rfl : Own (zone (foldE f m R c D L vs ++ [inE DI (.slice AI ins.length cI) ins])) W w56 [.row (.slice A n cA) 3 1 n (intCs l), .blk g55 3 #[.int .i64 x], .map g13 (encL intE (aput x (.bool true) sl)), .blk g2 38 #[.int .i64 5, .int .i64 lit, GV], .blk f 56 #[.slice R L.length c, .map (some m)], .map m (encL strE (keysGo L 0)), .row (.slice R L.length c) 38 3 L.length (gcells L vs), .ro D (Ins D L vs), .ro TabD Tab, .ro DI (fun w => IntsD DI w (.slice AI ins.length cI) ins)]) ap36 ((O58.re [2, 0, 1, 3, 4, 5, 6, 7, 8, 9] rfl : Own (zone (foldE f m R c D L vs ++ [inE DI (.slice AI ins.length cI) ins])) W w56 [.row (.slice A n cA) 3 1 n (intCs l), .blk g55 3 #[.int .i64 x], .map g13 (encL intE (aput x (.bool true) sl)), .blk g2 38 #[.int .i64 5, .int .i64 lit, GV], .blk f 56 #[.slice R L.length c, .map (some m)], .map m (encL strE (keysGo L 0)), .row (.slice R L.length c) 38 3 L.length (gcells L vs), .ro D (Ins D L vs), .ro TabD Tab, .ro DI (fun w => IntsD DI w (.slice AI ins.length cI) ins)]).blk 1 rfl) (cells := [.int .i64 x]) rfl rfl (by omega) (by omega) (ys := (intCs (l ++ [x]))) (intCs_snoc l x)
          refine wl_val (v := .slice A61 (n + 1) c62) (fun ρ e => r64 ρ _ _ _ _ _ _ _ (e _ _ rfl) (e _ _ rfl)) rfl rfl ?_
          refine wl_val (v := .slice A61 (n + 1) c62) (fun ρ e => ex_assign (e _ _ rfl)) rfl rfl ?_
          refine wl_nil ?_
          refine xw_block ?_
          refine xw_next K29 ?_
          refine cw_region ?_
          refine wl_val (v := .int .i64 ((k + 1 : Nat) : Int)) (fun ρ e => ex_arith (k := .i64) (u := (k : Int)) (v := 1) (e _ _ rfl) (e _ _ rfl) (congrArg some ((congrArg _ (by omega)).trans (wrap_in (u := ((k + 1 : Nat) : Int)) (by omega) (by omega))))) rfl rfl ?_
          refine wl_val (v := .int .i64 ((k + 1 : Nat) : Int)) (fun ρ e => ex_move (e _ _ rfl)) rfl rfl ?_
          refine wl_nil ?_
          refine xw_round K25 (k + 1, A61, c62, n + 1, l ++ [x], (aput x (.bool true) sl)) (by show ins.length - (k + 1) < ins.length - k; omega) ⟨(by show k + 1 ≤ _; omega), (by show n + 1 = (l ++ [x]).length; simp [hn]), (by show n + 1 ≤ k + 1; omega), (by show seenIs _ _; exact hsl.put x true (fun y => by by_cases e : y = x <;> simp [e])), (fun y hy => (List.mem_append.1 hy).elim (hl1 y) (fun h => by rw [List.mem_singleton.1 h]; exact hxL)), (by show _ = manyGo L 0 1 (ins.drop (k + 1)) (l ++ [x]); rw [hgo, hdr, manyGo, if_neg c33, if_pos ⟨c42, c49⟩]), (O65.re [0, 2, 3, 4, 5, 6, 7, 8, 9] rfl : Own (zone (foldE f m R c D L vs ++ [inE DI (.slice AI ins.length cI) ins])) W w63 [.row (.slice A61 (n + 1) c62) 3 1 (n + 1) (intCs (l ++ [x])), .map g13 (encL intE (aput x (.bool true) sl)), .blk g2 38 #[.int .i64 5, .int .i64 lit, GV], .blk f 56 #[.slice R L.length c, .map (some m)], .map m (encL strE (keysGo L 0)), .row (.slice R L.length c) 38 3 L.length (gcells L vs), .ro D (Ins D L vs), .ro TabD Tab, .ro DI (fun w => IntsD DI w (.slice AI ins.length cI) ins)])⟩ ⟨rfl, rfl, rfl, rfl, rfl, rfl, rfl, rfl, rfl, rfl, trivial⟩
  · have hke : k = ins.length := by omega
    rw [List.drop_eq_nil_of_le (by omega)] at hgo
    simp only [manyGo] at hgo
    refine cw_seq (fun FK68 K68 => ?_)
    refine cw_region ?_
    refine wl_val (v := .bool false) (fun ρ e => ex_cmp (u := (k : Int)) (v := ((ins.length : Nat) : Int)) (e _ _ rfl) (e _ _ rfl) (lss0 (by omega))) rfl rfl ?_
    refine wl_nil ?_
    refine xw_next K68 ?_
    refine cw_seq (fun FK69 K69 => ?_)
    refine cw_false rfl ?_
    refine cw_exit ?_
    refine xw_past (by intro h; cases h) ?_
    refine xw_past (by intro h; cases h) ?_
    refine xw_here ?_
    refine xw_next K19 ?_
    refine cw_seq (fun FK70 K70 => ?_)
    refine cw_seq (fun FK71 K71 => ?_)
    refine cw_region ?_
    refine wl_val (v := .slice A n cA) (fun ρ e => ex_move (e _ _ rfl)) rfl rfl ?_
    refine wl_val (v := .int .i64 (n : Int)) (fun ρ e => ex_len el36 (e _ _ rfl)) rfl rfl ?_
    refine wl_nil ?_
    refine xw_next K71 ?_
    refine cw_block ?_
    refine cw_seq (fun FK72 K72 => ?_)
    rcases l with _ | ⟨x, _ | ⟨x2, l2⟩⟩
    · have hn' : n = 0 := hn
      refine cw_region ?_
      refine wl_val (v := .bool true) (fun ρ e => ex_cmp (u := (n : Int)) (v := 0) (e _ _ rfl) (e _ _ rfl) (eql1 (by omega))) rfl rfl ?_
      refine wl_val (v := .bool true) (fun ρ e => ex_assign (e _ _ rfl)) rfl rfl ?_
      refine wl_nil ?_
      refine xw_next K72 ?_
      refine cw_true rfl ?_
      refine cw_seq (fun FK73 K73 => ?_)
      refine cw_region ?_
      refine wl_val (v := .pointer (some ⟨f, 0, none⟩)) (fun ρ e => ex_move (e _ _ rfl)) rfl rfl ?_
      refine wl_val (v := .int .i64 0) (fun ρ e => ex_move (e _ _ rfl)) rfl rfl ?_
      refine wl_val (v := .agg #[.int .i64 0, .int .i64 0, .slice none 0 0]) (fun ρ e => ex_build (cells := #[.int .i64 0, .int .i64 0, .slice none 0 0]) st38 (e.parts rfl) rfl) rfl rfl ?_
      refine wl_call (args := [.pointer (some ⟨f, 0, none⟩), .agg #[.int .i64 0, .int .i64 0, .slice none 0 0]]) in_80 rfl rfl rfl ?_
      have O74 : Own (zone (foldE f m R c D L vs ++ [inE DI (.slice AI ins.length cI) ins])) W w23 [.ro (fun _ => False) (fun w => IntsD (fun _ => False) w (.slice none 0 0) ([])), .row (.slice A n cA) 3 1 n (intCs []), .map g13 (encL intE sl), .blk g2 38 #[.int .i64 5, .int .i64 lit, GV], .blk f 56 #[.slice R L.length c, .map (some m)], .map m (encL strE (keysGo L 0)), .row (.slice R L.length c) 38 3 L.length (gcells L vs), .ro D (Ins D L vs), .ro TabD Tab, .ro DI (fun w => IntsD DI w (.slice AI ins.length cI) ins)] := O26.nilin
      refine (call_find (f := f) (m := m) (R := R) (c := c) (D := D) (L := L) (vs := vs) (D2 := (fun _ => False)) (V := .slice none 0 0) (g := ⟨0, 0, []⟩) (rest := [.row (.slice A n cA) 3 1 n (intCs []), .map g13 (encL intE sl), .blk g2 38 #[.int .i64 5, .int .i64 lit, GV], .ro DI (fun w => IntsD DI w (.slice AI ins.length cI) ins)]) (O74.re [4, 5, 6, 7, 8, 0, 1, 2, 3, 9] rfl : Own (zone (foldE f m R c D L vs ++ [inE DI (.slice AI ins.length cI) ins])) W w23 [.blk f 56 #[.slice R L.length c, .map (some m)], .map m (encL strE (keysGo L 0)), .row (.slice R L.length c) 38 3 L.length (gcells L vs), .ro D (Ins D L vs), .ro TabD Tab, .ro (fun _ => False) (fun w => IntsD (fun _ => False) w (.slice none 0 0) ([])), .row (.slice A n cA) 3 1 n (intCs []), .map g13 (encL intE sl), .blk g2 38 #[.int .i64 5, .int .i64 lit, GV], .ro DI (fun w => IntsD DI w (.slice AI ins.length cI) ins)]) (small_c (smallI_lit 0 rfl) (smallI_lit 0 rfl)) hL).mono ?_
      rintro _ w75 ⟨R76, c77, D78, vs79, rfl, O80⟩
      refine ⟨_, rfl, ?_⟩
      refine wl_val (v := .int .i64 ((findG L ⟨0, 0, []⟩).2)) (fun ρ e => ex_assign (e _ _ rfl)) rfl rfl ?_
      refine wl_nil ?_
      refine xw_next K73 ?_
      refine cw_ret ?_
      refine xw_blockret ?_
      refine xw_past (by intro h; cases h) ?_
      refine xw_ret (v := .int .i64 ((findG L ⟨0, 0, []⟩).2)) (fun T hT => res1 rfl T _ (hT 6 _ rfl)) ?_
      exact FPost.eq ⟨_, _, _, _, rfl, (O80.re [0, 1, 2, 3, 4] rfl : Own (zone (foldE f m R c D L vs ++ [inE DI (.slice AI ins.length cI) ins])) W w75 [.blk f 56 #[.slice R76 (((findG L ⟨0, 0, []⟩).1).length) c77, .map (some m)], .map m (encL strE (keysGo ((findG L ⟨0, 0, []⟩).1) 0)), .row (.slice R76 (((findG L ⟨0, 0, []⟩).1).length) c77) 38 3 (((findG L ⟨0, 0, []⟩).1).length) (gcells ((findG L ⟨0, 0, []⟩).1) vs79), .ro D78 (Ins D78 ((findG L ⟨0, 0, []⟩).1) vs79), .ro TabD Tab])⟩ (by rw [manyG_or, hgo])
    · have hn' : n = 1 := hn
      obtain ⟨gl, rfl⟩ := O26.rowshape 0 rfl (by omega)
      refine cw_region ?_
      refine wl_val (v := .bool false) (fun ρ e => ex_cmp (u := (n : Int)) (v := 0) (e _ _ rfl) (e _ _ rfl) (eql0 (by omega))) rfl rfl ?_
      refine wl_val (v := .bool false) (fun ρ e => ex_assign (e _ _ rfl)) rfl rfl ?_
      refine wl_nil ?_
      refine xw_next K72 ?_
      refine cw_false rfl ?_
      refine cw_seq (fun FK81 K81 => ?_)
      refine cw_region ?_
      refine wl_val (v := .bool true) (fun ρ e => ex_cmp (u := (n : Int)) (v := 1) (e _ _ rfl) (e _ _ rfl) (eql1 (by omega))) rfl rfl ?_
      refine wl_val (v := .bool true) (fun ρ e => ex_assign (e _ _ rfl)) rfl rfl ?_
      refine wl_nil ?_
      refine xw_next K81 ?_
      refine cw_true rfl ?_
      refine cw_seq (fun FK82 K82 => ?_)
      refine cw_region ?_
      refine wl_val (v := .slice (some ⟨gl, 0, none⟩) n cA) (fun ρ e => ex_move (e _ _ rfl)) rfl rfl ?_
      refine wl_val (v := .pointer (some ⟨gl, 0, none⟩)) (fun ρ e => ex_idx (q := 0) (i := 0) el36 (e _ _ rfl) (e _ _ rfl) (by omega) (by omega)) rfl rfl ?_
      refine wl_val (v := .int .i64 x) (fun ρ e => ex_load1 ty3 (e _ _ rfl) (rowcell (O26.row 0 rfl) (j := 0) rfl)) rfl rfl ?_
      refine wl_val (v := .int .i64 x) (fun ρ e => ex_assign (e _ _ rfl)) rfl rfl ?_
      refine wl_nil ?_
      refine xw_next K82 ?_
      refine cw_ret ?_
      refine xw_blockret ?_
      refine xw_past (by intro h; cases h) ?_
      refine xw_ret (v := .int .i64 x) (fun T hT => res1 rfl T _ (hT 6 _ rfl)) ?_
      exact FPost.eq (q' := (L, x)) ⟨_, _, _, _, rfl, (O26.re [3, 4, 5, 6, 7] rfl : Own (zone (foldE f m R c D L vs ++ [inE DI (.slice AI ins.length cI) ins])) W w23 [.blk f 56 #[.slice R L.length c, .map (some m)], .map m (encL strE (keysGo L 0)), .row (.slice R L.length c) 38 3 L.length (gcells L vs), .ro D (Ins D L vs), .ro TabD Tab])⟩ (by rw [manyG_or, hgo])
    · have hn' : n = l2.length + 2 := hn
      refine cw_region ?_
      refine wl_val (v := .bool false) (fun ρ e => ex_cmp (u := (n : Int)) (v := 0) (e _ _ rfl) (e _ _ rfl) (eql0 (by omega))) rfl rfl ?_
      refine wl_val (v := .bool false) (fun ρ e => ex_assign (e _ _ rfl)) rfl rfl ?_
      refine wl_nil ?_
      refine xw_next K72 ?_
      refine cw_false rfl ?_
      refine cw_seq (fun FK83 K83 => ?_)
      refine cw_region ?_
      refine wl_val (v := .bool false) (fun ρ e => ex_cmp (u := (n : Int)) (v := 1) (e _ _ rfl) (e _ _ rfl) (eql0 (by omega))) rfl rfl ?_
      refine wl_val (v := .bool false) (fun ρ e => ex_assign (e _ _ rfl)) rfl rfl ?_
      refine wl_nil ?_
      refine xw_next K83 ?_
      refine cw_false rfl ?_
      refine cw_skip ?_
      refine xw_block ?_
      refine xw_next K70 ?_
      refine cw_seq (fun FK84 K84 => ?_)
      refine cw_region ?_
      refine wl_val (v := .pointer (some ⟨f, 0, none⟩)) (fun ρ e => ex_move (e _ _ rfl)) rfl rfl ?_
      refine wl_val (v := .pointer (some ⟨g2, 0, none⟩)) (fun ρ e => ex_field (q := 0) fi38_0 (e _ _ rfl) rfl) rfl rfl ?_
      refine wl_val (v := .int .i64 5) (fun ρ e => ex_load1 ty3 (e _ _ rfl) (O26.cell 2 0 rfl rfl)) rfl rfl ?_
      refine wl_val (v := .slice A n cA) (fun ρ e => ex_move (e _ _ rfl)) rfl rfl ?_
      refine wl_val (v := .agg #[.int .i64 5, .int .i64 0, .slice A n cA]) (fun ρ e => ex_build (cells := #[.int .i64 5, .int .i64 0, .slice A n cA]) st38 (e.parts rfl) rfl) rfl rfl ?_
      refine wl_call (args := [.pointer (some ⟨f, 0, none⟩), .agg #[.int .i64 5, .int .i64 0, .slice A n cA]]) in_80 rfl rfl rfl ?_
      have O85 : Own (zone (foldE f m R c D L vs ++ [inE DI (.slice AI ins.length cI) ins])) W w23 [.ro (fun k => (Value.ownBlock (.slice A n cA)) = some k) (fun w => IntsD (fun k => (Value.ownBlock (.slice A n cA)) = some k) w (.slice A n cA) (x :: x2 :: l2)), .map g13 (encL intE sl), .blk g2 38 #[.int .i64 5, .int .i64 lit, GV], .blk f 56 #[.slice R L.length c, .map (some m)], .map m (encL strE (keysGo L 0)), .row (.slice R L.length c) 38 3 L.length (gcells L vs), .ro D (Ins D L vs), .ro TabD Tab, .ro DI (fun w => IntsD DI w (.slice AI ins.length cI) ins)] := Own.rowin (l := (x :: x2 :: l2)) O26
      refine (call_find (f := f) (m := m) (R := R) (c := c) (D := D) (L := L) (vs := vs) (D2 := (fun k => (Value.ownBlock (.slice A n cA)) = some k)) (V := .slice A n cA) (g := ⟨5, 0, (x :: x2 :: l2)⟩) (rest := [.map g13 (encL intE sl), .blk g2 38 #[.int .i64 5, .int .i64 lit, GV], .ro DI (fun w => IntsD DI w (.slice AI ins.length cI) ins)]) (O85.re [3, 4, 5, 6, 7, 0, 1, 2, 8] rfl : Own (zone (foldE f m R c D L vs ++ [inE DI (.slice AI ins.length cI) ins])) W w23 [.blk f 56 #[.slice R L.length c, .map (some m)], .map m (encL strE (keysGo L 0)), .row (.slice R L.length c) 38 3 L.length (gcells L vs), .ro D (Ins D L vs), .ro TabD Tab, .ro (fun k => (Value.ownBlock (.slice A n cA)) = some k) (fun w => IntsD (fun k => (Value.ownBlock (.slice A n cA)) = some k) w (.slice A n cA) (x :: x2 :: l2)), .map g13 (encL intE sl), .blk g2 38 #[.int .i64 5, .int .i64 lit, GV], .ro DI (fun w => IntsD DI w (.slice AI ins.length cI) ins)]) (small_n (smallI_lit 5 rfl) (fun x hx => by have := hl1 x hx; unfold smallI; omega) (by omega)) hL).mono ?_
      rintro _ w86 ⟨R87, c88, D89, vs90, rfl, O91⟩
      refine ⟨_, rfl, ?_⟩
      refine wl_val (v := .int .i64 ((findG L ⟨5, 0, (x :: x2 :: l2)⟩).2)) (fun ρ e => ex_assign (e _ _ rfl)) rfl rfl ?_
      refine wl_nil ?_
      refine xw_next K84 ?_
      refine cw_ret ?_
      refine xw_ret (v := .int .i64 ((findG L ⟨5, 0, (x :: x2 :: l2)⟩).2)) (fun T hT => res1 rfl T _ (hT 6 _ rfl)) ?_
      exact FPost.eq ⟨_, _, _, _, rfl, (O91.re [0, 1, 2, 3, 4] rfl : Own (zone (foldE f m R c D L vs ++ [inE DI (.slice AI ins.length cI) ins])) W w86 [.blk f 56 #[.slice R87 (((findG L ⟨5, 0, (x :: x2 :: l2)⟩).1).length) c88, .map (some m)], .map m (encL strE (keysGo ((findG L ⟨5, 0, (x :: x2 :: l2)⟩).1) 0)), .row (.slice R87 (((findG L ⟨5, 0, (x :: x2 :: l2)⟩).1).length) c88) 38 3 (((findG L ⟨5, 0, (x :: x2 :: l2)⟩).1).length) (gcells ((findG L ⟨5, 0, (x :: x2 :: l2)⟩).1) vs90), .ro D89 (Ins D89 ((findG L ⟨5, 0, (x :: x2 :: l2)⟩).1) vs90), .ro TabD Tab])⟩ (by rw [manyG_or, hgo])
theorem many4 (O0 : Own (zone (foldE f m R c D L vs ++ [inE DI V ins])) W W (foldE f m R c D L vs ++ [inE DI V ins])) (hin : ∀ x ∈ ins, 0 ≤ x ∧ x < (L.length : Int)) (hil : ins.length ≤ 1000000) (hL : L.length ≤ 1000000) :
    Calls Tryd.prog 62 #[.pointer (some ⟨f, 0, none⟩), .agg #[.int .i64 4, .int .i64 lit, GV], V] W (FPost (foldE f m R c D L vs ++ [inE DI V ins]) W f m (manyG L 4 ins)) := by
  have hV : IntsD DI W V ins := O0.ro 5 rfl
  have hVf := fun (h : 0 < ins.length) => hV.form h
  obtain ⟨AI, cI, rfl⟩ := hV.slice
  refine sx_enter (args := [.pointer (some ⟨f, 0, none⟩), .agg #[.int .i64 4, .int .i64 lit, GV], .slice AI ins.length cI]) Tryd.func62 rfl rfl (by simp) ?_
  refine cw_seq (fun FK1 K1 => ?_)
  refine cw_region ?_
  obtain ⟨g2, w3, r4, O5, hg6, hs7⟩ := own_box O0 38 (.agg #[.int .i64 4, .int .i64 lit, GV]) rfl
  refine wl_val (v := .pointer (some ⟨g2, 0, none⟩)) (fun ρ e => r4 ρ _ _ _ _ _ _ (e _ _ rfl)) rfl rfl ?_
  refine wl_val (v := .int .i64 0) (fun ρ e => ex_assign (e _ _ rfl)) rfl rfl ?_
  refine wl_nil ?_
  refine xw_next K1 ?_
  refine cw_seq (fun FK8 K8 => ?_)
  refine cw_region ?_
  refine wl_val (v := .int .i64 1) (fun ρ e => ex_assign (e _ _ rfl)) rfl rfl ?_
  refine wl_val (v := .int .i64 0) (fun ρ e => ex_assign (e _ _ rfl)) rfl rfl ?_
  refine wl_nil ?_
  refine xw_next K8 ?_
  refine cw_seq (fun FK9 K9 => ?_)
  refine cw_seq (fun FK10 K10 => ?_)
  refine cw_region ?_
  refine wl_val (v := .pointer (some ⟨g2, 0, none⟩)) (fun ρ e => ex_field (q := 0) fi38_0 (e _ _ rfl) rfl) rfl rfl ?_
  refine wl_val (v := .int .i64 4) (fun ρ e => ex_load1 ty3 (e _ _ rfl) (O5.cell 0 0 rfl rfl)) rfl rfl ?_
  refine wl_val (v := .bool false) (fun ρ e => ex_cmp (u := 4) (v := 5) (e _ _ rfl) (e _ _ rfl) (eql0 (by omega))) rfl rfl ?_
  refine wl_nil ?_
  refine xw_next K10 ?_
  refine cw_false rfl ?_
  refine cw_skip ?_
  refine xw_next K9 ?_
  refine cw_seq (fun FK11 K11 => ?_)
  refine cw_region ?_
  refine wl_val (v := .slice none 0 0) (fun ρ e => ex_assign (e _ _ rfl)) rfl rfl ?_
  refine wl_nil ?_
  refine xw_next K11 ?_
  refine cw_seq (fun FK12 K12 => ?_)
  refine cw_region ?_
  obtain ⟨g13, w14, r15, O16, hg17, hs18⟩ := own_makeMap O5 87
  refine wl_val (v := .map (some g13)) (fun ρ e => r15 ρ _ _ _ _ _) rfl rfl ?_
  refine wl_val (v := .map (some g13)) (fun ρ e => ex_assign (e _ _ rfl)) rfl rfl ?_
  refine wl_nil ?_
  refine xw_next K12 ?_
  refine cw_seq (fun FK19 K19 => ?_)
  refine cw_seq (fun FK20 K20 => ?_)
  refine cw_region ?_
  refine wl_val (v := .slice AI ins.length cI) (fun ρ e => ex_move (e _ _ rfl)) rfl rfl ?_
  refine wl_val (v := .int .i64 ((ins.length : Nat) : Int)) (fun ρ e => ex_len el36 (e _ _ rfl)) rfl rfl ?_
  refine wl_val (v := .int .i64 0) (fun ρ e => ex_move (e _ _ rfl)) rfl rfl ?_
  refine wl_nil ?_
  refine xw_next K20 ?_
  refine cw_block ?_
  have O21 : Own (zone (foldE f m R c D L vs ++ [inE DI (.slice AI ins.length cI) ins])) W w14 [.row (.slice none 0 0) 3 1 0 (intCs []), .map g13 ([]), .blk g2 38 #[.int .i64 4, .int .i64 lit, GV], .blk f 56 #[.slice R L.length c, .map (some m)], .map m (encL strE (keysGo L 0)), .row (.slice R L.length c) 38 3 L.length (gcells L vs), .ro D (Ins D L vs), .ro TabD Tab, .ro DI (fun w => IntsD DI w (.slice AI ins.length cI) ins)] := O16.nilrow 3 1
  have O22 : Own (zone (foldE f m R c D L vs ++ [inE DI (.slice AI ins.length cI) ins])) W w14 [.row (.slice none 0 0) 3 1 0 (intCs []), .map g13 ([]), .blk g2 38 #[.int .i64 4, .int .i64 lit, GV], .blk f 56 #[.slice R L.length c, .map (some m)], .map m (encL strE (keysGo L 0)), .row (.slice R L.length c) 38 3 L.length (gcells L vs), .ro D (Ins D L vs), .ro TabD Tab, .ro DI (fun w => IntsD DI w (.slice AI ins.length cI) ins)] := O21
  refine cw_loop (ι := Nat × Option Addr × Nat × Nat × List Int × List (Int × Value)) (fun q => [(0, .pointer (some ⟨f, 0, none⟩)), (4, .pointer (some ⟨g2, 0, none⟩)), (6, .int .i64 0), (7, .int .i64 1), (8, .int .i64 0), (10, .map (some g13)), (19, .slice AI ins.length cI), (20, .int .i64 ((ins.length : Nat) : Int)), (9, .slice q.2.1 q.2.2.2.1 q.2.2.1), (21, .int .i64 (q.1 : Int))]) (fun q X => (q.1 ≤ ins.length) ∧ (q.2.2.2.1 = q.2.2.2.2.1.length) ∧ (q.2.2.2.1 ≤ q.1) ∧ (seenIs q.2.2.2.2.2 (fun x => decide (x ∈ q.2.2.2.2.1))) ∧ (∀ x ∈ q.2.2.2.2.1, 0 ≤ x ∧ x < (L.length : Int)) ∧ (manyGo L 1 0 ins [] = manyGo L 1 0 (ins.drop q.1) q.2.2.2.2.1) ∧ Own (zone (foldE f m R c D L vs ++ [inE DI (.slice AI ins.length cI) ins])) W X [.row (.slice q.2.1 q.2.2.2.1 q.2.2.1) 3 1 q.2.2.2.1 (intCs q.2.2.2.2.1), .map g13 (encL intE q.2.2.2.2.2), .blk g2 38 #[.int .i64 4, .int .i64 lit, GV], .blk f 56 #[.slice R L.length c, .map (some m)], .map m (encL strE (keysGo L 0)), .row (.slice R L.length c) 38 3 L.length (gcells L vs), .ro D (Ins D L vs), .ro TabD Tab, .ro DI (fun w => IntsD DI w (.slice AI ins.length cI) ins)]) (fun q => ins.length - q.1) (0, none, 0, 0, [], []) ⟨Nat.zero_le _, rfl, Nat.zero_le _, (fun x => by simp [look, lookV]), (fun x hx => absurd hx (List.not_mem_nil)), rfl, O22⟩ ⟨rfl, rfl, rfl, rfl, rfl, rfl, rfl, rfl, rfl, rfl, trivial⟩ (fun q w23 hJ F24 K25 => ?_)
  obtain ⟨k, A, cA, n, l, sl⟩ := q
  obtain ⟨hk0, hn, hnk, hsl, hl1, hgo, O26⟩ := hJ
  dsimp only at hk0 hn hnk hsl hl1 hgo O26 ⊢
  by_cases hk : k < ins.length
  · obtain ⟨x, hxk, hdr, hxm⟩ := drop_cons hk
    have hxL := hin x hxm
    obtain ⟨bI, oI, cJ, hbI⟩ := hVf (by omega)
    refine cw_seq (fun FK27 K27 => ?_)
    refine cw_region ?_
    refine wl_val (v := .bool true) (fun ρ e => ex_cmp (u := (k : Int)) (v := ((ins.length : Nat) : Int)) (e _ _ rfl) (e _ _ rfl) (lss1 (by omega))) rfl rfl ?_
    refine wl_nil ?_
    refine xw_next K27 ?_
    refine cw_seq (fun FK28 K28 => ?_)
    refine cw_true rfl ?_
    refine cw_skip ?_
    refine xw_next K28 ?_
    refine cw_seq (fun FK29 K29 => ?_)
    refine cw_block ?_
    refine cw_seq (fun FK30 K30 => ?_)
    refine cw_region ?_
    refine wl_val (v := .pointer (some ⟨bI, oI + k, none⟩)) (fun ρ e => ex_idx (q := oI + k) (o := oI) (i := k) el36 ((e _ _ rfl).trans hbI) (e _ _ rfl) hk (by omega)) rfl rfl ?_
    refine wl_val (v := .int .i64 x) (fun ρ e => ex_load1 ty3 (e _ _ rfl) (IntsD.cellq ((hbI ▸ (O26.ro 8 rfl)) : IntsD DI _ (.slice (some ⟨bI, oI, none⟩) ins.length cJ) ins) hxk)) rfl rfl ?_
    refine wl_val (v := .int .i64 x) (fun ρ e => ex_assign (e _ _ rfl)) rfl rfl ?_
    refine wl_nil ?_
    refine xw_next K30 ?_
    refine cw_seq (fun FK31 K31 => ?_)
    refine cw_seq (fun FK32 K32 => ?_)
    refine cw_region ?_
    refine wl_val (v := .pointer (some ⟨f, 0, none⟩)) (fun ρ e => ex_move (e _ _ rfl)) rfl rfl ?_
    refine wl_val (v := .int .i64 x) (fun ρ e => ex_move (e _ _ rfl)) rfl rfl ?_
    refine wl_val (v := .int .i64 0) (fun ρ e => ex_move (e _ _ rfl)) rfl rfl ?_
    by_cases c33 : kindAt L x = 0
    · skip
      refine wl_call (args := [.pointer (some ⟨f, 0, none⟩), .int .i64 x, .int .i64 0]) in_82 rfl rfl rfl ?_
      refine (is1 (f := f) (m := m) (R := R) (c := c) (D := D) (L := L) (vs := vs) (rest := [.row (.slice A n cA) 3 1 n (intCs l), .map g13 (encL intE sl), .blk g2 38 #[.int .i64 4, .int .i64 lit, GV], .ro DI (fun w => IntsD DI w (.slice AI ins.length cI) ins)]) (O26.re [3, 4, 5, 6, 7, 0, 1, 2, 8] rfl : Own (zone (foldE f m R c D L vs ++ [inE DI (.slice AI ins.length cI) ins])) W w23 [.blk f 56 #[.slice R L.length c, .map (some m)], .map m (encL strE (keysGo L 0)), .row (.slice R L.length c) 38 3 L.length (gcells L vs), .ro D (Ins D L vs), .ro TabD Tab, .row (.slice A n cA) 3 1 n (intCs l), .map g13 (encL intE sl), .blk g2 38 #[.int .i64 4, .int .i64 lit, GV], .ro DI (fun w => IntsD DI w (.slice AI ins.length cI) ins)]) hxL c33).mono ?_
      rintro _ w34 ⟨rfl, hb35⟩
      have O36 : Own (zone (foldE f m R c D L vs ++ [inE DI (.slice AI ins.length cI) ins])) W w34 [.row (.slice A n cA) 3 1 n (intCs l), .map g13 (encL intE sl), .blk g2 38 #[.int .i64 4, .int .i64 lit, GV], .blk f 56 #[.slice R L.length c, .map (some m)], .map m (encL strE (keysGo L 0)), .row (.slice R L.length c) 38 3 L.length (gcells L vs), .ro D (Ins D L vs), .ro TabD Tab, .ro DI (fun w => IntsD DI w (.slice AI ins.length cI) ins)] := O26.below hb35
      refine ⟨_, rfl, ?_⟩
      refine wl_nil ?_
      refine xw_next K32 ?_
      refine cw_true rfl ?_
      refine cw_seq (fun FK37 K37 => ?_)
      refine cw_region ?_
      refine wl_val (v := .int .i64 x) (fun ρ e => ex_move (e _ _ rfl)) rfl rfl ?_
      refine wl_val (v := .int .i64 x) (fun ρ e => ex_assign (e _ _ rfl)) rfl rfl ?_
      refine wl_nil ?_
      refine xw_next K37 ?_
      refine cw_ret ?_
      refine xw_past (by intro h; cases h) ?_
      refine xw_blockret ?_
      refine xw_past (by intro h; cases h) ?_
      refine xw_past (by intro h; cases h) ?_
      refine xw_blockret ?_
      refine xw_past (by intro h; cases h) ?_
      refine xw_ret (v := .int .i64 x) (fun T hT => res1 rfl T _ (hT 6 _ rfl)) ?_
      exact FPost.eq (q' := (L, x)) ⟨_, _, _, _, rfl, (O36.re [3, 4, 5, 6, 7] rfl : Own (zone (foldE f m R c D L vs ++ [inE DI (.slice AI ins.length cI) ins])) W w34 [.blk f 56 #[.slice R L.length c, .map (some m)], .map m (encL strE (keysGo L 0)), .row (.slice R L.length c) 38 3 L.length (gcells L vs), .ro D (Ins D L vs), .ro TabD Tab])⟩ (by rw [manyG_and, hgo, hdr, manyGo, if_pos c33])
    · skip
      refine wl_call (args := [.pointer (some ⟨f, 0, none⟩), .int .i64 x, .int .i64 0]) in_82 rfl rfl rfl ?_
      refine (is0 (f := f) (m := m) (R := R) (c := c) (D := D) (L := L) (vs := vs) (rest := [.row (.slice A n cA) 3 1 n (intCs l), .map g13 (encL intE sl), .blk g2 38 #[.int .i64 4, .int .i64 lit, GV], .ro DI (fun w => IntsD DI w (.slice AI ins.length cI) ins)]) (O26.re [3, 4, 5, 6, 7, 0, 1, 2, 8] rfl : Own (zone (foldE f m R c D L vs ++ [inE DI (.slice AI ins.length cI) ins])) W w23 [.blk f 56 #[.slice R L.length c, .map (some m)], .map m (encL strE (keysGo L 0)), .row (.slice R L.length c) 38 3 L.length (gcells L vs), .ro D (Ins D L vs), .ro TabD Tab, .row (.slice A n cA) 3 1 n (intCs l), .map g13 (encL intE sl), .blk g2 38 #[.int .i64 4, .int .i64 lit, GV], .ro DI (fun w => IntsD DI w (.slice AI ins.length cI) ins)]) hxL c33).mono ?_
      rintro _ w38 ⟨rfl, hb39⟩
      have O40 : Own (zone (foldE f m R c D L vs ++ [inE DI (.slice AI ins.length cI) ins])) W w38 [.row (.slice A n cA) 3 1 n (intCs l), .map g13 (encL intE sl), .blk g2 38 #[.int .i64 4, .int .i64 lit, GV], .blk f 56 #[.slice R L.length c, .map (some m)], .map m (encL strE (keysGo L 0)), .row (.slice R L.length c) 38 3 L.length (gcells L vs), .ro D (Ins D L vs), .ro TabD Tab, .ro DI (fun w => IntsD DI w (.slice AI ins.length cI) ins)] := O26.below hb39
      refine ⟨_, rfl, ?_⟩
      refine wl_nil ?_
      refine xw_next K32 ?_
      refine cw_false rfl ?_
      refine cw_skip ?_
      refine xw_next K31 ?_
      refine cw_seq (fun FK41 K41 => ?_)
      refine cw_region ?_
      refine wl_val (v := .pointer (some ⟨f, 0, none⟩)) (fun ρ e => ex_move (e _ _ rfl)) rfl rfl ?_
      refine wl_val (v := .int .i64 x) (fun ρ e => ex_move (e _ _ rfl)) rfl rfl ?_
      refine wl_val (v := .int .i64 1) (fun ρ e => ex_move (e _ _ rfl)) rfl rfl ?_
      by_cases c42 : kindAt L x = 1
      · skip
        refine wl_call (args := [.pointer (some ⟨f, 0, none⟩), .int .i64 x, .int .i64 1]) in_82 rfl rfl rfl ?_
        refine (is1 (f := f) (m := m) (R := R) (c := c) (D := D) (L := L) (vs := vs) (rest := [.row (.slice A n cA) 3 1 n (intCs l), .map g13 (encL intE sl), .blk g2 38 #[.int .i64 4, .int .i64 lit, GV], .ro DI (fun w => IntsD DI w (.slice AI ins.length cI) ins)]) (O40.re [3, 4, 5, 6, 7, 0, 1, 2, 8] rfl : Own (zone (foldE f m R c D L vs ++ [inE DI (.slice AI ins.length cI) ins])) W w38 [.blk f 56 #[.slice R L.length c, .map (some m)], .map m (encL strE (keysGo L 0)), .row (.slice R L.length c) 38 3 L.length (gcells L vs), .ro D (Ins D L vs), .ro TabD Tab, .row (.slice A n cA) 3 1 n (intCs l), .map g13 (encL intE sl), .blk g2 38 #[.int .i64 4, .int .i64 lit, GV], .ro DI (fun w => IntsD DI w (.slice AI ins.length cI) ins)]) hxL c42).mono ?_
        rintro _ w43 ⟨rfl, hb44⟩
        have O45 : Own (zone (foldE f m R c D L vs ++ [inE DI (.slice AI ins.length cI) ins])) W w43 [.row (.slice A n cA) 3 1 n (intCs l), .map g13 (encL intE sl), .blk g2 38 #[.int .i64 4, .int .i64 lit, GV], .blk f 56 #[.slice R L.length c, .map (some m)], .map m (encL strE (keysGo L 0)), .row (.slice R L.length c) 38 3 L.length (gcells L vs), .ro D (Ins D L vs), .ro TabD Tab, .ro DI (fun w => IntsD DI w (.slice AI ins.length cI) ins)] := O40.below hb44
        refine ⟨_, rfl, ?_⟩
        refine wl_val (v := .bool false) (fun ρ e => ex_lnot (b := true) (e _ _ rfl)) rfl rfl ?_
        refine wl_val (v := .bool false) (fun ρ e => ex_move (e _ _ rfl)) rfl rfl ?_
        refine wl_skip rfl rfl ?_
        refine wl_skip rfl rfl ?_
        refine wl_skip rfl rfl ?_
        refine wl_skip rfl rfl ?_
        refine wl_val (v := .bool false) (fun ρ e => ex_pick0 (e _ _ rfl) (e _ _ rfl)) rfl rfl ?_
        refine wl_nil ?_
        refine xw_next K41 ?_
        refine cw_false rfl ?_
        refine cw_skip ?_
        refine xw_block ?_
        refine xw_next K29 ?_
        refine cw_region ?_
        refine wl_val (v := .int .i64 ((k + 1 : Nat) : Int)) (fun ρ e => ex_arith (k := .i64) (u := (k : Int)) (v := 1) (e _ _ rfl) (e _ _ rfl) (congrArg some ((congrArg _ (by omega)).trans (wrap_in (u := ((k + 1 : Nat) : Int)) (by omega) (by omega))))) rfl rfl ?_
        refine wl_val (v := .int .i64 ((k + 1 : Nat) : Int)) (fun ρ e => ex_move (e _ _ rfl)) rfl rfl ?_
        refine wl_nil ?_
        refine xw_round K25 (k + 1, A, cA, n, l, sl) (by show ins.length - (k + 1) < ins.length - k; omega) ⟨(by show k + 1 ≤ _; omega), hn, (by show n ≤ k + 1; omega), hsl, hl1, (by show _ = manyGo L 1 0 (ins.drop (k + 1)) l; rw [hgo, hdr, manyGo, if_neg c33, if_neg (fun h => h.1 c42)]), O45⟩ ⟨rfl, rfl, rfl, rfl, rfl, rfl, rfl, rfl, rfl, rfl, trivial⟩
      · skip
        refine wl_call (args := [.pointer (some ⟨f, 0, none⟩), .int .i64 x, .int .i64 1]) in_82 rfl rfl rfl ?_
        refine (is0 (f := f) (m := m) (R := R) (c := c) (D := D) (L := L) (vs := vs) (rest := [.row (.slice A n cA) 3 1 n (intCs l), .map g13 (encL intE sl), .blk g2 38 #[.int .i64 4, .int .i64 lit, GV], .ro DI (fun w => IntsD DI w (.slice AI ins.length cI) ins)]) (O40.re [3, 4, 5, 6, 7, 0, 1, 2, 8] rfl : Own (zone (foldE f m R c D L vs ++ [inE DI (.slice AI ins.length cI) ins])) W w38 [.blk f 56 #[.slice R L.length c, .map (some m)], .map m (encL strE (keysGo L 0)), .row (.slice R L.length c) 38 3 L.length (gcells L vs), .ro D (Ins D L vs), .ro TabD Tab, .row (.slice A n cA) 3 1 n (intCs l), .map g13 (encL intE sl), .blk g2 38 #[.int .i64 4, .int .i64 lit, GV], .ro DI (fun w => IntsD DI w (.slice AI ins.length cI) ins)]) hxL c42).mono ?_
        rintro _ w46 ⟨rfl, hb47⟩
        have O48 : Own (zone (foldE f m R c D L vs ++ [inE DI (.slice AI ins.length cI) ins])) W w46 [.row (.slice A n cA) 3 1 n (intCs l), .map g13 (encL intE sl), .blk g2 38 #[.int .i64 4, .int .i64 lit, GV], .blk f 56 #[.slice R L.length c, .map (some m)], .map m (encL strE (keysGo L 0)), .row (.slice R L.length c) 38 3 L.length (gcells L vs), .ro D (Ins D L vs), .ro TabD Tab, .ro DI (fun w => IntsD DI w (.slice AI ins.length cI) ins)] := O40.below hb47
        refine ⟨_, rfl, ?_⟩
        refine wl_val (v := .bool true) (fun ρ e => ex_lnot (b := false) (e _ _ rfl)) rfl rfl ?_
        refine wl_val (v := .bool true) (fun ρ e => ex_move (e _ _ rfl)) rfl rfl ?_
        refine wl_val (v := .map (some g13)) (fun ρ e => ex_move (e _ _ rfl)) rfl rfl ?_
        refine wl_val (v := .int .i64 x) (fun ρ e => ex_move (e _ _ rfl)) rfl rfl ?_
        by_cases c49 : x ∈ l
        · skip
          refine wl_val (v := .bool true) (fun ρ e => ex_look0 intKey Tryd.underlying87 Tryd.underlying3 ze4 (O48.map 1 rfl) x ((hsl x).trans (congrArg Value.bool (decide_eq_true c49))) (e _ _ rfl) (e _ _ rfl)) rfl rfl ?_
          refine wl_val (v := .bool false) (fun ρ e => ex_lnot (b := true) (e _ _ rfl)) rfl rfl ?_
          refine wl_val (v := .bool false) (fun ρ e => ex_pick1 (e _ _ rfl) (e _ _ rfl)) rfl rfl ?_
          refine wl_nil ?_
          refine xw_next K41 ?_
          refine cw_false rfl ?_
          refine cw_skip ?_
          refine xw_block ?_
          refine xw_next K29 ?_
          refine cw_region ?_
          refine wl_val (v := .int .i64 ((k + 1 : Nat) : Int)) (fun ρ e => ex_arith (k := .i64) (u := (k : Int)) (v := 1) (e _ _ rfl) (e _ _ rfl) (congrArg some ((congrArg _ (by omega)).trans (wrap_in (u := ((k + 1 : Nat) : Int)) (by omega) (by omega))))) rfl rfl ?_
          refine wl_val (v := .int .i64 ((k + 1 : Nat) : Int)) (fun ρ e => ex_move (e _ _ rfl)) rfl rfl ?_
          refine wl_nil ?_
          refine xw_round K25 (k + 1, A, cA, n, l, sl) (by show ins.length - (k + 1) < ins.length - k; omega) ⟨(by show k + 1 ≤ _; omega), hn, (by show n ≤ k + 1; omega), hsl, hl1, (by show _ = manyGo L 1 0 (ins.drop (k + 1)) l; rw [hgo, hdr, manyGo, if_neg c33, if_neg (fun h => h.2 c49)]), O48⟩ ⟨rfl, rfl, rfl, rfl, rfl, rfl, rfl, rfl, rfl, rfl, trivial⟩
        · skip
          refine wl_val (v := .bool false) (fun ρ e => ex_look0 intKey Tryd.underlying87 Tryd.underlying3 ze4 (O48.map 1 rfl) x ((hsl x).trans (congrArg Value.bool (decide_eq_false c49))) (e _ _ rfl) (e _ _ rfl)) rfl rfl ?_
          refine wl_val (v := .bool true) (fun ρ e => ex_lnot (b := false) (e _ _ rfl)) rfl rfl ?_
          refine wl_val (v := .bool true) (fun ρ e => ex_pick1 (e _ _ rfl) (e _ _ rfl)) rfl rfl ?_
          refine wl_nil ?_
          refine xw_next K41 ?_
          refine cw_true rfl ?_
          refine cw_seq (fun FK50 K50 => ?_)
          refine cw_region ?_
          refine wl_val (v := .map (some g13)) (fun ρ e => ex_move (e _ _ rfl)) rfl rfl ?_
          refine wl_val (v := .int .i64 x) (fun ρ e => ex_move (e _ _ rfl)) rfl rfl ?_
          obtain ⟨w51, r52, O53, hs54⟩ := own_mapput (O48.re [1, 0, 2, 3, 4, 5, 6, 7, 8] rfl : Own (zone (foldE f m R c D L vs ++ [inE DI (.slice AI ins.length cI) ins])) W w46 [.map g13 (encL intE sl), .row (.slice A n cA) 3 1 n (intCs l), .blk g2 38 #[.int .i64 4, .int .i64 lit, GV], .blk f 56 #[.slice R L.length c, .map (some m)], .map m (encL strE (keysGo L 0)), .row (.slice R L.length c) 38 3 L.length (gcells L vs), .ro D (Ins D L vs), .ro TabD Tab, .ro DI (fun w => IntsD DI w (.slice AI ins.length cI) ins)]) intKey Tryd.underlying87 Tryd.underlying3 x (.bool true)
          refine wl_none (fun ρ e => r52 ρ _ _ _ _ _ _ _ (e _ _ rfl) (e _ _ rfl) (e _ _ rfl)) rfl ?_
          refine wl_nil ?_
          refine xw_next K50 ?_
          refine cw_region ?_
          refine wl_val (v := .slice A n cA) (fun ρ e => ex_move (e _ _ rfl)) rfl rfl ?_
          refine wl_val (v := .int .i64 x) (fun ρ e => ex_move (e _ _ rfl)) rfl rfl ?_
          obtain ⟨g55, w56, r57, O58, hg59, hs60⟩ := own_slice O53 el36 ze3 1 [(0, .int .i64 x)] (cs := #[.int .i64 x]) (by decide) (by kernel_rfl)
          refine wl_val (v := .slice (some ⟨g55, 0, none⟩) 1 1) (fun ρ e => r57 ρ _ _ _ _ _ _ (e.parts rfl)) rfl rfl ?_
          obtain ⟨A61, c62, w63, r64, O65, hz66, hc67⟩ := own_app1 (O58.re [2, 0, 1, 3, 4, 5, 6, 7, 8, 9] rfl : Own (zone (foldE f m R c D L vs ++ [inE DI (.slice AI ins.length cI) ins])) W w56 [.row (.slice A n cA) 3 1 n (intCs l), .blk g55 3 #[.int .i64 x], .map g13 (encL intE (aput x (.bool true) sl)), .blk g2 38 #[.int .i64 4, .int .i64 lit, GV], .blk f 56 #[.slice R L.length c, .map (some m)], .map m (encL strE (keysGo L 0)), .row (.slice R L.length c) 38 3 L.length (gcells L vs), .ro D (Ins D L vs), .ro TabD Tab, .ro DI (fun w => IntsD DI w (.slice AI ins.length cI) ins)]) ap36 ((O58.re [2, 0, 1, 3, 4, 5, 6, 7, 8, 9] rfl : Own (zone (foldE f m R c D L vs ++ [inE DI (.slice AI ins.length cI) ins])) W w56 [.row (.slice A n cA) 3 1 n (intCs l), .blk g55 3 #[.int .i64 x], .map g13 (encL intE (aput x (.bool true) sl)), .blk g2 38 #[.int .i64 4, .int .i64 lit, GV], .blk f 56 #[.slice R L.length c, .map (some m)], .map m (encL strE (keysGo L 0)), .row (.slice R L.length c) 38 3 L.length (gcells L vs), .ro D (Ins D L vs), .ro TabD Tab, .ro DI (fun w => IntsD DI w (.slice AI ins.length cI) ins)]).blk 1 rfl) (cells := [.int .i64 x]) rfl rfl (by omega) (by omega) (ys := (intCs (l ++ [x]))) (intCs_snoc l x)
          refine wl_val (v := .slice A61 (n + 1) c62) (fun ρ e => r64 ρ _ _ _ _ _ _ _ (e _ _ rfl) (e _ _ rfl)) rfl rfl ?_
          refine wl_val (v := .slice A61 (n + 1) c62) (fun ρ e => ex_assign (e _ _ rfl)) rfl rfl ?_
          refine wl_nil ?_
          refine xw_block ?_
          refine xw_next K29 ?_
          refine cw_region ?_
          refine wl_val (v := .int .i64 ((k + 1 : Nat) : Int)) (fun ρ e => ex_arith (k := .i64) (u := (k : Int)) (v := 1) (e _ _ rfl) (e _ _ rfl) (congrArg some ((congrArg _ (by omega)).trans (wrap_in (u := ((k + 1 : Nat) : Int)) (by omega) (by omega))))) rfl rfl ?_
          refine wl_val (v := .int .i64 ((k + 1 : Nat) : Int)) (fun ρ e => ex_move (e _ _ rfl)) rfl rfl ?_
          refine wl_nil ?_
          refine xw_round K25 (k + 1, A61, c62, n + 1, l ++ [x], (aput x (.bool true) sl)) (by show ins.length - (k + 1) < ins.length - k; omega) ⟨(by show k + 1 ≤ _; omega), (by show n + 1 = (l ++ [x]).length; simp [hn]), (by show n + 1 ≤ k + 1; omega), (by show seenIs _ _; exact hsl.put x true (fun y => by by_cases e : y = x <;> simp [e])), (fun y hy => (List.mem_append.1 hy).elim (hl1 y) (fun h => by rw [List.mem_singleton.1 h]; exact hxL)), (by show _ = manyGo L 1 0 (ins.drop (k + 1)) (l ++ [x]); rw [hgo, hdr, manyGo, if_neg c33, if_pos ⟨c42, c49⟩]), (O65.re [0, 2, 3, 4, 5, 6, 7, 8, 9] rfl : Own (zone (foldE f m R c D L vs ++ [inE DI (.slice AI ins.length cI) ins])) W w63 [.row (.slice A61 (n + 1) c62) 3 1 (n + 1) (intCs (l ++ [x])), .map g13 (encL intE (aput x (.bool true) sl)), .blk g2 38 #[.int .i64 4, .int .i64 lit, GV], .blk f 56 #[.slice R L.length c, .map (some m)], .map m (encL strE (keysGo L 0)), .row (.slice R L.length c) 38 3 L.length (gcells L vs), .ro D (Ins D L vs), .ro TabD Tab, .ro DI (fun w => IntsD DI w (.slice AI ins.length cI) ins)])⟩ ⟨rfl, rfl, rfl, rfl, rfl, rfl, rfl, rfl, rfl, rfl, trivial⟩
  · have hke : k = ins.length := by omega
    rw [List.drop_eq_nil_of_le (by omega)] at hgo
    simp only [manyGo] at hgo
    refine cw_seq (fun FK68 K68 => ?_)
    refine cw_region ?_
    refine wl_val (v := .bool false) (fun ρ e => ex_cmp (u := (k : Int)) (v := ((ins.length : Nat) : Int)) (e _ _ rfl) (e _ _ rfl) (lss0 (by omega))) rfl rfl ?_
    refine wl_nil ?_
    refine xw_next K68 ?_
    refine cw_seq (fun FK69 K69 => ?_)
    refine cw_false rfl ?_
    refine cw_exit ?_
    refine xw_past (by intro h; cases h) ?_
    refine xw_past (by intro h; cases h) ?_
    refine xw_here ?_
    refine xw_next K19 ?_
    refine cw_seq (fun FK70 K70 => ?_)
    refine cw_seq (fun FK71 K71 => ?_)
    refine cw_region ?_
    refine wl_val (v := .slice A n cA) (fun ρ e => ex_move (e _ _ rfl)) rfl rfl ?_
    refine wl_val (v := .int .i64 (n : Int)) (fun ρ e => ex_len el36 (e _ _ rfl)) rfl rfl ?_
    refine wl_nil ?_
    refine xw_next K71 ?_
    refine cw_block ?_
    refine cw_seq (fun FK72 K72 => ?_)
    rcases l with _ | ⟨x, _ | ⟨x2, l2⟩⟩
    · have hn' : n = 0 := hn
      refine cw_region ?_
      refine wl_val (v := .bool true) (fun ρ e => ex_cmp (u := (n : Int)) (v := 0) (e _ _ rfl) (e _ _ rfl) (eql1 (by omega))) rfl rfl ?_
      refine wl_val (v := .bool true) (fun ρ e => ex_assign (e _ _ rfl)) rfl rfl ?_
      refine wl_nil ?_
      refine xw_next K72 ?_
      refine cw_true rfl ?_
      refine cw_seq (fun FK73 K73 => ?_)
      refine cw_region ?_
      refine wl_val (v := .pointer (some ⟨f, 0, none⟩)) (fun ρ e => ex_move (e _ _ rfl)) rfl rfl ?_
      refine wl_val (v := .int .i64 1) (fun ρ e => ex_move (e _ _ rfl)) rfl rfl ?_
      refine wl_val (v := .agg #[.int .i64 1, .int .i64 0, .slice none 0 0]) (fun ρ e => ex_build (cells := #[.int .i64 1, .int .i64 0, .slice none 0 0]) st38 (e.parts rfl) rfl) rfl rfl ?_
      refine wl_call (args := [.pointer (some ⟨f, 0, none⟩), .agg #[.int .i64 1, .int .i64 0, .slice none 0 0]]) in_80 rfl rfl rfl ?_
      have O74 : Own (zone (foldE f m R c D L vs ++ [inE DI (.slice AI ins.length cI) ins])) W w23 [.ro (fun _ => False) (fun w => IntsD (fun _ => False) w (.slice none 0 0) ([])), .row (.slice A n cA) 3 1 n (intCs []), .map g13 (encL intE sl), .blk g2 38 #[.int .i64 4, .int .i64 lit, GV], .blk f 56 #[.slice R L.length c, .map (some m)], .map m (encL strE (keysGo L 0)), .row (.slice R L.length c) 38 3 L.length (gcells L vs), .ro D (Ins D L vs), .ro TabD Tab, .ro DI (fun w => IntsD DI w (.slice AI ins.length cI) ins)] := O26.nilin
      refine (call_find (f := f) (m := m) (R := R) (c := c) (D := D) (L := L) (vs := vs) (D2 := (fun _ => False)) (V := .slice none 0 0) (g := ⟨1, 0, []⟩) (rest := [.row (.slice A n cA) 3 1 n (intCs []), .map g13 (encL intE sl), .blk g2 38 #[.int .i64 4, .int .i64 lit, GV], .ro DI (fun w => IntsD DI w (.slice AI ins.length cI) ins)]) (O74.re [4, 5, 6, 7, 8, 0, 1, 2, 3, 9] rfl : Own (zone (foldE f m R c D L vs ++ [inE DI (.slice AI ins.length cI) ins])) W w23 [.blk f 56 #[.slice R L.length c, .map (some m)], .map m (encL strE (keysGo L 0)), .row (.slice R L.length c) 38 3 L.length (gcells L vs), .ro D (Ins D L vs), .ro TabD Tab, .ro (fun _ => False) (fun w => IntsD (fun _ => False) w (.slice none 0 0) ([])), .row (.slice A n cA) 3 1 n (intCs []), .map g13 (encL intE sl), .blk g2 38 #[.int .i64 4, .int .i64 lit, GV], .ro DI (fun w => IntsD DI w (.slice AI ins.length cI) ins)]) (small_c (smallI_lit 1 rfl) (smallI_lit 0 rfl)) hL).mono ?_
      rintro _ w75 ⟨R76, c77, D78, vs79, rfl, O80⟩
      refine ⟨_, rfl, ?_⟩
      refine wl_val (v := .int .i64 ((findG L ⟨1, 0, []⟩).2)) (fun ρ e => ex_assign (e _ _ rfl)) rfl rfl ?_
      refine wl_nil ?_
      refine xw_next K73 ?_
      refine cw_ret ?_
      refine xw_blockret ?_
      refine xw_past (by intro h; cases h) ?_
      refine xw_ret (v := .int .i64 ((findG L ⟨1, 0, []⟩).2)) (fun T hT => res1 rfl T _ (hT 6 _ rfl)) ?_
      exact FPost.eq ⟨_, _, _, _, rfl, (O80.re [0, 1, 2, 3, 4] rfl : Own (zone (foldE f m R c D L vs ++ [inE DI (.slice AI ins.length cI) ins])) W w75 [.blk f 56 #[.slice R76 (((findG L ⟨1, 0, []⟩).1).length) c77, .map (some m)], .map m (encL strE (keysGo ((findG L ⟨1, 0, []⟩).1) 0)), .row (.slice R76 (((findG L ⟨1, 0, []⟩).1).length) c77) 38 3 (((findG L ⟨1, 0, []⟩).1).length) (gcells ((findG L ⟨1, 0, []⟩).1) vs79), .ro D78 (Ins D78 ((findG L ⟨1, 0, []⟩).1) vs79), .ro TabD Tab])⟩ (by rw [manyG_and, hgo])
    · have hn' : n = 1 := hn
      obtain ⟨gl, rfl⟩ := O26.rowshape 0 rfl (by omega)
      refine cw_region ?_
      refine wl_val (v := .bool false) (fun ρ e => ex_cmp (u := (n : Int)) (v := 0) (e _ _ rfl) (e _ _ rfl) (eql0 (by omega))) rfl rfl ?_
      refine wl_val (v := .bool false) (fun ρ e => ex_assign (e _ _ rfl)) rfl rfl ?_
      refine wl_nil ?_
      refine xw_next K72 ?_
      refine cw_false rfl ?_
      refine cw_seq (fun FK81 K81 => ?_)
      refine cw_region ?_
      refine wl_val (v := .bool true) (fun ρ e => ex_cmp (u := (n : Int)) (v := 1) (e _ _ rfl) (e _ _ rfl) (eql1 (by omega))) rfl rfl ?_
      refine wl_val (v := .bool true) (fun ρ e => ex_assign (e _ _ rfl)) rfl rfl ?_
      refine wl_nil ?_
      refine xw_next K81 ?_
      refine cw_true rfl ?_
      refine cw_seq (fun FK82 K82 => ?_)
      refine cw_region ?_
      refine wl_val (v := .slice (some ⟨gl, 0, none⟩) n cA) (fun ρ e => ex_move (e _ _ rfl)) rfl rfl ?_
      refine wl_val (v := .pointer (some ⟨gl, 0, none⟩)) (fun ρ e => ex_idx (q := 0) (i := 0) el36 (e _ _ rfl) (e _ _ rfl) (by omega) (by omega)) rfl rfl ?_
      refine wl_val (v := .int .i64 x) (fun ρ e => ex_load1 ty3 (e _ _ rfl) (rowcell (O26.row 0 rfl) (j := 0) rfl)) rfl rfl ?_
      refine wl_val (v := .int .i64 x) (fun ρ e => ex_assign (e _ _ rfl)) rfl rfl ?_
      refine wl_nil ?_
      refine xw_next K82 ?_
      refine cw_ret ?_
      refine xw_blockret ?_
      refine xw_past (by intro h; cases h) ?_
      refine xw_ret (v := .int .i64 x) (fun T hT => res1 rfl T _ (hT 6 _ rfl)) ?_
      exact FPost.eq (q' := (L, x)) ⟨_, _, _, _, rfl, (O26.re [3, 4, 5, 6, 7] rfl : Own (zone (foldE f m R c D L vs ++ [inE DI (.slice AI ins.length cI) ins])) W w23 [.blk f 56 #[.slice R L.length c, .map (some m)], .map m (encL strE (keysGo L 0)), .row (.slice R L.length c) 38 3 L.length (gcells L vs), .ro D (Ins D L vs), .ro TabD Tab])⟩ (by rw [manyG_and, hgo])
    · have hn' : n = l2.length + 2 := hn
      refine cw_region ?_
      refine wl_val (v := .bool false) (fun ρ e => ex_cmp (u := (n : Int)) (v := 0) (e _ _ rfl) (e _ _ rfl) (eql0 (by omega))) rfl rfl ?_
      refine wl_val (v := .bool false) (fun ρ e => ex_assign (e _ _ rfl)) rfl rfl ?_
      refine wl_nil ?_
      refine xw_next K72 ?_
      refine cw_false rfl ?_
      refine cw_seq (fun FK83 K83 => ?_)
      refine cw_region ?_
      refine wl_val (v := .bool false) (fun ρ e => ex_cmp (u := (n : Int)) (v := 1) (e _ _ rfl) (e _ _ rfl) (eql0 (by omega))) rfl rfl ?_
      refine wl_val (v := .bool false) (fun ρ e => ex_assign (e _ _ rfl)) rfl rfl ?_
      refine wl_nil ?_
      refine xw_next K83 ?_
      refine cw_false rfl ?_
      refine cw_skip ?_
      refine xw_block ?_
      refine xw_next K70 ?_
      refine cw_seq (fun FK84 K84 => ?_)
      refine cw_region ?_
      refine wl_val (v := .pointer (some ⟨f, 0, none⟩)) (fun ρ e => ex_move (e _ _ rfl)) rfl rfl ?_
      refine wl_val (v := .pointer (some ⟨g2, 0, none⟩)) (fun ρ e => ex_field (q := 0) fi38_0 (e _ _ rfl) rfl) rfl rfl ?_
      refine wl_val (v := .int .i64 4) (fun ρ e => ex_load1 ty3 (e _ _ rfl) (O26.cell 2 0 rfl rfl)) rfl rfl ?_
      refine wl_val (v := .slice A n cA) (fun ρ e => ex_move (e _ _ rfl)) rfl rfl ?_
      refine wl_val (v := .agg #[.int .i64 4, .int .i64 0, .slice A n cA]) (fun ρ e => ex_build (cells := #[.int .i64 4, .int .i64 0, .slice A n cA]) st38 (e.parts rfl) rfl) rfl rfl ?_
      refine wl_call (args := [.pointer (some ⟨f, 0, none⟩), .agg #[.int .i64 4, .int .i64 0, .slice A n cA]]) in_80 rfl rfl rfl ?_
      have O85 : Own (zone (foldE f m R c D L vs ++ [inE DI (.slice AI ins.length cI) ins])) W w23 [.ro (fun k => (Value.ownBlock (.slice A n cA)) = some k) (fun w => IntsD (fun k => (Value.ownBlock (.slice A n cA)) = some k) w (.slice A n cA) (x :: x2 :: l2)), .map g13 (encL intE sl), .blk g2 38 #[.int .i64 4, .int .i64 lit, GV], .blk f 56 #[.slice R L.length c, .map (some m)], .map m (encL strE (keysGo L 0)), .row (.slice R L.length c) 38 3 L.length (gcells L vs), .ro D (Ins D L vs), .ro TabD Tab, .ro DI (fun w => IntsD DI w (.slice AI ins.length cI) ins)] := Own.rowin (l := (x :: x2 :: l2)) O26
      refine (call_find (f := f) (m := m) (R := R) (c := c) (D := D) (L := L) (vs := vs) (D2 := (fun k => (Value.ownBlock (.slice A n cA)) = some k)) (V := .slice A n cA) (g := ⟨4, 0, (x :: x2 :: l2)⟩) (rest := [.map g13 (encL intE sl), .blk g2 38 #[.int .i64 4, .int .i64 lit, GV], .ro DI (fun w => IntsD DI w (.slice AI ins.length cI) ins)]) (O85.re [3, 4, 5, 6, 7, 0, 1, 2, 8] rfl : Own (zone (foldE f m R c D L vs ++ [inE DI (.slice AI ins.length cI) ins])) W w23 [.blk f 56 #[.slice R L.length c, .map (some m)], .map m (encL strE (keysGo L 0)), .row (.slice R L.length c) 38 3 L.length (gcells L vs), .ro D (Ins D L vs), .ro TabD Tab, .ro (fun k => (Value.ownBlock (.slice A n cA)) = some k) (fun w => IntsD (fun k => (Value.ownBlock (.slice A n cA)) = some k) w (.slice A n cA) (x :: x2 :: l2)), .map g13 (encL intE sl), .blk g2 38 #[.int .i64 4, .int .i64 lit, GV], .ro DI (fun w => IntsD DI w (.slice AI ins.length cI) ins)]) (small_n (smallI_lit 4 rfl) (fun x hx => by have := hl1 x hx; unfold smallI; omega) (by omega)) hL).mono ?_
      rintro _ w86 ⟨R87, c88, D89, vs90, rfl, O91⟩
      refine ⟨_, rfl, ?_⟩
      refine wl_val (v := .int .i64 ((findG L ⟨4, 0, (x :: x2 :: l2)⟩).2)) (fun ρ e => ex_assign (e _ _ rfl)) rfl rfl ?_
      refine wl_nil ?_
      refine xw_next K84 ?_
      refine cw_ret ?_
      refine xw_ret (v := .int .i64 ((findG L ⟨4, 0, (x :: x2 :: l2)⟩).2)) (fun T hT => res1 rfl T _ (hT 6 _ rfl)) ?_
      exact FPost.eq ⟨_, _, _, _, rfl, (O91.re [0, 1, 2, 3, 4] rfl : Own (zone (foldE f m R c D L vs ++ [inE DI (.slice AI ins.length cI) ins])) W w86 [.blk f 56 #[.slice R87 (((findG L ⟨4, 0, (x :: x2 :: l2)⟩).1).length) c88, .map (some m)], .map m (encL strE (keysGo ((findG L ⟨4, 0, (x :: x2 :: l2)⟩).1) 0)), .row (.slice R87 (((findG L ⟨4, 0, (x :: x2 :: l2)⟩).1).length) c88) 38 3 (((findG L ⟨4, 0, (x :: x2 :: l2)⟩).1).length) (gcells ((findG L ⟨4, 0, (x :: x2 :: l2)⟩).1) vs90), .ro D89 (Ins D89 ((findG L ⟨4, 0, (x :: x2 :: l2)⟩).1) vs90), .ro TabD Tab])⟩ (by rw [manyG_and, hgo])
end
end Go.Proofs.YtbemhgojfehnjaaDoor
