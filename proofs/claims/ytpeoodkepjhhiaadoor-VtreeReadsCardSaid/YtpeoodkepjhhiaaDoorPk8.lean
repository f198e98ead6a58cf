/-
  Lemmas and contracts, joined: Vrchk Vch Vrpar VlMeets Vsame.
-/
import Derived.Test.YtpeoodkepjhhiaaDoorPk3
import Derived.Test.YtpeoodkepjhhiaaDoorPk4
import Derived.Test.YtpeoodkepjhhiaaDoorPk7
import Derived.Test.YtpeoodkepjhhiaaDoorPk2
namespace Go.Proofs.YtpeoodkepjhhiaaDoor
open Go Go.RowKit
theorem count_small {K : List Int} {a : Int} (h : K.length ≤ 3000000) : ((K.count a : Nat) : Int) + 1 ≤ 9223372036854775807 := by
  have := List.count_le_length (a := a) (l := K)
  omega
theorem kidsL_len (l : List VN) : (kidsL l).length ≤ 2 * l.length := by
  induction l with
  | nil => simp [kidsL]
  | cons x r ih =>
    have : kidsL (x :: r) = kidsOf x ++ kidsL r := by simp [kidsL]
    rw [this, List.length_append, List.length_cons]
    have h2 : (kidsOf x).length ≤ 2 := by unfold kidsOf; split <;> simp
    omega
def rchkV (ts : List VN) : Int := if rokT ts then 0 else 1
theorem not_rok {ts : List VN} (k : Nat) (h : rpreB (ts.take k) = false) : rokT ts = false := by
  rw [Bool.eq_false_iff]; intro q
  rw [rpreB_take (rokT_parts.1 q).2.1 k] at h; cases h
theorem not_rok_len {ts : List VN} (h : ts.length = 0) : rokT ts = false := by
  rw [Bool.eq_false_iff]; intro q
  obtain ⟨h1, _⟩ := rokT_parts.1 q
  omega
theorem rcover_iff (ts : List VN) : rcoverB ts = true ↔ ∀ k, k < ts.length - 1 → (kidsL ts).count (k : Int) = 1 := by
  unfold rcoverB
  simp
section
variable {l : List VN} {xl xr xv : Int}
theorem rpreV_yes (h : rpreB l = true) (hx : lf ⟨xl, xr, xv⟩ = false) (hv : xv = 0) (h1 : 0 ≤ xl) (h2 : xl < l.length) (h3 : 0 ≤ xr) (h4 : xr < l.length) (h5 : xl ≠ xr) : rpreB (l ++ [⟨xl, xr, xv⟩]) = true := by
  rw [rpre_in h hx]
  simp only [Bool.not_eq_true', Bool.or_eq_false_iff, decide_eq_false_iff_not]
  refine ⟨⟨⟨⟨⟨?_, ?_⟩, ?_⟩, ?_⟩, ?_⟩, ?_⟩ <;> omega
theorem rpreV_no (h : rpreB l = true) (hx : lf ⟨xl, xr, xv⟩ = false) (hv : xv ≠ 0 ∨ xl < 0 ∨ (l.length : Int) ≤ xl ∨ xr < 0 ∨ (l.length : Int) ≤ xr ∨ xl = xr) : rpreB (l ++ [⟨xl, xr, xv⟩]) = false := by
  rw [rpre_in h hx]
  simp only [Bool.not_eq_false', Bool.or_eq_true, decide_eq_true_eq]
  omega
end
theorem rcheck0 {W : World} {D : Nat → Prop} {V : Value} {ts : List VN} (hN : NodesD D W V ts) (hD : ∀ k, D k → k < W.heap.size) (hsz : ts.length ≤ 1000000) :
    Calls Tryd.prog 41 #[V] W fun e w' => e = .returned (.int .i64 (rchkV ts)) ∧ Below W.heap.size W w' := by
  obtain ⟨A, c, rfl⟩ := hN.slice
  rcases Nat.eq_zero_or_pos ts.length with h0 | h0
  · skip
    have O0 : Own Z0 W W [] := Own.start W
    refine sx_enter (args := [.slice A ts.length c]) Tryd.func41 rfl rfl (by simp) ?_
    refine cw_seq (fun FK1 K1 => ?_)
    refine cw_region ?_
    refine wl_val (v := .int .i64 0) (fun ρ e => ex_assign (e _ _ rfl)) rfl rfl ?_
    refine wl_nil ?_
    refine xw_next K1 ?_
    refine cw_seq (fun FK2 K2 => ?_)
    refine cw_seq (fun FK3 K3 => ?_)
    refine cw_region ?_
    refine wl_val (v := .slice A ts.length c) (fun ρ e => ex_move (e _ _ rfl)) rfl rfl ?_
    refine wl_val (v := .int .i64 ((ts.length : Nat) : Int)) (fun ρ e => ex_len el23 (e _ _ rfl)) rfl rfl ?_
    refine wl_val (v := .bool true) (fun ρ e => ex_cmp (u := ((ts.length : Nat) : Int)) (v := 0) (e _ _ rfl) (e _ _ rfl) (eql1 (by omega))) rfl rfl ?_
    refine wl_nil ?_
    refine xw_next K3 ?_
    refine cw_true rfl ?_
    refine cw_seq (fun FK4 K4 => ?_)
    refine cw_region ?_
    refine wl_val (v := .int .i64 1) (fun ρ e => ex_assign (e _ _ rfl)) rfl rfl ?_
    refine wl_nil ?_
    refine xw_next K4 ?_
    refine cw_ret ?_
    refine xw_past (by intro h; cases h) ?_
    refine xw_ret (v := .int .i64 1) (fun T hT => res1 rfl T _ (hT 2 _ rfl)) ?_
    exact ⟨by unfold rchkV; rw [not_rok_len (by omega)]; rfl, O0.old⟩
  · obtain ⟨b, o, c', hv, hDb⟩ := hN.form h0
    injection hv with hA _ hc
    subst hA hc
    have O0 : Own Z0 W W [.ro D (fun w => NodesD D w (.slice (some ⟨b, o, none⟩) ts.length c) ts)] := (Own.start W).oldro (D := D) (p := (fun w => NodesD D w (.slice (some ⟨b, o, none⟩) ts.length c) ts)) (nodesE_holds hN hD)
    refine sx_enter (args := [.slice (some ⟨b, o, none⟩) ts.length c]) Tryd.func41 rfl rfl (by simp) ?_
    refine cw_seq (fun FK5 K5 => ?_)
    refine cw_region ?_
    refine wl_val (v := .int .i64 0) (fun ρ e => ex_assign (e _ _ rfl)) rfl rfl ?_
    refine wl_nil ?_
    refine xw_next K5 ?_
    refine cw_seq (fun FK6 K6 => ?_)
    refine cw_seq (fun FK7 K7 => ?_)
    refine cw_region ?_
    refine wl_val (v := .slice (some ⟨b, o, none⟩) ts.length c) (fun ρ e => ex_move (e _ _ rfl)) rfl rfl ?_
    refine wl_val (v := .int .i64 ((ts.length : Nat) : Int)) (fun ρ e => ex_len el23 (e _ _ rfl)) rfl rfl ?_
    refine wl_val (v := .bool false) (fun ρ e => ex_cmp (u := ((ts.length : Nat) : Int)) (v := 0) (e _ _ rfl) (e _ _ rfl) (eql0 (by omega))) rfl rfl ?_
    refine wl_nil ?_
    refine xw_next K7 ?_
    refine cw_false rfl ?_
    refine cw_skip ?_
    refine xw_next K6 ?_
    refine cw_seq (fun FK8 K8 => ?_)
    refine cw_region ?_
    refine wl_val (v := .slice (some ⟨b, o, none⟩) ts.length c) (fun ρ e => ex_move (e _ _ rfl)) rfl rfl ?_
    refine wl_val (v := .int .i64 ((ts.length : Nat) : Int)) (fun ρ e => ex_len el23 (e _ _ rfl)) rfl rfl ?_
    obtain ⟨g9, w10, r11, O12, hg13, hs14⟩ := own_make1 O0 ap36 rfl ts.length (by decide) (by omega) (cs := (intCs (cntL ts.length [])).toArray) (by rw [cntL_nil]; simp [intCs])
    refine wl_val (v := .slice (some ⟨g9, 0, none⟩) ts.length ts.length) (fun ρ e => r11 ρ _ _ _ _ _ _ _ (e _ _ rfl) (e _ _ rfl)) rfl rfl ?_
    refine wl_val (v := .slice (some ⟨g9, 0, none⟩) ts.length ts.length) (fun ρ e => ex_assign (e _ _ rfl)) rfl rfl ?_
    refine wl_nil ?_
    refine xw_next K8 ?_
    refine cw_seq (fun FK15 K15 => ?_)
    refine cw_region ?_
    obtain ⟨g16, w17, r18, O19, hg20, hs21⟩ := own_alloc O12 70 ze70 (cs := (boolCs (flagL 129 [])).toArray) (by rw [flagL_nil]; simp [boolCs, Value.cells])
    refine wl_val (v := .pointer (some ⟨g16, 0, none⟩)) (fun ρ e => r18 ρ _ _ _ _ _) rfl rfl ?_
    refine wl_nil ?_
    refine xw_next K15 ?_
    refine cw_seq (fun FK22 K22 => ?_)
    refine cw_seq (fun FK23 K23 => ?_)
    refine cw_region ?_
    refine wl_val (v := .int .i64 0) (fun ρ e => ex_assign (e _ _ rfl)) rfl rfl ?_
    refine wl_nil ?_
    refine xw_next K23 ?_
    refine cw_block ?_
    have O24 : Own Z0 W w17 [.blk g16 70 ((boolCs (flagL 129 [])).toArray), .blk g9 3 ((intCs (cntL ts.length [])).toArray), .ro D (fun w => NodesD D w (.slice (some ⟨b, o, none⟩) ts.length c) ts)] := O19
    refine cw_loop (ι := Nat) (fun q => [(0, .slice (some ⟨b, o, none⟩) ts.length c), (3, .slice (some ⟨g9, 0, none⟩) ts.length ts.length), (4, .pointer (some ⟨g16, 0, none⟩)), (5, .int .i64 (q : Int))]) (fun q X => (q ≤ ts.length) ∧ (rpreB (ts.take q) = true) ∧ Own Z0 W X [.blk g16 70 ((boolCs (flagL 129 (varsL (ts.take q)))).toArray), .blk g9 3 ((intCs (cntL ts.length (kidsL (ts.take q)))).toArray), .ro D (fun w => NodesD D w (.slice (some ⟨b, o, none⟩) ts.length c) ts)]) (fun q => ts.length - q) 0 ⟨Nat.zero_le _, (by rw [List.take_zero]; rfl), O24⟩ ⟨rfl, rfl, rfl, rfl, trivial⟩ (fun q w25 hJ F26 K27 => ?_)
    obtain ⟨i, rfl⟩ : ∃ x, x = q := ⟨_, rfl⟩
    obtain ⟨hi0, hp, O28⟩ := hJ
    try dsimp only at hi0 hp O28 ⊢
    by_cases hi : i < ts.length
    · skip
      obtain ⟨⟨xl, xr, xv⟩, hx⟩ : ∃ x, ts[i]? = some x := ⟨ts[i], List.getElem?_eq_getElem hi⟩
      have htk : ts.take (i + 1) = ts.take i ++ [⟨xl, xr, xv⟩] := take_more hx
      have hlen : (ts.take i).length = i := by rw [List.length_take]; omega
      have hkl := kidsL_len (ts.take i)
      refine cw_seq (fun FK29 K29 => ?_)
      refine cw_seq (fun FK30 K30 => ?_)
      refine cw_region ?_
      refine wl_val (v := .int .i64 (i : Int)) (fun ρ e => ex_move (e _ _ rfl)) rfl rfl ?_
      refine wl_val (v := .slice (some ⟨b, o, none⟩) ts.length c) (fun ρ e => ex_move (e _ _ rfl)) rfl rfl ?_
      refine wl_val (v := .int .i64 ((ts.length : Nat) : Int)) (fun ρ e => ex_len el23 (e _ _ rfl)) rfl rfl ?_
      refine wl_val (v := .bool true) (fun ρ e => ex_cmp (u := (i : Int)) (v := ((ts.length : Nat) : Int)) (e _ _ rfl) (e _ _ rfl) (lss1 (by omega))) rfl rfl ?_
      refine wl_nil ?_
      refine xw_next K30 ?_
      refine cw_true rfl ?_
      refine cw_skip ?_
      refine xw_next K29 ?_
      refine cw_seq (fun FK31 K31 => ?_)
      refine cw_block ?_
      refine cw_seq (fun FK32 K32 => ?_)
      refine cw_region ?_
      refine wl_val (v := .slice (some ⟨b, o, none⟩) ts.length c) (fun ρ e => ex_move (e _ _ rfl)) rfl rfl ?_
      refine wl_val (v := .int .i64 (i : Int)) (fun ρ e => ex_move (e _ _ rfl)) rfl rfl ?_
      refine wl_val (v := .pointer (some ⟨b, o + i * 3, none⟩)) (fun ρ e => ex_idx (q := o + i * 3) (i := i) el23 (e _ _ rfl) (e _ _ rfl) (by omega) (by omega)) rfl rfl ?_
      refine wl_val (v := .agg #[.int .i64 xl, .int .i64 xr, .int .i64 xv]) (fun ρ e => ex_loadN (vs := [.int .i64 xl, .int .i64 xr, .int .i64 xv]) ty38 (e _ _ rfl) rfl (cells3 (NodesD.c0 ((O28.ro 2 rfl : (fun w => NodesD D w (.slice (some ⟨b, o, none⟩) ts.length c) ts) _) : NodesD _ _ _ _) hx) (NodesD.c1 ((O28.ro 2 rfl : (fun w => NodesD D w (.slice (some ⟨b, o, none⟩) ts.length c) ts) _) : NodesD _ _ _ _) hx) (NodesD.c2 ((O28.ro 2 rfl : (fun w => NodesD D w (.slice (some ⟨b, o, none⟩) ts.length c) ts) _) : NodesD _ _ _ _) hx))) rfl rfl ?_
      obtain ⟨g33, w34, r35, O36, hg37, hs38⟩ := own_alloc O28 38 ze38 rfl
      refine wl_val (v := .pointer (some ⟨g33, 0, none⟩)) (fun ρ e => r35 ρ _ _ _ _ _) rfl rfl ?_
      obtain ⟨w39, r40, O41, hs42⟩ := own_put (o := 0) (n := 3) O36 ty38 (.agg #[.int .i64 xl, .int .i64 xr, .int .i64 xv]) [.int .i64 xl, .int .i64 xr, .int .i64 xv] (cs' := #[.int .i64 xl, .int .i64 xr, .int .i64 xv]) rfl rfl rfl (Nat.le_of_ble_eq_true rfl) rfl
      refine wl_none (fun ρ e => r40 ρ _ _ _ _ _ _ (e _ _ rfl) (e _ _ rfl)) rfl ?_
      refine wl_nil ?_
      refine xw_next K32 ?_
      refine cw_seq (fun FK43 K43 => ?_)
      refine cw_region ?_
      refine wl_val (v := .agg #[.int .i64 xl, .int .i64 xr, .int .i64 xv]) (fun ρ e => ex_loadN (vs := [.int .i64 xl, .int .i64 xr, .int .i64 xv]) ty38 (e _ _ rfl) rfl (O41.cells 0 0 rfl rfl)) rfl rfl ?_
      refine wl_call (args := [.agg #[.int .i64 xl, .int .i64 xr, .int .i64 xv]]) in_72 rfl rfl rfl ?_
      refine (rleaf_ (VN.mk xl xr xv) (W := w39)).mono ?_
      rintro _ w44 ⟨rfl, hb45⟩
      have O46 : Own Z0 W w44 [.blk g33 38 #[.int .i64 xl, .int .i64 xr, .int .i64 xv], .blk g16 70 ((boolCs (flagL 129 (varsL (ts.take i)))).toArray), .blk g9 3 ((intCs (cntL ts.length (kidsL (ts.take i)))).toArray), .ro D (fun w => NodesD D w (.slice (some ⟨b, o, none⟩) ts.length c) ts)] := O41.below hb45
      refine ⟨_, rfl, ?_⟩
      refine wl_nil ?_
      refine xw_next K43 ?_
      refine cw_cond (b := (lf (VN.mk xl xr xv))) rfl (fun c47 => ?_) (fun c47 => ?_)
      · skip
        obtain ⟨_, _, hv1, hv2⟩ := (lf_iff _).1 c47
        dsimp only at hv1 hv2
        obtain ⟨v, rfl⟩ : ∃ n : Nat, xv = n := ⟨xv.toNat, by omega⟩
        refine cw_seq (fun FK48 K48 => ?_)
        refine cw_seq (fun FK49 K49 => ?_)
        refine cw_region ?_
        refine wl_val (v := .pointer (some ⟨g33, 2, none⟩)) (fun ρ e => ex_field (q := 2) fi38_2 (e _ _ rfl) rfl) rfl rfl ?_
        refine wl_val (v := .int .i64 (v : Int)) (fun ρ e => ex_load1 ty3 (e _ _ rfl) (O46.cell 0 2 rfl rfl)) rfl rfl ?_
        refine wl_val (v := .pointer (some ⟨g16, v, none⟩)) (fun ρ e => ex_idxA (q := v) (i := v) an70 (e _ _ rfl) (e _ _ rfl) (by omega) (by omega)) rfl rfl ?_
        refine wl_val (v := .bool (decide ((v : Int) ∈ (varsL (ts.take i))))) (fun ρ e => ex_load1 ty4 (e _ _ rfl) (O46.cell 1 v rfl (getBo (flagL_get (varsL (ts.take i)) (by omega))))) rfl rfl ?_
        refine wl_nil ?_
        refine xw_next K49 ?_
        refine cw_cond (b := (decide ((v : Int) ∈ (varsL (ts.take i))))) rfl (fun c50 => ?_) (fun c50 => ?_)
        · skip
          refine cw_seq (fun FK51 K51 => ?_)
          refine cw_region ?_
          refine wl_val (v := .int .i64 1) (fun ρ e => ex_assign (e _ _ rfl)) rfl rfl ?_
          refine wl_nil ?_
          refine xw_next K51 ?_
          refine cw_ret ?_
          refine xw_past (by intro h; cases h) ?_
          refine xw_blockret ?_
          refine xw_past (by intro h; cases h) ?_
          refine xw_past (by intro h; cases h) ?_
          refine xw_blockret ?_
          refine xw_past (by intro h; cases h) ?_
          refine xw_ret (v := .int .i64 1) (fun T hT => res1 rfl T _ (hT 2 _ rfl)) ?_
          have hno : rokT ts = false := not_rok (i + 1) (by rw [htk]; exact (rpre_leaf hp c47).trans (by rw [c50]; rfl))
          exact ⟨by unfold rchkV; rw [hno]; rfl, O46.old⟩
        · skip
          refine cw_skip ?_
          refine xw_next K48 ?_
          refine cw_region ?_
          refine wl_val (v := .pointer (some ⟨g33, 2, none⟩)) (fun ρ e => ex_field (q := 2) fi38_2 (e _ _ rfl) rfl) rfl rfl ?_
          refine wl_val (v := .int .i64 (v : Int)) (fun ρ e => ex_load1 ty3 (e _ _ rfl) (O46.cell 0 2 rfl rfl)) rfl rfl ?_
          refine wl_val (v := .pointer (some ⟨g16, v, none⟩)) (fun ρ e => ex_idxA (q := v) (i := v) an70 (e _ _ rfl) (e _ _ rfl) (by omega) (by omega)) rfl rfl ?_
          obtain ⟨w52, r53, O54, hs55⟩ := own_put (o := v) (n := 1) (O46.re [1, 0, 2, 3] rfl : Own Z0 W w44 [.blk g16 70 ((boolCs (flagL 129 (varsL (ts.take i)))).toArray), .blk g33 38 #[.int .i64 xl, .int .i64 xr, .int .i64 (v : Int)], .blk g9 3 ((intCs (cntL ts.length (kidsL (ts.take i)))).toArray), .ro D (fun w => NodesD D w (.slice (some ⟨b, o, none⟩) ts.length c) ts)]) ty4 (.bool true) [.bool true] (cs' := (boolCs (flagL 129 ((varsL (ts.take i)) ++ [(v : Int)]))).toArray) rfl rfl rfl (by simp [boolCs, flagL_len] <;> omega) ((setBo _ v true).trans (congrArg (fun z => (boolCs z).toArray) (flagL_set 129 v (varsL (ts.take i)))))
          refine wl_none (fun ρ e => r53 ρ _ _ _ _ _ _ (e _ _ rfl) (e _ _ rfl)) rfl ?_
          refine wl_nil ?_
          refine xw_block ?_
          refine xw_next K31 ?_
          refine cw_region ?_
          refine wl_val (v := .int .i64 (i : Int)) (fun ρ e => ex_move (e _ _ rfl)) rfl rfl ?_
          refine wl_val (v := .int .i64 ((i + 1 : Nat) : Int)) (fun ρ e => ex_arith (k := .i64) (u := (i : Int)) (v := 1) (e _ _ rfl) (e _ _ rfl) (congrArg some ((congrArg _ (by omega)).trans (wrap_in (u := ((i + 1 : Nat) : Int)) (by omega) (by omega))))) rfl rfl ?_
          refine wl_val (v := .int .i64 ((i + 1 : Nat) : Int)) (fun ρ e => ex_assign (e _ _ rfl)) rfl rfl ?_
          refine wl_nil ?_
          have hV2 : varsL (ts.take (i + 1)) = ((varsL (ts.take i)) ++ [(v : Int)]) := by rw [htk, varsL_snoc]; simp [varOf, c47]
          have hK2 : kidsL (ts.take (i + 1)) = kidsL (ts.take i) := by rw [htk, kidsL_snoc]; simp [kidsOf, c47]
          have O56 : Own Z0 W w52 [.blk g16 70 ((boolCs (flagL 129 (varsL (ts.take (i + 1))))).toArray), .blk g9 3 ((intCs (cntL ts.length (kidsL (ts.take (i + 1))))).toArray), .ro D (fun w => NodesD D w (.slice (some ⟨b, o, none⟩) ts.length c) ts)] := by rw [hV2, hK2]; exact (O54.re [0, 2, 3] rfl : Own Z0 W w52 [.blk g16 70 ((boolCs (flagL 129 ((varsL (ts.take i)) ++ [(v : Int)]))).toArray), .blk g9 3 ((intCs (cntL ts.length (kidsL (ts.take i)))).toArray), .ro D (fun w => NodesD D w (.slice (some ⟨b, o, none⟩) ts.length c) ts)])
          refine xw_round K27 (i + 1) (by show ts.length - (i + 1) < ts.length - i; omega) ⟨(by show i + 1 ≤ ts.length; omega), (by show rpreB (ts.take (i + 1)) = true; rw [htk]; exact (rpre_leaf hp c47).trans (by rw [c50]; rfl)), O56⟩ ⟨rfl, rfl, rfl, rfl, trivial⟩
      · skip
        refine cw_seq (fun FK57 K57 => ?_)
        refine cw_seq (fun FK58 K58 => ?_)
        refine cw_region ?_
        refine wl_val (v := .pointer (some ⟨g33, 2, none⟩)) (fun ρ e => ex_field (q := 2) fi38_2 (e _ _ rfl) rfl) rfl rfl ?_
        refine wl_val (v := .int .i64 xv) (fun ρ e => ex_load1 ty3 (e _ _ rfl) (O46.cell 0 2 rfl rfl)) rfl rfl ?_
        by_cases c59 : xv ≠ 0
        · skip
          refine wl_val (v := .bool true) (fun ρ e => ex_cmp (u := xv) (v := 0) (e _ _ rfl) (e _ _ rfl) (neq1 (by omega))) rfl rfl ?_
          refine wl_val (v := .bool true) (fun ρ e => ex_move (e _ _ rfl)) rfl rfl ?_
          refine wl_skip rfl rfl ?_
          refine wl_skip rfl rfl ?_
          refine wl_skip rfl rfl ?_
          refine wl_val (v := .bool true) (fun ρ e => ex_pick1 (e _ _ rfl) (e _ _ rfl)) rfl rfl ?_
          refine wl_val (v := .bool true) (fun ρ e => ex_move (e _ _ rfl)) rfl rfl ?_
          refine wl_skip rfl rfl ?_
          refine wl_skip rfl rfl ?_
          refine wl_skip rfl rfl ?_
          refine wl_skip rfl rfl ?_
          refine wl_val (v := .bool true) (fun ρ e => ex_pick1 (e _ _ rfl) (e _ _ rfl)) rfl rfl ?_
          refine wl_val (v := .bool true) (fun ρ e => ex_move (e _ _ rfl)) rfl rfl ?_
          refine wl_skip rfl rfl ?_
          refine wl_skip rfl rfl ?_
          refine wl_skip rfl rfl ?_
          refine wl_val (v := .bool true) (fun ρ e => ex_pick1 (e _ _ rfl) (e _ _ rfl)) rfl rfl ?_
          refine wl_val (v := .bool true) (fun ρ e => ex_move (e _ _ rfl)) rfl rfl ?_
          refine wl_skip rfl rfl ?_
          refine wl_skip rfl rfl ?_
          refine wl_skip rfl rfl ?_
          refine wl_skip rfl rfl ?_
          refine wl_val (v := .bool true) (fun ρ e => ex_pick1 (e _ _ rfl) (e _ _ rfl)) rfl rfl ?_
          refine wl_val (v := .bool true) (fun ρ e => ex_move (e _ _ rfl)) rfl rfl ?_
          refine wl_skip rfl rfl ?_
          refine wl_skip rfl rfl ?_
          refine wl_skip rfl rfl ?_
          refine wl_skip rfl rfl ?_
          refine wl_skip rfl rfl ?_
          refine wl_val (v := .bool true) (fun ρ e => ex_pick1 (e _ _ rfl) (e _ _ rfl)) rfl rfl ?_
          refine wl_nil ?_
          refine xw_next K58 ?_
          refine cw_true rfl ?_
          refine cw_seq (fun FK60 K60 => ?_)
          refine cw_region ?_
          refine wl_val (v := .int .i64 1) (fun ρ e => ex_assign (e _ _ rfl)) rfl rfl ?_
          refine wl_nil ?_
          refine xw_next K60 ?_
          refine cw_ret ?_
          refine xw_past (by intro h; cases h) ?_
          refine xw_blockret ?_
          refine xw_past (by intro h; cases h) ?_
          refine xw_past (by intro h; cases h) ?_
          refine xw_blockret ?_
          refine xw_past (by intro h; cases h) ?_
          refine xw_ret (v := .int .i64 1) (fun T hT => res1 rfl T _ (hT 2 _ rfl)) ?_
          have hno : rokT ts = false := not_rok (i + 1) (by rw [htk]; exact rpreV_no hp c47 (by omega))
          exact ⟨by unfold rchkV; rw [hno]; rfl, O46.old⟩
        · skip
          refine wl_val (v := .bool false) (fun ρ e => ex_cmp (u := xv) (v := 0) (e _ _ rfl) (e _ _ rfl) (neq0 (by omega))) rfl rfl ?_
          refine wl_val (v := .bool false) (fun ρ e => ex_move (e _ _ rfl)) rfl rfl ?_
          refine wl_val (v := .pointer (some ⟨g33, 0, none⟩)) (fun ρ e => ex_field (q := 0) fi38_0 (e _ _ rfl) rfl) rfl rfl ?_
          refine wl_val (v := .int .i64 xl) (fun ρ e => ex_load1 ty3 (e _ _ rfl) (O46.cell 0 0 rfl rfl)) rfl rfl ?_
          by_cases c61 : xl < 0
          · skip
            refine wl_val (v := .bool true) (fun ρ e => ex_cmp (u := xl) (v := 0) (e _ _ rfl) (e _ _ rfl) (lss1 (by omega))) rfl rfl ?_
            refine wl_val (v := .bool true) (fun ρ e => ex_pick0 (e _ _ rfl) (e _ _ rfl)) rfl rfl ?_
            refine wl_val (v := .bool true) (fun ρ e => ex_move (e _ _ rfl)) rfl rfl ?_
            refine wl_skip rfl rfl ?_
            refine wl_skip rfl rfl ?_
            refine wl_skip rfl rfl ?_
            refine wl_skip rfl rfl ?_
            refine wl_val (v := .bool true) (fun ρ e => ex_pick1 (e _ _ rfl) (e _ _ rfl)) rfl rfl ?_
            refine wl_val (v := .bool true) (fun ρ e => ex_move (e _ _ rfl)) rfl rfl ?_
            refine wl_skip rfl rfl ?_
            refine wl_skip rfl rfl ?_
            refine wl_skip rfl rfl ?_
            refine wl_val (v := .bool true) (fun ρ e => ex_pick1 (e _ _ rfl) (e _ _ rfl)) rfl rfl ?_
            refine wl_val (v := .bool true) (fun ρ e => ex_move (e _ _ rfl)) rfl rfl ?_
            refine wl_skip rfl rfl ?_
            refine wl_skip rfl rfl ?_
            refine wl_skip rfl rfl ?_
            refine wl_skip rfl rfl ?_
            refine wl_val (v := .bool true) (fun ρ e => ex_pick1 (e _ _ rfl) (e _ _ rfl)) rfl rfl ?_
            refine wl_val (v := .bool true) (fun ρ e => ex_move (e _ _ rfl)) rfl rfl ?_
            refine wl_skip rfl rfl ?_
            refine wl_skip rfl rfl ?_
            refine wl_skip rfl rfl ?_
            refine wl_skip rfl rfl ?_
            refine wl_skip rfl rfl ?_
            refine wl_val (v := .bool true) (fun ρ e => ex_pick1 (e _ _ rfl) (e _ _ rfl)) rfl rfl ?_
            refine wl_nil ?_
            refine xw_next K58 ?_
            refine cw_true rfl ?_
            refine cw_seq (fun FK62 K62 => ?_)
            refine cw_region ?_
            refine wl_val (v := .int .i64 1) (fun ρ e => ex_assign (e _ _ rfl)) rfl rfl ?_
            refine wl_nil ?_
            refine xw_next K62 ?_
            refine cw_ret ?_
            refine xw_past (by intro h; cases h) ?_
            refine xw_blockret ?_
            refine xw_past (by intro h; cases h) ?_
            refine xw_past (by intro h; cases h) ?_
            refine xw_blockret ?_
            refine xw_past (by intro h; cases h) ?_
            refine xw_ret (v := .int .i64 1) (fun T hT => res1 rfl T _ (hT 2 _ rfl)) ?_
            have hno : rokT ts = false := not_rok (i + 1) (by rw [htk]; exact rpreV_no hp c47 (by omega))
            exact ⟨by unfold rchkV; rw [hno]; rfl, O46.old⟩
          · skip
            refine wl_val (v := .bool false) (fun ρ e => ex_cmp (u := xl) (v := 0) (e _ _ rfl) (e _ _ rfl) (lss0 (by omega))) rfl rfl ?_
            refine wl_val (v := .bool false) (fun ρ e => ex_pick0 (e _ _ rfl) (e _ _ rfl)) rfl rfl ?_
            refine wl_val (v := .bool false) (fun ρ e => ex_move (e _ _ rfl)) rfl rfl ?_
            refine wl_val (v := .pointer (some ⟨g33, 0, none⟩)) (fun ρ e => ex_field (q := 0) fi38_0 (e _ _ rfl) rfl) rfl rfl ?_
            refine wl_val (v := .int .i64 xl) (fun ρ e => ex_load1 ty3 (e _ _ rfl) (O46.cell 0 0 rfl rfl)) rfl rfl ?_
            refine wl_val (v := .int .i64 (i : Int)) (fun ρ e => ex_move (e _ _ rfl)) rfl rfl ?_
            by_cases c63 : xl ≥ (i : Int)
            · skip
              refine wl_val (v := .bool true) (fun ρ e => ex_cmp (u := xl) (v := (i : Int)) (e _ _ rfl) (e _ _ rfl) (geq1 (by omega))) rfl rfl ?_
              refine wl_val (v := .bool true) (fun ρ e => ex_pick0 (e _ _ rfl) (e _ _ rfl)) rfl rfl ?_
              refine wl_val (v := .bool true) (fun ρ e => ex_move (e _ _ rfl)) rfl rfl ?_
              refine wl_skip rfl rfl ?_
              refine wl_skip rfl rfl ?_
              refine wl_skip rfl rfl ?_
              refine wl_val (v := .bool true) (fun ρ e => ex_pick1 (e _ _ rfl) (e _ _ rfl)) rfl rfl ?_
              refine wl_val (v := .bool true) (fun ρ e => ex_move (e _ _ rfl)) rfl rfl ?_
              refine wl_skip rfl rfl ?_
              refine wl_skip rfl rfl ?_
              refine wl_skip rfl rfl ?_
              refine wl_skip rfl rfl ?_
              refine wl_val (v := .bool true) (fun ρ e => ex_pick1 (e _ _ rfl) (e _ _ rfl)) rfl rfl ?_
              refine wl_val (v := .bool true) (fun ρ e => ex_move (e _ _ rfl)) rfl rfl ?_
              refine wl_skip rfl rfl ?_
              refine wl_skip rfl rfl ?_
              refine wl_skip rfl rfl ?_
              refine wl_skip rfl rfl ?_
              refine wl_skip rfl rfl ?_
              refine wl_val (v := .bool true) (fun ρ e => ex_pick1 (e _ _ rfl) (e _ _ rfl)) rfl rfl ?_
              refine wl_nil ?_
              refine xw_next K58 ?_
              refine cw_true rfl ?_
              refine cw_seq (fun FK64 K64 => ?_)
              refine cw_region ?_
              refine wl_val (v := .int .i64 1) (fun ρ e => ex_assign (e _ _ rfl)) rfl rfl ?_
              refine wl_nil ?_
              refine xw_next K64 ?_
              refine cw_ret ?_
              refine xw_past (by intro h; cases h) ?_
              refine xw_blockret ?_
              refine xw_past (by intro h; cases h) ?_
              refine xw_past (by intro h; cases h) ?_
              refine xw_blockret ?_
              refine xw_past (by intro h; cases h) ?_
              refine xw_ret (v := .int .i64 1) (fun T hT => res1 rfl T _ (hT 2 _ rfl)) ?_
              have hno : rokT ts = false := not_rok (i + 1) (by rw [htk]; exact rpreV_no hp c47 (by omega))
              exact ⟨by unfold rchkV; rw [hno]; rfl, O46.old⟩
            · skip
              refine wl_val (v := .bool false) (fun ρ e => ex_cmp (u := xl) (v := (i : Int)) (e _ _ rfl) (e _ _ rfl) (geq0 (by omega))) rfl rfl ?_
              refine wl_val (v := .bool false) (fun ρ e => ex_pick0 (e _ _ rfl) (e _ _ rfl)) rfl rfl ?_
              refine wl_val (v := .bool false) (fun ρ e => ex_move (e _ _ rfl)) rfl rfl ?_
              refine wl_val (v := .pointer (some ⟨g33, 1, none⟩)) (fun ρ e => ex_field (q := 1) fi38_1 (e _ _ rfl) rfl) rfl rfl ?_
              refine wl_val (v := .int .i64 xr) (fun ρ e => ex_load1 ty3 (e _ _ rfl) (O46.cell 0 1 rfl rfl)) rfl rfl ?_
              by_cases c65 : xr < 0
              · skip
                refine wl_val (v := .bool true) (fun ρ e => ex_cmp (u := xr) (v := 0) (e _ _ rfl) (e _ _ rfl) (lss1 (by omega))) rfl rfl ?_
                refine wl_val (v := .bool true) (fun ρ e => ex_pick0 (e _ _ rfl) (e _ _ rfl)) rfl rfl ?_
                refine wl_val (v := .bool true) (fun ρ e => ex_move (e _ _ rfl)) rfl rfl ?_
                refine wl_skip rfl rfl ?_
                refine wl_skip rfl rfl ?_
                refine wl_skip rfl rfl ?_
                refine wl_skip rfl rfl ?_
                refine wl_val (v := .bool true) (fun ρ e => ex_pick1 (e _ _ rfl) (e _ _ rfl)) rfl rfl ?_
                refine wl_val (v := .bool true) (fun ρ e => ex_move (e _ _ rfl)) rfl rfl ?_
                refine wl_skip rfl rfl ?_
                refine wl_skip rfl rfl ?_
                refine wl_skip rfl rfl ?_
                refine wl_skip rfl rfl ?_
                refine wl_skip rfl rfl ?_
                refine wl_val (v := .bool true) (fun ρ e => ex_pick1 (e _ _ rfl) (e _ _ rfl)) rfl rfl ?_
                refine wl_nil ?_
                refine xw_next K58 ?_
                refine cw_true rfl ?_
                refine cw_seq (fun FK66 K66 => ?_)
                refine cw_region ?_
                refine wl_val (v := .int .i64 1) (fun ρ e => ex_assign (e _ _ rfl)) rfl rfl ?_
                refine wl_nil ?_
                refine xw_next K66 ?_
                refine cw_ret ?_
                refine xw_past (by intro h; cases h) ?_
                refine xw_blockret ?_
                refine xw_past (by intro h; cases h) ?_
                refine xw_past (by intro h; cases h) ?_
                refine xw_blockret ?_
                refine xw_past (by intro h; cases h) ?_
                refine xw_ret (v := .int .i64 1) (fun T hT => res1 rfl T _ (hT 2 _ rfl)) ?_
                have hno : rokT ts = false := not_rok (i + 1) (by rw [htk]; exact rpreV_no hp c47 (by omega))
                exact ⟨by unfold rchkV; rw [hno]; rfl, O46.old⟩
              · skip
                refine wl_val (v := .bool false) (fun ρ e => ex_cmp (u := xr) (v := 0) (e _ _ rfl) (e _ _ rfl) (lss0 (by omega))) rfl rfl ?_
                refine wl_val (v := .bool false) (fun ρ e => ex_pick0 (e _ _ rfl) (e _ _ rfl)) rfl rfl ?_
                refine wl_val (v := .bool false) (fun ρ e => ex_move (e _ _ rfl)) rfl rfl ?_
                refine wl_val (v := .pointer (some ⟨g33, 1, none⟩)) (fun ρ e => ex_field (q := 1) fi38_1 (e _ _ rfl) rfl) rfl rfl ?_
                refine wl_val (v := .int .i64 xr) (fun ρ e => ex_load1 ty3 (e _ _ rfl) (O46.cell 0 1 rfl rfl)) rfl rfl ?_
                refine wl_val (v := .int .i64 (i : Int)) (fun ρ e => ex_move (e _ _ rfl)) rfl rfl ?_
                by_cases c67 : xr ≥ (i : Int)
                · skip
                  refine wl_val (v := .bool true) (fun ρ e => ex_cmp (u := xr) (v := (i : Int)) (e _ _ rfl) (e _ _ rfl) (geq1 (by omega))) rfl rfl ?_
                  refine wl_val (v := .bool true) (fun ρ e => ex_pick0 (e _ _ rfl) (e _ _ rfl)) rfl rfl ?_
                  refine wl_val (v := .bool true) (fun ρ e => ex_move (e _ _ rfl)) rfl rfl ?_
                  refine wl_skip rfl rfl ?_
                  refine wl_skip rfl rfl ?_
                  refine wl_skip rfl rfl ?_
                  refine wl_skip rfl rfl ?_
                  refine wl_skip rfl rfl ?_
                  refine wl_val (v := .bool true) (fun ρ e => ex_pick1 (e _ _ rfl) (e _ _ rfl)) rfl rfl ?_
                  refine wl_nil ?_
                  refine xw_next K58 ?_
                  refine cw_true rfl ?_
                  refine cw_seq (fun FK68 K68 => ?_)
                  refine cw_region ?_
                  refine wl_val (v := .int .i64 1) (fun ρ e => ex_assign (e _ _ rfl)) rfl rfl ?_
                  refine wl_nil ?_
                  refine xw_next K68 ?_
                  refine cw_ret ?_
                  refine xw_past (by intro h; cases h) ?_
                  refine xw_blockret ?_
                  refine xw_past (by intro h; cases h) ?_
                  refine xw_past (by intro h; cases h) ?_
                  refine xw_blockret ?_
                  refine xw_past (by intro h; cases h) ?_
                  refine xw_ret (v := .int .i64 1) (fun T hT => res1 rfl T _ (hT 2 _ rfl)) ?_
                  have hno : rokT ts = false := not_rok (i + 1) (by rw [htk]; exact rpreV_no hp c47 (by omega))
                  exact ⟨by unfold rchkV; rw [hno]; rfl, O46.old⟩
                · skip
                  refine wl_val (v := .bool false) (fun ρ e => ex_cmp (u := xr) (v := (i : Int)) (e _ _ rfl) (e _ _ rfl) (geq0 (by omega))) rfl rfl ?_
                  refine wl_val (v := .bool false) (fun ρ e => ex_pick0 (e _ _ rfl) (e _ _ rfl)) rfl rfl ?_
                  refine wl_val (v := .bool false) (fun ρ e => ex_move (e _ _ rfl)) rfl rfl ?_
                  refine wl_val (v := .pointer (some ⟨g33, 0, none⟩)) (fun ρ e => ex_field (q := 0) fi38_0 (e _ _ rfl) rfl) rfl rfl ?_
                  refine wl_val (v := .int .i64 xl) (fun ρ e => ex_load1 ty3 (e _ _ rfl) (O46.cell 0 0 rfl rfl)) rfl rfl ?_
                  refine wl_val (v := .pointer (some ⟨g33, 1, none⟩)) (fun ρ e => ex_field (q := 1) fi38_1 (e _ _ rfl) rfl) rfl rfl ?_
                  refine wl_val (v := .int .i64 xr) (fun ρ e => ex_load1 ty3 (e _ _ rfl) (O46.cell 0 1 rfl rfl)) rfl rfl ?_
                  by_cases c69 : xl = xr
                  · skip
                    refine wl_val (v := .bool true) (fun ρ e => ex_cmp (u := xl) (v := xr) (e _ _ rfl) (e _ _ rfl) (eql1 (by omega))) rfl rfl ?_
                    refine wl_val (v := .bool true) (fun ρ e => ex_pick0 (e _ _ rfl) (e _ _ rfl)) rfl rfl ?_
                    refine wl_nil ?_
                    refine xw_next K58 ?_
                    refine cw_true rfl ?_
                    refine cw_seq (fun FK70 K70 => ?_)
                    refine cw_region ?_
                    refine wl_val (v := .int .i64 1) (fun ρ e => ex_assign (e _ _ rfl)) rfl rfl ?_
                    refine wl_nil ?_
                    refine xw_next K70 ?_
                    refine cw_ret ?_
                    refine xw_past (by intro h; cases h) ?_
                    refine xw_blockret ?_
                    refine xw_past (by intro h; cases h) ?_
                    refine xw_past (by intro h; cases h) ?_
                    refine xw_blockret ?_
                    refine xw_past (by intro h; cases h) ?_
                    refine xw_ret (v := .int .i64 1) (fun T hT => res1 rfl T _ (hT 2 _ rfl)) ?_
                    have hno : rokT ts = false := not_rok (i + 1) (by rw [htk]; exact rpreV_no hp c47 (by omega))
                    exact ⟨by unfold rchkV; rw [hno]; rfl, O46.old⟩
                  · skip
                    obtain ⟨a, rfl⟩ : ∃ n : Nat, xl = n := ⟨xl.toNat, by omega⟩
                    obtain ⟨b2, rfl⟩ : ∃ n : Nat, xr = n := ⟨xr.toNat, by omega⟩
                    refine wl_val (v := .bool false) (fun ρ e => ex_cmp (u := (a : Int)) (v := (b2 : Int)) (e _ _ rfl) (e _ _ rfl) (eql0 (by omega))) rfl rfl ?_
                    refine wl_val (v := .bool false) (fun ρ e => ex_pick0 (e _ _ rfl) (e _ _ rfl)) rfl rfl ?_
                    refine wl_nil ?_
                    refine xw_next K58 ?_
                    refine cw_false rfl ?_
                    refine cw_skip ?_
                    refine xw_next K57 ?_
                    refine cw_seq (fun FK71 K71 => ?_)
                    refine cw_region ?_
                    refine wl_val (v := .slice (some ⟨g9, 0, none⟩) ts.length ts.length) (fun ρ e => ex_move (e _ _ rfl)) rfl rfl ?_
                    refine wl_val (v := .pointer (some ⟨g33, 0, none⟩)) (fun ρ e => ex_field (q := 0) fi38_0 (e _ _ rfl) rfl) rfl rfl ?_
                    refine wl_val (v := .int .i64 (a : Int)) (fun ρ e => ex_load1 ty3 (e _ _ rfl) (O46.cell 0 0 rfl rfl)) rfl rfl ?_
                    refine wl_val (v := .pointer (some ⟨g9, a, none⟩)) (fun ρ e => ex_idx (q := a) (i := a) el36 (e _ _ rfl) (e _ _ rfl) (by omega) (by omega)) rfl rfl ?_
                    refine wl_val (v := .int .i64 (((kidsL (ts.take i)).count (a : Int) : Nat) : Int)) (fun ρ e => ex_load1 ty3 (e _ _ rfl) (O46.cell 2 a rfl (getI (cntL_get (kidsL (ts.take i)) (by omega))))) rfl rfl ?_
                    refine wl_val (v := .int .i64 ((((kidsL (ts.take i)).count (a : Int) : Nat) : Int) + 1)) (fun ρ e => ex_arith (k := .i64) (u := (((kidsL (ts.take i)).count (a : Int) : Nat) : Int)) (v := 1) (e _ _ rfl) (e _ _ rfl) (congrArg some (wrap_in (by omega) (count_small (by first | omega | (simp only [List.length_append, List.length_cons, List.length_nil]; omega)))))) rfl rfl ?_
                    refine wl_val (v := .pointer (some ⟨g9, a, none⟩)) (fun ρ e => ex_idx (q := a) (i := a) el36 (e _ _ rfl) (e _ _ rfl) (by omega) (by omega)) rfl rfl ?_
                    obtain ⟨w72, r73, O74, hs75⟩ := own_put (o := a) (n := 1) (O46.re [2, 0, 1, 3] rfl : Own Z0 W w44 [.blk g9 3 ((intCs (cntL ts.length (kidsL (ts.take i)))).toArray), .blk g33 38 #[.int .i64 (a : Int), .int .i64 (b2 : Int), .int .i64 xv], .blk g16 70 ((boolCs (flagL 129 (varsL (ts.take i)))).toArray), .ro D (fun w => NodesD D w (.slice (some ⟨b, o, none⟩) ts.length c) ts)]) ty3 (.int .i64 ((((kidsL (ts.take i)).count (a : Int) : Nat) : Int) + 1)) [.int .i64 ((((kidsL (ts.take i)).count (a : Int) : Nat) : Int) + 1)] (cs' := (intCs (cntL ts.length ((kidsL (ts.take i)) ++ [(a : Int)]))).toArray) rfl rfl rfl (by simp [intCs, cntL_len] <;> omega) ((setI _ a _).trans (congrArg (fun z => (intCs z).toArray) (cntL_set ts.length a (kidsL (ts.take i)))))
                    refine wl_none (fun ρ e => r73 ρ _ _ _ _ _ _ (e _ _ rfl) (e _ _ rfl)) rfl ?_
                    refine wl_nil ?_
                    refine xw_next K71 ?_
                    refine cw_region ?_
                    refine wl_val (v := .slice (some ⟨g9, 0, none⟩) ts.length ts.length) (fun ρ e => ex_move (e _ _ rfl)) rfl rfl ?_
                    refine wl_val (v := .pointer (some ⟨g33, 1, none⟩)) (fun ρ e => ex_field (q := 1) fi38_1 (e _ _ rfl) rfl) rfl rfl ?_
                    refine wl_val (v := .int .i64 (b2 : Int)) (fun ρ e => ex_load1 ty3 (e _ _ rfl) (O74.cell 1 1 rfl rfl)) rfl rfl ?_
                    refine wl_val (v := .pointer (some ⟨g9, b2, none⟩)) (fun ρ e => ex_idx (q := b2) (i := b2) el36 (e _ _ rfl) (e _ _ rfl) (by omega) (by omega)) rfl rfl ?_
                    refine wl_val (v := .int .i64 ((((kidsL (ts.take i)) ++ [(a : Int)]).count (b2 : Int) : Nat) : Int)) (fun ρ e => ex_load1 ty3 (e _ _ rfl) (O74.cell 0 b2 rfl (getI (cntL_get ((kidsL (ts.take i)) ++ [(a : Int)]) (by omega))))) rfl rfl ?_
                    refine wl_val (v := .int .i64 (((((kidsL (ts.take i)) ++ [(a : Int)]).count (b2 : Int) : Nat) : Int) + 1)) (fun ρ e => ex_arith (k := .i64) (u := ((((kidsL (ts.take i)) ++ [(a : Int)]).count (b2 : Int) : Nat) : Int)) (v := 1) (e _ _ rfl) (e _ _ rfl) (congrArg some (wrap_in (by omega) (count_small (by first | omega | (simp only [List.length_append, List.length_cons, List.length_nil]; omega)))))) rfl rfl ?_
                    refine wl_val (v := .pointer (some ⟨g9, b2, none⟩)) (fun ρ e => ex_idx (q := b2) (i := b2) el36 (e _ _ rfl) (e _ _ rfl) (by omega) (by omega)) rfl rfl ?_
                    obtain ⟨w76, r77, O78, hs79⟩ := own_put (o := b2) (n := 1) O74 ty3 (.int .i64 (((((kidsL (ts.take i)) ++ [(a : Int)]).count (b2 : Int) : Nat) : Int) + 1)) [.int .i64 (((((kidsL (ts.take i)) ++ [(a : Int)]).count (b2 : Int) : Nat) : Int) + 1)] (cs' := (intCs (cntL ts.length (((kidsL (ts.take i)) ++ [(a : Int)]) ++ [(b2 : Int)]))).toArray) rfl rfl rfl (by simp [intCs, cntL_len] <;> omega) ((setI _ b2 _).trans (congrArg (fun z => (intCs z).toArray) (cntL_set ts.length b2 ((kidsL (ts.take i)) ++ [(a : Int)]))))
                    refine wl_none (fun ρ e => r77 ρ _ _ _ _ _ _ (e _ _ rfl) (e _ _ rfl)) rfl ?_
                    refine wl_nil ?_
                    refine xw_block ?_
                    refine xw_next K31 ?_
                    refine cw_region ?_
                    refine wl_val (v := .int .i64 (i : Int)) (fun ρ e => ex_move (e _ _ rfl)) rfl rfl ?_
                    refine wl_val (v := .int .i64 ((i + 1 : Nat) : Int)) (fun ρ e => ex_arith (k := .i64) (u := (i : Int)) (v := 1) (e _ _ rfl) (e _ _ rfl) (congrArg some ((congrArg _ (by omega)).trans (wrap_in (u := ((i + 1 : Nat) : Int)) (by omega) (by omega))))) rfl rfl ?_
                    refine wl_val (v := .int .i64 ((i + 1 : Nat) : Int)) (fun ρ e => ex_assign (e _ _ rfl)) rfl rfl ?_
                    refine wl_nil ?_
                    have hV2 : varsL (ts.take (i + 1)) = varsL (ts.take i) := by rw [htk, varsL_snoc]; simp [varOf, c47]
                    have hK2 : kidsL (ts.take (i + 1)) = (((kidsL (ts.take i)) ++ [(a : Int)]) ++ [(b2 : Int)]) := by rw [htk, kidsL_snoc]; simp [kidsOf, c47]
                    have O80 : Own Z0 W w76 [.blk g16 70 ((boolCs (flagL 129 (varsL (ts.take (i + 1))))).toArray), .blk g9 3 ((intCs (cntL ts.length (kidsL (ts.take (i + 1))))).toArray), .ro D (fun w => NodesD D w (.slice (some ⟨b, o, none⟩) ts.length c) ts)] := by rw [hV2, hK2]; exact (O78.re [2, 0, 3] rfl : Own Z0 W w76 [.blk g16 70 ((boolCs (flagL 129 (varsL (ts.take i)))).toArray), .blk g9 3 ((intCs (cntL ts.length (((kidsL (ts.take i)) ++ [(a : Int)]) ++ [(b2 : Int)]))).toArray), .ro D (fun w => NodesD D w (.slice (some ⟨b, o, none⟩) ts.length c) ts)])
                    refine xw_round K27 (i + 1) (by show ts.length - (i + 1) < ts.length - i; omega) ⟨(by show i + 1 ≤ ts.length; omega), (by show rpreB (ts.take (i + 1)) = true; rw [htk]; exact rpreV_yes hp c47 (by omega) (by omega) (by omega) (by omega) (by omega) (by omega)), O80⟩ ⟨rfl, rfl, rfl, rfl, trivial⟩
    · have hie : i = ts.length := by omega
      subst hie
      rw [List.take_length] at hp
      have hpre := hp
      have hOt : ts.take ts.length = ts := List.take_length
      rw [hOt] at O28
      refine cw_seq (fun FK81 K81 => ?_)
      refine cw_seq (fun FK82 K82 => ?_)
      refine cw_region ?_
      refine wl_val (v := .int .i64 ((ts.length : Nat) : Int)) (fun ρ e => ex_move (e _ _ rfl)) rfl rfl ?_
      refine wl_val (v := .slice (some ⟨b, o, none⟩) ts.length c) (fun ρ e => ex_move (e _ _ rfl)) rfl rfl ?_
      refine wl_val (v := .int .i64 ((ts.length : Nat) : Int)) (fun ρ e => ex_len el23 (e _ _ rfl)) rfl rfl ?_
      refine wl_val (v := .bool false) (fun ρ e => ex_cmp (u := ((ts.length : Nat) : Int)) (v := ((ts.length : Nat) : Int)) (e _ _ rfl) (e _ _ rfl) (lss0 (by omega))) rfl rfl ?_
      refine wl_nil ?_
      refine xw_next K82 ?_
      refine cw_false rfl ?_
      refine cw_exit ?_
      refine xw_past (by intro h; cases h) ?_
      refine xw_past (by intro h; cases h) ?_
      refine xw_here ?_
      refine xw_next K22 ?_
      refine cw_seq (fun FK83 K83 => ?_)
      refine cw_seq (fun FK84 K84 => ?_)
      refine cw_region ?_
      refine wl_val (v := .int .i64 0) (fun ρ e => ex_assign (e _ _ rfl)) rfl rfl ?_
      refine wl_nil ?_
      refine xw_next K84 ?_
      refine cw_block ?_
      refine cw_loop (ι := Nat) (fun q => [(0, .slice (some ⟨b, o, none⟩) ts.length c), (3, .slice (some ⟨g9, 0, none⟩) ts.length ts.length), (7, .int .i64 (q : Int))]) (fun q X => (q ≤ ts.length) ∧ (∀ k, k < q → k < ts.length - 1 → (kidsL ts).count (k : Int) = 1) ∧ Own Z0 W X [.blk g16 70 ((boolCs (flagL 129 (varsL ts))).toArray), .blk g9 3 ((intCs (cntL ts.length (kidsL ts))).toArray), .ro D (fun w => NodesD D w (.slice (some ⟨b, o, none⟩) ts.length c) ts)]) (fun q => ts.length - q) 0 ⟨Nat.zero_le _, (fun k hk => absurd hk (Nat.not_lt_zero k)), O28⟩ ⟨rfl, rfl, rfl, trivial⟩ (fun q w85 hJ F86 K87 => ?_)
      obtain ⟨j, rfl⟩ : ∃ x, x = q := ⟨_, rfl⟩
      obtain ⟨hj0, hcv, O88⟩ := hJ
      try dsimp only at hj0 hcv O88 ⊢
      by_cases hj : j < ts.length
      · skip
        refine cw_seq (fun FK89 K89 => ?_)
        refine cw_seq (fun FK90 K90 => ?_)
        refine cw_region ?_
        refine wl_val (v := .int .i64 (j : Int)) (fun ρ e => ex_move (e _ _ rfl)) rfl rfl ?_
        refine wl_val (v := .slice (some ⟨b, o, none⟩) ts.length c) (fun ρ e => ex_move (e _ _ rfl)) rfl rfl ?_
        refine wl_val (v := .int .i64 ((ts.length : Nat) : Int)) (fun ρ e => ex_len el23 (e _ _ rfl)) rfl rfl ?_
        refine wl_val (v := .bool true) (fun ρ e => ex_cmp (u := (j : Int)) (v := ((ts.length : Nat) : Int)) (e _ _ rfl) (e _ _ rfl) (lss1 (by omega))) rfl rfl ?_
        refine wl_nil ?_
        refine xw_next K90 ?_
        refine cw_true rfl ?_
        refine cw_skip ?_
        refine xw_next K89 ?_
        refine cw_seq (fun FK91 K91 => ?_)
        refine cw_block ?_
        refine cw_seq (fun FK92 K92 => ?_)
        refine cw_region ?_
        refine wl_val (v := .int .i64 (j : Int)) (fun ρ e => ex_move (e _ _ rfl)) rfl rfl ?_
        refine wl_val (v := .slice (some ⟨b, o, none⟩) ts.length c) (fun ρ e => ex_move (e _ _ rfl)) rfl rfl ?_
        refine wl_val (v := .int .i64 ((ts.length : Nat) : Int)) (fun ρ e => ex_len el23 (e _ _ rfl)) rfl rfl ?_
        refine wl_val (v := .int .i64 ((ts.length - 1 : Nat) : Int)) (fun ρ e => ex_arith (k := .i64) (u := ((ts.length : Nat) : Int)) (v := 1) (e _ _ rfl) (e _ _ rfl) (congrArg some ((congrArg _ (show _ = ((ts.length - 1 : Nat) : Int) by omega)).trans (wrap_in (by omega) (by omega))))) rfl rfl ?_
        by_cases c93 : (j : Int) < ((ts.length - 1 : Nat) : Int)
        · skip
          refine wl_val (v := .bool true) (fun ρ e => ex_cmp (u := (j : Int)) (v := ((ts.length - 1 : Nat) : Int)) (e _ _ rfl) (e _ _ rfl) (lss1 (by omega))) rfl rfl ?_
          refine wl_val (v := .bool true) (fun ρ e => ex_move (e _ _ rfl)) rfl rfl ?_
          refine wl_val (v := .slice (some ⟨g9, 0, none⟩) ts.length ts.length) (fun ρ e => ex_move (e _ _ rfl)) rfl rfl ?_
          refine wl_val (v := .int .i64 (j : Int)) (fun ρ e => ex_move (e _ _ rfl)) rfl rfl ?_
          refine wl_val (v := .pointer (some ⟨g9, j, none⟩)) (fun ρ e => ex_idx (q := j) (i := j) el36 (e _ _ rfl) (e _ _ rfl) (by omega) (by omega)) rfl rfl ?_
          refine wl_val (v := .int .i64 (((kidsL ts).count (j : Int) : Nat) : Int)) (fun ρ e => ex_load1 ty3 (e _ _ rfl) (O88.cell 1 j rfl (getI (cntL_get (kidsL ts) (by omega))))) rfl rfl ?_
          by_cases c94 : (((kidsL ts).count (j : Int) : Nat) : Int) ≠ 1
          · skip
            refine wl_val (v := .bool true) (fun ρ e => ex_cmp (u := (((kidsL ts).count (j : Int) : Nat) : Int)) (v := 1) (e _ _ rfl) (e _ _ rfl) (neq1 (by omega))) rfl rfl ?_
            refine wl_val (v := .bool true) (fun ρ e => ex_pick1 (e _ _ rfl) (e _ _ rfl)) rfl rfl ?_
            refine wl_nil ?_
            refine xw_next K92 ?_
            refine cw_true rfl ?_
            refine cw_seq (fun FK95 K95 => ?_)
            refine cw_region ?_
            refine wl_val (v := .int .i64 1) (fun ρ e => ex_assign (e _ _ rfl)) rfl rfl ?_
            refine wl_nil ?_
            refine xw_next K95 ?_
            refine cw_ret ?_
            refine xw_blockret ?_
            refine xw_past (by intro h; cases h) ?_
            refine xw_past (by intro h; cases h) ?_
            refine xw_blockret ?_
            refine xw_past (by intro h; cases h) ?_
            refine xw_ret (v := .int .i64 1) (fun T hT => res1 rfl T _ (hT 2 _ rfl)) ?_
            have hno : rokT ts = false := (Bool.eq_false_iff.2 fun q => absurd ((rcover_iff ts).1 (rokT_parts.1 q).2.2 j (by omega)) (by omega))
            exact ⟨by unfold rchkV; rw [hno]; rfl, O88.old⟩
          · skip
            refine wl_val (v := .bool false) (fun ρ e => ex_cmp (u := (((kidsL ts).count (j : Int) : Nat) : Int)) (v := 1) (e _ _ rfl) (e _ _ rfl) (neq0 (by omega))) rfl rfl ?_
            refine wl_val (v := .bool false) (fun ρ e => ex_pick1 (e _ _ rfl) (e _ _ rfl)) rfl rfl ?_
            refine wl_nil ?_
            refine xw_next K92 ?_
            refine cw_false rfl ?_
            refine cw_skip ?_
            refine xw_block ?_
            refine xw_next K91 ?_
            refine cw_region ?_
            refine wl_val (v := .int .i64 (j : Int)) (fun ρ e => ex_move (e _ _ rfl)) rfl rfl ?_
            refine wl_val (v := .int .i64 ((j + 1 : Nat) : Int)) (fun ρ e => ex_arith (k := .i64) (u := (j : Int)) (v := 1) (e _ _ rfl) (e _ _ rfl) (congrArg some ((congrArg _ (by omega)).trans (wrap_in (u := ((j + 1 : Nat) : Int)) (by omega) (by omega))))) rfl rfl ?_
            refine wl_val (v := .int .i64 ((j + 1 : Nat) : Int)) (fun ρ e => ex_assign (e _ _ rfl)) rfl rfl ?_
            refine wl_nil ?_
            refine xw_round K87 (j + 1) (by show ts.length - (j + 1) < ts.length - j; omega) ⟨(by show j + 1 ≤ _; omega), (fun k hk hk2 => by rcases Nat.lt_succ_iff_lt_or_eq.1 hk with h | h; exact hcv k h hk2; subst h; omega), O88⟩ ⟨rfl, rfl, rfl, trivial⟩
        · skip
          refine wl_val (v := .bool false) (fun ρ e => ex_cmp (u := (j : Int)) (v := ((ts.length - 1 : Nat) : Int)) (e _ _ rfl) (e _ _ rfl) (lss0 (by omega))) rfl rfl ?_
          refine wl_val (v := .bool false) (fun ρ e => ex_move (e _ _ rfl)) rfl rfl ?_
          refine wl_skip rfl rfl ?_
          refine wl_skip rfl rfl ?_
          refine wl_skip rfl rfl ?_
          refine wl_skip rfl rfl ?_
          refine wl_skip rfl rfl ?_
          refine wl_val (v := .bool false) (fun ρ e => ex_pick0 (e _ _ rfl) (e _ _ rfl)) rfl rfl ?_
          refine wl_nil ?_
          refine xw_next K92 ?_
          refine cw_false rfl ?_
          refine cw_skip ?_
          refine xw_block ?_
          refine xw_next K91 ?_
          refine cw_region ?_
          refine wl_val (v := .int .i64 (j : Int)) (fun ρ e => ex_move (e _ _ rfl)) rfl rfl ?_
          refine wl_val (v := .int .i64 ((j + 1 : Nat) : Int)) (fun ρ e => ex_arith (k := .i64) (u := (j : Int)) (v := 1) (e _ _ rfl) (e _ _ rfl) (congrArg some ((congrArg _ (by omega)).trans (wrap_in (u := ((j + 1 : Nat) : Int)) (by omega) (by omega))))) rfl rfl ?_
          refine wl_val (v := .int .i64 ((j + 1 : Nat) : Int)) (fun ρ e => ex_assign (e _ _ rfl)) rfl rfl ?_
          refine wl_nil ?_
          refine xw_round K87 (j + 1) (by show ts.length - (j + 1) < ts.length - j; omega) ⟨(by show j + 1 ≤ _; omega), (fun k hk hk2 => by rcases Nat.lt_succ_iff_lt_or_eq.1 hk with h | h; exact hcv k h hk2; subst h; omega), O88⟩ ⟨rfl, rfl, rfl, trivial⟩
      · have hcov : ∀ k, k < ts.length - 1 → (kidsL ts).count (k : Int) = 1 := fun k hk => hcv k (by omega) hk
        refine cw_seq (fun FK96 K96 => ?_)
        refine cw_seq (fun FK97 K97 => ?_)
        refine cw_region ?_
        refine wl_val (v := .int .i64 (j : Int)) (fun ρ e => ex_move (e _ _ rfl)) rfl rfl ?_
        refine wl_val (v := .slice (some ⟨b, o, none⟩) ts.length c) (fun ρ e => ex_move (e _ _ rfl)) rfl rfl ?_
        refine wl_val (v := .int .i64 ((ts.length : Nat) : Int)) (fun ρ e => ex_len el23 (e _ _ rfl)) rfl rfl ?_
        refine wl_val (v := .bool false) (fun ρ e => ex_cmp (u := (j : Int)) (v := ((ts.length : Nat) : Int)) (e _ _ rfl) (e _ _ rfl) (lss0 (by omega))) rfl rfl ?_
        refine wl_nil ?_
        refine xw_next K97 ?_
        refine cw_false rfl ?_
        refine cw_exit ?_
        refine xw_past (by intro h; cases h) ?_
        refine xw_past (by intro h; cases h) ?_
        refine xw_here ?_
        refine xw_next K83 ?_
        refine cw_seq (fun FK98 K98 => ?_)
        refine cw_region ?_
        refine wl_val (v := .int .i64 0) (fun ρ e => ex_assign (e _ _ rfl)) rfl rfl ?_
        refine wl_nil ?_
        refine xw_next K98 ?_
        refine cw_ret ?_
        refine xw_ret (v := .int .i64 0) (fun T hT => res1 rfl T _ (hT 2 _ rfl)) ?_
        have hok : rokT ts = true := rokT_parts.2 ⟨by omega, hpre, (rcover_iff ts).2 fun k hk => hcov k hk⟩
        exact ⟨by unfold rchkV; rw [hok]; rfl, O88.old⟩
end Go.Proofs.YtpeoodkepjhhiaaDoor
namespace Go.Proofs.YtpeoodkepjhhiaaDoor

def chainL (u : List Int) : Nat → Nat → List Int
  | 0, _ => []
  | n + 1, k => (k : Int) :: (match u[k]? with
    | none => []
    | some p => if p = -1 then [] else chainL u n p.toNat)
def chainOf (ts : List VN) (k : Nat) : List Int := chainL (parsOf ts) ts.length k
def firstIn (l m : List Int) : Int := match l.find? (fun x => decide (x ∈ m)) with
  | some x => x
  | none => -1
section
variable {ts : List VN}
theorem chain_fuel (hV : Val ts) : ∀ (n m k : Nat), ts.length ≤ k + n → ts.length ≤ k + m → k < ts.length → chainL (parsOf ts) n k = chainL (parsOf ts) m k
  | 0, _, k, h, _, hk => absurd h (by omega)
  | n + 1, 0, k, _, h, hk => absurd h (by omega)
  | n + 1, m + 1, k, h1, h2, hk => by
    unfold chainL
    by_cases e : k = ts.length - 1
    · subst e
      rw [par_last hV]
      rfl
    · obtain ⟨p, _, _, _, _, h3, h4, h5⟩ := par_get hV (k := k) (by omega)
      rw [h5]
      simp only [Int.toNat_natCast, if_neg (show ¬ (p : Int) = -1 by omega)]
      rw [chain_fuel hV n m p (by omega) (by omega) h4]
theorem chain_last (hV : Val ts) {n : Nat} (hn : 0 < n) : chainL (parsOf ts) n (ts.length - 1) = [((ts.length - 1 : Nat) : Int)] := by
  obtain ⟨n, rfl⟩ : ∃ m, n = m + 1 := ⟨n - 1, by omega⟩
  unfold chainL
  rw [par_last hV]
  rfl
theorem chain_step {n k p : Nat} (h : (parsOf ts)[k]? = some (p : Int)) : chainL (parsOf ts) (n + 1) k = (k : Int) :: chainL (parsOf ts) n p := by
  conv => lhs; unfold chainL
  rw [h]
  simp only [Int.toNat_natCast, if_neg (show ¬ (p : Int) = -1 by omega)]
theorem chain_up (hV : Val ts) {k p : Nat} (hp : p < ts.length) (hk : k < p) (h : (parsOf ts)[k]? = some (p : Int)) : chainOf ts k = (k : Int) :: chainOf ts p := by
  unfold chainOf
  rw [chain_fuel hV ts.length (ts.length + 1) k (by omega) (by omega) (by omega), chain_step h]
theorem chain_ge (hV : Val ts) : ∀ (n k : Nat), k < ts.length → ∀ x ∈ chainL (parsOf ts) n k, (k : Int) ≤ x
  | 0, _, _, x, h => by simp [chainL] at h
  | n + 1, k, hk, x, h => by
    unfold chainL at h
    by_cases e : k = ts.length - 1
    · subst e
      rw [par_last hV] at h
      simp at h; omega
    · obtain ⟨p, _, _, _, _, h3, h4, h5⟩ := par_get hV (k := k) (by omega)
      rw [h5] at h
      simp only [Int.toNat_natCast, if_neg (show ¬ (p : Int) = -1 by omega)] at h
      rcases List.mem_cons.1 h with rfl | h
      · omega
      · have := chain_ge hV n p h4 x h; omega
theorem chain_self (hV : Val ts) {k : Nat} (hk : k < ts.length) : (k : Int) ∈ chainOf ts k := by
  unfold chainOf
  obtain ⟨n, hn⟩ : ∃ m, ts.length = m + 1 := ⟨ts.length - 1, by omega⟩
  rw [hn]
  unfold chainL
  simp
theorem first_head {x : Int} {l m : List Int} (h : x ∈ m) : firstIn (x :: l) m = x := by simp [firstIn, h]
theorem first_skip {x : Int} {l m : List Int} (h : x ∉ m) : firstIn (x :: l) m = firstIn l m := by simp [firstIn, h]
theorem first_congr {l m m' : List Int} (h : ∀ x ∈ l, (x ∈ m ↔ x ∈ m')) : firstIn l m = firstIn l m' := by
  induction l with
  | nil => rfl
  | cons x l ih =>
    have hx := h x (by simp)
    have ih := ih (fun y hy => h y (by simp [hy]))
    by_cases hm : x ∈ m
    · rw [first_head hm, first_head (hx.1 hm)]
    · rw [first_skip hm, first_skip (fun q => hm (hx.2 q)), ih]
theorem climb_first (hV : Val ts) : ∀ (n a b : Nat), a < ts.length → b < ts.length → 2 * ts.length ≤ a + b + n → (climb (parsOf ts) n a b : Int) = firstIn (chainOf ts a) (chainOf ts b)
  | 0, a, b, ha, hb, h => absurd h (by omega)
  | n + 1, a, b, ha, hb, h => by
    unfold climb
    by_cases e : a = b
    · subst e
      rw [if_pos rfl]
      have hs := chain_self hV ha
      by_cases hl : a = ts.length - 1
      · subst hl
        have : chainOf ts (ts.length - 1) = [((ts.length - 1 : Nat) : Int)] := chain_last hV (by omega)
        rw [this, first_head (by simp)]
      · obtain ⟨p, _, _, _, _, h3, h4, h5⟩ := par_get hV (k := a) (by omega)
        rw [chain_up hV h4 h3 h5] at hs ⊢
        rw [first_head hs]
    · rw [if_neg e]
      by_cases hlt : a < b
      · rw [if_pos hlt]
        obtain ⟨p, _, _, _, _, h3, h4, h5⟩ := par_get hV (k := a) (by omega)
        rw [List.getD_eq_getElem?_getD, h5]
        have ih := climb_first hV n p b h4 hb (by omega)
        rw [chain_up hV h4 h3 h5, first_skip (fun q => by have := chain_ge hV _ b hb _ q; omega), ← ih]
        rfl
      · rw [if_neg hlt]
        obtain ⟨p, _, _, _, _, h3, h4, h5⟩ := par_get hV (k := b) (by omega)
        rw [List.getD_eq_getElem?_getD, h5]
        have ih := climb_first hV n a p ha h4 (by omega)
        have hc : firstIn (chainOf ts a) (chainOf ts b) = firstIn (chainOf ts a) (chainOf ts p) := first_congr fun x hx => by
          rw [chain_up hV h4 h3 h5, List.mem_cons]
          have := chain_ge hV _ a ha x hx
          constructor
          · rintro (rfl | h)
            · omega
            · exact h
          · exact .inr
        rw [hc, ← ih]
        rfl
theorem meet_first (hV : Val ts) (hok : okT ts = true) {a b : Nat} (ha : a < ts.length) (hb : b < ts.length) : meetOf ts (a : Int) (b : Int) = firstIn (chainOf ts a) (chainOf ts b) := by
  unfold meetOf
  rw [if_pos (by simp [hok] <;> omega), Int.toNat_natCast, Int.toNat_natCast]
  exact climb_first hV _ a b ha hb (by omega)
end
end Go.Proofs.YtpeoodkepjhhiaaDoor
namespace Go.Proofs.YtpeoodkepjhhiaaDoor
open Go Go.RowKit
theorem rcheck_ {W : World} {D : Nat → Prop} {V : Value} {ts : List VN} (hN : NodesD D W V ts) (hD : ∀ k, D k → k < W.heap.size) (hsz : ts.length ≤ 1000000) : Calls Tryd.prog 41 #[V] W fun e w' => e = .returned (.int .i64 (chkV ts)) ∧ Below W.heap.size W w' := by
  have h : rchkV ts = chkV ts := by unfold rchkV chkV; rw [rok_ok]
  exact h ▸ rcheck0 hN hD hsz
theorem rcheckb_ {W : World} {D : Nat → Prop} {V : Value} {ts : List VN} (hN : NodesD D W V ts) (hD : ∀ k, D k → k < W.heap.size) (hsz : ts.length ≤ 1000000) {r : Int} (h : chkV ts = r) : Calls Tryd.prog 41 #[V] W fun e w' => e = .returned (.int .i64 r) ∧ Below W.heap.size W w' := h ▸ rcheck_ hN hD hsz
theorem rparents_ok {W : World} {D : Nat → Prop} {b o c : Nat} {ts : List VN} (hN : NodesD D W (.slice (some ⟨b, o, none⟩) ts.length c) ts) (hD : ∀ k, D k → k < W.heap.size) (hok : okT ts = true) :
    Calls Tryd.prog 43 #[.slice (some ⟨b, o, none⟩) ts.length c] W fun e w' => ∃ g c', e = .returned (.slice (some ⟨g, 0, none⟩) ts.length c') ∧ Own Z0 W w' [.row (.slice (some ⟨g, 0, none⟩) ts.length c') 3 1 ts.length (intCs (parsOf ts))] := by
  have hV := okT_val hok
  have hpos := hV.pos
  have hle := hV.le
  have O0 : Own Z0 W W [.ro D (fun w => NodesD D w (.slice (some ⟨b, o, none⟩) ts.length c) ts)] := (Own.start W).oldro (D := D) (p := (fun w => NodesD D w (.slice (some ⟨b, o, none⟩) ts.length c) ts)) (nodesE_holds hN hD)
  refine sx_enter (args := [.slice (some ⟨b, o, none⟩) ts.length c]) Tryd.func43 rfl rfl (by simp) ?_
  refine cw_seq (fun FK1 K1 => ?_)
  refine cw_region ?_
  refine wl_val (v := .slice none 0 0) (fun ρ e => ex_assign (e _ _ rfl)) rfl rfl ?_
  refine wl_nil ?_
  refine xw_next K1 ?_
  refine cw_seq (fun FK2 K2 => ?_)
  refine cw_seq (fun FK3 K3 => ?_)
  refine cw_region ?_
  refine wl_val (v := .slice (some ⟨b, o, none⟩) ts.length c) (fun ρ e => ex_move (e _ _ rfl)) rfl rfl ?_
  refine wl_call (args := [.slice (some ⟨b, o, none⟩) ts.length c]) in_41 rfl rfl rfl ?_
  refine (rcheckb_ (hN.move (fun k hk => (O0.old).block k (hD k hk))) (fun k hk => Nat.lt_of_lt_of_le (hD k hk) (O0.old).size) (by omega) (chk_val hok)).mono ?_
  rintro _ w4 ⟨rfl, hb5⟩
  have O6 : Own Z0 W w4 [.ro D (fun w => NodesD D w (.slice (some ⟨b, o, none⟩) ts.length c) ts)] := O0.below hb5
  refine ⟨_, rfl, ?_⟩
  refine wl_val (v := .bool false) (fun ρ e => ex_cmp (u := 0) (v := 0) (e _ _ rfl) (e _ _ rfl) (neq0 (by omega))) rfl rfl ?_
  refine wl_nil ?_
  refine xw_next K3 ?_
  refine cw_false rfl ?_
  refine cw_skip ?_
  refine xw_next K2 ?_
  refine cw_seq (fun FK7 K7 => ?_)
  refine cw_region ?_
  refine wl_val (v := .slice (some ⟨b, o, none⟩) ts.length c) (fun ρ e => ex_move (e _ _ rfl)) rfl rfl ?_
  refine wl_val (v := .int .i64 ((ts.length : Nat) : Int)) (fun ρ e => ex_len el23 (e _ _ rfl)) rfl rfl ?_
  obtain ⟨g8, w9, r10, O11, hg12, hs13⟩ := own_make1 O6 ap36 rfl ts.length (by decide) (by omega) (cs := (intCs (List.replicate ts.length 0)).toArray) (by simp [intCs])
  refine wl_val (v := .slice (some ⟨g8, 0, none⟩) ts.length ts.length) (fun ρ e => r10 ρ _ _ _ _ _ _ _ (e _ _ rfl) (e _ _ rfl)) rfl rfl ?_
  refine wl_val (v := .slice (some ⟨g8, 0, none⟩) ts.length ts.length) (fun ρ e => ex_assign (e _ _ rfl)) rfl rfl ?_
  refine wl_nil ?_
  refine xw_next K7 ?_
  refine cw_seq (fun FK14 K14 => ?_)
  refine cw_region ?_
  refine wl_val (v := .slice (some ⟨g8, 0, none⟩) ts.length ts.length) (fun ρ e => ex_move (e _ _ rfl)) rfl rfl ?_
  refine wl_val (v := .slice (some ⟨b, o, none⟩) ts.length c) (fun ρ e => ex_move (e _ _ rfl)) rfl rfl ?_
  refine wl_val (v := .int .i64 ((ts.length : Nat) : Int)) (fun ρ e => ex_len el23 (e _ _ rfl)) rfl rfl ?_
  refine wl_val (v := .int .i64 ((ts.length - 1 : Nat) : Int)) (fun ρ e => ex_arith (k := .i64) (u := ((ts.length : Nat) : Int)) (v := 1) (e _ _ rfl) (e _ _ rfl) (congrArg some ((congrArg _ (show _ = ((ts.length - 1 : Nat) : Int) by omega)).trans (wrap_in (by omega) (by omega))))) rfl rfl ?_
  refine wl_val (v := .pointer (some ⟨g8, (ts.length - 1), none⟩)) (fun ρ e => ex_idx (q := (ts.length - 1)) (i := ts.length - 1) el36 (e _ _ rfl) (e _ _ rfl) (by omega) (by omega)) rfl rfl ?_
  obtain ⟨w15, r16, O17, hs18⟩ := own_put (o := (ts.length - 1)) (n := 1) O11 ty3 (.int .i64 (-1)) [.int .i64 (-1)] (cs' := (intCs ((List.replicate ts.length 0).set (ts.length - 1) (-1))).toArray) rfl rfl rfl (by simp [intCs, upAt_len, upAtR_len] <;> omega) (setI _ (ts.length - 1) (-1))
  refine wl_none (fun ρ e => r16 ρ _ _ _ _ _ _ (e _ _ rfl) (e _ _ rfl)) rfl ?_
  refine wl_nil ?_
  refine xw_next K14 ?_
  refine cw_seq (fun FK19 K19 => ?_)
  refine cw_seq (fun FK20 K20 => ?_)
  refine cw_region ?_
  refine wl_val (v := .int .i64 0) (fun ρ e => ex_assign (e _ _ rfl)) rfl rfl ?_
  refine wl_nil ?_
  refine xw_next K20 ?_
  refine cw_block ?_
  have O21 : Own Z0 W w15 [.blk g8 3 ((intCs (upAtR ts 0)).toArray), .ro D (fun w => NodesD D w (.slice (some ⟨b, o, none⟩) ts.length c) ts)] := by rw [← upAtR_zero hV]; exact O17
  refine cw_loop (ι := Nat) (fun q => [(0, .slice (some ⟨b, o, none⟩) ts.length c), (3, .slice (some ⟨g8, 0, none⟩) ts.length ts.length), (4, .int .i64 (q : Int))]) (fun q X => (q ≤ ts.length) ∧ Own Z0 W X [.blk g8 3 ((intCs (upAtR ts q)).toArray), .ro D (fun w => NodesD D w (.slice (some ⟨b, o, none⟩) ts.length c) ts)]) (fun q => ts.length - q) 0 ⟨Nat.zero_le _, O21⟩ ⟨rfl, rfl, rfl, trivial⟩ (fun q w22 hJ F23 K24 => ?_)
  obtain ⟨i, rfl⟩ : ∃ x, x = q := ⟨_, rfl⟩
  obtain ⟨hi0, O25⟩ := hJ
  try dsimp only at hi0 O25 ⊢
  by_cases hi : i < ts.length
  · skip
    rcases hV.kind i _ (List.getElem?_eq_getElem hi) with ⟨v, hx0, h1, h2⟩ | ⟨a, b2, hx0, ha, hb, hab⟩
    · skip
      have hx : ts[i]? = some ⟨-1, -1, v⟩ := by rw [List.getElem?_eq_getElem hi, hx0]
      have hlf : (!(lf (VN.mk (-1) (-1) v))) = false := by rw [lf_leaf h1 h2]; rfl
      refine cw_seq (fun FK26 K26 => ?_)
      refine cw_seq (fun FK27 K27 => ?_)
      refine cw_region ?_
      refine wl_val (v := .int .i64 (i : Int)) (fun ρ e => ex_move (e _ _ rfl)) rfl rfl ?_
      refine wl_val (v := .slice (some ⟨b, o, none⟩) ts.length c) (fun ρ e => ex_move (e _ _ rfl)) rfl rfl ?_
      refine wl_val (v := .int .i64 ((ts.length : Nat) : Int)) (fun ρ e => ex_len el23 (e _ _ rfl)) rfl rfl ?_
      refine wl_val (v := .bool true) (fun ρ e => ex_cmp (u := (i : Int)) (v := ((ts.length : Nat) : Int)) (e _ _ rfl) (e _ _ rfl) (lss1 (by omega))) rfl rfl ?_
      refine wl_nil ?_
      refine xw_next K27 ?_
      refine cw_true rfl ?_
      refine cw_skip ?_
      refine xw_next K26 ?_
      refine cw_seq (fun FK28 K28 => ?_)
      refine cw_block ?_
      refine cw_seq (fun FK29 K29 => ?_)
      refine cw_region ?_
      refine wl_val (v := .slice (some ⟨b, o, none⟩) ts.length c) (fun ρ e => ex_move (e _ _ rfl)) rfl rfl ?_
      refine wl_val (v := .int .i64 (i : Int)) (fun ρ e => ex_move (e _ _ rfl)) rfl rfl ?_
      refine wl_val (v := .pointer (some ⟨b, o + i * 3, none⟩)) (fun ρ e => ex_idx (q := o + i * 3) (i := i) el23 (e _ _ rfl) (e _ _ rfl) (by omega) (by omega)) rfl rfl ?_
      refine wl_val (v := .agg #[.int .i64 (-1), .int .i64 (-1), .int .i64 v]) (fun ρ e => ex_loadN (vs := [.int .i64 (-1), .int .i64 (-1), .int .i64 v]) ty38 (e _ _ rfl) rfl (cells3 (NodesD.c0 ((O25.ro 1 rfl : (fun w => NodesD D w (.slice (some ⟨b, o, none⟩) ts.length c) ts) _) : NodesD _ _ _ _) hx) (NodesD.c1 ((O25.ro 1 rfl : (fun w => NodesD D w (.slice (some ⟨b, o, none⟩) ts.length c) ts) _) : NodesD _ _ _ _) hx) (NodesD.c2 ((O25.ro 1 rfl : (fun w => NodesD D w (.slice (some ⟨b, o, none⟩) ts.length c) ts) _) : NodesD _ _ _ _) hx))) rfl rfl ?_
      refine wl_call (args := [.agg #[.int .i64 (-1), .int .i64 (-1), .int .i64 v]]) in_72 rfl rfl rfl ?_
      refine (rleaf_ (VN.mk (-1) (-1) v) (W := w22)).mono ?_
      rintro _ w30 ⟨rfl, hb31⟩
      have O32 : Own Z0 W w30 [.blk g8 3 ((intCs (upAtR ts i)).toArray), .ro D (fun w => NodesD D w (.slice (some ⟨b, o, none⟩) ts.length c) ts)] := O25.below hb31
      refine ⟨_, rfl, ?_⟩
      refine wl_val (v := .bool (!(lf (VN.mk (-1) (-1) v)))) (fun ρ e => ex_lnot (b := (lf (VN.mk (-1) (-1) v))) (e _ _ rfl)) rfl rfl ?_
      refine wl_nil ?_
      refine xw_next K29 ?_
      refine cw_false (congrArg (fun b => some (Value.bool b)) hlf) ?_
      refine cw_skip ?_
      refine xw_block ?_
      refine xw_next K28 ?_
      refine cw_region ?_
      refine wl_val (v := .int .i64 (i : Int)) (fun ρ e => ex_move (e _ _ rfl)) rfl rfl ?_
      refine wl_val (v := .int .i64 ((i + 1 : Nat) : Int)) (fun ρ e => ex_arith (k := .i64) (u := (i : Int)) (v := 1) (e _ _ rfl) (e _ _ rfl) (congrArg some ((congrArg _ (by omega)).trans (wrap_in (u := ((i + 1 : Nat) : Int)) (by omega) (by omega))))) rfl rfl ?_
      refine wl_val (v := .int .i64 ((i + 1 : Nat) : Int)) (fun ρ e => ex_assign (e _ _ rfl)) rfl rfl ?_
      refine wl_nil ?_
      have O33 : Own Z0 W w30 [.blk g8 3 ((intCs (upAtR ts (i + 1))).toArray), .ro D (fun w => NodesD D w (.slice (some ⟨b, o, none⟩) ts.length c) ts)] := by rw [← upAtR_leaf hx h1 h2]; exact O32
      refine xw_round K24 (i + 1) (by show ts.length - (i + 1) < ts.length - i; omega) ⟨(by show i + 1 ≤ ts.length; omega), O33⟩ ⟨rfl, rfl, rfl, trivial⟩
    · skip
      have hx : ts[i]? = some ⟨(a : Int), (b2 : Int), 0⟩ := by rw [List.getElem?_eq_getElem hi, hx0]
      have hlf : (!(lf (VN.mk (a : Int) (b2 : Int) 0))) = true := by rw [lf_inner a b2]; rfl
      refine cw_seq (fun FK34 K34 => ?_)
      refine cw_seq (fun FK35 K35 => ?_)
      refine cw_region ?_
      refine wl_val (v := .int .i64 (i : Int)) (fun ρ e => ex_move (e _ _ rfl)) rfl rfl ?_
      refine wl_val (v := .slice (some ⟨b, o, none⟩) ts.length c) (fun ρ e => ex_move (e _ _ rfl)) rfl rfl ?_
      refine wl_val (v := .int .i64 ((ts.length : Nat) : Int)) (fun ρ e => ex_len el23 (e _ _ rfl)) rfl rfl ?_
      refine wl_val (v := .bool true) (fun ρ e => ex_cmp (u := (i : Int)) (v := ((ts.length : Nat) : Int)) (e _ _ rfl) (e _ _ rfl) (lss1 (by omega))) rfl rfl ?_
      refine wl_nil ?_
      refine xw_next K35 ?_
      refine cw_true rfl ?_
      refine cw_skip ?_
      refine xw_next K34 ?_
      refine cw_seq (fun FK36 K36 => ?_)
      refine cw_block ?_
      refine cw_seq (fun FK37 K37 => ?_)
      refine cw_region ?_
      refine wl_val (v := .slice (some ⟨b, o, none⟩) ts.length c) (fun ρ e => ex_move (e _ _ rfl)) rfl rfl ?_
      refine wl_val (v := .int .i64 (i : Int)) (fun ρ e => ex_move (e _ _ rfl)) rfl rfl ?_
      refine wl_val (v := .pointer (some ⟨b, o + i * 3, none⟩)) (fun ρ e => ex_idx (q := o + i * 3) (i := i) el23 (e _ _ rfl) (e _ _ rfl) (by omega) (by omega)) rfl rfl ?_
      refine wl_val (v := .agg #[.int .i64 (a : Int), .int .i64 (b2 : Int), .int .i64 0]) (fun ρ e => ex_loadN (vs := [.int .i64 (a : Int), .int .i64 (b2 : Int), .int .i64 0]) ty38 (e _ _ rfl) rfl (cells3 (NodesD.c0 ((O25.ro 1 rfl : (fun w => NodesD D w (.slice (some ⟨b, o, none⟩) ts.length c) ts) _) : NodesD _ _ _ _) hx) (NodesD.c1 ((O25.ro 1 rfl : (fun w => NodesD D w (.slice (some ⟨b, o, none⟩) ts.length c) ts) _) : NodesD _ _ _ _) hx) (NodesD.c2 ((O25.ro 1 rfl : (fun w => NodesD D w (.slice (some ⟨b, o, none⟩) ts.length c) ts) _) : NodesD _ _ _ _) hx))) rfl rfl ?_
      refine wl_call (args := [.agg #[.int .i64 (a : Int), .int .i64 (b2 : Int), .int .i64 0]]) in_72 rfl rfl rfl ?_
      refine (rleaf_ (VN.mk (a : Int) (b2 : Int) 0) (W := w22)).mono ?_
      rintro _ w38 ⟨rfl, hb39⟩
      have O40 : Own Z0 W w38 [.blk g8 3 ((intCs (upAtR ts i)).toArray), .ro D (fun w => NodesD D w (.slice (some ⟨b, o, none⟩) ts.length c) ts)] := O25.below hb39
      refine ⟨_, rfl, ?_⟩
      refine wl_val (v := .bool (!(lf (VN.mk (a : Int) (b2 : Int) 0)))) (fun ρ e => ex_lnot (b := (lf (VN.mk (a : Int) (b2 : Int) 0))) (e _ _ rfl)) rfl rfl ?_
      refine wl_nil ?_
      refine xw_next K37 ?_
      refine cw_true (congrArg (fun b => some (Value.bool b)) hlf) ?_
      refine cw_seq (fun FK41 K41 => ?_)
      refine cw_region ?_
      refine wl_val (v := .slice (some ⟨g8, 0, none⟩) ts.length ts.length) (fun ρ e => ex_move (e _ _ rfl)) rfl rfl ?_
      refine wl_val (v := .slice (some ⟨b, o, none⟩) ts.length c) (fun ρ e => ex_move (e _ _ rfl)) rfl rfl ?_
      refine wl_val (v := .int .i64 (i : Int)) (fun ρ e => ex_move (e _ _ rfl)) rfl rfl ?_
      refine wl_val (v := .pointer (some ⟨b, o + i * 3, none⟩)) (fun ρ e => ex_idx (q := o + i * 3) (i := i) el23 (e _ _ rfl) (e _ _ rfl) (by omega) (by omega)) rfl rfl ?_
      refine wl_val (v := .pointer (some ⟨b, o + i * 3, none⟩)) (fun ρ e => ex_field (q := o + i * 3) fi38_0 (e _ _ rfl) rfl) rfl rfl ?_
      refine wl_val (v := .int .i64 (a : Int)) (fun ρ e => ex_load1 ty3 (e _ _ rfl) (NodesD.c0 ((O40.ro 1 rfl : (fun w => NodesD D w (.slice (some ⟨b, o, none⟩) ts.length c) ts) _) : NodesD _ _ _ _) hx)) rfl rfl ?_
      refine wl_val (v := .int .i64 (i : Int)) (fun ρ e => ex_move (e _ _ rfl)) rfl rfl ?_
      refine wl_val (v := .pointer (some ⟨g8, a, none⟩)) (fun ρ e => ex_idx (q := a) (i := a) el36 (e _ _ rfl) (e _ _ rfl) (by omega) (by omega)) rfl rfl ?_
      obtain ⟨w42, r43, O44, hs45⟩ := own_put (o := a) (n := 1) O40 ty3 (.int .i64 (i : Int)) [.int .i64 (i : Int)] (cs' := (intCs ((upAtR ts i).set a (i : Int))).toArray) rfl rfl rfl (by simp [intCs, upAt_len, upAtR_len] <;> omega) (setI _ a (i : Int))
      refine wl_none (fun ρ e => r43 ρ _ _ _ _ _ _ (e _ _ rfl) (e _ _ rfl)) rfl ?_
      refine wl_nil ?_
      refine xw_next K41 ?_
      refine cw_region ?_
      refine wl_val (v := .slice (some ⟨g8, 0, none⟩) ts.length ts.length) (fun ρ e => ex_move (e _ _ rfl)) rfl rfl ?_
      refine wl_val (v := .slice (some ⟨b, o, none⟩) ts.length c) (fun ρ e => ex_move (e _ _ rfl)) rfl rfl ?_
      refine wl_val (v := .int .i64 (i : Int)) (fun ρ e => ex_move (e _ _ rfl)) rfl rfl ?_
      refine wl_val (v := .pointer (some ⟨b, o + i * 3, none⟩)) (fun ρ e => ex_idx (q := o + i * 3) (i := i) el23 (e _ _ rfl) (e _ _ rfl) (by omega) (by omega)) rfl rfl ?_
      refine wl_val (v := .pointer (some ⟨b, o + i * 3 + 1, none⟩)) (fun ρ e => ex_field (q := o + i * 3 + 1) fi38_1 (e _ _ rfl) rfl) rfl rfl ?_
      refine wl_val (v := .int .i64 (b2 : Int)) (fun ρ e => ex_load1 ty3 (e _ _ rfl) (NodesD.c1 ((O44.ro 1 rfl : (fun w => NodesD D w (.slice (some ⟨b, o, none⟩) ts.length c) ts) _) : NodesD _ _ _ _) hx)) rfl rfl ?_
      refine wl_val (v := .int .i64 (i : Int)) (fun ρ e => ex_move (e _ _ rfl)) rfl rfl ?_
      refine wl_val (v := .pointer (some ⟨g8, b2, none⟩)) (fun ρ e => ex_idx (q := b2) (i := b2) el36 (e _ _ rfl) (e _ _ rfl) (by omega) (by omega)) rfl rfl ?_
      obtain ⟨w46, r47, O48, hs49⟩ := own_put (o := b2) (n := 1) O44 ty3 (.int .i64 (i : Int)) [.int .i64 (i : Int)] (cs' := (intCs (((upAtR ts i).set a (i : Int)).set b2 (i : Int))).toArray) rfl rfl rfl (by simp [intCs, upAt_len, upAtR_len] <;> omega) (setI _ b2 (i : Int))
      refine wl_none (fun ρ e => r47 ρ _ _ _ _ _ _ (e _ _ rfl) (e _ _ rfl)) rfl ?_
      refine wl_nil ?_
      refine xw_block ?_
      refine xw_next K36 ?_
      refine cw_region ?_
      refine wl_val (v := .int .i64 (i : Int)) (fun ρ e => ex_move (e _ _ rfl)) rfl rfl ?_
      refine wl_val (v := .int .i64 ((i + 1 : Nat) : Int)) (fun ρ e => ex_arith (k := .i64) (u := (i : Int)) (v := 1) (e _ _ rfl) (e _ _ rfl) (congrArg some ((congrArg _ (by omega)).trans (wrap_in (u := ((i + 1 : Nat) : Int)) (by omega) (by omega))))) rfl rfl ?_
      refine wl_val (v := .int .i64 ((i + 1 : Nat) : Int)) (fun ρ e => ex_assign (e _ _ rfl)) rfl rfl ?_
      refine wl_nil ?_
      have O50 : Own Z0 W w46 [.blk g8 3 ((intCs (upAtR ts (i + 1))).toArray), .ro D (fun w => NodesD D w (.slice (some ⟨b, o, none⟩) ts.length c) ts)] := by rw [← upAtR_node hV hx]; exact O48
      refine xw_round K24 (i + 1) (by show ts.length - (i + 1) < ts.length - i; omega) ⟨(by show i + 1 ≤ ts.length; omega), O50⟩ ⟨rfl, rfl, rfl, trivial⟩
  · have hie : i = ts.length := by omega
    rw [hie, upAtR_all hV] at O25
    refine cw_seq (fun FK51 K51 => ?_)
    refine cw_seq (fun FK52 K52 => ?_)
    refine cw_region ?_
    refine wl_val (v := .int .i64 (i : Int)) (fun ρ e => ex_move (e _ _ rfl)) rfl rfl ?_
    refine wl_val (v := .slice (some ⟨b, o, none⟩) ts.length c) (fun ρ e => ex_move (e _ _ rfl)) rfl rfl ?_
    refine wl_val (v := .int .i64 ((ts.length : Nat) : Int)) (fun ρ e => ex_len el23 (e _ _ rfl)) rfl rfl ?_
    refine wl_val (v := .bool false) (fun ρ e => ex_cmp (u := (i : Int)) (v := ((ts.length : Nat) : Int)) (e _ _ rfl) (e _ _ rfl) (lss0 (by omega))) rfl rfl ?_
    refine wl_nil ?_
    refine xw_next K52 ?_
    refine cw_false rfl ?_
    refine cw_exit ?_
    refine xw_past (by intro h; cases h) ?_
    refine xw_past (by intro h; cases h) ?_
    refine xw_here ?_
    refine xw_next K19 ?_
    refine cw_seq (fun FK53 K53 => ?_)
    refine cw_region ?_
    refine wl_val (v := .slice (some ⟨g8, 0, none⟩) ts.length ts.length) (fun ρ e => ex_move (e _ _ rfl)) rfl rfl ?_
    refine wl_val (v := .slice (some ⟨g8, 0, none⟩) ts.length ts.length) (fun ρ e => ex_assign (e _ _ rfl)) rfl rfl ?_
    refine wl_nil ?_
    refine xw_next K53 ?_
    refine cw_ret ?_
    refine xw_ret (v := .slice (some ⟨g8, 0, none⟩) ts.length ts.length) (fun T hT => res1 rfl T _ (hT 2 _ rfl)) ?_
    have O54 := Own.blkrow (xs := intCs (parsOf ts)) (n := ts.length) (O25.re [0] rfl : Own Z0 W w22 [.blk g8 3 ((intCs (parsOf ts)).toArray)]) rfl (by simp [intCs, parsOf_len]) (by omega)
    exact ⟨g8, ts.length, rfl, O54⟩
theorem rparents_no {W : World} {D : Nat → Prop} {V : Value} {ts : List VN} (hN : NodesD D W V ts) (hD : ∀ k, D k → k < W.heap.size) (hsz : ts.length ≤ 1000000) (hok : okT ts = false) : Calls Tryd.prog 43 #[V] W fun e w' => e = .returned (.slice none 0 0) ∧ Below W.heap.size W w' := by
  obtain ⟨A, c, rfl⟩ := hN.slice
  have O0 : Own Z0 W W [] := Own.start W
  refine sx_enter (args := [.slice A ts.length c]) Tryd.func43 rfl rfl (by simp) ?_
  refine cw_seq (fun FK1 K1 => ?_)
  refine cw_region ?_
  refine wl_val (v := .slice none 0 0) (fun ρ e => ex_assign (e _ _ rfl)) rfl rfl ?_
  refine wl_nil ?_
  refine xw_next K1 ?_
  refine cw_seq (fun FK2 K2 => ?_)
  refine cw_seq (fun FK3 K3 => ?_)
  refine cw_region ?_
  refine wl_val (v := .slice A ts.length c) (fun ρ e => ex_move (e _ _ rfl)) rfl rfl ?_
  refine wl_call (args := [.slice A ts.length c]) in_41 rfl rfl rfl ?_
  refine (rcheckb_ (hN.move (fun k hk => (O0.old).block k (hD k hk))) (fun k hk => Nat.lt_of_lt_of_le (hD k hk) (O0.old).size) (by omega) (chk_val hok)).mono ?_
  rintro _ w4 ⟨rfl, hb5⟩
  have O6 : Own Z0 W w4 [] := O0.below hb5
  refine ⟨_, rfl, ?_⟩
  refine wl_val (v := .bool true) (fun ρ e => ex_cmp (u := 1) (v := 0) (e _ _ rfl) (e _ _ rfl) (neq1 (by omega))) rfl rfl ?_
  refine wl_nil ?_
  refine xw_next K3 ?_
  refine cw_true rfl ?_
  refine cw_seq (fun FK7 K7 => ?_)
  refine cw_region ?_
  refine wl_val (v := .slice none 0 0) (fun ρ e => ex_assign (e _ _ rfl)) rfl rfl ?_
  refine wl_nil ?_
  refine xw_next K7 ?_
  refine cw_ret ?_
  refine xw_past (by intro h; cases h) ?_
  refine xw_ret (v := .slice none 0 0) (fun T hT => res1 rfl T _ (hT 2 _ rfl)) ?_
  exact ⟨rfl, O6.old⟩
theorem contains_ {W : World} {D : Nat → Prop} {V : Value} {l : List Int} (hI : IntsD D W V l) (hD : ∀ k, D k → k < W.heap.size) (hsz : l.length ≤ 1000000) (x : Int) :
    Calls Tryd.prog 49 #[V, .int .i64 x] W fun e w' => e = .returned (.bool (decide (x ∈ l))) ∧ Below W.heap.size W w' := by
  obtain ⟨A, c, rfl⟩ := hI.slice
  rcases Nat.eq_zero_or_pos l.length with h0 | h0
  · skip
    have O0 : Own Z0 W W [] := Own.start W
    refine sx_enter (args := [.slice A l.length c, .int .i64 x]) Tryd.func49 rfl rfl (by simp) ?_
    refine cw_seq (fun FK1 K1 => ?_)
    refine cw_region ?_
    refine wl_val (v := .bool false) (fun ρ e => ex_assign (e _ _ rfl)) rfl rfl ?_
    refine wl_nil ?_
    refine xw_next K1 ?_
    refine cw_seq (fun FK2 K2 => ?_)
    refine cw_seq (fun FK3 K3 => ?_)
    refine cw_region ?_
    refine wl_val (v := .int .i64 0) (fun ρ e => ex_assign (e _ _ rfl)) rfl rfl ?_
    refine wl_nil ?_
    refine xw_next K3 ?_
    refine cw_block ?_
    refine cw_loop (ι := Nat) (fun q => [(0, .slice A l.length c), (1, .int .i64 x), (5, .int .i64 (q : Int))]) (fun q X => (q ≤ l.length) ∧ (∀ (j : Nat) (w : Int), j < q → l[j]? = some w → w ≠ x) ∧ Own Z0 W X []) (fun q => l.length - q) 0 ⟨Nat.zero_le _, (fun j w h => absurd h (Nat.not_lt_zero j)), O0⟩ ⟨rfl, rfl, rfl, trivial⟩ (fun q w4 hJ F5 K6 => ?_)
    obtain ⟨i, rfl⟩ : ∃ x, x = q := ⟨_, rfl⟩
    obtain ⟨hi0, hnx, O7⟩ := hJ
    try dsimp only at hi0 hnx O7 ⊢
    by_cases hi : i < l.length
    · skip
      exact absurd hi (by omega)
    · have hie : i = l.length := by omega
      refine cw_seq (fun FK8 K8 => ?_)
      refine cw_seq (fun FK9 K9 => ?_)
      refine cw_region ?_
      refine wl_val (v := .int .i64 (i : Int)) (fun ρ e => ex_move (e _ _ rfl)) rfl rfl ?_
      refine wl_val (v := .slice A l.length c) (fun ρ e => ex_move (e _ _ rfl)) rfl rfl ?_
      refine wl_val (v := .int .i64 ((l.length : Nat) : Int)) (fun ρ e => ex_len el36 (e _ _ rfl)) rfl rfl ?_
      refine wl_val (v := .bool false) (fun ρ e => ex_cmp (u := (i : Int)) (v := ((l.length : Nat) : Int)) (e _ _ rfl) (e _ _ rfl) (lss0 (by omega))) rfl rfl ?_
      refine wl_nil ?_
      refine xw_next K9 ?_
      refine cw_false rfl ?_
      refine cw_exit ?_
      refine xw_past (by intro h; cases h) ?_
      refine xw_past (by intro h; cases h) ?_
      refine xw_here ?_
      refine xw_next K2 ?_
      refine cw_seq (fun FK10 K10 => ?_)
      refine cw_region ?_
      refine wl_val (v := .bool false) (fun ρ e => ex_assign (e _ _ rfl)) rfl rfl ?_
      refine wl_nil ?_
      refine xw_next K10 ?_
      refine cw_ret ?_
      refine xw_ret (v := .bool false) (fun T hT => res1 rfl T _ (hT 4 _ rfl)) ?_
      have hr : decide (x ∈ l) = false := decide_eq_false fun q => by obtain ⟨j, hj⟩ := List.mem_iff_getElem?.1 q; exact hnx j x (by have := (List.getElem?_eq_some_iff.1 hj).1; omega) hj rfl
      rw [hr]
      exact ⟨rfl, O7.old⟩
  · obtain ⟨b, o, c', hv0⟩ := hI.form h0
    injection hv0 with hA _ hc
    subst hA hc
    have O0 : Own Z0 W W [.ro D (fun w => IntsD D w (.slice (some ⟨b, o, none⟩) l.length c) l)] := (Own.start W).oldro (D := D) (p := (fun w => IntsD D w (.slice (some ⟨b, o, none⟩) l.length c) l)) (inE_holds hI hD)
    refine sx_enter (args := [.slice (some ⟨b, o, none⟩) l.length c, .int .i64 x]) Tryd.func49 rfl rfl (by simp) ?_
    refine cw_seq (fun FK11 K11 => ?_)
    refine cw_region ?_
    refine wl_val (v := .bool false) (fun ρ e => ex_assign (e _ _ rfl)) rfl rfl ?_
    refine wl_nil ?_
    refine xw_next K11 ?_
    refine cw_seq (fun FK12 K12 => ?_)
    refine cw_seq (fun FK13 K13 => ?_)
    refine cw_region ?_
    refine wl_val (v := .int .i64 0) (fun ρ e => ex_assign (e _ _ rfl)) rfl rfl ?_
    refine wl_nil ?_
    refine xw_next K13 ?_
    refine cw_block ?_
    refine cw_loop (ι := Nat) (fun q => [(0, .slice (some ⟨b, o, none⟩) l.length c), (1, .int .i64 x), (5, .int .i64 (q : Int))]) (fun q X => (q ≤ l.length) ∧ (∀ (j : Nat) (w : Int), j < q → l[j]? = some w → w ≠ x) ∧ Own Z0 W X [.ro D (fun w => IntsD D w (.slice (some ⟨b, o, none⟩) l.length c) l)]) (fun q => l.length - q) 0 ⟨Nat.zero_le _, (fun j w h => absurd h (Nat.not_lt_zero j)), O0⟩ ⟨rfl, rfl, rfl, trivial⟩ (fun q w14 hJ F15 K16 => ?_)
    obtain ⟨i, rfl⟩ : ∃ x, x = q := ⟨_, rfl⟩
    obtain ⟨hi0, hnx, O17⟩ := hJ
    try dsimp only at hi0 hnx O17 ⊢
    by_cases hi : i < l.length
    · skip
      obtain ⟨v, hv⟩ : ∃ v, l[i]? = some v := ⟨l[i], List.getElem?_eq_getElem hi⟩
      refine cw_seq (fun FK18 K18 => ?_)
      refine cw_seq (fun FK19 K19 => ?_)
      refine cw_region ?_
      refine wl_val (v := .int .i64 (i : Int)) (fun ρ e => ex_move (e _ _ rfl)) rfl rfl ?_
      refine wl_val (v := .slice (some ⟨b, o, none⟩) l.length c) (fun ρ e => ex_move (e _ _ rfl)) rfl rfl ?_
      refine wl_val (v := .int .i64 ((l.length : Nat) : Int)) (fun ρ e => ex_len el36 (e _ _ rfl)) rfl rfl ?_
      refine wl_val (v := .bool true) (fun ρ e => ex_cmp (u := (i : Int)) (v := ((l.length : Nat) : Int)) (e _ _ rfl) (e _ _ rfl) (lss1 (by omega))) rfl rfl ?_
      refine wl_nil ?_
      refine xw_next K19 ?_
      refine cw_true rfl ?_
      refine cw_skip ?_
      refine xw_next K18 ?_
      refine cw_seq (fun FK20 K20 => ?_)
      refine cw_block ?_
      refine cw_seq (fun FK21 K21 => ?_)
      refine cw_region ?_
      refine wl_val (v := .slice (some ⟨b, o, none⟩) l.length c) (fun ρ e => ex_move (e _ _ rfl)) rfl rfl ?_
      refine wl_val (v := .int .i64 (i : Int)) (fun ρ e => ex_move (e _ _ rfl)) rfl rfl ?_
      refine wl_val (v := .pointer (some ⟨b, o + i, none⟩)) (fun ρ e => ex_idx (q := o + i) (i := i) el36 (e _ _ rfl) (e _ _ rfl) (by omega) (by omega)) rfl rfl ?_
      refine wl_val (v := .int .i64 v) (fun ρ e => ex_load1 ty3 (e _ _ rfl) (IntsD.cellq ((O17.ro 0 rfl) : IntsD _ _ (.slice (some ⟨b, o, none⟩) l.length c) l) hv)) rfl rfl ?_
      refine wl_val (v := .int .i64 x) (fun ρ e => ex_move (e _ _ rfl)) rfl rfl ?_
      by_cases c22 : v = x
      · skip
        refine wl_val (v := .bool true) (fun ρ e => ex_cmp (u := v) (v := x) (e _ _ rfl) (e _ _ rfl) (eql1 (by omega))) rfl rfl ?_
        refine wl_nil ?_
        refine xw_next K21 ?_
        refine cw_true rfl ?_
        refine cw_seq (fun FK23 K23 => ?_)
        refine cw_region ?_
        refine wl_val (v := .bool true) (fun ρ e => ex_assign (e _ _ rfl)) rfl rfl ?_
        refine wl_nil ?_
        refine xw_next K23 ?_
        refine cw_ret ?_
        refine xw_blockret ?_
        refine xw_past (by intro h; cases h) ?_
        refine xw_past (by intro h; cases h) ?_
        refine xw_blockret ?_
        refine xw_past (by intro h; cases h) ?_
        refine xw_ret (v := .bool true) (fun T hT => res1 rfl T _ (hT 4 _ rfl)) ?_
        have hr : decide (x ∈ l) = true := decide_eq_true (List.mem_iff_getElem?.2 ⟨i, by rw [hv]; exact congrArg some (by omega)⟩)
        rw [hr]
        exact ⟨rfl, O17.old⟩
      · skip
        refine wl_val (v := .bool false) (fun ρ e => ex_cmp (u := v) (v := x) (e _ _ rfl) (e _ _ rfl) (eql0 (by omega))) rfl rfl ?_
        refine wl_nil ?_
        refine xw_next K21 ?_
        refine cw_false rfl ?_
        refine cw_skip ?_
        refine xw_block ?_
        refine xw_next K20 ?_
        refine cw_region ?_
        refine wl_val (v := .int .i64 (i : Int)) (fun ρ e => ex_move (e _ _ rfl)) rfl rfl ?_
        refine wl_val (v := .int .i64 ((i + 1 : Nat) : Int)) (fun ρ e => ex_arith (k := .i64) (u := (i : Int)) (v := 1) (e _ _ rfl) (e _ _ rfl) (congrArg some ((congrArg _ (by omega)).trans (wrap_in (u := ((i + 1 : Nat) : Int)) (by omega) (by omega))))) rfl rfl ?_
        refine wl_val (v := .int .i64 ((i + 1 : Nat) : Int)) (fun ρ e => ex_assign (e _ _ rfl)) rfl rfl ?_
        refine wl_nil ?_
        refine xw_round K16 (i + 1) (by show l.length - (i + 1) < l.length - i; omega) ⟨(by show i + 1 ≤ l.length; omega), (fun j w h1 h2 => by rcases Nat.lt_succ_iff_lt_or_eq.1 h1 with h | rfl; exact hnx j w h h2; rw [hv] at h2; injection h2 with h2; omega), O17⟩ ⟨rfl, rfl, rfl, trivial⟩
    · have hie : i = l.length := by omega
      refine cw_seq (fun FK24 K24 => ?_)
      refine cw_seq (fun FK25 K25 => ?_)
      refine cw_region ?_
      refine wl_val (v := .int .i64 (i : Int)) (fun ρ e => ex_move (e _ _ rfl)) rfl rfl ?_
      refine wl_val (v := .slice (some ⟨b, o, none⟩) l.length c) (fun ρ e => ex_move (e _ _ rfl)) rfl rfl ?_
      refine wl_val (v := .int .i64 ((l.length : Nat) : Int)) (fun ρ e => ex_len el36 (e _ _ rfl)) rfl rfl ?_
      refine wl_val (v := .bool false) (fun ρ e => ex_cmp (u := (i : Int)) (v := ((l.length : Nat) : Int)) (e _ _ rfl) (e _ _ rfl) (lss0 (by omega))) rfl rfl ?_
      refine wl_nil ?_
      refine xw_next K25 ?_
      refine cw_false rfl ?_
      refine cw_exit ?_
      refine xw_past (by intro h; cases h) ?_
      refine xw_past (by intro h; cases h) ?_
      refine xw_here ?_
      refine xw_next K12 ?_
      refine cw_seq (fun FK26 K26 => ?_)
      refine cw_region ?_
      refine wl_val (v := .bool false) (fun ρ e => ex_assign (e _ _ rfl)) rfl rfl ?_
      refine wl_nil ?_
      refine xw_next K26 ?_
      refine cw_ret ?_
      refine xw_ret (v := .bool false) (fun T hT => res1 rfl T _ (hT 4 _ rfl)) ?_
      have hr : decide (x ∈ l) = false := decide_eq_false fun q => by obtain ⟨j, hj⟩ := List.mem_iff_getElem?.1 q; exact hnx j x (by have := (List.getElem?_eq_some_iff.1 hj).1; omega) hj rfl
      rw [hr]
      exact ⟨rfl, O17.old⟩

theorem chain_unf {ts : List VN} {n q : Nat} {pv : Int} (h : (parsOf ts)[q]? = some pv) : chainL (parsOf ts) (n + 1) q = (q : Int) :: (if pv = -1 then [] else chainL (parsOf ts) n pv.toNat) := by
  conv => lhs; unfold chainL
  rw [h]
theorem par_range {ts : List VN} (hV : Val ts) {q : Nat} {pv : Int} (hq : q < ts.length) (h : (parsOf ts)[q]? = some pv) : pv = -1 ∨ ((q : Int) < pv ∧ pv < ts.length) := by
  by_cases e : q = ts.length - 1
  · subst e
    rw [par_last hV] at h
    injection h with h
    exact .inl h.symm
  · obtain ⟨p, _, _, _, _, h3, h4, h5⟩ := par_get hV (k := q) (by omega)
    rw [h5] at h
    injection h with h
    exact .inr (by omega)
theorem above_ {W : World} {D : Nat → Prop} {b o c : Nat} {ts : List VN} (hN : NodesD D W (.slice (some ⟨b, o, none⟩) ts.length c) ts) (hD : ∀ k, D k → k < W.heap.size) (hok : okT ts = true) {k : Nat} (hk : k < ts.length) :
    Calls Tryd.prog 48 #[.slice (some ⟨b, o, none⟩) ts.length c, .int .i64 (k : Int)] W fun e w' => ∃ A' c', e = .returned (.slice A' (chainOf ts k).length c') ∧ Own Z0 W w' [.row (.slice A' (chainOf ts k).length c') 3 1 (chainOf ts k).length (intCs (chainOf ts k))] := by
  have hV := okT_val hok
  have hpos := hV.pos
  have hle := hV.le
  have O0 : Own Z0 W W [] := Own.start W
  refine sx_enter (args := [.slice (some ⟨b, o, none⟩) ts.length c, .int .i64 (k : Int)]) Tryd.func48 rfl rfl (by simp) ?_
  refine cw_seq (fun FK1 K1 => ?_)
  refine cw_region ?_
  refine wl_val (v := .slice none 0 0) (fun ρ e => ex_assign (e _ _ rfl)) rfl rfl ?_
  refine wl_nil ?_
  refine xw_next K1 ?_
  refine cw_seq (fun FK2 K2 => ?_)
  refine cw_region ?_
  refine wl_val (v := .slice (some ⟨b, o, none⟩) ts.length c) (fun ρ e => ex_move (e _ _ rfl)) rfl rfl ?_
  refine wl_call (args := [.slice (some ⟨b, o, none⟩) ts.length c]) in_43 rfl rfl rfl ?_
  refine (rparents_ok (hN.move (fun k hk => (O0.old).block k (hD k hk))) (fun k hk => Nat.lt_of_lt_of_le (hD k hk) (O0.old).size) hok).mono ?_
  rintro _ w3 ⟨g6, c7, rfl, h4⟩
  have O5 := O0.join1 h4 trivial
  refine ⟨_, rfl, ?_⟩
  refine wl_val (v := .slice (some ⟨g6, 0, none⟩) ts.length c7) (fun ρ e => ex_assign (e _ _ rfl)) rfl rfl ?_
  refine wl_nil ?_
  refine xw_next K2 ?_
  refine cw_seq (fun FK8 K8 => ?_)
  refine cw_region ?_
  refine wl_val (v := .slice none 0 0) (fun ρ e => ex_assign (e _ _ rfl)) rfl rfl ?_
  refine wl_nil ?_
  refine xw_next K8 ?_
  refine cw_seq (fun FK9 K9 => ?_)
  refine cw_block ?_
  have O10 : Own Z0 W w3 [.row (.slice none 0 0) 3 1 0 (intCs []), .row (.slice (some ⟨g6, 0, none⟩) ts.length c7) 3 1 ts.length (intCs (parsOf ts))] := O5.nilrow 3 1
  have O11 : Own Z0 W w3 [.row (.slice none 0 0) 3 1 0 (intCs []), .row (.slice (some ⟨g6, 0, none⟩) ts.length c7) 3 1 ts.length (intCs (parsOf ts))] := O10
  refine cw_loop (ι := Nat × Int × Option Addr × Nat × Nat × List Int) (fun q => [(1, .int .i64 q.2.1), (5, .slice (some ⟨g6, 0, none⟩) ts.length c7), (6, .slice q.2.2.1 q.2.2.2.2.1 q.2.2.2.1)]) (fun q X => (chainL (parsOf ts) ts.length k = q.2.2.2.2.2 ++ (if q.2.1 = -1 then [] else chainL (parsOf ts) q.1 q.2.1.toNat)) ∧ (q.2.1 ≠ -1 → 0 ≤ q.2.1 ∧ q.2.1 < ts.length ∧ (ts.length : Int) ≤ q.2.1 + q.1) ∧ (q.2.2.2.2.1 = q.2.2.2.2.2.length) ∧ (q.2.2.2.2.1 + q.1 ≤ ts.length) ∧ Own Z0 W X [.row (.slice q.2.2.1 q.2.2.2.2.1 q.2.2.2.1) 3 1 q.2.2.2.2.1 (intCs q.2.2.2.2.2), .row (.slice (some ⟨g6, 0, none⟩) ts.length c7) 3 1 ts.length (intCs (parsOf ts))]) (fun q => q.1) (ts.length, (k : Int), none, 0, 0, []) ⟨(by show _ = [] ++ (if (k : Int) = -1 then [] else _); rw [if_neg (by omega), Int.toNat_natCast]; rfl), (fun _ => by show 0 ≤ (k : Int) ∧ (k : Int) < ts.length ∧ (ts.length : Int) ≤ k + ts.length; omega), rfl, (by show 0 + ts.length ≤ ts.length; omega), O11⟩ ⟨rfl, rfl, rfl, trivial⟩ (fun q w12 hJ F13 K14 => ?_)
  obtain ⟨n, i, A, ca, na, acc⟩ := q
  obtain ⟨hch, hir, hna, hnn, O15⟩ := hJ
  dsimp only at hch hir hna hnn O15 ⊢
  by_cases hi : i = -1
  · subst hi
    rw [if_pos rfl, List.append_nil] at hch
    refine cw_seq (fun FK16 K16 => ?_)
    refine cw_seq (fun FK17 K17 => ?_)
    refine cw_region ?_
    refine wl_val (v := .int .i64 (-1)) (fun ρ e => ex_move (e _ _ rfl)) rfl rfl ?_
    refine wl_val (v := .bool false) (fun ρ e => ex_cmp (u := (-1)) (v := (-1)) (e _ _ rfl) (e _ _ rfl) (neq0 (by omega))) rfl rfl ?_
    refine wl_nil ?_
    refine xw_next K17 ?_
    refine cw_false rfl ?_
    refine cw_exit ?_
    refine xw_past (by intro h; cases h) ?_
    refine xw_past (by intro h; cases h) ?_
    refine xw_here ?_
    refine xw_next K9 ?_
    refine cw_seq (fun FK18 K18 => ?_)
    refine cw_region ?_
    refine wl_val (v := .slice A na ca) (fun ρ e => ex_move (e _ _ rfl)) rfl rfl ?_
    refine wl_val (v := .slice A na ca) (fun ρ e => ex_assign (e _ _ rfl)) rfl rfl ?_
    refine wl_nil ?_
    refine xw_next K18 ?_
    refine cw_ret ?_
    refine xw_ret (v := .slice A na ca) (fun T hT => res1 rfl T _ (hT 4 _ rfl)) ?_
    have hO := (O15.re [0] rfl : Own Z0 W w12 [.row (.slice A na ca) 3 1 na (intCs acc)])
    rw [hna] at hO
    have hcc : chainOf ts k = acc := hch
    rw [hcc]
    exact ⟨A, ca, by rw [hna], hO⟩
  · obtain ⟨hi1, hi2, hi3⟩ := hir hi
    obtain ⟨q, rfl⟩ : ∃ q : Nat, i = q := ⟨i.toNat, by omega⟩
    rw [if_neg hi, Int.toNat_natCast] at hch
    obtain ⟨n, rfl⟩ : ∃ m, n = m + 1 := ⟨n - 1, by omega⟩
    obtain ⟨pv, hpg⟩ : ∃ p, (parsOf ts)[q]? = some p := ⟨_, List.getElem?_eq_getElem (show q < (parsOf ts).length by rw [parsOf_len]; omega)⟩
    have hst := chain_unf (n := n) hpg
    have hpr := par_range hV (by omega) hpg
    refine cw_seq (fun FK19 K19 => ?_)
    refine cw_seq (fun FK20 K20 => ?_)
    refine cw_region ?_
    refine wl_val (v := .int .i64 (q : Int)) (fun ρ e => ex_move (e _ _ rfl)) rfl rfl ?_
    refine wl_val (v := .bool true) (fun ρ e => ex_cmp (u := (q : Int)) (v := (-1)) (e _ _ rfl) (e _ _ rfl) (neq1 (by omega))) rfl rfl ?_
    refine wl_nil ?_
    refine xw_next K20 ?_
    refine cw_true rfl ?_
    refine cw_skip ?_
    refine xw_next K19 ?_
    refine cw_block ?_
    refine cw_seq (fun FK21 K21 => ?_)
    refine cw_region ?_
    refine wl_val (v := .slice A na ca) (fun ρ e => ex_move (e _ _ rfl)) rfl rfl ?_
    refine wl_val (v := .int .i64 (q : Int)) (fun ρ e => ex_move (e _ _ rfl)) rfl rfl ?_
    obtain ⟨g22, w23, r24, O25, hg26, hs27⟩ := own_slice O15 el36 ze3 1 [(0, .int .i64 (q : Int))] (cs := #[.int .i64 (q : Int)]) (by decide) (by kernel_rfl)
    refine wl_val (v := .slice (some ⟨g22, 0, none⟩) 1 1) (fun ρ e => r24 ρ _ _ _ _ _ _ (e.parts rfl)) rfl rfl ?_
    obtain ⟨A28, c29, w30, r31, O32, hz33, hc34⟩ := own_app1 (O25.re [1, 0, 2] rfl : Own Z0 W w23 [.row (.slice A na ca) 3 1 na (intCs acc), .blk g22 3 #[.int .i64 (q : Int)], .row (.slice (some ⟨g6, 0, none⟩) ts.length c7) 3 1 ts.length (intCs (parsOf ts))]) ap36 ((O25.re [1, 0, 2] rfl : Own Z0 W w23 [.row (.slice A na ca) 3 1 na (intCs acc), .blk g22 3 #[.int .i64 (q : Int)], .row (.slice (some ⟨g6, 0, none⟩) ts.length c7) 3 1 ts.length (intCs (parsOf ts))]).blk 1 rfl) (cells := [.int .i64 (q : Int)]) rfl rfl (by omega) (by omega) (ys := (intCs (acc ++ [(q : Int)]))) (by simp [intCs])
    refine wl_val (v := .slice A28 (na + 1) c29) (fun ρ e => r31 ρ _ _ _ _ _ _ _ (e _ _ rfl) (e _ _ rfl)) rfl rfl ?_
    refine wl_val (v := .slice A28 (na + 1) c29) (fun ρ e => ex_assign (e _ _ rfl)) rfl rfl ?_
    refine wl_nil ?_
    refine xw_next K21 ?_
    refine cw_region ?_
    refine wl_val (v := .slice (some ⟨g6, 0, none⟩) ts.length c7) (fun ρ e => ex_move (e _ _ rfl)) rfl rfl ?_
    refine wl_val (v := .int .i64 (q : Int)) (fun ρ e => ex_move (e _ _ rfl)) rfl rfl ?_
    refine wl_val (v := .pointer (some ⟨g6, q, none⟩)) (fun ρ e => ex_idx (q := q) (i := q) el36 (e _ _ rfl) (e _ _ rfl) (by omega) (by omega)) rfl rfl ?_
    refine wl_val (v := .int .i64 pv) (fun ρ e => ex_load1 ty3 (e _ _ rfl) (rowcell (O32.row 2 rfl) (intCs_get hpg))) rfl rfl ?_
    refine wl_val (v := .int .i64 pv) (fun ρ e => ex_assign (e _ _ rfl)) rfl rfl ?_
    refine wl_nil ?_
    refine xw_block ?_
    refine xw_round K14 (n, pv, A28, c29, na + 1, (acc ++ [(q : Int)])) (by show n < n + 1; omega) ⟨(by show _ = (acc ++ [_]) ++ _; rw [hch, hst, List.append_assoc]; rfl), (fun h => by rcases hpr with h2 | h2; exact absurd h2 h; show 0 ≤ pv ∧ pv < ts.length ∧ (ts.length : Int) ≤ pv + n; omega), (by show na + 1 = (acc ++ [_]).length; simp [hna]), (by show na + 1 + n ≤ ts.length; omega), (O32.re [0, 2] rfl : Own Z0 W w30 [.row (.slice A28 (na + 1) c29) 3 1 (na + 1) (intCs (acc ++ [(q : Int)])), .row (.slice (some ⟨g6, 0, none⟩) ts.length c7) 3 1 ts.length (intCs (parsOf ts))])⟩ ⟨rfl, rfl, rfl, trivial⟩

theorem chainL_len (u : List Int) : ∀ n k, (chainL u n k).length ≤ n
  | 0, _ => Nat.zero_le _
  | n + 1, k => by
    unfold chainL
    simp only [List.length_cons]
    split
    · simp
    · split
      · simp
      · have := chainL_len u n
        exact Nat.succ_le_succ (this _)
theorem chain_small {ts : List VN} (hV : Val ts) (k : Nat) : (chainOf ts k).length ≤ 1000000 := by
  have := chainL_len (parsOf ts) ts.length k
  have := hV.le
  unfold chainOf
  omega
theorem rmeet_ok {W : World} {D : Nat → Prop} {b o c : Nat} {ts : List VN} (hN : NodesD D W (.slice (some ⟨b, o, none⟩) ts.length c) ts) (hD : ∀ k, D k → k < W.heap.size) (hok : okT ts = true) (x y : Int) :
    Calls Tryd.prog 16 #[.slice (some ⟨b, o, none⟩) ts.length c, .int .i64 x, .int .i64 y] W fun e w' => e = .returned (.int .i64 (meetOf ts x y)) ∧ Below W.heap.size W w' := by
  have hV := okT_val hok
  have hpos := hV.pos
  have hle := hV.le
  have O0 : Own Z0 W W [] := Own.start W
  refine sx_enter (args := [.slice (some ⟨b, o, none⟩) ts.length c, .int .i64 x, .int .i64 y]) Tryd.func16 rfl rfl (by simp) ?_
  refine cw_seq (fun FK1 K1 => ?_)
  refine cw_region ?_
  refine wl_val (v := .int .i64 0) (fun ρ e => ex_assign (e _ _ rfl)) rfl rfl ?_
  refine wl_nil ?_
  refine xw_next K1 ?_
  refine cw_seq (fun FK2 K2 => ?_)
  refine cw_seq (fun FK3 K3 => ?_)
  refine cw_region ?_
  refine wl_val (v := .slice (some ⟨b, o, none⟩) ts.length c) (fun ρ e => ex_move (e _ _ rfl)) rfl rfl ?_
  refine wl_call (args := [.slice (some ⟨b, o, none⟩) ts.length c]) in_41 rfl rfl rfl ?_
  refine (rcheckb_ (hN.move (fun k hk => (O0.old).block k (hD k hk))) (fun k hk => Nat.lt_of_lt_of_le (hD k hk) (O0.old).size) (by omega) (chk_val hok)).mono ?_
  rintro _ w4 ⟨rfl, hb5⟩
  have O6 : Own Z0 W w4 [] := O0.below hb5
  refine ⟨_, rfl, ?_⟩
  refine wl_val (v := .bool false) (fun ρ e => ex_cmp (u := 0) (v := 0) (e _ _ rfl) (e _ _ rfl) (neq0 (by omega))) rfl rfl ?_
  refine wl_val (v := .bool false) (fun ρ e => ex_move (e _ _ rfl)) rfl rfl ?_
  refine wl_val (v := .int .i64 x) (fun ρ e => ex_move (e _ _ rfl)) rfl rfl ?_
  by_cases c7 : x < 0
  · skip
    refine wl_val (v := .bool true) (fun ρ e => ex_cmp (u := x) (v := 0) (e _ _ rfl) (e _ _ rfl) (lss1 (by omega))) rfl rfl ?_
    refine wl_val (v := .bool true) (fun ρ e => ex_pick0 (e _ _ rfl) (e _ _ rfl)) rfl rfl ?_
    refine wl_val (v := .bool true) (fun ρ e => ex_move (e _ _ rfl)) rfl rfl ?_
    refine wl_skip rfl rfl ?_
    refine wl_skip rfl rfl ?_
    refine wl_skip rfl rfl ?_
    refine wl_skip rfl rfl ?_
    refine wl_val (v := .bool true) (fun ρ e => ex_pick1 (e _ _ rfl) (e _ _ rfl)) rfl rfl ?_
    refine wl_val (v := .bool true) (fun ρ e => ex_move (e _ _ rfl)) rfl rfl ?_
    refine wl_skip rfl rfl ?_
    refine wl_skip rfl rfl ?_
    refine wl_val (v := .bool true) (fun ρ e => ex_pick1 (e _ _ rfl) (e _ _ rfl)) rfl rfl ?_
    refine wl_val (v := .bool true) (fun ρ e => ex_move (e _ _ rfl)) rfl rfl ?_
    refine wl_skip rfl rfl ?_
    refine wl_skip rfl rfl ?_
    refine wl_skip rfl rfl ?_
    refine wl_skip rfl rfl ?_
    refine wl_val (v := .bool true) (fun ρ e => ex_pick1 (e _ _ rfl) (e _ _ rfl)) rfl rfl ?_
    refine wl_nil ?_
    refine xw_next K3 ?_
    refine cw_true rfl ?_
    refine cw_seq (fun FK8 K8 => ?_)
    refine cw_region ?_
    refine wl_val (v := .int .i64 (-1)) (fun ρ e => ex_assign (e _ _ rfl)) rfl rfl ?_
    refine wl_nil ?_
    refine xw_next K8 ?_
    refine cw_ret ?_
    refine xw_past (by intro h; cases h) ?_
    refine xw_ret (v := .int .i64 (-1)) (fun T hT => res1 rfl T _ (hT 6 _ rfl)) ?_
    have hm : meetOf ts x y = -1 := by unfold meetOf; rw [if_neg (by simp <;> omega)]
    rw [hm]
    exact ⟨rfl, O6.old⟩
  · skip
    obtain ⟨xa, rfl⟩ : ∃ n : Nat, x = n := ⟨x.toNat, by omega⟩
    refine wl_val (v := .bool false) (fun ρ e => ex_cmp (u := (xa : Int)) (v := 0) (e _ _ rfl) (e _ _ rfl) (lss0 (by omega))) rfl rfl ?_
    refine wl_val (v := .bool false) (fun ρ e => ex_pick0 (e _ _ rfl) (e _ _ rfl)) rfl rfl ?_
    refine wl_val (v := .bool false) (fun ρ e => ex_move (e _ _ rfl)) rfl rfl ?_
    refine wl_val (v := .int .i64 (xa : Int)) (fun ρ e => ex_move (e _ _ rfl)) rfl rfl ?_
    refine wl_val (v := .slice (some ⟨b, o, none⟩) ts.length c) (fun ρ e => ex_move (e _ _ rfl)) rfl rfl ?_
    refine wl_val (v := .int .i64 ((ts.length : Nat) : Int)) (fun ρ e => ex_len el23 (e _ _ rfl)) rfl rfl ?_
    by_cases c9 : (xa : Int) ≥ ((ts.length : Nat) : Int)
    · skip
      refine wl_val (v := .bool true) (fun ρ e => ex_cmp (u := (xa : Int)) (v := ((ts.length : Nat) : Int)) (e _ _ rfl) (e _ _ rfl) (geq1 (by omega))) rfl rfl ?_
      refine wl_val (v := .bool true) (fun ρ e => ex_pick0 (e _ _ rfl) (e _ _ rfl)) rfl rfl ?_
      refine wl_val (v := .bool true) (fun ρ e => ex_move (e _ _ rfl)) rfl rfl ?_
      refine wl_skip rfl rfl ?_
      refine wl_skip rfl rfl ?_
      refine wl_val (v := .bool true) (fun ρ e => ex_pick1 (e _ _ rfl) (e _ _ rfl)) rfl rfl ?_
      refine wl_val (v := .bool true) (fun ρ e => ex_move (e _ _ rfl)) rfl rfl ?_
      refine wl_skip rfl rfl ?_
      refine wl_skip rfl rfl ?_
      refine wl_skip rfl rfl ?_
      refine wl_skip rfl rfl ?_
      refine wl_val (v := .bool true) (fun ρ e => ex_pick1 (e _ _ rfl) (e _ _ rfl)) rfl rfl ?_
      refine wl_nil ?_
      refine xw_next K3 ?_
      refine cw_true rfl ?_
      refine cw_seq (fun FK10 K10 => ?_)
      refine cw_region ?_
      refine wl_val (v := .int .i64 (-1)) (fun ρ e => ex_assign (e _ _ rfl)) rfl rfl ?_
      refine wl_nil ?_
      refine xw_next K10 ?_
      refine cw_ret ?_
      refine xw_past (by intro h; cases h) ?_
      refine xw_ret (v := .int .i64 (-1)) (fun T hT => res1 rfl T _ (hT 6 _ rfl)) ?_
      have hm : meetOf ts (xa : Int) y = -1 := by unfold meetOf; rw [if_neg (by simp <;> omega)]
      rw [hm]
      exact ⟨rfl, O6.old⟩
    · skip
      refine wl_val (v := .bool false) (fun ρ e => ex_cmp (u := (xa : Int)) (v := ((ts.length : Nat) : Int)) (e _ _ rfl) (e _ _ rfl) (geq0 (by omega))) rfl rfl ?_
      refine wl_val (v := .bool false) (fun ρ e => ex_pick0 (e _ _ rfl) (e _ _ rfl)) rfl rfl ?_
      refine wl_val (v := .bool false) (fun ρ e => ex_move (e _ _ rfl)) rfl rfl ?_
      refine wl_val (v := .int .i64 y) (fun ρ e => ex_move (e _ _ rfl)) rfl rfl ?_
      by_cases c11 : y < 0
      · skip
        refine wl_val (v := .bool true) (fun ρ e => ex_cmp (u := y) (v := 0) (e _ _ rfl) (e _ _ rfl) (lss1 (by omega))) rfl rfl ?_
        refine wl_val (v := .bool true) (fun ρ e => ex_pick0 (e _ _ rfl) (e _ _ rfl)) rfl rfl ?_
        refine wl_val (v := .bool true) (fun ρ e => ex_move (e _ _ rfl)) rfl rfl ?_
        refine wl_skip rfl rfl ?_
        refine wl_skip rfl rfl ?_
        refine wl_skip rfl rfl ?_
        refine wl_skip rfl rfl ?_
        refine wl_val (v := .bool true) (fun ρ e => ex_pick1 (e _ _ rfl) (e _ _ rfl)) rfl rfl ?_
        refine wl_nil ?_
        refine xw_next K3 ?_
        refine cw_true rfl ?_
        refine cw_seq (fun FK12 K12 => ?_)
        refine cw_region ?_
        refine wl_val (v := .int .i64 (-1)) (fun ρ e => ex_assign (e _ _ rfl)) rfl rfl ?_
        refine wl_nil ?_
        refine xw_next K12 ?_
        refine cw_ret ?_
        refine xw_past (by intro h; cases h) ?_
        refine xw_ret (v := .int .i64 (-1)) (fun T hT => res1 rfl T _ (hT 6 _ rfl)) ?_
        have hm : meetOf ts (xa : Int) y = -1 := by unfold meetOf; rw [if_neg (by simp <;> omega)]
        rw [hm]
        exact ⟨rfl, O6.old⟩
      · skip
        obtain ⟨ya, rfl⟩ : ∃ n : Nat, y = n := ⟨y.toNat, by omega⟩
        refine wl_val (v := .bool false) (fun ρ e => ex_cmp (u := (ya : Int)) (v := 0) (e _ _ rfl) (e _ _ rfl) (lss0 (by omega))) rfl rfl ?_
        refine wl_val (v := .bool false) (fun ρ e => ex_pick0 (e _ _ rfl) (e _ _ rfl)) rfl rfl ?_
        refine wl_val (v := .bool false) (fun ρ e => ex_move (e _ _ rfl)) rfl rfl ?_
        refine wl_val (v := .int .i64 (ya : Int)) (fun ρ e => ex_move (e _ _ rfl)) rfl rfl ?_
        refine wl_val (v := .slice (some ⟨b, o, none⟩) ts.length c) (fun ρ e => ex_move (e _ _ rfl)) rfl rfl ?_
        refine wl_val (v := .int .i64 ((ts.length : Nat) : Int)) (fun ρ e => ex_len el23 (e _ _ rfl)) rfl rfl ?_
        by_cases c13 : (ya : Int) ≥ ((ts.length : Nat) : Int)
        · skip
          refine wl_val (v := .bool true) (fun ρ e => ex_cmp (u := (ya : Int)) (v := ((ts.length : Nat) : Int)) (e _ _ rfl) (e _ _ rfl) (geq1 (by omega))) rfl rfl ?_
          refine wl_val (v := .bool true) (fun ρ e => ex_pick0 (e _ _ rfl) (e _ _ rfl)) rfl rfl ?_
          refine wl_nil ?_
          refine xw_next K3 ?_
          refine cw_true rfl ?_
          refine cw_seq (fun FK14 K14 => ?_)
          refine cw_region ?_
          refine wl_val (v := .int .i64 (-1)) (fun ρ e => ex_assign (e _ _ rfl)) rfl rfl ?_
          refine wl_nil ?_
          refine xw_next K14 ?_
          refine cw_ret ?_
          refine xw_past (by intro h; cases h) ?_
          refine xw_ret (v := .int .i64 (-1)) (fun T hT => res1 rfl T _ (hT 6 _ rfl)) ?_
          have hm : meetOf ts (xa : Int) (ya : Int) = -1 := by unfold meetOf; rw [if_neg (by simp <;> omega)]
          rw [hm]
          exact ⟨rfl, O6.old⟩
        · skip
          have hxpos : 0 < (chainOf ts xa).length := List.length_pos_of_mem (chain_self hV (by omega))
          refine wl_val (v := .bool false) (fun ρ e => ex_cmp (u := (ya : Int)) (v := ((ts.length : Nat) : Int)) (e _ _ rfl) (e _ _ rfl) (geq0 (by omega))) rfl rfl ?_
          refine wl_val (v := .bool false) (fun ρ e => ex_pick0 (e _ _ rfl) (e _ _ rfl)) rfl rfl ?_
          refine wl_nil ?_
          refine xw_next K3 ?_
          refine cw_false rfl ?_
          refine cw_skip ?_
          refine xw_next K2 ?_
          refine cw_seq (fun FK15 K15 => ?_)
          refine cw_region ?_
          refine wl_val (v := .slice (some ⟨b, o, none⟩) ts.length c) (fun ρ e => ex_move (e _ _ rfl)) rfl rfl ?_
          refine wl_val (v := .int .i64 (xa : Int)) (fun ρ e => ex_move (e _ _ rfl)) rfl rfl ?_
          refine wl_call (args := [.slice (some ⟨b, o, none⟩) ts.length c, .int .i64 (xa : Int)]) in_48 rfl rfl rfl ?_
          refine (above_ (hN.move (fun k hk => (O6.old).block k (hD k hk))) (fun k hk => Nat.lt_of_lt_of_le (hD k hk) (O6.old).size) hok (k := xa) (by omega)).mono ?_
          rintro _ w18 ⟨A16, c17, rfl, h19⟩
          have O20 := O6.join1 h19 trivial
          refine ⟨_, rfl, ?_⟩
          refine wl_val (v := .slice A16 ((chainOf ts xa).length) c17) (fun ρ e => ex_assign (e _ _ rfl)) rfl rfl ?_
          refine wl_nil ?_
          refine xw_next K15 ?_
          refine cw_seq (fun FK21 K21 => ?_)
          refine cw_region ?_
          refine wl_val (v := .slice (some ⟨b, o, none⟩) ts.length c) (fun ρ e => ex_move (e _ _ rfl)) rfl rfl ?_
          refine wl_val (v := .int .i64 (ya : Int)) (fun ρ e => ex_move (e _ _ rfl)) rfl rfl ?_
          refine wl_call (args := [.slice (some ⟨b, o, none⟩) ts.length c, .int .i64 (ya : Int)]) in_48 rfl rfl rfl ?_
          refine (above_ (hN.move (fun k hk => (O20.old).block k (hD k hk))) (fun k hk => Nat.lt_of_lt_of_le (hD k hk) (O20.old).size) hok (k := ya) (by omega)).mono ?_
          rintro _ w24 ⟨A22, c23, rfl, h25⟩
          have O26 := O20.join1 h25 trivial
          refine ⟨_, rfl, ?_⟩
          refine wl_val (v := .slice A22 ((chainOf ts ya).length) c23) (fun ρ e => ex_assign (e _ _ rfl)) rfl rfl ?_
          refine wl_nil ?_
          refine xw_next K21 ?_
          refine cw_seq (fun FK27 K27 => ?_)
          refine cw_seq (fun FK28 K28 => ?_)
          refine cw_region ?_
          refine wl_val (v := .int .i64 0) (fun ρ e => ex_assign (e _ _ rfl)) rfl rfl ?_
          refine wl_nil ?_
          refine xw_next K28 ?_
          refine cw_block ?_
          obtain ⟨gl, hgl⟩ := rowaddr (O26.row 1 rfl) hxpos
          subst hgl
          have hcl := chain_small hV ya
          have hcx := chain_small hV xa
          have O29 : Own Z0 W w24 [.row (.slice (some ⟨gl, 0, none⟩) ((chainOf ts xa).length) c17) 3 1 ((chainOf ts xa).length) (intCs (chainOf ts xa)), .row (.slice A22 ((chainOf ts ya).length) c23) 3 1 ((chainOf ts ya).length) (intCs (chainOf ts ya))] := (O26.re [1, 0] rfl : Own Z0 W w24 [.row (.slice (some ⟨gl, 0, none⟩) ((chainOf ts xa).length) c17) 3 1 ((chainOf ts xa).length) (intCs (chainOf ts xa)), .row (.slice A22 ((chainOf ts ya).length) c23) 3 1 ((chainOf ts ya).length) (intCs (chainOf ts ya))])
          refine cw_loop (ι := Nat) (fun q => [(7, .slice (some ⟨gl, 0, none⟩) ((chainOf ts xa).length) c17), (8, .slice A22 ((chainOf ts ya).length) c23), (9, .int .i64 (q : Int))]) (fun q X => (q ≤ (chainOf ts xa).length) ∧ (firstIn (chainOf ts xa) (chainOf ts ya) = firstIn ((chainOf ts xa).drop q) (chainOf ts ya)) ∧ Own Z0 W X [.row (.slice (some ⟨gl, 0, none⟩) ((chainOf ts xa).length) c17) 3 1 ((chainOf ts xa).length) (intCs (chainOf ts xa)), .row (.slice A22 ((chainOf ts ya).length) c23) 3 1 ((chainOf ts ya).length) (intCs (chainOf ts ya))]) (fun q => (chainOf ts xa).length - q) 0 ⟨Nat.zero_le _, rfl, O29⟩ ⟨rfl, rfl, rfl, trivial⟩ (fun q w30 hJ F31 K32 => ?_)
          obtain ⟨i, rfl⟩ : ∃ x, x = q := ⟨_, rfl⟩
          obtain ⟨hi0, hf, O33⟩ := hJ
          try dsimp only at hi0 hf O33 ⊢
          by_cases hi : i < (chainOf ts xa).length
          · skip
            obtain ⟨v, hv⟩ : ∃ v, (chainOf ts xa)[i]? = some v := ⟨(chainOf ts xa)[i], List.getElem?_eq_getElem hi⟩
            have hdr := drop_get hv
            rw [hdr] at hf
            refine cw_seq (fun FK34 K34 => ?_)
            refine cw_seq (fun FK35 K35 => ?_)
            refine cw_region ?_
            refine wl_val (v := .int .i64 (i : Int)) (fun ρ e => ex_move (e _ _ rfl)) rfl rfl ?_
            refine wl_val (v := .slice (some ⟨gl, 0, none⟩) ((chainOf ts xa).length) c17) (fun ρ e => ex_move (e _ _ rfl)) rfl rfl ?_
            refine wl_val (v := .int .i64 (((chainOf ts xa).length : Nat) : Int)) (fun ρ e => ex_len el36 (e _ _ rfl)) rfl rfl ?_
            refine wl_val (v := .bool true) (fun ρ e => ex_cmp (u := (i : Int)) (v := (((chainOf ts xa).length : Nat) : Int)) (e _ _ rfl) (e _ _ rfl) (lss1 (by omega))) rfl rfl ?_
            refine wl_nil ?_
            refine xw_next K35 ?_
            refine cw_true rfl ?_
            refine cw_skip ?_
            refine xw_next K34 ?_
            refine cw_seq (fun FK36 K36 => ?_)
            refine cw_block ?_
            refine cw_seq (fun FK37 K37 => ?_)
            refine cw_region ?_
            refine wl_val (v := .slice A22 ((chainOf ts ya).length) c23) (fun ρ e => ex_move (e _ _ rfl)) rfl rfl ?_
            refine wl_val (v := .slice (some ⟨gl, 0, none⟩) ((chainOf ts xa).length) c17) (fun ρ e => ex_move (e _ _ rfl)) rfl rfl ?_
            refine wl_val (v := .int .i64 (i : Int)) (fun ρ e => ex_move (e _ _ rfl)) rfl rfl ?_
            refine wl_val (v := .pointer (some ⟨gl, i, none⟩)) (fun ρ e => ex_idx (q := i) (i := i) el36 (e _ _ rfl) (e _ _ rfl) (by omega) (by omega)) rfl rfl ?_
            refine wl_val (v := .int .i64 v) (fun ρ e => ex_load1 ty3 (e _ _ rfl) (rowcell (O33.row 0 rfl) (intCs_get hv))) rfl rfl ?_
            refine wl_call (args := [.slice A22 ((chainOf ts ya).length) c23, .int .i64 v]) in_49 rfl rfl rfl ?_
            refine (contains_ (IntsD.of_row (O33.row 1 rfl)) (fun k hk => (World.ownsRow.lt (O33.row 1 rfl) k hk).2) hcl v).mono ?_
            rintro _ w38 ⟨rfl, hb39⟩
            have O40 : Own Z0 W w38 [.row (.slice (some ⟨gl, 0, none⟩) ((chainOf ts xa).length) c17) 3 1 ((chainOf ts xa).length) (intCs (chainOf ts xa)), .row (.slice A22 ((chainOf ts ya).length) c23) 3 1 ((chainOf ts ya).length) (intCs (chainOf ts ya))] := O33.below hb39
            refine ⟨_, rfl, ?_⟩
            refine wl_nil ?_
            refine xw_next K37 ?_
            refine cw_cond (b := (decide (v ∈ chainOf ts ya))) rfl (fun c41 => ?_) (fun c41 => ?_)
            · skip
              refine cw_seq (fun FK42 K42 => ?_)
              refine cw_region ?_
              refine wl_val (v := .slice (some ⟨gl, 0, none⟩) ((chainOf ts xa).length) c17) (fun ρ e => ex_move (e _ _ rfl)) rfl rfl ?_
              refine wl_val (v := .int .i64 (i : Int)) (fun ρ e => ex_move (e _ _ rfl)) rfl rfl ?_
              refine wl_val (v := .pointer (some ⟨gl, i, none⟩)) (fun ρ e => ex_idx (q := i) (i := i) el36 (e _ _ rfl) (e _ _ rfl) (by omega) (by omega)) rfl rfl ?_
              refine wl_val (v := .int .i64 v) (fun ρ e => ex_load1 ty3 (e _ _ rfl) (rowcell (O40.row 0 rfl) (intCs_get hv))) rfl rfl ?_
              refine wl_val (v := .int .i64 v) (fun ρ e => ex_assign (e _ _ rfl)) rfl rfl ?_
              refine wl_nil ?_
              refine xw_next K42 ?_
              refine cw_ret ?_
              refine xw_blockret ?_
              refine xw_past (by intro h; cases h) ?_
              refine xw_past (by intro h; cases h) ?_
              refine xw_blockret ?_
              refine xw_past (by intro h; cases h) ?_
              refine xw_ret (v := .int .i64 v) (fun T hT => res1 rfl T _ (hT 6 _ rfl)) ?_
              rw [meet_first hV hok (by omega) (by omega), hf, first_head (by simpa using c41)]
              exact ⟨rfl, O40.old⟩
            · skip
              refine cw_skip ?_
              refine xw_block ?_
              refine xw_next K36 ?_
              refine cw_region ?_
              refine wl_val (v := .int .i64 (i : Int)) (fun ρ e => ex_move (e _ _ rfl)) rfl rfl ?_
              refine wl_val (v := .int .i64 ((i + 1 : Nat) : Int)) (fun ρ e => ex_arith (k := .i64) (u := (i : Int)) (v := 1) (e _ _ rfl) (e _ _ rfl) (congrArg some ((congrArg _ (by omega)).trans (wrap_in (u := ((i + 1 : Nat) : Int)) (by omega) (by omega))))) rfl rfl ?_
              refine wl_val (v := .int .i64 ((i + 1 : Nat) : Int)) (fun ρ e => ex_assign (e _ _ rfl)) rfl rfl ?_
              refine wl_nil ?_
              refine xw_round K32 (i + 1) (by show (chainOf ts xa).length - (i + 1) < (chainOf ts xa).length - i; omega) ⟨(by show i + 1 ≤ _; omega), (by show firstIn _ _ = firstIn _ _; rw [hf]; exact first_skip (by simpa using c41)), O40⟩ ⟨rfl, rfl, rfl, trivial⟩
          · have hie : i = (chainOf ts xa).length := by omega
            rw [List.drop_eq_nil_of_le (by omega)] at hf
            refine cw_seq (fun FK43 K43 => ?_)
            refine cw_seq (fun FK44 K44 => ?_)
            refine cw_region ?_
            refine wl_val (v := .int .i64 (i : Int)) (fun ρ e => ex_move (e _ _ rfl)) rfl rfl ?_
            refine wl_val (v := .slice (some ⟨gl, 0, none⟩) ((chainOf ts xa).length) c17) (fun ρ e => ex_move (e _ _ rfl)) rfl rfl ?_
            refine wl_val (v := .int .i64 (((chainOf ts xa).length : Nat) : Int)) (fun ρ e => ex_len el36 (e _ _ rfl)) rfl rfl ?_
            refine wl_val (v := .bool false) (fun ρ e => ex_cmp (u := (i : Int)) (v := (((chainOf ts xa).length : Nat) : Int)) (e _ _ rfl) (e _ _ rfl) (lss0 (by omega))) rfl rfl ?_
            refine wl_nil ?_
            refine xw_next K44 ?_
            refine cw_false rfl ?_
            refine cw_exit ?_
            refine xw_past (by intro h; cases h) ?_
            refine xw_past (by intro h; cases h) ?_
            refine xw_here ?_
            refine xw_next K27 ?_
            refine cw_seq (fun FK45 K45 => ?_)
            refine cw_region ?_
            refine wl_val (v := .int .i64 (-1)) (fun ρ e => ex_assign (e _ _ rfl)) rfl rfl ?_
            refine wl_nil ?_
            refine xw_next K45 ?_
            refine cw_ret ?_
            refine xw_ret (v := .int .i64 (-1)) (fun T hT => res1 rfl T _ (hT 6 _ rfl)) ?_
            rw [meet_first hV hok (by omega) (by omega), hf]
            exact ⟨rfl, O33.old⟩
theorem rmeet_no {W : World} {D : Nat → Prop} {V : Value} {ts : List VN} (hN : NodesD D W V ts) (hD : ∀ k, D k → k < W.heap.size) (hsz : ts.length ≤ 1000000) (hok : okT ts = false) (x y : Int) :
    Calls Tryd.prog 16 #[V, .int .i64 x, .int .i64 y] W fun e w' => e = .returned (.int .i64 (meetOf ts x y)) ∧ Below W.heap.size W w' := by
  obtain ⟨A, c, rfl⟩ := hN.slice
  have O0 : Own Z0 W W [] := Own.start W
  refine sx_enter (args := [.slice A ts.length c, .int .i64 x, .int .i64 y]) Tryd.func16 rfl rfl (by simp) ?_
  refine cw_seq (fun FK1 K1 => ?_)
  refine cw_region ?_
  refine wl_val (v := .int .i64 0) (fun ρ e => ex_assign (e _ _ rfl)) rfl rfl ?_
  refine wl_nil ?_
  refine xw_next K1 ?_
  refine cw_seq (fun FK2 K2 => ?_)
  refine cw_seq (fun FK3 K3 => ?_)
  refine cw_region ?_
  refine wl_val (v := .slice A ts.length c) (fun ρ e => ex_move (e _ _ rfl)) rfl rfl ?_
  refine wl_call (args := [.slice A ts.length c]) in_41 rfl rfl rfl ?_
  refine (rcheckb_ (hN.move (fun k hk => (O0.old).block k (hD k hk))) (fun k hk => Nat.lt_of_lt_of_le (hD k hk) (O0.old).size) (by omega) (chk_val hok)).mono ?_
  rintro _ w4 ⟨rfl, hb5⟩
  have O6 : Own Z0 W w4 [] := O0.below hb5
  refine ⟨_, rfl, ?_⟩
  refine wl_val (v := .bool true) (fun ρ e => ex_cmp (u := 1) (v := 0) (e _ _ rfl) (e _ _ rfl) (neq1 (by omega))) rfl rfl ?_
  refine wl_val (v := .bool true) (fun ρ e => ex_move (e _ _ rfl)) rfl rfl ?_
  refine wl_skip rfl rfl ?_
  refine wl_skip rfl rfl ?_
  refine wl_val (v := .bool true) (fun ρ e => ex_pick1 (e _ _ rfl) (e _ _ rfl)) rfl rfl ?_
  refine wl_val (v := .bool true) (fun ρ e => ex_move (e _ _ rfl)) rfl rfl ?_
  refine wl_skip rfl rfl ?_
  refine wl_skip rfl rfl ?_
  refine wl_skip rfl rfl ?_
  refine wl_skip rfl rfl ?_
  refine wl_val (v := .bool true) (fun ρ e => ex_pick1 (e _ _ rfl) (e _ _ rfl)) rfl rfl ?_
  refine wl_val (v := .bool true) (fun ρ e => ex_move (e _ _ rfl)) rfl rfl ?_
  refine wl_skip rfl rfl ?_
  refine wl_skip rfl rfl ?_
  refine wl_val (v := .bool true) (fun ρ e => ex_pick1 (e _ _ rfl) (e _ _ rfl)) rfl rfl ?_
  refine wl_val (v := .bool true) (fun ρ e => ex_move (e _ _ rfl)) rfl rfl ?_
  refine wl_skip rfl rfl ?_
  refine wl_skip rfl rfl ?_
  refine wl_skip rfl rfl ?_
  refine wl_skip rfl rfl ?_
  refine wl_val (v := .bool true) (fun ρ e => ex_pick1 (e _ _ rfl) (e _ _ rfl)) rfl rfl ?_
  refine wl_nil ?_
  refine xw_next K3 ?_
  refine cw_true rfl ?_
  refine cw_seq (fun FK7 K7 => ?_)
  refine cw_region ?_
  refine wl_val (v := .int .i64 (-1)) (fun ρ e => ex_assign (e _ _ rfl)) rfl rfl ?_
  refine wl_nil ?_
  refine xw_next K7 ?_
  refine cw_ret ?_
  refine xw_past (by intro h; cases h) ?_
  refine xw_ret (v := .int .i64 (-1)) (fun T hT => res1 rfl T _ (hT 6 _ rfl)) ?_
  have hm : meetOf ts x y = -1 := by unfold meetOf; rw [hok]; rfl
  rw [hm]
  exact ⟨rfl, O6.old⟩
theorem rmeet_ {W : World} {D : Nat → Prop} {V : Value} {ts : List VN} (hN : NodesD D W V ts) (hD : ∀ k, D k → k < W.heap.size) (hsz : ts.length ≤ 1000000) (x y : Int) :
    Calls Tryd.prog 16 #[V, .int .i64 x, .int .i64 y] W fun e w' => e = .returned (.int .i64 (meetOf ts x y)) ∧ Below W.heap.size W w' := by
  cases hok : okT ts with
  | false => exact rmeet_no hN hD hsz hok x y
  | true =>
    obtain ⟨b, o, c, rfl, _⟩ := hN.form (okT_val hok).pos
    exact rmeet_ok hN hD hok x y

end Go.Proofs.YtpeoodkepjhhiaaDoor
namespace Go.Proofs.YtpeoodkepjhhiaaDoor
open Go Go.RowKit
theorem vtreeMeets_ok {W : World} {D : Nat → Prop} {V : Value} {ts : List VN} (hN : NodesD D W V ts) (hD : ∀ k, D k → k < W.heap.size) (tab : Tab W) (x y : Int) : Calls Tryd.prog 3 #[V, .int .i64 x, .int .i64 y] W fun e w' => e = .returned (.bool true) ∧ Below W.heap.size W w' := by
  obtain ⟨A, c, rfl⟩ := hN.slice
  have O0 : Own Z0 W W [] := Own.start W
  refine sx_enter (args := [.slice A ts.length c, .int .i64 x, .int .i64 y]) Tryd.func3 rfl rfl (by simp) ?_
  refine cw_seq (fun FK1 K1 => ?_)
  refine cw_region ?_
  refine wl_val (v := .bool false) (fun ρ e => ex_assign (e _ _ rfl)) rfl rfl ?_
  refine wl_nil ?_
  refine xw_next K1 ?_
  refine cw_seq (fun FK2 K2 => ?_)
  refine cw_seq (fun FK3 K3 => ?_)
  refine cw_region ?_
  refine wl_val (v := .slice A ts.length c) (fun ρ e => ex_move (e _ _ rfl)) rfl rfl ?_
  refine wl_val (v := .int .i64 ((ts.length : Nat) : Int)) (fun ρ e => ex_len el23 (e _ _ rfl)) rfl rfl ?_
  by_cases c4 : ((ts.length : Nat) : Int) > 300
  · skip
    refine wl_val (v := .bool true) (fun ρ e => ex_cmp (u := ((ts.length : Nat) : Int)) (v := 300) (e _ _ rfl) (e _ _ rfl) (gtr1 (by omega))) rfl rfl ?_
    refine wl_nil ?_
    refine xw_next K3 ?_
    refine cw_true rfl ?_
    refine cw_seq (fun FK5 K5 => ?_)
    refine cw_region ?_
    refine wl_call (args := []) in_14 rfl rfl rfl ?_
    refine (works_ (tab.below (Nat.le_refl _) O0.old)).mono ?_
    rintro _ w6 ⟨rfl, hb7⟩
    have O8 : Own Z0 W w6 [] := O0.below hb7
    refine ⟨_, rfl, ?_⟩
    refine wl_val (v := .bool true) (fun ρ e => ex_assign (e _ _ rfl)) rfl rfl ?_
    refine wl_nil ?_
    refine xw_next K5 ?_
    refine cw_ret ?_
    refine xw_past (by intro h; cases h) ?_
    refine xw_ret (v := .bool true) (fun T hT => res1 rfl T _ (hT 6 _ rfl)) ?_
    exact ⟨rfl, O8.old⟩
  · skip
    refine wl_val (v := .bool false) (fun ρ e => ex_cmp (u := ((ts.length : Nat) : Int)) (v := 300) (e _ _ rfl) (e _ _ rfl) (gtr0 (by omega))) rfl rfl ?_
    refine wl_nil ?_
    refine xw_next K3 ?_
    refine cw_false rfl ?_
    refine cw_skip ?_
    refine xw_next K2 ?_
    refine cw_seq (fun FK9 K9 => ?_)
    refine cw_region ?_
    refine wl_val (v := .slice A ts.length c) (fun ρ e => ex_move (e _ _ rfl)) rfl rfl ?_
    refine wl_val (v := .int .i64 x) (fun ρ e => ex_move (e _ _ rfl)) rfl rfl ?_
    refine wl_val (v := .int .i64 y) (fun ρ e => ex_move (e _ _ rfl)) rfl rfl ?_
    refine wl_call (args := [.slice A ts.length c, .int .i64 x, .int .i64 y]) in_15 rfl rfl rfl ?_
    refine (meet_ (hN.move (fun k hk => (O0.old).block k (hD k hk))) (fun k hk => Nat.lt_of_lt_of_le (hD k hk) (O0.old).size) x y).mono ?_
    rintro _ w10 ⟨rfl, hb11⟩
    have O12 : Own Z0 W w10 [] := O0.below hb11
    refine ⟨_, rfl, ?_⟩
    refine wl_val (v := .slice A ts.length c) (fun ρ e => ex_move (e _ _ rfl)) rfl rfl ?_
    refine wl_val (v := .int .i64 x) (fun ρ e => ex_move (e _ _ rfl)) rfl rfl ?_
    refine wl_val (v := .int .i64 y) (fun ρ e => ex_move (e _ _ rfl)) rfl rfl ?_
    refine wl_call (args := [.slice A ts.length c, .int .i64 x, .int .i64 y]) in_16 rfl rfl rfl ?_
    refine (rmeet_ (hN.move (fun k hk => (O12.old).block k (hD k hk))) (fun k hk => Nat.lt_of_lt_of_le (hD k hk) (O12.old).size) (by omega) x y).mono ?_
    rintro _ w13 ⟨rfl, hb14⟩
    have O15 : Own Z0 W w13 [] := O12.below hb14
    refine ⟨_, rfl, ?_⟩
    refine wl_val (v := .bool true) (fun ρ e => ex_cmp (u := (meetOf ts x y)) (v := (meetOf ts x y)) (e _ _ rfl) (e _ _ rfl) (eql1 rfl)) rfl rfl ?_
    refine wl_val (v := .bool true) (fun ρ e => ex_move (e _ _ rfl)) rfl rfl ?_
    refine wl_call (args := []) in_14 rfl rfl rfl ?_
    refine (works_ (tab.below (Nat.le_refl _) O15.old)).mono ?_
    rintro _ w16 ⟨rfl, hb17⟩
    have O18 : Own Z0 W w16 [] := O15.below hb17
    refine ⟨_, rfl, ?_⟩
    refine wl_val (v := .bool true) (fun ρ e => ex_pick1 (e _ _ rfl) (e _ _ rfl)) rfl rfl ?_
    refine wl_val (v := .bool true) (fun ρ e => ex_assign (e _ _ rfl)) rfl rfl ?_
    refine wl_nil ?_
    refine xw_next K9 ?_
    refine cw_ret ?_
    refine xw_ret (v := .bool true) (fun T hT => res1 rfl T _ (hT 6 _ rfl)) ?_
    exact ⟨rfl, O18.old⟩
end Go.Proofs.YtpeoodkepjhhiaaDoor
namespace Go.Proofs.YtpeoodkepjhhiaaDoor
open Go Go.RowKit
theorem same_ {W : World} {D D2 : Nat → Prop} {V V2 : Value} {ts : List VN} (hN : NodesD D W V ts) (hD : ∀ k, D k → k < W.heap.size) (hN2 : NodesD D2 W V2 ts) (hD2 : ∀ k, D2 k → k < W.heap.size) : Calls Tryd.prog 38 #[V, V2] W fun e w' => e = .returned (.bool true) ∧ Below W.heap.size W w' := by
  obtain ⟨A, c, rfl⟩ := hN.slice
  obtain ⟨A2, c2, rfl⟩ := hN2.slice
  have hmx : maxLen = 9223372036854775807 := rfl
  have hcap := hN.cap
  rcases Nat.eq_zero_or_pos ts.length with h0 | h0
  · skip
    have O0 : Own Z0 W W [] := Own.start W
    refine sx_enter (args := [.slice A ts.length c, .slice A2 ts.length c2]) Tryd.func38 rfl rfl (by simp) ?_
    refine cw_seq (fun FK1 K1 => ?_)
    refine cw_region ?_
    refine wl_val (v := .bool false) (fun ρ e => ex_assign (e _ _ rfl)) rfl rfl ?_
    refine wl_nil ?_
    refine xw_next K1 ?_
    refine cw_seq (fun FK2 K2 => ?_)
    refine cw_seq (fun FK3 K3 => ?_)
    refine cw_region ?_
    refine wl_val (v := .slice A ts.length c) (fun ρ e => ex_move (e _ _ rfl)) rfl rfl ?_
    refine wl_val (v := .int .i64 ((ts.length : Nat) : Int)) (fun ρ e => ex_len el23 (e _ _ rfl)) rfl rfl ?_
    refine wl_val (v := .slice A2 ts.length c2) (fun ρ e => ex_move (e _ _ rfl)) rfl rfl ?_
    refine wl_val (v := .int .i64 ((ts.length : Nat) : Int)) (fun ρ e => ex_len el23 (e _ _ rfl)) rfl rfl ?_
    refine wl_val (v := .bool false) (fun ρ e => ex_cmp (u := ((ts.length : Nat) : Int)) (v := ((ts.length : Nat) : Int)) (e _ _ rfl) (e _ _ rfl) (neq0 rfl)) rfl rfl ?_
    refine wl_nil ?_
    refine xw_next K3 ?_
    refine cw_false rfl ?_
    refine cw_skip ?_
    refine xw_next K2 ?_
    refine cw_seq (fun FK4 K4 => ?_)
    refine cw_seq (fun FK5 K5 => ?_)
    refine cw_region ?_
    refine wl_val (v := .int .i64 0) (fun ρ e => ex_assign (e _ _ rfl)) rfl rfl ?_
    refine wl_nil ?_
    refine xw_next K5 ?_
    refine cw_block ?_
    refine cw_loop (ι := Nat) (fun q => [(0, .slice A ts.length c), (1, .slice A2 ts.length c2), (5, .int .i64 (q : Int))]) (fun q X => (q ≤ ts.length) ∧ Own Z0 W X []) (fun q => ts.length - q) 0 ⟨Nat.zero_le _, O0⟩ ⟨rfl, rfl, rfl, trivial⟩ (fun q w6 hJ F7 K8 => ?_)
    obtain ⟨i, rfl⟩ : ∃ x, x = q := ⟨_, rfl⟩
    obtain ⟨hi0, O9⟩ := hJ
    try dsimp only at hi0 O9 ⊢
    by_cases hi : i < ts.length
    · skip
      exact absurd hi (by omega)
    · skip
      refine cw_seq (fun FK10 K10 => ?_)
      refine cw_seq (fun FK11 K11 => ?_)
      refine cw_region ?_
      refine wl_val (v := .int .i64 (i : Int)) (fun ρ e => ex_move (e _ _ rfl)) rfl rfl ?_
      refine wl_val (v := .slice A ts.length c) (fun ρ e => ex_move (e _ _ rfl)) rfl rfl ?_
      refine wl_val (v := .int .i64 ((ts.length : Nat) : Int)) (fun ρ e => ex_len el23 (e _ _ rfl)) rfl rfl ?_
      refine wl_val (v := .bool false) (fun ρ e => ex_cmp (u := (i : Int)) (v := ((ts.length : Nat) : Int)) (e _ _ rfl) (e _ _ rfl) (lss0 (by omega))) rfl rfl ?_
      refine wl_nil ?_
      refine xw_next K11 ?_
      refine cw_false rfl ?_
      refine cw_exit ?_
      refine xw_past (by intro h; cases h) ?_
      refine xw_past (by intro h; cases h) ?_
      refine xw_here ?_
      refine xw_next K4 ?_
      refine cw_seq (fun FK12 K12 => ?_)
      refine cw_region ?_
      refine wl_val (v := .bool true) (fun ρ e => ex_assign (e _ _ rfl)) rfl rfl ?_
      refine wl_nil ?_
      refine xw_next K12 ?_
      refine cw_ret ?_
      refine xw_ret (v := .bool true) (fun T hT => res1 rfl T _ (hT 4 _ rfl)) ?_
      exact ⟨rfl, O9.old⟩
  · obtain ⟨b, o, c', hv, hDb⟩ := hN.form h0
    injection hv with hA _ hc
    subst hA hc
    obtain ⟨b3, o3, c', hv, hDb2⟩ := hN2.form h0
    injection hv with hA _ hc
    subst hA hc
    have O0 : Own Z0 W W [.ro D (fun w => NodesD D w (.slice (some ⟨b, o, none⟩) ts.length c) ts), .ro D2 (fun w => NodesD D2 w (.slice (some ⟨b3, o3, none⟩) ts.length c2) ts)] := ((Own.start W).oldro (D := D2) (p := (fun w => NodesD D2 w (.slice (some ⟨b3, o3, none⟩) ts.length c2) ts)) (nodesE_holds hN2 hD2)).oldro (D := D) (p := (fun w => NodesD D w (.slice (some ⟨b, o, none⟩) ts.length c) ts)) (nodesE_holds hN hD)
    refine sx_enter (args := [.slice (some ⟨b, o, none⟩) ts.length c, .slice (some ⟨b3, o3, none⟩) ts.length c2]) Tryd.func38 rfl rfl (by simp) ?_
    refine cw_seq (fun FK13 K13 => ?_)
    refine cw_region ?_
    refine wl_val (v := .bool false) (fun ρ e => ex_assign (e _ _ rfl)) rfl rfl ?_
    refine wl_nil ?_
    refine xw_next K13 ?_
    refine cw_seq (fun FK14 K14 => ?_)
    refine cw_seq (fun FK15 K15 => ?_)
    refine cw_region ?_
    refine wl_val (v := .slice (some ⟨b, o, none⟩) ts.length c) (fun ρ e => ex_move (e _ _ rfl)) rfl rfl ?_
    refine wl_val (v := .int .i64 ((ts.length : Nat) : Int)) (fun ρ e => ex_len el23 (e _ _ rfl)) rfl rfl ?_
    refine wl_val (v := .slice (some ⟨b3, o3, none⟩) ts.length c2) (fun ρ e => ex_move (e _ _ rfl)) rfl rfl ?_
    refine wl_val (v := .int .i64 ((ts.length : Nat) : Int)) (fun ρ e => ex_len el23 (e _ _ rfl)) rfl rfl ?_
    refine wl_val (v := .bool false) (fun ρ e => ex_cmp (u := ((ts.length : Nat) : Int)) (v := ((ts.length : Nat) : Int)) (e _ _ rfl) (e _ _ rfl) (neq0 rfl)) rfl rfl ?_
    refine wl_nil ?_
    refine xw_next K15 ?_
    refine cw_false rfl ?_
    refine cw_skip ?_
    refine xw_next K14 ?_
    refine cw_seq (fun FK16 K16 => ?_)
    refine cw_seq (fun FK17 K17 => ?_)
    refine cw_region ?_
    refine wl_val (v := .int .i64 0) (fun ρ e => ex_assign (e _ _ rfl)) rfl rfl ?_
    refine wl_nil ?_
    refine xw_next K17 ?_
    refine cw_block ?_
    refine cw_loop (ι := Nat) (fun q => [(0, .slice (some ⟨b, o, none⟩) ts.length c), (1, .slice (some ⟨b3, o3, none⟩) ts.length c2), (5, .int .i64 (q : Int))]) (fun q X => (q ≤ ts.length) ∧ Own Z0 W X [.ro D (fun w => NodesD D w (.slice (some ⟨b, o, none⟩) ts.length c) ts), .ro D2 (fun w => NodesD D2 w (.slice (some ⟨b3, o3, none⟩) ts.length c2) ts)]) (fun q => ts.length - q) 0 ⟨Nat.zero_le _, O0⟩ ⟨rfl, rfl, rfl, trivial⟩ (fun q w18 hJ F19 K20 => ?_)
    obtain ⟨i, rfl⟩ : ∃ x, x = q := ⟨_, rfl⟩
    obtain ⟨hi0, O21⟩ := hJ
    try dsimp only at hi0 O21 ⊢
    by_cases hi : i < ts.length
    · skip
      obtain ⟨⟨xl, xr, xv⟩, hx⟩ : ∃ x, ts[i]? = some x := ⟨ts[i], List.getElem?_eq_getElem hi⟩
      refine cw_seq (fun FK22 K22 => ?_)
      refine cw_seq (fun FK23 K23 => ?_)
      refine cw_region ?_
      refine wl_val (v := .int .i64 (i : Int)) (fun ρ e => ex_move (e _ _ rfl)) rfl rfl ?_
      refine wl_val (v := .slice (some ⟨b, o, none⟩) ts.length c) (fun ρ e => ex_move (e _ _ rfl)) rfl rfl ?_
      refine wl_val (v := .int .i64 ((ts.length : Nat) : Int)) (fun ρ e => ex_len el23 (e _ _ rfl)) rfl rfl ?_
      refine wl_val (v := .bool true) (fun ρ e => ex_cmp (u := (i : Int)) (v := ((ts.length : Nat) : Int)) (e _ _ rfl) (e _ _ rfl) (lss1 (by omega))) rfl rfl ?_
      refine wl_nil ?_
      refine xw_next K23 ?_
      refine cw_true rfl ?_
      refine cw_skip ?_
      refine xw_next K22 ?_
      refine cw_seq (fun FK24 K24 => ?_)
      refine cw_block ?_
      refine cw_seq (fun FK25 K25 => ?_)
      refine cw_drawn (fun X => Own Z0 W X [.ro D (fun w => NodesD D w (.slice (some ⟨b, o, none⟩) ts.length c) ts), .ro D2 (fun w => NodesD D2 w (.slice (some ⟨b3, o3, none⟩) ts.length c2) ts)]) 9 [(0, 1), (1, 1), (2, 1), (3, 0), (4, 1), (5, 1), (6, 1), (7, 0), (8, 1)] (by kernel_rfl) (by kernel_rfl) (PQ.then_ (PQ.block (PQ.then_ (PQ.then_ (PQ.block (PQ.then_ PQ.body)))))) (O21).drew ?_
      have O26 : Own Z0 W w18.drew [.ro D (fun w => NodesD D w (.slice (some ⟨b, o, none⟩) ts.length c) ts), .ro D2 (fun w => NodesD D2 w (.slice (some ⟨b3, o3, none⟩) ts.length c2) ts)] := O21.drew
      refine wt1 (v := .slice (some ⟨b, o, none⟩) ts.length c) rfl (fun ρ e W => ex_move (e _ _ rfl)) rfl rfl ?_
      refine wt1 (v := .int .i64 (i : Int)) rfl (fun ρ e W => ex_move (e _ _ rfl)) rfl rfl ?_
      refine wt1 (v := .pointer (some ⟨b, o + i * 3, none⟩)) rfl (fun ρ e W => ex_idx (q := o + i * 3) (i := i) el23 (e _ _ rfl) (e _ _ rfl) (by omega) (by omega)) rfl rfl ?_
      refine wt0 (v := .agg #[.int .i64 xl, .int .i64 xr, .int .i64 xv]) rfl (fun ρ e W hW => ex_loadN (vs := [.int .i64 xl, .int .i64 xr, .int .i64 xv]) ty38 (e _ _ rfl) rfl (cells3 (NodesD.c0 ((hW.ro 0 rfl : (fun w => NodesD D w (.slice (some ⟨b, o, none⟩) ts.length c) ts) _) : NodesD _ _ _ _) hx) (NodesD.c1 ((hW.ro 0 rfl : (fun w => NodesD D w (.slice (some ⟨b, o, none⟩) ts.length c) ts) _) : NodesD _ _ _ _) hx) (NodesD.c2 ((hW.ro 0 rfl : (fun w => NodesD D w (.slice (some ⟨b, o, none⟩) ts.length c) ts) _) : NodesD _ _ _ _) hx))) rfl rfl ?_
      refine wt1 (v := .slice (some ⟨b3, o3, none⟩) ts.length c2) rfl (fun ρ e W => ex_move (e _ _ rfl)) rfl rfl ?_
      refine wt1 (v := .int .i64 (i : Int)) rfl (fun ρ e W => ex_move (e _ _ rfl)) rfl rfl ?_
      refine wt1 (v := .pointer (some ⟨b3, o3 + i * 3, none⟩)) rfl (fun ρ e W => ex_idx (q := o3 + i * 3) (i := i) el23 (e _ _ rfl) (e _ _ rfl) (by omega) (by omega)) rfl rfl ?_
      refine wt0 (v := .agg #[.int .i64 xl, .int .i64 xr, .int .i64 xv]) rfl (fun ρ e W hW => ex_loadN (vs := [.int .i64 xl, .int .i64 xr, .int .i64 xv]) ty38 (e _ _ rfl) rfl (cells3 (NodesD.c0 ((hW.ro 1 rfl : (fun w => NodesD D2 w (.slice (some ⟨b3, o3, none⟩) ts.length c2) ts) _) : NodesD _ _ _ _) hx) (NodesD.c1 ((hW.ro 1 rfl : (fun w => NodesD D2 w (.slice (some ⟨b3, o3, none⟩) ts.length c2) ts) _) : NodesD _ _ _ _) hx) (NodesD.c2 ((hW.ro 1 rfl : (fun w => NodesD D2 w (.slice (some ⟨b3, o3, none⟩) ts.length c2) ts) _) : NodesD _ _ _ _) hx))) rfl rfl ?_
      refine wt1 (v := .bool false) rfl (fun ρ e W => ex_neN (a := (VN.mk xl xr xv)) (b := (VN.mk xl xr xv)) (e _ _ rfl) (e _ _ rfl) (by rw [decide_eq_true rfl]; rfl)) rfl rfl ?_
      refine wt_nil ?_
      refine xw_next K25 ?_
      refine cw_false rfl ?_
      refine cw_skip ?_
      refine xw_block ?_
      refine xw_next K24 ?_
      refine cw_region ?_
      refine wl_val (v := .int .i64 (i : Int)) (fun ρ e => ex_move (e _ _ rfl)) rfl rfl ?_
      refine wl_val (v := .int .i64 ((i + 1 : Nat) : Int)) (fun ρ e => ex_arith (k := .i64) (u := (i : Int)) (v := 1) (e _ _ rfl) (e _ _ rfl) (congrArg some ((congrArg _ (by omega)).trans (wrap_in (u := ((i + 1 : Nat) : Int)) (by omega) (by omega))))) rfl rfl ?_
      refine wl_val (v := .int .i64 ((i + 1 : Nat) : Int)) (fun ρ e => ex_assign (e _ _ rfl)) rfl rfl ?_
      refine wl_nil ?_
      refine xw_round K20 (i + 1) (by show ts.length - (i + 1) < ts.length - i; omega) ⟨(by show i + 1 ≤ ts.length; omega), O26⟩ ⟨rfl, rfl, rfl, trivial⟩
    · skip
      refine cw_seq (fun FK27 K27 => ?_)
      refine cw_seq (fun FK28 K28 => ?_)
      refine cw_region ?_
      refine wl_val (v := .int .i64 (i : Int)) (fun ρ e => ex_move (e _ _ rfl)) rfl rfl ?_
      refine wl_val (v := .slice (some ⟨b, o, none⟩) ts.length c) (fun ρ e => ex_move (e _ _ rfl)) rfl rfl ?_
      refine wl_val (v := .int .i64 ((ts.length : Nat) : Int)) (fun ρ e => ex_len el23 (e _ _ rfl)) rfl rfl ?_
      refine wl_val (v := .bool false) (fun ρ e => ex_cmp (u := (i : Int)) (v := ((ts.length : Nat) : Int)) (e _ _ rfl) (e _ _ rfl) (lss0 (by omega))) rfl rfl ?_
      refine wl_nil ?_
      refine xw_next K28 ?_
      refine cw_false rfl ?_
      refine cw_exit ?_
      refine xw_past (by intro h; cases h) ?_
      refine xw_past (by intro h; cases h) ?_
      refine xw_here ?_
      refine xw_next K16 ?_
      refine cw_seq (fun FK29 K29 => ?_)
      refine cw_region ?_
      refine wl_val (v := .bool true) (fun ρ e => ex_assign (e _ _ rfl)) rfl rfl ?_
      refine wl_nil ?_
      refine xw_next K29 ?_
      refine cw_ret ?_
      refine xw_ret (v := .bool true) (fun T hT => res1 rfl T _ (hT 4 _ rfl)) ?_
      exact ⟨rfl, O21.old⟩
theorem equal_ {W : World} {D D2 : Nat → Prop} {V V2 : Value} {ts : List VN} (hN : NodesD D W V ts) (hD : ∀ k, D k → k < W.heap.size) (hN2 : NodesD D2 W V2 ts) (hD2 : ∀ k, D2 k → k < W.heap.size) (ev : Int) : Calls Tryd.prog 19 #[V, .int .i64 ev, V2, .int .i64 ev] W fun e w' => e = .returned (.bool true) ∧ Below W.heap.size W w' := by
  have O0 : Own Z0 W W [] := Own.start W
  refine sx_enter (args := [V, .int .i64 ev, V2, .int .i64 ev]) Tryd.func19 rfl rfl (by simp) ?_
  refine cw_seq (fun FK1 K1 => ?_)
  refine cw_region ?_
  refine wl_val (v := .bool false) (fun ρ e => ex_assign (e _ _ rfl)) rfl rfl ?_
  refine wl_nil ?_
  refine xw_next K1 ?_
  refine cw_seq (fun FK2 K2 => ?_)
  refine cw_region ?_
  refine wl_val (v := .int .i64 ev) (fun ρ e => ex_move (e _ _ rfl)) rfl rfl ?_
  refine wl_val (v := .int .i64 ev) (fun ρ e => ex_move (e _ _ rfl)) rfl rfl ?_
  refine wl_val (v := .bool true) (fun ρ e => ex_cmp (u := ev) (v := ev) (e _ _ rfl) (e _ _ rfl) (eql1 rfl)) rfl rfl ?_
  refine wl_val (v := .bool true) (fun ρ e => ex_move (e _ _ rfl)) rfl rfl ?_
  refine wl_val (v := V) (fun ρ e => ex_move (e _ _ rfl)) rfl rfl ?_
  refine wl_val (v := V2) (fun ρ e => ex_move (e _ _ rfl)) rfl rfl ?_
  refine wl_call (args := [V, V2]) in_38 rfl rfl rfl ?_
  refine (same_ hN hD hN2 hD2).mono ?_
  rintro _ w3 ⟨rfl, hb4⟩
  have O5 : Own Z0 W w3 [] := O0.below hb4
  refine ⟨_, rfl, ?_⟩
  refine wl_val (v := .bool true) (fun ρ e => ex_pick1 (e _ _ rfl) (e _ _ rfl)) rfl rfl ?_
  refine wl_val (v := .bool true) (fun ρ e => ex_assign (e _ _ rfl)) rfl rfl ?_
  refine wl_nil ?_
  refine xw_next K2 ?_
  refine cw_ret ?_
  refine xw_ret (v := .bool true) (fun T hT => res1 rfl T _ (hT 8 _ rfl)) ?_
  exact ⟨rfl, O5.old⟩
end Go.Proofs.YtpeoodkepjhhiaaDoor
