/-
  Lemmas and contracts, joined: Vchk Vtr Vta Vtx Vprint Vmv Vpa Vpar Vsc.
-/
import Derived.Test.YtpeoodkepjhhiaaDoorPf1
import Derived.Lib.ItoaNum
namespace Go.Proofs.YtpeoodkepjhhiaaDoor
open Go Go.RowKit
theorem take_more {α : Type} {l : List α} {k : Nat} {x : α} (h : l[k]? = some x) : l.take (k + 1) = l.take k ++ [x] := by
  obtain ⟨hk, rfl⟩ := List.getElem?_eq_some_iff.1 h
  exact (List.take_append_getElem hk).symm
section
variable {l : List VN} {xl xr xv : Int}
theorem preV_var (hx : lf ⟨xl, xr, xv⟩ = false) (hv : xv ≠ 0) : preB (l ++ [⟨xl, xr, xv⟩]) = false := pre_var hx hv
theorem preV_l (hx : lf ⟨xl, xr, xv⟩ = false) (hl : xl < 0 ∨ (l.length : Int) ≤ xl ∨ xl ∈ kidsL l) : preB (l ++ [⟨xl, xr, xv⟩]) = false := pre_l hx hl
theorem preV_r (hx : lf ⟨xl, xr, xv⟩ = false) (hr : xr < 0 ∨ (l.length : Int) ≤ xr ∨ xr ∈ kidsL l ++ [xl]) : preB (l ++ [⟨xl, xr, xv⟩]) = false := pre_r hx hr
theorem preV_in (h : preB l = true) (hx : lf ⟨xl, xr, xv⟩ = false) (hv : xv = 0) (h1 : 0 ≤ xl) (h2 : xl < l.length) (h3 : xl ∉ kidsL l) (h4 : 0 ≤ xr) (h5 : xr < l.length) (h6 : xr ∉ kidsL l ++ [xl]) : preB (l ++ [⟨xl, xr, xv⟩]) = true := pre_in h hx hv h1 h2 h3 h4 h5 h6
end
def chkV (ts : List VN) : Int := if okT ts then 0 else 1
theorem not_ok {ts : List VN} (k : Nat) (h : preB (ts.take k) = false) : okT ts = false := by
  rw [Bool.eq_false_iff]; intro q
  rw [preB_take (okT_parts.1 q).2.2.1 k] at h; cases h
theorem not_ok_len {ts : List VN} (h : ts.length = 0 ∨ 255 < ts.length) : okT ts = false := by
  rw [Bool.eq_false_iff]; intro q
  obtain ⟨h1, h2, _⟩ := okT_parts.1 q
  omega
theorem cover_iff (ts : List VN) : coverB ts = true ↔ ∀ k, k < ts.length - 1 → (k : Int) ∈ kidsL ts := by
  unfold coverB
  simp
theorem check_ {W : World} {D : Nat → Prop} {V : Value} {ts : List VN} (hN : NodesD D W V ts) (hD : ∀ k, D k → k < W.heap.size) :
    Calls Tryd.prog 23 #[V] W fun e w' => e = .returned (.int .i64 (chkV ts)) ∧ Below W.heap.size W w' := by
  obtain ⟨A, c, rfl⟩ := hN.slice
  rcases Nat.eq_zero_or_pos ts.length with h0 | h0
  · skip
    have O0 : Own Z0 W W [] := Own.start W
    refine sx_enter (args := [.slice A ts.length c]) Tryd.func23 rfl rfl (by simp) ?_
    refine cw_seq (fun FK1 K1 => ?_)
    refine cw_region ?_
    refine wl_val (v := .int .i64 0) (fun ρ e => ex_assign (e _ _ rfl)) rfl rfl ?_
    refine wl_nil ?_
    refine xw_next K1 ?_
    refine cw_seq (fun FK2 K2 => ?_)
    refine cw_seq (fun FK3 K3 => ?_)
    refine cw_region ?_
    refine wl_val (v := .slice A ts.length c) (fun ρ e => ex_move (e _ _ rfl)) rfl rfl ?_
    refine wl_val (v := .int .i64 ((ts.length : Nat) : Int)) (fun ρ e => ex_len el23 (e _ _ rfl)) rfl rfl ?_
    refine wl_val (v := .bool true) (fun ρ e => ex_cmp (u := ((ts.length : Nat) : Int)) (v := 0) (e _ _ rfl) (e _ _ rfl) (eql1 (by omega))) rfl rfl ?_
    refine wl_val (v := .bool true) (fun ρ e => ex_move (e _ _ rfl)) rfl rfl ?_
    refine wl_skip rfl rfl ?_
    refine wl_skip rfl rfl ?_
    refine wl_skip rfl rfl ?_
    refine wl_val (v := .bool true) (fun ρ e => ex_pick1 (e _ _ rfl) (e _ _ rfl)) rfl rfl ?_
    refine wl_nil ?_
    refine xw_next K3 ?_
    refine cw_true rfl ?_
    refine cw_seq (fun FK4 K4 => ?_)
    refine cw_region ?_
    refine wl_val (v := .int .i64 1) (fun ρ e => ex_assign (e _ _ rfl)) rfl rfl ?_
    refine wl_nil ?_
    refine xw_next K4 ?_
    refine cw_ret ?_
    refine xw_past (by intro h; cases h) ?_
    refine xw_ret (v := .int .i64 1) (fun T hT => res1 rfl T _ (hT 2 _ rfl)) ?_
    exact ⟨by unfold chkV; rw [not_ok_len (by omega)]; rfl, O0.old⟩
  · obtain ⟨b, o, c', hv, hDb⟩ := hN.form h0
    injection hv with hA _ hc
    subst hA hc
    have O0 : Own Z0 W W [.ro D (fun w => NodesD D w (.slice (some ⟨b, o, none⟩) ts.length c) ts)] := (Own.start W).oldro (D := D) (p := (fun w => NodesD D w (.slice (some ⟨b, o, none⟩) ts.length c) ts)) (nodesE_holds hN hD)
    refine sx_enter (args := [.slice (some ⟨b, o, none⟩) ts.length c]) Tryd.func23 rfl rfl (by simp) ?_
    refine cw_seq (fun FK5 K5 => ?_)
    refine cw_region ?_
    refine wl_val (v := .int .i64 0) (fun ρ e => ex_assign (e _ _ rfl)) rfl rfl ?_
    refine wl_nil ?_
    refine xw_next K5 ?_
    refine cw_seq (fun FK6 K6 => ?_)
    refine cw_seq (fun FK7 K7 => ?_)
    refine cw_region ?_
    refine wl_val (v := .slice (some ⟨b, o, none⟩) ts.length c) (fun ρ e => ex_move (e _ _ rfl)) rfl rfl ?_
    refine wl_val (v := .int .i64 ((ts.length : Nat) : Int)) (fun ρ e => ex_len el23 (e _ _ rfl)) rfl rfl ?_
    refine wl_val (v := .bool false) (fun ρ e => ex_cmp (u := ((ts.length : Nat) : Int)) (v := 0) (e _ _ rfl) (e _ _ rfl) (eql0 (by omega))) rfl rfl ?_
    refine wl_val (v := .bool false) (fun ρ e => ex_move (e _ _ rfl)) rfl rfl ?_
    refine wl_val (v := .slice (some ⟨b, o, none⟩) ts.length c) (fun ρ e => ex_move (e _ _ rfl)) rfl rfl ?_
    refine wl_val (v := .int .i64 ((ts.length : Nat) : Int)) (fun ρ e => ex_len el23 (e _ _ rfl)) rfl rfl ?_
    by_cases c8 : ((ts.length : Nat) : Int) > 255
    · skip
      refine wl_val (v := .bool true) (fun ρ e => ex_cmp (u := ((ts.length : Nat) : Int)) (v := 255) (e _ _ rfl) (e _ _ rfl) (gtr1 (by omega))) rfl rfl ?_
      refine wl_val (v := .bool true) (fun ρ e => ex_pick0 (e _ _ rfl) (e _ _ rfl)) rfl rfl ?_
      refine wl_nil ?_
      refine xw_next K7 ?_
      refine cw_true rfl ?_
      refine cw_seq (fun FK9 K9 => ?_)
      refine cw_region ?_
      refine wl_val (v := .int .i64 1) (fun ρ e => ex_assign (e _ _ rfl)) rfl rfl ?_
      refine wl_nil ?_
      refine xw_next K9 ?_
      refine cw_ret ?_
      refine xw_past (by intro h; cases h) ?_
      refine xw_ret (v := .int .i64 1) (fun T hT => res1 rfl T _ (hT 2 _ rfl)) ?_
      exact ⟨by unfold chkV; rw [not_ok_len (by omega)]; rfl, O0.old⟩
    · skip
      refine wl_val (v := .bool false) (fun ρ e => ex_cmp (u := ((ts.length : Nat) : Int)) (v := 255) (e _ _ rfl) (e _ _ rfl) (gtr0 (by omega))) rfl rfl ?_
      refine wl_val (v := .bool false) (fun ρ e => ex_pick0 (e _ _ rfl) (e _ _ rfl)) rfl rfl ?_
      refine wl_nil ?_
      refine xw_next K7 ?_
      refine cw_false rfl ?_
      refine cw_skip ?_
      refine xw_next K6 ?_
      refine cw_seq (fun FK10 K10 => ?_)
      refine cw_region ?_
      obtain ⟨g11, w12, r13, O14, hg15, hs16⟩ := own_alloc O0 70 ze70 (cs := (boolCs (flagL 129 [])).toArray) (by rw [flagL_nil]; simp [boolCs, Value.cells])
      refine wl_val (v := .pointer (some ⟨g11, 0, none⟩)) (fun ρ e => r13 ρ _ _ _ _ _) rfl rfl ?_
      refine wl_nil ?_
      refine xw_next K10 ?_
      refine cw_seq (fun FK17 K17 => ?_)
      refine cw_region ?_
      refine wl_val (v := .slice (some ⟨b, o, none⟩) ts.length c) (fun ρ e => ex_move (e _ _ rfl)) rfl rfl ?_
      refine wl_val (v := .int .i64 ((ts.length : Nat) : Int)) (fun ρ e => ex_len el23 (e _ _ rfl)) rfl rfl ?_
      obtain ⟨g18, w19, r20, O21, hg22, hs23⟩ := own_make1 O14 ap71 rfl ts.length (by decide) (by omega) (cs := (boolCs (flagL ts.length [])).toArray) (by rw [flagL_nil]; simp [boolCs])
      refine wl_val (v := .slice (some ⟨g18, 0, none⟩) ts.length ts.length) (fun ρ e => r20 ρ _ _ _ _ _ _ _ (e _ _ rfl) (e _ _ rfl)) rfl rfl ?_
      refine wl_val (v := .slice (some ⟨g18, 0, none⟩) ts.length ts.length) (fun ρ e => ex_assign (e _ _ rfl)) rfl rfl ?_
      refine wl_nil ?_
      refine xw_next K17 ?_
      refine cw_seq (fun FK24 K24 => ?_)
      refine cw_seq (fun FK25 K25 => ?_)
      refine cw_region ?_
      refine wl_val (v := .slice (some ⟨b, o, none⟩) ts.length c) (fun ρ e => ex_move (e _ _ rfl)) rfl rfl ?_
      refine wl_val (v := .int .i64 ((ts.length : Nat) : Int)) (fun ρ e => ex_len el23 (e _ _ rfl)) rfl rfl ?_
      refine wl_val (v := .int .i64 0) (fun ρ e => ex_move (e _ _ rfl)) rfl rfl ?_
      refine wl_nil ?_
      refine xw_next K25 ?_
      refine cw_block ?_
      have O26 : Own Z0 W w19 [.blk g11 70 ((boolCs (flagL 129 [])).toArray), .blk g18 4 ((boolCs (flagL ts.length [])).toArray), .ro D (fun w => NodesD D w (.slice (some ⟨b, o, none⟩) ts.length c) ts)] := (O21.re [1, 0, 2] rfl : Own Z0 W w19 [.blk g11 70 ((boolCs (flagL 129 [])).toArray), .blk g18 4 ((boolCs (flagL ts.length [])).toArray), .ro D (fun w => NodesD D w (.slice (some ⟨b, o, none⟩) ts.length c) ts)])
      refine cw_loop (ι := Nat) (fun q => [(0, .slice (some ⟨b, o, none⟩) ts.length c), (3, .pointer (some ⟨g11, 0, none⟩)), (4, .slice (some ⟨g18, 0, none⟩) ts.length ts.length), (22, .slice (some ⟨b, o, none⟩) ts.length c), (23, .int .i64 ((ts.length : Nat) : Int)), (24, .int .i64 (q : Int))]) (fun q X => (q ≤ ts.length) ∧ (preB (ts.take q) = true) ∧ Own Z0 W X [.blk g11 70 ((boolCs (flagL 129 (varsL (ts.take q)))).toArray), .blk g18 4 ((boolCs (flagL ts.length (kidsL (ts.take q)))).toArray), .ro D (fun w => NodesD D w (.slice (some ⟨b, o, none⟩) ts.length c) ts)]) (fun q => ts.length - q) 0 ⟨Nat.zero_le _, (by rw [List.take_zero]; rfl), O26⟩ ⟨rfl, rfl, rfl, rfl, rfl, rfl, trivial⟩ (fun q w27 hJ F28 K29 => ?_)
      obtain ⟨i, rfl⟩ : ∃ x, x = q := ⟨_, rfl⟩
      obtain ⟨hi0, hp, O30⟩ := hJ
      try dsimp only at hi0 hp O30 ⊢
      by_cases hi : i < ts.length
      · skip
        obtain ⟨⟨xl, xr, xv⟩, hx⟩ : ∃ x, ts[i]? = some x := ⟨ts[i], List.getElem?_eq_getElem hi⟩
        have htk : ts.take (i + 1) = ts.take i ++ [⟨xl, xr, xv⟩] := take_more hx
        have hlen : (ts.take i).length = i := by rw [List.length_take]; omega
        refine cw_seq (fun FK31 K31 => ?_)
        refine cw_region ?_
        refine wl_val (v := .bool true) (fun ρ e => ex_cmp (u := (i : Int)) (v := ((ts.length : Nat) : Int)) (e _ _ rfl) (e _ _ rfl) (lss1 (by omega))) rfl rfl ?_
        refine wl_nil ?_
        refine xw_next K31 ?_
        refine cw_seq (fun FK32 K32 => ?_)
        refine cw_true rfl ?_
        refine cw_skip ?_
        refine xw_next K32 ?_
        refine cw_seq (fun FK33 K33 => ?_)
        refine cw_block ?_
        refine cw_seq (fun FK34 K34 => ?_)
        refine cw_region ?_
        refine wl_val (v := .int .i64 (i : Int)) (fun ρ e => ex_move (e _ _ rfl)) rfl rfl ?_
        refine wl_val (v := .pointer (some ⟨b, o + i * 3, none⟩)) (fun ρ e => ex_idx (q := o + i * 3) (i := i) el23 (e _ _ rfl) (e _ _ rfl) (by omega) (by omega)) rfl rfl ?_
        refine wl_val (v := .agg #[.int .i64 xl, .int .i64 xr, .int .i64 xv]) (fun ρ e => ex_loadN (vs := [.int .i64 xl, .int .i64 xr, .int .i64 xv]) ty38 (e _ _ rfl) rfl (cells3 (NodesD.c0 ((O30.ro 2 rfl : (fun w => NodesD D w (.slice (some ⟨b, o, none⟩) ts.length c) ts) _) : NodesD _ _ _ _) hx) (NodesD.c1 ((O30.ro 2 rfl : (fun w => NodesD D w (.slice (some ⟨b, o, none⟩) ts.length c) ts) _) : NodesD _ _ _ _) hx) (NodesD.c2 ((O30.ro 2 rfl : (fun w => NodesD D w (.slice (some ⟨b, o, none⟩) ts.length c) ts) _) : NodesD _ _ _ _) hx))) rfl rfl ?_
        obtain ⟨g35, w36, r37, O38, hg39, hs40⟩ := own_alloc O30 38 ze38 rfl
        refine wl_val (v := .pointer (some ⟨g35, 0, none⟩)) (fun ρ e => r37 ρ _ _ _ _ _) rfl rfl ?_
        refine wl_val (v := .int .i64 (i : Int)) (fun ρ e => ex_assign (e _ _ rfl)) rfl rfl ?_
        obtain ⟨w41, r42, O43, hs44⟩ := own_put (o := 0) (n := 3) O38 ty38 (.agg #[.int .i64 xl, .int .i64 xr, .int .i64 xv]) [.int .i64 xl, .int .i64 xr, .int .i64 xv] (cs' := #[.int .i64 xl, .int .i64 xr, .int .i64 xv]) rfl rfl rfl (Nat.le_of_ble_eq_true rfl) rfl
        refine wl_none (fun ρ e => r42 ρ _ _ _ _ _ _ (e _ _ rfl) (e _ _ rfl)) rfl ?_
        refine wl_nil ?_
        refine xw_next K34 ?_
        refine cw_seq (fun FK45 K45 => ?_)
        refine cw_seq (fun FK46 K46 => ?_)
        refine cw_region ?_
        refine wl_val (v := .agg #[.int .i64 xl, .int .i64 xr, .int .i64 xv]) (fun ρ e => ex_loadN (vs := [.int .i64 xl, .int .i64 xr, .int .i64 xv]) ty38 (e _ _ rfl) rfl (O43.cells 0 0 rfl rfl)) rfl rfl ?_
        refine wl_call (args := [.agg #[.int .i64 xl, .int .i64 xr, .int .i64 xv]]) in_53 rfl rfl rfl ?_
        refine (isleaf_ (VN.mk xl xr xv) (W := w41)).mono ?_
        rintro _ w47 ⟨rfl, hb48⟩
        have O49 : Own Z0 W w47 [.blk g35 38 #[.int .i64 xl, .int .i64 xr, .int .i64 xv], .blk g11 70 ((boolCs (flagL 129 (varsL (ts.take i)))).toArray), .blk g18 4 ((boolCs (flagL ts.length (kidsL (ts.take i)))).toArray), .ro D (fun w => NodesD D w (.slice (some ⟨b, o, none⟩) ts.length c) ts)] := O43.below hb48
        refine ⟨_, rfl, ?_⟩
        refine wl_nil ?_
        refine xw_next K46 ?_
        refine cw_cond (b := (lf (VN.mk xl xr xv))) rfl (fun c50 => ?_) (fun c50 => ?_)
        · skip
          obtain ⟨_, _, hv1, hv2⟩ := (lf_iff _).1 c50
          dsimp only at hv1 hv2
          obtain ⟨v, rfl⟩ : ∃ n : Nat, xv = n := ⟨xv.toNat, by omega⟩
          refine cw_seq (fun FK51 K51 => ?_)
          refine cw_seq (fun FK52 K52 => ?_)
          refine cw_region ?_
          refine wl_val (v := .pointer (some ⟨g35, 2, none⟩)) (fun ρ e => ex_field (q := 2) fi38_2 (e _ _ rfl) rfl) rfl rfl ?_
          refine wl_val (v := .int .i64 (v : Int)) (fun ρ e => ex_load1 ty3 (e _ _ rfl) (O49.cell 0 2 rfl rfl)) rfl rfl ?_
          refine wl_val (v := .pointer (some ⟨g11, v, none⟩)) (fun ρ e => ex_idxA (q := v) (i := v) an70 (e _ _ rfl) (e _ _ rfl) (by omega) (by omega)) rfl rfl ?_
          refine wl_val (v := .bool (decide ((v : Int) ∈ (varsL (ts.take i))))) (fun ρ e => ex_load1 ty4 (e _ _ rfl) (O49.cell 1 v rfl (getBo (flagL_get (varsL (ts.take i)) (by omega))))) rfl rfl ?_
          refine wl_nil ?_
          refine xw_next K52 ?_
          refine cw_cond (b := (decide ((v : Int) ∈ (varsL (ts.take i))))) rfl (fun c53 => ?_) (fun c53 => ?_)
          · skip
            refine cw_seq (fun FK54 K54 => ?_)
            refine cw_region ?_
            refine wl_val (v := .int .i64 1) (fun ρ e => ex_assign (e _ _ rfl)) rfl rfl ?_
            refine wl_nil ?_
            refine xw_next K54 ?_
            refine cw_ret ?_
            refine xw_past (by intro h; cases h) ?_
            refine xw_past (by intro h; cases h) ?_
            refine xw_blockret ?_
            refine xw_past (by intro h; cases h) ?_
            refine xw_past (by intro h; cases h) ?_
            refine xw_blockret ?_
            refine xw_past (by intro h; cases h) ?_
            refine xw_ret (v := .int .i64 1) (fun T hT => res1 rfl T _ (hT 2 _ rfl)) ?_
            have hno : okT ts = false := not_ok (i + 1) (by rw [htk]; exact (pre_leaf hp c50).trans (by rw [c53]; rfl))
            exact ⟨by unfold chkV; rw [hno]; rfl, O49.old⟩
          · skip
            refine cw_skip ?_
            refine xw_next K51 ?_
            refine cw_seq (fun FK55 K55 => ?_)
            refine cw_region ?_
            refine wl_val (v := .pointer (some ⟨g35, 2, none⟩)) (fun ρ e => ex_field (q := 2) fi38_2 (e _ _ rfl) rfl) rfl rfl ?_
            refine wl_val (v := .int .i64 (v : Int)) (fun ρ e => ex_load1 ty3 (e _ _ rfl) (O49.cell 0 2 rfl rfl)) rfl rfl ?_
            refine wl_val (v := .pointer (some ⟨g11, v, none⟩)) (fun ρ e => ex_idxA (q := v) (i := v) an70 (e _ _ rfl) (e _ _ rfl) (by omega) (by omega)) rfl rfl ?_
            obtain ⟨w56, r57, O58, hs59⟩ := own_put (o := v) (n := 1) (O49.re [1, 0, 2, 3] rfl : Own Z0 W w47 [.blk g11 70 ((boolCs (flagL 129 (varsL (ts.take i)))).toArray), .blk g35 38 #[.int .i64 xl, .int .i64 xr, .int .i64 (v : Int)], .blk g18 4 ((boolCs (flagL ts.length (kidsL (ts.take i)))).toArray), .ro D (fun w => NodesD D w (.slice (some ⟨b, o, none⟩) ts.length c) ts)]) ty4 (.bool true) [.bool true] (cs' := (boolCs (flagL 129 ((varsL (ts.take i)) ++ [(v : Int)]))).toArray) rfl rfl rfl (by simp [boolCs, flagL_len] <;> omega) ((setBo _ v true).trans (congrArg (fun z => (boolCs z).toArray) (flagL_set 129 v (varsL (ts.take i)))))
            refine wl_none (fun ρ e => r57 ρ _ _ _ _ _ _ (e _ _ rfl) (e _ _ rfl)) rfl ?_
            refine wl_nil ?_
            refine xw_next K55 ?_
            refine cw_exit ?_
            refine xw_past (by intro h; cases h) ?_
            refine xw_here ?_
            refine xw_next K33 ?_
            refine cw_region ?_
            refine wl_val (v := .int .i64 ((i + 1 : Nat) : Int)) (fun ρ e => ex_arith (k := .i64) (u := (i : Int)) (v := 1) (e _ _ rfl) (e _ _ rfl) (congrArg some ((congrArg _ (by omega)).trans (wrap_in (u := ((i + 1 : Nat) : Int)) (by omega) (by omega))))) rfl rfl ?_
            refine wl_val (v := .int .i64 ((i + 1 : Nat) : Int)) (fun ρ e => ex_move (e _ _ rfl)) rfl rfl ?_
            refine wl_nil ?_
            have hV2 : varsL (ts.take (i + 1)) = ((varsL (ts.take i)) ++ [(v : Int)]) := by rw [htk, varsL_snoc]; simp [varOf, c50]
            have hK2 : kidsL (ts.take (i + 1)) = kidsL (ts.take i) := by rw [htk, kidsL_snoc]; simp [kidsOf, c50]
            have O60 : Own Z0 W w56 [.blk g11 70 ((boolCs (flagL 129 (varsL (ts.take (i + 1))))).toArray), .blk g18 4 ((boolCs (flagL ts.length (kidsL (ts.take (i + 1))))).toArray), .ro D (fun w => NodesD D w (.slice (some ⟨b, o, none⟩) ts.length c) ts)] := by rw [hV2, hK2]; exact (O58.re [0, 2, 3] rfl : Own Z0 W w56 [.blk g11 70 ((boolCs (flagL 129 ((varsL (ts.take i)) ++ [(v : Int)]))).toArray), .blk g18 4 ((boolCs (flagL ts.length (kidsL (ts.take i)))).toArray), .ro D (fun w => NodesD D w (.slice (some ⟨b, o, none⟩) ts.length c) ts)])
            refine xw_round K29 (i + 1) (by show ts.length - (i + 1) < ts.length - i; omega) ⟨(by show i + 1 ≤ ts.length; omega), (by show preB (ts.take (i + 1)) = true; rw [htk]; exact (pre_leaf hp c50).trans (by rw [c53]; rfl)), O60⟩ ⟨rfl, rfl, rfl, rfl, rfl, rfl, trivial⟩
        · skip
          refine cw_skip ?_
          refine xw_next K45 ?_
          refine cw_seq (fun FK61 K61 => ?_)
          refine cw_seq (fun FK62 K62 => ?_)
          refine cw_region ?_
          refine wl_val (v := .pointer (some ⟨g35, 2, none⟩)) (fun ρ e => ex_field (q := 2) fi38_2 (e _ _ rfl) rfl) rfl rfl ?_
          refine wl_val (v := .int .i64 xv) (fun ρ e => ex_load1 ty3 (e _ _ rfl) (O49.cell 0 2 rfl rfl)) rfl rfl ?_
          by_cases c63 : xv ≠ 0
          · skip
            refine wl_val (v := .bool true) (fun ρ e => ex_cmp (u := xv) (v := 0) (e _ _ rfl) (e _ _ rfl) (neq1 (by omega))) rfl rfl ?_
            refine wl_nil ?_
            refine xw_next K62 ?_
            refine cw_true rfl ?_
            refine cw_seq (fun FK64 K64 => ?_)
            refine cw_region ?_
            refine wl_val (v := .int .i64 1) (fun ρ e => ex_assign (e _ _ rfl)) rfl rfl ?_
            refine wl_nil ?_
            refine xw_next K64 ?_
            refine cw_ret ?_
            refine xw_past (by intro h; cases h) ?_
            refine xw_blockret ?_
            refine xw_past (by intro h; cases h) ?_
            refine xw_past (by intro h; cases h) ?_
            refine xw_blockret ?_
            refine xw_past (by intro h; cases h) ?_
            refine xw_ret (v := .int .i64 1) (fun T hT => res1 rfl T _ (hT 2 _ rfl)) ?_
            have hno : okT ts = false := not_ok (i + 1) (by rw [htk]; exact preV_var c50 (by omega))
            exact ⟨by unfold chkV; rw [hno]; rfl, O49.old⟩
          · skip
            refine wl_val (v := .bool false) (fun ρ e => ex_cmp (u := xv) (v := 0) (e _ _ rfl) (e _ _ rfl) (neq0 (by omega))) rfl rfl ?_
            refine wl_nil ?_
            refine xw_next K62 ?_
            refine cw_false rfl ?_
            refine cw_skip ?_
            refine xw_next K61 ?_
            refine cw_seq (fun FK65 K65 => ?_)
            refine cw_region ?_
            refine wl_val (v := .pointer (some ⟨g35, 0, none⟩)) (fun ρ e => ex_field (q := 0) fi38_0 (e _ _ rfl) rfl) rfl rfl ?_
            refine wl_val (v := .int .i64 xl) (fun ρ e => ex_load1 ty3 (e _ _ rfl) (O49.cell 0 0 rfl rfl)) rfl rfl ?_
            refine wl_val (v := .pointer (some ⟨g35, 1, none⟩)) (fun ρ e => ex_field (q := 1) fi38_1 (e _ _ rfl) rfl) rfl rfl ?_
            refine wl_val (v := .int .i64 xr) (fun ρ e => ex_load1 ty3 (e _ _ rfl) (O49.cell 0 1 rfl rfl)) rfl rfl ?_
            refine wl_val (v := .agg #[.int .i64 xl, .int .i64 xr]) (fun ρ e => ex_buildA (cells := #[.int .i64 xl, .int .i64 xr]) ar73 (e.parts rfl) rfl) rfl rfl ?_
            refine wl_val (v := .int .i64 0) (fun ρ e => ex_move (e _ _ rfl)) rfl rfl ?_
            refine wl_nil ?_
            refine xw_next K65 ?_
            refine cw_block ?_
            have O66 : Own Z0 W w47 [.blk g18 4 ((boolCs (flagL ts.length (kidsL (ts.take i)))).toArray), .blk g35 38 #[.int .i64 xl, .int .i64 xr, .int .i64 xv], .blk g11 70 ((boolCs (flagL 129 (varsL (ts.take i)))).toArray), .ro D (fun w => NodesD D w (.slice (some ⟨b, o, none⟩) ts.length c) ts)] := (O49.re [2, 0, 1, 3] rfl : Own Z0 W w47 [.blk g18 4 ((boolCs (flagL ts.length (kidsL (ts.take i)))).toArray), .blk g35 38 #[.int .i64 xl, .int .i64 xr, .int .i64 xv], .blk g11 70 ((boolCs (flagL 129 (varsL (ts.take i)))).toArray), .ro D (fun w => NodesD D w (.slice (some ⟨b, o, none⟩) ts.length c) ts)])
            refine cw_loop (ι := Nat × List Int) (fun q => [(0, .slice (some ⟨b, o, none⟩) ts.length c), (3, .pointer (some ⟨g11, 0, none⟩)), (4, .slice (some ⟨g18, 0, none⟩) ts.length ts.length), (5, .int .i64 (i : Int)), (6, .pointer (some ⟨g35, 0, none⟩)), (22, .slice (some ⟨b, o, none⟩) ts.length c), (23, .int .i64 ((ts.length : Nat) : Int)), (24, .int .i64 (i : Int)), (45, .agg #[.int .i64 xl, .int .i64 xr]), (46, .int .i64 (q.1 : Int))]) (fun q X => (q.1 ≤ 2) ∧ (q.1 = 0 → q.2 = kidsL (ts.take i)) ∧ (q.1 = 1 → q.2 = kidsL (ts.take i) ++ [xl] ∧ 0 ≤ xl ∧ xl < (i : Int) ∧ xl ∉ kidsL (ts.take i)) ∧ (q.1 = 2 → q.2 = kidsL (ts.take i) ++ [xl, xr] ∧ 0 ≤ xl ∧ xl < (i : Int) ∧ xl ∉ kidsL (ts.take i) ∧ 0 ≤ xr ∧ xr < (i : Int) ∧ xr ∉ kidsL (ts.take i) ++ [xl]) ∧ Own Z0 W X [.blk g18 4 ((boolCs (flagL ts.length q.2)).toArray), .blk g35 38 #[.int .i64 xl, .int .i64 xr, .int .i64 xv], .blk g11 70 ((boolCs (flagL 129 (varsL (ts.take i)))).toArray), .ro D (fun w => NodesD D w (.slice (some ⟨b, o, none⟩) ts.length c) ts)]) (fun q => 2 - q.1) (0, kidsL (ts.take i)) ⟨Nat.zero_le _, fun _ => rfl, (fun h => absurd h (by show ¬ 0 = 1; omega)), (fun h => absurd h (by show ¬ 0 = 2; omega)), O66⟩ ⟨rfl, rfl, rfl, rfl, rfl, rfl, rfl, rfl, rfl, rfl, trivial⟩ (fun q w67 hJ F68 K69 => ?_)
            obtain ⟨j, K⟩ := q
            obtain ⟨hjj, hj0, hj1, hj2, O70⟩ := hJ
            dsimp only at hjj hj0 hj1 hj2 O70 ⊢
            rcases (show j = 0 ∨ j = 1 ∨ j = 2 by omega) with rfl | rfl | rfl
            · skip
              obtain rfl : K = (kidsL (ts.take i)) := hj0 rfl
              refine cw_seq (fun FK71 K71 => ?_)
              refine cw_region ?_
              refine wl_val (v := .bool true) (fun ρ e => ex_cmp (u := ((0 : Nat) : Int)) (v := 2) (e _ _ rfl) (e _ _ rfl) (lss1 (by omega))) rfl rfl ?_
              refine wl_nil ?_
              refine xw_next K71 ?_
              refine cw_seq (fun FK72 K72 => ?_)
              refine cw_true rfl ?_
              refine cw_skip ?_
              refine xw_next K72 ?_
              refine cw_seq (fun FK73 K73 => ?_)
              refine cw_block ?_
              refine cw_seq (fun FK74 K74 => ?_)
              refine cw_region ?_
              refine wl_val (v := .int .i64 xl) (fun ρ e => ex_at2 (i := 0) (e _ _ rfl) (e _ _ rfl) (by simp)) rfl rfl ?_
              refine wl_val (v := .int .i64 xl) (fun ρ e => ex_assign (e _ _ rfl)) rfl rfl ?_
              refine wl_nil ?_
              refine xw_next K74 ?_
              refine cw_seq (fun FK75 K75 => ?_)
              refine cw_seq (fun FK76 K76 => ?_)
              refine cw_region ?_
              refine wl_val (v := .int .i64 xl) (fun ρ e => ex_move (e _ _ rfl)) rfl rfl ?_
              by_cases c77 : xl < 0
              · skip
                refine wl_val (v := .bool true) (fun ρ e => ex_cmp (u := xl) (v := 0) (e _ _ rfl) (e _ _ rfl) (lss1 (by omega))) rfl rfl ?_
                refine wl_val (v := .bool true) (fun ρ e => ex_move (e _ _ rfl)) rfl rfl ?_
                refine wl_skip rfl rfl ?_
                refine wl_skip rfl rfl ?_
                refine wl_skip rfl rfl ?_
                refine wl_val (v := .bool true) (fun ρ e => ex_pick1 (e _ _ rfl) (e _ _ rfl)) rfl rfl ?_
                refine wl_val (v := .bool true) (fun ρ e => ex_move (e _ _ rfl)) rfl rfl ?_
                refine wl_skip rfl rfl ?_
                refine wl_skip rfl rfl ?_
                refine wl_skip rfl rfl ?_
                refine wl_skip rfl rfl ?_
                refine wl_val (v := .bool true) (fun ρ e => ex_pick1 (e _ _ rfl) (e _ _ rfl)) rfl rfl ?_
                refine wl_nil ?_
                refine xw_next K76 ?_
                refine cw_true rfl ?_
                refine cw_seq (fun FK78 K78 => ?_)
                refine cw_region ?_
                refine wl_val (v := .int .i64 1) (fun ρ e => ex_assign (e _ _ rfl)) rfl rfl ?_
                refine wl_nil ?_
                refine xw_next K78 ?_
                refine cw_ret ?_
                refine xw_past (by intro h; cases h) ?_
                refine xw_blockret ?_
                refine xw_past (by intro h; cases h) ?_
                refine xw_past (by intro h; cases h) ?_
                refine xw_blockret ?_
                refine xw_blockret ?_
                refine xw_past (by intro h; cases h) ?_
                refine xw_past (by intro h; cases h) ?_
                refine xw_blockret ?_
                refine xw_past (by intro h; cases h) ?_
                refine xw_ret (v := .int .i64 1) (fun T hT => res1 rfl T _ (hT 2 _ rfl)) ?_
                have hno : okT ts = false := not_ok (i + 1) (by rw [htk]; exact preV_l c50 (by first | (left; omega) | (right; left; omega) | (right; right; simpa using c77)))
                exact ⟨by unfold chkV; rw [hno]; rfl, O70.old⟩
              · skip
                refine wl_val (v := .bool false) (fun ρ e => ex_cmp (u := xl) (v := 0) (e _ _ rfl) (e _ _ rfl) (lss0 (by omega))) rfl rfl ?_
                refine wl_val (v := .bool false) (fun ρ e => ex_move (e _ _ rfl)) rfl rfl ?_
                refine wl_val (v := .int .i64 xl) (fun ρ e => ex_move (e _ _ rfl)) rfl rfl ?_
                refine wl_val (v := .int .i64 (i : Int)) (fun ρ e => ex_move (e _ _ rfl)) rfl rfl ?_
                by_cases c79 : xl ≥ (i : Int)
                · skip
                  refine wl_val (v := .bool true) (fun ρ e => ex_cmp (u := xl) (v := (i : Int)) (e _ _ rfl) (e _ _ rfl) (geq1 (by omega))) rfl rfl ?_
                  refine wl_val (v := .bool true) (fun ρ e => ex_pick0 (e _ _ rfl) (e _ _ rfl)) rfl rfl ?_
                  refine wl_val (v := .bool true) (fun ρ e => ex_move (e _ _ rfl)) rfl rfl ?_
                  refine wl_skip rfl rfl ?_
                  refine wl_skip rfl rfl ?_
                  refine wl_skip rfl rfl ?_
                  refine wl_skip rfl rfl ?_
                  refine wl_val (v := .bool true) (fun ρ e => ex_pick1 (e _ _ rfl) (e _ _ rfl)) rfl rfl ?_
                  refine wl_nil ?_
                  refine xw_next K76 ?_
                  refine cw_true rfl ?_
                  refine cw_seq (fun FK80 K80 => ?_)
                  refine cw_region ?_
                  refine wl_val (v := .int .i64 1) (fun ρ e => ex_assign (e _ _ rfl)) rfl rfl ?_
                  refine wl_nil ?_
                  refine xw_next K80 ?_
                  refine cw_ret ?_
                  refine xw_past (by intro h; cases h) ?_
                  refine xw_blockret ?_
                  refine xw_past (by intro h; cases h) ?_
                  refine xw_past (by intro h; cases h) ?_
                  refine xw_blockret ?_
                  refine xw_blockret ?_
                  refine xw_past (by intro h; cases h) ?_
                  refine xw_past (by intro h; cases h) ?_
                  refine xw_blockret ?_
                  refine xw_past (by intro h; cases h) ?_
                  refine xw_ret (v := .int .i64 1) (fun T hT => res1 rfl T _ (hT 2 _ rfl)) ?_
                  have hno : okT ts = false := not_ok (i + 1) (by rw [htk]; exact preV_l c50 (by first | (left; omega) | (right; left; omega) | (right; right; simpa using c79)))
                  exact ⟨by unfold chkV; rw [hno]; rfl, O70.old⟩
                · skip
                  obtain ⟨a, rfl⟩ : ∃ n : Nat, xl = n := ⟨xl.toNat, by omega⟩
                  refine wl_val (v := .bool false) (fun ρ e => ex_cmp (u := (a : Int)) (v := (i : Int)) (e _ _ rfl) (e _ _ rfl) (geq0 (by omega))) rfl rfl ?_
                  refine wl_val (v := .bool false) (fun ρ e => ex_pick0 (e _ _ rfl) (e _ _ rfl)) rfl rfl ?_
                  refine wl_val (v := .bool false) (fun ρ e => ex_move (e _ _ rfl)) rfl rfl ?_
                  refine wl_val (v := .slice (some ⟨g18, 0, none⟩) ts.length ts.length) (fun ρ e => ex_move (e _ _ rfl)) rfl rfl ?_
                  refine wl_val (v := .int .i64 (a : Int)) (fun ρ e => ex_move (e _ _ rfl)) rfl rfl ?_
                  refine wl_val (v := .pointer (some ⟨g18, a, none⟩)) (fun ρ e => ex_idx (q := a) (i := a) el71 (e _ _ rfl) (e _ _ rfl) (by omega) (by omega)) rfl rfl ?_
                  refine wl_val (v := .bool (decide ((a : Int) ∈ (kidsL (ts.take i))))) (fun ρ e => ex_load1 ty4 (e _ _ rfl) (O70.cell 0 a rfl (getBo (flagL_get (kidsL (ts.take i)) (by omega))))) rfl rfl ?_
                  refine wl_val (v := .bool (decide ((a : Int) ∈ (kidsL (ts.take i))))) (fun ρ e => ex_pick0 (e _ _ rfl) (e _ _ rfl)) rfl rfl ?_
                  refine wl_nil ?_
                  refine xw_next K76 ?_
                  refine cw_cond (b := (decide ((a : Int) ∈ (kidsL (ts.take i))))) rfl (fun c81 => ?_) (fun c81 => ?_)
                  · skip
                    refine cw_seq (fun FK82 K82 => ?_)
                    refine cw_region ?_
                    refine wl_val (v := .int .i64 1) (fun ρ e => ex_assign (e _ _ rfl)) rfl rfl ?_
                    refine wl_nil ?_
                    refine xw_next K82 ?_
                    refine cw_ret ?_
                    refine xw_past (by intro h; cases h) ?_
                    refine xw_blockret ?_
                    refine xw_past (by intro h; cases h) ?_
                    refine xw_past (by intro h; cases h) ?_
                    refine xw_blockret ?_
                    refine xw_blockret ?_
                    refine xw_past (by intro h; cases h) ?_
                    refine xw_past (by intro h; cases h) ?_
                    refine xw_blockret ?_
                    refine xw_past (by intro h; cases h) ?_
                    refine xw_ret (v := .int .i64 1) (fun T hT => res1 rfl T _ (hT 2 _ rfl)) ?_
                    have hno : okT ts = false := not_ok (i + 1) (by rw [htk]; exact preV_l c50 (by first | (left; omega) | (right; left; omega) | (right; right; simpa using c81)))
                    exact ⟨by unfold chkV; rw [hno]; rfl, O70.old⟩
                  · skip
                    refine cw_skip ?_
                    refine xw_next K75 ?_
                    refine cw_region ?_
                    refine wl_val (v := .slice (some ⟨g18, 0, none⟩) ts.length ts.length) (fun ρ e => ex_move (e _ _ rfl)) rfl rfl ?_
                    refine wl_val (v := .int .i64 (a : Int)) (fun ρ e => ex_move (e _ _ rfl)) rfl rfl ?_
                    refine wl_val (v := .pointer (some ⟨g18, a, none⟩)) (fun ρ e => ex_idx (q := a) (i := a) el71 (e _ _ rfl) (e _ _ rfl) (by omega) (by omega)) rfl rfl ?_
                    obtain ⟨w83, r84, O85, hs86⟩ := own_put (o := a) (n := 1) O70 ty4 (.bool true) [.bool true] (cs' := (boolCs (flagL ts.length ((kidsL (ts.take i)) ++ [(a : Int)]))).toArray) rfl rfl rfl (by simp [boolCs, flagL_len] <;> omega) ((setBo _ a true).trans (congrArg (fun z => (boolCs z).toArray) (flagL_set ts.length a (kidsL (ts.take i)))))
                    refine wl_none (fun ρ e => r84 ρ _ _ _ _ _ _ (e _ _ rfl) (e _ _ rfl)) rfl ?_
                    refine wl_nil ?_
                    refine xw_block ?_
                    refine xw_next K73 ?_
                    refine cw_region ?_
                    refine wl_val (v := .int .i64 ((0 + 1 : Nat) : Int)) (fun ρ e => ex_arith (k := .i64) (u := ((0 : Nat) : Int)) (v := 1) (e _ _ rfl) (e _ _ rfl) (congrArg some ((congrArg _ (by omega)).trans (wrap_in (u := ((0 + 1 : Nat) : Int)) (by omega) (by omega))))) rfl rfl ?_
                    refine wl_val (v := .int .i64 ((0 + 1 : Nat) : Int)) (fun ρ e => ex_move (e _ _ rfl)) rfl rfl ?_
                    refine wl_nil ?_
                    refine xw_round K69 (0 + 1, ((kidsL (ts.take i)) ++ [(a : Int)])) (by show 2 - (0 + 1) < 2 - 0; omega) ⟨(by show 0 + 1 ≤ 2; omega), (fun h => absurd h (by show ¬ 0 + 1 = 0; omega)), (fun _ => ⟨rfl, by omega, by omega, by simpa using c81⟩), (fun h => absurd h (by show ¬ 0 + 1 = 2; omega)), O85⟩ ⟨rfl, rfl, rfl, rfl, rfl, rfl, rfl, rfl, rfl, rfl, trivial⟩
            · skip
              obtain rfl : K = (kidsL (ts.take i) ++ [xl]) := (hj1 rfl).1
              obtain ⟨_, hl0, hl1, hka⟩ := hj1 rfl
              refine cw_seq (fun FK87 K87 => ?_)
              refine cw_region ?_
              refine wl_val (v := .bool true) (fun ρ e => ex_cmp (u := ((1 : Nat) : Int)) (v := 2) (e _ _ rfl) (e _ _ rfl) (lss1 (by omega))) rfl rfl ?_
              refine wl_nil ?_
              refine xw_next K87 ?_
              refine cw_seq (fun FK88 K88 => ?_)
              refine cw_true rfl ?_
              refine cw_skip ?_
              refine xw_next K88 ?_
              refine cw_seq (fun FK89 K89 => ?_)
              refine cw_block ?_
              refine cw_seq (fun FK90 K90 => ?_)
              refine cw_region ?_
              refine wl_val (v := .int .i64 xr) (fun ρ e => ex_at2 (i := 1) (e _ _ rfl) (e _ _ rfl) (by simp)) rfl rfl ?_
              refine wl_val (v := .int .i64 xr) (fun ρ e => ex_assign (e _ _ rfl)) rfl rfl ?_
              refine wl_nil ?_
              refine xw_next K90 ?_
              refine cw_seq (fun FK91 K91 => ?_)
              refine cw_seq (fun FK92 K92 => ?_)
              refine cw_region ?_
              refine wl_val (v := .int .i64 xr) (fun ρ e => ex_move (e _ _ rfl)) rfl rfl ?_
              by_cases c93 : xr < 0
              · skip
                refine wl_val (v := .bool true) (fun ρ e => ex_cmp (u := xr) (v := 0) (e _ _ rfl) (e _ _ rfl) (lss1 (by omega))) rfl rfl ?_
                refine wl_val (v := .bool true) (fun ρ e => ex_move (e _ _ rfl)) rfl rfl ?_
                refine wl_skip rfl rfl ?_
                refine wl_skip rfl rfl ?_
                refine wl_skip rfl rfl ?_
                refine wl_val (v := .bool true) (fun ρ e => ex_pick1 (e _ _ rfl) (e _ _ rfl)) rfl rfl ?_
                refine wl_val (v := .bool true) (fun ρ e => ex_move (e _ _ rfl)) rfl rfl ?_
                refine wl_skip rfl rfl ?_
                refine wl_skip rfl rfl ?_
                refine wl_skip rfl rfl ?_
                refine wl_skip rfl rfl ?_
                refine wl_val (v := .bool true) (fun ρ e => ex_pick1 (e _ _ rfl) (e _ _ rfl)) rfl rfl ?_
                refine wl_nil ?_
                refine xw_next K92 ?_
                refine cw_true rfl ?_
                refine cw_seq (fun FK94 K94 => ?_)
                refine cw_region ?_
                refine wl_val (v := .int .i64 1) (fun ρ e => ex_assign (e _ _ rfl)) rfl rfl ?_
                refine wl_nil ?_
                refine xw_next K94 ?_
                refine cw_ret ?_
                refine xw_past (by intro h; cases h) ?_
                refine xw_blockret ?_
                refine xw_past (by intro h; cases h) ?_
                refine xw_past (by intro h; cases h) ?_
                refine xw_blockret ?_
                refine xw_blockret ?_
                refine xw_past (by intro h; cases h) ?_
                refine xw_past (by intro h; cases h) ?_
                refine xw_blockret ?_
                refine xw_past (by intro h; cases h) ?_
                refine xw_ret (v := .int .i64 1) (fun T hT => res1 rfl T _ (hT 2 _ rfl)) ?_
                have hno : okT ts = false := not_ok (i + 1) (by rw [htk]; exact preV_r c50 (by first | (left; omega) | (right; left; omega) | (right; right; simpa using c93)))
                exact ⟨by unfold chkV; rw [hno]; rfl, O70.old⟩
              · skip
                refine wl_val (v := .bool false) (fun ρ e => ex_cmp (u := xr) (v := 0) (e _ _ rfl) (e _ _ rfl) (lss0 (by omega))) rfl rfl ?_
                refine wl_val (v := .bool false) (fun ρ e => ex_move (e _ _ rfl)) rfl rfl ?_
                refine wl_val (v := .int .i64 xr) (fun ρ e => ex_move (e _ _ rfl)) rfl rfl ?_
                refine wl_val (v := .int .i64 (i : Int)) (fun ρ e => ex_move (e _ _ rfl)) rfl rfl ?_
                by_cases c95 : xr ≥ (i : Int)
                · skip
                  refine wl_val (v := .bool true) (fun ρ e => ex_cmp (u := xr) (v := (i : Int)) (e _ _ rfl) (e _ _ rfl) (geq1 (by omega))) rfl rfl ?_
                  refine wl_val (v := .bool true) (fun ρ e => ex_pick0 (e _ _ rfl) (e _ _ rfl)) rfl rfl ?_
                  refine wl_val (v := .bool true) (fun ρ e => ex_move (e _ _ rfl)) rfl rfl ?_
                  refine wl_skip rfl rfl ?_
                  refine wl_skip rfl rfl ?_
                  refine wl_skip rfl rfl ?_
                  refine wl_skip rfl rfl ?_
                  refine wl_val (v := .bool true) (fun ρ e => ex_pick1 (e _ _ rfl) (e _ _ rfl)) rfl rfl ?_
                  refine wl_nil ?_
                  refine xw_next K92 ?_
                  refine cw_true rfl ?_
                  refine cw_seq (fun FK96 K96 => ?_)
                  refine cw_region ?_
                  refine wl_val (v := .int .i64 1) (fun ρ e => ex_assign (e _ _ rfl)) rfl rfl ?_
                  refine wl_nil ?_
                  refine xw_next K96 ?_
                  refine cw_ret ?_
                  refine xw_past (by intro h; cases h) ?_
                  refine xw_blockret ?_
                  refine xw_past (by intro h; cases h) ?_
                  refine xw_past (by intro h; cases h) ?_
                  refine xw_blockret ?_
                  refine xw_blockret ?_
                  refine xw_past (by intro h; cases h) ?_
                  refine xw_past (by intro h; cases h) ?_
                  refine xw_blockret ?_
                  refine xw_past (by intro h; cases h) ?_
                  refine xw_ret (v := .int .i64 1) (fun T hT => res1 rfl T _ (hT 2 _ rfl)) ?_
                  have hno : okT ts = false := not_ok (i + 1) (by rw [htk]; exact preV_r c50 (by first | (left; omega) | (right; left; omega) | (right; right; simpa using c95)))
                  exact ⟨by unfold chkV; rw [hno]; rfl, O70.old⟩
                · skip
                  obtain ⟨b2, rfl⟩ : ∃ n : Nat, xr = n := ⟨xr.toNat, by omega⟩
                  refine wl_val (v := .bool false) (fun ρ e => ex_cmp (u := (b2 : Int)) (v := (i : Int)) (e _ _ rfl) (e _ _ rfl) (geq0 (by omega))) rfl rfl ?_
                  refine wl_val (v := .bool false) (fun ρ e => ex_pick0 (e _ _ rfl) (e _ _ rfl)) rfl rfl ?_
                  refine wl_val (v := .bool false) (fun ρ e => ex_move (e _ _ rfl)) rfl rfl ?_
                  refine wl_val (v := .slice (some ⟨g18, 0, none⟩) ts.length ts.length) (fun ρ e => ex_move (e _ _ rfl)) rfl rfl ?_
                  refine wl_val (v := .int .i64 (b2 : Int)) (fun ρ e => ex_move (e _ _ rfl)) rfl rfl ?_
                  refine wl_val (v := .pointer (some ⟨g18, b2, none⟩)) (fun ρ e => ex_idx (q := b2) (i := b2) el71 (e _ _ rfl) (e _ _ rfl) (by omega) (by omega)) rfl rfl ?_
                  refine wl_val (v := .bool (decide ((b2 : Int) ∈ (kidsL (ts.take i) ++ [xl])))) (fun ρ e => ex_load1 ty4 (e _ _ rfl) (O70.cell 0 b2 rfl (getBo (flagL_get (kidsL (ts.take i) ++ [xl]) (by omega))))) rfl rfl ?_
                  refine wl_val (v := .bool (decide ((b2 : Int) ∈ (kidsL (ts.take i) ++ [xl])))) (fun ρ e => ex_pick0 (e _ _ rfl) (e _ _ rfl)) rfl rfl ?_
                  refine wl_nil ?_
                  refine xw_next K92 ?_
                  refine cw_cond (b := (decide ((b2 : Int) ∈ (kidsL (ts.take i) ++ [xl])))) rfl (fun c97 => ?_) (fun c97 => ?_)
                  · skip
                    refine cw_seq (fun FK98 K98 => ?_)
                    refine cw_region ?_
                    refine wl_val (v := .int .i64 1) (fun ρ e => ex_assign (e _ _ rfl)) rfl rfl ?_
                    refine wl_nil ?_
                    refine xw_next K98 ?_
                    refine cw_ret ?_
                    refine xw_past (by intro h; cases h) ?_
                    refine xw_blockret ?_
                    refine xw_past (by intro h; cases h) ?_
                    refine xw_past (by intro h; cases h) ?_
                    refine xw_blockret ?_
                    refine xw_blockret ?_
                    refine xw_past (by intro h; cases h) ?_
                    refine xw_past (by intro h; cases h) ?_
                    refine xw_blockret ?_
                    refine xw_past (by intro h; cases h) ?_
                    refine xw_ret (v := .int .i64 1) (fun T hT => res1 rfl T _ (hT 2 _ rfl)) ?_
                    have hno : okT ts = false := not_ok (i + 1) (by rw [htk]; exact preV_r c50 (by first | (left; omega) | (right; left; omega) | (right; right; simpa using c97)))
                    exact ⟨by unfold chkV; rw [hno]; rfl, O70.old⟩
                  · skip
                    refine cw_skip ?_
                    refine xw_next K91 ?_
                    refine cw_region ?_
                    refine wl_val (v := .slice (some ⟨g18, 0, none⟩) ts.length ts.length) (fun ρ e => ex_move (e _ _ rfl)) rfl rfl ?_
                    refine wl_val (v := .int .i64 (b2 : Int)) (fun ρ e => ex_move (e _ _ rfl)) rfl rfl ?_
                    refine wl_val (v := .pointer (some ⟨g18, b2, none⟩)) (fun ρ e => ex_idx (q := b2) (i := b2) el71 (e _ _ rfl) (e _ _ rfl) (by omega) (by omega)) rfl rfl ?_
                    obtain ⟨w99, r100, O101, hs102⟩ := own_put (o := b2) (n := 1) O70 ty4 (.bool true) [.bool true] (cs' := (boolCs (flagL ts.length ((kidsL (ts.take i) ++ [xl]) ++ [(b2 : Int)]))).toArray) rfl rfl rfl (by simp [boolCs, flagL_len] <;> omega) ((setBo _ b2 true).trans (congrArg (fun z => (boolCs z).toArray) (flagL_set ts.length b2 (kidsL (ts.take i) ++ [xl]))))
                    refine wl_none (fun ρ e => r100 ρ _ _ _ _ _ _ (e _ _ rfl) (e _ _ rfl)) rfl ?_
                    refine wl_nil ?_
                    refine xw_block ?_
                    refine xw_next K89 ?_
                    refine cw_region ?_
                    refine wl_val (v := .int .i64 ((1 + 1 : Nat) : Int)) (fun ρ e => ex_arith (k := .i64) (u := ((1 : Nat) : Int)) (v := 1) (e _ _ rfl) (e _ _ rfl) (congrArg some ((congrArg _ (by omega)).trans (wrap_in (u := ((1 + 1 : Nat) : Int)) (by omega) (by omega))))) rfl rfl ?_
                    refine wl_val (v := .int .i64 ((1 + 1 : Nat) : Int)) (fun ρ e => ex_move (e _ _ rfl)) rfl rfl ?_
                    refine wl_nil ?_
                    refine xw_round K69 (1 + 1, ((kidsL (ts.take i) ++ [xl]) ++ [(b2 : Int)])) (by show 2 - (1 + 1) < 2 - 1; omega) ⟨(by show 1 + 1 ≤ 2; omega), (fun h => absurd h (by show ¬ 1 + 1 = 0; omega)), (fun h => absurd h (by show ¬ 1 + 1 = 1; omega)), (fun _ => ⟨by simp, hl0, hl1, hka, by omega, by omega, by simpa using c97⟩), O101⟩ ⟨rfl, rfl, rfl, rfl, rfl, rfl, rfl, rfl, rfl, rfl, trivial⟩
            · skip
              obtain rfl : K = (kidsL (ts.take i) ++ [xl, xr]) := (hj2 rfl).1
              obtain ⟨_, hl0, hl1, hka, hr0, hr1, hkb⟩ := hj2 rfl
              refine cw_seq (fun FK103 K103 => ?_)
              refine cw_region ?_
              refine wl_val (v := .bool false) (fun ρ e => ex_cmp (u := ((2 : Nat) : Int)) (v := 2) (e _ _ rfl) (e _ _ rfl) (lss0 (by omega))) rfl rfl ?_
              refine wl_nil ?_
              refine xw_next K103 ?_
              refine cw_seq (fun FK104 K104 => ?_)
              refine cw_false rfl ?_
              refine cw_exit ?_
              refine xw_past (by intro h; cases h) ?_
              refine xw_past (by intro h; cases h) ?_
              refine xw_here ?_
              refine xw_block ?_
              refine xw_next K33 ?_
              refine cw_region ?_
              refine wl_val (v := .int .i64 ((i + 1 : Nat) : Int)) (fun ρ e => ex_arith (k := .i64) (u := (i : Int)) (v := 1) (e _ _ rfl) (e _ _ rfl) (congrArg some ((congrArg _ (by omega)).trans (wrap_in (u := ((i + 1 : Nat) : Int)) (by omega) (by omega))))) rfl rfl ?_
              refine wl_val (v := .int .i64 ((i + 1 : Nat) : Int)) (fun ρ e => ex_move (e _ _ rfl)) rfl rfl ?_
              refine wl_nil ?_
              have hV2 : varsL (ts.take (i + 1)) = varsL (ts.take i) := by rw [htk, varsL_snoc]; simp [varOf, c50]
              have hK2 : kidsL (ts.take (i + 1)) = (kidsL (ts.take i) ++ [xl, xr]) := by rw [htk, kidsL_snoc]; simp [kidsOf, c50]
              have O105 : Own Z0 W w67 [.blk g11 70 ((boolCs (flagL 129 (varsL (ts.take (i + 1))))).toArray), .blk g18 4 ((boolCs (flagL ts.length (kidsL (ts.take (i + 1))))).toArray), .ro D (fun w => NodesD D w (.slice (some ⟨b, o, none⟩) ts.length c) ts)] := by rw [hV2, hK2]; exact (O70.re [2, 0, 3] rfl : Own Z0 W w67 [.blk g11 70 ((boolCs (flagL 129 (varsL (ts.take i)))).toArray), .blk g18 4 ((boolCs (flagL ts.length (kidsL (ts.take i) ++ [xl, xr]))).toArray), .ro D (fun w => NodesD D w (.slice (some ⟨b, o, none⟩) ts.length c) ts)])
              refine xw_round K29 (i + 1) (by show ts.length - (i + 1) < ts.length - i; omega) ⟨(by show i + 1 ≤ ts.length; omega), (by show preB (ts.take (i + 1)) = true; rw [htk]; exact preV_in hp c50 (by omega) (by omega) (by omega) hka (by omega) (by omega) hkb), O105⟩ ⟨rfl, rfl, rfl, rfl, rfl, rfl, trivial⟩
      · have hie : i = ts.length := by omega
        subst hie
        rw [List.take_length] at hp
        have hpre := hp
        have hOt : ts.take ts.length = ts := List.take_length
        rw [hOt] at O30
        refine cw_seq (fun FK106 K106 => ?_)
        refine cw_region ?_
        refine wl_val (v := .bool false) (fun ρ e => ex_cmp (u := ((ts.length : Nat) : Int)) (v := ((ts.length : Nat) : Int)) (e _ _ rfl) (e _ _ rfl) (lss0 (by omega))) rfl rfl ?_
        refine wl_nil ?_
        refine xw_next K106 ?_
        refine cw_seq (fun FK107 K107 => ?_)
        refine cw_false rfl ?_
        refine cw_exit ?_
        refine xw_past (by intro h; cases h) ?_
        refine xw_past (by intro h; cases h) ?_
        refine xw_here ?_
        refine xw_next K24 ?_
        refine cw_seq (fun FK108 K108 => ?_)
        refine cw_seq (fun FK109 K109 => ?_)
        refine cw_region ?_
        refine wl_val (v := .slice (some ⟨g18, 0, none⟩) ts.length ts.length) (fun ρ e => ex_move (e _ _ rfl)) rfl rfl ?_
        refine wl_val (v := .slice (some ⟨b, o, none⟩) ts.length c) (fun ρ e => ex_move (e _ _ rfl)) rfl rfl ?_
        refine wl_val (v := .int .i64 ((ts.length : Nat) : Int)) (fun ρ e => ex_len el23 (e _ _ rfl)) rfl rfl ?_
        refine wl_val (v := .int .i64 ((ts.length - 1 : Nat) : Int)) (fun ρ e => ex_arith (k := .i64) (u := ((ts.length : Nat) : Int)) (v := 1) (e _ _ rfl) (e _ _ rfl) (congrArg some ((congrArg _ (show _ = ((ts.length - 1 : Nat) : Int) by omega)).trans (wrap_in (by omega) (by omega))))) rfl rfl ?_
        refine wl_val (v := .slice (some ⟨g18, 0, none⟩) (ts.length - 1) ts.length) (fun ρ e => ex_sliceHi (h := ts.length - 1) el71 (e _ _ rfl) (e _ _ rfl) (by omega)) rfl rfl ?_
        refine wl_val (v := .int .i64 ((ts.length - 1 : Nat) : Int)) (fun ρ e => ex_len el71 (e _ _ rfl)) rfl rfl ?_
        refine wl_val (v := .int .i64 0) (fun ρ e => ex_move (e _ _ rfl)) rfl rfl ?_
        refine wl_nil ?_
        refine xw_next K109 ?_
        refine cw_block ?_
        refine cw_loop (ι := Nat) (fun q => [(71, .slice (some ⟨g18, 0, none⟩) (ts.length - 1) ts.length), (72, .int .i64 ((ts.length - 1 : Nat) : Int)), (73, .int .i64 (q : Int))]) (fun q X => (q ≤ ts.length - 1) ∧ (∀ k, k < q → (k : Int) ∈ kidsL ts) ∧ Own Z0 W X [.blk g11 70 ((boolCs (flagL 129 (varsL ts))).toArray), .blk g18 4 ((boolCs (flagL ts.length (kidsL ts))).toArray), .ro D (fun w => NodesD D w (.slice (some ⟨b, o, none⟩) ts.length c) ts)]) (fun q => ts.length - q) 0 ⟨Nat.zero_le _, (fun k hk => absurd hk (Nat.not_lt_zero k)), O30⟩ ⟨rfl, rfl, rfl, trivial⟩ (fun q w110 hJ F111 K112 => ?_)
        obtain ⟨j, rfl⟩ : ∃ x, x = q := ⟨_, rfl⟩
        obtain ⟨hj0, hcv, O113⟩ := hJ
        try dsimp only at hj0 hcv O113 ⊢
        by_cases hj : j < ts.length - 1
        · skip
          refine cw_seq (fun FK114 K114 => ?_)
          refine cw_region ?_
          refine wl_val (v := .bool true) (fun ρ e => ex_cmp (u := (j : Int)) (v := ((ts.length - 1 : Nat) : Int)) (e _ _ rfl) (e _ _ rfl) (lss1 (by omega))) rfl rfl ?_
          refine wl_nil ?_
          refine xw_next K114 ?_
          refine cw_seq (fun FK115 K115 => ?_)
          refine cw_true rfl ?_
          refine cw_skip ?_
          refine xw_next K115 ?_
          refine cw_seq (fun FK116 K116 => ?_)
          refine cw_block ?_
          refine cw_seq (fun FK117 K117 => ?_)
          refine cw_region ?_
          refine wl_val (v := .pointer (some ⟨g18, j, none⟩)) (fun ρ e => ex_idx (q := j) (i := j) el71 (e _ _ rfl) (e _ _ rfl) (by omega) (by omega)) rfl rfl ?_
          refine wl_val (v := .bool (decide ((j : Int) ∈ (kidsL ts)))) (fun ρ e => ex_load1 ty4 (e _ _ rfl) (O113.cell 1 j rfl (getBo (flagL_get (kidsL ts) (by omega))))) rfl rfl ?_
          refine wl_val (v := .bool (decide ((j : Int) ∈ (kidsL ts)))) (fun ρ e => ex_assign (e _ _ rfl)) rfl rfl ?_
          refine wl_nil ?_
          refine xw_next K117 ?_
          refine cw_seq (fun FK118 K118 => ?_)
          refine cw_region ?_
          refine wl_val (v := .bool (decide ((j : Int) ∈ (kidsL ts)))) (fun ρ e => ex_move (e _ _ rfl)) rfl rfl ?_
          refine wl_val (v := .bool (!(decide ((j : Int) ∈ (kidsL ts))))) (fun ρ e => ex_lnot (b := (decide ((j : Int) ∈ (kidsL ts)))) (e _ _ rfl)) rfl rfl ?_
          refine wl_nil ?_
          refine xw_next K118 ?_
          refine cw_cond (b := (!(decide ((j : Int) ∈ (kidsL ts))))) rfl (fun c119 => ?_) (fun c119 => ?_)
          · skip
            refine cw_seq (fun FK120 K120 => ?_)
            refine cw_region ?_
            refine wl_val (v := .int .i64 1) (fun ρ e => ex_assign (e _ _ rfl)) rfl rfl ?_
            refine wl_nil ?_
            refine xw_next K120 ?_
            refine cw_ret ?_
            refine xw_blockret ?_
            refine xw_past (by intro h; cases h) ?_
            refine xw_past (by intro h; cases h) ?_
            refine xw_blockret ?_
            refine xw_past (by intro h; cases h) ?_
            refine xw_ret (v := .int .i64 1) (fun T hT => res1 rfl T _ (hT 2 _ rfl)) ?_
            have hno : okT ts = false := (Bool.eq_false_iff.2 fun q => absurd ((cover_iff ts).1 (okT_parts.1 q).2.2.2 j (by omega)) (by simpa using c119))
            exact ⟨by unfold chkV; rw [hno]; rfl, O113.old⟩
          · skip
            refine cw_skip ?_
            refine xw_block ?_
            refine xw_next K116 ?_
            refine cw_region ?_
            refine wl_val (v := .int .i64 ((j + 1 : Nat) : Int)) (fun ρ e => ex_arith (k := .i64) (u := (j : Int)) (v := 1) (e _ _ rfl) (e _ _ rfl) (congrArg some ((congrArg _ (by omega)).trans (wrap_in (u := ((j + 1 : Nat) : Int)) (by omega) (by omega))))) rfl rfl ?_
            refine wl_val (v := .int .i64 ((j + 1 : Nat) : Int)) (fun ρ e => ex_move (e _ _ rfl)) rfl rfl ?_
            refine wl_nil ?_
            refine xw_round K112 (j + 1) (by show ts.length - (j + 1) < ts.length - j; omega) ⟨(by show j + 1 ≤ _; omega), (fun k hk => by rcases Nat.lt_succ_iff_lt_or_eq.1 hk with h | h; exact hcv k h; subst h; simpa using c119), O113⟩ ⟨rfl, rfl, rfl, trivial⟩
        · have hcov : ∀ k, k < ts.length - 1 → (k : Int) ∈ kidsL ts := fun k hk => hcv k (by omega)
          refine cw_seq (fun FK121 K121 => ?_)
          refine cw_region ?_
          refine wl_val (v := .bool false) (fun ρ e => ex_cmp (u := (j : Int)) (v := ((ts.length - 1 : Nat) : Int)) (e _ _ rfl) (e _ _ rfl) (lss0 (by omega))) rfl rfl ?_
          refine wl_nil ?_
          refine xw_next K121 ?_
          refine cw_seq (fun FK122 K122 => ?_)
          refine cw_false rfl ?_
          refine cw_exit ?_
          refine xw_past (by intro h; cases h) ?_
          refine xw_past (by intro h; cases h) ?_
          refine xw_here ?_
          refine xw_next K108 ?_
          refine cw_seq (fun FK123 K123 => ?_)
          refine cw_region ?_
          refine wl_val (v := .int .i64 0) (fun ρ e => ex_assign (e _ _ rfl)) rfl rfl ?_
          refine wl_nil ?_
          refine xw_next K123 ?_
          refine cw_ret ?_
          refine xw_ret (v := .int .i64 0) (fun T hT => res1 rfl T _ (hT 2 _ rfl)) ?_
          have hok : okT ts = true := okT_parts.2 ⟨by omega, by omega, hpre, (cover_iff ts).2 fun k hk => hcov k hk⟩
          exact ⟨by unfold chkV; rw [hok]; rfl, O113.old⟩
end Go.Proofs.YtpeoodkepjhhiaaDoor
namespace Go.Proofs.YtpeoodkepjhhiaaDoor

/-! ### Lists without repetition -/
theorem sub_len {α : Type} [DecidableEq α] : ∀ {l m : List α}, l.Nodup → (∀ x ∈ l, x ∈ m) → l.length ≤ m.length
  | [], _, _, _ => Nat.zero_le _
  | a :: l, m, h, hs => by
    have ha := hs a (by simp)
    have hn := List.nodup_cons.1 h
    have ih := sub_len (l := l) (m := m.erase a) hn.2 (fun x hx => (List.mem_erase_of_ne (by rintro rfl; exact hn.1 hx)).2 (hs x (by simp [hx])))
    rw [List.length_erase_of_mem ha] at ih
    have := List.length_pos_of_mem ha
    simp only [List.length_cons]
    omega
theorem nodup_castrange (n : Nat) : ((List.range n).map fun k : Nat => (k : Int)).Nodup := by
  rw [List.nodup_iff_pairwise_ne, List.pairwise_map]
  exact (List.nodup_iff_pairwise_ne.1 List.nodup_range).imp (fun h e => h (by omega))
theorem range_len {l : List Int} {n : Nat} (h : l.Nodup) (hr : ∀ x ∈ l, 0 ≤ x ∧ x < n) : l.length ≤ n := by
  have := sub_len (m := (List.range n).map fun k : Nat => (k : Int)) h (fun x hx => by
    obtain ⟨h1, h2⟩ := hr x hx
    exact List.mem_map.2 ⟨x.toNat, List.mem_range.2 (by omega), by omega⟩)
  simpa using this
theorem mem_kids {ts : List VN} {k : Int} : k ∈ kidsL ts ↔ ∃ (i : Nat) (x : VN), ts[i]? = some x ∧ lf x = false ∧ (k = x.l ∨ k = x.r) := by
  unfold kidsL
  rw [List.mem_flatMap]
  constructor
  · rintro ⟨x, hx, hk⟩
    obtain ⟨i, hi⟩ := List.mem_iff_getElem?.1 hx
    unfold kidsOf at hk
    cases h : lf x with
    | true => rw [h] at hk; simp at hk
    | false => rw [h] at hk; exact ⟨i, x, hi, h, by simpa using hk⟩
  · rintro ⟨i, x, hi, h, hk⟩
    refine ⟨x, List.mem_of_getElem? hi, ?_⟩
    unfold kidsOf
    rw [h]
    simpa using hk
theorem nodeB_inner {i : Nat} {x : VN} (h : nodeB i x = true) (hx : lf x = false) : x.v = 0 ∧ 0 ≤ x.l ∧ x.l < i ∧ 0 ≤ x.r ∧ x.r < i := by
  unfold nodeB at h
  rw [hx] at h
  simpa [and_assoc] using h
theorem kids_lt {ts : List VN} (h : nodesB ts = true) : ∀ k ∈ kidsL ts, 0 ≤ k ∧ k < (ts.length - 1 : Nat) := fun k hk => by
  obtain ⟨i, x, hi, hx, hk⟩ := mem_kids.1 hk
  obtain ⟨_, h1, h2, h3, h4⟩ := nodeB_inner ((nodesB_iff ts).1 h i x hi) hx
  have := (List.getElem?_eq_some_iff.1 hi).1
  rcases hk with rfl | rfl <;> omega
theorem kidsOf_nodup {x : VN} : ∀ {ts : List VN}, (kidsL ts).Nodup → x ∈ ts → (kidsOf x).Nodup
  | [], _, hx => by cases hx
  | y :: r, h, hx => by
    have e1 : kidsL (y :: r) = kidsOf y ++ kidsL r := by simp [kidsL]
    rw [e1] at h
    obtain ⟨h1, h2, _⟩ := List.nodup_append.1 h
    rcases List.mem_cons.1 hx with rfl | hx
    · exact h1
    · exact kidsOf_nodup h2 hx
end Go.Proofs.YtpeoodkepjhhiaaDoor
namespace Go.Proofs.YtpeoodkepjhhiaaDoor

inductive Tr where
  | leaf (v : Int)
  | node (a b : Tr)
def Tr.size : Tr → Nat
  | .leaf _ => 1
  | .node a b => a.size + b.size + 1
def Tr.leaves : Tr → List Int
  | .leaf v => [v]
  | .node a b => a.leaves ++ b.leaves
theorem Tr.size_pos : ∀ T : Tr, 0 < T.size
  | .leaf _ => Nat.one_pos
  | .node _ _ => Nat.succ_pos _
/-- The nodes of a tree in postorder, the first of them numbered n. -/
def post : Tr → Nat → List VN
  | .leaf v, _ => [⟨-1, -1, v⟩]
  | .node a b, n => post a n ++ (post b (n + a.size) ++ [⟨((n + a.size - 1 : Nat) : Int), ((n + a.size + b.size - 1 : Nat) : Int), 0⟩])
theorem post_len : ∀ (T : Tr) (n : Nat), (post T n).length = T.size
  | .leaf _, _ => rfl
  | .node a b, n => by simp only [post, List.length_append, List.length_cons, List.length_nil, post_len a, post_len b, Tr.size]; omega
/-- Node i of ts, its children turned by f, stands for a tree; the nodes met. -/
inductive At (ts : List VN) (f : Nat → Nat → Nat → Nat × Nat) : Nat → Tr → List Nat → Prop
  | leaf {i : Nat} {v : Int} : ts[i]? = some ⟨-1, -1, v⟩ → 1 ≤ v → v ≤ 128 → At ts f i (.leaf v) [i]
  | node {i a b a' b' : Nat} {A B : Tr} {va vb : List Nat} : ts[i]? = some ⟨(a : Int), (b : Int), 0⟩ → f i a b = (a', b') → At ts f a' A va → At ts f b' B vb → At ts f i (.node A B) (i :: (va ++ vb))
def idF : Nat → Nat → Nat → Nat × Nat := fun _ a b => (a, b)
theorem At.len {ts : List VN} {f : Nat → Nat → Nat → Nat × Nat} {i : Nat} {T : Tr} {vs : List Nat} (h : At ts f i T vs) : vs.length = T.size := by
  induction h with
  | leaf _ _ _ => rfl
  | node _ _ _ _ h1 h2 => simp only [List.length_cons, List.length_append, h1, h2, Tr.size]
structure Val (ts : List VN) : Prop where
  pos : 0 < ts.length
  le : ts.length ≤ 255
  kind : ∀ (i : Nat) (x : VN), ts[i]? = some x → (∃ v, x = ⟨-1, -1, v⟩ ∧ 1 ≤ v ∧ v ≤ 128) ∨ (∃ a b : Nat, x = ⟨(a : Int), (b : Int), 0⟩ ∧ a < i ∧ b < i ∧ a ≠ b)
  up : ∀ (i j a b a' b' k : Nat), ts[i]? = some ⟨(a : Int), (b : Int), 0⟩ → ts[j]? = some ⟨(a' : Int), (b' : Int), 0⟩ → (k = a ∨ k = b) → (k = a' ∨ k = b') → i = j
  vars : ∀ (i j : Nat) (v : Int), 1 ≤ v → v ≤ 128 → ts[i]? = some ⟨-1, -1, v⟩ → ts[j]? = some ⟨-1, -1, v⟩ → i = j
  cover : ∀ k, k < ts.length - 1 → ∃ i a b : Nat, ts[i]? = some ⟨(a : Int), (b : Int), 0⟩ ∧ (k = a ∨ k = b)
theorem kids_once {k : Int} : ∀ {ts : List VN} {i j : Nat} {x y : VN}, (kidsL ts).Nodup → ts[i]? = some x → ts[j]? = some y → k ∈ kidsOf x → k ∈ kidsOf y → i = j
  | [], i, _, _, _, _, hi, _, _, _ => by simp at hi
  | z :: r, i, j, x, y, h, hi, hj, hx, hy => by
    have e1 : kidsL (z :: r) = kidsOf z ++ kidsL r := by simp [kidsL]
    rw [e1] at h
    obtain ⟨_, h2, h3⟩ := List.nodup_append.1 h
    have mem : ∀ {q : Nat} {u : VN}, r[q]? = some u → k ∈ kidsOf u → k ∈ kidsL r := fun hq hu => List.mem_flatMap.2 ⟨_, List.mem_of_getElem? hq, hu⟩
    cases i with
    | zero =>
      cases j with
      | zero => rfl
      | succ j =>
        simp at hi hj; subst hi
        exact absurd rfl (h3 k hx k (mem hj hy))
    | succ i =>
      cases j with
      | zero =>
        simp at hi hj; subst hj
        exact absurd rfl (h3 k hy k (mem hi hx))
      | succ j =>
        simp at hi hj
        rw [kids_once h2 hi hj hx hy]
theorem vars_once {k : Int} : ∀ {ts : List VN} {i j : Nat} {x y : VN}, (varsL ts).Nodup → ts[i]? = some x → ts[j]? = some y → k ∈ varOf x → k ∈ varOf y → i = j
  | [], i, _, _, _, _, hi, _, _, _ => by simp at hi
  | z :: r, i, j, x, y, h, hi, hj, hx, hy => by
    have e1 : varsL (z :: r) = varOf z ++ varsL r := by simp [varsL]
    rw [e1] at h
    obtain ⟨_, h2, h3⟩ := List.nodup_append.1 h
    have mem : ∀ {q : Nat} {u : VN}, r[q]? = some u → k ∈ varOf u → k ∈ varsL r := fun hq hu => List.mem_flatMap.2 ⟨_, List.mem_of_getElem? hq, hu⟩
    cases i with
    | zero =>
      cases j with
      | zero => rfl
      | succ j =>
        simp at hi hj; subst hi
        exact absurd rfl (h3 k hx k (mem hj hy))
    | succ i =>
      cases j with
      | zero =>
        simp at hi hj; subst hj
        exact absurd rfl (h3 k hy k (mem hi hx))
      | succ j =>
        simp at hi hj
        rw [vars_once h2 hi hj hx hy]
theorem lf_inner (a b : Nat) : lf ⟨(a : Int), (b : Int), 0⟩ = false := by
  rw [Bool.eq_false_iff]; intro q
  have := ((lf_iff _).1 q).1
  dsimp only at this
  omega
theorem lf_leaf {v : Int} (h1 : 1 ≤ v) (h2 : v ≤ 128) : lf ⟨-1, -1, v⟩ = true := (lf_iff _).2 ⟨rfl, rfl, h1, h2⟩
theorem okT_val {ts : List VN} (h : okT ts = true) : Val ts := by
  obtain ⟨h0, h1, hp, hc⟩ := okT_parts.1 h
  unfold preB at hp
  simp only [Bool.and_eq_true, decide_eq_true_eq] at hp
  obtain ⟨⟨hn, hv⟩, hk⟩ := hp
  have hcv : ∀ k, k < ts.length - 1 → (k : Int) ∈ kidsL ts := by unfold coverB at hc; simpa using hc
  have inn : ∀ {i : Nat} {x : VN}, ts[i]? = some x → lf x = false → ∃ a b : Nat, x = ⟨(a : Int), (b : Int), 0⟩ ∧ a < i ∧ b < i := fun {i x} hi hx => by
    obtain ⟨h3, h4, h5, h6, h7⟩ := nodeB_inner ((nodesB_iff ts).1 hn i x hi) hx
    refine ⟨x.l.toNat, x.r.toNat, ?_, by omega, by omega⟩
    cases x
    simp only [VN.mk.injEq]
    dsimp only at *
    omega
  refine ⟨h0, h1, fun i x hi => ?_, fun i j a b a' b' k hi hj h1 h2 => ?_, fun i j v h1 h2 hi hj => ?_, fun k hk2 => ?_⟩
  · cases hx : lf x with
    | true =>
      left
      obtain ⟨_, _, h3, h4⟩ := (lf_iff x).1 hx
      exact ⟨x.v, lf_eq hx, h3, h4⟩
    | false =>
      right
      obtain ⟨a, b, rfl, ha, hb⟩ := inn hi hx
      refine ⟨a, b, rfl, ha, hb, ?_⟩
      rintro rfl
      have := kidsOf_nodup hk (List.mem_of_getElem? hi)
      unfold kidsOf at this
      rw [hx] at this
      simp at this
  · refine kids_once (k := (k : Int)) hk hi hj ?_ ?_
    · unfold kidsOf
      rw [lf_inner]
      rcases h1 with rfl | rfl <;> simp
    · unfold kidsOf
      rw [lf_inner]
      rcases h2 with rfl | rfl <;> simp
  · refine vars_once (k := v) hv hi hj ?_ ?_ <;> (unfold varOf; rw [lf_leaf h1 h2]; simp)
  · obtain ⟨i, x, hi, hx, hk3⟩ := mem_kids.1 (hcv k hk2)
    obtain ⟨a, b, rfl, _, _⟩ := inn hi hx
    exact ⟨i, a, b, hi, by dsimp only at hk3; omega⟩
section
variable {ts : List VN}
theorem At.exists_ (hV : Val ts) : ∀ (n i : Nat), i < n → i < ts.length → ∃ T vs, At ts idF i T vs
  | 0, _, h, _ => absurd h (Nat.not_lt_zero _)
  | n + 1, i, h, hi => by
    rcases hV.kind i _ (List.getElem?_eq_getElem hi) with ⟨v, hx, h1, h2⟩ | ⟨a, b, hx, ha, hb, _⟩
    · exact ⟨_, _, .leaf (by rw [List.getElem?_eq_getElem hi, hx]) h1 h2⟩
    · obtain ⟨A, va, hA⟩ := At.exists_ hV n a (by omega) (by omega)
      obtain ⟨B, vb, hB⟩ := At.exists_ hV n b (by omega) (by omega)
      exact ⟨_, _, .node (by rw [List.getElem?_eq_getElem hi, hx]) rfl hA hB⟩
theorem At.lt_len {f : Nat → Nat → Nat → Nat × Nat} {i : Nat} {T : Tr} {vs : List Nat} (h : At ts f i T vs) : ∀ k ∈ vs, k < ts.length := by
  induction h with
  | leaf h _ _ =>
    intro k hk
    rw [List.mem_singleton.1 hk]
    exact (List.getElem?_eq_some_iff.1 h).1
  | node h _ _ _ h1 h2 =>
    intro k hk
    rcases List.mem_cons.1 hk with rfl | hk
    · exact (List.getElem?_eq_some_iff.1 h).1
    · rcases List.mem_append.1 hk with hk | hk
      · exact h1 k hk
      · exact h2 k hk
theorem At.le (hV : Val ts) {i : Nat} {T : Tr} {vs : List Nat} (h : At ts idF i T vs) : ∀ k ∈ vs, k ≤ i := by
  induction h with
  | leaf _ _ _ => intro k hk; rw [List.mem_singleton.1 hk]; exact Nat.le_refl _
  | node h hf _ _ h1 h2 =>
    injection hf with e1 e2
    subst e1 e2
    intro k hk
    rcases hV.kind _ _ h with ⟨v, hx, _⟩ | ⟨a, b, hx, ha, hb, _⟩
    · injection hx with hx _ _; omega
    · injection hx with e1 e2 _
      rcases List.mem_cons.1 hk with rfl | hk
      · exact Nat.le_refl _
      · rcases List.mem_append.1 hk with hk | hk
        · have := h1 k hk; omega
        · have := h2 k hk; omega
theorem At.par {i : Nat} {T : Tr} {vs : List Nat} (h : At ts idF i T vs) : ∀ k ∈ vs, k ≠ i → ∃ p a b : Nat, p ∈ vs ∧ ts[p]? = some ⟨(a : Int), (b : Int), 0⟩ ∧ (k = a ∨ k = b) := by
  induction h with
  | leaf _ _ _ => intro k hk hne; exact absurd (List.mem_singleton.1 hk) hne
  | @node i a b a' b' A B va vb h hf hA hB h1 h2 =>
    injection hf with e1 e2
    subst e1 e2
    intro k hk hne
    rcases List.mem_cons.1 hk with e | hk
    · exact absurd e hne
    · rcases List.mem_append.1 hk with hk | hk
      · by_cases e : k = a
        · exact ⟨i, a, b, by simp, h, .inl e⟩
        · obtain ⟨p, c, d, hp, q⟩ := h1 k hk e
          exact ⟨p, c, d, by simp [hp], q⟩
      · by_cases e : k = b
        · exact ⟨i, a, b, by simp, h, .inr e⟩
        · obtain ⟨p, c, d, hp, q⟩ := h2 k hk e
          exact ⟨p, c, d, by simp [hp], q⟩
theorem At.apart (hV : Val ts) {i a b : Nat} {A B : Tr} {va vb : List Nat} (h : ts[i]? = some ⟨(a : Int), (b : Int), 0⟩) (hA : At ts idF a A va) (hB : At ts idF b B vb) : ∀ (n k : Nat), ts.length ≤ k + n → k ∈ va → k ∈ vb → False
  | 0, k, hn, h1, _ => by have := hA.lt_len k h1; omega
  | n + 1, k, hn, h1, h2 => by
    have hab : a ≠ b ∧ a < i ∧ b < i := by
      rcases hV.kind _ _ h with ⟨v, hx, _⟩ | ⟨a', b', hx, ha, hb, hne⟩
      · injection hx with hx _ _; omega
      · injection hx with e1 e2 _
        omega
    by_cases e1 : k = a
    · subst e1
      obtain ⟨p, c, d, hp, hq, hk⟩ := hB.par k h2 hab.1
      have := hV.up p i c d k b k hq h hk (.inl rfl)
      have := hB.le hV p hp
      omega
    · by_cases e2 : k = b
      · subst e2
        obtain ⟨p, c, d, hp, hq, hk⟩ := hA.par k h1 (fun e => hab.1 e.symm)
        have := hV.up p i c d a k k hq h hk (.inr rfl)
        have := hA.le hV p hp
        omega
      · obtain ⟨p, c, d, hp, hq, hk⟩ := hA.par k h1 e1
        obtain ⟨p', c', d', hp', hq', hk'⟩ := hB.par k h2 e2
        obtain rfl := hV.up p p' c d c' d' k hq hq' hk hk'
        have hlt : k < p := by
          rcases hV.kind _ _ hq with ⟨v, hx, _⟩ | ⟨a', b', hx, ha, hb, _⟩
          · injection hx with hx _ _; omega
          · injection hx with e1 e2 _
            omega
        exact At.apart hV h hA hB n p (by omega) hp hp'
theorem At.nodup (hV : Val ts) {i : Nat} {T : Tr} {vs : List Nat} (h : At ts idF i T vs) : vs.Nodup := by
  induction h with
  | leaf _ _ _ => simp
  | @node i a b a' b' A B va vb h hf hA hB h1 h2 =>
    injection hf with e1 e2
    subst e1 e2
    have hlt : a < i ∧ b < i := by
      rcases hV.kind _ _ h with ⟨v, hx, _⟩ | ⟨a', b', hx, ha, hb, _⟩
      · injection hx with hx _ _; omega
      · injection hx with e1 e2 _
        omega
    refine List.nodup_cons.2 ⟨fun hm => ?_, List.nodup_append.2 ⟨h1, h2, fun k hk k' hk' e => ?_⟩⟩
    · rcases List.mem_append.1 hm with hm | hm
      · have := hA.le hV _ hm; omega
      · have := hB.le hV _ hm; omega
    · subst e
      exact At.apart hV h hA hB ts.length k (by omega) hk hk'
theorem At.small (hV : Val ts) {i : Nat} {T : Tr} {vs : List Nat} (h : At ts idF i T vs) : T.size ≤ ts.length := by
  rw [← h.len]
  have := sub_len (m := List.range ts.length) (h.nodup hV) (fun k hk => List.mem_range.2 (h.lt_len k hk))
  simpa using this
theorem At.leafAt {f : Nat → Nat → Nat → Nat × Nat} {i : Nat} {T : Tr} {vs : List Nat} (h : At ts f i T vs) : ∀ v ∈ T.leaves, 1 ≤ v ∧ v ≤ 128 ∧ ∃ k ∈ vs, ts[k]? = some ⟨-1, -1, v⟩ := by
  induction h with
  | leaf h h1 h2 => intro v hv; rw [List.mem_singleton.1 hv]; exact ⟨h1, h2, _, by simp, h⟩
  | node _ _ _ _ h1 h2 =>
    intro v hv
    rcases List.mem_append.1 hv with hv | hv
    · obtain ⟨q1, q2, k, hk, q3⟩ := h1 v hv
      exact ⟨q1, q2, k, by simp [hk], q3⟩
    · obtain ⟨q1, q2, k, hk, q3⟩ := h2 v hv
      exact ⟨q1, q2, k, by simp [hk], q3⟩
end
end Go.Proofs.YtpeoodkepjhhiaaDoor
namespace Go.Proofs.YtpeoodkepjhhiaaDoor

/-- A number from 0 to 999 in decimal. -/
def dec (v : Int) : List UInt8 := if v < 10 then [UInt8.ofNat (48 + v.toNat)] else if v < 100 then [UInt8.ofNat (48 + v.toNat / 10), UInt8.ofNat (48 + v.toNat % 10)] else [UInt8.ofNat (48 + v.toNat / 100), UInt8.ofNat (48 + v.toNat / 10 % 10), UInt8.ofNat (48 + v.toNat % 10)]
theorem itoa_dec {v : Int} (h0 : 0 ≤ v) (h1 : v < 1000) : Go.Lib.itoa v = dec v := by
  unfold Go.Lib.itoa dec
  rw [if_neg (by omega)]
  by_cases h : v < 10
  · rw [if_pos h, Go.Lib.decDigits, dif_pos (by omega)]
  · rw [if_neg h]
    by_cases h' : v < 100
    · rw [if_pos h', Go.Lib.decDigits_two (by omega) (by omega)]
    · rw [if_neg h', Go.Lib.decDigits, dif_neg (by omega), Go.Lib.decDigits_two (by omega) (by omega)]
      have e : v.toNat / 10 / 10 = v.toNat / 100 := by omega
      rw [e]; rfl
theorem dec_len (v : Int) : 0 < (dec v).length ∧ (dec v).length ≤ 3 := by unfold dec; split <;> (try split) <;> simp
def textT : Tr → List UInt8
  | .leaf v => dec v
  | .node a b => 40 :: (textT a ++ 32 :: (textT b ++ [41]))
theorem textT_len : ∀ T : Tr, 0 < (textT T).length ∧ (textT T).length + 3 ≤ 6 * T.size
  | .leaf v => by have := dec_len v; simp only [textT, Tr.size]; omega
  | .node a b => by
    have h1 := textT_len a
    have h2 := textT_len b
    simp only [textT, Tr.size, List.length_cons, List.length_append, List.length_nil]
    omega
def trF (ts : List VN) : Nat → Nat → Tr
  | 0, _ => .leaf 0
  | n + 1, i => match ts[i]? with
    | none => .leaf 0
    | some x => if lf x then .leaf x.v else .node (trF ts n x.l.toNat) (trF ts n x.r.toNat)
def treeOf (ts : List VN) : Tr := trF ts ts.length (ts.length - 1)
section
variable {ts : List VN}
theorem At.tr (hV : Val ts) {i : Nat} {T : Tr} {vs : List Nat} (h : At ts idF i T vs) : ∀ n, i < n → trF ts n i = T := by
  induction h with
  | leaf h h1 h2 =>
    intro n hn
    obtain ⟨n, rfl⟩ : ∃ m, n = m + 1 := ⟨n - 1, by omega⟩
    unfold trF
    rw [h]
    simp [lf_leaf h1 h2]
  | @node i a b a' b' A B va vb h hf hA hB h1 h2 =>
    injection hf with e1 e2
    subst e1 e2
    intro n hn
    obtain ⟨n, rfl⟩ : ∃ m, n = m + 1 := ⟨n - 1, by omega⟩
    have hlt : a < i ∧ b < i := by
      rcases hV.kind _ _ h with ⟨v, hx, _⟩ | ⟨a', b', hx, ha, hb, _⟩
      · injection hx with hx _ _; omega
      · injection hx with e1 e2 _
        omega
    unfold trF
    rw [h]
    simp [lf_inner, h1 n (by omega), h2 n (by omega)]
theorem tree_at (h : okT ts = true) : ∃ vs, At ts idF (ts.length - 1) (treeOf ts) vs := by
  have hV := okT_val h
  have := hV.pos
  obtain ⟨T, vs, hA⟩ := At.exists_ hV ts.length (ts.length - 1) (by omega) (by omega)
  refine ⟨vs, ?_⟩
  unfold treeOf
  rwa [hA.tr hV ts.length (by omega)]
end
def printOf (ts : List VN) : List UInt8 := if okT ts then textT (treeOf ts) else []
end Go.Proofs.YtpeoodkepjhhiaaDoor
namespace Go.Proofs.YtpeoodkepjhhiaaDoor
open Go Go.RowKit
theorem below_grow {w : World} (k : Nat) (os : Array Obj) : Below w.heap.size w (Go.Sort.grow (w.drewN k) os) :=
  ⟨rfl, rfl, rfl, by simp [Go.Sort.grow], fun j hj => by simp only [Go.Sort.grow]; exact Array.getElem?_append_left hj⟩
theorem itoa_ {W : World} {v : Int} (h0 : 0 ≤ v) (h1 : v < 1000) (tab : Tab W) : Calls Tryd.prog 68 #[.int .i64 v] W fun e w' => e = .returned (.string ⟨(dec v).toArray⟩) ∧ Below W.heap.size W w' := by
  refine (Tryd.strconv_Itoa v (by omega) (by omega) W tab).mono ?_
  rintro _ _ ⟨rfl, k, os, rfl⟩
  rw [itoa_dec h0 h1]
  exact ⟨rfl, below_grow k os⟩
theorem pwrite_ {ts : List VN} {D : Nat → Prop} {tc bb fc b o c0 : Nat} : ∀ {i : Nat} {T : Tr} {vs : List Nat}, At ts idF i T vs → ∀ {Z : Bool → Nat → Prop} {w0 W : World} {A : Option Addr} {n c : Nat} {used : Bool} {l : List UInt8},
    Own Z w0 W [.blk tc 23 #[.slice (some ⟨b, o, none⟩) ts.length c0], .blk bb 82 #[addrB used bb, .slice A n c], .row (.slice A n c) 5 1 n (Lib.byteCells l), .blk fc 83 #[.func (.func 66) #[] #[.pointer (some ⟨tc, 0, none⟩), .pointer (some ⟨bb, 0, none⟩), .pointer (some ⟨fc, 0, none⟩)]], .ro D (fun w => NodesD D w (.slice (some ⟨b, o, none⟩) ts.length c0) ts), .ro TabD Tab] → n + 6 * T.size ≤ 1000000 →
    Calls Tryd.prog 66 #[.int .i64 (i : Int), .pointer (some ⟨tc, 0, none⟩), .pointer (some ⟨bb, 0, none⟩), .pointer (some ⟨fc, 0, none⟩)] W fun e w' => ∃ A' c', e = .returned (.tuple #[]) ∧ Own Z w0 w' [.blk tc 23 #[.slice (some ⟨b, o, none⟩) ts.length c0], .blk bb 82 #[addrB true bb, .slice A' (n + (textT T).length) c'], .row (.slice A' (n + (textT T).length) c') 5 1 (n + (textT T).length) (Lib.byteCells (l ++ textT T)), .blk fc 83 #[.func (.func 66) #[] #[.pointer (some ⟨tc, 0, none⟩), .pointer (some ⟨bb, 0, none⟩), .pointer (some ⟨fc, 0, none⟩)]], .ro D (fun w => NodesD D w (.slice (some ⟨b, o, none⟩) ts.length c0) ts), .ro TabD Tab] := by
  intro i T vs hAt
  induction hAt with
  | @leaf i v hx h1 h2 =>
    intro Z w0 W A n c used l O0 hlim
    have hi : i < ts.length := (List.getElem?_eq_some_iff.1 hx).1
    have hlf : lf (VN.mk (-1) (-1) v) = true := lf_leaf h1 h2
    simp only [Tr.size] at hlim
    refine sx_enter (args := [.int .i64 (i : Int), .pointer (some ⟨tc, 0, none⟩), .pointer (some ⟨bb, 0, none⟩), .pointer (some ⟨fc, 0, none⟩)]) Tryd.func66 rfl rfl (by simp) ?_
    refine cw_seq (fun FK1 K1 => ?_)
    refine cw_seq (fun FK2 K2 => ?_)
    refine cw_region ?_
    refine wl_val (v := .slice (some ⟨b, o, none⟩) ts.length c0) (fun ρ e => ex_load1 ty23 (e _ _ rfl) (O0.cell 0 0 rfl rfl)) rfl rfl ?_
    refine wl_val (v := .int .i64 (i : Int)) (fun ρ e => ex_move (e _ _ rfl)) rfl rfl ?_
    refine wl_val (v := .pointer (some ⟨b, o + i * 3, none⟩)) (fun ρ e => ex_idx (q := o + i * 3) (i := i) el23 (e _ _ rfl) (e _ _ rfl) (by omega) (by omega)) rfl rfl ?_
    refine wl_val (v := .agg #[.int .i64 (-1), .int .i64 (-1), .int .i64 v]) (fun ρ e => ex_loadN (vs := [.int .i64 (-1), .int .i64 (-1), .int .i64 v]) ty38 (e _ _ rfl) rfl (cells3 (NodesD.c0 ((O0.ro 4 rfl : (fun w => NodesD D w (.slice (some ⟨b, o, none⟩) ts.length c0) ts) _) : NodesD _ _ _ _) hx) (NodesD.c1 ((O0.ro 4 rfl : (fun w => NodesD D w (.slice (some ⟨b, o, none⟩) ts.length c0) ts) _) : NodesD _ _ _ _) hx) (NodesD.c2 ((O0.ro 4 rfl : (fun w => NodesD D w (.slice (some ⟨b, o, none⟩) ts.length c0) ts) _) : NodesD _ _ _ _) hx))) rfl rfl ?_
    refine wl_call (args := [.agg #[.int .i64 (-1), .int .i64 (-1), .int .i64 v]]) in_53 rfl rfl rfl ?_
    refine (isleaf_ (VN.mk (-1) (-1) v) (W := W)).mono ?_
    rintro _ w3 ⟨rfl, hb4⟩
    have O5 : Own Z w0 w3 [.blk tc 23 #[.slice (some ⟨b, o, none⟩) ts.length c0], .blk bb 82 #[addrB used bb, .slice A n c], .row (.slice A n c) 5 1 n (Lib.byteCells l), .blk fc 83 #[.func (.func 66) #[] #[.pointer (some ⟨tc, 0, none⟩), .pointer (some ⟨bb, 0, none⟩), .pointer (some ⟨fc, 0, none⟩)]], .ro D (fun w => NodesD D w (.slice (some ⟨b, o, none⟩) ts.length c0) ts), .ro TabD Tab] := O0.below hb4
    refine ⟨_, rfl, ?_⟩
    refine wl_nil ?_
    refine xw_next K2 ?_
    refine cw_true (congrArg (fun b => some (Value.bool b)) hlf) ?_
    refine cw_seq (fun FK6 K6 => ?_)
    refine cw_region ?_
    refine wl_val (v := .slice (some ⟨b, o, none⟩) ts.length c0) (fun ρ e => ex_load1 ty23 (e _ _ rfl) (O5.cell 0 0 rfl rfl)) rfl rfl ?_
    refine wl_val (v := .int .i64 (i : Int)) (fun ρ e => ex_move (e _ _ rfl)) rfl rfl ?_
    refine wl_val (v := .pointer (some ⟨b, o + i * 3, none⟩)) (fun ρ e => ex_idx (q := o + i * 3) (i := i) el23 (e _ _ rfl) (e _ _ rfl) (by omega) (by omega)) rfl rfl ?_
    refine wl_val (v := .pointer (some ⟨b, o + i * 3 + 2, none⟩)) (fun ρ e => ex_field (q := o + i * 3 + 2) fi38_2 (e _ _ rfl) rfl) rfl rfl ?_
    refine wl_val (v := .int .i64 v) (fun ρ e => ex_load1 ty3 (e _ _ rfl) (NodesD.c2 ((O5.ro 4 rfl : (fun w => NodesD D w (.slice (some ⟨b, o, none⟩) ts.length c0) ts) _) : NodesD _ _ _ _) hx)) rfl rfl ?_
    refine wl_call (args := [.int .i64 v]) in_68 rfl rfl rfl ?_
    refine (itoa_ (v := v) (by omega) (by omega) (O5.ro 5 rfl)).mono ?_
    rintro _ w7 ⟨rfl, hb8⟩
    have O9 : Own Z w0 w7 [.blk tc 23 #[.slice (some ⟨b, o, none⟩) ts.length c0], .blk bb 82 #[addrB used bb, .slice A n c], .row (.slice A n c) 5 1 n (Lib.byteCells l), .blk fc 83 #[.func (.func 66) #[] #[.pointer (some ⟨tc, 0, none⟩), .pointer (some ⟨bb, 0, none⟩), .pointer (some ⟨fc, 0, none⟩)]], .ro D (fun w => NodesD D w (.slice (some ⟨b, o, none⟩) ts.length c0) ts), .ro TabD Tab] := O5.below hb8
    refine ⟨_, rfl, ?_⟩
    refine wl_call (args := [.pointer (some ⟨bb, 0, none⟩), .string (⟨(dec v).toArray⟩)]) in_67 rfl rfl rfl ?_
    have O14h := Own.hand (A := [.blk bb 82 #[addrB used bb, .slice A n c], .row (.slice A n c) 5 1 n (Lib.byteCells l)]) (R := [.blk tc 23 #[.slice (some ⟨b, o, none⟩) ts.length c0], .blk fc 83 #[.func (.func 66) #[] #[.pointer (some ⟨tc, 0, none⟩), .pointer (some ⟨bb, 0, none⟩), .pointer (some ⟨fc, 0, none⟩)]], .ro D (fun w => NodesD D w (.slice (some ⟨b, o, none⟩) ts.length c0) ts), .ro TabD Tab]) (O9.re [1, 2, 0, 3, 4, 5] rfl : Own Z w0 w7 [.blk bb 82 #[addrB used bb, .slice A n c], .row (.slice A n c) 5 1 n (Lib.byteCells l), .blk tc 23 #[.slice (some ⟨b, o, none⟩) ts.length c0], .blk fc 83 #[.func (.func 66) #[] #[.pointer (some ⟨tc, 0, none⟩), .pointer (some ⟨bb, 0, none⟩), .pointer (some ⟨fc, 0, none⟩)]], .ro D (fun w => NodesD D w (.slice (some ⟨b, o, none⟩) ts.length c0) ts), .ro TabD Tab])
    refine (wstr_ (used := used) (l := l) ⟨(dec v).toArray⟩ O14h (by show n + (dec v).length ≤ _; have := dec_len v; omega) (dec_len v).1).mono ?_
    rintro _ w12 ⟨A10, c11, rfl, h13⟩
    have O14 : Own Z w0 w12 [.blk bb 82 #[addrB true bb, .slice A10 (n + (dec v).length) c11], .row (.slice A10 (n + (dec v).length) c11) 5 1 (n + (dec v).length) (Lib.byteCells (l ++ dec v)), .blk tc 23 #[.slice (some ⟨b, o, none⟩) ts.length c0], .blk fc 83 #[.func (.func 66) #[] #[.pointer (some ⟨tc, 0, none⟩), .pointer (some ⟨bb, 0, none⟩), .pointer (some ⟨fc, 0, none⟩)]], .ro D (fun w => NodesD D w (.slice (some ⟨b, o, none⟩) ts.length c0) ts), .ro TabD Tab] := Own.frame (A := [.blk bb 82 #[addrB used bb, .slice A n c], .row (.slice A n c) 5 1 n (Lib.byteCells l)]) (R := [.blk tc 23 #[.slice (some ⟨b, o, none⟩) ts.length c0], .blk fc 83 #[.func (.func 66) #[] #[.pointer (some ⟨tc, 0, none⟩), .pointer (some ⟨bb, 0, none⟩), .pointer (some ⟨fc, 0, none⟩)]], .ro D (fun w => NodesD D w (.slice (some ⟨b, o, none⟩) ts.length c0) ts), .ro TabD Tab]) (O9.re [1, 2, 0, 3, 4, 5] rfl : Own Z w0 w7 [.blk bb 82 #[addrB used bb, .slice A n c], .row (.slice A n c) 5 1 n (Lib.byteCells l), .blk tc 23 #[.slice (some ⟨b, o, none⟩) ts.length c0], .blk fc 83 #[.func (.func 66) #[] #[.pointer (some ⟨tc, 0, none⟩), .pointer (some ⟨bb, 0, none⟩), .pointer (some ⟨fc, 0, none⟩)]], .ro D (fun w => NodesD D w (.slice (some ⟨b, o, none⟩) ts.length c0) ts), .ro TabD Tab]) h13
    refine ⟨_, rfl, ?_⟩
    refine wl_nil ?_
    refine xw_next K6 ?_
    refine cw_ret ?_
    refine xw_past (by intro h; cases h) ?_
    refine xw_ret (v := .tuple #[]) (fun T hT => res0 rfl T _) ?_
    have hn : (n + (dec v).length) = n + (textT (.leaf v)).length := by simp only [textT, List.length_cons, List.length_append, List.length_nil] <;> omega
    have hl : (l ++ dec v) = l ++ textT (.leaf v) := by simp [textT]
    have hO := (O14.re [2, 0, 1, 3, 4, 5] rfl : Own Z w0 w12 [.blk tc 23 #[.slice (some ⟨b, o, none⟩) ts.length c0], .blk bb 82 #[addrB true bb, .slice A10 (n + (dec v).length) c11], .row (.slice A10 (n + (dec v).length) c11) 5 1 (n + (dec v).length) (Lib.byteCells (l ++ dec v)), .blk fc 83 #[.func (.func 66) #[] #[.pointer (some ⟨tc, 0, none⟩), .pointer (some ⟨bb, 0, none⟩), .pointer (some ⟨fc, 0, none⟩)]], .ro D (fun w => NodesD D w (.slice (some ⟨b, o, none⟩) ts.length c0) ts), .ro TabD Tab])
    rw [hn, hl] at hO
    exact ⟨A10, c11, rfl, hO⟩
  | @node i a b2 a' b' A1 B1 va vb hx hf hA hB ihA ihB =>
    intro Z w0 W A n c used l O0 hlim
    have hi : i < ts.length := (List.getElem?_eq_some_iff.1 hx).1
    have hlf : lf (VN.mk (a : Int) (b2 : Int) 0) = false := lf_inner a b2
    simp only [Tr.size] at hlim
    injection hf with e1 e2
    subst e1 e2
    have hla := textT_len A1
    have hlb := textT_len B1
    have hwa : (0 : Int) ≤ 1 := by decide
    refine sx_enter (args := [.int .i64 (i : Int), .pointer (some ⟨tc, 0, none⟩), .pointer (some ⟨bb, 0, none⟩), .pointer (some ⟨fc, 0, none⟩)]) Tryd.func66 rfl rfl (by simp) ?_
    refine cw_seq (fun FK1 K1 => ?_)
    refine cw_seq (fun FK2 K2 => ?_)
    refine cw_region ?_
    refine wl_val (v := .slice (some ⟨b, o, none⟩) ts.length c0) (fun ρ e => ex_load1 ty23 (e _ _ rfl) (O0.cell 0 0 rfl rfl)) rfl rfl ?_
    refine wl_val (v := .int .i64 (i : Int)) (fun ρ e => ex_move (e _ _ rfl)) rfl rfl ?_
    refine wl_val (v := .pointer (some ⟨b, o + i * 3, none⟩)) (fun ρ e => ex_idx (q := o + i * 3) (i := i) el23 (e _ _ rfl) (e _ _ rfl) (by omega) (by omega)) rfl rfl ?_
    refine wl_val (v := .agg #[.int .i64 (a : Int), .int .i64 (b2 : Int), .int .i64 0]) (fun ρ e => ex_loadN (vs := [.int .i64 (a : Int), .int .i64 (b2 : Int), .int .i64 0]) ty38 (e _ _ rfl) rfl (cells3 (NodesD.c0 ((O0.ro 4 rfl : (fun w => NodesD D w (.slice (some ⟨b, o, none⟩) ts.length c0) ts) _) : NodesD _ _ _ _) hx) (NodesD.c1 ((O0.ro 4 rfl : (fun w => NodesD D w (.slice (some ⟨b, o, none⟩) ts.length c0) ts) _) : NodesD _ _ _ _) hx) (NodesD.c2 ((O0.ro 4 rfl : (fun w => NodesD D w (.slice (some ⟨b, o, none⟩) ts.length c0) ts) _) : NodesD _ _ _ _) hx))) rfl rfl ?_
    refine wl_call (args := [.agg #[.int .i64 (a : Int), .int .i64 (b2 : Int), .int .i64 0]]) in_53 rfl rfl rfl ?_
    refine (isleaf_ (VN.mk (a : Int) (b2 : Int) 0) (W := W)).mono ?_
    rintro _ w3 ⟨rfl, hb4⟩
    have O5 : Own Z w0 w3 [.blk tc 23 #[.slice (some ⟨b, o, none⟩) ts.length c0], .blk bb 82 #[addrB used bb, .slice A n c], .row (.slice A n c) 5 1 n (Lib.byteCells l), .blk fc 83 #[.func (.func 66) #[] #[.pointer (some ⟨tc, 0, none⟩), .pointer (some ⟨bb, 0, none⟩), .pointer (some ⟨fc, 0, none⟩)]], .ro D (fun w => NodesD D w (.slice (some ⟨b, o, none⟩) ts.length c0) ts), .ro TabD Tab] := O0.below hb4
    refine ⟨_, rfl, ?_⟩
    refine wl_nil ?_
    refine xw_next K2 ?_
    refine cw_false (congrArg (fun b => some (Value.bool b)) hlf) ?_
    refine cw_skip ?_
    refine xw_next K1 ?_
    refine cw_seq (fun FK6 K6 => ?_)
    refine cw_region ?_
    refine wl_call (args := [.pointer (some ⟨bb, 0, none⟩), .int .u8 40]) in_69 rfl rfl rfl ?_
    have O11h := Own.hand (A := [.blk bb 82 #[addrB used bb, .slice A n c], .row (.slice A n c) 5 1 n (Lib.byteCells l)]) (R := [.blk tc 23 #[.slice (some ⟨b, o, none⟩) ts.length c0], .blk fc 83 #[.func (.func 66) #[] #[.pointer (some ⟨tc, 0, none⟩), .pointer (some ⟨bb, 0, none⟩), .pointer (some ⟨fc, 0, none⟩)]], .ro D (fun w => NodesD D w (.slice (some ⟨b, o, none⟩) ts.length c0) ts), .ro TabD Tab]) (O5.re [1, 2, 0, 3, 4, 5] rfl : Own Z w0 w3 [.blk bb 82 #[addrB used bb, .slice A n c], .row (.slice A n c) 5 1 n (Lib.byteCells l), .blk tc 23 #[.slice (some ⟨b, o, none⟩) ts.length c0], .blk fc 83 #[.func (.func 66) #[] #[.pointer (some ⟨tc, 0, none⟩), .pointer (some ⟨bb, 0, none⟩), .pointer (some ⟨fc, 0, none⟩)]], .ro D (fun w => NodesD D w (.slice (some ⟨b, o, none⟩) ts.length c0) ts), .ro TabD Tab])
    refine (wbyte_ (used := used) (l := l) 40 O11h (by omega)).mono ?_
    rintro _ w9 ⟨A7, c8, rfl, h10⟩
    have O11 : Own Z w0 w9 [.blk bb 82 #[addrB true bb, .slice A7 (n + 1) c8], .row (.slice A7 (n + 1) c8) 5 1 (n + 1) (Lib.byteCells (l ++ [40])), .blk tc 23 #[.slice (some ⟨b, o, none⟩) ts.length c0], .blk fc 83 #[.func (.func 66) #[] #[.pointer (some ⟨tc, 0, none⟩), .pointer (some ⟨bb, 0, none⟩), .pointer (some ⟨fc, 0, none⟩)]], .ro D (fun w => NodesD D w (.slice (some ⟨b, o, none⟩) ts.length c0) ts), .ro TabD Tab] := Own.frame (A := [.blk bb 82 #[addrB used bb, .slice A n c], .row (.slice A n c) 5 1 n (Lib.byteCells l)]) (R := [.blk tc 23 #[.slice (some ⟨b, o, none⟩) ts.length c0], .blk fc 83 #[.func (.func 66) #[] #[.pointer (some ⟨tc, 0, none⟩), .pointer (some ⟨bb, 0, none⟩), .pointer (some ⟨fc, 0, none⟩)]], .ro D (fun w => NodesD D w (.slice (some ⟨b, o, none⟩) ts.length c0) ts), .ro TabD Tab]) (O5.re [1, 2, 0, 3, 4, 5] rfl : Own Z w0 w3 [.blk bb 82 #[addrB used bb, .slice A n c], .row (.slice A n c) 5 1 n (Lib.byteCells l), .blk tc 23 #[.slice (some ⟨b, o, none⟩) ts.length c0], .blk fc 83 #[.func (.func 66) #[] #[.pointer (some ⟨tc, 0, none⟩), .pointer (some ⟨bb, 0, none⟩), .pointer (some ⟨fc, 0, none⟩)]], .ro D (fun w => NodesD D w (.slice (some ⟨b, o, none⟩) ts.length c0) ts), .ro TabD Tab]) h10
    refine ⟨_, rfl, ?_⟩
    refine wl_nil ?_
    refine xw_next K6 ?_
    refine cw_seq (fun FK12 K12 => ?_)
    refine cw_drawn (fun X => Own Z w0 X [.blk tc 23 #[.slice (some ⟨b, o, none⟩) ts.length c0], .blk fc 83 #[.func (.func 66) #[] #[.pointer (some ⟨tc, 0, none⟩), .pointer (some ⟨bb, 0, none⟩), .pointer (some ⟨fc, 0, none⟩)]], .ro D (fun w => NodesD D w (.slice (some ⟨b, o, none⟩) ts.length c0) ts), .ro TabD Tab]) 7 [(0, 0), (1, 0), (2, 1), (3, 1), (4, 1), (5, 0), (6, 2)] (by kernel_rfl) (by kernel_rfl) (PQ.then_ PQ.body) ((O11.re [2, 3, 4, 5] rfl : Own Z w0 w9 [.blk tc 23 #[.slice (some ⟨b, o, none⟩) ts.length c0], .blk fc 83 #[.func (.func 66) #[] #[.pointer (some ⟨tc, 0, none⟩), .pointer (some ⟨bb, 0, none⟩), .pointer (some ⟨fc, 0, none⟩)]], .ro D (fun w => NodesD D w (.slice (some ⟨b, o, none⟩) ts.length c0) ts), .ro TabD Tab])).drew ?_
    have O13 : Own Z w0 w9.drew [.blk bb 82 #[addrB true bb, .slice A7 (n + 1) c8], .row (.slice A7 (n + 1) c8) 5 1 (n + 1) (Lib.byteCells (l ++ [40])), .blk tc 23 #[.slice (some ⟨b, o, none⟩) ts.length c0], .blk fc 83 #[.func (.func 66) #[] #[.pointer (some ⟨tc, 0, none⟩), .pointer (some ⟨bb, 0, none⟩), .pointer (some ⟨fc, 0, none⟩)]], .ro D (fun w => NodesD D w (.slice (some ⟨b, o, none⟩) ts.length c0) ts), .ro TabD Tab] := O11.drew
    refine wt0 (v := .func (.func 66) #[] #[.pointer (some ⟨tc, 0, none⟩), .pointer (some ⟨bb, 0, none⟩), .pointer (some ⟨fc, 0, none⟩)]) rfl (fun ρ e W hW => ex_load1 ty83 (e _ _ rfl) (hW.cell 1 0 rfl rfl)) rfl rfl ?_
    refine wt0 (v := .slice (some ⟨b, o, none⟩) ts.length c0) rfl (fun ρ e W hW => ex_load1 ty23 (e _ _ rfl) (hW.cell 0 0 rfl rfl)) rfl rfl ?_
    refine wt1 (v := .int .i64 (i : Int)) rfl (fun ρ e W => ex_move (e _ _ rfl)) rfl rfl ?_
    refine wt1 (v := .pointer (some ⟨b, o + i * 3, none⟩)) rfl (fun ρ e W => ex_idx (q := o + i * 3) (i := i) el23 (e _ _ rfl) (e _ _ rfl) (by omega) (by omega)) rfl rfl ?_
    refine wt1 (v := .pointer (some ⟨b, o + i * 3, none⟩)) rfl (fun ρ e W => ex_field (q := o + i * 3) fi38_0 (e _ _ rfl) rfl) rfl rfl ?_
    refine wt0 (v := .int .i64 (a : Int)) rfl (fun ρ e W hW => ex_load1 ty3 (e _ _ rfl) (NodesD.c0 ((hW.ro 2 rfl : (fun w => NodesD D w (.slice (some ⟨b, o, none⟩) ts.length c0) ts) _) : NodesD _ _ _ _) hx)) rfl rfl ?_
    refine wt2_callv (args := [.int .i64 (a : Int)]) (all := [.int .i64 (a : Int), .pointer (some ⟨tc, 0, none⟩), .pointer (some ⟨bb, 0, none⟩), .pointer (some ⟨fc, 0, none⟩)]) rfl in_66 rfl rfl rfl rfl rfl ?_
    have O18h := Own.hand (A := [.blk tc 23 #[.slice (some ⟨b, o, none⟩) ts.length c0], .blk bb 82 #[addrB true bb, .slice A7 (n + 1) c8], .row (.slice A7 (n + 1) c8) 5 1 (n + 1) (Lib.byteCells (l ++ [40])), .blk fc 83 #[.func (.func 66) #[] #[.pointer (some ⟨tc, 0, none⟩), .pointer (some ⟨bb, 0, none⟩), .pointer (some ⟨fc, 0, none⟩)]], .ro D (fun w => NodesD D w (.slice (some ⟨b, o, none⟩) ts.length c0) ts), .ro TabD Tab]) (R := []) (O13.re [2, 0, 1, 3, 4, 5] rfl : Own Z w0 w9.drew [.blk tc 23 #[.slice (some ⟨b, o, none⟩) ts.length c0], .blk bb 82 #[addrB true bb, .slice A7 (n + 1) c8], .row (.slice A7 (n + 1) c8) 5 1 (n + 1) (Lib.byteCells (l ++ [40])), .blk fc 83 #[.func (.func 66) #[] #[.pointer (some ⟨tc, 0, none⟩), .pointer (some ⟨bb, 0, none⟩), .pointer (some ⟨fc, 0, none⟩)]], .ro D (fun w => NodesD D w (.slice (some ⟨b, o, none⟩) ts.length c0) ts), .ro TabD Tab])
    refine (ihA (used := true) (l := (l ++ [40])) O18h (by omega)).mono ?_
    rintro _ w16 ⟨A14, c15, rfl, h17⟩
    have O18 : Own Z w0 w16 [.blk tc 23 #[.slice (some ⟨b, o, none⟩) ts.length c0], .blk bb 82 #[addrB true bb, .slice A14 ((n + 1) + (textT A1).length) c15], .row (.slice A14 ((n + 1) + (textT A1).length) c15) 5 1 ((n + 1) + (textT A1).length) (Lib.byteCells ((l ++ [40]) ++ textT A1)), .blk fc 83 #[.func (.func 66) #[] #[.pointer (some ⟨tc, 0, none⟩), .pointer (some ⟨bb, 0, none⟩), .pointer (some ⟨fc, 0, none⟩)]], .ro D (fun w => NodesD D w (.slice (some ⟨b, o, none⟩) ts.length c0) ts), .ro TabD Tab] := Own.frame (A := [.blk tc 23 #[.slice (some ⟨b, o, none⟩) ts.length c0], .blk bb 82 #[addrB true bb, .slice A7 (n + 1) c8], .row (.slice A7 (n + 1) c8) 5 1 (n + 1) (Lib.byteCells (l ++ [40])), .blk fc 83 #[.func (.func 66) #[] #[.pointer (some ⟨tc, 0, none⟩), .pointer (some ⟨bb, 0, none⟩), .pointer (some ⟨fc, 0, none⟩)]], .ro D (fun w => NodesD D w (.slice (some ⟨b, o, none⟩) ts.length c0) ts), .ro TabD Tab]) (R := []) (O13.re [2, 0, 1, 3, 4, 5] rfl : Own Z w0 w9.drew [.blk tc 23 #[.slice (some ⟨b, o, none⟩) ts.length c0], .blk bb 82 #[addrB true bb, .slice A7 (n + 1) c8], .row (.slice A7 (n + 1) c8) 5 1 (n + 1) (Lib.byteCells (l ++ [40])), .blk fc 83 #[.func (.func 66) #[] #[.pointer (some ⟨tc, 0, none⟩), .pointer (some ⟨bb, 0, none⟩), .pointer (some ⟨fc, 0, none⟩)]], .ro D (fun w => NodesD D w (.slice (some ⟨b, o, none⟩) ts.length c0) ts), .ro TabD Tab]) h17
    refine ⟨_, rfl, (O18.re [0, 3, 4, 5] rfl : Own Z w0 w16 [.blk tc 23 #[.slice (some ⟨b, o, none⟩) ts.length c0], .blk fc 83 #[.func (.func 66) #[] #[.pointer (some ⟨tc, 0, none⟩), .pointer (some ⟨bb, 0, none⟩), .pointer (some ⟨fc, 0, none⟩)]], .ro D (fun w => NodesD D w (.slice (some ⟨b, o, none⟩) ts.length c0) ts), .ro TabD Tab]), ?_⟩
    refine wt_nil ?_
    refine xw_next K12 ?_
    refine cw_seq (fun FK19 K19 => ?_)
    refine cw_region ?_
    refine wl_call (args := [.pointer (some ⟨bb, 0, none⟩), .int .u8 32]) in_69 rfl rfl rfl ?_
    have O24h := Own.hand (A := [.blk bb 82 #[addrB true bb, .slice A14 ((n + 1) + (textT A1).length) c15], .row (.slice A14 ((n + 1) + (textT A1).length) c15) 5 1 ((n + 1) + (textT A1).length) (Lib.byteCells ((l ++ [40]) ++ textT A1))]) (R := [.blk tc 23 #[.slice (some ⟨b, o, none⟩) ts.length c0], .blk fc 83 #[.func (.func 66) #[] #[.pointer (some ⟨tc, 0, none⟩), .pointer (some ⟨bb, 0, none⟩), .pointer (some ⟨fc, 0, none⟩)]], .ro D (fun w => NodesD D w (.slice (some ⟨b, o, none⟩) ts.length c0) ts), .ro TabD Tab]) (O18.re [1, 2, 0, 3, 4, 5] rfl : Own Z w0 w16 [.blk bb 82 #[addrB true bb, .slice A14 ((n + 1) + (textT A1).length) c15], .row (.slice A14 ((n + 1) + (textT A1).length) c15) 5 1 ((n + 1) + (textT A1).length) (Lib.byteCells ((l ++ [40]) ++ textT A1)), .blk tc 23 #[.slice (some ⟨b, o, none⟩) ts.length c0], .blk fc 83 #[.func (.func 66) #[] #[.pointer (some ⟨tc, 0, none⟩), .pointer (some ⟨bb, 0, none⟩), .pointer (some ⟨fc, 0, none⟩)]], .ro D (fun w => NodesD D w (.slice (some ⟨b, o, none⟩) ts.length c0) ts), .ro TabD Tab])
    refine (wbyte_ (used := true) (l := ((l ++ [40]) ++ textT A1)) 32 O24h (by omega)).mono ?_
    rintro _ w22 ⟨A20, c21, rfl, h23⟩
    have O24 : Own Z w0 w22 [.blk bb 82 #[addrB true bb, .slice A20 (((n + 1) + (textT A1).length) + 1) c21], .row (.slice A20 (((n + 1) + (textT A1).length) + 1) c21) 5 1 (((n + 1) + (textT A1).length) + 1) (Lib.byteCells (((l ++ [40]) ++ textT A1) ++ [32])), .blk tc 23 #[.slice (some ⟨b, o, none⟩) ts.length c0], .blk fc 83 #[.func (.func 66) #[] #[.pointer (some ⟨tc, 0, none⟩), .pointer (some ⟨bb, 0, none⟩), .pointer (some ⟨fc, 0, none⟩)]], .ro D (fun w => NodesD D w (.slice (some ⟨b, o, none⟩) ts.length c0) ts), .ro TabD Tab] := Own.frame (A := [.blk bb 82 #[addrB true bb, .slice A14 ((n + 1) + (textT A1).length) c15], .row (.slice A14 ((n + 1) + (textT A1).length) c15) 5 1 ((n + 1) + (textT A1).length) (Lib.byteCells ((l ++ [40]) ++ textT A1))]) (R := [.blk tc 23 #[.slice (some ⟨b, o, none⟩) ts.length c0], .blk fc 83 #[.func (.func 66) #[] #[.pointer (some ⟨tc, 0, none⟩), .pointer (some ⟨bb, 0, none⟩), .pointer (some ⟨fc, 0, none⟩)]], .ro D (fun w => NodesD D w (.slice (some ⟨b, o, none⟩) ts.length c0) ts), .ro TabD Tab]) (O18.re [1, 2, 0, 3, 4, 5] rfl : Own Z w0 w16 [.blk bb 82 #[addrB true bb, .slice A14 ((n + 1) + (textT A1).length) c15], .row (.slice A14 ((n + 1) + (textT A1).length) c15) 5 1 ((n + 1) + (textT A1).length) (Lib.byteCells ((l ++ [40]) ++ textT A1)), .blk tc 23 #[.slice (some ⟨b, o, none⟩) ts.length c0], .blk fc 83 #[.func (.func 66) #[] #[.pointer (some ⟨tc, 0, none⟩), .pointer (some ⟨bb, 0, none⟩), .pointer (some ⟨fc, 0, none⟩)]], .ro D (fun w => NodesD D w (.slice (some ⟨b, o, none⟩) ts.length c0) ts), .ro TabD Tab]) h23
    refine ⟨_, rfl, ?_⟩
    refine wl_nil ?_
    refine xw_next K19 ?_
    refine cw_seq (fun FK25 K25 => ?_)
    refine cw_drawn (fun X => Own Z w0 X [.blk tc 23 #[.slice (some ⟨b, o, none⟩) ts.length c0], .blk fc 83 #[.func (.func 66) #[] #[.pointer (some ⟨tc, 0, none⟩), .pointer (some ⟨bb, 0, none⟩), .pointer (some ⟨fc, 0, none⟩)]], .ro D (fun w => NodesD D w (.slice (some ⟨b, o, none⟩) ts.length c0) ts), .ro TabD Tab]) 7 [(0, 0), (1, 0), (2, 1), (3, 1), (4, 1), (5, 0), (6, 2)] (by kernel_rfl) (by kernel_rfl) (PQ.then_ PQ.body) ((O24.re [2, 3, 4, 5] rfl : Own Z w0 w22 [.blk tc 23 #[.slice (some ⟨b, o, none⟩) ts.length c0], .blk fc 83 #[.func (.func 66) #[] #[.pointer (some ⟨tc, 0, none⟩), .pointer (some ⟨bb, 0, none⟩), .pointer (some ⟨fc, 0, none⟩)]], .ro D (fun w => NodesD D w (.slice (some ⟨b, o, none⟩) ts.length c0) ts), .ro TabD Tab])).drew ?_
    have O26 : Own Z w0 w22.drew [.blk bb 82 #[addrB true bb, .slice A20 (((n + 1) + (textT A1).length) + 1) c21], .row (.slice A20 (((n + 1) + (textT A1).length) + 1) c21) 5 1 (((n + 1) + (textT A1).length) + 1) (Lib.byteCells (((l ++ [40]) ++ textT A1) ++ [32])), .blk tc 23 #[.slice (some ⟨b, o, none⟩) ts.length c0], .blk fc 83 #[.func (.func 66) #[] #[.pointer (some ⟨tc, 0, none⟩), .pointer (some ⟨bb, 0, none⟩), .pointer (some ⟨fc, 0, none⟩)]], .ro D (fun w => NodesD D w (.slice (some ⟨b, o, none⟩) ts.length c0) ts), .ro TabD Tab] := O24.drew
    refine wt0 (v := .func (.func 66) #[] #[.pointer (some ⟨tc, 0, none⟩), .pointer (some ⟨bb, 0, none⟩), .pointer (some ⟨fc, 0, none⟩)]) rfl (fun ρ e W hW => ex_load1 ty83 (e _ _ rfl) (hW.cell 1 0 rfl rfl)) rfl rfl ?_
    refine wt0 (v := .slice (some ⟨b, o, none⟩) ts.length c0) rfl (fun ρ e W hW => ex_load1 ty23 (e _ _ rfl) (hW.cell 0 0 rfl rfl)) rfl rfl ?_
    refine wt1 (v := .int .i64 (i : Int)) rfl (fun ρ e W => ex_move (e _ _ rfl)) rfl rfl ?_
    refine wt1 (v := .pointer (some ⟨b, o + i * 3, none⟩)) rfl (fun ρ e W => ex_idx (q := o + i * 3) (i := i) el23 (e _ _ rfl) (e _ _ rfl) (by omega) (by omega)) rfl rfl ?_
    refine wt1 (v := .pointer (some ⟨b, o + i * 3 + 1, none⟩)) rfl (fun ρ e W => ex_field (q := o + i * 3 + 1) fi38_1 (e _ _ rfl) rfl) rfl rfl ?_
    refine wt0 (v := .int .i64 (b2 : Int)) rfl (fun ρ e W hW => ex_load1 ty3 (e _ _ rfl) (NodesD.c1 ((hW.ro 2 rfl : (fun w => NodesD D w (.slice (some ⟨b, o, none⟩) ts.length c0) ts) _) : NodesD _ _ _ _) hx)) rfl rfl ?_
    refine wt2_callv (args := [.int .i64 (b2 : Int)]) (all := [.int .i64 (b2 : Int), .pointer (some ⟨tc, 0, none⟩), .pointer (some ⟨bb, 0, none⟩), .pointer (some ⟨fc, 0, none⟩)]) rfl in_66 rfl rfl rfl rfl rfl ?_
    have O31h := Own.hand (A := [.blk tc 23 #[.slice (some ⟨b, o, none⟩) ts.length c0], .blk bb 82 #[addrB true bb, .slice A20 (((n + 1) + (textT A1).length) + 1) c21], .row (.slice A20 (((n + 1) + (textT A1).length) + 1) c21) 5 1 (((n + 1) + (textT A1).length) + 1) (Lib.byteCells (((l ++ [40]) ++ textT A1) ++ [32])), .blk fc 83 #[.func (.func 66) #[] #[.pointer (some ⟨tc, 0, none⟩), .pointer (some ⟨bb, 0, none⟩), .pointer (some ⟨fc, 0, none⟩)]], .ro D (fun w => NodesD D w (.slice (some ⟨b, o, none⟩) ts.length c0) ts), .ro TabD Tab]) (R := []) (O26.re [2, 0, 1, 3, 4, 5] rfl : Own Z w0 w22.drew [.blk tc 23 #[.slice (some ⟨b, o, none⟩) ts.length c0], .blk bb 82 #[addrB true bb, .slice A20 (((n + 1) + (textT A1).length) + 1) c21], .row (.slice A20 (((n + 1) + (textT A1).length) + 1) c21) 5 1 (((n + 1) + (textT A1).length) + 1) (Lib.byteCells (((l ++ [40]) ++ textT A1) ++ [32])), .blk fc 83 #[.func (.func 66) #[] #[.pointer (some ⟨tc, 0, none⟩), .pointer (some ⟨bb, 0, none⟩), .pointer (some ⟨fc, 0, none⟩)]], .ro D (fun w => NodesD D w (.slice (some ⟨b, o, none⟩) ts.length c0) ts), .ro TabD Tab])
    refine (ihB (used := true) (l := (((l ++ [40]) ++ textT A1) ++ [32])) O31h (by omega)).mono ?_
    rintro _ w29 ⟨A27, c28, rfl, h30⟩
    have O31 : Own Z w0 w29 [.blk tc 23 #[.slice (some ⟨b, o, none⟩) ts.length c0], .blk bb 82 #[addrB true bb, .slice A27 ((((n + 1) + (textT A1).length) + 1) + (textT B1).length) c28], .row (.slice A27 ((((n + 1) + (textT A1).length) + 1) + (textT B1).length) c28) 5 1 ((((n + 1) + (textT A1).length) + 1) + (textT B1).length) (Lib.byteCells ((((l ++ [40]) ++ textT A1) ++ [32]) ++ textT B1)), .blk fc 83 #[.func (.func 66) #[] #[.pointer (some ⟨tc, 0, none⟩), .pointer (some ⟨bb, 0, none⟩), .pointer (some ⟨fc, 0, none⟩)]], .ro D (fun w => NodesD D w (.slice (some ⟨b, o, none⟩) ts.length c0) ts), .ro TabD Tab] := Own.frame (A := [.blk tc 23 #[.slice (some ⟨b, o, none⟩) ts.length c0], .blk bb 82 #[addrB true bb, .slice A20 (((n + 1) + (textT A1).length) + 1) c21], .row (.slice A20 (((n + 1) + (textT A1).length) + 1) c21) 5 1 (((n + 1) + (textT A1).length) + 1) (Lib.byteCells (((l ++ [40]) ++ textT A1) ++ [32])), .blk fc 83 #[.func (.func 66) #[] #[.pointer (some ⟨tc, 0, none⟩), .pointer (some ⟨bb, 0, none⟩), .pointer (some ⟨fc, 0, none⟩)]], .ro D (fun w => NodesD D w (.slice (some ⟨b, o, none⟩) ts.length c0) ts), .ro TabD Tab]) (R := []) (O26.re [2, 0, 1, 3, 4, 5] rfl : Own Z w0 w22.drew [.blk tc 23 #[.slice (some ⟨b, o, none⟩) ts.length c0], .blk bb 82 #[addrB true bb, .slice A20 (((n + 1) + (textT A1).length) + 1) c21], .row (.slice A20 (((n + 1) + (textT A1).length) + 1) c21) 5 1 (((n + 1) + (textT A1).length) + 1) (Lib.byteCells (((l ++ [40]) ++ textT A1) ++ [32])), .blk fc 83 #[.func (.func 66) #[] #[.pointer (some ⟨tc, 0, none⟩), .pointer (some ⟨bb, 0, none⟩), .pointer (some ⟨fc, 0, none⟩)]], .ro D (fun w => NodesD D w (.slice (some ⟨b, o, none⟩) ts.length c0) ts), .ro TabD Tab]) h30
    refine ⟨_, rfl, (O31.re [0, 3, 4, 5] rfl : Own Z w0 w29 [.blk tc 23 #[.slice (some ⟨b, o, none⟩) ts.length c0], .blk fc 83 #[.func (.func 66) #[] #[.pointer (some ⟨tc, 0, none⟩), .pointer (some ⟨bb, 0, none⟩), .pointer (some ⟨fc, 0, none⟩)]], .ro D (fun w => NodesD D w (.slice (some ⟨b, o, none⟩) ts.length c0) ts), .ro TabD Tab]), ?_⟩
    refine wt_nil ?_
    refine xw_next K25 ?_
    refine cw_region ?_
    refine wl_call (args := [.pointer (some ⟨bb, 0, none⟩), .int .u8 41]) in_69 rfl rfl rfl ?_
    have O36h := Own.hand (A := [.blk bb 82 #[addrB true bb, .slice A27 ((((n + 1) + (textT A1).length) + 1) + (textT B1).length) c28], .row (.slice A27 ((((n + 1) + (textT A1).length) + 1) + (textT B1).length) c28) 5 1 ((((n + 1) + (textT A1).length) + 1) + (textT B1).length) (Lib.byteCells ((((l ++ [40]) ++ textT A1) ++ [32]) ++ textT B1))]) (R := [.blk tc 23 #[.slice (some ⟨b, o, none⟩) ts.length c0], .blk fc 83 #[.func (.func 66) #[] #[.pointer (some ⟨tc, 0, none⟩), .pointer (some ⟨bb, 0, none⟩), .pointer (some ⟨fc, 0, none⟩)]], .ro D (fun w => NodesD D w (.slice (some ⟨b, o, none⟩) ts.length c0) ts), .ro TabD Tab]) (O31.re [1, 2, 0, 3, 4, 5] rfl : Own Z w0 w29 [.blk bb 82 #[addrB true bb, .slice A27 ((((n + 1) + (textT A1).length) + 1) + (textT B1).length) c28], .row (.slice A27 ((((n + 1) + (textT A1).length) + 1) + (textT B1).length) c28) 5 1 ((((n + 1) + (textT A1).length) + 1) + (textT B1).length) (Lib.byteCells ((((l ++ [40]) ++ textT A1) ++ [32]) ++ textT B1)), .blk tc 23 #[.slice (some ⟨b, o, none⟩) ts.length c0], .blk fc 83 #[.func (.func 66) #[] #[.pointer (some ⟨tc, 0, none⟩), .pointer (some ⟨bb, 0, none⟩), .pointer (some ⟨fc, 0, none⟩)]], .ro D (fun w => NodesD D w (.slice (some ⟨b, o, none⟩) ts.length c0) ts), .ro TabD Tab])
    refine (wbyte_ (used := true) (l := ((((l ++ [40]) ++ textT A1) ++ [32]) ++ textT B1)) 41 O36h (by omega)).mono ?_
    rintro _ w34 ⟨A32, c33, rfl, h35⟩
    have O36 : Own Z w0 w34 [.blk bb 82 #[addrB true bb, .slice A32 (((((n + 1) + (textT A1).length) + 1) + (textT B1).length) + 1) c33], .row (.slice A32 (((((n + 1) + (textT A1).length) + 1) + (textT B1).length) + 1) c33) 5 1 (((((n + 1) + (textT A1).length) + 1) + (textT B1).length) + 1) (Lib.byteCells (((((l ++ [40]) ++ textT A1) ++ [32]) ++ textT B1) ++ [41])), .blk tc 23 #[.slice (some ⟨b, o, none⟩) ts.length c0], .blk fc 83 #[.func (.func 66) #[] #[.pointer (some ⟨tc, 0, none⟩), .pointer (some ⟨bb, 0, none⟩), .pointer (some ⟨fc, 0, none⟩)]], .ro D (fun w => NodesD D w (.slice (some ⟨b, o, none⟩) ts.length c0) ts), .ro TabD Tab] := Own.frame (A := [.blk bb 82 #[addrB true bb, .slice A27 ((((n + 1) + (textT A1).length) + 1) + (textT B1).length) c28], .row (.slice A27 ((((n + 1) + (textT A1).length) + 1) + (textT B1).length) c28) 5 1 ((((n + 1) + (textT A1).length) + 1) + (textT B1).length) (Lib.byteCells ((((l ++ [40]) ++ textT A1) ++ [32]) ++ textT B1))]) (R := [.blk tc 23 #[.slice (some ⟨b, o, none⟩) ts.length c0], .blk fc 83 #[.func (.func 66) #[] #[.pointer (some ⟨tc, 0, none⟩), .pointer (some ⟨bb, 0, none⟩), .pointer (some ⟨fc, 0, none⟩)]], .ro D (fun w => NodesD D w (.slice (some ⟨b, o, none⟩) ts.length c0) ts), .ro TabD Tab]) (O31.re [1, 2, 0, 3, 4, 5] rfl : Own Z w0 w29 [.blk bb 82 #[addrB true bb, .slice A27 ((((n + 1) + (textT A1).length) + 1) + (textT B1).length) c28], .row (.slice A27 ((((n + 1) + (textT A1).length) + 1) + (textT B1).length) c28) 5 1 ((((n + 1) + (textT A1).length) + 1) + (textT B1).length) (Lib.byteCells ((((l ++ [40]) ++ textT A1) ++ [32]) ++ textT B1)), .blk tc 23 #[.slice (some ⟨b, o, none⟩) ts.length c0], .blk fc 83 #[.func (.func 66) #[] #[.pointer (some ⟨tc, 0, none⟩), .pointer (some ⟨bb, 0, none⟩), .pointer (some ⟨fc, 0, none⟩)]], .ro D (fun w => NodesD D w (.slice (some ⟨b, o, none⟩) ts.length c0) ts), .ro TabD Tab]) h35
    refine ⟨_, rfl, ?_⟩
    refine wl_nil ?_
    refine xw_end (v := .tuple #[]) (fun T hT => res0 rfl T _) ?_
    have hn : (((((n + 1) + (textT A1).length) + 1) + (textT B1).length) + 1) = n + (textT (.node A1 B1)).length := by simp only [textT, List.length_cons, List.length_append, List.length_nil] <;> omega
    have hl : (((((l ++ [40]) ++ textT A1) ++ [32]) ++ textT B1) ++ [41]) = l ++ textT (.node A1 B1) := by simp [textT]
    have hO := (O36.re [2, 0, 1, 3, 4, 5] rfl : Own Z w0 w34 [.blk tc 23 #[.slice (some ⟨b, o, none⟩) ts.length c0], .blk bb 82 #[addrB true bb, .slice A32 (((((n + 1) + (textT A1).length) + 1) + (textT B1).length) + 1) c33], .row (.slice A32 (((((n + 1) + (textT A1).length) + 1) + (textT B1).length) + 1) c33) 5 1 (((((n + 1) + (textT A1).length) + 1) + (textT B1).length) + 1) (Lib.byteCells (((((l ++ [40]) ++ textT A1) ++ [32]) ++ textT B1) ++ [41])), .blk fc 83 #[.func (.func 66) #[] #[.pointer (some ⟨tc, 0, none⟩), .pointer (some ⟨bb, 0, none⟩), .pointer (some ⟨fc, 0, none⟩)]], .ro D (fun w => NodesD D w (.slice (some ⟨b, o, none⟩) ts.length c0) ts), .ro TabD Tab])
    rw [hn, hl] at hO
    exact ⟨A32, c33, rfl, hO⟩
theorem chk_ok {ts : List VN} (h : chkV ts = 0) : okT ts = true := by
  unfold chkV at h
  split at h
  · assumption
  · omega
theorem chk_no {ts : List VN} (h : chkV ts ≠ 0) : okT ts = false := by
  unfold chkV at h
  split at h
  · omega
  · rename_i q; simpa using q
theorem Own.builder {w0 W : World} {b n c : Nat} {A : Option Addr} {l : List UInt8} (O : Own Z0 w0 W [.blk b 82 #[.pointer (some ⟨b, 0, none⟩), .slice A n c], .row (.slice A n c) 5 1 n (Lib.byteCells ([] ++ l))]) : Lib.IsBuilder 82 5 w0.heap.size b (Lib.byteCells l) W := by
  have hb := O.blk 0 rfl
  have hr := O.newrow 1 rfl
  have hn : n = (Lib.byteCells l).length := by have := hr.1; simpa using this.symm
  refine .inr ⟨?_, .slice A n c, hb, by rw [List.nil_append] at hr; rw [← hn]; exact hr, fun q => ?_⟩
  · rcases O.free _ (List.Mem.head _) b rfl with h | h
    · exact absurd (h.2 trivial) (by simp [Z0])
    · exact h
  · have h := List.pairwise_cons.1 O.dist
    exact h.1 _ (List.Mem.head _) (.inl trivial) b rfl q
theorem print_ {W : World} {D : Nat → Prop} {V : Value} {ts : List VN} (hN : NodesD D W V ts) (hD : ∀ k, D k → k < W.heap.size) (tab : Tab W) :
    Calls Tryd.prog 39 #[V] W fun e w' => e = .returned (.tuple #[.string ⟨(printOf ts).toArray⟩, .int .i64 (chkV ts)]) ∧ Below W.heap.size W w' := by
  obtain ⟨A, c, rfl⟩ := hN.slice
  have O0 : Own Z0 W W [] := Own.start W
  refine sx_enter (args := [.slice A ts.length c]) Tryd.func39 rfl rfl (by simp) ?_
  refine cw_seq (fun FK1 K1 => ?_)
  refine cw_region ?_
  obtain ⟨g2, w3, r4, O5, hg6, hs7⟩ := own_box O0 23 (.slice A ts.length c) rfl
  refine wl_val (v := .pointer (some ⟨g2, 0, none⟩)) (fun ρ e => r4 ρ _ _ _ _ _ _ (e _ _ rfl)) rfl rfl ?_
  refine wl_val (v := .string (⟨#[]⟩)) (fun ρ e => ex_assign (e _ _ rfl)) rfl rfl ?_
  refine wl_val (v := .int .i64 0) (fun ρ e => ex_assign (e _ _ rfl)) rfl rfl ?_
  refine wl_nil ?_
  refine xw_next K1 ?_
  refine cw_seq (fun FK8 K8 => ?_)
  refine cw_seq (fun FK9 K9 => ?_)
  refine cw_region ?_
  refine wl_val (v := .slice A ts.length c) (fun ρ e => ex_load1 ty23 (e _ _ rfl) (O5.cell 0 0 rfl rfl)) rfl rfl ?_
  refine wl_call (args := [.slice A ts.length c]) in_23 rfl rfl rfl ?_
  refine (check_ (hN.move (fun k hk => (O5.old).block k (hD k hk))) (fun k hk => Nat.lt_of_lt_of_le (hD k hk) (O5.old).size)).mono ?_
  rintro _ w10 ⟨rfl, hb11⟩
  have O12 : Own Z0 W w10 [.blk g2 23 #[.slice A ts.length c]] := O5.below hb11
  refine ⟨_, rfl, ?_⟩
  by_cases c13 : (chkV ts) ≠ 0
  · skip
    refine wl_val (v := .bool true) (fun ρ e => ex_cmp (u := (chkV ts)) (v := 0) (e _ _ rfl) (e _ _ rfl) (neq1 (by omega))) rfl rfl ?_
    refine wl_nil ?_
    refine xw_next K9 ?_
    refine cw_true rfl ?_
    refine cw_seq (fun FK14 K14 => ?_)
    refine cw_region ?_
    refine wl_val (v := .string (⟨#[]⟩)) (fun ρ e => ex_assign (e _ _ rfl)) rfl rfl ?_
    refine wl_val (v := .int .i64 1) (fun ρ e => ex_assign (e _ _ rfl)) rfl rfl ?_
    refine wl_nil ?_
    refine xw_next K14 ?_
    refine cw_ret ?_
    refine xw_past (by intro h; cases h) ?_
    refine xw_ret (v := .tuple #[.string (⟨#[]⟩), .int .i64 1]) (fun T hT => res2 rfl T _ (hT 2 _ rfl) (hT 3 _ rfl)) ?_
    have hno : okT ts = false := chk_no (by omega)
    exact ⟨by unfold chkV printOf; rw [hno]; rfl, O12.old⟩
  · skip
    have hok : okT ts = true := chk_ok (by omega)
    have hV := okT_val hok
    have hpos := hV.pos
    have hle := hV.le
    obtain ⟨vs, hAt⟩ := tree_at hok
    have hsm := hAt.small hV
    obtain ⟨b, o, c', hv, hDb⟩ := hN.form hpos
    injection hv with hA _ hc
    subst hA hc
    have O15 := (O12.oldro (D := TabD) (p := Tab) (tabE_holds tab)).oldro (D := D) (p := (fun w => NodesD D w (.slice (some ⟨b, o, none⟩) ts.length c) ts)) (nodesE_holds hN hD)
    refine wl_val (v := .bool false) (fun ρ e => ex_cmp (u := (chkV ts)) (v := 0) (e _ _ rfl) (e _ _ rfl) (neq0 (by omega))) rfl rfl ?_
    refine wl_nil ?_
    refine xw_next K9 ?_
    refine cw_false rfl ?_
    refine cw_skip ?_
    refine xw_next K8 ?_
    refine cw_seq (fun FK16 K16 => ?_)
    refine cw_region ?_
    obtain ⟨g17, w18, r19, O20, hg21, hs22⟩ := own_alloc O15 82 ze82 rfl
    refine wl_val (v := .pointer (some ⟨g17, 0, none⟩)) (fun ρ e => r19 ρ _ _ _ _ _) rfl rfl ?_
    refine wl_nil ?_
    refine xw_next K16 ?_
    refine cw_seq (fun FK23 K23 => ?_)
    refine cw_region ?_
    obtain ⟨g24, w25, r26, O27, hg28, hs29⟩ := own_alloc O20 83 ze83 rfl
    refine wl_val (v := .pointer (some ⟨g24, 0, none⟩)) (fun ρ e => r26 ρ _ _ _ _ _) rfl rfl ?_
    refine wl_nil ?_
    refine xw_next K23 ?_
    refine cw_seq (fun FK30 K30 => ?_)
    refine cw_region ?_
    refine wl_val (v := .func (.func 66) #[] #[.pointer (some ⟨g2, 0, none⟩), .pointer (some ⟨g17, 0, none⟩), .pointer (some ⟨g24, 0, none⟩)]) (fun ρ e => ex_func (us := []) (vs := [.pointer (some ⟨g2, 0, none⟩), .pointer (some ⟨g17, 0, none⟩), .pointer (some ⟨g24, 0, none⟩)]) (e.list rfl) (e.list rfl)) rfl rfl ?_
    obtain ⟨w31, r32, O33, hs34⟩ := own_put (o := 0) (n := 1) O27 ty83 (.func (.func 66) #[] #[.pointer (some ⟨g2, 0, none⟩), .pointer (some ⟨g17, 0, none⟩), .pointer (some ⟨g24, 0, none⟩)]) [.func (.func 66) #[] #[.pointer (some ⟨g2, 0, none⟩), .pointer (some ⟨g17, 0, none⟩), .pointer (some ⟨g24, 0, none⟩)]] (cs' := #[.func (.func 66) #[] #[.pointer (some ⟨g2, 0, none⟩), .pointer (some ⟨g17, 0, none⟩), .pointer (some ⟨g24, 0, none⟩)]]) rfl rfl rfl (Nat.le_of_ble_eq_true rfl) rfl
    refine wl_none (fun ρ e => r32 ρ _ _ _ _ _ _ (e _ _ rfl) (e _ _ rfl)) rfl ?_
    refine wl_nil ?_
    refine xw_next K30 ?_
    refine cw_seq (fun FK35 K35 => ?_)
    refine cw_region ?_
    refine wl_val (v := .func (.func 66) #[] #[.pointer (some ⟨g2, 0, none⟩), .pointer (some ⟨g17, 0, none⟩), .pointer (some ⟨g24, 0, none⟩)]) (fun ρ e => ex_load1 ty83 (e _ _ rfl) (O33.cell 0 0 rfl rfl)) rfl rfl ?_
    refine wl_val (v := .slice (some ⟨b, o, none⟩) ts.length c) (fun ρ e => ex_load1 ty23 (e _ _ rfl) (O33.cell 4 0 rfl rfl)) rfl rfl ?_
    refine wl_val (v := .int .i64 ((ts.length : Nat) : Int)) (fun ρ e => ex_len el23 (e _ _ rfl)) rfl rfl ?_
    refine wl_val (v := .int .i64 ((ts.length - 1 : Nat) : Int)) (fun ρ e => ex_arith (k := .i64) (u := ((ts.length : Nat) : Int)) (v := 1) (e _ _ rfl) (e _ _ rfl) (congrArg some ((congrArg _ (show _ = ((ts.length - 1 : Nat) : Int) by omega)).trans (wrap_in (by omega) (by omega))))) rfl rfl ?_
    refine wl_callv (args := [.int .i64 ((ts.length - 1 : Nat) : Int)]) (all := [.int .i64 ((ts.length - 1 : Nat) : Int), .pointer (some ⟨g2, 0, none⟩), .pointer (some ⟨g17, 0, none⟩), .pointer (some ⟨g24, 0, none⟩)]) in_66 rfl rfl rfl rfl rfl ?_
    have O36 : Own Z0 W w31 [.row (.slice none 0 0) 5 1 0 (Lib.byteCells []), .blk g24 83 #[.func (.func 66) #[] #[.pointer (some ⟨g2, 0, none⟩), .pointer (some ⟨g17, 0, none⟩), .pointer (some ⟨g24, 0, none⟩)]], .blk g17 82 #[.pointer none, .slice none 0 0], .ro D (fun w => NodesD D w (.slice (some ⟨b, o, none⟩) ts.length c) ts), .ro TabD Tab, .blk g2 23 #[.slice (some ⟨b, o, none⟩) ts.length c]] := O33.nilrow 5 1
    have O41h := Own.hand (A := [.blk g2 23 #[.slice (some ⟨b, o, none⟩) ts.length c], .blk g17 82 #[.pointer none, .slice none 0 0], .row (.slice none 0 0) 5 1 0 (Lib.byteCells []), .blk g24 83 #[.func (.func 66) #[] #[.pointer (some ⟨g2, 0, none⟩), .pointer (some ⟨g17, 0, none⟩), .pointer (some ⟨g24, 0, none⟩)]], .ro D (fun w => NodesD D w (.slice (some ⟨b, o, none⟩) ts.length c) ts), .ro TabD Tab]) (R := []) (O36.re [5, 2, 0, 1, 3, 4] rfl : Own Z0 W w31 [.blk g2 23 #[.slice (some ⟨b, o, none⟩) ts.length c], .blk g17 82 #[.pointer none, .slice none 0 0], .row (.slice none 0 0) 5 1 0 (Lib.byteCells []), .blk g24 83 #[.func (.func 66) #[] #[.pointer (some ⟨g2, 0, none⟩), .pointer (some ⟨g17, 0, none⟩), .pointer (some ⟨g24, 0, none⟩)]], .ro D (fun w => NodesD D w (.slice (some ⟨b, o, none⟩) ts.length c) ts), .ro TabD Tab])
    refine (pwrite_ (used := false) (l := []) hAt O41h (by omega)).mono ?_
    rintro _ w39 ⟨A37, c38, rfl, h40⟩
    have O41 : Own Z0 W w39 [.blk g2 23 #[.slice (some ⟨b, o, none⟩) ts.length c], .blk g17 82 #[.pointer (some ⟨g17, 0, none⟩), .slice A37 (0 + (textT (treeOf ts)).length) c38], .row (.slice A37 (0 + (textT (treeOf ts)).length) c38) 5 1 (0 + (textT (treeOf ts)).length) (Lib.byteCells ([] ++ textT (treeOf ts))), .blk g24 83 #[.func (.func 66) #[] #[.pointer (some ⟨g2, 0, none⟩), .pointer (some ⟨g17, 0, none⟩), .pointer (some ⟨g24, 0, none⟩)]], .ro D (fun w => NodesD D w (.slice (some ⟨b, o, none⟩) ts.length c) ts), .ro TabD Tab] := Own.frame (A := [.blk g2 23 #[.slice (some ⟨b, o, none⟩) ts.length c], .blk g17 82 #[.pointer none, .slice none 0 0], .row (.slice none 0 0) 5 1 0 (Lib.byteCells []), .blk g24 83 #[.func (.func 66) #[] #[.pointer (some ⟨g2, 0, none⟩), .pointer (some ⟨g17, 0, none⟩), .pointer (some ⟨g24, 0, none⟩)]], .ro D (fun w => NodesD D w (.slice (some ⟨b, o, none⟩) ts.length c) ts), .ro TabD Tab]) (R := []) (O36.re [5, 2, 0, 1, 3, 4] rfl : Own Z0 W w31 [.blk g2 23 #[.slice (some ⟨b, o, none⟩) ts.length c], .blk g17 82 #[.pointer none, .slice none 0 0], .row (.slice none 0 0) 5 1 0 (Lib.byteCells []), .blk g24 83 #[.func (.func 66) #[] #[.pointer (some ⟨g2, 0, none⟩), .pointer (some ⟨g17, 0, none⟩), .pointer (some ⟨g24, 0, none⟩)]], .ro D (fun w => NodesD D w (.slice (some ⟨b, o, none⟩) ts.length c) ts), .ro TabD Tab]) h40
    refine ⟨_, rfl, ?_⟩
    refine wl_nil ?_
    refine xw_next K35 ?_
    refine cw_seq (fun FK42 K42 => ?_)
    refine cw_region ?_
    refine wl_call (args := [.pointer (some ⟨g17, 0, none⟩)]) in_70 rfl rfl rfl ?_
    refine (Tryd.Builder_String W.heap.size g17 (textT (treeOf ts)) _ ((O41.re [1, 2] rfl : Own Z0 W w39 [.blk g17 82 #[.pointer (some ⟨g17, 0, none⟩), .slice A37 (0 + (textT (treeOf ts)).length) c38], .row (.slice A37 (0 + (textT (treeOf ts)).length) c38) 5 1 (0 + (textT (treeOf ts)).length) (Lib.byteCells ([] ++ textT (treeOf ts)))]).builder) (by have := (textT_len (treeOf ts)).1; intro q; rw [q] at this; exact absurd this (Nat.lt_irrefl _))).mono ?_
    rintro _ w43 ⟨rfl, hb44⟩
    have O45 : Own Z0 W w43 [] := (Own.start W).below (O41.old.trans hb44)
    refine ⟨_, rfl, ?_⟩
    refine wl_val (v := .string (⟨(textT (treeOf ts)).toArray⟩)) (fun ρ e => ex_assign (e _ _ rfl)) rfl rfl ?_
    refine wl_val (v := .int .i64 0) (fun ρ e => ex_assign (e _ _ rfl)) rfl rfl ?_
    refine wl_nil ?_
    refine xw_next K42 ?_
    refine cw_ret ?_
    refine xw_ret (v := .tuple #[.string (⟨(textT (treeOf ts)).toArray⟩), .int .i64 0]) (fun T hT => res2 rfl T _ (hT 2 _ rfl) (hT 3 _ rfl)) ?_
    exact ⟨by unfold chkV printOf; rw [hok]; rfl, O45.old⟩
end Go.Proofs.YtpeoodkepjhhiaaDoor
namespace Go.Proofs.YtpeoodkepjhhiaaDoor

/-- The tree below a node, the node at turned: kind 1: ((a b) c) to (a (b c)); 2: (a (b c)) to ((a b) c); 3: the children exchanged. -/
def chT (ts : List VN) (kind at_ : Nat) : Nat → Nat → Tr
  | 0, _ => .leaf 0
  | n + 1, i => match ts[i]? with
    | none => .leaf 0
    | some x => if lf x then .leaf x.v
      else if i = at_ ∧ kind = 1 then (match ts[x.l.toNat]? with
        | none => .leaf 0
        | some y => .node (trF ts n y.l.toNat) (.node (trF ts n y.r.toNat) (trF ts n x.r.toNat)))
      else if i = at_ ∧ kind = 2 then (match ts[x.r.toNat]? with
        | none => .leaf 0
        | some y => .node (.node (trF ts n x.l.toNat) (trF ts n y.l.toNat)) (trF ts n y.r.toNat))
      else if i = at_ ∧ kind = 3 then .node (chT ts kind at_ n x.r.toNat) (chT ts kind at_ n x.l.toNat)
      else .node (chT ts kind at_ n x.l.toNat) (chT ts kind at_ n x.r.toNat)
def innerB (ts : List VN) (i : Int) : Bool := decide (0 ≤ i) && (match ts[i.toNat]? with
  | some x => !lf x
  | none => false)
def childOf (ts : List VN) (kind : Nat) (i : Int) : Int := match ts[i.toNat]? with
  | some x => if kind = 1 then x.l else x.r
  | none => -1
def canB (ts : List VN) (kind : Nat) (i : Int) : Bool := okT ts && innerB ts i && (decide (kind = 3) || innerB ts (childOf ts kind i))
def movOf (ts : List VN) (kind : Nat) (i : Int) : List VN × Int := if canB ts kind i then (post (chT ts kind i.toNat ts.length (ts.length - 1)) 0, 0) else ([], 1)
/-- The children that the program's change gives. -/
def fR (at_ low p q c : Nat) : Nat → Nat → Nat → Nat × Nat := fun i a b => if i = at_ then (p, low) else if i = low then (q, c) else (a, b)
def fL (at_ low p q c : Nat) : Nat → Nat → Nat → Nat × Nat := fun i a b => if i = at_ then (low, q) else if i = low then (c, p) else (a, b)
def fS (at_ : Nat) : Nat → Nat → Nat → Nat × Nat := fun i a b => if i = at_ then (b, a) else (a, b)
section
variable {ts : List VN}
theorem At.keep {f : Nat → Nat → Nat → Nat × Nat} {j : Nat} {T : Tr} {vs : List Nat} (h : At ts idF j T vs) (hf : ∀ k ∈ vs, ∀ a b : Nat, f k a b = (a, b)) : At ts f j T vs := by
  induction h with
  | leaf h h1 h2 => exact .leaf h h1 h2
  | node h he _ _ h1 h2 =>
    injection he with e1 e2
    subst e1 e2
    exact .node h (hf _ (by simp) _ _) (h1 (fun k hk => hf k (by simp [hk]))) (h2 (fun k hk => hf k (by simp [hk])))
theorem Val.in_ (hV : Val ts) {i a b : Nat} (h : ts[i]? = some ⟨(a : Int), (b : Int), 0⟩) : a < i ∧ b < i ∧ a ≠ b ∧ i < ts.length := by
  have hi := (List.getElem?_eq_some_iff.1 h).1
  rcases hV.kind _ _ h with ⟨v, hx, _⟩ | ⟨a', b', hx, ha, hb, hne⟩
  · injection hx with hx _ _; omega
  · injection hx with e1 e2 _
    omega
/-- A node that is low's parent is at; so what lies below at, but for low's part, has neither. -/
theorem At.below_ (hV : Val ts) {at_ low j a b : Nat} {T : Tr} {vs : List Nat} (hat : ts[at_]? = some ⟨(a : Int), (b : Int), 0⟩) (hl : low = a ∨ low = b) (h : At ts idF j T vs) (hj : j < at_) (hne : j ≠ low) : ∀ k ∈ vs, k ≠ at_ ∧ k ≠ low := by
  intro k hk
  have hle := h.le hV k hk
  refine ⟨by omega, ?_⟩
  rintro rfl
  obtain ⟨p, c, d, hp, hq, hkk⟩ := h.par k hk (fun e => hne e.symm)
  have := hV.up p at_ c d a b k hq hat hkk hl
  have := h.le hV p hp
  omega
theorem At.get (hV : Val ts) {n j : Nat} (hn : j < n) (hj : j < ts.length) : ∃ vs, At ts idF j (trF ts n j) vs := by
  obtain ⟨T, vs, h⟩ := At.exists_ hV (j + 1) j (by omega) hj
  exact ⟨vs, by rw [h.tr hV n hn]; exact h⟩
theorem chT_leaf {kind at_ n i : Nat} {v : Int} (h : ts[i]? = some ⟨-1, -1, v⟩) (h1 : 1 ≤ v) (h2 : v ≤ 128) : chT ts kind at_ (n + 1) i = .leaf v := by
  unfold chT
  rw [h]
  simp [lf_leaf h1 h2]
theorem chT_node {kind at_ n i a b : Nat} (h : ts[i]? = some ⟨(a : Int), (b : Int), 0⟩) (hne : i ≠ at_) : chT ts kind at_ (n + 1) i = .node (chT ts kind at_ n a) (chT ts kind at_ n b) := by
  conv => lhs; unfold chT
  rw [h]
  simp [lf_inner, hne]
theorem chT_r {at_ n a b p q : Nat} (h : ts[at_]? = some ⟨(a : Int), (b : Int), 0⟩) (h2 : ts[a]? = some ⟨(p : Int), (q : Int), 0⟩) : chT ts 1 at_ (n + 1) at_ = .node (trF ts n p) (.node (trF ts n q) (trF ts n b)) := by
  conv => lhs; unfold chT
  rw [h]
  simp [lf_inner, h2]
theorem chT_s {at_ n a b : Nat} (h : ts[at_]? = some ⟨(a : Int), (b : Int), 0⟩) : chT ts 3 at_ (n + 1) at_ = .node (chT ts 3 at_ n b) (chT ts 3 at_ n a) := by
  conv => lhs; unfold chT
  rw [h]
  simp [lf_inner]
theorem trF_node {n i a b : Nat} (h : ts[i]? = some ⟨(a : Int), (b : Int), 0⟩) : trF ts (n + 1) i = .node (trF ts n a) (trF ts n b) := by
  conv => lhs; unfold trF
  rw [h]
  simp [lf_inner]
theorem trF_leaf {n i : Nat} {v : Int} (h : ts[i]? = some ⟨-1, -1, v⟩) (h1 : 1 ≤ v) (h2 : v ≤ 128) : trF ts (n + 1) i = .leaf v := by
  conv => lhs; unfold trF
  rw [h]
  simp [lf_leaf h1 h2]
theorem trF_more (hV : Val ts) {n m j : Nat} (h1 : j < n) (h2 : j < m) (hj : j < ts.length) : trF ts n j = trF ts m j := by
  obtain ⟨T, vs, h⟩ := At.exists_ hV (j + 1) j (by omega) hj
  rw [h.tr hV n h1, h.tr hV m h2]
/-- The walk up to the turned node: f is as it was but at at and low. -/
theorem mv_up (hV : Val ts) {kind at_ low a b : Nat} {f : Nat → Nat → Nat → Nat × Nat} (hat : ts[at_]? = some ⟨(a : Int), (b : Int), 0⟩) (hl : low = a ∨ low = b) (hf : ∀ k a b, k ≠ at_ → k ≠ low → f k a b = (a, b))
    (hcase : ∀ n, at_ < n → (∃ vs, At ts f at_ (chT ts kind at_ n at_) vs) ∧ (chT ts kind at_ n at_).size = (trF ts n at_).size) :
    ∀ n i, i < n → i < ts.length → (i ≠ low → ∃ vs, At ts f i (chT ts kind at_ n i) vs) ∧ (chT ts kind at_ n i).size = (trF ts n i).size
  | 0, _, h, _ => absurd h (Nat.not_lt_zero _)
  | n + 1, i, h, hi => by
    by_cases e : i = at_
    · subst e
      have := hcase (n + 1) h
      exact ⟨fun _ => this.1, this.2⟩
    · rcases hV.kind i _ (List.getElem?_eq_getElem hi) with ⟨v, hx, h1, h2⟩ | ⟨c, d, hx, hc, hd, hcd⟩
      · have hg : ts[i]? = some ⟨-1, -1, v⟩ := by rw [List.getElem?_eq_getElem hi, hx]
        rw [chT_leaf hg h1 h2, trF_leaf hg h1 h2]
        exact ⟨fun _ => ⟨_, .leaf hg h1 h2⟩, rfl⟩
      · have hg : ts[i]? = some ⟨(c : Int), (d : Int), 0⟩ := by rw [List.getElem?_eq_getElem hi, hx]
        rw [chT_node hg e, trF_node hg]
        obtain ⟨h1, h2⟩ := mv_up hV hat hl hf hcase n c (by omega) (by omega)
        obtain ⟨h3, h4⟩ := mv_up hV hat hl hf hcase n d (by omega) (by omega)
        refine ⟨fun hne => ?_, by simp only [Tr.size, h2, h4]⟩
        have hcl : c ≠ low := by
          rintro rfl
          exact e (hV.up i at_ c d a b c hg hat (.inl rfl) hl)
        have hdl : d ≠ low := by
          rintro rfl
          exact e (hV.up i at_ c d a b d hg hat (.inr rfl) hl)
        obtain ⟨va, hA⟩ := h1 hcl
        obtain ⟨vb, hB⟩ := h3 hdl
        exact ⟨_, .node hg (hf i c d e hne) hA hB⟩
theorem mv_r (hV : Val ts) {at_ a b p q : Nat} (hat : ts[at_]? = some ⟨(a : Int), (b : Int), 0⟩) (hlow : ts[a]? = some ⟨(p : Int), (q : Int), 0⟩) (n : Nat) (hn : at_ < n) :
    (∃ vs, At ts (fR at_ a p q b) at_ (chT ts 1 at_ n at_) vs) ∧ (chT ts 1 at_ n at_).size = (trF ts n at_).size := by
  obtain ⟨n, rfl⟩ : ∃ m, n = m + 1 := ⟨n - 1, by omega⟩
  obtain ⟨h1, h2, h3, h4⟩ := hV.in_ hat
  obtain ⟨h5, h6, h7, h8⟩ := hV.in_ hlow
  obtain ⟨vp, hp⟩ := At.get hV (n := n) (j := p) (by omega) (by omega)
  obtain ⟨vq, hq⟩ := At.get hV (n := n) (j := q) (by omega) (by omega)
  obtain ⟨vb, hb⟩ := At.get hV (n := n) (j := b) (by omega) (by omega)
  have kp : ∀ {j : Nat} {T : Tr} {vs : List Nat}, At ts idF j T vs → j < at_ → j ≠ a → At ts (fR at_ a p q b) j T vs := fun h hj hne => h.keep fun k hk c d => by
    obtain ⟨q1, q2⟩ := h.below_ hV hat (.inl rfl) hj hne k hk
    simp [fR, q1, q2]
  have fa : fR at_ a p q b a p q = (q, b) := by simp [fR, show a ≠ at_ by omega]
  have ft : fR at_ a p q b at_ a b = (p, a) := by simp [fR]
  refine ⟨⟨_, by rw [chT_r hat hlow]; exact .node hat ft (kp hp (by omega) (by omega)) (.node hlow fa (kp hq (by omega) (by omega)) (kp hb (by omega) (by omega)))⟩, ?_⟩
  obtain ⟨m, rfl⟩ : ∃ m, n = m + 1 := ⟨n - 1, by omega⟩
  rw [chT_r hat hlow, trF_node hat, trF_node hlow, trF_more hV (n := m + 1) (m := m) (j := p) (by omega) (by omega) (by omega), trF_more hV (n := m + 1) (m := m) (j := q) (by omega) (by omega) (by omega)]
  simp only [Tr.size]; omega
/-- Below the turned node nothing is turned. -/
theorem chT_low (hV : Val ts) {kind at_ : Nat} : ∀ n i, i < n → i < ts.length → i < at_ → chT ts kind at_ n i = trF ts n i
  | 0, _, h, _, _ => absurd h (Nat.not_lt_zero _)
  | n + 1, i, h, hi, hlt => by
    rcases hV.kind i _ (List.getElem?_eq_getElem hi) with ⟨v, hx, h1, h2⟩ | ⟨c, d, hx, hc, hd, hcd⟩
    · have hg : ts[i]? = some ⟨-1, -1, v⟩ := by rw [List.getElem?_eq_getElem hi, hx]
      rw [chT_leaf hg h1 h2, trF_leaf hg h1 h2]
    · have hg : ts[i]? = some ⟨(c : Int), (d : Int), 0⟩ := by rw [List.getElem?_eq_getElem hi, hx]
      rw [chT_node hg (by omega), trF_node hg, chT_low hV n c (by omega) (by omega) (by omega), chT_low hV n d (by omega) (by omega) (by omega)]
theorem mv_s (hV : Val ts) {at_ a b : Nat} (hat : ts[at_]? = some ⟨(a : Int), (b : Int), 0⟩) (n : Nat) (hn : at_ < n) :
    (∃ vs, At ts (fS at_) at_ (chT ts 3 at_ n at_) vs) ∧ (chT ts 3 at_ n at_).size = (trF ts n at_).size := by
  obtain ⟨n, rfl⟩ : ∃ m, n = m + 1 := ⟨n - 1, by omega⟩
  obtain ⟨h1, h2, h3, h4⟩ := hV.in_ hat
  obtain ⟨va, ha⟩ := At.get hV (n := n) (j := a) (by omega) (by omega)
  obtain ⟨vb, hb⟩ := At.get hV (n := n) (j := b) (by omega) (by omega)
  have kp : ∀ {j : Nat} {T : Tr} {vs : List Nat}, At ts idF j T vs → j < at_ → At ts (fS at_) j T vs := fun h hj => h.keep fun k hk c d => by
    have := h.le hV k hk
    simp [fS, show k ≠ at_ by omega]
  have ft : fS at_ at_ a b = (b, a) := by simp [fS]
  rw [chT_s hat, chT_low hV n a (by omega) (by omega) (by omega), chT_low hV n b (by omega) (by omega) (by omega), trF_node hat]
  exact ⟨⟨_, .node hat ft (kp hb (by omega)) (kp ha (by omega))⟩, by simp only [Tr.size]; omega⟩
theorem mv_root (hV : Val ts) {kind at_ low a b : Nat} {f : Nat → Nat → Nat → Nat × Nat} (hat : ts[at_]? = some ⟨(a : Int), (b : Int), 0⟩) (hl : low = a ∨ low = b) (hf : ∀ k a b, k ≠ at_ → k ≠ low → f k a b = (a, b))
    (hcase : ∀ n, at_ < n → (∃ vs, At ts f at_ (chT ts kind at_ n at_) vs) ∧ (chT ts kind at_ n at_).size = (trF ts n at_).size) :
    (∃ vs, At ts f (ts.length - 1) (chT ts kind at_ ts.length (ts.length - 1)) vs) ∧ (chT ts kind at_ ts.length (ts.length - 1)).size ≤ ts.length := by
  have hp := hV.pos
  obtain ⟨h1, h2, h3, h4⟩ := hV.in_ hat
  obtain ⟨h5, h6⟩ := mv_up hV hat hl hf hcase ts.length (ts.length - 1) (by omega) (by omega)
  refine ⟨h5 (by omega), ?_⟩
  obtain ⟨vs, h⟩ := At.get hV (n := ts.length) (j := ts.length - 1) (by omega) (by omega)
  rw [h6]
  exact h.small hV
theorem mvR (hV : Val ts) {at_ a b p q : Nat} (hat : ts[at_]? = some ⟨(a : Int), (b : Int), 0⟩) (hlow : ts[a]? = some ⟨(p : Int), (q : Int), 0⟩) :
    (∃ vs, At ts (fR at_ a p q b) (ts.length - 1) (chT ts 1 at_ ts.length (ts.length - 1)) vs) ∧ (chT ts 1 at_ ts.length (ts.length - 1)).size ≤ ts.length :=
  mv_root hV hat (.inl rfl) (fun k c d h1 h2 => by simp [fR, h1, h2]) (mv_r hV hat hlow)
theorem mvS (hV : Val ts) {at_ a b : Nat} (hat : ts[at_]? = some ⟨(a : Int), (b : Int), 0⟩) :
    (∃ vs, At ts (fS at_) (ts.length - 1) (chT ts 3 at_ ts.length (ts.length - 1)) vs) ∧ (chT ts 3 at_ ts.length (ts.length - 1)).size ≤ ts.length :=
  mv_root hV hat (.inl rfl) (fun k c d h1 _ => by simp [fS, h1]) (mv_s hV hat)
theorem inner_nat (hV : Val ts) {a : Nat} (h : innerB ts (a : Int) = true) : ∃ p q : Nat, ts[a]? = some ⟨(p : Int), (q : Int), 0⟩ := by
  unfold innerB at h
  simp only [Bool.and_eq_true, decide_eq_true_eq, Int.toNat_natCast] at h
  cases hx : ts[a]? with
  | none => rw [hx] at h; simp at h
  | some x =>
    rw [hx] at h
    rcases hV.kind a x hx with ⟨v, rfl, h1, h2⟩ | ⟨p, q, rfl, _⟩
    · simp [lf_leaf h1 h2] at h
    · exact ⟨p, q, rfl⟩
theorem inner_get (hV : Val ts) {i : Int} (h : innerB ts i = true) : ∃ k a b : Nat, i = (k : Int) ∧ ts[k]? = some ⟨(a : Int), (b : Int), 0⟩ := by
  have h0 : 0 ≤ i := by
    unfold innerB at h
    simp only [Bool.and_eq_true, decide_eq_true_eq] at h
    exact h.1
  obtain ⟨k, rfl⟩ : ∃ n : Nat, i = n := ⟨i.toNat, by omega⟩
  obtain ⟨a, b, h⟩ := inner_nat hV h
  exact ⟨k, a, b, rfl, h⟩
theorem child_at {kind k a b : Nat} (h : ts[k]? = some ⟨(a : Int), (b : Int), 0⟩) : childOf ts kind (k : Int) = if kind = 1 then (a : Int) else (b : Int) := by
  unfold childOf
  rw [Int.toNat_natCast, h]
theorem mov_no {kind : Nat} {i : Int} (h : canB ts kind i = false) : movOf ts kind i = ([], 1) := by unfold movOf; rw [h]; rfl
theorem mov_yes {kind k : Nat} (h : canB ts kind (k : Int) = true) : movOf ts kind (k : Int) = (post (chT ts kind k ts.length (ts.length - 1)) 0, 0) := by unfold movOf; rw [h, Int.toNat_natCast]; rfl
end
end Go.Proofs.YtpeoodkepjhhiaaDoor
namespace Go.Proofs.YtpeoodkepjhhiaaDoor

/-- The parent of k among the first m nodes, or d. -/
def parTo (ts : List VN) (d : Int) : Nat → Nat → Int
  | 0, _ => d
  | m + 1, k => match ts[m]? with
    | none => parTo ts d m k
    | some x => if !lf x && (decide (x.l = k) || decide (x.r = k)) then (m : Int) else parTo ts d m k
def parsOf (ts : List VN) : List Int := (List.range ts.length).map fun k => parTo ts (-1) ts.length k
def parentsOf (ts : List VN) : List Int := if okT ts then parsOf ts else []
/-- The program's list behind i nodes. -/
def upAt (ts : List VN) (i : Nat) : List Int := (List.range ts.length).map fun k => if k < i then parTo ts (-1) i k else 0
/-- The reference's. -/
def upAtR (ts : List VN) (i : Nat) : List Int := (List.range ts.length).map fun k => if k = ts.length - 1 then -1 else parTo ts 0 i k
theorem parsOf_len (ts : List VN) : (parsOf ts).length = ts.length := by simp [parsOf]
theorem upAt_len (ts : List VN) (i : Nat) : (upAt ts i).length = ts.length := by simp [upAt]
theorem upAtR_len (ts : List VN) (i : Nat) : (upAtR ts i).length = ts.length := by simp [upAtR]
section
variable {ts : List VN}
theorem parTo_leaf {d : Int} {m k : Nat} {v : Int} (h : ts[m]? = some ⟨-1, -1, v⟩) (h1 : 1 ≤ v) (h2 : v ≤ 128) : parTo ts d (m + 1) k = parTo ts d m k := by
  conv => lhs; unfold parTo
  rw [h]
  simp [lf_leaf h1 h2]
theorem parTo_node {d : Int} {m k a b : Nat} (h : ts[m]? = some ⟨(a : Int), (b : Int), 0⟩) : parTo ts d (m + 1) k = if a = k ∨ b = k then (m : Int) else parTo ts d m k := by
  conv => lhs; unfold parTo
  rw [h]
  by_cases h1 : a = k
  · simp [lf_inner, h1]
  · by_cases h2 : b = k
    · simp [lf_inner, h2]
    · have h3 : ¬ ((a : Int) = (k : Int)) := by omega
      have h4 : ¬ ((b : Int) = (k : Int)) := by omega
      simp [h1, h2, h3, h4]
/-- No node up to its own has a node as a child. -/
theorem parTo_self (hV : Val ts) {d : Int} : ∀ (m k : Nat), m ≤ ts.length → m ≤ k + 1 → parTo ts d m k = d
  | 0, _, _, _ => rfl
  | m + 1, k, hm, hk => by
    rcases hV.kind m _ (List.getElem?_eq_getElem (show m < ts.length by omega)) with ⟨v, hx, h1, h2⟩ | ⟨a, b, hx, ha, hb, _⟩
    · rw [parTo_leaf (by rw [List.getElem?_eq_getElem (show m < ts.length by omega), hx]) h1 h2]
      exact parTo_self hV m k (by omega) (by omega)
    · rw [parTo_node (by rw [List.getElem?_eq_getElem (show m < ts.length by omega), hx]), if_neg (by omega)]
      exact parTo_self hV m k (by omega) (by omega)
theorem parTo_is (hV : Val ts) {d : Int} {p a b k : Nat} (hx : ts[p]? = some ⟨(a : Int), (b : Int), 0⟩) (hk : k = a ∨ k = b) : ∀ m, p < m → m ≤ ts.length → parTo ts d m k = (p : Int)
  | 0, h, _ => absurd h (Nat.not_lt_zero _)
  | m + 1, h, hm => by
    rcases hV.kind m _ (List.getElem?_eq_getElem (show m < ts.length by omega)) with ⟨v, hy, h1, h2⟩ | ⟨c, e, hy, hc, he, _⟩
    · have hg : ts[m]? = some ⟨-1, -1, v⟩ := by rw [List.getElem?_eq_getElem (show m < ts.length by omega), hy]
      rw [parTo_leaf hg h1 h2]
      refine parTo_is hV hx hk m ?_ (by omega)
      rcases Nat.lt_succ_iff_lt_or_eq.1 h with h | rfl
      · exact h
      · rw [hx] at hg; injection hg with hg; injection hg with hg _ _; omega
    · have hg : ts[m]? = some ⟨(c : Int), (e : Int), 0⟩ := by rw [List.getElem?_eq_getElem (show m < ts.length by omega), hy]
      rw [parTo_node hg]
      by_cases hce : c = k ∨ e = k
      · rw [if_pos hce]
        rw [hV.up p m a b c e k hx hg hk (by omega)]
      · rw [if_neg hce]
        refine parTo_is hV hx hk m ?_ (by omega)
        rcases Nat.lt_succ_iff_lt_or_eq.1 h with h | rfl
        · exact h
        · rw [hx] at hg; injection hg with hg; injection hg with h1 h2 _; omega
/-- Every node but the last has a parent, and it lies behind it. -/
theorem par_get (hV : Val ts) {k : Nat} (hk : k < ts.length - 1) : ∃ p a b : Nat, ts[p]? = some ⟨(a : Int), (b : Int), 0⟩ ∧ (k = a ∨ k = b) ∧ k < p ∧ p < ts.length ∧ (parsOf ts)[k]? = some (p : Int) := by
  obtain ⟨p, a, b, hx, hkk⟩ := hV.cover k hk
  obtain ⟨h1, h2, _, h3⟩ := hV.in_ hx
  refine ⟨p, a, b, hx, hkk, by omega, h3, ?_⟩
  simp [parsOf, show k < ts.length by omega, parTo_is hV hx hkk ts.length h3 (Nat.le_refl _)]
/-- The program's step. -/
theorem upAt_zero (ts : List VN) : upAt ts 0 = List.replicate ts.length 0 := by
  apply List.ext_getElem?
  intro k
  by_cases h : k < ts.length <;> simp [upAt, h]
theorem upAt_leaf (hV : Val ts) {i : Nat} {v : Int} (h : ts[i]? = some ⟨-1, -1, v⟩) (h1 : 1 ≤ v) (h2 : v ≤ 128) : (upAt ts i).set i (-1) = upAt ts (i + 1) := by
  have hi := (List.getElem?_eq_some_iff.1 h).1
  apply List.ext_getElem?
  intro k
  rw [List.getElem?_set]
  by_cases hk : k < ts.length
  · by_cases e : i = k
    · subst e
      simp [upAt, hi, parTo_self hV (i + 1) i (by omega) (by omega)]
    · by_cases hlt : k < i
      · simp [upAt, hk, e, hlt, show k < i + 1 by omega, parTo_leaf h h1 h2]
      · simp [upAt, hk, e, hlt, show ¬ k < i + 1 by omega]
  · simp [upAt, hk]; omega
theorem upAt_node (hV : Val ts) {i a b : Nat} (h : ts[i]? = some ⟨(a : Int), (b : Int), 0⟩) : (((upAt ts i).set i (-1)).set a (i : Int)).set b (i : Int) = upAt ts (i + 1) := by
  obtain ⟨ha, hb, hab, hi⟩ := hV.in_ h
  apply List.ext_getElem?
  intro k
  simp only [List.getElem?_set, List.length_set, upAt_len]
  by_cases hk : k < ts.length
  · by_cases e1 : b = k
    · subst e1
      simp [upAt, hk, show b < i + 1 by omega, parTo_node h]
    · by_cases e2 : a = k
      · subst e2
        simp [upAt, hk, e1, show a < i + 1 by omega, parTo_node h]
      · by_cases e : i = k
        · subst e
          simp [upAt, hi, e1, e2, parTo_self hV (i + 1) i (by omega) (by omega)]
        · by_cases hlt : k < i
          · simp [upAt, hk, e, e1, e2, hlt, show k < i + 1 by omega, parTo_node h]
          · simp [upAt, hk, e, e1, e2, hlt, show ¬ k < i + 1 by omega]
  · simp [upAt, hk, show ¬ b = k by omega, show ¬ a = k by omega, show ¬ i = k by omega]
theorem upAt_all (ts : List VN) : upAt ts ts.length = parsOf ts := by
  apply List.ext_getElem?
  intro k
  by_cases h : k < ts.length <;> simp [upAt, parsOf, h]
end
/-- Where two nodes meet. -/
def climb (u : List Int) : Nat → Nat → Nat → Nat
  | 0, a, _ => a
  | n + 1, a, b => if a = b then a else if a < b then climb u n (u.getD a 0).toNat b else climb u n a (u.getD b 0).toNat
def meetOf (ts : List VN) (a b : Int) : Int := if okT ts && decide (0 ≤ a) && decide (a < ts.length) && decide (0 ≤ b) && decide (b < ts.length) then (climb (parsOf ts) (2 * ts.length) a.toNat b.toNat : Int) else -1
theorem climb_eq (u : List Int) : ∀ (n a : Nat), climb u n a a = a
  | 0, _ => rfl
  | n + 1, a => by unfold climb; rw [if_pos rfl]
end Go.Proofs.YtpeoodkepjhhiaaDoor
namespace Go.Proofs.YtpeoodkepjhhiaaDoor
open Go Go.RowKit
theorem checkb_ {W : World} {D : Nat → Prop} {V : Value} {ts : List VN} (hN : NodesD D W V ts) (hD : ∀ k, D k → k < W.heap.size) {r : Int} (h : chkV ts = r) : Calls Tryd.prog 23 #[V] W fun e w' => e = .returned (.int .i64 r) ∧ Below W.heap.size W w' := h ▸ check_ hN hD
theorem chk_val {ts : List VN} {b : Bool} (h : okT ts = b) : chkV ts = if b then 0 else 1 := by unfold chkV; rw [h]
theorem parents_ok {W : World} {D : Nat → Prop} {b o c : Nat} {ts : List VN} (hN : NodesD D W (.slice (some ⟨b, o, none⟩) ts.length c) ts) (hD : ∀ k, D k → k < W.heap.size) (hok : okT ts = true) :
    Calls Tryd.prog 31 #[.slice (some ⟨b, o, none⟩) ts.length c] W fun e w' => ∃ g c', e = .returned (.slice (some ⟨g, 0, none⟩) ts.length c') ∧ Own Z0 W w' [.row (.slice (some ⟨g, 0, none⟩) ts.length c') 3 1 ts.length (intCs (parsOf ts))] := by
  have hV := okT_val hok
  have hpos := hV.pos
  have hle := hV.le
  have O0 : Own Z0 W W [.ro D (fun w => NodesD D w (.slice (some ⟨b, o, none⟩) ts.length c) ts)] := (Own.start W).oldro (D := D) (p := (fun w => NodesD D w (.slice (some ⟨b, o, none⟩) ts.length c) ts)) (nodesE_holds hN hD)
  refine sx_enter (args := [.slice (some ⟨b, o, none⟩) ts.length c]) Tryd.func31 rfl rfl (by simp) ?_
  refine cw_seq (fun FK1 K1 => ?_)
  refine cw_region ?_
  refine wl_val (v := .slice none 0 0) (fun ρ e => ex_assign (e _ _ rfl)) rfl rfl ?_
  refine wl_nil ?_
  refine xw_next K1 ?_
  refine cw_seq (fun FK2 K2 => ?_)
  refine cw_seq (fun FK3 K3 => ?_)
  refine cw_region ?_
  refine wl_val (v := .slice (some ⟨b, o, none⟩) ts.length c) (fun ρ e => ex_move (e _ _ rfl)) rfl rfl ?_
  refine wl_call (args := [.slice (some ⟨b, o, none⟩) ts.length c]) in_23 rfl rfl rfl ?_
  refine (checkb_ (hN.move (fun k hk => (O0.old).block k (hD k hk))) (fun k hk => Nat.lt_of_lt_of_le (hD k hk) (O0.old).size) (chk_val hok)).mono ?_
  rintro _ w4 ⟨rfl, hb5⟩
  have O6 : Own Z0 W w4 [.ro D (fun w => NodesD D w (.slice (some ⟨b, o, none⟩) ts.length c) ts)] := O0.below hb5
  refine ⟨_, rfl, ?_⟩
  refine wl_val (v := .bool false) (fun ρ e => ex_cmp (u := 0) (v := 0) (e _ _ rfl) (e _ _ rfl) (neq0 (by omega))) rfl rfl ?_
  refine wl_nil ?_
  refine xw_next K3 ?_
  refine cw_false rfl ?_
  refine cw_skip ?_
  refine xw_next K2 ?_
  refine cw_seq (fun FK7 K7 => ?_)
  refine cw_region ?_
  refine wl_val (v := .slice (some ⟨b, o, none⟩) ts.length c) (fun ρ e => ex_move (e _ _ rfl)) rfl rfl ?_
  refine wl_val (v := .int .i64 ((ts.length : Nat) : Int)) (fun ρ e => ex_len el23 (e _ _ rfl)) rfl rfl ?_
  obtain ⟨g8, w9, r10, O11, hg12, hs13⟩ := own_make1 O6 ap36 rfl ts.length (by decide) (by omega) (cs := (intCs (upAt ts 0)).toArray) (by rw [upAt_zero]; simp [intCs])
  refine wl_val (v := .slice (some ⟨g8, 0, none⟩) ts.length ts.length) (fun ρ e => r10 ρ _ _ _ _ _ _ _ (e _ _ rfl) (e _ _ rfl)) rfl rfl ?_
  refine wl_val (v := .slice (some ⟨g8, 0, none⟩) ts.length ts.length) (fun ρ e => ex_assign (e _ _ rfl)) rfl rfl ?_
  refine wl_nil ?_
  refine xw_next K7 ?_
  refine cw_seq (fun FK14 K14 => ?_)
  refine cw_seq (fun FK15 K15 => ?_)
  refine cw_region ?_
  refine wl_val (v := .slice (some ⟨b, o, none⟩) ts.length c) (fun ρ e => ex_move (e _ _ rfl)) rfl rfl ?_
  refine wl_val (v := .int .i64 ((ts.length : Nat) : Int)) (fun ρ e => ex_len el23 (e _ _ rfl)) rfl rfl ?_
  refine wl_val (v := .int .i64 0) (fun ρ e => ex_move (e _ _ rfl)) rfl rfl ?_
  refine wl_nil ?_
  refine xw_next K15 ?_
  refine cw_block ?_
  have O16 : Own Z0 W w9 [.blk g8 3 ((intCs (upAt ts 0)).toArray), .ro D (fun w => NodesD D w (.slice (some ⟨b, o, none⟩) ts.length c) ts)] := O11
  refine cw_loop (ι := Nat) (fun q => [(3, .slice (some ⟨g8, 0, none⟩) ts.length ts.length), (12, .slice (some ⟨b, o, none⟩) ts.length c), (13, .int .i64 ((ts.length : Nat) : Int)), (14, .int .i64 (q : Int))]) (fun q X => (q ≤ ts.length) ∧ Own Z0 W X [.blk g8 3 ((intCs (upAt ts q)).toArray), .ro D (fun w => NodesD D w (.slice (some ⟨b, o, none⟩) ts.length c) ts)]) (fun q => ts.length - q) 0 ⟨Nat.zero_le _, O16⟩ ⟨rfl, rfl, rfl, rfl, trivial⟩ (fun q w17 hJ F18 K19 => ?_)
  obtain ⟨i, rfl⟩ : ∃ x, x = q := ⟨_, rfl⟩
  obtain ⟨hi0, O20⟩ := hJ
  try dsimp only at hi0 O20 ⊢
  by_cases hi : i < ts.length
  · skip
    rcases hV.kind i _ (List.getElem?_eq_getElem hi) with ⟨v, hx0, h1, h2⟩ | ⟨a, b2, hx0, ha, hb, hab⟩
    · skip
      have hx : ts[i]? = some ⟨-1, -1, v⟩ := by rw [List.getElem?_eq_getElem hi, hx0]
      have hlf : (!(lf (VN.mk (-1) (-1) v))) = false := by rw [lf_leaf h1 h2]; rfl
      refine cw_seq (fun FK21 K21 => ?_)
      refine cw_region ?_
      refine wl_val (v := .bool true) (fun ρ e => ex_cmp (u := (i : Int)) (v := ((ts.length : Nat) : Int)) (e _ _ rfl) (e _ _ rfl) (lss1 (by omega))) rfl rfl ?_
      refine wl_nil ?_
      refine xw_next K21 ?_
      refine cw_seq (fun FK22 K22 => ?_)
      refine cw_true rfl ?_
      refine cw_skip ?_
      refine xw_next K22 ?_
      refine cw_seq (fun FK23 K23 => ?_)
      refine cw_block ?_
      refine cw_seq (fun FK24 K24 => ?_)
      refine cw_region ?_
      refine wl_val (v := .int .i64 (i : Int)) (fun ρ e => ex_move (e _ _ rfl)) rfl rfl ?_
      refine wl_val (v := .pointer (some ⟨b, o + i * 3, none⟩)) (fun ρ e => ex_idx (q := o + i * 3) (i := i) el23 (e _ _ rfl) (e _ _ rfl) (by omega) (by omega)) rfl rfl ?_
      refine wl_val (v := .agg #[.int .i64 (-1), .int .i64 (-1), .int .i64 v]) (fun ρ e => ex_loadN (vs := [.int .i64 (-1), .int .i64 (-1), .int .i64 v]) ty38 (e _ _ rfl) rfl (cells3 (NodesD.c0 ((O20.ro 1 rfl : (fun w => NodesD D w (.slice (some ⟨b, o, none⟩) ts.length c) ts) _) : NodesD _ _ _ _) hx) (NodesD.c1 ((O20.ro 1 rfl : (fun w => NodesD D w (.slice (some ⟨b, o, none⟩) ts.length c) ts) _) : NodesD _ _ _ _) hx) (NodesD.c2 ((O20.ro 1 rfl : (fun w => NodesD D w (.slice (some ⟨b, o, none⟩) ts.length c) ts) _) : NodesD _ _ _ _) hx))) rfl rfl ?_
      obtain ⟨g25, w26, r27, O28, hg29, hs30⟩ := own_alloc O20 38 ze38 rfl
      refine wl_val (v := .pointer (some ⟨g25, 0, none⟩)) (fun ρ e => r27 ρ _ _ _ _ _) rfl rfl ?_
      refine wl_val (v := .int .i64 (i : Int)) (fun ρ e => ex_assign (e _ _ rfl)) rfl rfl ?_
      obtain ⟨w31, r32, O33, hs34⟩ := own_put (o := 0) (n := 3) O28 ty38 (.agg #[.int .i64 (-1), .int .i64 (-1), .int .i64 v]) [.int .i64 (-1), .int .i64 (-1), .int .i64 v] (cs' := #[.int .i64 (-1), .int .i64 (-1), .int .i64 v]) rfl rfl rfl (Nat.le_of_ble_eq_true rfl) rfl
      refine wl_none (fun ρ e => r32 ρ _ _ _ _ _ _ (e _ _ rfl) (e _ _ rfl)) rfl ?_
      refine wl_nil ?_
      refine xw_next K24 ?_
      refine cw_seq (fun FK35 K35 => ?_)
      refine cw_region ?_
      refine wl_val (v := .slice (some ⟨g8, 0, none⟩) ts.length ts.length) (fun ρ e => ex_move (e _ _ rfl)) rfl rfl ?_
      refine wl_val (v := .int .i64 (i : Int)) (fun ρ e => ex_move (e _ _ rfl)) rfl rfl ?_
      refine wl_val (v := .pointer (some ⟨g8, i, none⟩)) (fun ρ e => ex_idx (q := i) (i := i) el36 (e _ _ rfl) (e _ _ rfl) (by omega) (by omega)) rfl rfl ?_
      obtain ⟨w36, r37, O38, hs39⟩ := own_put (o := i) (n := 1) (O33.re [1, 0, 2] rfl : Own Z0 W w31 [.blk g8 3 ((intCs (upAt ts i)).toArray), .blk g25 38 #[.int .i64 (-1), .int .i64 (-1), .int .i64 v], .ro D (fun w => NodesD D w (.slice (some ⟨b, o, none⟩) ts.length c) ts)]) ty3 (.int .i64 (-1)) [.int .i64 (-1)] (cs' := (intCs ((upAt ts i).set i (-1))).toArray) rfl rfl rfl (by simp [intCs, upAt_len, upAtR_len] <;> omega) (setI _ i (-1))
      refine wl_none (fun ρ e => r37 ρ _ _ _ _ _ _ (e _ _ rfl) (e _ _ rfl)) rfl ?_
      refine wl_nil ?_
      refine xw_next K35 ?_
      refine cw_seq (fun FK40 K40 => ?_)
      refine cw_region ?_
      refine wl_val (v := .agg #[.int .i64 (-1), .int .i64 (-1), .int .i64 v]) (fun ρ e => ex_loadN (vs := [.int .i64 (-1), .int .i64 (-1), .int .i64 v]) ty38 (e _ _ rfl) rfl (O38.cells 1 0 rfl rfl)) rfl rfl ?_
      refine wl_call (args := [.agg #[.int .i64 (-1), .int .i64 (-1), .int .i64 v]]) in_53 rfl rfl rfl ?_
      refine (isleaf_ (VN.mk (-1) (-1) v) (W := w36)).mono ?_
      rintro _ w41 ⟨rfl, hb42⟩
      have O43 : Own Z0 W w41 [.blk g8 3 ((intCs ((upAt ts i).set i (-1))).toArray), .blk g25 38 #[.int .i64 (-1), .int .i64 (-1), .int .i64 v], .ro D (fun w => NodesD D w (.slice (some ⟨b, o, none⟩) ts.length c) ts)] := O38.below hb42
      refine ⟨_, rfl, ?_⟩
      refine wl_val (v := .bool (!(lf (VN.mk (-1) (-1) v)))) (fun ρ e => ex_lnot (b := (lf (VN.mk (-1) (-1) v))) (e _ _ rfl)) rfl rfl ?_
      refine wl_nil ?_
      refine xw_next K40 ?_
      refine cw_false (congrArg (fun b => some (Value.bool b)) hlf) ?_
      refine cw_skip ?_
      refine xw_block ?_
      refine xw_next K23 ?_
      refine cw_region ?_
      refine wl_val (v := .int .i64 ((i + 1 : Nat) : Int)) (fun ρ e => ex_arith (k := .i64) (u := (i : Int)) (v := 1) (e _ _ rfl) (e _ _ rfl) (congrArg some ((congrArg _ (by omega)).trans (wrap_in (u := ((i + 1 : Nat) : Int)) (by omega) (by omega))))) rfl rfl ?_
      refine wl_val (v := .int .i64 ((i + 1 : Nat) : Int)) (fun ρ e => ex_move (e _ _ rfl)) rfl rfl ?_
      refine wl_nil ?_
      have O44 : Own Z0 W w41 [.blk g8 3 ((intCs (upAt ts (i + 1))).toArray), .ro D (fun w => NodesD D w (.slice (some ⟨b, o, none⟩) ts.length c) ts)] := by rw [← upAt_leaf hV hx h1 h2]; exact (O43.re [0, 2] rfl : Own Z0 W w41 [.blk g8 3 ((intCs ((upAt ts i).set i (-1))).toArray), .ro D (fun w => NodesD D w (.slice (some ⟨b, o, none⟩) ts.length c) ts)])
      refine xw_round K19 (i + 1) (by show ts.length - (i + 1) < ts.length - i; omega) ⟨(by show i + 1 ≤ ts.length; omega), O44⟩ ⟨rfl, rfl, rfl, rfl, trivial⟩
    · skip
      have hx : ts[i]? = some ⟨(a : Int), (b2 : Int), 0⟩ := by rw [List.getElem?_eq_getElem hi, hx0]
      have hlf : (!(lf (VN.mk (a : Int) (b2 : Int) 0))) = true := by rw [lf_inner a b2]; rfl
      refine cw_seq (fun FK45 K45 => ?_)
      refine cw_region ?_
      refine wl_val (v := .bool true) (fun ρ e => ex_cmp (u := (i : Int)) (v := ((ts.length : Nat) : Int)) (e _ _ rfl) (e _ _ rfl) (lss1 (by omega))) rfl rfl ?_
      refine wl_nil ?_
      refine xw_next K45 ?_
      refine cw_seq (fun FK46 K46 => ?_)
      refine cw_true rfl ?_
      refine cw_skip ?_
      refine xw_next K46 ?_
      refine cw_seq (fun FK47 K47 => ?_)
      refine cw_block ?_
      refine cw_seq (fun FK48 K48 => ?_)
      refine cw_region ?_
      refine wl_val (v := .int .i64 (i : Int)) (fun ρ e => ex_move (e _ _ rfl)) rfl rfl ?_
      refine wl_val (v := .pointer (some ⟨b, o + i * 3, none⟩)) (fun ρ e => ex_idx (q := o + i * 3) (i := i) el23 (e _ _ rfl) (e _ _ rfl) (by omega) (by omega)) rfl rfl ?_
      refine wl_val (v := .agg #[.int .i64 (a : Int), .int .i64 (b2 : Int), .int .i64 0]) (fun ρ e => ex_loadN (vs := [.int .i64 (a : Int), .int .i64 (b2 : Int), .int .i64 0]) ty38 (e _ _ rfl) rfl (cells3 (NodesD.c0 ((O20.ro 1 rfl : (fun w => NodesD D w (.slice (some ⟨b, o, none⟩) ts.length c) ts) _) : NodesD _ _ _ _) hx) (NodesD.c1 ((O20.ro 1 rfl : (fun w => NodesD D w (.slice (some ⟨b, o, none⟩) ts.length c) ts) _) : NodesD _ _ _ _) hx) (NodesD.c2 ((O20.ro 1 rfl : (fun w => NodesD D w (.slice (some ⟨b, o, none⟩) ts.length c) ts) _) : NodesD _ _ _ _) hx))) rfl rfl ?_
      obtain ⟨g49, w50, r51, O52, hg53, hs54⟩ := own_alloc O20 38 ze38 rfl
      refine wl_val (v := .pointer (some ⟨g49, 0, none⟩)) (fun ρ e => r51 ρ _ _ _ _ _) rfl rfl ?_
      refine wl_val (v := .int .i64 (i : Int)) (fun ρ e => ex_assign (e _ _ rfl)) rfl rfl ?_
      obtain ⟨w55, r56, O57, hs58⟩ := own_put (o := 0) (n := 3) O52 ty38 (.agg #[.int .i64 (a : Int), .int .i64 (b2 : Int), .int .i64 0]) [.int .i64 (a : Int), .int .i64 (b2 : Int), .int .i64 0] (cs' := #[.int .i64 (a : Int), .int .i64 (b2 : Int), .int .i64 0]) rfl rfl rfl (Nat.le_of_ble_eq_true rfl) rfl
      refine wl_none (fun ρ e => r56 ρ _ _ _ _ _ _ (e _ _ rfl) (e _ _ rfl)) rfl ?_
      refine wl_nil ?_
      refine xw_next K48 ?_
      refine cw_seq (fun FK59 K59 => ?_)
      refine cw_region ?_
      refine wl_val (v := .slice (some ⟨g8, 0, none⟩) ts.length ts.length) (fun ρ e => ex_move (e _ _ rfl)) rfl rfl ?_
      refine wl_val (v := .int .i64 (i : Int)) (fun ρ e => ex_move (e _ _ rfl)) rfl rfl ?_
      refine wl_val (v := .pointer (some ⟨g8, i, none⟩)) (fun ρ e => ex_idx (q := i) (i := i) el36 (e _ _ rfl) (e _ _ rfl) (by omega) (by omega)) rfl rfl ?_
      obtain ⟨w60, r61, O62, hs63⟩ := own_put (o := i) (n := 1) (O57.re [1, 0, 2] rfl : Own Z0 W w55 [.blk g8 3 ((intCs (upAt ts i)).toArray), .blk g49 38 #[.int .i64 (a : Int), .int .i64 (b2 : Int), .int .i64 0], .ro D (fun w => NodesD D w (.slice (some ⟨b, o, none⟩) ts.length c) ts)]) ty3 (.int .i64 (-1)) [.int .i64 (-1)] (cs' := (intCs ((upAt ts i).set i (-1))).toArray) rfl rfl rfl (by simp [intCs, upAt_len, upAtR_len] <;> omega) (setI _ i (-1))
      refine wl_none (fun ρ e => r61 ρ _ _ _ _ _ _ (e _ _ rfl) (e _ _ rfl)) rfl ?_
      refine wl_nil ?_
      refine xw_next K59 ?_
      refine cw_seq (fun FK64 K64 => ?_)
      refine cw_region ?_
      refine wl_val (v := .agg #[.int .i64 (a : Int), .int .i64 (b2 : Int), .int .i64 0]) (fun ρ e => ex_loadN (vs := [.int .i64 (a : Int), .int .i64 (b2 : Int), .int .i64 0]) ty38 (e _ _ rfl) rfl (O62.cells 1 0 rfl rfl)) rfl rfl ?_
      refine wl_call (args := [.agg #[.int .i64 (a : Int), .int .i64 (b2 : Int), .int .i64 0]]) in_53 rfl rfl rfl ?_
      refine (isleaf_ (VN.mk (a : Int) (b2 : Int) 0) (W := w60)).mono ?_
      rintro _ w65 ⟨rfl, hb66⟩
      have O67 : Own Z0 W w65 [.blk g8 3 ((intCs ((upAt ts i).set i (-1))).toArray), .blk g49 38 #[.int .i64 (a : Int), .int .i64 (b2 : Int), .int .i64 0], .ro D (fun w => NodesD D w (.slice (some ⟨b, o, none⟩) ts.length c) ts)] := O62.below hb66
      refine ⟨_, rfl, ?_⟩
      refine wl_val (v := .bool (!(lf (VN.mk (a : Int) (b2 : Int) 0)))) (fun ρ e => ex_lnot (b := (lf (VN.mk (a : Int) (b2 : Int) 0))) (e _ _ rfl)) rfl rfl ?_
      refine wl_nil ?_
      refine xw_next K64 ?_
      refine cw_true (congrArg (fun b => some (Value.bool b)) hlf) ?_
      refine cw_drawn (fun X => Own Z0 W X [.blk g49 38 #[.int .i64 (a : Int), .int .i64 (b2 : Int), .int .i64 0], .ro D (fun w => NodesD D w (.slice (some ⟨b, o, none⟩) ts.length c) ts)]) 12 [(0, 1), (1, 1), (2, 0), (3, 1), (4, 1), (5, 0), (6, 1), (7, 1), (8, 1), (9, 2), (10, 1), (11, 2)] (by kernel_rfl) (by kernel_rfl) (PQ.block (PQ.then_ (PQ.then_ (PQ.block (PQ.then_ PQ.body))))) ((O67.re [1, 2] rfl : Own Z0 W w65 [.blk g49 38 #[.int .i64 (a : Int), .int .i64 (b2 : Int), .int .i64 0], .ro D (fun w => NodesD D w (.slice (some ⟨b, o, none⟩) ts.length c) ts)])).drew ?_
      have O68 : Own Z0 W w65.drew [.blk g8 3 ((intCs ((upAt ts i).set i (-1))).toArray), .blk g49 38 #[.int .i64 (a : Int), .int .i64 (b2 : Int), .int .i64 0], .ro D (fun w => NodesD D w (.slice (some ⟨b, o, none⟩) ts.length c) ts)] := O67.drew
      refine wt1 (v := .slice (some ⟨g8, 0, none⟩) ts.length ts.length) rfl (fun ρ e W => ex_move (e _ _ rfl)) rfl rfl ?_
      refine wt1 (v := .pointer (some ⟨g49, 0, none⟩)) rfl (fun ρ e W => ex_field (q := 0) fi38_0 (e _ _ rfl) rfl) rfl rfl ?_
      refine wt0 (v := .int .i64 (a : Int)) rfl (fun ρ e W hW => ex_load1 ty3 (e _ _ rfl) (hW.cell 0 0 rfl rfl)) rfl rfl ?_
      refine wt1 (v := .slice (some ⟨g8, 0, none⟩) ts.length ts.length) rfl (fun ρ e W => ex_move (e _ _ rfl)) rfl rfl ?_
      refine wt1 (v := .pointer (some ⟨g49, 1, none⟩)) rfl (fun ρ e W => ex_field (q := 1) fi38_1 (e _ _ rfl) rfl) rfl rfl ?_
      refine wt0 (v := .int .i64 (b2 : Int)) rfl (fun ρ e W hW => ex_load1 ty3 (e _ _ rfl) (hW.cell 0 1 rfl rfl)) rfl rfl ?_
      refine wt1 (v := .int .i64 (i : Int)) rfl (fun ρ e W => ex_move (e _ _ rfl)) rfl rfl ?_
      refine wt1 (v := .int .i64 (i : Int)) rfl (fun ρ e W => ex_move (e _ _ rfl)) rfl rfl ?_
      refine wt1 (v := .pointer (some ⟨g8, a, none⟩)) rfl (fun ρ e W => ex_idx (q := a) (i := a) el36 (e _ _ rfl) (e _ _ rfl) (by omega) (by omega)) rfl rfl ?_
      obtain ⟨w69, r70, O71, hs72⟩ := own_put (o := a) (n := 1) O68 ty3 (.int .i64 (i : Int)) [.int .i64 (i : Int)] (cs' := (intCs (((upAt ts i).set i (-1)).set a (i : Int))).toArray) rfl rfl rfl (by simp [intCs, upAt_len, upAtR_len] <;> omega) (setI _ a (i : Int))
      refine wt2_none rfl (fun ρ e => r70 ρ _ _ _ _ _ _ (e _ _ rfl) (e _ _ rfl)) rfl (O71.re [1, 2] rfl : Own Z0 W w69 [.blk g49 38 #[.int .i64 (a : Int), .int .i64 (b2 : Int), .int .i64 0], .ro D (fun w => NodesD D w (.slice (some ⟨b, o, none⟩) ts.length c) ts)]) ?_
      refine wt1 (v := .pointer (some ⟨g8, b2, none⟩)) rfl (fun ρ e W => ex_idx (q := b2) (i := b2) el36 (e _ _ rfl) (e _ _ rfl) (by omega) (by omega)) rfl rfl ?_
      obtain ⟨w73, r74, O75, hs76⟩ := own_put (o := b2) (n := 1) O71 ty3 (.int .i64 (i : Int)) [.int .i64 (i : Int)] (cs' := (intCs ((((upAt ts i).set i (-1)).set a (i : Int)).set b2 (i : Int))).toArray) rfl rfl rfl (by simp [intCs, upAt_len, upAtR_len] <;> omega) (setI _ b2 (i : Int))
      refine wt2_none rfl (fun ρ e => r74 ρ _ _ _ _ _ _ (e _ _ rfl) (e _ _ rfl)) rfl (O75.re [1, 2] rfl : Own Z0 W w73 [.blk g49 38 #[.int .i64 (a : Int), .int .i64 (b2 : Int), .int .i64 0], .ro D (fun w => NodesD D w (.slice (some ⟨b, o, none⟩) ts.length c) ts)]) ?_
      refine wt_nil ?_
      refine xw_block ?_
      refine xw_next K47 ?_
      refine cw_region ?_
      refine wl_val (v := .int .i64 ((i + 1 : Nat) : Int)) (fun ρ e => ex_arith (k := .i64) (u := (i : Int)) (v := 1) (e _ _ rfl) (e _ _ rfl) (congrArg some ((congrArg _ (by omega)).trans (wrap_in (u := ((i + 1 : Nat) : Int)) (by omega) (by omega))))) rfl rfl ?_
      refine wl_val (v := .int .i64 ((i + 1 : Nat) : Int)) (fun ρ e => ex_move (e _ _ rfl)) rfl rfl ?_
      refine wl_nil ?_
      have O77 : Own Z0 W w73 [.blk g8 3 ((intCs (upAt ts (i + 1))).toArray), .ro D (fun w => NodesD D w (.slice (some ⟨b, o, none⟩) ts.length c) ts)] := by rw [← upAt_node hV hx]; exact (O75.re [0, 2] rfl : Own Z0 W w73 [.blk g8 3 ((intCs ((((upAt ts i).set i (-1)).set a (i : Int)).set b2 (i : Int))).toArray), .ro D (fun w => NodesD D w (.slice (some ⟨b, o, none⟩) ts.length c) ts)])
      refine xw_round K19 (i + 1) (by show ts.length - (i + 1) < ts.length - i; omega) ⟨(by show i + 1 ≤ ts.length; omega), O77⟩ ⟨rfl, rfl, rfl, rfl, trivial⟩
  · have hie : i = ts.length := by omega
    rw [hie, upAt_all] at O20
    refine cw_seq (fun FK78 K78 => ?_)
    refine cw_region ?_
    refine wl_val (v := .bool false) (fun ρ e => ex_cmp (u := (i : Int)) (v := ((ts.length : Nat) : Int)) (e _ _ rfl) (e _ _ rfl) (lss0 (by omega))) rfl rfl ?_
    refine wl_nil ?_
    refine xw_next K78 ?_
    refine cw_seq (fun FK79 K79 => ?_)
    refine cw_false rfl ?_
    refine cw_exit ?_
    refine xw_past (by intro h; cases h) ?_
    refine xw_past (by intro h; cases h) ?_
    refine xw_here ?_
    refine xw_next K14 ?_
    refine cw_seq (fun FK80 K80 => ?_)
    refine cw_region ?_
    refine wl_val (v := .slice (some ⟨g8, 0, none⟩) ts.length ts.length) (fun ρ e => ex_move (e _ _ rfl)) rfl rfl ?_
    refine wl_val (v := .slice (some ⟨g8, 0, none⟩) ts.length ts.length) (fun ρ e => ex_assign (e _ _ rfl)) rfl rfl ?_
    refine wl_nil ?_
    refine xw_next K80 ?_
    refine cw_ret ?_
    refine xw_ret (v := .slice (some ⟨g8, 0, none⟩) ts.length ts.length) (fun T hT => res1 rfl T _ (hT 2 _ rfl)) ?_
    have O81 := Own.blkrow (xs := intCs (parsOf ts)) (n := ts.length) (O20.re [0] rfl : Own Z0 W w17 [.blk g8 3 ((intCs (parsOf ts)).toArray)]) rfl (by simp [intCs, parsOf_len]) (by omega)
    exact ⟨g8, ts.length, rfl, O81⟩
theorem parents_no {W : World} {D : Nat → Prop} {V : Value} {ts : List VN} (hN : NodesD D W V ts) (hD : ∀ k, D k → k < W.heap.size) (hok : okT ts = false) : Calls Tryd.prog 31 #[V] W fun e w' => e = .returned (.slice none 0 0) ∧ Below W.heap.size W w' := by
  obtain ⟨A, c, rfl⟩ := hN.slice
  have O0 : Own Z0 W W [] := Own.start W
  refine sx_enter (args := [.slice A ts.length c]) Tryd.func31 rfl rfl (by simp) ?_
  refine cw_seq (fun FK1 K1 => ?_)
  refine cw_region ?_
  refine wl_val (v := .slice none 0 0) (fun ρ e => ex_assign (e _ _ rfl)) rfl rfl ?_
  refine wl_nil ?_
  refine xw_next K1 ?_
  refine cw_seq (fun FK2 K2 => ?_)
  refine cw_seq (fun FK3 K3 => ?_)
  refine cw_region ?_
  refine wl_val (v := .slice A ts.length c) (fun ρ e => ex_move (e _ _ rfl)) rfl rfl ?_
  refine wl_call (args := [.slice A ts.length c]) in_23 rfl rfl rfl ?_
  refine (checkb_ (hN.move (fun k hk => (O0.old).block k (hD k hk))) (fun k hk => Nat.lt_of_lt_of_le (hD k hk) (O0.old).size) (chk_val hok)).mono ?_
  rintro _ w4 ⟨rfl, hb5⟩
  have O6 : Own Z0 W w4 [] := O0.below hb5
  refine ⟨_, rfl, ?_⟩
  refine wl_val (v := .bool true) (fun ρ e => ex_cmp (u := 1) (v := 0) (e _ _ rfl) (e _ _ rfl) (neq1 (by omega))) rfl rfl ?_
  refine wl_nil ?_
  refine xw_next K3 ?_
  refine cw_true rfl ?_
  refine cw_seq (fun FK7 K7 => ?_)
  refine cw_region ?_
  refine wl_val (v := .slice none 0 0) (fun ρ e => ex_assign (e _ _ rfl)) rfl rfl ?_
  refine wl_nil ?_
  refine xw_next K7 ?_
  refine cw_ret ?_
  refine xw_past (by intro h; cases h) ?_
  refine xw_ret (v := .slice none 0 0) (fun T hT => res1 rfl T _ (hT 2 _ rfl)) ?_
  exact ⟨rfl, O6.old⟩
theorem climb_lt {u : List Int} {n a d p : Nat} (h : a < d) (hp : u[a]? = some (p : Int)) : climb u (n + 1) a d = climb u n p d := by
  conv => lhs; unfold climb
  rw [if_neg (by omega), if_pos h, List.getD_eq_getElem?_getD, hp]
  rfl
theorem climb_gt {u : List Int} {n a d p : Nat} (h : d < a) (hp : u[d]? = some (p : Int)) : climb u (n + 1) a d = climb u n a p := by
  conv => lhs; unfold climb
  rw [if_neg (by omega), if_neg (by omega), List.getD_eq_getElem?_getD, hp]
  rfl
theorem intCs_get {l : List Int} {k : Nat} {x : Int} (h : l[k]? = some x) : (intCs l)[k]? = some (.int .i64 x) := by simp [intCs, h]
theorem meet_ok {W : World} {D : Nat → Prop} {b o c : Nat} {ts : List VN} (hN : NodesD D W (.slice (some ⟨b, o, none⟩) ts.length c) ts) (hD : ∀ k, D k → k < W.heap.size) (hok : okT ts = true) (x y : Int) :
    Calls Tryd.prog 15 #[.slice (some ⟨b, o, none⟩) ts.length c, .int .i64 x, .int .i64 y] W fun e w' => e = .returned (.int .i64 (meetOf ts x y)) ∧ Below W.heap.size W w' := by
  have hV := okT_val hok
  have hpos := hV.pos
  have hle := hV.le
  have O0 : Own Z0 W W [] := Own.start W
  refine sx_enter (args := [.slice (some ⟨b, o, none⟩) ts.length c, .int .i64 x, .int .i64 y]) Tryd.func15 rfl rfl (by simp) ?_
  refine cw_seq (fun FK1 K1 => ?_)
  refine cw_region ?_
  refine wl_val (v := .int .i64 0) (fun ρ e => ex_assign (e _ _ rfl)) rfl rfl ?_
  refine wl_nil ?_
  refine xw_next K1 ?_
  refine cw_seq (fun FK2 K2 => ?_)
  refine cw_region ?_
  refine wl_val (v := .slice (some ⟨b, o, none⟩) ts.length c) (fun ρ e => ex_move (e _ _ rfl)) rfl rfl ?_
  refine wl_call (args := [.slice (some ⟨b, o, none⟩) ts.length c]) in_31 rfl rfl rfl ?_
  refine (parents_ok (hN.move (fun k hk => (O0.old).block k (hD k hk))) (fun k hk => Nat.lt_of_lt_of_le (hD k hk) (O0.old).size) hok).mono ?_
  rintro _ w3 ⟨g6, c7, rfl, h4⟩
  have O5 := O0.join1 h4 trivial
  refine ⟨_, rfl, ?_⟩
  refine wl_val (v := .slice (some ⟨g6, 0, none⟩) ts.length c7) (fun ρ e => ex_assign (e _ _ rfl)) rfl rfl ?_
  refine wl_nil ?_
  refine xw_next K2 ?_
  refine cw_seq (fun FK8 K8 => ?_)
  refine cw_seq (fun FK9 K9 => ?_)
  refine cw_region ?_
  refine wl_val (v := .int .i64 x) (fun ρ e => ex_move (e _ _ rfl)) rfl rfl ?_
  by_cases c10 : x < 0
  · skip
    refine wl_val (v := .bool true) (fun ρ e => ex_cmp (u := x) (v := 0) (e _ _ rfl) (e _ _ rfl) (lss1 (by omega))) rfl rfl ?_
    refine wl_val (v := .bool true) (fun ρ e => ex_move (e _ _ rfl)) rfl rfl ?_
    refine wl_skip rfl rfl ?_
    refine wl_skip rfl rfl ?_
    refine wl_skip rfl rfl ?_
    refine wl_skip rfl rfl ?_
    refine wl_val (v := .bool true) (fun ρ e => ex_pick1 (e _ _ rfl) (e _ _ rfl)) rfl rfl ?_
    refine wl_val (v := .bool true) (fun ρ e => ex_move (e _ _ rfl)) rfl rfl ?_
    refine wl_skip rfl rfl ?_
    refine wl_skip rfl rfl ?_
    refine wl_val (v := .bool true) (fun ρ e => ex_pick1 (e _ _ rfl) (e _ _ rfl)) rfl rfl ?_
    refine wl_val (v := .bool true) (fun ρ e => ex_move (e _ _ rfl)) rfl rfl ?_
    refine wl_skip rfl rfl ?_
    refine wl_skip rfl rfl ?_
    refine wl_skip rfl rfl ?_
    refine wl_skip rfl rfl ?_
    refine wl_val (v := .bool true) (fun ρ e => ex_pick1 (e _ _ rfl) (e _ _ rfl)) rfl rfl ?_
    refine wl_nil ?_
    refine xw_next K9 ?_
    refine cw_true rfl ?_
    refine cw_seq (fun FK11 K11 => ?_)
    refine cw_region ?_
    refine wl_val (v := .int .i64 (-1)) (fun ρ e => ex_assign (e _ _ rfl)) rfl rfl ?_
    refine wl_nil ?_
    refine xw_next K11 ?_
    refine cw_ret ?_
    refine xw_past (by intro h; cases h) ?_
    refine xw_ret (v := .int .i64 (-1)) (fun T hT => res1 rfl T _ (hT 6 _ rfl)) ?_
    have hm : meetOf ts x y = -1 := by unfold meetOf; rw [if_neg (by simp <;> omega)]
    rw [hm]
    exact ⟨rfl, O5.old⟩
  · skip
    obtain ⟨xa, rfl⟩ : ∃ n : Nat, x = n := ⟨x.toNat, by omega⟩
    refine wl_val (v := .bool false) (fun ρ e => ex_cmp (u := (xa : Int)) (v := 0) (e _ _ rfl) (e _ _ rfl) (lss0 (by omega))) rfl rfl ?_
    refine wl_val (v := .bool false) (fun ρ e => ex_move (e _ _ rfl)) rfl rfl ?_
    refine wl_val (v := .int .i64 (xa : Int)) (fun ρ e => ex_move (e _ _ rfl)) rfl rfl ?_
    refine wl_val (v := .slice (some ⟨g6, 0, none⟩) ts.length c7) (fun ρ e => ex_move (e _ _ rfl)) rfl rfl ?_
    refine wl_val (v := .int .i64 ((ts.length : Nat) : Int)) (fun ρ e => ex_len el36 (e _ _ rfl)) rfl rfl ?_
    by_cases c12 : (xa : Int) ≥ ((ts.length : Nat) : Int)
    · skip
      refine wl_val (v := .bool true) (fun ρ e => ex_cmp (u := (xa : Int)) (v := ((ts.length : Nat) : Int)) (e _ _ rfl) (e _ _ rfl) (geq1 (by omega))) rfl rfl ?_
      refine wl_val (v := .bool true) (fun ρ e => ex_pick0 (e _ _ rfl) (e _ _ rfl)) rfl rfl ?_
      refine wl_val (v := .bool true) (fun ρ e => ex_move (e _ _ rfl)) rfl rfl ?_
      refine wl_skip rfl rfl ?_
      refine wl_skip rfl rfl ?_
      refine wl_val (v := .bool true) (fun ρ e => ex_pick1 (e _ _ rfl) (e _ _ rfl)) rfl rfl ?_
      refine wl_val (v := .bool true) (fun ρ e => ex_move (e _ _ rfl)) rfl rfl ?_
      refine wl_skip rfl rfl ?_
      refine wl_skip rfl rfl ?_
      refine wl_skip rfl rfl ?_
      refine wl_skip rfl rfl ?_
      refine wl_val (v := .bool true) (fun ρ e => ex_pick1 (e _ _ rfl) (e _ _ rfl)) rfl rfl ?_
      refine wl_nil ?_
      refine xw_next K9 ?_
      refine cw_true rfl ?_
      refine cw_seq (fun FK13 K13 => ?_)
      refine cw_region ?_
      refine wl_val (v := .int .i64 (-1)) (fun ρ e => ex_assign (e _ _ rfl)) rfl rfl ?_
      refine wl_nil ?_
      refine xw_next K13 ?_
      refine cw_ret ?_
      refine xw_past (by intro h; cases h) ?_
      refine xw_ret (v := .int .i64 (-1)) (fun T hT => res1 rfl T _ (hT 6 _ rfl)) ?_
      have hm : meetOf ts (xa : Int) y = -1 := by unfold meetOf; rw [if_neg (by simp <;> omega)]
      rw [hm]
      exact ⟨rfl, O5.old⟩
    · skip
      refine wl_val (v := .bool false) (fun ρ e => ex_cmp (u := (xa : Int)) (v := ((ts.length : Nat) : Int)) (e _ _ rfl) (e _ _ rfl) (geq0 (by omega))) rfl rfl ?_
      refine wl_val (v := .bool false) (fun ρ e => ex_pick0 (e _ _ rfl) (e _ _ rfl)) rfl rfl ?_
      refine wl_val (v := .bool false) (fun ρ e => ex_move (e _ _ rfl)) rfl rfl ?_
      refine wl_val (v := .int .i64 y) (fun ρ e => ex_move (e _ _ rfl)) rfl rfl ?_
      by_cases c14 : y < 0
      · skip
        refine wl_val (v := .bool true) (fun ρ e => ex_cmp (u := y) (v := 0) (e _ _ rfl) (e _ _ rfl) (lss1 (by omega))) rfl rfl ?_
        refine wl_val (v := .bool true) (fun ρ e => ex_pick0 (e _ _ rfl) (e _ _ rfl)) rfl rfl ?_
        refine wl_val (v := .bool true) (fun ρ e => ex_move (e _ _ rfl)) rfl rfl ?_
        refine wl_skip rfl rfl ?_
        refine wl_skip rfl rfl ?_
        refine wl_skip rfl rfl ?_
        refine wl_skip rfl rfl ?_
        refine wl_val (v := .bool true) (fun ρ e => ex_pick1 (e _ _ rfl) (e _ _ rfl)) rfl rfl ?_
        refine wl_nil ?_
        refine xw_next K9 ?_
        refine cw_true rfl ?_
        refine cw_seq (fun FK15 K15 => ?_)
        refine cw_region ?_
        refine wl_val (v := .int .i64 (-1)) (fun ρ e => ex_assign (e _ _ rfl)) rfl rfl ?_
        refine wl_nil ?_
        refine xw_next K15 ?_
        refine cw_ret ?_
        refine xw_past (by intro h; cases h) ?_
        refine xw_ret (v := .int .i64 (-1)) (fun T hT => res1 rfl T _ (hT 6 _ rfl)) ?_
        have hm : meetOf ts (xa : Int) y = -1 := by unfold meetOf; rw [if_neg (by simp <;> omega)]
        rw [hm]
        exact ⟨rfl, O5.old⟩
      · skip
        obtain ⟨ya, rfl⟩ : ∃ n : Nat, y = n := ⟨y.toNat, by omega⟩
        refine wl_val (v := .bool false) (fun ρ e => ex_cmp (u := (ya : Int)) (v := 0) (e _ _ rfl) (e _ _ rfl) (lss0 (by omega))) rfl rfl ?_
        refine wl_val (v := .bool false) (fun ρ e => ex_pick0 (e _ _ rfl) (e _ _ rfl)) rfl rfl ?_
        refine wl_val (v := .bool false) (fun ρ e => ex_move (e _ _ rfl)) rfl rfl ?_
        refine wl_val (v := .int .i64 (ya : Int)) (fun ρ e => ex_move (e _ _ rfl)) rfl rfl ?_
        refine wl_val (v := .slice (some ⟨g6, 0, none⟩) ts.length c7) (fun ρ e => ex_move (e _ _ rfl)) rfl rfl ?_
        refine wl_val (v := .int .i64 ((ts.length : Nat) : Int)) (fun ρ e => ex_len el36 (e _ _ rfl)) rfl rfl ?_
        by_cases c16 : (ya : Int) ≥ ((ts.length : Nat) : Int)
        · skip
          refine wl_val (v := .bool true) (fun ρ e => ex_cmp (u := (ya : Int)) (v := ((ts.length : Nat) : Int)) (e _ _ rfl) (e _ _ rfl) (geq1 (by omega))) rfl rfl ?_
          refine wl_val (v := .bool true) (fun ρ e => ex_pick0 (e _ _ rfl) (e _ _ rfl)) rfl rfl ?_
          refine wl_nil ?_
          refine xw_next K9 ?_
          refine cw_true rfl ?_
          refine cw_seq (fun FK17 K17 => ?_)
          refine cw_region ?_
          refine wl_val (v := .int .i64 (-1)) (fun ρ e => ex_assign (e _ _ rfl)) rfl rfl ?_
          refine wl_nil ?_
          refine xw_next K17 ?_
          refine cw_ret ?_
          refine xw_past (by intro h; cases h) ?_
          refine xw_ret (v := .int .i64 (-1)) (fun T hT => res1 rfl T _ (hT 6 _ rfl)) ?_
          have hm : meetOf ts (xa : Int) (ya : Int) = -1 := by unfold meetOf; rw [if_neg (by simp <;> omega)]
          rw [hm]
          exact ⟨rfl, O5.old⟩
        · skip
          refine wl_val (v := .bool false) (fun ρ e => ex_cmp (u := (ya : Int)) (v := ((ts.length : Nat) : Int)) (e _ _ rfl) (e _ _ rfl) (geq0 (by omega))) rfl rfl ?_
          refine wl_val (v := .bool false) (fun ρ e => ex_pick0 (e _ _ rfl) (e _ _ rfl)) rfl rfl ?_
          refine wl_nil ?_
          refine xw_next K9 ?_
          refine cw_false rfl ?_
          refine cw_skip ?_
          refine xw_next K8 ?_
          refine cw_seq (fun FK18 K18 => ?_)
          refine cw_block ?_
          have O19 : Own Z0 W w3 [.row (.slice (some ⟨g6, 0, none⟩) ts.length c7) 3 1 ts.length (intCs (parsOf ts))] := O5
          refine cw_loop (ι := Nat × Nat × Nat) (fun q => [(1, .int .i64 (q.2.1 : Int)), (2, .int .i64 (q.2.2 : Int)), (7, .slice (some ⟨g6, 0, none⟩) ts.length c7)]) (fun q X => (climb (parsOf ts) (2 * ts.length) xa ya = climb (parsOf ts) q.1 q.2.1 q.2.2) ∧ (q.2.1 < ts.length) ∧ (q.2.2 < ts.length) ∧ (2 * ts.length ≤ q.2.1 + q.2.2 + q.1) ∧ Own Z0 W X [.row (.slice (some ⟨g6, 0, none⟩) ts.length c7) 3 1 ts.length (intCs (parsOf ts))]) (fun q => q.1) ((2 * ts.length), xa, ya) ⟨rfl, (by show xa < ts.length; omega), (by show ya < ts.length; omega), (by show 2 * ts.length ≤ xa + ya + 2 * ts.length; omega), O19⟩ ⟨rfl, rfl, rfl, trivial⟩ (fun q w20 hJ F21 K22 => ?_)
          obtain ⟨n, a, d⟩ := q
          obtain ⟨hcm, hal, hdl, hnn, O23⟩ := hJ
          dsimp only at hcm hal hdl hnn O23 ⊢
          by_cases had : a = d
          · subst had
            refine cw_seq (fun FK24 K24 => ?_)
            refine cw_seq (fun FK25 K25 => ?_)
            refine cw_region ?_
            refine wl_val (v := .int .i64 (a : Int)) (fun ρ e => ex_move (e _ _ rfl)) rfl rfl ?_
            refine wl_val (v := .int .i64 (a : Int)) (fun ρ e => ex_move (e _ _ rfl)) rfl rfl ?_
            refine wl_val (v := .bool false) (fun ρ e => ex_cmp (u := (a : Int)) (v := (a : Int)) (e _ _ rfl) (e _ _ rfl) (neq0 (by omega))) rfl rfl ?_
            refine wl_nil ?_
            refine xw_next K25 ?_
            refine cw_false rfl ?_
            refine cw_exit ?_
            refine xw_past (by intro h; cases h) ?_
            refine xw_past (by intro h; cases h) ?_
            refine xw_here ?_
            refine xw_next K18 ?_
            refine cw_seq (fun FK26 K26 => ?_)
            refine cw_region ?_
            refine wl_val (v := .int .i64 (a : Int)) (fun ρ e => ex_move (e _ _ rfl)) rfl rfl ?_
            refine wl_val (v := .int .i64 (a : Int)) (fun ρ e => ex_assign (e _ _ rfl)) rfl rfl ?_
            refine wl_nil ?_
            refine xw_next K26 ?_
            refine cw_ret ?_
            refine xw_ret (v := .int .i64 (a : Int)) (fun T hT => res1 rfl T _ (hT 6 _ rfl)) ?_
            have hm : meetOf ts (xa : Int) (ya : Int) = (a : Int) := by unfold meetOf; rw [if_pos (by simp [hok] <;> omega), Int.toNat_natCast, Int.toNat_natCast, hcm, climb_eq]
            rw [hm]
            exact ⟨rfl, O23.old⟩
          · skip
            refine cw_seq (fun FK27 K27 => ?_)
            refine cw_seq (fun FK28 K28 => ?_)
            refine cw_region ?_
            refine wl_val (v := .int .i64 (a : Int)) (fun ρ e => ex_move (e _ _ rfl)) rfl rfl ?_
            refine wl_val (v := .int .i64 (d : Int)) (fun ρ e => ex_move (e _ _ rfl)) rfl rfl ?_
            refine wl_val (v := .bool true) (fun ρ e => ex_cmp (u := (a : Int)) (v := (d : Int)) (e _ _ rfl) (e _ _ rfl) (neq1 (by omega))) rfl rfl ?_
            refine wl_nil ?_
            refine xw_next K28 ?_
            refine cw_true rfl ?_
            refine cw_skip ?_
            refine xw_next K27 ?_
            refine cw_block ?_
            refine cw_seq (fun FK29 K29 => ?_)
            refine cw_region ?_
            refine wl_val (v := .int .i64 (a : Int)) (fun ρ e => ex_move (e _ _ rfl)) rfl rfl ?_
            refine wl_val (v := .int .i64 (d : Int)) (fun ρ e => ex_move (e _ _ rfl)) rfl rfl ?_
            by_cases c30 : (a : Int) < (d : Int)
            · skip
              obtain ⟨p, _, _, _, _, hkp, hpl, hpg⟩ := par_get hV (k := a) (by omega)
              obtain ⟨n, rfl⟩ : ∃ m, n = m + 1 := ⟨n - 1, by omega⟩
              have hcl : climb (parsOf ts) (n + 1) a d = climb (parsOf ts) n p d := climb_lt (by omega) hpg
              refine wl_val (v := .bool true) (fun ρ e => ex_cmp (u := (a : Int)) (v := (d : Int)) (e _ _ rfl) (e _ _ rfl) (lss1 (by omega))) rfl rfl ?_
              refine wl_nil ?_
              refine xw_next K29 ?_
              refine cw_true rfl ?_
              refine cw_region ?_
              refine wl_val (v := .slice (some ⟨g6, 0, none⟩) ts.length c7) (fun ρ e => ex_move (e _ _ rfl)) rfl rfl ?_
              refine wl_val (v := .int .i64 (a : Int)) (fun ρ e => ex_move (e _ _ rfl)) rfl rfl ?_
              refine wl_val (v := .pointer (some ⟨g6, a, none⟩)) (fun ρ e => ex_idx (q := a) (i := a) el36 (e _ _ rfl) (e _ _ rfl) (by omega) (by omega)) rfl rfl ?_
              refine wl_val (v := .int .i64 (p : Int)) (fun ρ e => ex_load1 ty3 (e _ _ rfl) (rowcell (O23.row 0 rfl) (intCs_get hpg))) rfl rfl ?_
              refine wl_val (v := .int .i64 (p : Int)) (fun ρ e => ex_assign (e _ _ rfl)) rfl rfl ?_
              refine wl_nil ?_
              refine xw_block ?_
              refine xw_round K22 (n, p, d) (by show n < n + 1; omega) ⟨(by show climb _ _ _ _ = climb _ _ _ _; rw [← hcl]; exact hcm), (by show p < ts.length; omega), (by show d < ts.length; omega), (by show 2 * ts.length ≤ p + d + n; omega), O23⟩ ⟨rfl, rfl, rfl, trivial⟩
            · skip
              obtain ⟨p, _, _, _, _, hkp, hpl, hpg⟩ := par_get hV (k := d) (by omega)
              obtain ⟨n, rfl⟩ : ∃ m, n = m + 1 := ⟨n - 1, by omega⟩
              have hcl : climb (parsOf ts) (n + 1) a d = climb (parsOf ts) n a p := climb_gt (by omega) hpg
              refine wl_val (v := .bool false) (fun ρ e => ex_cmp (u := (a : Int)) (v := (d : Int)) (e _ _ rfl) (e _ _ rfl) (lss0 (by omega))) rfl rfl ?_
              refine wl_nil ?_
              refine xw_next K29 ?_
              refine cw_false rfl ?_
              refine cw_region ?_
              refine wl_val (v := .slice (some ⟨g6, 0, none⟩) ts.length c7) (fun ρ e => ex_move (e _ _ rfl)) rfl rfl ?_
              refine wl_val (v := .int .i64 (d : Int)) (fun ρ e => ex_move (e _ _ rfl)) rfl rfl ?_
              refine wl_val (v := .pointer (some ⟨g6, d, none⟩)) (fun ρ e => ex_idx (q := d) (i := d) el36 (e _ _ rfl) (e _ _ rfl) (by omega) (by omega)) rfl rfl ?_
              refine wl_val (v := .int .i64 (p : Int)) (fun ρ e => ex_load1 ty3 (e _ _ rfl) (rowcell (O23.row 0 rfl) (intCs_get hpg))) rfl rfl ?_
              refine wl_val (v := .int .i64 (p : Int)) (fun ρ e => ex_assign (e _ _ rfl)) rfl rfl ?_
              refine wl_nil ?_
              refine xw_block ?_
              refine xw_round K22 (n, a, p) (by show n < n + 1; omega) ⟨(by show climb _ _ _ _ = climb _ _ _ _; rw [← hcl]; exact hcm), (by show a < ts.length; omega), (by show p < ts.length; omega), (by show 2 * ts.length ≤ a + p + n; omega), O23⟩ ⟨rfl, rfl, rfl, trivial⟩
theorem meet_no {W : World} {D : Nat → Prop} {V : Value} {ts : List VN} (hN : NodesD D W V ts) (hD : ∀ k, D k → k < W.heap.size) (hok : okT ts = false) (x y : Int) :
    Calls Tryd.prog 15 #[V, .int .i64 x, .int .i64 y] W fun e w' => e = .returned (.int .i64 (meetOf ts x y)) ∧ Below W.heap.size W w' := by
  obtain ⟨A, c, rfl⟩ := hN.slice
  have O0 : Own Z0 W W [] := Own.start W
  refine sx_enter (args := [.slice A ts.length c, .int .i64 x, .int .i64 y]) Tryd.func15 rfl rfl (by simp) ?_
  refine cw_seq (fun FK1 K1 => ?_)
  refine cw_region ?_
  refine wl_val (v := .int .i64 0) (fun ρ e => ex_assign (e _ _ rfl)) rfl rfl ?_
  refine wl_nil ?_
  refine xw_next K1 ?_
  refine cw_seq (fun FK2 K2 => ?_)
  refine cw_region ?_
  refine wl_val (v := .slice A ts.length c) (fun ρ e => ex_move (e _ _ rfl)) rfl rfl ?_
  refine wl_call (args := [.slice A ts.length c]) in_31 rfl rfl rfl ?_
  refine (parents_no (hN.move (fun k hk => (O0.old).block k (hD k hk))) (fun k hk => Nat.lt_of_lt_of_le (hD k hk) (O0.old).size) hok).mono ?_
  rintro _ w3 ⟨rfl, hb4⟩
  have O5 : Own Z0 W w3 [] := O0.below hb4
  refine ⟨_, rfl, ?_⟩
  refine wl_val (v := .slice none 0 0) (fun ρ e => ex_assign (e _ _ rfl)) rfl rfl ?_
  refine wl_nil ?_
  refine xw_next K2 ?_
  refine cw_seq (fun FK6 K6 => ?_)
  refine cw_seq (fun FK7 K7 => ?_)
  refine cw_region ?_
  refine wl_val (v := .int .i64 x) (fun ρ e => ex_move (e _ _ rfl)) rfl rfl ?_
  by_cases c8 : x < 0
  · skip
    refine wl_val (v := .bool true) (fun ρ e => ex_cmp (u := x) (v := 0) (e _ _ rfl) (e _ _ rfl) (lss1 (by omega))) rfl rfl ?_
    refine wl_val (v := .bool true) (fun ρ e => ex_move (e _ _ rfl)) rfl rfl ?_
    refine wl_skip rfl rfl ?_
    refine wl_skip rfl rfl ?_
    refine wl_skip rfl rfl ?_
    refine wl_skip rfl rfl ?_
    refine wl_val (v := .bool true) (fun ρ e => ex_pick1 (e _ _ rfl) (e _ _ rfl)) rfl rfl ?_
    refine wl_val (v := .bool true) (fun ρ e => ex_move (e _ _ rfl)) rfl rfl ?_
    refine wl_skip rfl rfl ?_
    refine wl_skip rfl rfl ?_
    refine wl_val (v := .bool true) (fun ρ e => ex_pick1 (e _ _ rfl) (e _ _ rfl)) rfl rfl ?_
    refine wl_val (v := .bool true) (fun ρ e => ex_move (e _ _ rfl)) rfl rfl ?_
    refine wl_skip rfl rfl ?_
    refine wl_skip rfl rfl ?_
    refine wl_skip rfl rfl ?_
    refine wl_skip rfl rfl ?_
    refine wl_val (v := .bool true) (fun ρ e => ex_pick1 (e _ _ rfl) (e _ _ rfl)) rfl rfl ?_
    refine wl_nil ?_
    refine xw_next K7 ?_
    refine cw_true rfl ?_
    refine cw_seq (fun FK9 K9 => ?_)
    refine cw_region ?_
    refine wl_val (v := .int .i64 (-1)) (fun ρ e => ex_assign (e _ _ rfl)) rfl rfl ?_
    refine wl_nil ?_
    refine xw_next K9 ?_
    refine cw_ret ?_
    refine xw_past (by intro h; cases h) ?_
    refine xw_ret (v := .int .i64 (-1)) (fun T hT => res1 rfl T _ (hT 6 _ rfl)) ?_
    have hm : meetOf ts x y = -1 := by unfold meetOf; rw [hok]; rfl
    rw [hm]
    exact ⟨rfl, O5.old⟩
  · skip
    obtain ⟨xa, rfl⟩ : ∃ n : Nat, x = n := ⟨x.toNat, by omega⟩
    refine wl_val (v := .bool false) (fun ρ e => ex_cmp (u := (xa : Int)) (v := 0) (e _ _ rfl) (e _ _ rfl) (lss0 (by omega))) rfl rfl ?_
    refine wl_val (v := .bool false) (fun ρ e => ex_move (e _ _ rfl)) rfl rfl ?_
    refine wl_val (v := .int .i64 (xa : Int)) (fun ρ e => ex_move (e _ _ rfl)) rfl rfl ?_
    refine wl_val (v := .slice none 0 0) (fun ρ e => ex_move (e _ _ rfl)) rfl rfl ?_
    refine wl_val (v := .int .i64 (0 : Int)) (fun ρ e => ex_len el36 (e _ _ rfl)) rfl rfl ?_
    refine wl_val (v := .bool true) (fun ρ e => ex_cmp (u := (xa : Int)) (v := (0 : Int)) (e _ _ rfl) (e _ _ rfl) (geq1 (by omega))) rfl rfl ?_
    refine wl_val (v := .bool true) (fun ρ e => ex_pick0 (e _ _ rfl) (e _ _ rfl)) rfl rfl ?_
    refine wl_val (v := .bool true) (fun ρ e => ex_move (e _ _ rfl)) rfl rfl ?_
    refine wl_skip rfl rfl ?_
    refine wl_skip rfl rfl ?_
    refine wl_val (v := .bool true) (fun ρ e => ex_pick1 (e _ _ rfl) (e _ _ rfl)) rfl rfl ?_
    refine wl_val (v := .bool true) (fun ρ e => ex_move (e _ _ rfl)) rfl rfl ?_
    refine wl_skip rfl rfl ?_
    refine wl_skip rfl rfl ?_
    refine wl_skip rfl rfl ?_
    refine wl_skip rfl rfl ?_
    refine wl_val (v := .bool true) (fun ρ e => ex_pick1 (e _ _ rfl) (e _ _ rfl)) rfl rfl ?_
    refine wl_nil ?_
    refine xw_next K7 ?_
    refine cw_true rfl ?_
    refine cw_seq (fun FK10 K10 => ?_)
    refine cw_region ?_
    refine wl_val (v := .int .i64 (-1)) (fun ρ e => ex_assign (e _ _ rfl)) rfl rfl ?_
    refine wl_nil ?_
    refine xw_next K10 ?_
    refine cw_ret ?_
    refine xw_past (by intro h; cases h) ?_
    refine xw_ret (v := .int .i64 (-1)) (fun T hT => res1 rfl T _ (hT 6 _ rfl)) ?_
    have hm : meetOf ts (xa : Int) y = -1 := by unfold meetOf; rw [hok]; rfl
    rw [hm]
    exact ⟨rfl, O5.old⟩
theorem meet_ {W : World} {D : Nat → Prop} {V : Value} {ts : List VN} (hN : NodesD D W V ts) (hD : ∀ k, D k → k < W.heap.size) (x y : Int) :
    Calls Tryd.prog 15 #[V, .int .i64 x, .int .i64 y] W fun e w' => e = .returned (.int .i64 (meetOf ts x y)) ∧ Below W.heap.size W w' := by
  cases hok : okT ts with
  | false => exact meet_no hN hD hok x y
  | true =>
    obtain ⟨b, o, c, rfl, _⟩ := hN.form (okT_val hok).pos
    exact meet_ok hN hD hok x y

end Go.Proofs.YtpeoodkepjhhiaaDoor
namespace Go.Proofs.YtpeoodkepjhhiaaDoor

def isD (c : UInt8) : Bool := decide (48 ≤ c.toNat) && decide (c.toNat ≤ 57)
def endD : List UInt8 → Bool
  | [] => true
  | d :: _ => !isD d
/-- The program's reading: the nodes so far, those without a parent, the number so far. -/
def scanP : List UInt8 → List VN → List Int → Int → Option (List VN)
  | [], t, _, _ => some t
  | c :: r, t, o, n =>
    if isD c && decide (n < 1000) then
      if endD r then scanP r (t ++ [⟨-1, -1, 10 * n + ((c.toNat : Int) - 48)⟩]) (o ++ [(t.length : Int)]) 0 else scanP r t o (10 * n + ((c.toNat : Int) - 48))
    else if c.toNat = 41 then
      if o.length < 2 then none else scanP r (t ++ [⟨o.getD (o.length - 2) 0, o.getD (o.length - 1) 0, 0⟩]) (o.take (o.length - 2) ++ [(t.length : Int)]) n
    else if c.toNat = 40 ∨ c.toNat = 32 then scanP r t o n else none
def parseOf (l : List UInt8) : List VN × Int := if 1024 < l.length then ([], 5) else match scanP l [] [] 0 with
  | none => ([], 5)
  | some t => if okT t && decide (printOf t = l) then (t, 0) else ([], 5)
section
variable {c : UInt8} {r : List UInt8} {t : List VN} {o : List Int} {n : Int}
theorem scan_dig (h1 : 48 ≤ c.toNat) (h2 : c.toNat ≤ 57) (hn : n < 1000) : scanP (c :: r) t o n = if endD r then scanP r (t ++ [⟨-1, -1, 10 * n + ((c.toNat : Int) - 48)⟩]) (o ++ [(t.length : Int)]) 0 else scanP r t o (10 * n + ((c.toNat : Int) - 48)) := by
  have hd : isD c = true := by simp [isD, h1, h2]
  conv => lhs; unfold scanP
  simp [hd, hn]
theorem scan_other (h : c.toNat < 48 ∨ 57 < c.toNat ∨ 1000 ≤ n) : scanP (c :: r) t o n = if c.toNat = 41 then (if o.length < 2 then none else scanP r (t ++ [⟨o.getD (o.length - 2) 0, o.getD (o.length - 1) 0, 0⟩]) (o.take (o.length - 2) ++ [(t.length : Int)]) n) else if c.toNat = 40 ∨ c.toNat = 32 then scanP r t o n else none := by
  have hd : (isD c && decide (n < 1000)) = false := by
    rw [Bool.eq_false_iff]
    intro q
    simp only [isD, Bool.and_eq_true, decide_eq_true_eq] at q
    omega
  conv => lhs; unfold scanP
  rw [hd]
  rfl
theorem scan_close {u v : Int} (h : c.toNat < 48 ∨ 57 < c.toNat ∨ 1000 ≤ n) (hc : c.toNat = 41) (ho : 2 ≤ o.length) (hu : o[o.length - 2]? = some u) (hv : o[o.length - 1]? = some v) : scanP (c :: r) t o n = scanP r (t ++ [⟨u, v, 0⟩]) (o.take (o.length - 2) ++ [(t.length : Int)]) n := by
  rw [scan_other h, if_pos hc, if_neg (by omega), List.getD_eq_getElem?_getD, List.getD_eq_getElem?_getD, hu, hv]
  rfl
theorem scan_few (h : c.toNat < 48 ∨ 57 < c.toNat ∨ 1000 ≤ n) (hc : c.toNat = 41) (ho : o.length < 2) : scanP (c :: r) t o n = none := by rw [scan_other h, if_pos hc, if_pos ho]
theorem scan_skip (h : c.toNat < 48 ∨ 57 < c.toNat ∨ 1000 ≤ n) (hc : c.toNat = 40 ∨ c.toNat = 32) : scanP (c :: r) t o n = scanP r t o n := by rw [scan_other h, if_neg (by omega), if_pos hc]
theorem scan_bad (h : c.toNat < 48 ∨ 57 < c.toNat ∨ 1000 ≤ n) (h1 : c.toNat ≠ 41) (h2 : c.toNat ≠ 40) (h3 : c.toNat ≠ 32) : scanP (c :: r) t o n = none := by rw [scan_other h, if_neg h1, if_neg (by omega)]
end
/-! ### The text of a tree is read as its nodes in postorder -/
theorem u8_toNat {k : Nat} (h : k < 10) : (UInt8.ofNat (48 + k)).toNat = 48 + k := by
  rw [UInt8.toNat_ofNat']
  omega
theorem scan_d {k : Nat} (h : k < 10) {r : List UInt8} {t : List VN} {o : List Int} {n : Int} (hn : n < 1000) : scanP (UInt8.ofNat (48 + k) :: r) t o n = if endD r then scanP r (t ++ [⟨-1, -1, 10 * n + (k : Int)⟩]) (o ++ [(t.length : Int)]) 0 else scanP r t o (10 * n + (k : Int)) := by
  have e := u8_toNat h
  rw [scan_dig (by omega) (by omega) hn, e, show ((48 + k : Nat) : Int) - 48 = (k : Int) by omega]
theorem isD_d {k : Nat} (h : k < 10) : isD (UInt8.ofNat (48 + k)) = true := by
  have e := u8_toNat h
  simp [isD, e]; omega
theorem scan_dec {v : Int} (h1 : 1 ≤ v) (h2 : v ≤ 128) {r : List UInt8} (hr : endD r = true) (t : List VN) (o : List Int) : scanP (dec v ++ r) t o 0 = scanP r (t ++ [⟨-1, -1, v⟩]) (o ++ [(t.length : Int)]) 0 := by
  unfold dec
  split
  · rw [List.singleton_append, scan_d (by omega) (by omega), if_pos hr, show (10 * (0 : Int) + (v.toNat : Int)) = v by omega]
  · split
    · have e : endD (UInt8.ofNat (48 + v.toNat % 10) :: r) = false := by show (!isD _) = false; rw [isD_d (show v.toNat % 10 < 10 by omega)]; rfl
      simp only [List.cons_append, List.nil_append]
      rw [scan_d (by omega) (by omega), e, if_neg (by decide), scan_d (by omega) (by omega), if_pos hr]
      rw [show (10 * (10 * (0 : Int) + ((v.toNat / 10 : Nat) : Int)) + ((v.toNat % 10 : Nat) : Int)) = v by omega]
    · have e : endD (UInt8.ofNat (48 + v.toNat % 10) :: r) = false := by show (!isD _) = false; rw [isD_d (show v.toNat % 10 < 10 by omega)]; rfl
      have e2 : endD (UInt8.ofNat (48 + v.toNat / 10 % 10) :: UInt8.ofNat (48 + v.toNat % 10) :: r) = false := by show (!isD _) = false; rw [isD_d (show v.toNat / 10 % 10 < 10 by omega)]; rfl
      simp only [List.cons_append, List.nil_append]
      rw [scan_d (by omega) (by omega), e2, if_neg (by decide), scan_d (by omega) (by omega), e, if_neg (by decide), scan_d (by omega) (by omega), if_pos hr]
      rw [show (10 * (10 * (10 * (0 : Int) + ((v.toNat / 100 : Nat) : Int)) + ((v.toNat / 10 % 10 : Nat) : Int)) + ((v.toNat % 10 : Nat) : Int)) = v by omega]
theorem scan_text : ∀ (T : Tr), (∀ v ∈ T.leaves, 1 ≤ v ∧ v ≤ 128) → ∀ (r : List UInt8) (t : List VN) (o : List Int), endD r = true → scanP (textT T ++ r) t o 0 = scanP r (t ++ post T t.length) (o ++ [((t.length + T.size - 1 : Nat) : Int)]) 0
  | .leaf v, h, r, t, o, hr => by
    obtain ⟨h1, h2⟩ := h v (by simp [Tr.leaves])
    simp only [textT, post, Tr.size]
    rw [scan_dec h1 h2 hr]
    rfl
  | .node a b, h, r, t, o, hr => by
    have ha := scan_text a (fun v hv => h v (by simp [Tr.leaves, hv]))
    have hb := scan_text b (fun v hv => h v (by simp [Tr.leaves, hv]))
    have h40 : (40 : UInt8).toNat = 40 := rfl
    have h32 : (32 : UInt8).toNat = 32 := rfl
    have h41 : (41 : UInt8).toNat = 41 := rfl
    have e : textT (.node a b) ++ r = 40 :: (textT a ++ (32 :: (textT b ++ (41 :: r)))) := by simp [textT]
    rw [e, scan_skip (by omega) (by omega), ha _ _ _ rfl, scan_skip (by omega) (by omega), hb _ _ _ rfl]
    rw [scan_close (u := ((t.length + a.size - 1 : Nat) : Int)) (v := (((t ++ post a t.length).length + b.size - 1 : Nat) : Int)) (by omega) h41 (by simp) (by simp) (by simp)]
    have hl : (t ++ post a t.length).length = t.length + a.size := by rw [List.length_append, post_len]
    have hs := a.size_pos
    have hs2 := b.size_pos
    congr 1
    · rw [hl]
      simp only [post, List.append_assoc]
    · simp only [List.length_append, post_len, List.length_cons, List.length_nil, Tr.size]
      rw [show o.length + (0 + 1) + (0 + 1) - 2 = o.length by omega, List.append_assoc, List.take_left]
      rw [show t.length + a.size + b.size = t.length + (a.size + b.size + 1) - 1 by omega]
end Go.Proofs.YtpeoodkepjhhiaaDoor
