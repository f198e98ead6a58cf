/-
  Lemmas and contracts, joined: Vmove Vmk.
-/
import Derived.Test.YtpeoodkepjhhiaaDoorPk5
import Derived.Test.YtpeoodkepjhhiaaDoorPk4
namespace Go.Proofs.YtpeoodkepjhhiaaDoor
open Go Go.RowKit
theorem chr_ {W : World} {ts : List VN} {D : Nat → Prop} {i a b2 a' b' at_ low p q cc ac tc lc xc b o c0 : Nat} (hf : fR at_ low p q cc i a b2 = (a', b')) (hlow : ts[low]? = some ⟨(p : Int), (q : Int), 0⟩) (hN : NodesD D W (.slice (some ⟨b, o, none⟩) ts.length c0) ts) (hD : ∀ k, D k → k < W.heap.size) (hac : Blk W ac 3 #[.int .i64 (at_ : Int)]) (htc : Blk W tc 23 #[.slice (some ⟨b, o, none⟩) ts.length c0]) (hlc : Blk W lc 3 #[.int .i64 (low : Int)]) (hxc : Blk W xc 38 #[.int .i64 (low : Int), .int .i64 (cc : Int), .int .i64 0]) :
    Calls Tryd.prog 61 #[.int .i64 (i : Int), .agg #[.int .i64 (a : Int), .int .i64 (b2 : Int), .int .i64 0], .pointer (some ⟨ac, 0, none⟩), .pointer (some ⟨tc, 0, none⟩), .pointer (some ⟨lc, 0, none⟩), .pointer (some ⟨xc, 0, none⟩)] W fun e w' => e = .returned (.agg #[.int .i64 (a' : Int), .int .i64 (b' : Int), .int .i64 0]) ∧ Below W.heap.size W w' := by
  have O0 : Own Z0 W W [.ro (fun k => k = ac) (fun w => Blk w ac 3 #[.int .i64 (at_ : Int)]), .ro (fun k => k = tc) (fun w => Blk w tc 23 #[.slice (some ⟨b, o, none⟩) ts.length c0]), .ro (fun k => k = lc) (fun w => Blk w lc 3 #[.int .i64 (low : Int)]), .ro (fun k => k = xc) (fun w => Blk w xc 38 #[.int .i64 (low : Int), .int .i64 (cc : Int), .int .i64 0]), .ro D (fun w => NodesD D w (.slice (some ⟨b, o, none⟩) ts.length c0) ts)] := (((((Own.start W).oldro (D := D) (p := (fun w => NodesD D w (.slice (some ⟨b, o, none⟩) ts.length c0) ts)) (nodesE_holds hN hD)).oldro (D := (fun k => k = xc)) (p := (fun w => Blk w xc 38 #[.int .i64 (low : Int), .int .i64 (cc : Int), .int .i64 0])) ⟨hxc, fun k hk => hk ▸ hxc.lt, fun _ _ _ hk h => (hk _ rfl).trans h⟩).oldro (D := (fun k => k = lc)) (p := (fun w => Blk w lc 3 #[.int .i64 (low : Int)])) ⟨hlc, fun k hk => hk ▸ hlc.lt, fun _ _ _ hk h => (hk _ rfl).trans h⟩).oldro (D := (fun k => k = tc)) (p := (fun w => Blk w tc 23 #[.slice (some ⟨b, o, none⟩) ts.length c0])) ⟨htc, fun k hk => hk ▸ htc.lt, fun _ _ _ hk h => (hk _ rfl).trans h⟩).oldro (D := (fun k => k = ac)) (p := (fun w => Blk w ac 3 #[.int .i64 (at_ : Int)])) ⟨hac, fun k hk => hk ▸ hac.lt, fun _ _ _ hk h => (hk _ rfl).trans h⟩
  have hll : low < ts.length := (List.getElem?_eq_some_iff.1 hlow).1
  refine sx_enter (args := [.int .i64 (i : Int), .agg #[.int .i64 (a : Int), .int .i64 (b2 : Int), .int .i64 0], .pointer (some ⟨ac, 0, none⟩), .pointer (some ⟨tc, 0, none⟩), .pointer (some ⟨lc, 0, none⟩), .pointer (some ⟨xc, 0, none⟩)]) Tryd.func61 rfl rfl (by simp) ?_
  refine cw_seq (fun FK1 K1 => ?_)
  refine cw_region ?_
  obtain ⟨g2, w3, r4, O5, hg6, hs7⟩ := own_box O0 38 (.agg #[.int .i64 (a : Int), .int .i64 (b2 : Int), .int .i64 0]) rfl
  refine wl_val (v := .pointer (some ⟨g2, 0, none⟩)) (fun ρ e => r4 ρ _ _ _ _ _ _ (e _ _ rfl)) rfl rfl ?_
  obtain ⟨g8, w9, r10, O11, hg12, hs13⟩ := own_alloc O5 38 ze38 rfl
  refine wl_val (v := .pointer (some ⟨g8, 0, none⟩)) (fun ρ e => r10 ρ _ _ _ _ _) rfl rfl ?_
  refine wl_nil ?_
  refine xw_next K1 ?_
  refine cw_seq (fun FK14 K14 => ?_)
  refine cw_seq (fun FK15 K15 => ?_)
  refine cw_region ?_
  refine wl_val (v := .int .i64 (i : Int)) (fun ρ e => ex_move (e _ _ rfl)) rfl rfl ?_
  refine wl_nil ?_
  refine xw_next K15 ?_
  refine cw_block ?_
  refine cw_seq (fun FK16 K16 => ?_)
  refine cw_region ?_
  refine wl_val (v := .int .i64 (at_ : Int)) (fun ρ e => ex_load1 ty3 (e _ _ rfl) (((O11.ro 2 rfl : Blk _ ac _ _).cell 0).trans rfl)) rfl rfl ?_
  by_cases c17 : (i : Int) = (at_ : Int)
  · skip
    refine wl_val (v := .bool true) (fun ρ e => ex_cmp (u := (i : Int)) (v := (at_ : Int)) (e _ _ rfl) (e _ _ rfl) (eql1 (by omega))) rfl rfl ?_
    refine wl_val (v := .bool true) (fun ρ e => ex_assign (e _ _ rfl)) rfl rfl ?_
    refine wl_nil ?_
    refine xw_next K16 ?_
    refine cw_true rfl ?_
    refine cw_seq (fun FK18 K18 => ?_)
    refine cw_drawn (fun X => Own Z0 W X [.blk g8 38 #[.int .i64 0, .int .i64 0, .int .i64 0], .blk g2 38 #[.int .i64 (a : Int), .int .i64 (b2 : Int), .int .i64 0], .ro (fun k => k = ac) (fun w => Blk w ac 3 #[.int .i64 (at_ : Int)]), .ro (fun k => k = tc) (fun w => Blk w tc 23 #[.slice (some ⟨b, o, none⟩) ts.length c0]), .ro (fun k => k = lc) (fun w => Blk w lc 3 #[.int .i64 (low : Int)]), .ro (fun k => k = xc) (fun w => Blk w xc 38 #[.int .i64 (low : Int), .int .i64 (cc : Int), .int .i64 0]), .ro D (fun w => NodesD D w (.slice (some ⟨b, o, none⟩) ts.length c0) ts)]) 7 [(0, 0), (1, 0), (2, 1), (3, 1), (4, 0), (5, 0), (6, 1), (7, 3)] (by kernel_rfl) (by kernel_rfl) (PQ.then_ (PQ.block (PQ.then_ PQ.body))) (O11).drew ?_
    have O19 : Own Z0 W w9.drew [.blk g8 38 #[.int .i64 0, .int .i64 0, .int .i64 0], .blk g2 38 #[.int .i64 (a : Int), .int .i64 (b2 : Int), .int .i64 0], .ro (fun k => k = ac) (fun w => Blk w ac 3 #[.int .i64 (at_ : Int)]), .ro (fun k => k = tc) (fun w => Blk w tc 23 #[.slice (some ⟨b, o, none⟩) ts.length c0]), .ro (fun k => k = lc) (fun w => Blk w lc 3 #[.int .i64 (low : Int)]), .ro (fun k => k = xc) (fun w => Blk w xc 38 #[.int .i64 (low : Int), .int .i64 (cc : Int), .int .i64 0]), .ro D (fun w => NodesD D w (.slice (some ⟨b, o, none⟩) ts.length c0) ts)] := O11.drew
    refine wt0 (v := .slice (some ⟨b, o, none⟩) ts.length c0) rfl (fun ρ e W hW => ex_load1 ty23 (e _ _ rfl) (((hW.ro 3 rfl : Blk _ tc _ _).cell 0).trans rfl)) rfl rfl ?_
    refine wt0 (v := .int .i64 (low : Int)) rfl (fun ρ e W hW => ex_load1 ty3 (e _ _ rfl) (((hW.ro 4 rfl : Blk _ lc _ _).cell 0).trans rfl)) rfl rfl ?_
    refine wt1 (v := .pointer (some ⟨b, o + low * 3, none⟩)) rfl (fun ρ e W => ex_idx (q := o + low * 3) (i := low) el23 (e _ _ rfl) (e _ _ rfl) (by omega) (by omega)) rfl rfl ?_
    refine wt1 (v := .pointer (some ⟨b, o + low * 3, none⟩)) rfl (fun ρ e W => ex_field (q := o + low * 3) fi38_0 (e _ _ rfl) rfl) rfl rfl ?_
    refine wt0 (v := .int .i64 (p : Int)) rfl (fun ρ e W hW => ex_load1 ty3 (e _ _ rfl) (NodesD.c0 ((hW.ro 6 rfl : (fun w => NodesD D w (.slice (some ⟨b, o, none⟩) ts.length c0) ts) _) : NodesD _ _ _ _) hlow)) rfl rfl ?_
    refine wt0 (v := .int .i64 (low : Int)) rfl (fun ρ e W hW => ex_load1 ty3 (e _ _ rfl) (((hW.ro 4 rfl : Blk _ lc _ _).cell 0).trans rfl)) rfl rfl ?_
    refine wt1 (v := .agg #[.int .i64 (p : Int), .int .i64 (low : Int), .int .i64 0]) rfl (fun ρ e W => ex_build (cells := #[.int .i64 (p : Int), .int .i64 (low : Int), .int .i64 0]) st38 (e.parts rfl) rfl) rfl rfl ?_
    obtain ⟨w20, r21, O22, hs23⟩ := own_put (o := 0) (n := 3) O19 ty38 (.agg #[.int .i64 (p : Int), .int .i64 (low : Int), .int .i64 0]) [.int .i64 (p : Int), .int .i64 (low : Int), .int .i64 0] (cs' := #[.int .i64 (p : Int), .int .i64 (low : Int), .int .i64 0]) rfl rfl rfl (Nat.le_of_ble_eq_true rfl) rfl
    refine wt3_none rfl (fun ρ e => r21 ρ _ _ _ _ _ _ (e _ _ rfl) (e _ _ rfl)) rfl ?_
    refine wt_nil ?_
    refine xw_next K18 ?_
    refine cw_ret ?_
    refine xw_blockret ?_
    refine xw_past (by intro h; cases h) ?_
    refine xw_ret (v := .agg #[.int .i64 (p : Int), .int .i64 (low : Int), .int .i64 0]) (fun T hT => res1c rfl T _ (hT 8 _ rfl) (run_loadN (vs := [.int .i64 (p : Int), .int .i64 (low : Int), .int .i64 0]) ty38 rfl (O22.cells 0 0 rfl rfl))) ?_
    obtain rfl : i = at_ := by omega
    have hf2 := hf
    simp only [fR, if_true] at hf2
    injection hf2 with e1 e2
    subst e1 e2
    exact ⟨rfl, O22.old⟩
  · skip
    refine wl_val (v := .bool false) (fun ρ e => ex_cmp (u := (i : Int)) (v := (at_ : Int)) (e _ _ rfl) (e _ _ rfl) (eql0 (by omega))) rfl rfl ?_
    refine wl_val (v := .bool false) (fun ρ e => ex_assign (e _ _ rfl)) rfl rfl ?_
    refine wl_nil ?_
    refine xw_next K16 ?_
    refine cw_false rfl ?_
    refine cw_seq (fun FK24 K24 => ?_)
    refine cw_region ?_
    refine wl_val (v := .int .i64 (low : Int)) (fun ρ e => ex_load1 ty3 (e _ _ rfl) (((O11.ro 4 rfl : Blk _ lc _ _).cell 0).trans rfl)) rfl rfl ?_
    by_cases c25 : (i : Int) = (low : Int)
    · skip
      refine wl_val (v := .bool true) (fun ρ e => ex_cmp (u := (i : Int)) (v := (low : Int)) (e _ _ rfl) (e _ _ rfl) (eql1 (by omega))) rfl rfl ?_
      refine wl_val (v := .bool true) (fun ρ e => ex_assign (e _ _ rfl)) rfl rfl ?_
      refine wl_nil ?_
      refine xw_next K24 ?_
      refine cw_true rfl ?_
      refine cw_seq (fun FK26 K26 => ?_)
      refine cw_drawn (fun X => Own Z0 W X [.blk g8 38 #[.int .i64 0, .int .i64 0, .int .i64 0], .blk g2 38 #[.int .i64 (a : Int), .int .i64 (b2 : Int), .int .i64 0], .ro (fun k => k = ac) (fun w => Blk w ac 3 #[.int .i64 (at_ : Int)]), .ro (fun k => k = tc) (fun w => Blk w tc 23 #[.slice (some ⟨b, o, none⟩) ts.length c0]), .ro (fun k => k = lc) (fun w => Blk w lc 3 #[.int .i64 (low : Int)]), .ro (fun k => k = xc) (fun w => Blk w xc 38 #[.int .i64 (low : Int), .int .i64 (cc : Int), .int .i64 0]), .ro D (fun w => NodesD D w (.slice (some ⟨b, o, none⟩) ts.length c0) ts)]) 8 [(0, 0), (1, 0), (2, 1), (3, 1), (4, 0), (5, 1), (6, 0), (7, 1), (8, 3)] (by kernel_rfl) (by kernel_rfl) (PQ.then_ (PQ.block (PQ.then_ PQ.body))) (O11).drew ?_
      have O27 : Own Z0 W w9.drew [.blk g8 38 #[.int .i64 0, .int .i64 0, .int .i64 0], .blk g2 38 #[.int .i64 (a : Int), .int .i64 (b2 : Int), .int .i64 0], .ro (fun k => k = ac) (fun w => Blk w ac 3 #[.int .i64 (at_ : Int)]), .ro (fun k => k = tc) (fun w => Blk w tc 23 #[.slice (some ⟨b, o, none⟩) ts.length c0]), .ro (fun k => k = lc) (fun w => Blk w lc 3 #[.int .i64 (low : Int)]), .ro (fun k => k = xc) (fun w => Blk w xc 38 #[.int .i64 (low : Int), .int .i64 (cc : Int), .int .i64 0]), .ro D (fun w => NodesD D w (.slice (some ⟨b, o, none⟩) ts.length c0) ts)] := O11.drew
      refine wt0 (v := .slice (some ⟨b, o, none⟩) ts.length c0) rfl (fun ρ e W hW => ex_load1 ty23 (e _ _ rfl) (((hW.ro 3 rfl : Blk _ tc _ _).cell 0).trans rfl)) rfl rfl ?_
      refine wt0 (v := .int .i64 (low : Int)) rfl (fun ρ e W hW => ex_load1 ty3 (e _ _ rfl) (((hW.ro 4 rfl : Blk _ lc _ _).cell 0).trans rfl)) rfl rfl ?_
      refine wt1 (v := .pointer (some ⟨b, o + low * 3, none⟩)) rfl (fun ρ e W => ex_idx (q := o + low * 3) (i := low) el23 (e _ _ rfl) (e _ _ rfl) (by omega) (by omega)) rfl rfl ?_
      refine wt1 (v := .pointer (some ⟨b, o + low * 3 + 1, none⟩)) rfl (fun ρ e W => ex_field (q := o + low * 3 + 1) fi38_1 (e _ _ rfl) rfl) rfl rfl ?_
      refine wt0 (v := .int .i64 (q : Int)) rfl (fun ρ e W hW => ex_load1 ty3 (e _ _ rfl) (NodesD.c1 ((hW.ro 6 rfl : (fun w => NodesD D w (.slice (some ⟨b, o, none⟩) ts.length c0) ts) _) : NodesD _ _ _ _) hlow)) rfl rfl ?_
      refine wt1 (v := .pointer (some ⟨xc, 1, none⟩)) rfl (fun ρ e W => ex_field (q := 1) fi38_1 (e _ _ rfl) rfl) rfl rfl ?_
      refine wt0 (v := .int .i64 (cc : Int)) rfl (fun ρ e W hW => ex_load1 ty3 (e _ _ rfl) (((hW.ro 5 rfl : Blk _ xc _ _).cell 1).trans rfl)) rfl rfl ?_
      refine wt1 (v := .agg #[.int .i64 (q : Int), .int .i64 (cc : Int), .int .i64 0]) rfl (fun ρ e W => ex_build (cells := #[.int .i64 (q : Int), .int .i64 (cc : Int), .int .i64 0]) st38 (e.parts rfl) rfl) rfl rfl ?_
      obtain ⟨w28, r29, O30, hs31⟩ := own_put (o := 0) (n := 3) O27 ty38 (.agg #[.int .i64 (q : Int), .int .i64 (cc : Int), .int .i64 0]) [.int .i64 (q : Int), .int .i64 (cc : Int), .int .i64 0] (cs' := #[.int .i64 (q : Int), .int .i64 (cc : Int), .int .i64 0]) rfl rfl rfl (Nat.le_of_ble_eq_true rfl) rfl
      refine wt3_none rfl (fun ρ e => r29 ρ _ _ _ _ _ _ (e _ _ rfl) (e _ _ rfl)) rfl ?_
      refine wt_nil ?_
      refine xw_next K26 ?_
      refine cw_ret ?_
      refine xw_blockret ?_
      refine xw_past (by intro h; cases h) ?_
      refine xw_ret (v := .agg #[.int .i64 (q : Int), .int .i64 (cc : Int), .int .i64 0]) (fun T hT => res1c rfl T _ (hT 8 _ rfl) (run_loadN (vs := [.int .i64 (q : Int), .int .i64 (cc : Int), .int .i64 0]) ty38 rfl (O30.cells 0 0 rfl rfl))) ?_
      obtain rfl : i = low := by omega
      have hf2 := hf
      rw [fR, if_neg (by omega), if_pos rfl] at hf2
      injection hf2 with e1 e2
      subst e1 e2
      exact ⟨rfl, O30.old⟩
    · skip
      refine wl_val (v := .bool false) (fun ρ e => ex_cmp (u := (i : Int)) (v := (low : Int)) (e _ _ rfl) (e _ _ rfl) (eql0 (by omega))) rfl rfl ?_
      refine wl_val (v := .bool false) (fun ρ e => ex_assign (e _ _ rfl)) rfl rfl ?_
      refine wl_nil ?_
      refine xw_next K24 ?_
      refine cw_false rfl ?_
      refine cw_skip ?_
      refine xw_block ?_
      refine xw_next K14 ?_
      refine cw_seq (fun FK32 K32 => ?_)
      refine cw_region ?_
      refine wl_val (v := .agg #[.int .i64 (a : Int), .int .i64 (b2 : Int), .int .i64 0]) (fun ρ e => ex_loadN (vs := [.int .i64 (a : Int), .int .i64 (b2 : Int), .int .i64 0]) ty38 (e _ _ rfl) rfl (O11.cells 1 0 rfl rfl)) rfl rfl ?_
      obtain ⟨w33, r34, O35, hs36⟩ := own_put (o := 0) (n := 3) O11 ty38 (.agg #[.int .i64 (a : Int), .int .i64 (b2 : Int), .int .i64 0]) [.int .i64 (a : Int), .int .i64 (b2 : Int), .int .i64 0] (cs' := #[.int .i64 (a : Int), .int .i64 (b2 : Int), .int .i64 0]) rfl rfl rfl (Nat.le_of_ble_eq_true rfl) rfl
      refine wl_none (fun ρ e => r34 ρ _ _ _ _ _ _ (e _ _ rfl) (e _ _ rfl)) rfl ?_
      refine wl_nil ?_
      refine xw_next K32 ?_
      refine cw_ret ?_
      refine xw_ret (v := .agg #[.int .i64 (a : Int), .int .i64 (b2 : Int), .int .i64 0]) (fun T hT => res1c rfl T _ (hT 8 _ rfl) (run_loadN (vs := [.int .i64 (a : Int), .int .i64 (b2 : Int), .int .i64 0]) ty38 rfl (O35.cells 0 0 rfl rfl))) ?_
      have hf2 := hf
      rw [fR, if_neg (by omega), if_neg (by omega)] at hf2
      injection hf2 with e1 e2
      subst e1 e2
      exact ⟨rfl, O35.old⟩
theorem chl_ {W : World} {ts : List VN} {D : Nat → Prop} {i a b2 a' b' at_ low p q cc ac tc lc xc b o c0 : Nat} (hf : fL at_ low p q cc i a b2 = (a', b')) (hlow : ts[low]? = some ⟨(p : Int), (q : Int), 0⟩) (hN : NodesD D W (.slice (some ⟨b, o, none⟩) ts.length c0) ts) (hD : ∀ k, D k → k < W.heap.size) (hac : Blk W ac 3 #[.int .i64 (at_ : Int)]) (hlc : Blk W lc 3 #[.int .i64 (low : Int)]) (htc : Blk W tc 23 #[.slice (some ⟨b, o, none⟩) ts.length c0]) (hxc : Blk W xc 38 #[.int .i64 (cc : Int), .int .i64 (low : Int), .int .i64 0]) :
    Calls Tryd.prog 62 #[.int .i64 (i : Int), .agg #[.int .i64 (a : Int), .int .i64 (b2 : Int), .int .i64 0], .pointer (some ⟨ac, 0, none⟩), .pointer (some ⟨lc, 0, none⟩), .pointer (some ⟨tc, 0, none⟩), .pointer (some ⟨xc, 0, none⟩)] W fun e w' => e = .returned (.agg #[.int .i64 (a' : Int), .int .i64 (b' : Int), .int .i64 0]) ∧ Below W.heap.size W w' := by
  have O0 : Own Z0 W W [.ro (fun k => k = ac) (fun w => Blk w ac 3 #[.int .i64 (at_ : Int)]), .ro (fun k => k = lc) (fun w => Blk w lc 3 #[.int .i64 (low : Int)]), .ro (fun k => k = tc) (fun w => Blk w tc 23 #[.slice (some ⟨b, o, none⟩) ts.length c0]), .ro (fun k => k = xc) (fun w => Blk w xc 38 #[.int .i64 (cc : Int), .int .i64 (low : Int), .int .i64 0]), .ro D (fun w => NodesD D w (.slice (some ⟨b, o, none⟩) ts.length c0) ts)] := (((((Own.start W).oldro (D := D) (p := (fun w => NodesD D w (.slice (some ⟨b, o, none⟩) ts.length c0) ts)) (nodesE_holds hN hD)).oldro (D := (fun k => k = xc)) (p := (fun w => Blk w xc 38 #[.int .i64 (cc : Int), .int .i64 (low : Int), .int .i64 0])) ⟨hxc, fun k hk => hk ▸ hxc.lt, fun _ _ _ hk h => (hk _ rfl).trans h⟩).oldro (D := (fun k => k = tc)) (p := (fun w => Blk w tc 23 #[.slice (some ⟨b, o, none⟩) ts.length c0])) ⟨htc, fun k hk => hk ▸ htc.lt, fun _ _ _ hk h => (hk _ rfl).trans h⟩).oldro (D := (fun k => k = lc)) (p := (fun w => Blk w lc 3 #[.int .i64 (low : Int)])) ⟨hlc, fun k hk => hk ▸ hlc.lt, fun _ _ _ hk h => (hk _ rfl).trans h⟩).oldro (D := (fun k => k = ac)) (p := (fun w => Blk w ac 3 #[.int .i64 (at_ : Int)])) ⟨hac, fun k hk => hk ▸ hac.lt, fun _ _ _ hk h => (hk _ rfl).trans h⟩
  have hll : low < ts.length := (List.getElem?_eq_some_iff.1 hlow).1
  refine sx_enter (args := [.int .i64 (i : Int), .agg #[.int .i64 (a : Int), .int .i64 (b2 : Int), .int .i64 0], .pointer (some ⟨ac, 0, none⟩), .pointer (some ⟨lc, 0, none⟩), .pointer (some ⟨tc, 0, none⟩), .pointer (some ⟨xc, 0, none⟩)]) Tryd.func62 rfl rfl (by simp) ?_
  refine cw_seq (fun FK1 K1 => ?_)
  refine cw_region ?_
  obtain ⟨g2, w3, r4, O5, hg6, hs7⟩ := own_box O0 38 (.agg #[.int .i64 (a : Int), .int .i64 (b2 : Int), .int .i64 0]) rfl
  refine wl_val (v := .pointer (some ⟨g2, 0, none⟩)) (fun ρ e => r4 ρ _ _ _ _ _ _ (e _ _ rfl)) rfl rfl ?_
  obtain ⟨g8, w9, r10, O11, hg12, hs13⟩ := own_alloc O5 38 ze38 rfl
  refine wl_val (v := .pointer (some ⟨g8, 0, none⟩)) (fun ρ e => r10 ρ _ _ _ _ _) rfl rfl ?_
  refine wl_nil ?_
  refine xw_next K1 ?_
  refine cw_seq (fun FK14 K14 => ?_)
  refine cw_seq (fun FK15 K15 => ?_)
  refine cw_region ?_
  refine wl_val (v := .int .i64 (i : Int)) (fun ρ e => ex_move (e _ _ rfl)) rfl rfl ?_
  refine wl_nil ?_
  refine xw_next K15 ?_
  refine cw_block ?_
  refine cw_seq (fun FK16 K16 => ?_)
  refine cw_region ?_
  refine wl_val (v := .int .i64 (at_ : Int)) (fun ρ e => ex_load1 ty3 (e _ _ rfl) (((O11.ro 2 rfl : Blk _ ac _ _).cell 0).trans rfl)) rfl rfl ?_
  by_cases c17 : (i : Int) = (at_ : Int)
  · skip
    refine wl_val (v := .bool true) (fun ρ e => ex_cmp (u := (i : Int)) (v := (at_ : Int)) (e _ _ rfl) (e _ _ rfl) (eql1 (by omega))) rfl rfl ?_
    refine wl_val (v := .bool true) (fun ρ e => ex_assign (e _ _ rfl)) rfl rfl ?_
    refine wl_nil ?_
    refine xw_next K16 ?_
    refine cw_true rfl ?_
    refine cw_seq (fun FK18 K18 => ?_)
    refine cw_drawn (fun X => Own Z0 W X [.blk g8 38 #[.int .i64 0, .int .i64 0, .int .i64 0], .blk g2 38 #[.int .i64 (a : Int), .int .i64 (b2 : Int), .int .i64 0], .ro (fun k => k = ac) (fun w => Blk w ac 3 #[.int .i64 (at_ : Int)]), .ro (fun k => k = lc) (fun w => Blk w lc 3 #[.int .i64 (low : Int)]), .ro (fun k => k = tc) (fun w => Blk w tc 23 #[.slice (some ⟨b, o, none⟩) ts.length c0]), .ro (fun k => k = xc) (fun w => Blk w xc 38 #[.int .i64 (cc : Int), .int .i64 (low : Int), .int .i64 0]), .ro D (fun w => NodesD D w (.slice (some ⟨b, o, none⟩) ts.length c0) ts)]) 7 [(0, 0), (1, 0), (2, 0), (3, 1), (4, 1), (5, 0), (6, 1), (7, 3)] (by kernel_rfl) (by kernel_rfl) (PQ.then_ (PQ.block (PQ.then_ PQ.body))) (O11).drew ?_
    have O19 : Own Z0 W w9.drew [.blk g8 38 #[.int .i64 0, .int .i64 0, .int .i64 0], .blk g2 38 #[.int .i64 (a : Int), .int .i64 (b2 : Int), .int .i64 0], .ro (fun k => k = ac) (fun w => Blk w ac 3 #[.int .i64 (at_ : Int)]), .ro (fun k => k = lc) (fun w => Blk w lc 3 #[.int .i64 (low : Int)]), .ro (fun k => k = tc) (fun w => Blk w tc 23 #[.slice (some ⟨b, o, none⟩) ts.length c0]), .ro (fun k => k = xc) (fun w => Blk w xc 38 #[.int .i64 (cc : Int), .int .i64 (low : Int), .int .i64 0]), .ro D (fun w => NodesD D w (.slice (some ⟨b, o, none⟩) ts.length c0) ts)] := O11.drew
    refine wt0 (v := .int .i64 (low : Int)) rfl (fun ρ e W hW => ex_load1 ty3 (e _ _ rfl) (((hW.ro 3 rfl : Blk _ lc _ _).cell 0).trans rfl)) rfl rfl ?_
    refine wt0 (v := .slice (some ⟨b, o, none⟩) ts.length c0) rfl (fun ρ e W hW => ex_load1 ty23 (e _ _ rfl) (((hW.ro 4 rfl : Blk _ tc _ _).cell 0).trans rfl)) rfl rfl ?_
    refine wt0 (v := .int .i64 (low : Int)) rfl (fun ρ e W hW => ex_load1 ty3 (e _ _ rfl) (((hW.ro 3 rfl : Blk _ lc _ _).cell 0).trans rfl)) rfl rfl ?_
    refine wt1 (v := .pointer (some ⟨b, o + low * 3, none⟩)) rfl (fun ρ e W => ex_idx (q := o + low * 3) (i := low) el23 (e _ _ rfl) (e _ _ rfl) (by omega) (by omega)) rfl rfl ?_
    refine wt1 (v := .pointer (some ⟨b, o + low * 3 + 1, none⟩)) rfl (fun ρ e W => ex_field (q := o + low * 3 + 1) fi38_1 (e _ _ rfl) rfl) rfl rfl ?_
    refine wt0 (v := .int .i64 (q : Int)) rfl (fun ρ e W hW => ex_load1 ty3 (e _ _ rfl) (NodesD.c1 ((hW.ro 6 rfl : (fun w => NodesD D w (.slice (some ⟨b, o, none⟩) ts.length c0) ts) _) : NodesD _ _ _ _) hlow)) rfl rfl ?_
    refine wt1 (v := .agg #[.int .i64 (low : Int), .int .i64 (q : Int), .int .i64 0]) rfl (fun ρ e W => ex_build (cells := #[.int .i64 (low : Int), .int .i64 (q : Int), .int .i64 0]) st38 (e.parts rfl) rfl) rfl rfl ?_
    obtain ⟨w20, r21, O22, hs23⟩ := own_put (o := 0) (n := 3) O19 ty38 (.agg #[.int .i64 (low : Int), .int .i64 (q : Int), .int .i64 0]) [.int .i64 (low : Int), .int .i64 (q : Int), .int .i64 0] (cs' := #[.int .i64 (low : Int), .int .i64 (q : Int), .int .i64 0]) rfl rfl rfl (Nat.le_of_ble_eq_true rfl) rfl
    refine wt3_none rfl (fun ρ e => r21 ρ _ _ _ _ _ _ (e _ _ rfl) (e _ _ rfl)) rfl ?_
    refine wt_nil ?_
    refine xw_next K18 ?_
    refine cw_ret ?_
    refine xw_blockret ?_
    refine xw_past (by intro h; cases h) ?_
    refine xw_ret (v := .agg #[.int .i64 (low : Int), .int .i64 (q : Int), .int .i64 0]) (fun T hT => res1c rfl T _ (hT 8 _ rfl) (run_loadN (vs := [.int .i64 (low : Int), .int .i64 (q : Int), .int .i64 0]) ty38 rfl (O22.cells 0 0 rfl rfl))) ?_
    obtain rfl : i = at_ := by omega
    have hf2 := hf
    simp only [fL, if_true] at hf2
    injection hf2 with e1 e2
    subst e1 e2
    exact ⟨rfl, O22.old⟩
  · skip
    refine wl_val (v := .bool false) (fun ρ e => ex_cmp (u := (i : Int)) (v := (at_ : Int)) (e _ _ rfl) (e _ _ rfl) (eql0 (by omega))) rfl rfl ?_
    refine wl_val (v := .bool false) (fun ρ e => ex_assign (e _ _ rfl)) rfl rfl ?_
    refine wl_nil ?_
    refine xw_next K16 ?_
    refine cw_false rfl ?_
    refine cw_seq (fun FK24 K24 => ?_)
    refine cw_region ?_
    refine wl_val (v := .int .i64 (low : Int)) (fun ρ e => ex_load1 ty3 (e _ _ rfl) (((O11.ro 3 rfl : Blk _ lc _ _).cell 0).trans rfl)) rfl rfl ?_
    by_cases c25 : (i : Int) = (low : Int)
    · skip
      refine wl_val (v := .bool true) (fun ρ e => ex_cmp (u := (i : Int)) (v := (low : Int)) (e _ _ rfl) (e _ _ rfl) (eql1 (by omega))) rfl rfl ?_
      refine wl_val (v := .bool true) (fun ρ e => ex_assign (e _ _ rfl)) rfl rfl ?_
      refine wl_nil ?_
      refine xw_next K24 ?_
      refine cw_true rfl ?_
      refine cw_seq (fun FK26 K26 => ?_)
      refine cw_drawn (fun X => Own Z0 W X [.blk g8 38 #[.int .i64 0, .int .i64 0, .int .i64 0], .blk g2 38 #[.int .i64 (a : Int), .int .i64 (b2 : Int), .int .i64 0], .ro (fun k => k = ac) (fun w => Blk w ac 3 #[.int .i64 (at_ : Int)]), .ro (fun k => k = lc) (fun w => Blk w lc 3 #[.int .i64 (low : Int)]), .ro (fun k => k = tc) (fun w => Blk w tc 23 #[.slice (some ⟨b, o, none⟩) ts.length c0]), .ro (fun k => k = xc) (fun w => Blk w xc 38 #[.int .i64 (cc : Int), .int .i64 (low : Int), .int .i64 0]), .ro D (fun w => NodesD D w (.slice (some ⟨b, o, none⟩) ts.length c0) ts)]) 8 [(0, 1), (1, 0), (2, 0), (3, 0), (4, 1), (5, 1), (6, 0), (7, 1), (8, 3)] (by kernel_rfl) (by kernel_rfl) (PQ.then_ (PQ.block (PQ.then_ PQ.body))) (O11).drew ?_
      have O27 : Own Z0 W w9.drew [.blk g8 38 #[.int .i64 0, .int .i64 0, .int .i64 0], .blk g2 38 #[.int .i64 (a : Int), .int .i64 (b2 : Int), .int .i64 0], .ro (fun k => k = ac) (fun w => Blk w ac 3 #[.int .i64 (at_ : Int)]), .ro (fun k => k = lc) (fun w => Blk w lc 3 #[.int .i64 (low : Int)]), .ro (fun k => k = tc) (fun w => Blk w tc 23 #[.slice (some ⟨b, o, none⟩) ts.length c0]), .ro (fun k => k = xc) (fun w => Blk w xc 38 #[.int .i64 (cc : Int), .int .i64 (low : Int), .int .i64 0]), .ro D (fun w => NodesD D w (.slice (some ⟨b, o, none⟩) ts.length c0) ts)] := O11.drew
      refine wt1 (v := .pointer (some ⟨xc, 0, none⟩)) rfl (fun ρ e W => ex_field (q := 0) fi38_0 (e _ _ rfl) rfl) rfl rfl ?_
      refine wt0 (v := .int .i64 (cc : Int)) rfl (fun ρ e W hW => ex_load1 ty3 (e _ _ rfl) (((hW.ro 5 rfl : Blk _ xc _ _).cell 0).trans rfl)) rfl rfl ?_
      refine wt0 (v := .slice (some ⟨b, o, none⟩) ts.length c0) rfl (fun ρ e W hW => ex_load1 ty23 (e _ _ rfl) (((hW.ro 4 rfl : Blk _ tc _ _).cell 0).trans rfl)) rfl rfl ?_
      refine wt0 (v := .int .i64 (low : Int)) rfl (fun ρ e W hW => ex_load1 ty3 (e _ _ rfl) (((hW.ro 3 rfl : Blk _ lc _ _).cell 0).trans rfl)) rfl rfl ?_
      refine wt1 (v := .pointer (some ⟨b, o + low * 3, none⟩)) rfl (fun ρ e W => ex_idx (q := o + low * 3) (i := low) el23 (e _ _ rfl) (e _ _ rfl) (by omega) (by omega)) rfl rfl ?_
      refine wt1 (v := .pointer (some ⟨b, o + low * 3, none⟩)) rfl (fun ρ e W => ex_field (q := o + low * 3) fi38_0 (e _ _ rfl) rfl) rfl rfl ?_
      refine wt0 (v := .int .i64 (p : Int)) rfl (fun ρ e W hW => ex_load1 ty3 (e _ _ rfl) (NodesD.c0 ((hW.ro 6 rfl : (fun w => NodesD D w (.slice (some ⟨b, o, none⟩) ts.length c0) ts) _) : NodesD _ _ _ _) hlow)) rfl rfl ?_
      refine wt1 (v := .agg #[.int .i64 (cc : Int), .int .i64 (p : Int), .int .i64 0]) rfl (fun ρ e W => ex_build (cells := #[.int .i64 (cc : Int), .int .i64 (p : Int), .int .i64 0]) st38 (e.parts rfl) rfl) rfl rfl ?_
      obtain ⟨w28, r29, O30, hs31⟩ := own_put (o := 0) (n := 3) O27 ty38 (.agg #[.int .i64 (cc : Int), .int .i64 (p : Int), .int .i64 0]) [.int .i64 (cc : Int), .int .i64 (p : Int), .int .i64 0] (cs' := #[.int .i64 (cc : Int), .int .i64 (p : Int), .int .i64 0]) rfl rfl rfl (Nat.le_of_ble_eq_true rfl) rfl
      refine wt3_none rfl (fun ρ e => r29 ρ _ _ _ _ _ _ (e _ _ rfl) (e _ _ rfl)) rfl ?_
      refine wt_nil ?_
      refine xw_next K26 ?_
      refine cw_ret ?_
      refine xw_blockret ?_
      refine xw_past (by intro h; cases h) ?_
      refine xw_ret (v := .agg #[.int .i64 (cc : Int), .int .i64 (p : Int), .int .i64 0]) (fun T hT => res1c rfl T _ (hT 8 _ rfl) (run_loadN (vs := [.int .i64 (cc : Int), .int .i64 (p : Int), .int .i64 0]) ty38 rfl (O30.cells 0 0 rfl rfl))) ?_
      obtain rfl : i = low := by omega
      have hf2 := hf
      rw [fL, if_neg (by omega), if_pos rfl] at hf2
      injection hf2 with e1 e2
      subst e1 e2
      exact ⟨rfl, O30.old⟩
    · skip
      refine wl_val (v := .bool false) (fun ρ e => ex_cmp (u := (i : Int)) (v := (low : Int)) (e _ _ rfl) (e _ _ rfl) (eql0 (by omega))) rfl rfl ?_
      refine wl_val (v := .bool false) (fun ρ e => ex_assign (e _ _ rfl)) rfl rfl ?_
      refine wl_nil ?_
      refine xw_next K24 ?_
      refine cw_false rfl ?_
      refine cw_skip ?_
      refine xw_block ?_
      refine xw_next K14 ?_
      refine cw_seq (fun FK32 K32 => ?_)
      refine cw_region ?_
      refine wl_val (v := .agg #[.int .i64 (a : Int), .int .i64 (b2 : Int), .int .i64 0]) (fun ρ e => ex_loadN (vs := [.int .i64 (a : Int), .int .i64 (b2 : Int), .int .i64 0]) ty38 (e _ _ rfl) rfl (O11.cells 1 0 rfl rfl)) rfl rfl ?_
      obtain ⟨w33, r34, O35, hs36⟩ := own_put (o := 0) (n := 3) O11 ty38 (.agg #[.int .i64 (a : Int), .int .i64 (b2 : Int), .int .i64 0]) [.int .i64 (a : Int), .int .i64 (b2 : Int), .int .i64 0] (cs' := #[.int .i64 (a : Int), .int .i64 (b2 : Int), .int .i64 0]) rfl rfl rfl (Nat.le_of_ble_eq_true rfl) rfl
      refine wl_none (fun ρ e => r34 ρ _ _ _ _ _ _ (e _ _ rfl) (e _ _ rfl)) rfl ?_
      refine wl_nil ?_
      refine xw_next K32 ?_
      refine cw_ret ?_
      refine xw_ret (v := .agg #[.int .i64 (a : Int), .int .i64 (b2 : Int), .int .i64 0]) (fun T hT => res1c rfl T _ (hT 8 _ rfl) (run_loadN (vs := [.int .i64 (a : Int), .int .i64 (b2 : Int), .int .i64 0]) ty38 rfl (O35.cells 0 0 rfl rfl))) ?_
      have hf2 := hf
      rw [fL, if_neg (by omega), if_neg (by omega)] at hf2
      injection hf2 with e1 e2
      subst e1 e2
      exact ⟨rfl, O35.old⟩
theorem chs_ {W : World} {i a b2 a' b' at_ ac : Nat} (hf : fS at_ i a b2 = (a', b')) (hac : Blk W ac 3 #[.int .i64 (at_ : Int)]) :
    Calls Tryd.prog 63 #[.int .i64 (i : Int), .agg #[.int .i64 (a : Int), .int .i64 (b2 : Int), .int .i64 0], .pointer (some ⟨ac, 0, none⟩)] W fun e w' => e = .returned (.agg #[.int .i64 (a' : Int), .int .i64 (b' : Int), .int .i64 0]) ∧ Below W.heap.size W w' := by
  have O0 : Own Z0 W W [.ro (fun k => k = ac) (fun w => Blk w ac 3 #[.int .i64 (at_ : Int)])] := (Own.start W).oldro (D := (fun k => k = ac)) (p := (fun w => Blk w ac 3 #[.int .i64 (at_ : Int)])) ⟨hac, fun k hk => hk ▸ hac.lt, fun _ _ _ hk h => (hk _ rfl).trans h⟩
  refine sx_enter (args := [.int .i64 (i : Int), .agg #[.int .i64 (a : Int), .int .i64 (b2 : Int), .int .i64 0], .pointer (some ⟨ac, 0, none⟩)]) Tryd.func63 rfl rfl (by simp) ?_
  refine cw_seq (fun FK1 K1 => ?_)
  refine cw_region ?_
  obtain ⟨g2, w3, r4, O5, hg6, hs7⟩ := own_box O0 38 (.agg #[.int .i64 (a : Int), .int .i64 (b2 : Int), .int .i64 0]) rfl
  refine wl_val (v := .pointer (some ⟨g2, 0, none⟩)) (fun ρ e => r4 ρ _ _ _ _ _ _ (e _ _ rfl)) rfl rfl ?_
  obtain ⟨g8, w9, r10, O11, hg12, hs13⟩ := own_alloc O5 38 ze38 rfl
  refine wl_val (v := .pointer (some ⟨g8, 0, none⟩)) (fun ρ e => r10 ρ _ _ _ _ _) rfl rfl ?_
  refine wl_nil ?_
  refine xw_next K1 ?_
  refine cw_seq (fun FK14 K14 => ?_)
  refine cw_seq (fun FK15 K15 => ?_)
  refine cw_region ?_
  refine wl_val (v := .int .i64 (i : Int)) (fun ρ e => ex_move (e _ _ rfl)) rfl rfl ?_
  refine wl_val (v := .int .i64 (at_ : Int)) (fun ρ e => ex_load1 ty3 (e _ _ rfl) (((O11.ro 2 rfl : Blk _ ac _ _).cell 0).trans rfl)) rfl rfl ?_
  by_cases c16 : (i : Int) = (at_ : Int)
  · skip
    refine wl_val (v := .bool true) (fun ρ e => ex_cmp (u := (i : Int)) (v := (at_ : Int)) (e _ _ rfl) (e _ _ rfl) (eql1 (by omega))) rfl rfl ?_
    refine wl_nil ?_
    refine xw_next K15 ?_
    refine cw_true rfl ?_
    refine cw_region ?_
    refine wl_val (v := .pointer (some ⟨g2, 1, none⟩)) (fun ρ e => ex_field (q := 1) fi38_1 (e _ _ rfl) rfl) rfl rfl ?_
    refine wl_val (v := .int .i64 (b2 : Int)) (fun ρ e => ex_load1 ty3 (e _ _ rfl) (O11.cell 1 1 rfl rfl)) rfl rfl ?_
    refine wl_val (v := .pointer (some ⟨g2, 0, none⟩)) (fun ρ e => ex_field (q := 0) fi38_0 (e _ _ rfl) rfl) rfl rfl ?_
    refine wl_val (v := .int .i64 (a : Int)) (fun ρ e => ex_load1 ty3 (e _ _ rfl) (O11.cell 1 0 rfl rfl)) rfl rfl ?_
    refine wl_val (v := .pointer (some ⟨g2, 0, none⟩)) (fun ρ e => ex_field (q := 0) fi38_0 (e _ _ rfl) rfl) rfl rfl ?_
    obtain ⟨w17, r18, O19, hs20⟩ := own_put (o := 0) (n := 1) (O11.re [1, 0, 2] rfl : Own Z0 W w9 [.blk g2 38 #[.int .i64 (a : Int), .int .i64 (b2 : Int), .int .i64 0], .blk g8 38 #[.int .i64 0, .int .i64 0, .int .i64 0], .ro (fun k => k = ac) (fun w => Blk w ac 3 #[.int .i64 (at_ : Int)])]) ty3 (.int .i64 (b2 : Int)) [.int .i64 (b2 : Int)] (cs' := #[.int .i64 (b2 : Int), .int .i64 (b2 : Int), .int .i64 0]) rfl rfl rfl (Nat.le_of_ble_eq_true rfl) rfl
    refine wl_none (fun ρ e => r18 ρ _ _ _ _ _ _ (e _ _ rfl) (e _ _ rfl)) rfl ?_
    refine wl_val (v := .pointer (some ⟨g2, 1, none⟩)) (fun ρ e => ex_field (q := 1) fi38_1 (e _ _ rfl) rfl) rfl rfl ?_
    obtain ⟨w21, r22, O23, hs24⟩ := own_put (o := 1) (n := 1) O19 ty3 (.int .i64 (a : Int)) [.int .i64 (a : Int)] (cs' := #[.int .i64 (b2 : Int), .int .i64 (a : Int), .int .i64 0]) rfl rfl rfl (Nat.le_of_ble_eq_true rfl) rfl
    refine wl_none (fun ρ e => r22 ρ _ _ _ _ _ _ (e _ _ rfl) (e _ _ rfl)) rfl ?_
    refine wl_nil ?_
    refine xw_next K14 ?_
    refine cw_seq (fun FK25 K25 => ?_)
    refine cw_region ?_
    refine wl_val (v := .agg #[.int .i64 (b2 : Int), .int .i64 (a : Int), .int .i64 0]) (fun ρ e => ex_loadN (vs := [.int .i64 (b2 : Int), .int .i64 (a : Int), .int .i64 0]) ty38 (e _ _ rfl) rfl (O23.cells 0 0 rfl rfl)) rfl rfl ?_
    obtain ⟨w26, r27, O28, hs29⟩ := own_put (o := 0) (n := 3) (O23.re [1, 0, 2] rfl : Own Z0 W w21 [.blk g8 38 #[.int .i64 0, .int .i64 0, .int .i64 0], .blk g2 38 #[.int .i64 (b2 : Int), .int .i64 (a : Int), .int .i64 0], .ro (fun k => k = ac) (fun w => Blk w ac 3 #[.int .i64 (at_ : Int)])]) ty38 (.agg #[.int .i64 (b2 : Int), .int .i64 (a : Int), .int .i64 0]) [.int .i64 (b2 : Int), .int .i64 (a : Int), .int .i64 0] (cs' := #[.int .i64 (b2 : Int), .int .i64 (a : Int), .int .i64 0]) rfl rfl rfl (Nat.le_of_ble_eq_true rfl) rfl
    refine wl_none (fun ρ e => r27 ρ _ _ _ _ _ _ (e _ _ rfl) (e _ _ rfl)) rfl ?_
    refine wl_nil ?_
    refine xw_next K25 ?_
    refine cw_ret ?_
    refine xw_ret (v := .agg #[.int .i64 (b2 : Int), .int .i64 (a : Int), .int .i64 0]) (fun T hT => res1c rfl T _ (hT 5 _ rfl) (run_loadN (vs := [.int .i64 (b2 : Int), .int .i64 (a : Int), .int .i64 0]) ty38 rfl (O28.cells 0 0 rfl rfl))) ?_
    obtain rfl : i = at_ := by omega
    have hf2 := hf
    simp only [fS, if_true] at hf2
    injection hf2 with e1 e2
    subst e1 e2
    exact ⟨rfl, O28.old⟩
  · skip
    refine wl_val (v := .bool false) (fun ρ e => ex_cmp (u := (i : Int)) (v := (at_ : Int)) (e _ _ rfl) (e _ _ rfl) (eql0 (by omega))) rfl rfl ?_
    refine wl_nil ?_
    refine xw_next K15 ?_
    refine cw_false rfl ?_
    refine cw_skip ?_
    refine xw_next K14 ?_
    refine cw_seq (fun FK30 K30 => ?_)
    refine cw_region ?_
    refine wl_val (v := .agg #[.int .i64 (a : Int), .int .i64 (b2 : Int), .int .i64 0]) (fun ρ e => ex_loadN (vs := [.int .i64 (a : Int), .int .i64 (b2 : Int), .int .i64 0]) ty38 (e _ _ rfl) rfl (O11.cells 1 0 rfl rfl)) rfl rfl ?_
    obtain ⟨w31, r32, O33, hs34⟩ := own_put (o := 0) (n := 3) O11 ty38 (.agg #[.int .i64 (a : Int), .int .i64 (b2 : Int), .int .i64 0]) [.int .i64 (a : Int), .int .i64 (b2 : Int), .int .i64 0] (cs' := #[.int .i64 (a : Int), .int .i64 (b2 : Int), .int .i64 0]) rfl rfl rfl (Nat.le_of_ble_eq_true rfl) rfl
    refine wl_none (fun ρ e => r32 ρ _ _ _ _ _ _ (e _ _ rfl) (e _ _ rfl)) rfl ?_
    refine wl_nil ?_
    refine xw_next K30 ?_
    refine cw_ret ?_
    refine xw_ret (v := .agg #[.int .i64 (a : Int), .int .i64 (b2 : Int), .int .i64 0]) (fun T hT => res1c rfl T _ (hT 5 _ rfl) (run_loadN (vs := [.int .i64 (a : Int), .int .i64 (b2 : Int), .int .i64 0]) ty38 rfl (O33.cells 0 0 rfl rfl))) ?_
    have hf2 := hf
    rw [fS, if_neg (by omega)] at hf2
    injection hf2 with e1 e2
    subst e1 e2
    exact ⟨rfl, O33.old⟩
def DXr (D : Nat → Prop) (ac tc lc xc : Nat) : Nat → Prop := fun k => k = ac ∨ k = tc ∨ k = lc ∨ k = xc ∨ D k
def PXr (D : Nat → Prop) (ts : List VN) (ac tc lc xc : Nat) (at_ low : Int) (V : Value) (top : Array Value) : World → Prop := fun w => Blk w ac 3 #[.int .i64 at_] ∧ Blk w tc 23 #[V] ∧ Blk w lc 3 #[.int .i64 low] ∧ Blk w xc 38 top ∧ NodesD D w V ts
theorem pxr_holds {W : World} {D : Nat → Prop} {ts : List VN} {ac tc lc xc : Nat} {at_ low : Int} {V : Value} {top : Array Value} (h1 : Blk W ac 3 #[.int .i64 at_]) (h2 : Blk W tc 23 #[V]) (h3 : Blk W lc 3 #[.int .i64 low]) (h4 : Blk W xc 38 top) (h5 : NodesD D W V ts) (hD : ∀ k, D k → k < W.heap.size) : (En.ro (fun k => DXr D ac tc lc xc k) (fun w => PXr D ts ac tc lc xc at_ low V top w ∧ ∀ k, D k → k < w.heap.size)).holds W := by
  refine ⟨⟨⟨h1, h2, h3, h4, h5⟩, hD⟩, fun k hk => ?_, fun w1 w2 hs hk h => ?_⟩
  · rcases hk with rfl | rfl | rfl | rfl | hk
    · exact h1.lt
    · exact h2.lt
    · exact h3.lt
    · exact h4.lt
    · exact hD k hk
  · obtain ⟨⟨q1, q2, q3, q4, q5⟩, q6⟩ := h
    exact ⟨⟨(hk _ (.inl rfl)).trans q1, (hk _ (.inr (.inl rfl))).trans q2, (hk _ (.inr (.inr (.inl rfl)))).trans q3, (hk _ (.inr (.inr (.inr (.inl rfl))))).trans q4, q5.move (fun k hk' => hk k (.inr (.inr (.inr (.inr hk')))))⟩, fun k hk' => Nat.lt_of_lt_of_le (q6 k hk') hs⟩
theorem innerb_ {W : World} {D : Nat → Prop} {V : Value} {ts : List VN} (hN : NodesD D W V ts) (hD : ∀ k, D k → k < W.heap.size) {i : Int} {r : Bool} (h : innerB ts i = r) :
    Calls Tryd.prog 59 #[V, .int .i64 i] W fun e w' => e = .returned (.bool r) ∧ Below W.heap.size W w' := h ▸ inner_ hN hD i
theorem rotr_ {W : World} {D : Nat → Prop} {V : Value} {ts : List VN} (hN : NodesD D W V ts) (hD : ∀ k, D k → k < W.heap.size) (at_ : Int) :
    Calls Tryd.prog 32 #[V, .int .i64 at_] W fun e w' => ∃ A' c', e = .returned (.tuple #[.slice A' (movOf ts 1 at_).1.length c', .int .i64 (movOf ts 1 at_).2]) ∧ Own Z0 W w' [.row (.slice A' (movOf ts 1 at_).1.length c') 38 3 (movOf ts 1 at_).1.length (ncells (movOf ts 1 at_).1)] := by
  obtain ⟨A, c0, rfl⟩ := hN.slice
  have O0 : Own Z0 W W [] := Own.start W
  refine sx_enter (args := [.slice A ts.length c0, .int .i64 at_]) Tryd.func32 rfl rfl (by simp) ?_
  refine cw_seq (fun FK1 K1 => ?_)
  refine cw_region ?_
  obtain ⟨g2, w3, r4, O5, hg6, hs7⟩ := own_box O0 23 (.slice A ts.length c0) rfl
  refine wl_val (v := .pointer (some ⟨g2, 0, none⟩)) (fun ρ e => r4 ρ _ _ _ _ _ _ (e _ _ rfl)) rfl rfl ?_
  obtain ⟨g8, w9, r10, O11, hg12, hs13⟩ := own_box O5 3 (.int .i64 at_) rfl
  refine wl_val (v := .pointer (some ⟨g8, 0, none⟩)) (fun ρ e => r10 ρ _ _ _ _ _ _ (e _ _ rfl)) rfl rfl ?_
  refine wl_val (v := .slice none 0 0) (fun ρ e => ex_assign (e _ _ rfl)) rfl rfl ?_
  refine wl_val (v := .int .i64 0) (fun ρ e => ex_assign (e _ _ rfl)) rfl rfl ?_
  refine wl_nil ?_
  refine xw_next K1 ?_
  refine cw_seq (fun FK14 K14 => ?_)
  refine cw_seq (fun FK15 K15 => ?_)
  refine cw_drawn (fun X => Own Z0 W X [.blk g8 3 #[.int .i64 at_], .blk g2 23 #[.slice A ts.length c0]]) 19 [(0, 0), (1, 2), (2, 1), (3, 1), (4, 0), (5, 0), (6, 2), (7, 1), (8, 1), (9, 1), (10, 0), (11, 0), (12, 0), (13, 1), (14, 1), (15, 0), (16, 2), (17, 1), (18, 1)] (by kernel_rfl) (by kernel_rfl) (PQ.then_ (PQ.then_ PQ.body)) (O11).drew ?_
  have O16 : Own Z0 W w9.drew [.blk g8 3 #[.int .i64 at_], .blk g2 23 #[.slice A ts.length c0]] := O11.drew
  refine wt0 (v := .slice A ts.length c0) rfl (fun ρ e W hW => ex_load1 ty23 (e _ _ rfl) (hW.cell 1 0 rfl rfl)) rfl rfl ?_
  refine wt2_call (args := [.slice A ts.length c0]) rfl in_23 rfl rfl rfl ?_
  refine (check_ (hN.move (fun k hk => (O16.old).block k (hD k hk))) (fun k hk => Nat.lt_of_lt_of_le (hD k hk) (O16.old).size)).mono ?_
  rintro _ w17 ⟨rfl, hb18⟩
  have O19 : Own Z0 W w17 [.blk g8 3 #[.int .i64 at_], .blk g2 23 #[.slice A ts.length c0]] := O16.below hb18
  refine ⟨_, rfl, O19, ?_⟩
  by_cases c20 : (chkV ts) ≠ 0
  · skip
    refine wt1 (v := .bool true) rfl (fun ρ e W => ex_cmp (u := (chkV ts)) (v := 0) (e _ _ rfl) (e _ _ rfl) (neq1 (by omega))) rfl rfl ?_
    refine wt1 (v := .bool true) rfl (fun ρ e W => ex_move (e _ _ rfl)) rfl rfl ?_
    refine wt0_skip rfl rfl rfl ?_
    refine wt0_skip rfl rfl rfl ?_
    refine wt2_skip rfl rfl rfl O19 ?_
    refine wt1_skip rfl rfl rfl ?_
    refine wt1 (v := .bool true) rfl (fun ρ e W => ex_pick1 (e _ _ rfl) (e _ _ rfl)) rfl rfl ?_
    refine wt1 (v := .bool true) rfl (fun ρ e W => ex_move (e _ _ rfl)) rfl rfl ?_
    refine wt0_skip rfl rfl rfl ?_
    refine wt0_skip rfl rfl rfl ?_
    refine wt0_skip rfl rfl rfl ?_
    refine wt1_skip rfl rfl rfl ?_
    refine wt1_skip rfl rfl rfl ?_
    refine wt0_skip rfl rfl rfl ?_
    refine wt2_skip rfl rfl rfl O19 ?_
    refine wt1_skip rfl rfl rfl ?_
    refine wt1 (v := .bool true) rfl (fun ρ e W => ex_pick1 (e _ _ rfl) (e _ _ rfl)) rfl rfl ?_
    refine wt_nil ?_
    refine xw_next K15 ?_
    refine cw_true rfl ?_
    refine cw_seq (fun FK21 K21 => ?_)
    refine cw_region ?_
    refine wl_val (v := .slice none 0 0) (fun ρ e => ex_assign (e _ _ rfl)) rfl rfl ?_
    refine wl_val (v := .int .i64 1) (fun ρ e => ex_assign (e _ _ rfl)) rfl rfl ?_
    refine wl_nil ?_
    refine xw_next K21 ?_
    refine cw_ret ?_
    refine xw_past (by intro h; cases h) ?_
    refine xw_ret (v := .tuple #[.slice none 0 0, .int .i64 1]) (fun T hT => res2 rfl T _ (hT 4 _ rfl) (hT 5 _ rfl)) ?_
    have hcan : canB ts 1 at_ = false := by unfold canB; rw [chk_no c20]; rfl
    rw [mov_no hcan]
    have O22 := O19.nilrow 38 3
    exact ⟨none, 0, rfl, O22.re [0] rfl⟩
  · skip
    have hok : okT ts = true := chk_ok (by omega)
    have hV := okT_val hok
    have hpos := hV.pos
    have hle := hV.le
    obtain ⟨b, o, c', hv, hDb⟩ := hN.form hpos
    injection hv with hA _ hc
    subst hA hc
    refine wt1 (v := .bool false) rfl (fun ρ e W => ex_cmp (u := (chkV ts)) (v := 0) (e _ _ rfl) (e _ _ rfl) (neq0 (by omega))) rfl rfl ?_
    refine wt1 (v := .bool false) rfl (fun ρ e W => ex_move (e _ _ rfl)) rfl rfl ?_
    refine wt0 (v := .slice (some ⟨b, o, none⟩) ts.length c0) rfl (fun ρ e W hW => ex_load1 ty23 (e _ _ rfl) (hW.cell 1 0 rfl rfl)) rfl rfl ?_
    refine wt0 (v := .int .i64 at_) rfl (fun ρ e W hW => ex_load1 ty3 (e _ _ rfl) (hW.cell 0 0 rfl rfl)) rfl rfl ?_
    by_cases c23 : (innerB ts at_) = true
    · skip
      obtain ⟨k, a, b2, rfl, hx⟩ := inner_get hV c23
      have hkl := hV.in_ hx
      refine wt2_call (args := [.slice (some ⟨b, o, none⟩) ts.length c0, .int .i64 (k : Int)]) rfl in_59 rfl rfl rfl ?_
      refine (innerb_ (hN.move (fun k hk => (O19.old).block k (hD k hk))) (fun k hk => Nat.lt_of_lt_of_le (hD k hk) (O19.old).size) (show innerB ts (k : Int) = true from c23)).mono ?_
      rintro _ w24 ⟨rfl, hb25⟩
      have O26 : Own Z0 W w24 [.blk g8 3 #[.int .i64 (k : Int)], .blk g2 23 #[.slice (some ⟨b, o, none⟩) ts.length c0]] := O19.below hb25
      refine ⟨_, rfl, O26, ?_⟩
      refine wt1 (v := .bool false) rfl (fun ρ e W => ex_lnot (b := true) (e _ _ rfl)) rfl rfl ?_
      refine wt1 (v := .bool false) rfl (fun ρ e W => ex_pick0 (e _ _ rfl) (e _ _ rfl)) rfl rfl ?_
      refine wt1 (v := .bool false) rfl (fun ρ e W => ex_move (e _ _ rfl)) rfl rfl ?_
      refine wt0 (v := .slice (some ⟨b, o, none⟩) ts.length c0) rfl (fun ρ e W hW => ex_load1 ty23 (e _ _ rfl) (hW.cell 1 0 rfl rfl)) rfl rfl ?_
      refine wt0 (v := .slice (some ⟨b, o, none⟩) ts.length c0) rfl (fun ρ e W hW => ex_load1 ty23 (e _ _ rfl) (hW.cell 1 0 rfl rfl)) rfl rfl ?_
      refine wt0 (v := .int .i64 (k : Int)) rfl (fun ρ e W hW => ex_load1 ty3 (e _ _ rfl) (hW.cell 0 0 rfl rfl)) rfl rfl ?_
      refine wt1 (v := .pointer (some ⟨b, o + k * 3, none⟩)) rfl (fun ρ e W => ex_idx (q := o + k * 3) (i := k) el23 (e _ _ rfl) (e _ _ rfl) (by omega) (by omega)) rfl rfl ?_
      refine wt1 (v := .pointer (some ⟨b, o + k * 3, none⟩)) rfl (fun ρ e W => ex_field (q := o + k * 3) fi38_0 (e _ _ rfl) rfl) rfl rfl ?_
      refine wt0 (v := .int .i64 (a : Int)) rfl (fun ρ e W hW => ex_load1 ty3 (e _ _ rfl) (NodesD.c0 (hN.move (fun k hk => (hW.old).block k (hD k hk))) hx)) rfl rfl ?_
      by_cases c27 : (innerB ts (a : Int)) = true
      · skip
        obtain ⟨p, q, hlow⟩ := inner_nat hV c27
        refine wt2_call (args := [.slice (some ⟨b, o, none⟩) ts.length c0, .int .i64 (a : Int)]) rfl in_59 rfl rfl rfl ?_
        refine (innerb_ (hN.move (fun k hk => (O26.old).block k (hD k hk))) (fun k hk => Nat.lt_of_lt_of_le (hD k hk) (O26.old).size) (show innerB ts (a : Int) = true from c27)).mono ?_
        rintro _ w28 ⟨rfl, hb29⟩
        have O30 : Own Z0 W w28 [.blk g8 3 #[.int .i64 (k : Int)], .blk g2 23 #[.slice (some ⟨b, o, none⟩) ts.length c0]] := O26.below hb29
        refine ⟨_, rfl, O30, ?_⟩
        refine wt1 (v := .bool false) rfl (fun ρ e W => ex_lnot (b := true) (e _ _ rfl)) rfl rfl ?_
        refine wt1 (v := .bool false) rfl (fun ρ e W => ex_pick0 (e _ _ rfl) (e _ _ rfl)) rfl rfl ?_
        refine wt_nil ?_
        refine xw_next K15 ?_
        refine cw_false rfl ?_
        refine cw_skip ?_
        refine xw_next K14 ?_
        refine cw_seq (fun FK31 K31 => ?_)
        refine cw_region ?_
        refine wl_val (v := .slice (some ⟨b, o, none⟩) ts.length c0) (fun ρ e => ex_load1 ty23 (e _ _ rfl) (O30.cell 1 0 rfl rfl)) rfl rfl ?_
        refine wl_val (v := .int .i64 (k : Int)) (fun ρ e => ex_load1 ty3 (e _ _ rfl) (O30.cell 0 0 rfl rfl)) rfl rfl ?_
        refine wl_val (v := .pointer (some ⟨b, o + k * 3, none⟩)) (fun ρ e => ex_idx (q := o + k * 3) (i := k) el23 (e _ _ rfl) (e _ _ rfl) (by omega) (by omega)) rfl rfl ?_
        refine wl_val (v := .pointer (some ⟨b, o + k * 3, none⟩)) (fun ρ e => ex_field (q := o + k * 3) fi38_0 (e _ _ rfl) rfl) rfl rfl ?_
        refine wl_val (v := .int .i64 (a : Int)) (fun ρ e => ex_load1 ty3 (e _ _ rfl) (NodesD.c0 (hN.move (fun k hk => (O30.old).block k (hD k hk))) hx)) rfl rfl ?_
        obtain ⟨g32, w33, r34, O35, hg36, hs37⟩ := own_alloc O30 3 ze3 rfl
        refine wl_val (v := .pointer (some ⟨g32, 0, none⟩)) (fun ρ e => r34 ρ _ _ _ _ _) rfl rfl ?_
        obtain ⟨w38, r39, O40, hs41⟩ := own_put (o := 0) (n := 1) O35 ty3 (.int .i64 (a : Int)) [.int .i64 (a : Int)] (cs' := #[.int .i64 (a : Int)]) rfl rfl rfl (Nat.le_of_ble_eq_true rfl) rfl
        refine wl_none (fun ρ e => r39 ρ _ _ _ _ _ _ (e _ _ rfl) (e _ _ rfl)) rfl ?_
        refine wl_nil ?_
        refine xw_next K31 ?_
        refine cw_seq (fun FK42 K42 => ?_)
        refine cw_region ?_
        refine wl_val (v := .slice (some ⟨b, o, none⟩) ts.length c0) (fun ρ e => ex_load1 ty23 (e _ _ rfl) (O40.cell 2 0 rfl rfl)) rfl rfl ?_
        refine wl_val (v := .int .i64 (k : Int)) (fun ρ e => ex_load1 ty3 (e _ _ rfl) (O40.cell 1 0 rfl rfl)) rfl rfl ?_
        refine wl_val (v := .pointer (some ⟨b, o + k * 3, none⟩)) (fun ρ e => ex_idx (q := o + k * 3) (i := k) el23 (e _ _ rfl) (e _ _ rfl) (by omega) (by omega)) rfl rfl ?_
        refine wl_val (v := .agg #[.int .i64 (a : Int), .int .i64 (b2 : Int), .int .i64 0]) (fun ρ e => ex_loadN (vs := [.int .i64 (a : Int), .int .i64 (b2 : Int), .int .i64 0]) ty38 (e _ _ rfl) rfl (cells3 (NodesD.c0 (hN.move (fun k hk => (O40.old).block k (hD k hk))) hx) (NodesD.c1 (hN.move (fun k hk => (O40.old).block k (hD k hk))) hx) (NodesD.c2 (hN.move (fun k hk => (O40.old).block k (hD k hk))) hx))) rfl rfl ?_
        obtain ⟨g43, w44, r45, O46, hg47, hs48⟩ := own_alloc O40 38 ze38 rfl
        refine wl_val (v := .pointer (some ⟨g43, 0, none⟩)) (fun ρ e => r45 ρ _ _ _ _ _) rfl rfl ?_
        obtain ⟨w49, r50, O51, hs52⟩ := own_put (o := 0) (n := 3) O46 ty38 (.agg #[.int .i64 (a : Int), .int .i64 (b2 : Int), .int .i64 0]) [.int .i64 (a : Int), .int .i64 (b2 : Int), .int .i64 0] (cs' := #[.int .i64 (a : Int), .int .i64 (b2 : Int), .int .i64 0]) rfl rfl rfl (Nat.le_of_ble_eq_true rfl) rfl
        refine wl_none (fun ρ e => r50 ρ _ _ _ _ _ _ (e _ _ rfl) (e _ _ rfl)) rfl ?_
        refine wl_nil ?_
        refine xw_next K42 ?_
        refine cw_seq (fun FK53 K53 => ?_)
        refine cw_region ?_
        refine wl_val (v := .slice (some ⟨b, o, none⟩) ts.length c0) (fun ρ e => ex_load1 ty23 (e _ _ rfl) (O51.cell 3 0 rfl rfl)) rfl rfl ?_
        refine wl_val (v := .func (.func 61) #[] #[.pointer (some ⟨g8, 0, none⟩), .pointer (some ⟨g2, 0, none⟩), .pointer (some ⟨g32, 0, none⟩), .pointer (some ⟨g43, 0, none⟩)]) (fun ρ e => ex_func (us := []) (vs := [.pointer (some ⟨g8, 0, none⟩), .pointer (some ⟨g2, 0, none⟩), .pointer (some ⟨g32, 0, none⟩), .pointer (some ⟨g43, 0, none⟩)]) (e.list rfl) (e.list rfl)) rfl rfl ?_
        refine wl_call (args := [.slice (some ⟨b, o, none⟩) ts.length c0, .func (.func 61) #[] #[.pointer (some ⟨g8, 0, none⟩), .pointer (some ⟨g2, 0, none⟩), .pointer (some ⟨g32, 0, none⟩), .pointer (some ⟨g43, 0, none⟩)]]) in_60 rfl rfl rfl ?_
        have hpx := pxr_holds (ac := g8) (tc := g2) (lc := g32) (xc := g43) (O51.blk 2 rfl) (O51.blk 3 rfl) (O51.blk 1 rfl) (O51.blk 0 rfl) (hN.move (fun k hk => (O51.old).block k (hD k hk))) (fun k hk => Nat.lt_of_lt_of_le (hD k hk) (O51.old).size)
        obtain ⟨⟨vs, hAt⟩, hsz⟩ := mvR hV hx hlow
        refine (postorder_ (f := fR k a p q b2) (caps := [.pointer (some ⟨g8, 0, none⟩), .pointer (some ⟨g2, 0, none⟩), .pointer (some ⟨g32, 0, none⟩), .pointer (some ⟨g43, 0, none⟩)]) in_61 (fun i a b a' b' _ hf W hW => chr_ hf hlow hW.1.2.2.2.2 hW.2 hW.1.1 hW.1.2.1 hW.1.2.2.1 hW.1.2.2.2.1) hAt (by omega) hpos hle (hN.move (fun k hk => (O51.old).block k (hD k hk))) (fun k hk => Nat.lt_of_lt_of_le (hD k hk) (O51.old).size) hpx).mono ?_
        rintro _ w56 ⟨A54, c55, rfl, h57⟩
        have O58 := O51.join1 h57 trivial
        refine ⟨_, rfl, ?_⟩
        refine wl_val (v := .slice A54 (Tr.size (chT ts 1 k ts.length (ts.length - 1))) c55) (fun ρ e => ex_assign (e _ _ rfl)) rfl rfl ?_
        refine wl_val (v := .int .i64 0) (fun ρ e => ex_assign (e _ _ rfl)) rfl rfl ?_
        refine wl_nil ?_
        refine xw_next K53 ?_
        refine cw_ret ?_
        refine xw_ret (v := .tuple #[.slice A54 (Tr.size (chT ts 1 k ts.length (ts.length - 1))) c55, .int .i64 0]) (fun T hT => res2 rfl T _ (hT 4 _ rfl) (hT 5 _ rfl)) ?_
        have hcan : canB ts 1 (k : Int) = true := by unfold canB; rw [hok, c23, child_at hx]; simpa using c27
        rw [mov_yes hcan]
        simp only [post_len]
        exact ⟨A54, c55, rfl, (O58.re [0] rfl : Own Z0 W w56 [.row (.slice A54 (Tr.size (chT ts 1 k ts.length (ts.length - 1))) c55) 38 3 (Tr.size (chT ts 1 k ts.length (ts.length - 1))) (ncells (post (chT ts 1 k ts.length (ts.length - 1)) 0))])⟩
      · skip
        refine wt2_call (args := [.slice (some ⟨b, o, none⟩) ts.length c0, .int .i64 (a : Int)]) rfl in_59 rfl rfl rfl ?_
        refine (innerb_ (hN.move (fun k hk => (O26.old).block k (hD k hk))) (fun k hk => Nat.lt_of_lt_of_le (hD k hk) (O26.old).size) (show innerB ts (a : Int) = false from Bool.eq_false_iff.2 c27)).mono ?_
        rintro _ w59 ⟨rfl, hb60⟩
        have O61 : Own Z0 W w59 [.blk g8 3 #[.int .i64 (k : Int)], .blk g2 23 #[.slice (some ⟨b, o, none⟩) ts.length c0]] := O26.below hb60
        refine ⟨_, rfl, O61, ?_⟩
        refine wt1 (v := .bool true) rfl (fun ρ e W => ex_lnot (b := false) (e _ _ rfl)) rfl rfl ?_
        refine wt1 (v := .bool true) rfl (fun ρ e W => ex_pick0 (e _ _ rfl) (e _ _ rfl)) rfl rfl ?_
        refine wt_nil ?_
        refine xw_next K15 ?_
        refine cw_true rfl ?_
        refine cw_seq (fun FK62 K62 => ?_)
        refine cw_region ?_
        refine wl_val (v := .slice none 0 0) (fun ρ e => ex_assign (e _ _ rfl)) rfl rfl ?_
        refine wl_val (v := .int .i64 1) (fun ρ e => ex_assign (e _ _ rfl)) rfl rfl ?_
        refine wl_nil ?_
        refine xw_next K62 ?_
        refine cw_ret ?_
        refine xw_past (by intro h; cases h) ?_
        refine xw_ret (v := .tuple #[.slice none 0 0, .int .i64 1]) (fun T hT => res2 rfl T _ (hT 4 _ rfl) (hT 5 _ rfl)) ?_
        have hcan : canB ts 1 (k : Int) = false := by unfold canB; rw [child_at hx, Bool.and_eq_false_iff]; right; simpa using c27
        rw [mov_no hcan]
        have O63 := O61.nilrow 38 3
        exact ⟨none, 0, rfl, O63.re [0] rfl⟩
    · skip
      refine wt2_call (args := [.slice (some ⟨b, o, none⟩) ts.length c0, .int .i64 at_]) rfl in_59 rfl rfl rfl ?_
      refine (innerb_ (hN.move (fun k hk => (O19.old).block k (hD k hk))) (fun k hk => Nat.lt_of_lt_of_le (hD k hk) (O19.old).size) (show innerB ts at_ = false from Bool.eq_false_iff.2 c23)).mono ?_
      rintro _ w64 ⟨rfl, hb65⟩
      have O66 : Own Z0 W w64 [.blk g8 3 #[.int .i64 at_], .blk g2 23 #[.slice (some ⟨b, o, none⟩) ts.length c0]] := O19.below hb65
      refine ⟨_, rfl, O66, ?_⟩
      refine wt1 (v := .bool true) rfl (fun ρ e W => ex_lnot (b := false) (e _ _ rfl)) rfl rfl ?_
      refine wt1 (v := .bool true) rfl (fun ρ e W => ex_pick0 (e _ _ rfl) (e _ _ rfl)) rfl rfl ?_
      refine wt1 (v := .bool true) rfl (fun ρ e W => ex_move (e _ _ rfl)) rfl rfl ?_
      refine wt0_skip rfl rfl rfl ?_
      refine wt0_skip rfl rfl rfl ?_
      refine wt0_skip rfl rfl rfl ?_
      refine wt1_skip rfl rfl rfl ?_
      refine wt1_skip rfl rfl rfl ?_
      refine wt0_skip rfl rfl rfl ?_
      refine wt2_skip rfl rfl rfl O66 ?_
      refine wt1_skip rfl rfl rfl ?_
      refine wt1 (v := .bool true) rfl (fun ρ e W => ex_pick1 (e _ _ rfl) (e _ _ rfl)) rfl rfl ?_
      refine wt_nil ?_
      refine xw_next K15 ?_
      refine cw_true rfl ?_
      refine cw_seq (fun FK67 K67 => ?_)
      refine cw_region ?_
      refine wl_val (v := .slice none 0 0) (fun ρ e => ex_assign (e _ _ rfl)) rfl rfl ?_
      refine wl_val (v := .int .i64 1) (fun ρ e => ex_assign (e _ _ rfl)) rfl rfl ?_
      refine wl_nil ?_
      refine xw_next K67 ?_
      refine cw_ret ?_
      refine xw_past (by intro h; cases h) ?_
      refine xw_ret (v := .tuple #[.slice none 0 0, .int .i64 1]) (fun T hT => res2 rfl T _ (hT 4 _ rfl) (hT 5 _ rfl)) ?_
      have hcan : canB ts 1 at_ = false := by unfold canB; rw [Bool.eq_false_iff.2 c23]; simp
      rw [mov_no hcan]
      have O68 := O66.nilrow 38 3
      exact ⟨none, 0, rfl, O68.re [0] rfl⟩
theorem rotl_ {W : World} {D : Nat → Prop} {V : Value} {ts : List VN} (hN : NodesD D W V ts) (hD : ∀ k, D k → k < W.heap.size) (at_ : Int) :
    Calls Tryd.prog 33 #[V, .int .i64 at_] W fun e w' => ∃ A' c', e = .returned (.tuple #[.slice A' (movOf ts 2 at_).1.length c', .int .i64 (movOf ts 2 at_).2]) ∧ Own Z0 W w' [.row (.slice A' (movOf ts 2 at_).1.length c') 38 3 (movOf ts 2 at_).1.length (ncells (movOf ts 2 at_).1)] := by
  obtain ⟨A, c0, rfl⟩ := hN.slice
  have O0 : Own Z0 W W [] := Own.start W
  refine sx_enter (args := [.slice A ts.length c0, .int .i64 at_]) Tryd.func33 rfl rfl (by simp) ?_
  refine cw_seq (fun FK1 K1 => ?_)
  refine cw_region ?_
  obtain ⟨g2, w3, r4, O5, hg6, hs7⟩ := own_box O0 23 (.slice A ts.length c0) rfl
  refine wl_val (v := .pointer (some ⟨g2, 0, none⟩)) (fun ρ e => r4 ρ _ _ _ _ _ _ (e _ _ rfl)) rfl rfl ?_
  obtain ⟨g8, w9, r10, O11, hg12, hs13⟩ := own_box O5 3 (.int .i64 at_) rfl
  refine wl_val (v := .pointer (some ⟨g8, 0, none⟩)) (fun ρ e => r10 ρ _ _ _ _ _ _ (e _ _ rfl)) rfl rfl ?_
  refine wl_val (v := .slice none 0 0) (fun ρ e => ex_assign (e _ _ rfl)) rfl rfl ?_
  refine wl_val (v := .int .i64 0) (fun ρ e => ex_assign (e _ _ rfl)) rfl rfl ?_
  refine wl_nil ?_
  refine xw_next K1 ?_
  refine cw_seq (fun FK14 K14 => ?_)
  refine cw_seq (fun FK15 K15 => ?_)
  refine cw_drawn (fun X => Own Z0 W X [.blk g8 3 #[.int .i64 at_], .blk g2 23 #[.slice A ts.length c0]]) 19 [(0, 0), (1, 2), (2, 1), (3, 1), (4, 0), (5, 0), (6, 2), (7, 1), (8, 1), (9, 1), (10, 0), (11, 0), (12, 0), (13, 1), (14, 1), (15, 0), (16, 2), (17, 1), (18, 1)] (by kernel_rfl) (by kernel_rfl) (PQ.then_ (PQ.then_ PQ.body)) (O11).drew ?_
  have O16 : Own Z0 W w9.drew [.blk g8 3 #[.int .i64 at_], .blk g2 23 #[.slice A ts.length c0]] := O11.drew
  refine wt0 (v := .slice A ts.length c0) rfl (fun ρ e W hW => ex_load1 ty23 (e _ _ rfl) (hW.cell 1 0 rfl rfl)) rfl rfl ?_
  refine wt2_call (args := [.slice A ts.length c0]) rfl in_23 rfl rfl rfl ?_
  refine (check_ (hN.move (fun k hk => (O16.old).block k (hD k hk))) (fun k hk => Nat.lt_of_lt_of_le (hD k hk) (O16.old).size)).mono ?_
  rintro _ w17 ⟨rfl, hb18⟩
  have O19 : Own Z0 W w17 [.blk g8 3 #[.int .i64 at_], .blk g2 23 #[.slice A ts.length c0]] := O16.below hb18
  refine ⟨_, rfl, O19, ?_⟩
  by_cases c20 : (chkV ts) ≠ 0
  · skip
    refine wt1 (v := .bool true) rfl (fun ρ e W => ex_cmp (u := (chkV ts)) (v := 0) (e _ _ rfl) (e _ _ rfl) (neq1 (by omega))) rfl rfl ?_
    refine wt1 (v := .bool true) rfl (fun ρ e W => ex_move (e _ _ rfl)) rfl rfl ?_
    refine wt0_skip rfl rfl rfl ?_
    refine wt0_skip rfl rfl rfl ?_
    refine wt2_skip rfl rfl rfl O19 ?_
    refine wt1_skip rfl rfl rfl ?_
    refine wt1 (v := .bool true) rfl (fun ρ e W => ex_pick1 (e _ _ rfl) (e _ _ rfl)) rfl rfl ?_
    refine wt1 (v := .bool true) rfl (fun ρ e W => ex_move (e _ _ rfl)) rfl rfl ?_
    refine wt0_skip rfl rfl rfl ?_
    refine wt0_skip rfl rfl rfl ?_
    refine wt0_skip rfl rfl rfl ?_
    refine wt1_skip rfl rfl rfl ?_
    refine wt1_skip rfl rfl rfl ?_
    refine wt0_skip rfl rfl rfl ?_
    refine wt2_skip rfl rfl rfl O19 ?_
    refine wt1_skip rfl rfl rfl ?_
    refine wt1 (v := .bool true) rfl (fun ρ e W => ex_pick1 (e _ _ rfl) (e _ _ rfl)) rfl rfl ?_
    refine wt_nil ?_
    refine xw_next K15 ?_
    refine cw_true rfl ?_
    refine cw_seq (fun FK21 K21 => ?_)
    refine cw_region ?_
    refine wl_val (v := .slice none 0 0) (fun ρ e => ex_assign (e _ _ rfl)) rfl rfl ?_
    refine wl_val (v := .int .i64 1) (fun ρ e => ex_assign (e _ _ rfl)) rfl rfl ?_
    refine wl_nil ?_
    refine xw_next K21 ?_
    refine cw_ret ?_
    refine xw_past (by intro h; cases h) ?_
    refine xw_ret (v := .tuple #[.slice none 0 0, .int .i64 1]) (fun T hT => res2 rfl T _ (hT 4 _ rfl) (hT 5 _ rfl)) ?_
    have hcan : canB ts 2 at_ = false := by unfold canB; rw [chk_no c20]; rfl
    rw [mov_no hcan]
    have O22 := O19.nilrow 38 3
    exact ⟨none, 0, rfl, O22.re [0] rfl⟩
  · skip
    have hok : okT ts = true := chk_ok (by omega)
    have hV := okT_val hok
    have hpos := hV.pos
    have hle := hV.le
    obtain ⟨b, o, c', hv, hDb⟩ := hN.form hpos
    injection hv with hA _ hc
    subst hA hc
    refine wt1 (v := .bool false) rfl (fun ρ e W => ex_cmp (u := (chkV ts)) (v := 0) (e _ _ rfl) (e _ _ rfl) (neq0 (by omega))) rfl rfl ?_
    refine wt1 (v := .bool false) rfl (fun ρ e W => ex_move (e _ _ rfl)) rfl rfl ?_
    refine wt0 (v := .slice (some ⟨b, o, none⟩) ts.length c0) rfl (fun ρ e W hW => ex_load1 ty23 (e _ _ rfl) (hW.cell 1 0 rfl rfl)) rfl rfl ?_
    refine wt0 (v := .int .i64 at_) rfl (fun ρ e W hW => ex_load1 ty3 (e _ _ rfl) (hW.cell 0 0 rfl rfl)) rfl rfl ?_
    by_cases c23 : (innerB ts at_) = true
    · skip
      obtain ⟨k, a, b2, rfl, hx⟩ := inner_get hV c23
      have hkl := hV.in_ hx
      refine wt2_call (args := [.slice (some ⟨b, o, none⟩) ts.length c0, .int .i64 (k : Int)]) rfl in_59 rfl rfl rfl ?_
      refine (innerb_ (hN.move (fun k hk => (O19.old).block k (hD k hk))) (fun k hk => Nat.lt_of_lt_of_le (hD k hk) (O19.old).size) (show innerB ts (k : Int) = true from c23)).mono ?_
      rintro _ w24 ⟨rfl, hb25⟩
      have O26 : Own Z0 W w24 [.blk g8 3 #[.int .i64 (k : Int)], .blk g2 23 #[.slice (some ⟨b, o, none⟩) ts.length c0]] := O19.below hb25
      refine ⟨_, rfl, O26, ?_⟩
      refine wt1 (v := .bool false) rfl (fun ρ e W => ex_lnot (b := true) (e _ _ rfl)) rfl rfl ?_
      refine wt1 (v := .bool false) rfl (fun ρ e W => ex_pick0 (e _ _ rfl) (e _ _ rfl)) rfl rfl ?_
      refine wt1 (v := .bool false) rfl (fun ρ e W => ex_move (e _ _ rfl)) rfl rfl ?_
      refine wt0 (v := .slice (some ⟨b, o, none⟩) ts.length c0) rfl (fun ρ e W hW => ex_load1 ty23 (e _ _ rfl) (hW.cell 1 0 rfl rfl)) rfl rfl ?_
      refine wt0 (v := .slice (some ⟨b, o, none⟩) ts.length c0) rfl (fun ρ e W hW => ex_load1 ty23 (e _ _ rfl) (hW.cell 1 0 rfl rfl)) rfl rfl ?_
      refine wt0 (v := .int .i64 (k : Int)) rfl (fun ρ e W hW => ex_load1 ty3 (e _ _ rfl) (hW.cell 0 0 rfl rfl)) rfl rfl ?_
      refine wt1 (v := .pointer (some ⟨b, o + k * 3, none⟩)) rfl (fun ρ e W => ex_idx (q := o + k * 3) (i := k) el23 (e _ _ rfl) (e _ _ rfl) (by omega) (by omega)) rfl rfl ?_
      refine wt1 (v := .pointer (some ⟨b, o + k * 3 + 1, none⟩)) rfl (fun ρ e W => ex_field (q := o + k * 3 + 1) fi38_1 (e _ _ rfl) rfl) rfl rfl ?_
      refine wt0 (v := .int .i64 (b2 : Int)) rfl (fun ρ e W hW => ex_load1 ty3 (e _ _ rfl) (NodesD.c1 (hN.move (fun k hk => (hW.old).block k (hD k hk))) hx)) rfl rfl ?_
      by_cases c27 : (innerB ts (b2 : Int)) = true
      · skip
        obtain ⟨p, q, hlow⟩ := inner_nat hV c27
        refine wt2_call (args := [.slice (some ⟨b, o, none⟩) ts.length c0, .int .i64 (b2 : Int)]) rfl in_59 rfl rfl rfl ?_
        refine (innerb_ (hN.move (fun k hk => (O26.old).block k (hD k hk))) (fun k hk => Nat.lt_of_lt_of_le (hD k hk) (O26.old).size) (show innerB ts (b2 : Int) = true from c27)).mono ?_
        rintro _ w28 ⟨rfl, hb29⟩
        have O30 : Own Z0 W w28 [.blk g8 3 #[.int .i64 (k : Int)], .blk g2 23 #[.slice (some ⟨b, o, none⟩) ts.length c0]] := O26.below hb29
        refine ⟨_, rfl, O30, ?_⟩
        refine wt1 (v := .bool false) rfl (fun ρ e W => ex_lnot (b := true) (e _ _ rfl)) rfl rfl ?_
        refine wt1 (v := .bool false) rfl (fun ρ e W => ex_pick0 (e _ _ rfl) (e _ _ rfl)) rfl rfl ?_
        refine wt_nil ?_
        refine xw_next K15 ?_
        refine cw_false rfl ?_
        refine cw_skip ?_
        refine xw_next K14 ?_
        refine cw_seq (fun FK31 K31 => ?_)
        refine cw_region ?_
        refine wl_val (v := .slice (some ⟨b, o, none⟩) ts.length c0) (fun ρ e => ex_load1 ty23 (e _ _ rfl) (O30.cell 1 0 rfl rfl)) rfl rfl ?_
        refine wl_val (v := .int .i64 (k : Int)) (fun ρ e => ex_load1 ty3 (e _ _ rfl) (O30.cell 0 0 rfl rfl)) rfl rfl ?_
        refine wl_val (v := .pointer (some ⟨b, o + k * 3, none⟩)) (fun ρ e => ex_idx (q := o + k * 3) (i := k) el23 (e _ _ rfl) (e _ _ rfl) (by omega) (by omega)) rfl rfl ?_
        refine wl_val (v := .pointer (some ⟨b, o + k * 3 + 1, none⟩)) (fun ρ e => ex_field (q := o + k * 3 + 1) fi38_1 (e _ _ rfl) rfl) rfl rfl ?_
        refine wl_val (v := .int .i64 (b2 : Int)) (fun ρ e => ex_load1 ty3 (e _ _ rfl) (NodesD.c1 (hN.move (fun k hk => (O30.old).block k (hD k hk))) hx)) rfl rfl ?_
        obtain ⟨g32, w33, r34, O35, hg36, hs37⟩ := own_alloc O30 3 ze3 rfl
        refine wl_val (v := .pointer (some ⟨g32, 0, none⟩)) (fun ρ e => r34 ρ _ _ _ _ _) rfl rfl ?_
        obtain ⟨w38, r39, O40, hs41⟩ := own_put (o := 0) (n := 1) O35 ty3 (.int .i64 (b2 : Int)) [.int .i64 (b2 : Int)] (cs' := #[.int .i64 (b2 : Int)]) rfl rfl rfl (Nat.le_of_ble_eq_true rfl) rfl
        refine wl_none (fun ρ e => r39 ρ _ _ _ _ _ _ (e _ _ rfl) (e _ _ rfl)) rfl ?_
        refine wl_nil ?_
        refine xw_next K31 ?_
        refine cw_seq (fun FK42 K42 => ?_)
        refine cw_region ?_
        refine wl_val (v := .slice (some ⟨b, o, none⟩) ts.length c0) (fun ρ e => ex_load1 ty23 (e _ _ rfl) (O40.cell 2 0 rfl rfl)) rfl rfl ?_
        refine wl_val (v := .int .i64 (k : Int)) (fun ρ e => ex_load1 ty3 (e _ _ rfl) (O40.cell 1 0 rfl rfl)) rfl rfl ?_
        refine wl_val (v := .pointer (some ⟨b, o + k * 3, none⟩)) (fun ρ e => ex_idx (q := o + k * 3) (i := k) el23 (e _ _ rfl) (e _ _ rfl) (by omega) (by omega)) rfl rfl ?_
        refine wl_val (v := .agg #[.int .i64 (a : Int), .int .i64 (b2 : Int), .int .i64 0]) (fun ρ e => ex_loadN (vs := [.int .i64 (a : Int), .int .i64 (b2 : Int), .int .i64 0]) ty38 (e _ _ rfl) rfl (cells3 (NodesD.c0 (hN.move (fun k hk => (O40.old).block k (hD k hk))) hx) (NodesD.c1 (hN.move (fun k hk => (O40.old).block k (hD k hk))) hx) (NodesD.c2 (hN.move (fun k hk => (O40.old).block k (hD k hk))) hx))) rfl rfl ?_
        obtain ⟨g43, w44, r45, O46, hg47, hs48⟩ := own_alloc O40 38 ze38 rfl
        refine wl_val (v := .pointer (some ⟨g43, 0, none⟩)) (fun ρ e => r45 ρ _ _ _ _ _) rfl rfl ?_
        obtain ⟨w49, r50, O51, hs52⟩ := own_put (o := 0) (n := 3) O46 ty38 (.agg #[.int .i64 (a : Int), .int .i64 (b2 : Int), .int .i64 0]) [.int .i64 (a : Int), .int .i64 (b2 : Int), .int .i64 0] (cs' := #[.int .i64 (a : Int), .int .i64 (b2 : Int), .int .i64 0]) rfl rfl rfl (Nat.le_of_ble_eq_true rfl) rfl
        refine wl_none (fun ρ e => r50 ρ _ _ _ _ _ _ (e _ _ rfl) (e _ _ rfl)) rfl ?_
        refine wl_nil ?_
        refine xw_next K42 ?_
        refine cw_seq (fun FK53 K53 => ?_)
        refine cw_region ?_
        refine wl_val (v := .slice (some ⟨b, o, none⟩) ts.length c0) (fun ρ e => ex_load1 ty23 (e _ _ rfl) (O51.cell 3 0 rfl rfl)) rfl rfl ?_
        refine wl_val (v := .func (.func 62) #[] #[.pointer (some ⟨g8, 0, none⟩), .pointer (some ⟨g32, 0, none⟩), .pointer (some ⟨g2, 0, none⟩), .pointer (some ⟨g43, 0, none⟩)]) (fun ρ e => ex_func (us := []) (vs := [.pointer (some ⟨g8, 0, none⟩), .pointer (some ⟨g32, 0, none⟩), .pointer (some ⟨g2, 0, none⟩), .pointer (some ⟨g43, 0, none⟩)]) (e.list rfl) (e.list rfl)) rfl rfl ?_
        refine wl_call (args := [.slice (some ⟨b, o, none⟩) ts.length c0, .func (.func 62) #[] #[.pointer (some ⟨g8, 0, none⟩), .pointer (some ⟨g32, 0, none⟩), .pointer (some ⟨g2, 0, none⟩), .pointer (some ⟨g43, 0, none⟩)]]) in_60 rfl rfl rfl ?_
        have hpx := pxr_holds (ac := g8) (tc := g2) (lc := g32) (xc := g43) (O51.blk 2 rfl) (O51.blk 3 rfl) (O51.blk 1 rfl) (O51.blk 0 rfl) (hN.move (fun k hk => (O51.old).block k (hD k hk))) (fun k hk => Nat.lt_of_lt_of_le (hD k hk) (O51.old).size)
        obtain ⟨⟨vs, hAt⟩, hsz⟩ := mvL hV hx hlow
        refine (postorder_ (f := fL k b2 p q a) (caps := [.pointer (some ⟨g8, 0, none⟩), .pointer (some ⟨g32, 0, none⟩), .pointer (some ⟨g2, 0, none⟩), .pointer (some ⟨g43, 0, none⟩)]) in_62 (fun i a b a' b' _ hf W hW => chl_ hf hlow hW.1.2.2.2.2 hW.2 hW.1.1 hW.1.2.2.1 hW.1.2.1 hW.1.2.2.2.1) hAt (by omega) hpos hle (hN.move (fun k hk => (O51.old).block k (hD k hk))) (fun k hk => Nat.lt_of_lt_of_le (hD k hk) (O51.old).size) hpx).mono ?_
        rintro _ w56 ⟨A54, c55, rfl, h57⟩
        have O58 := O51.join1 h57 trivial
        refine ⟨_, rfl, ?_⟩
        refine wl_val (v := .slice A54 (Tr.size (chT ts 2 k ts.length (ts.length - 1))) c55) (fun ρ e => ex_assign (e _ _ rfl)) rfl rfl ?_
        refine wl_val (v := .int .i64 0) (fun ρ e => ex_assign (e _ _ rfl)) rfl rfl ?_
        refine wl_nil ?_
        refine xw_next K53 ?_
        refine cw_ret ?_
        refine xw_ret (v := .tuple #[.slice A54 (Tr.size (chT ts 2 k ts.length (ts.length - 1))) c55, .int .i64 0]) (fun T hT => res2 rfl T _ (hT 4 _ rfl) (hT 5 _ rfl)) ?_
        have hcan : canB ts 2 (k : Int) = true := by unfold canB; rw [hok, c23, child_at hx]; simpa using c27
        rw [mov_yes hcan]
        simp only [post_len]
        exact ⟨A54, c55, rfl, (O58.re [0] rfl : Own Z0 W w56 [.row (.slice A54 (Tr.size (chT ts 2 k ts.length (ts.length - 1))) c55) 38 3 (Tr.size (chT ts 2 k ts.length (ts.length - 1))) (ncells (post (chT ts 2 k ts.length (ts.length - 1)) 0))])⟩
      · skip
        refine wt2_call (args := [.slice (some ⟨b, o, none⟩) ts.length c0, .int .i64 (b2 : Int)]) rfl in_59 rfl rfl rfl ?_
        refine (innerb_ (hN.move (fun k hk => (O26.old).block k (hD k hk))) (fun k hk => Nat.lt_of_lt_of_le (hD k hk) (O26.old).size) (show innerB ts (b2 : Int) = false from Bool.eq_false_iff.2 c27)).mono ?_
        rintro _ w59 ⟨rfl, hb60⟩
        have O61 : Own Z0 W w59 [.blk g8 3 #[.int .i64 (k : Int)], .blk g2 23 #[.slice (some ⟨b, o, none⟩) ts.length c0]] := O26.below hb60
        refine ⟨_, rfl, O61, ?_⟩
        refine wt1 (v := .bool true) rfl (fun ρ e W => ex_lnot (b := false) (e _ _ rfl)) rfl rfl ?_
        refine wt1 (v := .bool true) rfl (fun ρ e W => ex_pick0 (e _ _ rfl) (e _ _ rfl)) rfl rfl ?_
        refine wt_nil ?_
        refine xw_next K15 ?_
        refine cw_true rfl ?_
        refine cw_seq (fun FK62 K62 => ?_)
        refine cw_region ?_
        refine wl_val (v := .slice none 0 0) (fun ρ e => ex_assign (e _ _ rfl)) rfl rfl ?_
        refine wl_val (v := .int .i64 1) (fun ρ e => ex_assign (e _ _ rfl)) rfl rfl ?_
        refine wl_nil ?_
        refine xw_next K62 ?_
        refine cw_ret ?_
        refine xw_past (by intro h; cases h) ?_
        refine xw_ret (v := .tuple #[.slice none 0 0, .int .i64 1]) (fun T hT => res2 rfl T _ (hT 4 _ rfl) (hT 5 _ rfl)) ?_
        have hcan : canB ts 2 (k : Int) = false := by unfold canB; rw [child_at hx, Bool.and_eq_false_iff]; right; simpa using c27
        rw [mov_no hcan]
        have O63 := O61.nilrow 38 3
        exact ⟨none, 0, rfl, O63.re [0] rfl⟩
    · skip
      refine wt2_call (args := [.slice (some ⟨b, o, none⟩) ts.length c0, .int .i64 at_]) rfl in_59 rfl rfl rfl ?_
      refine (innerb_ (hN.move (fun k hk => (O19.old).block k (hD k hk))) (fun k hk => Nat.lt_of_lt_of_le (hD k hk) (O19.old).size) (show innerB ts at_ = false from Bool.eq_false_iff.2 c23)).mono ?_
      rintro _ w64 ⟨rfl, hb65⟩
      have O66 : Own Z0 W w64 [.blk g8 3 #[.int .i64 at_], .blk g2 23 #[.slice (some ⟨b, o, none⟩) ts.length c0]] := O19.below hb65
      refine ⟨_, rfl, O66, ?_⟩
      refine wt1 (v := .bool true) rfl (fun ρ e W => ex_lnot (b := false) (e _ _ rfl)) rfl rfl ?_
      refine wt1 (v := .bool true) rfl (fun ρ e W => ex_pick0 (e _ _ rfl) (e _ _ rfl)) rfl rfl ?_
      refine wt1 (v := .bool true) rfl (fun ρ e W => ex_move (e _ _ rfl)) rfl rfl ?_
      refine wt0_skip rfl rfl rfl ?_
      refine wt0_skip rfl rfl rfl ?_
      refine wt0_skip rfl rfl rfl ?_
      refine wt1_skip rfl rfl rfl ?_
      refine wt1_skip rfl rfl rfl ?_
      refine wt0_skip rfl rfl rfl ?_
      refine wt2_skip rfl rfl rfl O66 ?_
      refine wt1_skip rfl rfl rfl ?_
      refine wt1 (v := .bool true) rfl (fun ρ e W => ex_pick1 (e _ _ rfl) (e _ _ rfl)) rfl rfl ?_
      refine wt_nil ?_
      refine xw_next K15 ?_
      refine cw_true rfl ?_
      refine cw_seq (fun FK67 K67 => ?_)
      refine cw_region ?_
      refine wl_val (v := .slice none 0 0) (fun ρ e => ex_assign (e _ _ rfl)) rfl rfl ?_
      refine wl_val (v := .int .i64 1) (fun ρ e => ex_assign (e _ _ rfl)) rfl rfl ?_
      refine wl_nil ?_
      refine xw_next K67 ?_
      refine cw_ret ?_
      refine xw_past (by intro h; cases h) ?_
      refine xw_ret (v := .tuple #[.slice none 0 0, .int .i64 1]) (fun T hT => res2 rfl T _ (hT 4 _ rfl) (hT 5 _ rfl)) ?_
      have hcan : canB ts 2 at_ = false := by unfold canB; rw [Bool.eq_false_iff.2 c23]; simp
      rw [mov_no hcan]
      have O68 := O66.nilrow 38 3
      exact ⟨none, 0, rfl, O68.re [0] rfl⟩
theorem swap_ {W : World} {D : Nat → Prop} {V : Value} {ts : List VN} (hN : NodesD D W V ts) (hD : ∀ k, D k → k < W.heap.size) (at_ : Int) :
    Calls Tryd.prog 34 #[V, .int .i64 at_] W fun e w' => ∃ A' c', e = .returned (.tuple #[.slice A' (movOf ts 3 at_).1.length c', .int .i64 (movOf ts 3 at_).2]) ∧ Own Z0 W w' [.row (.slice A' (movOf ts 3 at_).1.length c') 38 3 (movOf ts 3 at_).1.length (ncells (movOf ts 3 at_).1)] := by
  obtain ⟨A, c0, rfl⟩ := hN.slice
  have O0 : Own Z0 W W [] := Own.start W
  refine sx_enter (args := [.slice A ts.length c0, .int .i64 at_]) Tryd.func34 rfl rfl (by simp) ?_
  refine cw_seq (fun FK1 K1 => ?_)
  refine cw_region ?_
  obtain ⟨g2, w3, r4, O5, hg6, hs7⟩ := own_box O0 3 (.int .i64 at_) rfl
  refine wl_val (v := .pointer (some ⟨g2, 0, none⟩)) (fun ρ e => r4 ρ _ _ _ _ _ _ (e _ _ rfl)) rfl rfl ?_
  refine wl_val (v := .slice none 0 0) (fun ρ e => ex_assign (e _ _ rfl)) rfl rfl ?_
  refine wl_val (v := .int .i64 0) (fun ρ e => ex_assign (e _ _ rfl)) rfl rfl ?_
  refine wl_nil ?_
  refine xw_next K1 ?_
  refine cw_seq (fun FK8 K8 => ?_)
  refine cw_seq (fun FK9 K9 => ?_)
  refine cw_region ?_
  refine wl_val (v := .slice A ts.length c0) (fun ρ e => ex_move (e _ _ rfl)) rfl rfl ?_
  refine wl_call (args := [.slice A ts.length c0]) in_23 rfl rfl rfl ?_
  refine (check_ (hN.move (fun k hk => (O5.old).block k (hD k hk))) (fun k hk => Nat.lt_of_lt_of_le (hD k hk) (O5.old).size)).mono ?_
  rintro _ w10 ⟨rfl, hb11⟩
  have O12 : Own Z0 W w10 [.blk g2 3 #[.int .i64 at_]] := O5.below hb11
  refine ⟨_, rfl, ?_⟩
  by_cases c13 : (chkV ts) ≠ 0
  · skip
    refine wl_val (v := .bool true) (fun ρ e => ex_cmp (u := (chkV ts)) (v := 0) (e _ _ rfl) (e _ _ rfl) (neq1 (by omega))) rfl rfl ?_
    refine wl_val (v := .bool true) (fun ρ e => ex_move (e _ _ rfl)) rfl rfl ?_
    refine wl_skip rfl rfl ?_
    refine wl_skip rfl rfl ?_
    refine wl_skip rfl rfl ?_
    refine wl_skip rfl rfl ?_
    refine wl_val (v := .bool true) (fun ρ e => ex_pick1 (e _ _ rfl) (e _ _ rfl)) rfl rfl ?_
    refine wl_nil ?_
    refine xw_next K9 ?_
    refine cw_true rfl ?_
    refine cw_seq (fun FK14 K14 => ?_)
    refine cw_region ?_
    refine wl_val (v := .slice none 0 0) (fun ρ e => ex_assign (e _ _ rfl)) rfl rfl ?_
    refine wl_val (v := .int .i64 1) (fun ρ e => ex_assign (e _ _ rfl)) rfl rfl ?_
    refine wl_nil ?_
    refine xw_next K14 ?_
    refine cw_ret ?_
    refine xw_past (by intro h; cases h) ?_
    refine xw_ret (v := .tuple #[.slice none 0 0, .int .i64 1]) (fun T hT => res2 rfl T _ (hT 4 _ rfl) (hT 5 _ rfl)) ?_
    have hcan : canB ts 3 at_ = false := by unfold canB; rw [chk_no c13]; rfl
    rw [mov_no hcan]
    have O15 := O12.nilrow 38 3
    exact ⟨none, 0, rfl, O15.re [0] rfl⟩
  · skip
    have hok : okT ts = true := chk_ok (by omega)
    have hV := okT_val hok
    have hpos := hV.pos
    have hle := hV.le
    obtain ⟨b, o, c', hv, hDb⟩ := hN.form hpos
    injection hv with hA _ hc
    subst hA hc
    refine wl_val (v := .bool false) (fun ρ e => ex_cmp (u := (chkV ts)) (v := 0) (e _ _ rfl) (e _ _ rfl) (neq0 (by omega))) rfl rfl ?_
    refine wl_val (v := .bool false) (fun ρ e => ex_move (e _ _ rfl)) rfl rfl ?_
    refine wl_val (v := .slice (some ⟨b, o, none⟩) ts.length c0) (fun ρ e => ex_move (e _ _ rfl)) rfl rfl ?_
    refine wl_val (v := .int .i64 at_) (fun ρ e => ex_load1 ty3 (e _ _ rfl) (O12.cell 0 0 rfl rfl)) rfl rfl ?_
    by_cases c16 : (innerB ts at_) = true
    · skip
      obtain ⟨k, a, b2, rfl, hx⟩ := inner_get hV c16
      have hkl := hV.in_ hx
      refine wl_call (args := [.slice (some ⟨b, o, none⟩) ts.length c0, .int .i64 (k : Int)]) in_59 rfl rfl rfl ?_
      refine (innerb_ (hN.move (fun k hk => (O12.old).block k (hD k hk))) (fun k hk => Nat.lt_of_lt_of_le (hD k hk) (O12.old).size) (show innerB ts (k : Int) = true from c16)).mono ?_
      rintro _ w17 ⟨rfl, hb18⟩
      have O19 : Own Z0 W w17 [.blk g2 3 #[.int .i64 (k : Int)]] := O12.below hb18
      refine ⟨_, rfl, ?_⟩
      refine wl_val (v := .bool false) (fun ρ e => ex_lnot (b := true) (e _ _ rfl)) rfl rfl ?_
      refine wl_val (v := .bool false) (fun ρ e => ex_pick0 (e _ _ rfl) (e _ _ rfl)) rfl rfl ?_
      refine wl_nil ?_
      refine xw_next K9 ?_
      refine cw_false rfl ?_
      refine cw_skip ?_
      refine xw_next K8 ?_
      refine cw_seq (fun FK20 K20 => ?_)
      refine cw_region ?_
      refine wl_val (v := .slice (some ⟨b, o, none⟩) ts.length c0) (fun ρ e => ex_move (e _ _ rfl)) rfl rfl ?_
      refine wl_val (v := .func (.func 63) #[] #[.pointer (some ⟨g2, 0, none⟩)]) (fun ρ e => ex_func (us := []) (vs := [.pointer (some ⟨g2, 0, none⟩)]) (e.list rfl) (e.list rfl)) rfl rfl ?_
      refine wl_call (args := [.slice (some ⟨b, o, none⟩) ts.length c0, .func (.func 63) #[] #[.pointer (some ⟨g2, 0, none⟩)]]) in_60 rfl rfl rfl ?_
      have hpx : (En.ro (fun k => k = g2) (fun w => Blk w g2 3 #[.int .i64 (k : Int)])).holds w17 := ⟨(O19.blk 0 rfl), fun j hj => hj ▸ (O19.blk 0 rfl).lt, fun _ _ _ hk h => (hk _ rfl).trans h⟩
      obtain ⟨⟨vs, hAt⟩, hsz⟩ := mvS hV hx
      refine (postorder_ (f := fS k) (caps := [.pointer (some ⟨g2, 0, none⟩)]) in_63 (fun i a b a' b' _ hf W hW => chs_ hf hW) hAt (by omega) hpos hle (hN.move (fun k hk => (O19.old).block k (hD k hk))) (fun k hk => Nat.lt_of_lt_of_le (hD k hk) (O19.old).size) hpx).mono ?_
      rintro _ w23 ⟨A21, c22, rfl, h24⟩
      have O25 := O19.join1 h24 trivial
      refine ⟨_, rfl, ?_⟩
      refine wl_val (v := .slice A21 (Tr.size (chT ts 3 k ts.length (ts.length - 1))) c22) (fun ρ e => ex_assign (e _ _ rfl)) rfl rfl ?_
      refine wl_val (v := .int .i64 0) (fun ρ e => ex_assign (e _ _ rfl)) rfl rfl ?_
      refine wl_nil ?_
      refine xw_next K20 ?_
      refine cw_ret ?_
      refine xw_ret (v := .tuple #[.slice A21 (Tr.size (chT ts 3 k ts.length (ts.length - 1))) c22, .int .i64 0]) (fun T hT => res2 rfl T _ (hT 4 _ rfl) (hT 5 _ rfl)) ?_
      have hcan : canB ts 3 (k : Int) = true := by unfold canB; rw [hok, c16]; rfl
      rw [mov_yes hcan]
      simp only [post_len]
      exact ⟨A21, c22, rfl, (O25.re [0] rfl : Own Z0 W w23 [.row (.slice A21 (Tr.size (chT ts 3 k ts.length (ts.length - 1))) c22) 38 3 (Tr.size (chT ts 3 k ts.length (ts.length - 1))) (ncells (post (chT ts 3 k ts.length (ts.length - 1)) 0))])⟩
    · skip
      refine wl_call (args := [.slice (some ⟨b, o, none⟩) ts.length c0, .int .i64 at_]) in_59 rfl rfl rfl ?_
      refine (innerb_ (hN.move (fun k hk => (O12.old).block k (hD k hk))) (fun k hk => Nat.lt_of_lt_of_le (hD k hk) (O12.old).size) (show innerB ts at_ = false from Bool.eq_false_iff.2 c16)).mono ?_
      rintro _ w26 ⟨rfl, hb27⟩
      have O28 : Own Z0 W w26 [.blk g2 3 #[.int .i64 at_]] := O12.below hb27
      refine ⟨_, rfl, ?_⟩
      refine wl_val (v := .bool true) (fun ρ e => ex_lnot (b := false) (e _ _ rfl)) rfl rfl ?_
      refine wl_val (v := .bool true) (fun ρ e => ex_pick0 (e _ _ rfl) (e _ _ rfl)) rfl rfl ?_
      refine wl_nil ?_
      refine xw_next K9 ?_
      refine cw_true rfl ?_
      refine cw_seq (fun FK29 K29 => ?_)
      refine cw_region ?_
      refine wl_val (v := .slice none 0 0) (fun ρ e => ex_assign (e _ _ rfl)) rfl rfl ?_
      refine wl_val (v := .int .i64 1) (fun ρ e => ex_assign (e _ _ rfl)) rfl rfl ?_
      refine wl_nil ?_
      refine xw_next K29 ?_
      refine cw_ret ?_
      refine xw_past (by intro h; cases h) ?_
      refine xw_ret (v := .tuple #[.slice none 0 0, .int .i64 1]) (fun T hT => res2 rfl T _ (hT 4 _ rfl) (hT 5 _ rfl)) ?_
      have hcan : canB ts 3 at_ = false := by unfold canB; rw [Bool.eq_false_iff.2 c16]; simp
      rw [mov_no hcan]
      have O30 := O28.nilrow 38 3
      exact ⟨none, 0, rfl, O30.re [0] rfl⟩

end Go.Proofs.YtpeoodkepjhhiaaDoor
namespace Go.Proofs.YtpeoodkepjhhiaaDoor

def ordB (l : List Int) : Bool := decide (0 < l.length) && (l.all fun v => decide (1 ≤ v) && decide (v ≤ 128)) && decide l.Nodup
def opreB (l : List Int) : Bool := (l.all fun v => decide (1 ≤ v) && decide (v ≤ 128)) && decide l.Nodup
theorem ordB_iff {l : List Int} : ordB l = true ↔ 0 < l.length ∧ opreB l = true := by
  unfold ordB opreB
  simp only [Bool.and_eq_true, decide_eq_true_eq, and_assoc]
theorem opreB_iff {l : List Int} : opreB l = true ↔ (∀ v ∈ l, 1 ≤ v ∧ v ≤ 128) ∧ l.Nodup := by
  unfold opreB
  simp only [Bool.and_eq_true, decide_eq_true_eq, List.all_eq_true]
theorem opre_snoc {l : List Int} {v : Int} (h : opreB l = true) : opreB (l ++ [v]) = true ↔ 1 ≤ v ∧ v ≤ 128 ∧ v ∉ l := by
  rw [opreB_iff] at h ⊢
  rw [nodup_snoc]
  constructor
  · rintro ⟨h1, h2, h3⟩
    have := h1 v (by simp)
    exact ⟨this.1, this.2, h3⟩
  · rintro ⟨h1, h2, h3⟩
    refine ⟨fun u hu => ?_, h.2, h3⟩
    rcases List.mem_append.1 hu with hu | hu
    · exact h.1 u hu
    · rw [List.mem_singleton.1 hu]; exact ⟨h1, h2⟩
theorem opre_take {l : List Int} (h : opreB l = true) (k : Nat) : opreB (l.take k) = true := by
  rw [opreB_iff] at h ⊢
  exact ⟨fun v hv => h.1 v (List.mem_of_mem_take hv), h.2.sublist (List.take_sublist _ _)⟩
/-- The tree of variables, of which g says how many are below a node's left child. -/
def mkT (g : Nat → Nat) : Nat → List Int → Tr
  | 0, _ => .leaf 0
  | n + 1, l => if l.length ≤ 1 then .leaf (l.getD 0 0) else .node (mkT g n (l.take (g l.length))) (mkT g n (l.drop (g l.length)))
def gOf (kind : Nat) : Nat → Nat := if kind = 1 then fun _ => 1 else if kind = 2 then fun k => k - 1 else fun k => (k + 1) / 2
def makeOf (kind : Nat) (l : List Int) : List VN × Int := if ordB l then (post (mkT (gOf kind) l.length l) 0, 0) else ([], 1)
theorem gOf_good (kind m : Nat) (h : 2 ≤ m) : 1 ≤ gOf kind m ∧ gOf kind m < m := by
  unfold gOf
  split
  · dsimp only; omega
  · split
    · dsimp only; omega
    · dsimp only; omega
theorem mkT_one {g : Nat → Nat} {n : Nat} {l : List Int} {v : Int} (h : l.length = 1) (hv : l[0]? = some v) : mkT g (n + 1) l = .leaf v := by
  unfold mkT
  rw [if_pos (by omega), List.getD_eq_getElem?_getD, hv]
  rfl
theorem mkT_more {g : Nat → Nat} {n : Nat} {l : List Int} (h : 2 ≤ l.length) : mkT g (n + 1) l = .node (mkT g n (l.take (g l.length))) (mkT g n (l.drop (g l.length))) := by
  conv => lhs; unfold mkT
  rw [if_neg (by omega)]
theorem mkT_leaves {g : Nat → Nat} (hg : ∀ m, 2 ≤ m → 1 ≤ g m ∧ g m < m) : ∀ (n : Nat) (l : List Int), 0 < l.length → l.length ≤ n → (mkT g n l).leaves = l ∧ (mkT g n l).size = 2 * l.length - 1
  | 0, l, h1, h2 => by omega
  | n + 1, l, h1, h2 => by
    by_cases h : l.length ≤ 1
    · match l, h1, h with
      | [v], _, _ => exact ⟨rfl, rfl⟩
    · have hk := hg l.length (by omega)
      rw [mkT_more (by omega)]
      obtain ⟨q1, q2⟩ := mkT_leaves hg n (l.take (g l.length)) (by rw [List.length_take]; omega) (by rw [List.length_take]; omega)
      obtain ⟨q3, q4⟩ := mkT_leaves hg n (l.drop (g l.length)) (by rw [List.length_drop]; omega) (by rw [List.length_drop]; omega)
      refine ⟨by simp only [Tr.leaves, q1, q3, List.take_append_drop], ?_⟩
      simp only [Tr.size, q2, q4, List.length_take, List.length_drop]
      omega
end Go.Proofs.YtpeoodkepjhhiaaDoor
