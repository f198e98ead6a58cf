/-
  Lemmas and contracts, joined: Vmove Vmk Vbuild Vworks Post Open Post2 Vopen Vgt.
-/
import Derived.Test.YtpeoodkepjhhiaaDoorPf3
import Derived.Test.YtpeoodkepjhhiaaDoorPf2
import Derived.Test.YtpeoodkepjhhiaaDoorRows
import Derived.WalkKit
import Derived.ProofKit
import Derived.OpenShut
import Derived.Below
import Derived.ChangeSame
import Derived.Test.YtpeoodkepjhhiaaDoorPf1
import Derived.Carry
import Derived.Deep.Slices
import Derived.Deep.Fields
import Derived.Lib.SmallJoins
import Derived.DataReads
import Derived.Test.YtpeoodkepjhhiaaDoorCards
import Derived.Test.YtpeoodkepjhhiaaDoorTie
import Derived.Lib.LaidU8
import Derived.LaidMore
import Derived.Lay
import Derived.Stop.Joined
namespace Go.Proofs.YtpeoodkepjhhiaaDoor
open Go Go.RowKit
theorem chr_ {W : World} {ts : List VN} {D : Nat → Prop} {i a b2 a' b' at_ low p q cc ac tc lc xc b o c0 : Nat} (hf : fR at_ low p q cc i a b2 = (a', b')) (hlow : ts[low]? = some ⟨(p : Int), (q : Int), 0⟩) (hN : NodesD D W (.slice (some ⟨b, o, none⟩) ts.length c0) ts) (hD : ∀ k, D k → k < W.heap.size) (hac : Blk W ac 3 #[.int .i64 (at_ : Int)]) (htc : Blk W tc 23 #[.slice (some ⟨b, o, none⟩) ts.length c0]) (hlc : Blk W lc 3 #[.int .i64 (low : Int)]) (hxc : Blk W xc 38 #[.int .i64 (low : Int), .int .i64 (cc : Int), .int .i64 0]) :
    Calls Tryd.prog 61 #[.int .i64 (i : Int), .agg #[.int .i64 (a : Int), .int .i64 (b2 : Int), .int .i64 0], .pointer (some ⟨ac, 0, none⟩), .pointer (some ⟨tc, 0, none⟩), .pointer (some ⟨lc, 0, none⟩), .pointer (some ⟨xc, 0, none⟩)] W fun e w' => e = .returned (.agg #[.int .i64 (a' : Int), .int .i64 (b' : Int), .int .i64 0]) ∧ Below W.heap.size W w' := by
  have O0 : Own Z0 W W [.ro (fun k => k = ac) (fun w => Blk w ac 3 #[.int .i64 (at_ : Int)]), .ro (fun k => k = tc) (fun w => Blk w tc 23 #[.slice (some ⟨b, o, none⟩) ts.length c0]), .ro (fun k => k = lc) (fun w => Blk w lc 3 #[.int .i64 (low : Int)]), .ro (fun k => k = xc) (fun w => Blk w xc 38 #[.int .i64 (low : Int), .int .i64 (cc : Int), .int .i64 0]), .ro D (fun w => NodesD D w (.slice (some ⟨b, o, none⟩) ts.length c0) ts)] := (((((Own.start W).oldro (D := D) (p := (fun w => NodesD D w (.slice (some ⟨b, o, none⟩) ts.length c0) ts)) (nodesE_holds hN hD)).oldro (D := (fun k => k = xc)) (p := (fun w => Blk w xc 38 #[.int .i64 (low : Int), .int .i64 (cc : Int), .int .i64 0])) ⟨hxc, fun k hk => hk ▸ hxc.lt, fun _ _ _ hk h => (hk _ rfl).trans h⟩).oldro (D := (fun k => k = lc)) (p := (fun w => Blk w lc 3 #[.int .i64 (low : Int)])) ⟨hlc, fun k hk => hk ▸ hlc.lt, fun _ _ _ hk h => (hk _ rfl).trans h⟩).oldro (D := (fun k => k = tc)) (p := (fun w => Blk w tc 23 #[.slice (some ⟨b, o, none⟩) ts.length c0])) ⟨htc, fun k hk => hk ▸ htc.lt, fun _ _ _ hk h => (hk _ rfl).trans h⟩).oldro (D := (fun k => k = ac)) (p := (fun w => Blk w ac 3 #[.int .i64 (at_ : Int)])) ⟨hac, fun k hk => hk ▸ hac.lt, fun _ _ _ hk h => (hk _ rfl).trans h⟩
  have hll : low < ts.length := (List.getElem?_eq_some_iff.1 hlow).1
  refine sx_enter (args := [.int .i64 (i : Int), .agg #[.int .i64 (a : Int), .int .i64 (b2 : Int), .int .i64 0], .pointer (some ⟨ac, 0, none⟩), .pointer (some ⟨tc, 0, none⟩), .pointer (some ⟨lc, 0, none⟩), .pointer (some ⟨xc, 0, none⟩)]) Tryd.func61 rfl rfl (by simp) ?_
  refine cw_seq (fun FK1 K1 => ?_)
  refine cw_region ?_
  obtain ⟨g2, w3, r4, O5, hg6, hs7⟩ := own_box O0 38 (.agg #[.int .i64 (a : Int), .int .i64 (b2 : Int), .int .i64 0]) rfl
  refine wl_val (v := .pointer (some ⟨g2, 0, none⟩)) (fun ρ e => r4 ρ _ _ _ _ _ _ (e _ _ rfl)) rfl rfl ?_
  obtain ⟨g8, w9, r10, O11, hg12, hs13⟩ := own_alloc O5 38 ze38 rfl
  refine wl_val (v := .pointer (some ⟨g8, 0, none⟩)) (fun ρ e => r10 ρ _ _ _ _ _) rfl rfl ?_
  refine wl_nil ?_
  refine xw_next K1 ?_
  refine cw_seq (fun FK14 K14 => ?_)
  refine cw_seq (fun FK15 K15 => ?_)
  refine cw_region ?_
  refine wl_val (v := .int .i64 (i : Int)) (fun ρ e => ex_move (e _ _ rfl)) rfl rfl ?_
  refine wl_nil ?_
  refine xw_next K15 ?_
  refine cw_block ?_
  refine cw_seq (fun FK16 K16 => ?_)
  refine cw_region ?_
  refine wl_val (v := .int .i64 (at_ : Int)) (fun ρ e => ex_load1 ty3 (e _ _ rfl) (((O11.ro 2 rfl : Blk _ ac _ _).cell 0).trans rfl)) rfl rfl ?_
  by_cases c17 : (i : Int) = (at_ : Int)
  · skip
    refine wl_val (v := .bool true) (fun ρ e => ex_cmp (u := (i : Int)) (v := (at_ : Int)) (e _ _ rfl) (e _ _ rfl) (eql1 (by omega))) rfl rfl ?_
    refine wl_val (v := .bool true) (fun ρ e => ex_assign (e _ _ rfl)) rfl rfl ?_
    refine wl_nil ?_
    refine xw_next K16 ?_
    refine cw_true rfl ?_
    refine cw_seq (fun FK18 K18 => ?_)
    refine cw_drawn (fun X => Own Z0 W X [.blk g8 38 #[.int .i64 0, .int .i64 0, .int .i64 0], .blk g2 38 #[.int .i64 (a : Int), .int .i64 (b2 : Int), .int .i64 0], .ro (fun k => k = ac) (fun w => Blk w ac 3 #[.int .i64 (at_ : Int)]), .ro (fun k => k = tc) (fun w => Blk w tc 23 #[.slice (some ⟨b, o, none⟩) ts.length c0]), .ro (fun k => k = lc) (fun w => Blk w lc 3 #[.int .i64 (low : Int)]), .ro (fun k => k = xc) (fun w => Blk w xc 38 #[.int .i64 (low : Int), .int .i64 (cc : Int), .int .i64 0]), .ro D (fun w => NodesD D w (.slice (some ⟨b, o, none⟩) ts.length c0) ts)]) 7 [(0, 0), (1, 0), (2, 1), (3, 1), (4, 0), (5, 0), (6, 1), (7, 3)] (by kernel_rfl) (by kernel_rfl) (PQ.then_ (PQ.block (PQ.then_ PQ.body))) (O11).drew ?_
    have O19 : Own Z0 W w9.drew [.blk g8 38 #[.int .i64 0, .int .i64 0, .int .i64 0], .blk g2 38 #[.int .i64 (a : Int), .int .i64 (b2 : Int), .int .i64 0], .ro (fun k => k = ac) (fun w => Blk w ac 3 #[.int .i64 (at_ : Int)]), .ro (fun k => k = tc) (fun w => Blk w tc 23 #[.slice (some ⟨b, o, none⟩) ts.length c0]), .ro (fun k => k = lc) (fun w => Blk w lc 3 #[.int .i64 (low : Int)]), .ro (fun k => k = xc) (fun w => Blk w xc 38 #[.int .i64 (low : Int), .int .i64 (cc : Int), .int .i64 0]), .ro D (fun w => NodesD D w (.slice (some ⟨b, o, none⟩) ts.length c0) ts)] := O11.drew
    refine wt0 (v := .slice (some ⟨b, o, none⟩) ts.length c0) rfl (fun ρ e W hW => ex_load1 ty23 (e _ _ rfl) (((hW.ro 3 rfl : Blk _ tc _ _).cell 0).trans rfl)) rfl rfl ?_
    refine wt0 (v := .int .i64 (low : Int)) rfl (fun ρ e W hW => ex_load1 ty3 (e _ _ rfl) (((hW.ro 4 rfl : Blk _ lc _ _).cell 0).trans rfl)) rfl rfl ?_
    refine wt1 (v := .pointer (some ⟨b, o + low * 3, none⟩)) rfl (fun ρ e W => ex_idx (q := o + low * 3) (i := low) el23 (e _ _ rfl) (e _ _ rfl) (by omega) (by omega)) rfl rfl ?_
    refine wt1 (v := .pointer (some ⟨b, o + low * 3, none⟩)) rfl (fun ρ e W => ex_field (q := o + low * 3) fi38_0 (e _ _ rfl) rfl) rfl rfl ?_
    refine wt0 (v := .int .i64 (p : Int)) rfl (fun ρ e W hW => ex_load1 ty3 (e _ _ rfl) (NodesD.c0 ((hW.ro 6 rfl : (fun w => NodesD D w (.slice (some ⟨b, o, none⟩) ts.length c0) ts) _) : NodesD _ _ _ _) hlow)) rfl rfl ?_
    refine wt0 (v := .int .i64 (low : Int)) rfl (fun ρ e W hW => ex_load1 ty3 (e _ _ rfl) (((hW.ro 4 rfl : Blk _ lc _ _).cell 0).trans rfl)) rfl rfl ?_
    refine wt1 (v := .agg #[.int .i64 (p : Int), .int .i64 (low : Int), .int .i64 0]) rfl (fun ρ e W => ex_build (cells := #[.int .i64 (p : Int), .int .i64 (low : Int), .int .i64 0]) st38 (e.parts rfl) rfl) rfl rfl ?_
    obtain ⟨w20, r21, O22, hs23⟩ := own_put (o := 0) (n := 3) O19 ty38 (.agg #[.int .i64 (p : Int), .int .i64 (low : Int), .int .i64 0]) [.int .i64 (p : Int), .int .i64 (low : Int), .int .i64 0] (cs' := #[.int .i64 (p : Int), .int .i64 (low : Int), .int .i64 0]) rfl rfl rfl (Nat.le_of_ble_eq_true rfl) rfl
    refine wt3_none rfl (fun ρ e => r21 ρ _ _ _ _ _ _ (e _ _ rfl) (e _ _ rfl)) rfl ?_
    refine wt_nil ?_
    refine xw_next K18 ?_
    refine cw_ret ?_
    refine xw_blockret ?_
    refine xw_past (by intro h; cases h) ?_
    refine xw_ret (v := .agg #[.int .i64 (p : Int), .int .i64 (low : Int), .int .i64 0]) (fun T hT => res1c rfl T _ (hT 8 _ rfl) (run_loadN (vs := [.int .i64 (p : Int), .int .i64 (low : Int), .int .i64 0]) ty38 rfl (O22.cells 0 0 rfl rfl))) ?_
    obtain rfl : i = at_ := by omega
    have hf2 := hf
    simp only [fR, if_true] at hf2
    injection hf2 with e1 e2
    subst e1 e2
    exact ⟨rfl, O22.old⟩
  · skip
    refine wl_val (v := .bool false) (fun ρ e => ex_cmp (u := (i : Int)) (v := (at_ : Int)) (e _ _ rfl) (e _ _ rfl) (eql0 (by omega))) rfl rfl ?_
    refine wl_val (v := .bool false) (fun ρ e => ex_assign (e _ _ rfl)) rfl rfl ?_
    refine wl_nil ?_
    refine xw_next K16 ?_
    refine cw_false rfl ?_
    refine cw_seq (fun FK24 K24 => ?_)
    refine cw_region ?_
    refine wl_val (v := .int .i64 (low : Int)) (fun ρ e => ex_load1 ty3 (e _ _ rfl) (((O11.ro 4 rfl : Blk _ lc _ _).cell 0).trans rfl)) rfl rfl ?_
    by_cases c25 : (i : Int) = (low : Int)
    · skip
      refine wl_val (v := .bool true) (fun ρ e => ex_cmp (u := (i : Int)) (v := (low : Int)) (e _ _ rfl) (e _ _ rfl) (eql1 (by omega))) rfl rfl ?_
      refine wl_val (v := .bool true) (fun ρ e => ex_assign (e _ _ rfl)) rfl rfl ?_
      refine wl_nil ?_
      refine xw_next K24 ?_
      refine cw_true rfl ?_
      refine cw_seq (fun FK26 K26 => ?_)
      refine cw_drawn (fun X => Own Z0 W X [.blk g8 38 #[.int .i64 0, .int .i64 0, .int .i64 0], .blk g2 38 #[.int .i64 (a : Int), .int .i64 (b2 : Int), .int .i64 0], .ro (fun k => k = ac) (fun w => Blk w ac 3 #[.int .i64 (at_ : Int)]), .ro (fun k => k = tc) (fun w => Blk w tc 23 #[.slice (some ⟨b, o, none⟩) ts.length c0]), .ro (fun k => k = lc) (fun w => Blk w lc 3 #[.int .i64 (low : Int)]), .ro (fun k => k = xc) (fun w => Blk w xc 38 #[.int .i64 (low : Int), .int .i64 (cc : Int), .int .i64 0]), .ro D (fun w => NodesD D w (.slice (some ⟨b, o, none⟩) ts.length c0) ts)]) 8 [(0, 0), (1, 0), (2, 1), (3, 1), (4, 0), (5, 1), (6, 0), (7, 1), (8, 3)] (by kernel_rfl) (by kernel_rfl) (PQ.then_ (PQ.block (PQ.then_ PQ.body))) (O11).drew ?_
      have O27 : Own Z0 W w9.drew [.blk g8 38 #[.int .i64 0, .int .i64 0, .int .i64 0], .blk g2 38 #[.int .i64 (a : Int), .int .i64 (b2 : Int), .int .i64 0], .ro (fun k => k = ac) (fun w => Blk w ac 3 #[.int .i64 (at_ : Int)]), .ro (fun k => k = tc) (fun w => Blk w tc 23 #[.slice (some ⟨b, o, none⟩) ts.length c0]), .ro (fun k => k = lc) (fun w => Blk w lc 3 #[.int .i64 (low : Int)]), .ro (fun k => k = xc) (fun w => Blk w xc 38 #[.int .i64 (low : Int), .int .i64 (cc : Int), .int .i64 0]), .ro D (fun w => NodesD D w (.slice (some ⟨b, o, none⟩) ts.length c0) ts)] := O11.drew
      refine wt0 (v := .slice (some ⟨b, o, none⟩) ts.length c0) rfl (fun ρ e W hW => ex_load1 ty23 (e _ _ rfl) (((hW.ro 3 rfl : Blk _ tc _ _).cell 0).trans rfl)) rfl rfl ?_
      refine wt0 (v := .int .i64 (low : Int)) rfl (fun ρ e W hW => ex_load1 ty3 (e _ _ rfl) (((hW.ro 4 rfl : Blk _ lc _ _).cell 0).trans rfl)) rfl rfl ?_
      refine wt1 (v := .pointer (some ⟨b, o + low * 3, none⟩)) rfl (fun ρ e W => ex_idx (q := o + low * 3) (i := low) el23 (e _ _ rfl) (e _ _ rfl) (by omega) (by omega)) rfl rfl ?_
      refine wt1 (v := .pointer (some ⟨b, o + low * 3 + 1, none⟩)) rfl (fun ρ e W => ex_field (q := o + low * 3 + 1) fi38_1 (e _ _ rfl) rfl) rfl rfl ?_
      refine wt0 (v := .int .i64 (q : Int)) rfl (fun ρ e W hW => ex_load1 ty3 (e _ _ rfl) (NodesD.c1 ((hW.ro 6 rfl : (fun w => NodesD D w (.slice (some ⟨b, o, none⟩) ts.length c0) ts) _) : NodesD _ _ _ _) hlow)) rfl rfl ?_
      refine wt1 (v := .pointer (some ⟨xc, 1, none⟩)) rfl (fun ρ e W => ex_field (q := 1) fi38_1 (e _ _ rfl) rfl) rfl rfl ?_
      refine wt0 (v := .int .i64 (cc : Int)) rfl (fun ρ e W hW => ex_load1 ty3 (e _ _ rfl) (((hW.ro 5 rfl : Blk _ xc _ _).cell 1).trans rfl)) rfl rfl ?_
      refine wt1 (v := .agg #[.int .i64 (q : Int), .int .i64 (cc : Int), .int .i64 0]) rfl (fun ρ e W => ex_build (cells := #[.int .i64 (q : Int), .int .i64 (cc : Int), .int .i64 0]) st38 (e.parts rfl) rfl) rfl rfl ?_
      obtain ⟨w28, r29, O30, hs31⟩ := own_put (o := 0) (n := 3) O27 ty38 (.agg #[.int .i64 (q : Int), .int .i64 (cc : Int), .int .i64 0]) [.int .i64 (q : Int), .int .i64 (cc : Int), .int .i64 0] (cs' := #[.int .i64 (q : Int), .int .i64 (cc : Int), .int .i64 0]) rfl rfl rfl (Nat.le_of_ble_eq_true rfl) rfl
      refine wt3_none rfl (fun ρ e => r29 ρ _ _ _ _ _ _ (e _ _ rfl) (e _ _ rfl)) rfl ?_
      refine wt_nil ?_
      refine xw_next K26 ?_
      refine cw_ret ?_
      refine xw_blockret ?_
      refine xw_past (by intro h; cases h) ?_
      refine xw_ret (v := .agg #[.int .i64 (q : Int), .int .i64 (cc : Int), .int .i64 0]) (fun T hT => res1c rfl T _ (hT 8 _ rfl) (run_loadN (vs := [.int .i64 (q : Int), .int .i64 (cc : Int), .int .i64 0]) ty38 rfl (O30.cells 0 0 rfl rfl))) ?_
      obtain rfl : i = low := by omega
      have hf2 := hf
      rw [fR, if_neg (by omega), if_pos rfl] at hf2
      injection hf2 with e1 e2
      subst e1 e2
      exact ⟨rfl, O30.old⟩
    · skip
      refine wl_val (v := .bool false) (fun ρ e => ex_cmp (u := (i : Int)) (v := (low : Int)) (e _ _ rfl) (e _ _ rfl) (eql0 (by omega))) rfl rfl ?_
      refine wl_val (v := .bool false) (fun ρ e => ex_assign (e _ _ rfl)) rfl rfl ?_
      refine wl_nil ?_
      refine xw_next K24 ?_
      refine cw_false rfl ?_
      refine cw_skip ?_
      refine xw_block ?_
      refine xw_next K14 ?_
      refine cw_seq (fun FK32 K32 => ?_)
      refine cw_region ?_
      refine wl_val (v := .agg #[.int .i64 (a : Int), .int .i64 (b2 : Int), .int .i64 0]) (fun ρ e => ex_loadN (vs := [.int .i64 (a : Int), .int .i64 (b2 : Int), .int .i64 0]) ty38 (e _ _ rfl) rfl (O11.cells 1 0 rfl rfl)) rfl rfl ?_
      obtain ⟨w33, r34, O35, hs36⟩ := own_put (o := 0) (n := 3) O11 ty38 (.agg #[.int .i64 (a : Int), .int .i64 (b2 : Int), .int .i64 0]) [.int .i64 (a : Int), .int .i64 (b2 : Int), .int .i64 0] (cs' := #[.int .i64 (a : Int), .int .i64 (b2 : Int), .int .i64 0]) rfl rfl rfl (Nat.le_of_ble_eq_true rfl) rfl
      refine wl_none (fun ρ e => r34 ρ _ _ _ _ _ _ (e _ _ rfl) (e _ _ rfl)) rfl ?_
      refine wl_nil ?_
      refine xw_next K32 ?_
      refine cw_ret ?_
      refine xw_ret (v := .agg #[.int .i64 (a : Int), .int .i64 (b2 : Int), .int .i64 0]) (fun T hT => res1c rfl T _ (hT 8 _ rfl) (run_loadN (vs := [.int .i64 (a : Int), .int .i64 (b2 : Int), .int .i64 0]) ty38 rfl (O35.cells 0 0 rfl rfl))) ?_
      have hf2 := hf
      rw [fR, if_neg (by omega), if_neg (by omega)] at hf2
      injection hf2 with e1 e2
      subst e1 e2
      exact ⟨rfl, O35.old⟩
theorem chl_ {W : World} {ts : List VN} {D : Nat → Prop} {i a b2 a' b' at_ low p q cc ac tc lc xc b o c0 : Nat} (hf : fL at_ low p q cc i a b2 = (a', b')) (hlow : ts[low]? = some ⟨(p : Int), (q : Int), 0⟩) (hN : NodesD D W (.slice (some ⟨b, o, none⟩) ts.length c0) ts) (hD : ∀ k, D k → k < W.heap.size) (hac : Blk W ac 3 #[.int .i64 (at_ : Int)]) (hlc : Blk W lc 3 #[.int .i64 (low : Int)]) (htc : Blk W tc 23 #[.slice (some ⟨b, o, none⟩) ts.length c0]) (hxc : Blk W xc 38 #[.int .i64 (cc : Int), .int .i64 (low : Int), .int .i64 0]) :
    Calls Tryd.prog 62 #[.int .i64 (i : Int), .agg #[.int .i64 (a : Int), .int .i64 (b2 : Int), .int .i64 0], .pointer (some ⟨ac, 0, none⟩), .pointer (some ⟨lc, 0, none⟩), .pointer (some ⟨tc, 0, none⟩), .pointer (some ⟨xc, 0, none⟩)] W fun e w' => e = .returned (.agg #[.int .i64 (a' : Int), .int .i64 (b' : Int), .int .i64 0]) ∧ Below W.heap.size W w' := by
  have O0 : Own Z0 W W [.ro (fun k => k = ac) (fun w => Blk w ac 3 #[.int .i64 (at_ : Int)]), .ro (fun k => k = lc) (fun w => Blk w lc 3 #[.int .i64 (low : Int)]), .ro (fun k => k = tc) (fun w => Blk w tc 23 #[.slice (some ⟨b, o, none⟩) ts.length c0]), .ro (fun k => k = xc) (fun w => Blk w xc 38 #[.int .i64 (cc : Int), .int .i64 (low : Int), .int .i64 0]), .ro D (fun w => NodesD D w (.slice (some ⟨b, o, none⟩) ts.length c0) ts)] := (((((Own.start W).oldro (D := D) (p := (fun w => NodesD D w (.slice (some ⟨b, o, none⟩) ts.length c0) ts)) (nodesE_holds hN hD)).oldro (D := (fun k => k = xc)) (p := (fun w => Blk w xc 38 #[.int .i64 (cc : Int), .int .i64 (low : Int), .int .i64 0])) ⟨hxc, fun k hk => hk ▸ hxc.lt, fun _ _ _ hk h => (hk _ rfl).trans h⟩).oldro (D := (fun k => k = tc)) (p := (fun w => Blk w tc 23 #[.slice (some ⟨b, o, none⟩) ts.length c0])) ⟨htc, fun k hk => hk ▸ htc.lt, fun _ _ _ hk h => (hk _ rfl).trans h⟩).oldro (D := (fun k => k = lc)) (p := (fun w => Blk w lc 3 #[.int .i64 (low : Int)])) ⟨hlc, fun k hk => hk ▸ hlc.lt, fun _ _ _ hk h => (hk _ rfl).trans h⟩).oldro (D := (fun k => k = ac)) (p := (fun w => Blk w ac 3 #[.int .i64 (at_ : Int)])) ⟨hac, fun k hk => hk ▸ hac.lt, fun _ _ _ hk h => (hk _ rfl).trans h⟩
  have hll : low < ts.length := (List.getElem?_eq_some_iff.1 hlow).1
  refine sx_enter (args := [.int .i64 (i : Int), .agg #[.int .i64 (a : Int), .int .i64 (b2 : Int), .int .i64 0], .pointer (some ⟨ac, 0, none⟩), .pointer (some ⟨lc, 0, none⟩), .pointer (some ⟨tc, 0, none⟩), .pointer (some ⟨xc, 0, none⟩)]) Tryd.func62 rfl rfl (by simp) ?_
  refine cw_seq (fun FK1 K1 => ?_)
  refine cw_region ?_
  obtain ⟨g2, w3, r4, O5, hg6, hs7⟩ := own_box O0 38 (.agg #[.int .i64 (a : Int), .int .i64 (b2 : Int), .int .i64 0]) rfl
  refine wl_val (v := .pointer (some ⟨g2, 0, none⟩)) (fun ρ e => r4 ρ _ _ _ _ _ _ (e _ _ rfl)) rfl rfl ?_
  obtain ⟨g8, w9, r10, O11, hg12, hs13⟩ := own_alloc O5 38 ze38 rfl
  refine wl_val (v := .pointer (some ⟨g8, 0, none⟩)) (fun ρ e => r10 ρ _ _ _ _ _) rfl rfl ?_
  refine wl_nil ?_
  refine xw_next K1 ?_
  refine cw_seq (fun FK14 K14 => ?_)
  refine cw_seq (fun FK15 K15 => ?_)
  refine cw_region ?_
  refine wl_val (v := .int .i64 (i : Int)) (fun ρ e => ex_move (e _ _ rfl)) rfl rfl ?_
  refine wl_nil ?_
  refine xw_next K15 ?_
  refine cw_block ?_
  refine cw_seq (fun FK16 K16 => ?_)
  refine cw_region ?_
  refine wl_val (v := .int .i64 (at_ : Int)) (fun ρ e => ex_load1 ty3 (e _ _ rfl) (((O11.ro 2 rfl : Blk _ ac _ _).cell 0).trans rfl)) rfl rfl ?_
  by_cases c17 : (i : Int) = (at_ : Int)
  · skip
    refine wl_val (v := .bool true) (fun ρ e => ex_cmp (u := (i : Int)) (v := (at_ : Int)) (e _ _ rfl) (e _ _ rfl) (eql1 (by omega))) rfl rfl ?_
    refine wl_val (v := .bool true) (fun ρ e => ex_assign (e _ _ rfl)) rfl rfl ?_
    refine wl_nil ?_
    refine xw_next K16 ?_
    refine cw_true rfl ?_
    refine cw_seq (fun FK18 K18 => ?_)
    refine cw_drawn (fun X => Own Z0 W X [.blk g8 38 #[.int .i64 0, .int .i64 0, .int .i64 0], .blk g2 38 #[.int .i64 (a : Int), .int .i64 (b2 : Int), .int .i64 0], .ro (fun k => k = ac) (fun w => Blk w ac 3 #[.int .i64 (at_ : Int)]), .ro (fun k => k = lc) (fun w => Blk w lc 3 #[.int .i64 (low : Int)]), .ro (fun k => k = tc) (fun w => Blk w tc 23 #[.slice (some ⟨b, o, none⟩) ts.length c0]), .ro (fun k => k = xc) (fun w => Blk w xc 38 #[.int .i64 (cc : Int), .int .i64 (low : Int), .int .i64 0]), .ro D (fun w => NodesD D w (.slice (some ⟨b, o, none⟩) ts.length c0) ts)]) 7 [(0, 0), (1, 0), (2, 0), (3, 1), (4, 1), (5, 0), (6, 1), (7, 3)] (by kernel_rfl) (by kernel_rfl) (PQ.then_ (PQ.block (PQ.then_ PQ.body))) (O11).drew ?_
    have O19 : Own Z0 W w9.drew [.blk g8 38 #[.int .i64 0, .int .i64 0, .int .i64 0], .blk g2 38 #[.int .i64 (a : Int), .int .i64 (b2 : Int), .int .i64 0], .ro (fun k => k = ac) (fun w => Blk w ac 3 #[.int .i64 (at_ : Int)]), .ro (fun k => k = lc) (fun w => Blk w lc 3 #[.int .i64 (low : Int)]), .ro (fun k => k = tc) (fun w => Blk w tc 23 #[.slice (some ⟨b, o, none⟩) ts.length c0]), .ro (fun k => k = xc) (fun w => Blk w xc 38 #[.int .i64 (cc : Int), .int .i64 (low : Int), .int .i64 0]), .ro D (fun w => NodesD D w (.slice (some ⟨b, o, none⟩) ts.length c0) ts)] := O11.drew
    refine wt0 (v := .int .i64 (low : Int)) rfl (fun ρ e W hW => ex_load1 ty3 (e _ _ rfl) (((hW.ro 3 rfl : Blk _ lc _ _).cell 0).trans rfl)) rfl rfl ?_
    refine wt0 (v := .slice (some ⟨b, o, none⟩) ts.length c0) rfl (fun ρ e W hW => ex_load1 ty23 (e _ _ rfl) (((hW.ro 4 rfl : Blk _ tc _ _).cell 0).trans rfl)) rfl rfl ?_
    refine wt0 (v := .int .i64 (low : Int)) rfl (fun ρ e W hW => ex_load1 ty3 (e _ _ rfl) (((hW.ro 3 rfl : Blk _ lc _ _).cell 0).trans rfl)) rfl rfl ?_
    refine wt1 (v := .pointer (some ⟨b, o + low * 3, none⟩)) rfl (fun ρ e W => ex_idx (q := o + low * 3) (i := low) el23 (e _ _ rfl) (e _ _ rfl) (by omega) (by omega)) rfl rfl ?_
    refine wt1 (v := .pointer (some ⟨b, o + low * 3 + 1, none⟩)) rfl (fun ρ e W => ex_field (q := o + low * 3 + 1) fi38_1 (e _ _ rfl) rfl) rfl rfl ?_
    refine wt0 (v := .int .i64 (q : Int)) rfl (fun ρ e W hW => ex_load1 ty3 (e _ _ rfl) (NodesD.c1 ((hW.ro 6 rfl : (fun w => NodesD D w (.slice (some ⟨b, o, none⟩) ts.length c0) ts) _) : NodesD _ _ _ _) hlow)) rfl rfl ?_
    refine wt1 (v := .agg #[.int .i64 (low : Int), .int .i64 (q : Int), .int .i64 0]) rfl (fun ρ e W => ex_build (cells := #[.int .i64 (low : Int), .int .i64 (q : Int), .int .i64 0]) st38 (e.parts rfl) rfl) rfl rfl ?_
    obtain ⟨w20, r21, O22, hs23⟩ := own_put (o := 0) (n := 3) O19 ty38 (.agg #[.int .i64 (low : Int), .int .i64 (q : Int), .int .i64 0]) [.int .i64 (low : Int), .int .i64 (q : Int), .int .i64 0] (cs' := #[.int .i64 (low : Int), .int .i64 (q : Int), .int .i64 0]) rfl rfl rfl (Nat.le_of_ble_eq_true rfl) rfl
    refine wt3_none rfl (fun ρ e => r21 ρ _ _ _ _ _ _ (e _ _ rfl) (e _ _ rfl)) rfl ?_
    refine wt_nil ?_
    refine xw_next K18 ?_
    refine cw_ret ?_
    refine xw_blockret ?_
    refine xw_past (by intro h; cases h) ?_
    refine xw_ret (v := .agg #[.int .i64 (low : Int), .int .i64 (q : Int), .int .i64 0]) (fun T hT => res1c rfl T _ (hT 8 _ rfl) (run_loadN (vs := [.int .i64 (low : Int), .int .i64 (q : Int), .int .i64 0]) ty38 rfl (O22.cells 0 0 rfl rfl))) ?_
    obtain rfl : i = at_ := by omega
    have hf2 := hf
    simp only [fL, if_true] at hf2
    injection hf2 with e1 e2
    subst e1 e2
    exact ⟨rfl, O22.old⟩
  · skip
    refine wl_val (v := .bool false) (fun ρ e => ex_cmp (u := (i : Int)) (v := (at_ : Int)) (e _ _ rfl) (e _ _ rfl) (eql0 (by omega))) rfl rfl ?_
    refine wl_val (v := .bool false) (fun ρ e => ex_assign (e _ _ rfl)) rfl rfl ?_
    refine wl_nil ?_
    refine xw_next K16 ?_
    refine cw_false rfl ?_
    refine cw_seq (fun FK24 K24 => ?_)
    refine cw_region ?_
    refine wl_val (v := .int .i64 (low : Int)) (fun ρ e => ex_load1 ty3 (e _ _ rfl) (((O11.ro 3 rfl : Blk _ lc _ _).cell 0).trans rfl)) rfl rfl ?_
    by_cases c25 : (i : Int) = (low : Int)
    · skip
      refine wl_val (v := .bool true) (fun ρ e => ex_cmp (u := (i : Int)) (v := (low : Int)) (e _ _ rfl) (e _ _ rfl) (eql1 (by omega))) rfl rfl ?_
      refine wl_val (v := .bool true) (fun ρ e => ex_assign (e _ _ rfl)) rfl rfl ?_
      refine wl_nil ?_
      refine xw_next K24 ?_
      refine cw_true rfl ?_
      refine cw_seq (fun FK26 K26 => ?_)
      refine cw_drawn (fun X => Own Z0 W X [.blk g8 38 #[.int .i64 0, .int .i64 0, .int .i64 0], .blk g2 38 #[.int .i64 (a : Int), .int .i64 (b2 : Int), .int .i64 0], .ro (fun k => k = ac) (fun w => Blk w ac 3 #[.int .i64 (at_ : Int)]), .ro (fun k => k = lc) (fun w => Blk w lc 3 #[.int .i64 (low : Int)]), .ro (fun k => k = tc) (fun w => Blk w tc 23 #[.slice (some ⟨b, o, none⟩) ts.length c0]), .ro (fun k => k = xc) (fun w => Blk w xc 38 #[.int .i64 (cc : Int), .int .i64 (low : Int), .int .i64 0]), .ro D (fun w => NodesD D w (.slice (some ⟨b, o, none⟩) ts.length c0) ts)]) 8 [(0, 1), (1, 0), (2, 0), (3, 0), (4, 1), (5, 1), (6, 0), (7, 1), (8, 3)] (by kernel_rfl) (by kernel_rfl) (PQ.then_ (PQ.block (PQ.then_ PQ.body))) (O11).drew ?_
      have O27 : Own Z0 W w9.drew [.blk g8 38 #[.int .i64 0, .int .i64 0, .int .i64 0], .blk g2 38 #[.int .i64 (a : Int), .int .i64 (b2 : Int), .int .i64 0], .ro (fun k => k = ac) (fun w => Blk w ac 3 #[.int .i64 (at_ : Int)]), .ro (fun k => k = lc) (fun w => Blk w lc 3 #[.int .i64 (low : Int)]), .ro (fun k => k = tc) (fun w => Blk w tc 23 #[.slice (some ⟨b, o, none⟩) ts.length c0]), .ro (fun k => k = xc) (fun w => Blk w xc 38 #[.int .i64 (cc : Int), .int .i64 (low : Int), .int .i64 0]), .ro D (fun w => NodesD D w (.slice (some ⟨b, o, none⟩) ts.length c0) ts)] := O11.drew
      refine wt1 (v := .pointer (some ⟨xc, 0, none⟩)) rfl (fun ρ e W => ex_field (q := 0) fi38_0 (e _ _ rfl) rfl) rfl rfl ?_
      refine wt0 (v := .int .i64 (cc : Int)) rfl (fun ρ e W hW => ex_load1 ty3 (e _ _ rfl) (((hW.ro 5 rfl : Blk _ xc _ _).cell 0).trans rfl)) rfl rfl ?_
      refine wt0 (v := .slice (some ⟨b, o, none⟩) ts.length c0) rfl (fun ρ e W hW => ex_load1 ty23 (e _ _ rfl) (((hW.ro 4 rfl : Blk _ tc _ _).cell 0).trans rfl)) rfl rfl ?_
      refine wt0 (v := .int .i64 (low : Int)) rfl (fun ρ e W hW => ex_load1 ty3 (e _ _ rfl) (((hW.ro 3 rfl : Blk _ lc _ _).cell 0).trans rfl)) rfl rfl ?_
      refine wt1 (v := .pointer (some ⟨b, o + low * 3, none⟩)) rfl (fun ρ e W => ex_idx (q := o + low * 3) (i := low) el23 (e _ _ rfl) (e _ _ rfl) (by omega) (by omega)) rfl rfl ?_
      refine wt1 (v := .pointer (some ⟨b, o + low * 3, none⟩)) rfl (fun ρ e W => ex_field (q := o + low * 3) fi38_0 (e _ _ rfl) rfl) rfl rfl ?_
      refine wt0 (v := .int .i64 (p : Int)) rfl (fun ρ e W hW => ex_load1 ty3 (e _ _ rfl) (NodesD.c0 ((hW.ro 6 rfl : (fun w => NodesD D w (.slice (some ⟨b, o, none⟩) ts.length c0) ts) _) : NodesD _ _ _ _) hlow)) rfl rfl ?_
      refine wt1 (v := .agg #[.int .i64 (cc : Int), .int .i64 (p : Int), .int .i64 0]) rfl (fun ρ e W => ex_build (cells := #[.int .i64 (cc : Int), .int .i64 (p : Int), .int .i64 0]) st38 (e.parts rfl) rfl) rfl rfl ?_
      obtain ⟨w28, r29, O30, hs31⟩ := own_put (o := 0) (n := 3) O27 ty38 (.agg #[.int .i64 (cc : Int), .int .i64 (p : Int), .int .i64 0]) [.int .i64 (cc : Int), .int .i64 (p : Int), .int .i64 0] (cs' := #[.int .i64 (cc : Int), .int .i64 (p : Int), .int .i64 0]) rfl rfl rfl (Nat.le_of_ble_eq_true rfl) rfl
      refine wt3_none rfl (fun ρ e => r29 ρ _ _ _ _ _ _ (e _ _ rfl) (e _ _ rfl)) rfl ?_
      refine wt_nil ?_
      refine xw_next K26 ?_
      refine cw_ret ?_
      refine xw_blockret ?_
      refine xw_past (by intro h; cases h) ?_
      refine xw_ret (v := .agg #[.int .i64 (cc : Int), .int .i64 (p : Int), .int .i64 0]) (fun T hT => res1c rfl T _ (hT 8 _ rfl) (run_loadN (vs := [.int .i64 (cc : Int), .int .i64 (p : Int), .int .i64 0]) ty38 rfl (O30.cells 0 0 rfl rfl))) ?_
      obtain rfl : i = low := by omega
      have hf2 := hf
      rw [fL, if_neg (by omega), if_pos rfl] at hf2
      injection hf2 with e1 e2
      subst e1 e2
      exact ⟨rfl, O30.old⟩
    · skip
      refine wl_val (v := .bool false) (fun ρ e => ex_cmp (u := (i : Int)) (v := (low : Int)) (e _ _ rfl) (e _ _ rfl) (eql0 (by omega))) rfl rfl ?_
      refine wl_val (v := .bool false) (fun ρ e => ex_assign (e _ _ rfl)) rfl rfl ?_
      refine wl_nil ?_
      refine xw_next K24 ?_
      refine cw_false rfl ?_
      refine cw_skip ?_
      refine xw_block ?_
      refine xw_next K14 ?_
      refine cw_seq (fun FK32 K32 => ?_)
      refine cw_region ?_
      refine wl_val (v := .agg #[.int .i64 (a : Int), .int .i64 (b2 : Int), .int .i64 0]) (fun ρ e => ex_loadN (vs := [.int .i64 (a : Int), .int .i64 (b2 : Int), .int .i64 0]) ty38 (e _ _ rfl) rfl (O11.cells 1 0 rfl rfl)) rfl rfl ?_
      obtain ⟨w33, r34, O35, hs36⟩ := own_put (o := 0) (n := 3) O11 ty38 (.agg #[.int .i64 (a : Int), .int .i64 (b2 : Int), .int .i64 0]) [.int .i64 (a : Int), .int .i64 (b2 : Int), .int .i64 0] (cs' := #[.int .i64 (a : Int), .int .i64 (b2 : Int), .int .i64 0]) rfl rfl rfl (Nat.le_of_ble_eq_true rfl) rfl
      refine wl_none (fun ρ e => r34 ρ _ _ _ _ _ _ (e _ _ rfl) (e _ _ rfl)) rfl ?_
      refine wl_nil ?_
      refine xw_next K32 ?_
      refine cw_ret ?_
      refine xw_ret (v := .agg #[.int .i64 (a : Int), .int .i64 (b2 : Int), .int .i64 0]) (fun T hT => res1c rfl T _ (hT 8 _ rfl) (run_loadN (vs := [.int .i64 (a : Int), .int .i64 (b2 : Int), .int .i64 0]) ty38 rfl (O35.cells 0 0 rfl rfl))) ?_
      have hf2 := hf
      rw [fL, if_neg (by omega), if_neg (by omega)] at hf2
      injection hf2 with e1 e2
      subst e1 e2
      exact ⟨rfl, O35.old⟩
theorem chs_ {W : World} {i a b2 a' b' at_ ac : Nat} (hf : fS at_ i a b2 = (a', b')) (hac : Blk W ac 3 #[.int .i64 (at_ : Int)]) :
    Calls Tryd.prog 63 #[.int .i64 (i : Int), .agg #[.int .i64 (a : Int), .int .i64 (b2 : Int), .int .i64 0], .pointer (some ⟨ac, 0, none⟩)] W fun e w' => e = .returned (.agg #[.int .i64 (a' : Int), .int .i64 (b' : Int), .int .i64 0]) ∧ Below W.heap.size W w' := by
  have O0 : Own Z0 W W [.ro (fun k => k = ac) (fun w => Blk w ac 3 #[.int .i64 (at_ : Int)])] := (Own.start W).oldro (D := (fun k => k = ac)) (p := (fun w => Blk w ac 3 #[.int .i64 (at_ : Int)])) ⟨hac, fun k hk => hk ▸ hac.lt, fun _ _ _ hk h => (hk _ rfl).trans h⟩
  refine sx_enter (args := [.int .i64 (i : Int), .agg #[.int .i64 (a : Int), .int .i64 (b2 : Int), .int .i64 0], .pointer (some ⟨ac, 0, none⟩)]) Tryd.func63 rfl rfl (by simp) ?_
  refine cw_seq (fun FK1 K1 => ?_)
  refine cw_region ?_
  obtain ⟨g2, w3, r4, O5, hg6, hs7⟩ := own_box O0 38 (.agg #[.int .i64 (a : Int), .int .i64 (b2 : Int), .int .i64 0]) rfl
  refine wl_val (v := .pointer (some ⟨g2, 0, none⟩)) (fun ρ e => r4 ρ _ _ _ _ _ _ (e _ _ rfl)) rfl rfl ?_
  obtain ⟨g8, w9, r10, O11, hg12, hs13⟩ := own_alloc O5 38 ze38 rfl
  refine wl_val (v := .pointer (some ⟨g8, 0, none⟩)) (fun ρ e => r10 ρ _ _ _ _ _) rfl rfl ?_
  refine wl_nil ?_
  refine xw_next K1 ?_
  refine cw_seq (fun FK14 K14 => ?_)
  refine cw_seq (fun FK15 K15 => ?_)
  refine cw_region ?_
  refine wl_val (v := .int .i64 (i : Int)) (fun ρ e => ex_move (e _ _ rfl)) rfl rfl ?_
  refine wl_val (v := .int .i64 (at_ : Int)) (fun ρ e => ex_load1 ty3 (e _ _ rfl) (((O11.ro 2 rfl : Blk _ ac _ _).cell 0).trans rfl)) rfl rfl ?_
  by_cases c16 : (i : Int) = (at_ : Int)
  · skip
    refine wl_val (v := .bool true) (fun ρ e => ex_cmp (u := (i : Int)) (v := (at_ : Int)) (e _ _ rfl) (e _ _ rfl) (eql1 (by omega))) rfl rfl ?_
    refine wl_nil ?_
    refine xw_next K15 ?_
    refine cw_true rfl ?_
    refine cw_region ?_
    refine wl_val (v := .pointer (some ⟨g2, 1, none⟩)) (fun ρ e => ex_field (q := 1) fi38_1 (e _ _ rfl) rfl) rfl rfl ?_
    refine wl_val (v := .int .i64 (b2 : Int)) (fun ρ e => ex_load1 ty3 (e _ _ rfl) (O11.cell 1 1 rfl rfl)) rfl rfl ?_
    refine wl_val (v := .pointer (some ⟨g2, 0, none⟩)) (fun ρ e => ex_field (q := 0) fi38_0 (e _ _ rfl) rfl) rfl rfl ?_
    refine wl_val (v := .int .i64 (a : Int)) (fun ρ e => ex_load1 ty3 (e _ _ rfl) (O11.cell 1 0 rfl rfl)) rfl rfl ?_
    refine wl_val (v := .pointer (some ⟨g2, 0, none⟩)) (fun ρ e => ex_field (q := 0) fi38_0 (e _ _ rfl) rfl) rfl rfl ?_
    obtain ⟨w17, r18, O19, hs20⟩ := own_put (o := 0) (n := 1) (O11.re [1, 0, 2] rfl : Own Z0 W w9 [.blk g2 38 #[.int .i64 (a : Int), .int .i64 (b2 : Int), .int .i64 0], .blk g8 38 #[.int .i64 0, .int .i64 0, .int .i64 0], .ro (fun k => k = ac) (fun w => Blk w ac 3 #[.int .i64 (at_ : Int)])]) ty3 (.int .i64 (b2 : Int)) [.int .i64 (b2 : Int)] (cs' := #[.int .i64 (b2 : Int), .int .i64 (b2 : Int), .int .i64 0]) rfl rfl rfl (Nat.le_of_ble_eq_true rfl) rfl
    refine wl_none (fun ρ e => r18 ρ _ _ _ _ _ _ (e _ _ rfl) (e _ _ rfl)) rfl ?_
    refine wl_val (v := .pointer (some ⟨g2, 1, none⟩)) (fun ρ e => ex_field (q := 1) fi38_1 (e _ _ rfl) rfl) rfl rfl ?_
    obtain ⟨w21, r22, O23, hs24⟩ := own_put (o := 1) (n := 1) O19 ty3 (.int .i64 (a : Int)) [.int .i64 (a : Int)] (cs' := #[.int .i64 (b2 : Int), .int .i64 (a : Int), .int .i64 0]) rfl rfl rfl (Nat.le_of_ble_eq_true rfl) rfl
    refine wl_none (fun ρ e => r22 ρ _ _ _ _ _ _ (e _ _ rfl) (e _ _ rfl)) rfl ?_
    refine wl_nil ?_
    refine xw_next K14 ?_
    refine cw_seq (fun FK25 K25 => ?_)
    refine cw_region ?_
    refine wl_val (v := .agg #[.int .i64 (b2 : Int), .int .i64 (a : Int), .int .i64 0]) (fun ρ e => ex_loadN (vs := [.int .i64 (b2 : Int), .int .i64 (a : Int), .int .i64 0]) ty38 (e _ _ rfl) rfl (O23.cells 0 0 rfl rfl)) rfl rfl ?_
    obtain ⟨w26, r27, O28, hs29⟩ := own_put (o := 0) (n := 3) (O23.re [1, 0, 2] rfl : Own Z0 W w21 [.blk g8 38 #[.int .i64 0, .int .i64 0, .int .i64 0], .blk g2 38 #[.int .i64 (b2 : Int), .int .i64 (a : Int), .int .i64 0], .ro (fun k => k = ac) (fun w => Blk w ac 3 #[.int .i64 (at_ : Int)])]) ty38 (.agg #[.int .i64 (b2 : Int), .int .i64 (a : Int), .int .i64 0]) [.int .i64 (b2 : Int), .int .i64 (a : Int), .int .i64 0] (cs' := #[.int .i64 (b2 : Int), .int .i64 (a : Int), .int .i64 0]) rfl rfl rfl (Nat.le_of_ble_eq_true rfl) rfl
    refine wl_none (fun ρ e => r27 ρ _ _ _ _ _ _ (e _ _ rfl) (e _ _ rfl)) rfl ?_
    refine wl_nil ?_
    refine xw_next K25 ?_
    refine cw_ret ?_
    refine xw_ret (v := .agg #[.int .i64 (b2 : Int), .int .i64 (a : Int), .int .i64 0]) (fun T hT => res1c rfl T _ (hT 5 _ rfl) (run_loadN (vs := [.int .i64 (b2 : Int), .int .i64 (a : Int), .int .i64 0]) ty38 rfl (O28.cells 0 0 rfl rfl))) ?_
    obtain rfl : i = at_ := by omega
    have hf2 := hf
    simp only [fS, if_true] at hf2
    injection hf2 with e1 e2
    subst e1 e2
    exact ⟨rfl, O28.old⟩
  · skip
    refine wl_val (v := .bool false) (fun ρ e => ex_cmp (u := (i : Int)) (v := (at_ : Int)) (e _ _ rfl) (e _ _ rfl) (eql0 (by omega))) rfl rfl ?_
    refine wl_nil ?_
    refine xw_next K15 ?_
    refine cw_false rfl ?_
    refine cw_skip ?_
    refine xw_next K14 ?_
    refine cw_seq (fun FK30 K30 => ?_)
    refine cw_region ?_
    refine wl_val (v := .agg #[.int .i64 (a : Int), .int .i64 (b2 : Int), .int .i64 0]) (fun ρ e => ex_loadN (vs := [.int .i64 (a : Int), .int .i64 (b2 : Int), .int .i64 0]) ty38 (e _ _ rfl) rfl (O11.cells 1 0 rfl rfl)) rfl rfl ?_
    obtain ⟨w31, r32, O33, hs34⟩ := own_put (o := 0) (n := 3) O11 ty38 (.agg #[.int .i64 (a : Int), .int .i64 (b2 : Int), .int .i64 0]) [.int .i64 (a : Int), .int .i64 (b2 : Int), .int .i64 0] (cs' := #[.int .i64 (a : Int), .int .i64 (b2 : Int), .int .i64 0]) rfl rfl rfl (Nat.le_of_ble_eq_true rfl) rfl
    refine wl_none (fun ρ e => r32 ρ _ _ _ _ _ _ (e _ _ rfl) (e _ _ rfl)) rfl ?_
    refine wl_nil ?_
    refine xw_next K30 ?_
    refine cw_ret ?_
    refine xw_ret (v := .agg #[.int .i64 (a : Int), .int .i64 (b2 : Int), .int .i64 0]) (fun T hT => res1c rfl T _ (hT 5 _ rfl) (run_loadN (vs := [.int .i64 (a : Int), .int .i64 (b2 : Int), .int .i64 0]) ty38 rfl (O33.cells 0 0 rfl rfl))) ?_
    have hf2 := hf
    rw [fS, if_neg (by omega)] at hf2
    injection hf2 with e1 e2
    subst e1 e2
    exact ⟨rfl, O33.old⟩
def DXr (D : Nat → Prop) (ac tc lc xc : Nat) : Nat → Prop := fun k => k = ac ∨ k = tc ∨ k = lc ∨ k = xc ∨ D k
def PXr (D : Nat → Prop) (ts : List VN) (ac tc lc xc : Nat) (at_ low : Int) (V : Value) (top : Array Value) : World → Prop := fun w => Blk w ac 3 #[.int .i64 at_] ∧ Blk w tc 23 #[V] ∧ Blk w lc 3 #[.int .i64 low] ∧ Blk w xc 38 top ∧ NodesD D w V ts
theorem pxr_holds {W : World} {D : Nat → Prop} {ts : List VN} {ac tc lc xc : Nat} {at_ low : Int} {V : Value} {top : Array Value} (h1 : Blk W ac 3 #[.int .i64 at_]) (h2 : Blk W tc 23 #[V]) (h3 : Blk W lc 3 #[.int .i64 low]) (h4 : Blk W xc 38 top) (h5 : NodesD D W V ts) (hD : ∀ k, D k → k < W.heap.size) : (En.ro (fun k => DXr D ac tc lc xc k) (fun w => PXr D ts ac tc lc xc at_ low V top w ∧ ∀ k, D k → k < w.heap.size)).holds W := by
  refine ⟨⟨⟨h1, h2, h3, h4, h5⟩, hD⟩, fun k hk => ?_, fun w1 w2 hs hk h => ?_⟩
  · rcases hk with rfl | rfl | rfl | rfl | hk
    · exact h1.lt
    · exact h2.lt
    · exact h3.lt
    · exact h4.lt
    · exact hD k hk
  · obtain ⟨⟨q1, q2, q3, q4, q5⟩, q6⟩ := h
    exact ⟨⟨(hk _ (.inl rfl)).trans q1, (hk _ (.inr (.inl rfl))).trans q2, (hk _ (.inr (.inr (.inl rfl)))).trans q3, (hk _ (.inr (.inr (.inr (.inl rfl))))).trans q4, q5.move (fun k hk' => hk k (.inr (.inr (.inr (.inr hk')))))⟩, fun k hk' => Nat.lt_of_lt_of_le (q6 k hk') hs⟩
theorem innerb_ {W : World} {D : Nat → Prop} {V : Value} {ts : List VN} (hN : NodesD D W V ts) (hD : ∀ k, D k → k < W.heap.size) {i : Int} {r : Bool} (h : innerB ts i = r) :
    Calls Tryd.prog 59 #[V, .int .i64 i] W fun e w' => e = .returned (.bool r) ∧ Below W.heap.size W w' := h ▸ inner_ hN hD i
theorem rotr_ {W : World} {D : Nat → Prop} {V : Value} {ts : List VN} (hN : NodesD D W V ts) (hD : ∀ k, D k → k < W.heap.size) (at_ : Int) :
    Calls Tryd.prog 32 #[V, .int .i64 at_] W fun e w' => ∃ A' c', e = .returned (.tuple #[.slice A' (movOf ts 1 at_).1.length c', .int .i64 (movOf ts 1 at_).2]) ∧ Own Z0 W w' [.row (.slice A' (movOf ts 1 at_).1.length c') 38 3 (movOf ts 1 at_).1.length (ncells (movOf ts 1 at_).1)] := by
  obtain ⟨A, c0, rfl⟩ := hN.slice
  have O0 : Own Z0 W W [] := Own.start W
  refine sx_enter (args := [.slice A ts.length c0, .int .i64 at_]) Tryd.func32 rfl rfl (by simp) ?_
  refine cw_seq (fun FK1 K1 => ?_)
  refine cw_region ?_
  obtain ⟨g2, w3, r4, O5, hg6, hs7⟩ := own_box O0 23 (.slice A ts.length c0) rfl
  refine wl_val (v := .pointer (some ⟨g2, 0, none⟩)) (fun ρ e => r4 ρ _ _ _ _ _ _ (e _ _ rfl)) rfl rfl ?_
  obtain ⟨g8, w9, r10, O11, hg12, hs13⟩ := own_box O5 3 (.int .i64 at_) rfl
  refine wl_val (v := .pointer (some ⟨g8, 0, none⟩)) (fun ρ e => r10 ρ _ _ _ _ _ _ (e _ _ rfl)) rfl rfl ?_
  refine wl_val (v := .slice none 0 0) (fun ρ e => ex_assign (e _ _ rfl)) rfl rfl ?_
  refine wl_val (v := .int .i64 0) (fun ρ e => ex_assign (e _ _ rfl)) rfl rfl ?_
  refine wl_nil ?_
  refine xw_next K1 ?_
  refine cw_seq (fun FK14 K14 => ?_)
  refine cw_seq (fun FK15 K15 => ?_)
  refine cw_drawn (fun X => Own Z0 W X [.blk g8 3 #[.int .i64 at_], .blk g2 23 #[.slice A ts.length c0]]) 19 [(0, 0), (1, 2), (2, 1), (3, 1), (4, 0), (5, 0), (6, 2), (7, 1), (8, 1), (9, 1), (10, 0), (11, 0), (12, 0), (13, 1), (14, 1), (15, 0), (16, 2), (17, 1), (18, 1)] (by kernel_rfl) (by kernel_rfl) (PQ.then_ (PQ.then_ PQ.body)) (O11).drew ?_
  have O16 : Own Z0 W w9.drew [.blk g8 3 #[.int .i64 at_], .blk g2 23 #[.slice A ts.length c0]] := O11.drew
  refine wt0 (v := .slice A ts.length c0) rfl (fun ρ e W hW => ex_load1 ty23 (e _ _ rfl) (hW.cell 1 0 rfl rfl)) rfl rfl ?_
  refine wt2_call (args := [.slice A ts.length c0]) rfl in_23 rfl rfl rfl ?_
  refine (check_ (hN.move (fun k hk => (O16.old).block k (hD k hk))) (fun k hk => Nat.lt_of_lt_of_le (hD k hk) (O16.old).size)).mono ?_
  rintro _ w17 ⟨rfl, hb18⟩
  have O19 : Own Z0 W w17 [.blk g8 3 #[.int .i64 at_], .blk g2 23 #[.slice A ts.length c0]] := O16.below hb18
  refine ⟨_, rfl, O19, ?_⟩
  by_cases c20 : (chkV ts) ≠ 0
  · skip
    refine wt1 (v := .bool true) rfl (fun ρ e W => ex_cmp (u := (chkV ts)) (v := 0) (e _ _ rfl) (e _ _ rfl) (neq1 (by omega))) rfl rfl ?_
    refine wt1 (v := .bool true) rfl (fun ρ e W => ex_move (e _ _ rfl)) rfl rfl ?_
    refine wt0_skip rfl rfl rfl ?_
    refine wt0_skip rfl rfl rfl ?_
    refine wt2_skip rfl rfl rfl O19 ?_
    refine wt1_skip rfl rfl rfl ?_
    refine wt1 (v := .bool true) rfl (fun ρ e W => ex_pick1 (e _ _ rfl) (e _ _ rfl)) rfl rfl ?_
    refine wt1 (v := .bool true) rfl (fun ρ e W => ex_move (e _ _ rfl)) rfl rfl ?_
    refine wt0_skip rfl rfl rfl ?_
    refine wt0_skip rfl rfl rfl ?_
    refine wt0_skip rfl rfl rfl ?_
    refine wt1_skip rfl rfl rfl ?_
    refine wt1_skip rfl rfl rfl ?_
    refine wt0_skip rfl rfl rfl ?_
    refine wt2_skip rfl rfl rfl O19 ?_
    refine wt1_skip rfl rfl rfl ?_
    refine wt1 (v := .bool true) rfl (fun ρ e W => ex_pick1 (e _ _ rfl) (e _ _ rfl)) rfl rfl ?_
    refine wt_nil ?_
    refine xw_next K15 ?_
    refine cw_true rfl ?_
    refine cw_seq (fun FK21 K21 => ?_)
    refine cw_region ?_
    refine wl_val (v := .slice none 0 0) (fun ρ e => ex_assign (e _ _ rfl)) rfl rfl ?_
    refine wl_val (v := .int .i64 1) (fun ρ e => ex_assign (e _ _ rfl)) rfl rfl ?_
    refine wl_nil ?_
    refine xw_next K21 ?_
    refine cw_ret ?_
    refine xw_past (by intro h; cases h) ?_
    refine xw_ret (v := .tuple #[.slice none 0 0, .int .i64 1]) (fun T hT => res2 rfl T _ (hT 4 _ rfl) (hT 5 _ rfl)) ?_
    have hcan : canB ts 1 at_ = false := by unfold canB; rw [chk_no c20]; rfl
    rw [mov_no hcan]
    have O22 := O19.nilrow 38 3
    exact ⟨none, 0, rfl, O22.re [0] rfl⟩
  · skip
    have hok : okT ts = true := chk_ok (by omega)
    have hV := okT_val hok
    have hpos := hV.pos
    have hle := hV.le
    obtain ⟨b, o, c', hv, hDb⟩ := hN.form hpos
    injection hv with hA _ hc
    subst hA hc
    refine wt1 (v := .bool false) rfl (fun ρ e W => ex_cmp (u := (chkV ts)) (v := 0) (e _ _ rfl) (e _ _ rfl) (neq0 (by omega))) rfl rfl ?_
    refine wt1 (v := .bool false) rfl (fun ρ e W => ex_move (e _ _ rfl)) rfl rfl ?_
    refine wt0 (v := .slice (some ⟨b, o, none⟩) ts.length c0) rfl (fun ρ e W hW => ex_load1 ty23 (e _ _ rfl) (hW.cell 1 0 rfl rfl)) rfl rfl ?_
    refine wt0 (v := .int .i64 at_) rfl (fun ρ e W hW => ex_load1 ty3 (e _ _ rfl) (hW.cell 0 0 rfl rfl)) rfl rfl ?_
    by_cases c23 : (innerB ts at_) = true
    · skip
      obtain ⟨k, a, b2, rfl, hx⟩ := inner_get hV c23
      have hkl := hV.in_ hx
      refine wt2_call (args := [.slice (some ⟨b, o, none⟩) ts.length c0, .int .i64 (k : Int)]) rfl in_59 rfl rfl rfl ?_
      refine (innerb_ (hN.move (fun k hk => (O19.old).block k (hD k hk))) (fun k hk => Nat.lt_of_lt_of_le (hD k hk) (O19.old).size) (show innerB ts (k : Int) = true from c23)).mono ?_
      rintro _ w24 ⟨rfl, hb25⟩
      have O26 : Own Z0 W w24 [.blk g8 3 #[.int .i64 (k : Int)], .blk g2 23 #[.slice (some ⟨b, o, none⟩) ts.length c0]] := O19.below hb25
      refine ⟨_, rfl, O26, ?_⟩
      refine wt1 (v := .bool false) rfl (fun ρ e W => ex_lnot (b := true) (e _ _ rfl)) rfl rfl ?_
      refine wt1 (v := .bool false) rfl (fun ρ e W => ex_pick0 (e _ _ rfl) (e _ _ rfl)) rfl rfl ?_
      refine wt1 (v := .bool false) rfl (fun ρ e W => ex_move (e _ _ rfl)) rfl rfl ?_
      refine wt0 (v := .slice (some ⟨b, o, none⟩) ts.length c0) rfl (fun ρ e W hW => ex_load1 ty23 (e _ _ rfl) (hW.cell 1 0 rfl rfl)) rfl rfl ?_
      refine wt0 (v := .slice (some ⟨b, o, none⟩) ts.length c0) rfl (fun ρ e W hW => ex_load1 ty23 (e _ _ rfl) (hW.cell 1 0 rfl rfl)) rfl rfl ?_
      refine wt0 (v := .int .i64 (k : Int)) rfl (fun ρ e W hW => ex_load1 ty3 (e _ _ rfl) (hW.cell 0 0 rfl rfl)) rfl rfl ?_
      refine wt1 (v := .pointer (some ⟨b, o + k * 3, none⟩)) rfl (fun ρ e W => ex_idx (q := o + k * 3) (i := k) el23 (e _ _ rfl) (e _ _ rfl) (by omega) (by omega)) rfl rfl ?_
      refine wt1 (v := .pointer (some ⟨b, o + k * 3, none⟩)) rfl (fun ρ e W => ex_field (q := o + k * 3) fi38_0 (e _ _ rfl) rfl) rfl rfl ?_
      refine wt0 (v := .int .i64 (a : Int)) rfl (fun ρ e W hW => ex_load1 ty3 (e _ _ rfl) (NodesD.c0 (hN.move (fun k hk => (hW.old).block k (hD k hk))) hx)) rfl rfl ?_
      by_cases c27 : (innerB ts (a : Int)) = true
      · skip
        obtain ⟨p, q, hlow⟩ := inner_nat hV c27
        refine wt2_call (args := [.slice (some ⟨b, o, none⟩) ts.length c0, .int .i64 (a : Int)]) rfl in_59 rfl rfl rfl ?_
        refine (innerb_ (hN.move (fun k hk => (O26.old).block k (hD k hk))) (fun k hk => Nat.lt_of_lt_of_le (hD k hk) (O26.old).size) (show innerB ts (a : Int) = true from c27)).mono ?_
        rintro _ w28 ⟨rfl, hb29⟩
        have O30 : Own Z0 W w28 [.blk g8 3 #[.int .i64 (k : Int)], .blk g2 23 #[.slice (some ⟨b, o, none⟩) ts.length c0]] := O26.below hb29
        refine ⟨_, rfl, O30, ?_⟩
        refine wt1 (v := .bool false) rfl (fun ρ e W => ex_lnot (b := true) (e _ _ rfl)) rfl rfl ?_
        refine wt1 (v := .bool false) rfl (fun ρ e W => ex_pick0 (e _ _ rfl) (e _ _ rfl)) rfl rfl ?_
        refine wt_nil ?_
        refine xw_next K15 ?_
        refine cw_false rfl ?_
        refine cw_skip ?_
        refine xw_next K14 ?_
        refine cw_seq (fun FK31 K31 => ?_)
        refine cw_region ?_
        refine wl_val (v := .slice (some ⟨b, o, none⟩) ts.length c0) (fun ρ e => ex_load1 ty23 (e _ _ rfl) (O30.cell 1 0 rfl rfl)) rfl rfl ?_
        refine wl_val (v := .int .i64 (k : Int)) (fun ρ e => ex_load1 ty3 (e _ _ rfl) (O30.cell 0 0 rfl rfl)) rfl rfl ?_
        refine wl_val (v := .pointer (some ⟨b, o + k * 3, none⟩)) (fun ρ e => ex_idx (q := o + k * 3) (i := k) el23 (e _ _ rfl) (e _ _ rfl) (by omega) (by omega)) rfl rfl ?_
        refine wl_val (v := .pointer (some ⟨b, o + k * 3, none⟩)) (fun ρ e => ex_field (q := o + k * 3) fi38_0 (e _ _ rfl) rfl) rfl rfl ?_
        refine wl_val (v := .int .i64 (a : Int)) (fun ρ e => ex_load1 ty3 (e _ _ rfl) (NodesD.c0 (hN.move (fun k hk => (O30.old).block k (hD k hk))) hx)) rfl rfl ?_
        obtain ⟨g32, w33, r34, O35, hg36, hs37⟩ := own_alloc O30 3 ze3 rfl
        refine wl_val (v := .pointer (some ⟨g32, 0, none⟩)) (fun ρ e => r34 ρ _ _ _ _ _) rfl rfl ?_
        obtain ⟨w38, r39, O40, hs41⟩ := own_put (o := 0) (n := 1) O35 ty3 (.int .i64 (a : Int)) [.int .i64 (a : Int)] (cs' := #[.int .i64 (a : Int)]) rfl rfl rfl (Nat.le_of_ble_eq_true rfl) rfl
        refine wl_none (fun ρ e => r39 ρ _ _ _ _ _ _ (e _ _ rfl) (e _ _ rfl)) rfl ?_
        refine wl_nil ?_
        refine xw_next K31 ?_
        refine cw_seq (fun FK42 K42 => ?_)
        refine cw_region ?_
        refine wl_val (v := .slice (some ⟨b, o, none⟩) ts.length c0) (fun ρ e => ex_load1 ty23 (e _ _ rfl) (O40.cell 2 0 rfl rfl)) rfl rfl ?_
        refine wl_val (v := .int .i64 (k : Int)) (fun ρ e => ex_load1 ty3 (e _ _ rfl) (O40.cell 1 0 rfl rfl)) rfl rfl ?_
        refine wl_val (v := .pointer (some ⟨b, o + k * 3, none⟩)) (fun ρ e => ex_idx (q := o + k * 3) (i := k) el23 (e _ _ rfl) (e _ _ rfl) (by omega) (by omega)) rfl rfl ?_
        refine wl_val (v := .agg #[.int .i64 (a : Int), .int .i64 (b2 : Int), .int .i64 0]) (fun ρ e => ex_loadN (vs := [.int .i64 (a : Int), .int .i64 (b2 : Int), .int .i64 0]) ty38 (e _ _ rfl) rfl (cells3 (NodesD.c0 (hN.move (fun k hk => (O40.old).block k (hD k hk))) hx) (NodesD.c1 (hN.move (fun k hk => (O40.old).block k (hD k hk))) hx) (NodesD.c2 (hN.move (fun k hk => (O40.old).block k (hD k hk))) hx))) rfl rfl ?_
        obtain ⟨g43, w44, r45, O46, hg47, hs48⟩ := own_alloc O40 38 ze38 rfl
        refine wl_val (v := .pointer (some ⟨g43, 0, none⟩)) (fun ρ e => r45 ρ _ _ _ _ _) rfl rfl ?_
        obtain ⟨w49, r50, O51, hs52⟩ := own_put (o := 0) (n := 3) O46 ty38 (.agg #[.int .i64 (a : Int), .int .i64 (b2 : Int), .int .i64 0]) [.int .i64 (a : Int), .int .i64 (b2 : Int), .int .i64 0] (cs' := #[.int .i64 (a : Int), .int .i64 (b2 : Int), .int .i64 0]) rfl rfl rfl (Nat.le_of_ble_eq_true rfl) rfl
        refine wl_none (fun ρ e => r50 ρ _ _ _ _ _ _ (e _ _ rfl) (e _ _ rfl)) rfl ?_
        refine wl_nil ?_
        refine xw_next K42 ?_
        refine cw_seq (fun FK53 K53 => ?_)
        refine cw_region ?_
        refine wl_val (v := .slice (some ⟨b, o, none⟩) ts.length c0) (fun ρ e => ex_load1 ty23 (e _ _ rfl) (O51.cell 3 0 rfl rfl)) rfl rfl ?_
        refine wl_val (v := .func (.func 61) #[] #[.pointer (some ⟨g8, 0, none⟩), .pointer (some ⟨g2, 0, none⟩), .pointer (some ⟨g32, 0, none⟩), .pointer (some ⟨g43, 0, none⟩)]) (fun ρ e => ex_func (us := []) (vs := [.pointer (some ⟨g8, 0, none⟩), .pointer (some ⟨g2, 0, none⟩), .pointer (some ⟨g32, 0, none⟩), .pointer (some ⟨g43, 0, none⟩)]) (e.list rfl) (e.list rfl)) rfl rfl ?_
        refine wl_call (args := [.slice (some ⟨b, o, none⟩) ts.length c0, .func (.func 61) #[] #[.pointer (some ⟨g8, 0, none⟩), .pointer (some ⟨g2, 0, none⟩), .pointer (some ⟨g32, 0, none⟩), .pointer (some ⟨g43, 0, none⟩)]]) in_60 rfl rfl rfl ?_
        have hpx := pxr_holds (ac := g8) (tc := g2) (lc := g32) (xc := g43) (O51.blk 2 rfl) (O51.blk 3 rfl) (O51.blk 1 rfl) (O51.blk 0 rfl) (hN.move (fun k hk => (O51.old).block k (hD k hk))) (fun k hk => Nat.lt_of_lt_of_le (hD k hk) (O51.old).size)
        obtain ⟨⟨vs, hAt⟩, hsz⟩ := mvR hV hx hlow
        refine (postorder_ (f := fR k a p q b2) (caps := [.pointer (some ⟨g8, 0, none⟩), .pointer (some ⟨g2, 0, none⟩), .pointer (some ⟨g32, 0, none⟩), .pointer (some ⟨g43, 0, none⟩)]) in_61 (fun i a b a' b' _ hf W hW => chr_ hf hlow hW.1.2.2.2.2 hW.2 hW.1.1 hW.1.2.1 hW.1.2.2.1 hW.1.2.2.2.1) hAt (by omega) hpos hle (hN.move (fun k hk => (O51.old).block k (hD k hk))) (fun k hk => Nat.lt_of_lt_of_le (hD k hk) (O51.old).size) hpx).mono ?_
        rintro _ w56 ⟨A54, c55, rfl, h57⟩
        have O58 := O51.join1 h57 trivial
        refine ⟨_, rfl, ?_⟩
        refine wl_val (v := .slice A54 (Tr.size (chT ts 1 k ts.length (ts.length - 1))) c55) (fun ρ e => ex_assign (e _ _ rfl)) rfl rfl ?_
        refine wl_val (v := .int .i64 0) (fun ρ e => ex_assign (e _ _ rfl)) rfl rfl ?_
        refine wl_nil ?_
        refine xw_next K53 ?_
        refine cw_ret ?_
        refine xw_ret (v := .tuple #[.slice A54 (Tr.size (chT ts 1 k ts.length (ts.length - 1))) c55, .int .i64 0]) (fun T hT => res2 rfl T _ (hT 4 _ rfl) (hT 5 _ rfl)) ?_
        have hcan : canB ts 1 (k : Int) = true := by unfold canB; rw [hok, c23, child_at hx]; simpa using c27
        rw [mov_yes hcan]
        simp only [post_len]
        exact ⟨A54, c55, rfl, (O58.re [0] rfl : Own Z0 W w56 [.row (.slice A54 (Tr.size (chT ts 1 k ts.length (ts.length - 1))) c55) 38 3 (Tr.size (chT ts 1 k ts.length (ts.length - 1))) (ncells (post (chT ts 1 k ts.length (ts.length - 1)) 0))])⟩
      · skip
        refine wt2_call (args := [.slice (some ⟨b, o, none⟩) ts.length c0, .int .i64 (a : Int)]) rfl in_59 rfl rfl rfl ?_
        refine (innerb_ (hN.move (fun k hk => (O26.old).block k (hD k hk))) (fun k hk => Nat.lt_of_lt_of_le (hD k hk) (O26.old).size) (show innerB ts (a : Int) = false from Bool.eq_false_iff.2 c27)).mono ?_
        rintro _ w59 ⟨rfl, hb60⟩
        have O61 : Own Z0 W w59 [.blk g8 3 #[.int .i64 (k : Int)], .blk g2 23 #[.slice (some ⟨b, o, none⟩) ts.length c0]] := O26.below hb60
        refine ⟨_, rfl, O61, ?_⟩
        refine wt1 (v := .bool true) rfl (fun ρ e W => ex_lnot (b := false) (e _ _ rfl)) rfl rfl ?_
        refine wt1 (v := .bool true) rfl (fun ρ e W => ex_pick0 (e _ _ rfl) (e _ _ rfl)) rfl rfl ?_
        refine wt_nil ?_
        refine xw_next K15 ?_
        refine cw_true rfl ?_
        refine cw_seq (fun FK62 K62 => ?_)
        refine cw_region ?_
        refine wl_val (v := .slice none 0 0) (fun ρ e => ex_assign (e _ _ rfl)) rfl rfl ?_
        refine wl_val (v := .int .i64 1) (fun ρ e => ex_assign (e _ _ rfl)) rfl rfl ?_
        refine wl_nil ?_
        refine xw_next K62 ?_
        refine cw_ret ?_
        refine xw_past (by intro h; cases h) ?_
        refine xw_ret (v := .tuple #[.slice none 0 0, .int .i64 1]) (fun T hT => res2 rfl T _ (hT 4 _ rfl) (hT 5 _ rfl)) ?_
        have hcan : canB ts 1 (k : Int) = false := by unfold canB; rw [child_at hx, Bool.and_eq_false_iff]; right; simpa using c27
        rw [mov_no hcan]
        have O63 := O61.nilrow 38 3
        exact ⟨none, 0, rfl, O63.re [0] rfl⟩
    · skip
      refine wt2_call (args := [.slice (some ⟨b, o, none⟩) ts.length c0, .int .i64 at_]) rfl in_59 rfl rfl rfl ?_
      refine (innerb_ (hN.move (fun k hk => (O19.old).block k (hD k hk))) (fun k hk => Nat.lt_of_lt_of_le (hD k hk) (O19.old).size) (show innerB ts at_ = false from Bool.eq_false_iff.2 c23)).mono ?_
      rintro _ w64 ⟨rfl, hb65⟩
      have O66 : Own Z0 W w64 [.blk g8 3 #[.int .i64 at_], .blk g2 23 #[.slice (some ⟨b, o, none⟩) ts.length c0]] := O19.below hb65
      refine ⟨_, rfl, O66, ?_⟩
      refine wt1 (v := .bool true) rfl (fun ρ e W => ex_lnot (b := false) (e _ _ rfl)) rfl rfl ?_
      refine wt1 (v := .bool true) rfl (fun ρ e W => ex_pick0 (e _ _ rfl) (e _ _ rfl)) rfl rfl ?_
      refine wt1 (v := .bool true) rfl (fun ρ e W => ex_move (e _ _ rfl)) rfl rfl ?_
      refine wt0_skip rfl rfl rfl ?_
      refine wt0_skip rfl rfl rfl ?_
      refine wt0_skip rfl rfl rfl ?_
      refine wt1_skip rfl rfl rfl ?_
      refine wt1_skip rfl rfl rfl ?_
      refine wt0_skip rfl rfl rfl ?_
      refine wt2_skip rfl rfl rfl O66 ?_
      refine wt1_skip rfl rfl rfl ?_
      refine wt1 (v := .bool true) rfl (fun ρ e W => ex_pick1 (e _ _ rfl) (e _ _ rfl)) rfl rfl ?_
      refine wt_nil ?_
      refine xw_next K15 ?_
      refine cw_true rfl ?_
      refine cw_seq (fun FK67 K67 => ?_)
      refine cw_region ?_
      refine wl_val (v := .slice none 0 0) (fun ρ e => ex_assign (e _ _ rfl)) rfl rfl ?_
      refine wl_val (v := .int .i64 1) (fun ρ e => ex_assign (e _ _ rfl)) rfl rfl ?_
      refine wl_nil ?_
      refine xw_next K67 ?_
      refine cw_ret ?_
      refine xw_past (by intro h; cases h) ?_
      refine xw_ret (v := .tuple #[.slice none 0 0, .int .i64 1]) (fun T hT => res2 rfl T _ (hT 4 _ rfl) (hT 5 _ rfl)) ?_
      have hcan : canB ts 1 at_ = false := by unfold canB; rw [Bool.eq_false_iff.2 c23]; simp
      rw [mov_no hcan]
      have O68 := O66.nilrow 38 3
      exact ⟨none, 0, rfl, O68.re [0] rfl⟩
theorem rotl_ {W : World} {D : Nat → Prop} {V : Value} {ts : List VN} (hN : NodesD D W V ts) (hD : ∀ k, D k → k < W.heap.size) (at_ : Int) :
    Calls Tryd.prog 33 #[V, .int .i64 at_] W fun e w' => ∃ A' c', e = .returned (.tuple #[.slice A' (movOf ts 2 at_).1.length c', .int .i64 (movOf ts 2 at_).2]) ∧ Own Z0 W w' [.row (.slice A' (movOf ts 2 at_).1.length c') 38 3 (movOf ts 2 at_).1.length (ncells (movOf ts 2 at_).1)] := by
  obtain ⟨A, c0, rfl⟩ := hN.slice
  have O0 : Own Z0 W W [] := Own.start W
  refine sx_enter (args := [.slice A ts.length c0, .int .i64 at_]) Tryd.func33 rfl rfl (by simp) ?_
  refine cw_seq (fun FK1 K1 => ?_)
  refine cw_region ?_
  obtain ⟨g2, w3, r4, O5, hg6, hs7⟩ := own_box O0 23 (.slice A ts.length c0) rfl
  refine wl_val (v := .pointer (some ⟨g2, 0, none⟩)) (fun ρ e => r4 ρ _ _ _ _ _ _ (e _ _ rfl)) rfl rfl ?_
  obtain ⟨g8, w9, r10, O11, hg12, hs13⟩ := own_box O5 3 (.int .i64 at_) rfl
  refine wl_val (v := .pointer (some ⟨g8, 0, none⟩)) (fun ρ e => r10 ρ _ _ _ _ _ _ (e _ _ rfl)) rfl rfl ?_
  refine wl_val (v := .slice none 0 0) (fun ρ e => ex_assign (e _ _ rfl)) rfl rfl ?_
  refine wl_val (v := .int .i64 0) (fun ρ e => ex_assign (e _ _ rfl)) rfl rfl ?_
  refine wl_nil ?_
  refine xw_next K1 ?_
  refine cw_seq (fun FK14 K14 => ?_)
  refine cw_seq (fun FK15 K15 => ?_)
  refine cw_drawn (fun X => Own Z0 W X [.blk g8 3 #[.int .i64 at_], .blk g2 23 #[.slice A ts.length c0]]) 19 [(0, 0), (1, 2), (2, 1), (3, 1), (4, 0), (5, 0), (6, 2), (7, 1), (8, 1), (9, 1), (10, 0), (11, 0), (12, 0), (13, 1), (14, 1), (15, 0), (16, 2), (17, 1), (18, 1)] (by kernel_rfl) (by kernel_rfl) (PQ.then_ (PQ.then_ PQ.body)) (O11).drew ?_
  have O16 : Own Z0 W w9.drew [.blk g8 3 #[.int .i64 at_], .blk g2 23 #[.slice A ts.length c0]] := O11.drew
  refine wt0 (v := .slice A ts.length c0) rfl (fun ρ e W hW => ex_load1 ty23 (e _ _ rfl) (hW.cell 1 0 rfl rfl)) rfl rfl ?_
  refine wt2_call (args := [.slice A ts.length c0]) rfl in_23 rfl rfl rfl ?_
  refine (check_ (hN.move (fun k hk => (O16.old).block k (hD k hk))) (fun k hk => Nat.lt_of_lt_of_le (hD k hk) (O16.old).size)).mono ?_
  rintro _ w17 ⟨rfl, hb18⟩
  have O19 : Own Z0 W w17 [.blk g8 3 #[.int .i64 at_], .blk g2 23 #[.slice A ts.length c0]] := O16.below hb18
  refine ⟨_, rfl, O19, ?_⟩
  by_cases c20 : (chkV ts) ≠ 0
  · skip
    refine wt1 (v := .bool true) rfl (fun ρ e W => ex_cmp (u := (chkV ts)) (v := 0) (e _ _ rfl) (e _ _ rfl) (neq1 (by omega))) rfl rfl ?_
    refine wt1 (v := .bool true) rfl (fun ρ e W => ex_move (e _ _ rfl)) rfl rfl ?_
    refine wt0_skip rfl rfl rfl ?_
    refine wt0_skip rfl rfl rfl ?_
    refine wt2_skip rfl rfl rfl O19 ?_
    refine wt1_skip rfl rfl rfl ?_
    refine wt1 (v := .bool true) rfl (fun ρ e W => ex_pick1 (e _ _ rfl) (e _ _ rfl)) rfl rfl ?_
    refine wt1 (v := .bool true) rfl (fun ρ e W => ex_move (e _ _ rfl)) rfl rfl ?_
    refine wt0_skip rfl rfl rfl ?_
    refine wt0_skip rfl rfl rfl ?_
    refine wt0_skip rfl rfl rfl ?_
    refine wt1_skip rfl rfl rfl ?_
    refine wt1_skip rfl rfl rfl ?_
    refine wt0_skip rfl rfl rfl ?_
    refine wt2_skip rfl rfl rfl O19 ?_
    refine wt1_skip rfl rfl rfl ?_
    refine wt1 (v := .bool true) rfl (fun ρ e W => ex_pick1 (e _ _ rfl) (e _ _ rfl)) rfl rfl ?_
    refine wt_nil ?_
    refine xw_next K15 ?_
    refine cw_true rfl ?_
    refine cw_seq (fun FK21 K21 => ?_)
    refine cw_region ?_
    refine wl_val (v := .slice none 0 0) (fun ρ e => ex_assign (e _ _ rfl)) rfl rfl ?_
    refine wl_val (v := .int .i64 1) (fun ρ e => ex_assign (e _ _ rfl)) rfl rfl ?_
    refine wl_nil ?_
    refine xw_next K21 ?_
    refine cw_ret ?_
    refine xw_past (by intro h; cases h) ?_
    refine xw_ret (v := .tuple #[.slice none 0 0, .int .i64 1]) (fun T hT => res2 rfl T _ (hT 4 _ rfl) (hT 5 _ rfl)) ?_
    have hcan : canB ts 2 at_ = false := by unfold canB; rw [chk_no c20]; rfl
    rw [mov_no hcan]
    have O22 := O19.nilrow 38 3
    exact ⟨none, 0, rfl, O22.re [0] rfl⟩
  · skip
    have hok : okT ts = true := chk_ok (by omega)
    have hV := okT_val hok
    have hpos := hV.pos
    have hle := hV.le
    obtain ⟨b, o, c', hv, hDb⟩ := hN.form hpos
    injection hv with hA _ hc
    subst hA hc
    refine wt1 (v := .bool false) rfl (fun ρ e W => ex_cmp (u := (chkV ts)) (v := 0) (e _ _ rfl) (e _ _ rfl) (neq0 (by omega))) rfl rfl ?_
    refine wt1 (v := .bool false) rfl (fun ρ e W => ex_move (e _ _ rfl)) rfl rfl ?_
    refine wt0 (v := .slice (some ⟨b, o, none⟩) ts.length c0) rfl (fun ρ e W hW => ex_load1 ty23 (e _ _ rfl) (hW.cell 1 0 rfl rfl)) rfl rfl ?_
    refine wt0 (v := .int .i64 at_) rfl (fun ρ e W hW => ex_load1 ty3 (e _ _ rfl) (hW.cell 0 0 rfl rfl)) rfl rfl ?_
    by_cases c23 : (innerB ts at_) = true
    · skip
      obtain ⟨k, a, b2, rfl, hx⟩ := inner_get hV c23
      have hkl := hV.in_ hx
      refine wt2_call (args := [.slice (some ⟨b, o, none⟩) ts.length c0, .int .i64 (k : Int)]) rfl in_59 rfl rfl rfl ?_
      refine (innerb_ (hN.move (fun k hk => (O19.old).block k (hD k hk))) (fun k hk => Nat.lt_of_lt_of_le (hD k hk) (O19.old).size) (show innerB ts (k : Int) = true from c23)).mono ?_
      rintro _ w24 ⟨rfl, hb25⟩
      have O26 : Own Z0 W w24 [.blk g8 3 #[.int .i64 (k : Int)], .blk g2 23 #[.slice (some ⟨b, o, none⟩) ts.length c0]] := O19.below hb25
      refine ⟨_, rfl, O26, ?_⟩
      refine wt1 (v := .bool false) rfl (fun ρ e W => ex_lnot (b := true) (e _ _ rfl)) rfl rfl ?_
      refine wt1 (v := .bool false) rfl (fun ρ e W => ex_pick0 (e _ _ rfl) (e _ _ rfl)) rfl rfl ?_
      refine wt1 (v := .bool false) rfl (fun ρ e W => ex_move (e _ _ rfl)) rfl rfl ?_
      refine wt0 (v := .slice (some ⟨b, o, none⟩) ts.length c0) rfl (fun ρ e W hW => ex_load1 ty23 (e _ _ rfl) (hW.cell 1 0 rfl rfl)) rfl rfl ?_
      refine wt0 (v := .slice (some ⟨b, o, none⟩) ts.length c0) rfl (fun ρ e W hW => ex_load1 ty23 (e _ _ rfl) (hW.cell 1 0 rfl rfl)) rfl rfl ?_
      refine wt0 (v := .int .i64 (k : Int)) rfl (fun ρ e W hW => ex_load1 ty3 (e _ _ rfl) (hW.cell 0 0 rfl rfl)) rfl rfl ?_
      refine wt1 (v := .pointer (some ⟨b, o + k * 3, none⟩)) rfl (fun ρ e W => ex_idx (q := o + k * 3) (i := k) el23 (e _ _ rfl) (e _ _ rfl) (by omega) (by omega)) rfl rfl ?_
      refine wt1 (v := .pointer (some ⟨b, o + k * 3 + 1, none⟩)) rfl (fun ρ e W => ex_field (q := o + k * 3 + 1) fi38_1 (e _ _ rfl) rfl) rfl rfl ?_
      refine wt0 (v := .int .i64 (b2 : Int)) rfl (fun ρ e W hW => ex_load1 ty3 (e _ _ rfl) (NodesD.c1 (hN.move (fun k hk => (hW.old).block k (hD k hk))) hx)) rfl rfl ?_
      by_cases c27 : (innerB ts (b2 : Int)) = true
      · skip
        obtain ⟨p, q, hlow⟩ := inner_nat hV c27
        refine wt2_call (args := [.slice (some ⟨b, o, none⟩) ts.length c0, .int .i64 (b2 : Int)]) rfl in_59 rfl rfl rfl ?_
        refine (innerb_ (hN.move (fun k hk => (O26.old).block k (hD k hk))) (fun k hk => Nat.lt_of_lt_of_le (hD k hk) (O26.old).size) (show innerB ts (b2 : Int) = true from c27)).mono ?_
        rintro _ w28 ⟨rfl, hb29⟩
        have O30 : Own Z0 W w28 [.blk g8 3 #[.int .i64 (k : Int)], .blk g2 23 #[.slice (some ⟨b, o, none⟩) ts.length c0]] := O26.below hb29
        refine ⟨_, rfl, O30, ?_⟩
        refine wt1 (v := .bool false) rfl (fun ρ e W => ex_lnot (b := true) (e _ _ rfl)) rfl rfl ?_
        refine wt1 (v := .bool false) rfl (fun ρ e W => ex_pick0 (e _ _ rfl) (e _ _ rfl)) rfl rfl ?_
        refine wt_nil ?_
        refine xw_next K15 ?_
        refine cw_false rfl ?_
        refine cw_skip ?_
        refine xw_next K14 ?_
        refine cw_seq (fun FK31 K31 => ?_)
        refine cw_region ?_
        refine wl_val (v := .slice (some ⟨b, o, none⟩) ts.length c0) (fun ρ e => ex_load1 ty23 (e _ _ rfl) (O30.cell 1 0 rfl rfl)) rfl rfl ?_
        refine wl_val (v := .int .i64 (k : Int)) (fun ρ e => ex_load1 ty3 (e _ _ rfl) (O30.cell 0 0 rfl rfl)) rfl rfl ?_
        refine wl_val (v := .pointer (some ⟨b, o + k * 3, none⟩)) (fun ρ e => ex_idx (q := o + k * 3) (i := k) el23 (e _ _ rfl) (e _ _ rfl) (by omega) (by omega)) rfl rfl ?_
        refine wl_val (v := .pointer (some ⟨b, o + k * 3 + 1, none⟩)) (fun ρ e => ex_field (q := o + k * 3 + 1) fi38_1 (e _ _ rfl) rfl) rfl rfl ?_
        refine wl_val (v := .int .i64 (b2 : Int)) (fun ρ e => ex_load1 ty3 (e _ _ rfl) (NodesD.c1 (hN.move (fun k hk => (O30.old).block k (hD k hk))) hx)) rfl rfl ?_
        obtain ⟨g32, w33, r34, O35, hg36, hs37⟩ := own_alloc O30 3 ze3 rfl
        refine wl_val (v := .pointer (some ⟨g32, 0, none⟩)) (fun ρ e => r34 ρ _ _ _ _ _) rfl rfl ?_
        obtain ⟨w38, r39, O40, hs41⟩ := own_put (o := 0) (n := 1) O35 ty3 (.int .i64 (b2 : Int)) [.int .i64 (b2 : Int)] (cs' := #[.int .i64 (b2 : Int)]) rfl rfl rfl (Nat.le_of_ble_eq_true rfl) rfl
        refine wl_none (fun ρ e => r39 ρ _ _ _ _ _ _ (e _ _ rfl) (e _ _ rfl)) rfl ?_
        refine wl_nil ?_
        refine xw_next K31 ?_
        refine cw_seq (fun FK42 K42 => ?_)
        refine cw_region ?_
        refine wl_val (v := .slice (some ⟨b, o, none⟩) ts.length c0) (fun ρ e => ex_load1 ty23 (e _ _ rfl) (O40.cell 2 0 rfl rfl)) rfl rfl ?_
        refine wl_val (v := .int .i64 (k : Int)) (fun ρ e => ex_load1 ty3 (e _ _ rfl) (O40.cell 1 0 rfl rfl)) rfl rfl ?_
        refine wl_val (v := .pointer (some ⟨b, o + k * 3, none⟩)) (fun ρ e => ex_idx (q := o + k * 3) (i := k) el23 (e _ _ rfl) (e _ _ rfl) (by omega) (by omega)) rfl rfl ?_
        refine wl_val (v := .agg #[.int .i64 (a : Int), .int .i64 (b2 : Int), .int .i64 0]) (fun ρ e => ex_loadN (vs := [.int .i64 (a : Int), .int .i64 (b2 : Int), .int .i64 0]) ty38 (e _ _ rfl) rfl (cells3 (NodesD.c0 (hN.move (fun k hk => (O40.old).block k (hD k hk))) hx) (NodesD.c1 (hN.move (fun k hk => (O40.old).block k (hD k hk))) hx) (NodesD.c2 (hN.move (fun k hk => (O40.old).block k (hD k hk))) hx))) rfl rfl ?_
        obtain ⟨g43, w44, r45, O46, hg47, hs48⟩ := own_alloc O40 38 ze38 rfl
        refine wl_val (v := .pointer (some ⟨g43, 0, none⟩)) (fun ρ e => r45 ρ _ _ _ _ _) rfl rfl ?_
        obtain ⟨w49, r50, O51, hs52⟩ := own_put (o := 0) (n := 3) O46 ty38 (.agg #[.int .i64 (a : Int), .int .i64 (b2 : Int), .int .i64 0]) [.int .i64 (a : Int), .int .i64 (b2 : Int), .int .i64 0] (cs' := #[.int .i64 (a : Int), .int .i64 (b2 : Int), .int .i64 0]) rfl rfl rfl (Nat.le_of_ble_eq_true rfl) rfl
        refine wl_none (fun ρ e => r50 ρ _ _ _ _ _ _ (e _ _ rfl) (e _ _ rfl)) rfl ?_
        refine wl_nil ?_
        refine xw_next K42 ?_
        refine cw_seq (fun FK53 K53 => ?_)
        refine cw_region ?_
        refine wl_val (v := .slice (some ⟨b, o, none⟩) ts.length c0) (fun ρ e => ex_load1 ty23 (e _ _ rfl) (O51.cell 3 0 rfl rfl)) rfl rfl ?_
        refine wl_val (v := .func (.func 62) #[] #[.pointer (some ⟨g8, 0, none⟩), .pointer (some ⟨g32, 0, none⟩), .pointer (some ⟨g2, 0, none⟩), .pointer (some ⟨g43, 0, none⟩)]) (fun ρ e => ex_func (us := []) (vs := [.pointer (some ⟨g8, 0, none⟩), .pointer (some ⟨g32, 0, none⟩), .pointer (some ⟨g2, 0, none⟩), .pointer (some ⟨g43, 0, none⟩)]) (e.list rfl) (e.list rfl)) rfl rfl ?_
        refine wl_call (args := [.slice (some ⟨b, o, none⟩) ts.length c0, .func (.func 62) #[] #[.pointer (some ⟨g8, 0, none⟩), .pointer (some ⟨g32, 0, none⟩), .pointer (some ⟨g2, 0, none⟩), .pointer (some ⟨g43, 0, none⟩)]]) in_60 rfl rfl rfl ?_
        have hpx := pxr_holds (ac := g8) (tc := g2) (lc := g32) (xc := g43) (O51.blk 2 rfl) (O51.blk 3 rfl) (O51.blk 1 rfl) (O51.blk 0 rfl) (hN.move (fun k hk => (O51.old).block k (hD k hk))) (fun k hk => Nat.lt_of_lt_of_le (hD k hk) (O51.old).size)
        obtain ⟨⟨vs, hAt⟩, hsz⟩ := mvL hV hx hlow
        refine (postorder_ (f := fL k b2 p q a) (caps := [.pointer (some ⟨g8, 0, none⟩), .pointer (some ⟨g32, 0, none⟩), .pointer (some ⟨g2, 0, none⟩), .pointer (some ⟨g43, 0, none⟩)]) in_62 (fun i a b a' b' _ hf W hW => chl_ hf hlow hW.1.2.2.2.2 hW.2 hW.1.1 hW.1.2.2.1 hW.1.2.1 hW.1.2.2.2.1) hAt (by omega) hpos hle (hN.move (fun k hk => (O51.old).block k (hD k hk))) (fun k hk => Nat.lt_of_lt_of_le (hD k hk) (O51.old).size) hpx).mono ?_
        rintro _ w56 ⟨A54, c55, rfl, h57⟩
        have O58 := O51.join1 h57 trivial
        refine ⟨_, rfl, ?_⟩
        refine wl_val (v := .slice A54 (Tr.size (chT ts 2 k ts.length (ts.length - 1))) c55) (fun ρ e => ex_assign (e _ _ rfl)) rfl rfl ?_
        refine wl_val (v := .int .i64 0) (fun ρ e => ex_assign (e _ _ rfl)) rfl rfl ?_
        refine wl_nil ?_
        refine xw_next K53 ?_
        refine cw_ret ?_
        refine xw_ret (v := .tuple #[.slice A54 (Tr.size (chT ts 2 k ts.length (ts.length - 1))) c55, .int .i64 0]) (fun T hT => res2 rfl T _ (hT 4 _ rfl) (hT 5 _ rfl)) ?_
        have hcan : canB ts 2 (k : Int) = true := by unfold canB; rw [hok, c23, child_at hx]; simpa using c27
        rw [mov_yes hcan]
        simp only [post_len]
        exact ⟨A54, c55, rfl, (O58.re [0] rfl : Own Z0 W w56 [.row (.slice A54 (Tr.size (chT ts 2 k ts.length (ts.length - 1))) c55) 38 3 (Tr.size (chT ts 2 k ts.length (ts.length - 1))) (ncells (post (chT ts 2 k ts.length (ts.length - 1)) 0))])⟩
      · skip
        refine wt2_call (args := [.slice (some ⟨b, o, none⟩) ts.length c0, .int .i64 (b2 : Int)]) rfl in_59 rfl rfl rfl ?_
        refine (innerb_ (hN.move (fun k hk => (O26.old).block k (hD k hk))) (fun k hk => Nat.lt_of_lt_of_le (hD k hk) (O26.old).size) (show innerB ts (b2 : Int) = false from Bool.eq_false_iff.2 c27)).mono ?_
        rintro _ w59 ⟨rfl, hb60⟩
        have O61 : Own Z0 W w59 [.blk g8 3 #[.int .i64 (k : Int)], .blk g2 23 #[.slice (some ⟨b, o, none⟩) ts.length c0]] := O26.below hb60
        refine ⟨_, rfl, O61, ?_⟩
        refine wt1 (v := .bool true) rfl (fun ρ e W => ex_lnot (b := false) (e _ _ rfl)) rfl rfl ?_
        refine wt1 (v := .bool true) rfl (fun ρ e W => ex_pick0 (e _ _ rfl) (e _ _ rfl)) rfl rfl ?_
        refine wt_nil ?_
        refine xw_next K15 ?_
        refine cw_true rfl ?_
        refine cw_seq (fun FK62 K62 => ?_)
        refine cw_region ?_
        refine wl_val (v := .slice none 0 0) (fun ρ e => ex_assign (e _ _ rfl)) rfl rfl ?_
        refine wl_val (v := .int .i64 1) (fun ρ e => ex_assign (e _ _ rfl)) rfl rfl ?_
        refine wl_nil ?_
        refine xw_next K62 ?_
        refine cw_ret ?_
        refine xw_past (by intro h; cases h) ?_
        refine xw_ret (v := .tuple #[.slice none 0 0, .int .i64 1]) (fun T hT => res2 rfl T _ (hT 4 _ rfl) (hT 5 _ rfl)) ?_
        have hcan : canB ts 2 (k : Int) = false := by unfold canB; rw [child_at hx, Bool.and_eq_false_iff]; right; simpa using c27
        rw [mov_no hcan]
        have O63 := O61.nilrow 38 3
        exact ⟨none, 0, rfl, O63.re [0] rfl⟩
    · skip
      refine wt2_call (args := [.slice (some ⟨b, o, none⟩) ts.length c0, .int .i64 at_]) rfl in_59 rfl rfl rfl ?_
      refine (innerb_ (hN.move (fun k hk => (O19.old).block k (hD k hk))) (fun k hk => Nat.lt_of_lt_of_le (hD k hk) (O19.old).size) (show innerB ts at_ = false from Bool.eq_false_iff.2 c23)).mono ?_
      rintro _ w64 ⟨rfl, hb65⟩
      have O66 : Own Z0 W w64 [.blk g8 3 #[.int .i64 at_], .blk g2 23 #[.slice (some ⟨b, o, none⟩) ts.length c0]] := O19.below hb65
      refine ⟨_, rfl, O66, ?_⟩
      refine wt1 (v := .bool true) rfl (fun ρ e W => ex_lnot (b := false) (e _ _ rfl)) rfl rfl ?_
      refine wt1 (v := .bool true) rfl (fun ρ e W => ex_pick0 (e _ _ rfl) (e _ _ rfl)) rfl rfl ?_
      refine wt1 (v := .bool true) rfl (fun ρ e W => ex_move (e _ _ rfl)) rfl rfl ?_
      refine wt0_skip rfl rfl rfl ?_
      refine wt0_skip rfl rfl rfl ?_
      refine wt0_skip rfl rfl rfl ?_
      refine wt1_skip rfl rfl rfl ?_
      refine wt1_skip rfl rfl rfl ?_
      refine wt0_skip rfl rfl rfl ?_
      refine wt2_skip rfl rfl rfl O66 ?_
      refine wt1_skip rfl rfl rfl ?_
      refine wt1 (v := .bool true) rfl (fun ρ e W => ex_pick1 (e _ _ rfl) (e _ _ rfl)) rfl rfl ?_
      refine wt_nil ?_
      refine xw_next K15 ?_
      refine cw_true rfl ?_
      refine cw_seq (fun FK67 K67 => ?_)
      refine cw_region ?_
      refine wl_val (v := .slice none 0 0) (fun ρ e => ex_assign (e _ _ rfl)) rfl rfl ?_
      refine wl_val (v := .int .i64 1) (fun ρ e => ex_assign (e _ _ rfl)) rfl rfl ?_
      refine wl_nil ?_
      refine xw_next K67 ?_
      refine cw_ret ?_
      refine xw_past (by intro h; cases h) ?_
      refine xw_ret (v := .tuple #[.slice none 0 0, .int .i64 1]) (fun T hT => res2 rfl T _ (hT 4 _ rfl) (hT 5 _ rfl)) ?_
      have hcan : canB ts 2 at_ = false := by unfold canB; rw [Bool.eq_false_iff.2 c23]; simp
      rw [mov_no hcan]
      have O68 := O66.nilrow 38 3
      exact ⟨none, 0, rfl, O68.re [0] rfl⟩
theorem swap_ {W : World} {D : Nat → Prop} {V : Value} {ts : List VN} (hN : NodesD D W V ts) (hD : ∀ k, D k → k < W.heap.size) (at_ : Int) :
    Calls Tryd.prog 34 #[V, .int .i64 at_] W fun e w' => ∃ A' c', e = .returned (.tuple #[.slice A' (movOf ts 3 at_).1.length c', .int .i64 (movOf ts 3 at_).2]) ∧ Own Z0 W w' [.row (.slice A' (movOf ts 3 at_).1.length c') 38 3 (movOf ts 3 at_).1.length (ncells (movOf ts 3 at_).1)] := by
  obtain ⟨A, c0, rfl⟩ := hN.slice
  have O0 : Own Z0 W W [] := Own.start W
  refine sx_enter (args := [.slice A ts.length c0, .int .i64 at_]) Tryd.func34 rfl rfl (by simp) ?_
  refine cw_seq (fun FK1 K1 => ?_)
  refine cw_region ?_
  obtain ⟨g2, w3, r4, O5, hg6, hs7⟩ := own_box O0 3 (.int .i64 at_) rfl
  refine wl_val (v := .pointer (some ⟨g2, 0, none⟩)) (fun ρ e => r4 ρ _ _ _ _ _ _ (e _ _ rfl)) rfl rfl ?_
  refine wl_val (v := .slice none 0 0) (fun ρ e => ex_assign (e _ _ rfl)) rfl rfl ?_
  refine wl_val (v := .int .i64 0) (fun ρ e => ex_assign (e _ _ rfl)) rfl rfl ?_
  refine wl_nil ?_
  refine xw_next K1 ?_
  refine cw_seq (fun FK8 K8 => ?_)
  refine cw_seq (fun FK9 K9 => ?_)
  refine cw_region ?_
  refine wl_val (v := .slice A ts.length c0) (fun ρ e => ex_move (e _ _ rfl)) rfl rfl ?_
  refine wl_call (args := [.slice A ts.length c0]) in_23 rfl rfl rfl ?_
  refine (check_ (hN.move (fun k hk => (O5.old).block k (hD k hk))) (fun k hk => Nat.lt_of_lt_of_le (hD k hk) (O5.old).size)).mono ?_
  rintro _ w10 ⟨rfl, hb11⟩
  have O12 : Own Z0 W w10 [.blk g2 3 #[.int .i64 at_]] := O5.below hb11
  refine ⟨_, rfl, ?_⟩
  by_cases c13 : (chkV ts) ≠ 0
  · skip
    refine wl_val (v := .bool true) (fun ρ e => ex_cmp (u := (chkV ts)) (v := 0) (e _ _ rfl) (e _ _ rfl) (neq1 (by omega))) rfl rfl ?_
    refine wl_val (v := .bool true) (fun ρ e => ex_move (e _ _ rfl)) rfl rfl ?_
    refine wl_skip rfl rfl ?_
    refine wl_skip rfl rfl ?_
    refine wl_skip rfl rfl ?_
    refine wl_skip rfl rfl ?_
    refine wl_val (v := .bool true) (fun ρ e => ex_pick1 (e _ _ rfl) (e _ _ rfl)) rfl rfl ?_
    refine wl_nil ?_
    refine xw_next K9 ?_
    refine cw_true rfl ?_
    refine cw_seq (fun FK14 K14 => ?_)
    refine cw_region ?_
    refine wl_val (v := .slice none 0 0) (fun ρ e => ex_assign (e _ _ rfl)) rfl rfl ?_
    refine wl_val (v := .int .i64 1) (fun ρ e => ex_assign (e _ _ rfl)) rfl rfl ?_
    refine wl_nil ?_
    refine xw_next K14 ?_
    refine cw_ret ?_
    refine xw_past (by intro h; cases h) ?_
    refine xw_ret (v := .tuple #[.slice none 0 0, .int .i64 1]) (fun T hT => res2 rfl T _ (hT 4 _ rfl) (hT 5 _ rfl)) ?_
    have hcan : canB ts 3 at_ = false := by unfold canB; rw [chk_no c13]; rfl
    rw [mov_no hcan]
    have O15 := O12.nilrow 38 3
    exact ⟨none, 0, rfl, O15.re [0] rfl⟩
  · skip
    have hok : okT ts = true := chk_ok (by omega)
    have hV := okT_val hok
    have hpos := hV.pos
    have hle := hV.le
    obtain ⟨b, o, c', hv, hDb⟩ := hN.form hpos
    injection hv with hA _ hc
    subst hA hc
    refine wl_val (v := .bool false) (fun ρ e => ex_cmp (u := (chkV ts)) (v := 0) (e _ _ rfl) (e _ _ rfl) (neq0 (by omega))) rfl rfl ?_
    refine wl_val (v := .bool false) (fun ρ e => ex_move (e _ _ rfl)) rfl rfl ?_
    refine wl_val (v := .slice (some ⟨b, o, none⟩) ts.length c0) (fun ρ e => ex_move (e _ _ rfl)) rfl rfl ?_
    refine wl_val (v := .int .i64 at_) (fun ρ e => ex_load1 ty3 (e _ _ rfl) (O12.cell 0 0 rfl rfl)) rfl rfl ?_
    by_cases c16 : (innerB ts at_) = true
    · skip
      obtain ⟨k, a, b2, rfl, hx⟩ := inner_get hV c16
      have hkl := hV.in_ hx
      refine wl_call (args := [.slice (some ⟨b, o, none⟩) ts.length c0, .int .i64 (k : Int)]) in_59 rfl rfl rfl ?_
      refine (innerb_ (hN.move (fun k hk => (O12.old).block k (hD k hk))) (fun k hk => Nat.lt_of_lt_of_le (hD k hk) (O12.old).size) (show innerB ts (k : Int) = true from c16)).mono ?_
      rintro _ w17 ⟨rfl, hb18⟩
      have O19 : Own Z0 W w17 [.blk g2 3 #[.int .i64 (k : Int)]] := O12.below hb18
      refine ⟨_, rfl, ?_⟩
      refine wl_val (v := .bool false) (fun ρ e => ex_lnot (b := true) (e _ _ rfl)) rfl rfl ?_
      refine wl_val (v := .bool false) (fun ρ e => ex_pick0 (e _ _ rfl) (e _ _ rfl)) rfl rfl ?_
      refine wl_nil ?_
      refine xw_next K9 ?_
      refine cw_false rfl ?_
      refine cw_skip ?_
      refine xw_next K8 ?_
      refine cw_seq (fun FK20 K20 => ?_)
      refine cw_region ?_
      refine wl_val (v := .slice (some ⟨b, o, none⟩) ts.length c0) (fun ρ e => ex_move (e _ _ rfl)) rfl rfl ?_
      refine wl_val (v := .func (.func 63) #[] #[.pointer (some ⟨g2, 0, none⟩)]) (fun ρ e => ex_func (us := []) (vs := [.pointer (some ⟨g2, 0, none⟩)]) (e.list rfl) (e.list rfl)) rfl rfl ?_
      refine wl_call (args := [.slice (some ⟨b, o, none⟩) ts.length c0, .func (.func 63) #[] #[.pointer (some ⟨g2, 0, none⟩)]]) in_60 rfl rfl rfl ?_
      have hpx : (En.ro (fun k => k = g2) (fun w => Blk w g2 3 #[.int .i64 (k : Int)])).holds w17 := ⟨(O19.blk 0 rfl), fun j hj => hj ▸ (O19.blk 0 rfl).lt, fun _ _ _ hk h => (hk _ rfl).trans h⟩
      obtain ⟨⟨vs, hAt⟩, hsz⟩ := mvS hV hx
      refine (postorder_ (f := fS k) (caps := [.pointer (some ⟨g2, 0, none⟩)]) in_63 (fun i a b a' b' _ hf W hW => chs_ hf hW) hAt (by omega) hpos hle (hN.move (fun k hk => (O19.old).block k (hD k hk))) (fun k hk => Nat.lt_of_lt_of_le (hD k hk) (O19.old).size) hpx).mono ?_
      rintro _ w23 ⟨A21, c22, rfl, h24⟩
      have O25 := O19.join1 h24 trivial
      refine ⟨_, rfl, ?_⟩
      refine wl_val (v := .slice A21 (Tr.size (chT ts 3 k ts.length (ts.length - 1))) c22) (fun ρ e => ex_assign (e _ _ rfl)) rfl rfl ?_
      refine wl_val (v := .int .i64 0) (fun ρ e => ex_assign (e _ _ rfl)) rfl rfl ?_
      refine wl_nil ?_
      refine xw_next K20 ?_
      refine cw_ret ?_
      refine xw_ret (v := .tuple #[.slice A21 (Tr.size (chT ts 3 k ts.length (ts.length - 1))) c22, .int .i64 0]) (fun T hT => res2 rfl T _ (hT 4 _ rfl) (hT 5 _ rfl)) ?_
      have hcan : canB ts 3 (k : Int) = true := by unfold canB; rw [hok, c16]; rfl
      rw [mov_yes hcan]
      simp only [post_len]
      exact ⟨A21, c22, rfl, (O25.re [0] rfl : Own Z0 W w23 [.row (.slice A21 (Tr.size (chT ts 3 k ts.length (ts.length - 1))) c22) 38 3 (Tr.size (chT ts 3 k ts.length (ts.length - 1))) (ncells (post (chT ts 3 k ts.length (ts.length - 1)) 0))])⟩
    · skip
      refine wl_call (args := [.slice (some ⟨b, o, none⟩) ts.length c0, .int .i64 at_]) in_59 rfl rfl rfl ?_
      refine (innerb_ (hN.move (fun k hk => (O12.old).block k (hD k hk))) (fun k hk => Nat.lt_of_lt_of_le (hD k hk) (O12.old).size) (show innerB ts at_ = false from Bool.eq_false_iff.2 c16)).mono ?_
      rintro _ w26 ⟨rfl, hb27⟩
      have O28 : Own Z0 W w26 [.blk g2 3 #[.int .i64 at_]] := O12.below hb27
      refine ⟨_, rfl, ?_⟩
      refine wl_val (v := .bool true) (fun ρ e => ex_lnot (b := false) (e _ _ rfl)) rfl rfl ?_
      refine wl_val (v := .bool true) (fun ρ e => ex_pick0 (e _ _ rfl) (e _ _ rfl)) rfl rfl ?_
      refine wl_nil ?_
      refine xw_next K9 ?_
      refine cw_true rfl ?_
      refine cw_seq (fun FK29 K29 => ?_)
      refine cw_region ?_
      refine wl_val (v := .slice none 0 0) (fun ρ e => ex_assign (e _ _ rfl)) rfl rfl ?_
      refine wl_val (v := .int .i64 1) (fun ρ e => ex_assign (e _ _ rfl)) rfl rfl ?_
      refine wl_nil ?_
      refine xw_next K29 ?_
      refine cw_ret ?_
      refine xw_past (by intro h; cases h) ?_
      refine xw_ret (v := .tuple #[.slice none 0 0, .int .i64 1]) (fun T hT => res2 rfl T _ (hT 4 _ rfl) (hT 5 _ rfl)) ?_
      have hcan : canB ts 3 at_ = false := by unfold canB; rw [Bool.eq_false_iff.2 c16]; simp
      rw [mov_no hcan]
      have O30 := O28.nilrow 38 3
      exact ⟨none, 0, rfl, O30.re [0] rfl⟩

end Go.Proofs.YtpeoodkepjhhiaaDoor
namespace Go.Proofs.YtpeoodkepjhhiaaDoor

def ordB (l : List Int) : Bool := decide (0 < l.length) && (l.all fun v => decide (1 ≤ v) && decide (v ≤ 128)) && decide l.Nodup
def opreB (l : List Int) : Bool := (l.all fun v => decide (1 ≤ v) && decide (v ≤ 128)) && decide l.Nodup
theorem ordB_iff {l : List Int} : ordB l = true ↔ 0 < l.length ∧ opreB l = true := by
  unfold ordB opreB
  simp only [Bool.and_eq_true, decide_eq_true_eq, and_assoc]
theorem opreB_iff {l : List Int} : opreB l = true ↔ (∀ v ∈ l, 1 ≤ v ∧ v ≤ 128) ∧ l.Nodup := by
  unfold opreB
  simp only [Bool.and_eq_true, decide_eq_true_eq, List.all_eq_true]
theorem opre_snoc {l : List Int} {v : Int} (h : opreB l = true) : opreB (l ++ [v]) = true ↔ 1 ≤ v ∧ v ≤ 128 ∧ v ∉ l := by
  rw [opreB_iff] at h ⊢
  rw [nodup_snoc]
  constructor
  · rintro ⟨h1, h2, h3⟩
    have := h1 v (by simp)
    exact ⟨this.1, this.2, h3⟩
  · rintro ⟨h1, h2, h3⟩
    refine ⟨fun u hu => ?_, h.2, h3⟩
    rcases List.mem_append.1 hu with hu | hu
    · exact h.1 u hu
    · rw [List.mem_singleton.1 hu]; exact ⟨h1, h2⟩
theorem opre_take {l : List Int} (h : opreB l = true) (k : Nat) : opreB (l.take k) = true := by
  rw [opreB_iff] at h ⊢
  exact ⟨fun v hv => h.1 v (List.mem_of_mem_take hv), h.2.sublist (List.take_sublist _ _)⟩
/-- The tree of variables, of which g says how many are below a node's left child. -/
def mkT (g : Nat → Nat) : Nat → List Int → Tr
  | 0, _ => .leaf 0
  | n + 1, l => if l.length ≤ 1 then .leaf (l.getD 0 0) else .node (mkT g n (l.take (g l.length))) (mkT g n (l.drop (g l.length)))
def gOf (kind : Nat) : Nat → Nat := if kind = 1 then fun _ => 1 else if kind = 2 then fun k => k - 1 else fun k => (k + 1) / 2
def makeOf (kind : Nat) (l : List Int) : List VN × Int := if ordB l then (post (mkT (gOf kind) l.length l) 0, 0) else ([], 1)
theorem gOf_good (kind m : Nat) (h : 2 ≤ m) : 1 ≤ gOf kind m ∧ gOf kind m < m := by
  unfold gOf
  split
  · dsimp only; omega
  · split
    · dsimp only; omega
    · dsimp only; omega
theorem mkT_one {g : Nat → Nat} {n : Nat} {l : List Int} {v : Int} (h : l.length = 1) (hv : l[0]? = some v) : mkT g (n + 1) l = .leaf v := by
  unfold mkT
  rw [if_pos (by omega), List.getD_eq_getElem?_getD, hv]
  rfl
theorem mkT_more {g : Nat → Nat} {n : Nat} {l : List Int} (h : 2 ≤ l.length) : mkT g (n + 1) l = .node (mkT g n (l.take (g l.length))) (mkT g n (l.drop (g l.length))) := by
  conv => lhs; unfold mkT
  rw [if_neg (by omega)]
theorem mkT_leaves {g : Nat → Nat} (hg : ∀ m, 2 ≤ m → 1 ≤ g m ∧ g m < m) : ∀ (n : Nat) (l : List Int), 0 < l.length → l.length ≤ n → (mkT g n l).leaves = l ∧ (mkT g n l).size = 2 * l.length - 1
  | 0, l, h1, h2 => by omega
  | n + 1, l, h1, h2 => by
    by_cases h : l.length ≤ 1
    · match l, h1, h with
      | [v], _, _ => exact ⟨rfl, rfl⟩
    · have hk := hg l.length (by omega)
      rw [mkT_more (by omega)]
      obtain ⟨q1, q2⟩ := mkT_leaves hg n (l.take (g l.length)) (by rw [List.length_take]; omega) (by rw [List.length_take]; omega)
      obtain ⟨q3, q4⟩ := mkT_leaves hg n (l.drop (g l.length)) (by rw [List.length_drop]; omega) (by rw [List.length_drop]; omega)
      refine ⟨by simp only [Tr.leaves, q1, q3, List.take_append_drop], ?_⟩
      simp only [Tr.size, q2, q4, List.length_take, List.length_drop]
      omega
end Go.Proofs.YtpeoodkepjhhiaaDoor
namespace Go.Proofs.YtpeoodkepjhhiaaDoor
open Go Go.RowKit
theorem IntsD.cellq {D : Nat → Prop} {w : World} {b o n c k : Nat} {xs : List Int} {x : Int} (h : IntsD D w (.slice (some ⟨b, o, none⟩) n c) xs) (hk : xs[k]? = some x) : w.cell? ⟨b, o + k, none⟩ = some (.int .i64 x) := by
  obtain ⟨hl, rfl⟩ := List.getElem?_eq_some_iff.1 hk
  exact h.cell hl
theorem ordered_ {W : World} {D : Nat → Prop} {V : Value} {l : List Int} (hI : IntsD D W V l) (hD : ∀ k, D k → k < W.heap.size) (hsz : l.length ≤ 1000000) :
    Calls Tryd.prog 75 #[V] W fun e w' => e = .returned (.bool (ordB l)) ∧ Below W.heap.size W w' := by
  obtain ⟨A, c, rfl⟩ := hI.slice
  rcases Nat.eq_zero_or_pos l.length with h0 | h0
  · skip
    have O0 : Own Z0 W W [] := Own.start W
    refine sx_enter (args := [.slice A l.length c]) Tryd.func75 rfl rfl (by simp) ?_
    refine cw_seq (fun FK1 K1 => ?_)
    refine cw_region ?_
    refine wl_val (v := .bool false) (fun ρ e => ex_assign (e _ _ rfl)) rfl rfl ?_
    refine wl_nil ?_
    refine xw_next K1 ?_
    refine cw_seq (fun FK2 K2 => ?_)
    refine cw_region ?_
    obtain ⟨g3, w4, r5, O6, hg7, hs8⟩ := own_alloc O0 70 ze70 (cs := (boolCs (flagL 129 [])).toArray) (by rw [flagL_nil]; simp [boolCs, Value.cells])
    refine wl_val (v := .pointer (some ⟨g3, 0, none⟩)) (fun ρ e => r5 ρ _ _ _ _ _) rfl rfl ?_
    refine wl_nil ?_
    refine xw_next K2 ?_
    refine cw_seq (fun FK9 K9 => ?_)
    refine cw_seq (fun FK10 K10 => ?_)
    refine cw_region ?_
    refine wl_val (v := .slice A l.length c) (fun ρ e => ex_move (e _ _ rfl)) rfl rfl ?_
    refine wl_val (v := .int .i64 ((l.length : Nat) : Int)) (fun ρ e => ex_len el36 (e _ _ rfl)) rfl rfl ?_
    refine wl_val (v := .int .i64 0) (fun ρ e => ex_move (e _ _ rfl)) rfl rfl ?_
    refine wl_nil ?_
    refine xw_next K10 ?_
    refine cw_block ?_
    have O11 : Own Z0 W w4 [.blk g3 70 ((boolCs (flagL 129 [])).toArray)] := O6
    refine cw_loop (ι := Nat) (fun q => [(0, .slice A l.length c), (3, .pointer (some ⟨g3, 0, none⟩)), (6, .slice A l.length c), (7, .int .i64 ((l.length : Nat) : Int)), (8, .int .i64 (q : Int))]) (fun q X => (q ≤ l.length) ∧ (opreB (l.take q) = true) ∧ Own Z0 W X [.blk g3 70 ((boolCs (flagL 129 (l.take q))).toArray)]) (fun q => l.length - q) 0 ⟨Nat.zero_le _, (by rw [List.take_zero]; rfl), O11⟩ ⟨rfl, rfl, rfl, rfl, rfl, trivial⟩ (fun q w12 hJ F13 K14 => ?_)
    obtain ⟨i, rfl⟩ : ∃ x, x = q := ⟨_, rfl⟩
    obtain ⟨hi0, hp, O15⟩ := hJ
    try dsimp only at hi0 hp O15 ⊢
    by_cases hi : i < l.length
    · skip
      exact absurd hi (by omega)
    · have hie : i = l.length := by omega
      refine cw_seq (fun FK16 K16 => ?_)
      refine cw_region ?_
      refine wl_val (v := .bool false) (fun ρ e => ex_cmp (u := (i : Int)) (v := ((l.length : Nat) : Int)) (e _ _ rfl) (e _ _ rfl) (lss0 (by omega))) rfl rfl ?_
      refine wl_nil ?_
      refine xw_next K16 ?_
      refine cw_seq (fun FK17 K17 => ?_)
      refine cw_false rfl ?_
      refine cw_exit ?_
      refine xw_past (by intro h; cases h) ?_
      refine xw_past (by intro h; cases h) ?_
      refine xw_here ?_
      refine xw_next K9 ?_
      refine cw_seq (fun FK18 K18 => ?_)
      refine cw_region ?_
      refine wl_val (v := .slice A l.length c) (fun ρ e => ex_move (e _ _ rfl)) rfl rfl ?_
      refine wl_val (v := .int .i64 ((l.length : Nat) : Int)) (fun ρ e => ex_len el36 (e _ _ rfl)) rfl rfl ?_
      refine wl_val (v := .bool false) (fun ρ e => ex_cmp (u := ((l.length : Nat) : Int)) (v := 0) (e _ _ rfl) (e _ _ rfl) (gtr0 (by omega))) rfl rfl ?_
      refine wl_val (v := .bool false) (fun ρ e => ex_assign (e _ _ rfl)) rfl rfl ?_
      refine wl_nil ?_
      refine xw_next K18 ?_
      refine cw_ret ?_
      refine xw_ret (v := .bool false) (fun T hT => res1 rfl T _ (hT 2 _ rfl)) ?_
      rw [hie, List.take_length] at hp
      have hr : ordB l = false := Bool.eq_false_iff.2 fun q => by have := (ordB_iff.1 q).1; omega
      rw [hr]
      exact ⟨rfl, O15.old⟩
  · obtain ⟨b, o, c', hv0⟩ := hI.form h0
    injection hv0 with hA _ hc
    subst hA hc
    have O0 : Own Z0 W W [.ro D (fun w => IntsD D w (.slice (some ⟨b, o, none⟩) l.length c) l)] := (Own.start W).oldro (D := D) (p := (fun w => IntsD D w (.slice (some ⟨b, o, none⟩) l.length c) l)) (inE_holds hI hD)
    refine sx_enter (args := [.slice (some ⟨b, o, none⟩) l.length c]) Tryd.func75 rfl rfl (by simp) ?_
    refine cw_seq (fun FK19 K19 => ?_)
    refine cw_region ?_
    refine wl_val (v := .bool false) (fun ρ e => ex_assign (e _ _ rfl)) rfl rfl ?_
    refine wl_nil ?_
    refine xw_next K19 ?_
    refine cw_seq (fun FK20 K20 => ?_)
    refine cw_region ?_
    obtain ⟨g21, w22, r23, O24, hg25, hs26⟩ := own_alloc O0 70 ze70 (cs := (boolCs (flagL 129 [])).toArray) (by rw [flagL_nil]; simp [boolCs, Value.cells])
    refine wl_val (v := .pointer (some ⟨g21, 0, none⟩)) (fun ρ e => r23 ρ _ _ _ _ _) rfl rfl ?_
    refine wl_nil ?_
    refine xw_next K20 ?_
    refine cw_seq (fun FK27 K27 => ?_)
    refine cw_seq (fun FK28 K28 => ?_)
    refine cw_region ?_
    refine wl_val (v := .slice (some ⟨b, o, none⟩) l.length c) (fun ρ e => ex_move (e _ _ rfl)) rfl rfl ?_
    refine wl_val (v := .int .i64 ((l.length : Nat) : Int)) (fun ρ e => ex_len el36 (e _ _ rfl)) rfl rfl ?_
    refine wl_val (v := .int .i64 0) (fun ρ e => ex_move (e _ _ rfl)) rfl rfl ?_
    refine wl_nil ?_
    refine xw_next K28 ?_
    refine cw_block ?_
    have O29 : Own Z0 W w22 [.blk g21 70 ((boolCs (flagL 129 [])).toArray), .ro D (fun w => IntsD D w (.slice (some ⟨b, o, none⟩) l.length c) l)] := O24
    refine cw_loop (ι := Nat) (fun q => [(0, .slice (some ⟨b, o, none⟩) l.length c), (3, .pointer (some ⟨g21, 0, none⟩)), (6, .slice (some ⟨b, o, none⟩) l.length c), (7, .int .i64 ((l.length : Nat) : Int)), (8, .int .i64 (q : Int))]) (fun q X => (q ≤ l.length) ∧ (opreB (l.take q) = true) ∧ Own Z0 W X [.blk g21 70 ((boolCs (flagL 129 (l.take q))).toArray), .ro D (fun w => IntsD D w (.slice (some ⟨b, o, none⟩) l.length c) l)]) (fun q => l.length - q) 0 ⟨Nat.zero_le _, (by rw [List.take_zero]; rfl), O29⟩ ⟨rfl, rfl, rfl, rfl, rfl, trivial⟩ (fun q w30 hJ F31 K32 => ?_)
    obtain ⟨i, rfl⟩ : ∃ x, x = q := ⟨_, rfl⟩
    obtain ⟨hi0, hp, O33⟩ := hJ
    try dsimp only at hi0 hp O33 ⊢
    by_cases hi : i < l.length
    · skip
      obtain ⟨v, hv⟩ : ∃ v, l[i]? = some v := ⟨l[i], List.getElem?_eq_getElem hi⟩
      have htk : l.take (i + 1) = l.take i ++ [v] := take_more hv
      refine cw_seq (fun FK34 K34 => ?_)
      refine cw_region ?_
      refine wl_val (v := .bool true) (fun ρ e => ex_cmp (u := (i : Int)) (v := ((l.length : Nat) : Int)) (e _ _ rfl) (e _ _ rfl) (lss1 (by omega))) rfl rfl ?_
      refine wl_nil ?_
      refine xw_next K34 ?_
      refine cw_seq (fun FK35 K35 => ?_)
      refine cw_true rfl ?_
      refine cw_skip ?_
      refine xw_next K35 ?_
      refine cw_seq (fun FK36 K36 => ?_)
      refine cw_block ?_
      refine cw_seq (fun FK37 K37 => ?_)
      refine cw_region ?_
      refine wl_val (v := .pointer (some ⟨b, o + i, none⟩)) (fun ρ e => ex_idx (q := o + i) (i := i) el36 (e _ _ rfl) (e _ _ rfl) (by omega) (by omega)) rfl rfl ?_
      refine wl_val (v := .int .i64 v) (fun ρ e => ex_load1 ty3 (e _ _ rfl) (IntsD.cellq ((O33.ro 1 rfl) : IntsD _ _ (.slice (some ⟨b, o, none⟩) l.length c) l) hv)) rfl rfl ?_
      refine wl_val (v := .int .i64 v) (fun ρ e => ex_assign (e _ _ rfl)) rfl rfl ?_
      refine wl_nil ?_
      refine xw_next K37 ?_
      refine cw_seq (fun FK38 K38 => ?_)
      refine cw_seq (fun FK39 K39 => ?_)
      refine cw_region ?_
      refine wl_val (v := .int .i64 v) (fun ρ e => ex_move (e _ _ rfl)) rfl rfl ?_
      by_cases c40 : v < 1
      · skip
        refine wl_val (v := .bool true) (fun ρ e => ex_cmp (u := v) (v := 1) (e _ _ rfl) (e _ _ rfl) (lss1 (by omega))) rfl rfl ?_
        refine wl_val (v := .bool true) (fun ρ e => ex_move (e _ _ rfl)) rfl rfl ?_
        refine wl_skip rfl rfl ?_
        refine wl_skip rfl rfl ?_
        refine wl_val (v := .bool true) (fun ρ e => ex_pick1 (e _ _ rfl) (e _ _ rfl)) rfl rfl ?_
        refine wl_val (v := .bool true) (fun ρ e => ex_move (e _ _ rfl)) rfl rfl ?_
        refine wl_skip rfl rfl ?_
        refine wl_skip rfl rfl ?_
        refine wl_skip rfl rfl ?_
        refine wl_val (v := .bool true) (fun ρ e => ex_pick1 (e _ _ rfl) (e _ _ rfl)) rfl rfl ?_
        refine wl_nil ?_
        refine xw_next K39 ?_
        refine cw_true rfl ?_
        refine cw_seq (fun FK41 K41 => ?_)
        refine cw_region ?_
        refine wl_val (v := .bool false) (fun ρ e => ex_assign (e _ _ rfl)) rfl rfl ?_
        refine wl_nil ?_
        refine xw_next K41 ?_
        refine cw_ret ?_
        refine xw_past (by intro h; cases h) ?_
        refine xw_blockret ?_
        refine xw_past (by intro h; cases h) ?_
        refine xw_past (by intro h; cases h) ?_
        refine xw_blockret ?_
        refine xw_past (by intro h; cases h) ?_
        refine xw_ret (v := .bool false) (fun T hT => res1 rfl T _ (hT 2 _ rfl)) ?_
        have hno : ordB l = false := Bool.eq_false_iff.2 fun q => by have q2 := opre_take (ordB_iff.1 q).2 (i + 1); rw [htk, opre_snoc hp] at q2; first | omega | (have := q2.2.2; simp_all)
        rw [hno]
        exact ⟨rfl, O33.old⟩
      · skip
        refine wl_val (v := .bool false) (fun ρ e => ex_cmp (u := v) (v := 1) (e _ _ rfl) (e _ _ rfl) (lss0 (by omega))) rfl rfl ?_
        refine wl_val (v := .bool false) (fun ρ e => ex_move (e _ _ rfl)) rfl rfl ?_
        refine wl_val (v := .int .i64 v) (fun ρ e => ex_move (e _ _ rfl)) rfl rfl ?_
        by_cases c42 : v > 128
        · skip
          refine wl_val (v := .bool true) (fun ρ e => ex_cmp (u := v) (v := 128) (e _ _ rfl) (e _ _ rfl) (gtr1 (by omega))) rfl rfl ?_
          refine wl_val (v := .bool true) (fun ρ e => ex_pick0 (e _ _ rfl) (e _ _ rfl)) rfl rfl ?_
          refine wl_val (v := .bool true) (fun ρ e => ex_move (e _ _ rfl)) rfl rfl ?_
          refine wl_skip rfl rfl ?_
          refine wl_skip rfl rfl ?_
          refine wl_skip rfl rfl ?_
          refine wl_val (v := .bool true) (fun ρ e => ex_pick1 (e _ _ rfl) (e _ _ rfl)) rfl rfl ?_
          refine wl_nil ?_
          refine xw_next K39 ?_
          refine cw_true rfl ?_
          refine cw_seq (fun FK43 K43 => ?_)
          refine cw_region ?_
          refine wl_val (v := .bool false) (fun ρ e => ex_assign (e _ _ rfl)) rfl rfl ?_
          refine wl_nil ?_
          refine xw_next K43 ?_
          refine cw_ret ?_
          refine xw_past (by intro h; cases h) ?_
          refine xw_blockret ?_
          refine xw_past (by intro h; cases h) ?_
          refine xw_past (by intro h; cases h) ?_
          refine xw_blockret ?_
          refine xw_past (by intro h; cases h) ?_
          refine xw_ret (v := .bool false) (fun T hT => res1 rfl T _ (hT 2 _ rfl)) ?_
          have hno : ordB l = false := Bool.eq_false_iff.2 fun q => by have q2 := opre_take (ordB_iff.1 q).2 (i + 1); rw [htk, opre_snoc hp] at q2; first | omega | (have := q2.2.2; simp_all)
          rw [hno]
          exact ⟨rfl, O33.old⟩
        · skip
          obtain ⟨vn, rfl⟩ : ∃ n : Nat, v = n := ⟨v.toNat, by omega⟩
          refine wl_val (v := .bool false) (fun ρ e => ex_cmp (u := (vn : Int)) (v := 128) (e _ _ rfl) (e _ _ rfl) (gtr0 (by omega))) rfl rfl ?_
          refine wl_val (v := .bool false) (fun ρ e => ex_pick0 (e _ _ rfl) (e _ _ rfl)) rfl rfl ?_
          refine wl_val (v := .bool false) (fun ρ e => ex_move (e _ _ rfl)) rfl rfl ?_
          refine wl_val (v := .int .i64 (vn : Int)) (fun ρ e => ex_move (e _ _ rfl)) rfl rfl ?_
          refine wl_val (v := .pointer (some ⟨g21, vn, none⟩)) (fun ρ e => ex_idxA (q := vn) (i := vn) an70 (e _ _ rfl) (e _ _ rfl) (by omega) (by omega)) rfl rfl ?_
          refine wl_val (v := .bool (decide ((vn : Int) ∈ (l.take i)))) (fun ρ e => ex_load1 ty4 (e _ _ rfl) (O33.cell 0 vn rfl (getBo (flagL_get (l.take i) (by omega))))) rfl rfl ?_
          refine wl_val (v := .bool (decide ((vn : Int) ∈ (l.take i)))) (fun ρ e => ex_pick0 (e _ _ rfl) (e _ _ rfl)) rfl rfl ?_
          refine wl_nil ?_
          refine xw_next K39 ?_
          refine cw_cond (b := (decide ((vn : Int) ∈ (l.take i)))) rfl (fun c44 => ?_) (fun c44 => ?_)
          · skip
            refine cw_seq (fun FK45 K45 => ?_)
            refine cw_region ?_
            refine wl_val (v := .bool false) (fun ρ e => ex_assign (e _ _ rfl)) rfl rfl ?_
            refine wl_nil ?_
            refine xw_next K45 ?_
            refine cw_ret ?_
            refine xw_past (by intro h; cases h) ?_
            refine xw_blockret ?_
            refine xw_past (by intro h; cases h) ?_
            refine xw_past (by intro h; cases h) ?_
            refine xw_blockret ?_
            refine xw_past (by intro h; cases h) ?_
            refine xw_ret (v := .bool false) (fun T hT => res1 rfl T _ (hT 2 _ rfl)) ?_
            have hno : ordB l = false := Bool.eq_false_iff.2 fun q => by have q2 := opre_take (ordB_iff.1 q).2 (i + 1); rw [htk, opre_snoc hp] at q2; first | omega | (have := q2.2.2; simp_all)
            rw [hno]
            exact ⟨rfl, O33.old⟩
          · skip
            refine cw_skip ?_
            refine xw_next K38 ?_
            refine cw_region ?_
            refine wl_val (v := .int .i64 (vn : Int)) (fun ρ e => ex_move (e _ _ rfl)) rfl rfl ?_
            refine wl_val (v := .pointer (some ⟨g21, vn, none⟩)) (fun ρ e => ex_idxA (q := vn) (i := vn) an70 (e _ _ rfl) (e _ _ rfl) (by omega) (by omega)) rfl rfl ?_
            obtain ⟨w46, r47, O48, hs49⟩ := own_put (o := vn) (n := 1) O33 ty4 (.bool true) [.bool true] (cs' := (boolCs (flagL 129 ((l.take i) ++ [(vn : Int)]))).toArray) rfl rfl rfl (by simp [boolCs, flagL_len] <;> omega) ((setBo _ vn true).trans (congrArg (fun z => (boolCs z).toArray) (flagL_set 129 vn (l.take i))))
            refine wl_none (fun ρ e => r47 ρ _ _ _ _ _ _ (e _ _ rfl) (e _ _ rfl)) rfl ?_
            refine wl_nil ?_
            refine xw_block ?_
            refine xw_next K36 ?_
            refine cw_region ?_
            refine wl_val (v := .int .i64 ((i + 1 : Nat) : Int)) (fun ρ e => ex_arith (k := .i64) (u := (i : Int)) (v := 1) (e _ _ rfl) (e _ _ rfl) (congrArg some ((congrArg _ (by omega)).trans (wrap_in (u := ((i + 1 : Nat) : Int)) (by omega) (by omega))))) rfl rfl ?_
            refine wl_val (v := .int .i64 ((i + 1 : Nat) : Int)) (fun ρ e => ex_move (e _ _ rfl)) rfl rfl ?_
            refine wl_nil ?_
            have O50 : Own Z0 W w46 [.blk g21 70 ((boolCs (flagL 129 (l.take (i + 1)))).toArray), .ro D (fun w => IntsD D w (.slice (some ⟨b, o, none⟩) l.length c) l)] := by rw [htk]; exact O48
            refine xw_round K32 (i + 1) (by show l.length - (i + 1) < l.length - i; omega) ⟨(by show i + 1 ≤ l.length; omega), (by show opreB (l.take (i + 1)) = true; rw [htk]; exact (opre_snoc hp).2 ⟨by omega, by omega, by simpa using c44⟩), O50⟩ ⟨rfl, rfl, rfl, rfl, rfl, trivial⟩
    · have hie : i = l.length := by omega
      refine cw_seq (fun FK51 K51 => ?_)
      refine cw_region ?_
      refine wl_val (v := .bool false) (fun ρ e => ex_cmp (u := (i : Int)) (v := ((l.length : Nat) : Int)) (e _ _ rfl) (e _ _ rfl) (lss0 (by omega))) rfl rfl ?_
      refine wl_nil ?_
      refine xw_next K51 ?_
      refine cw_seq (fun FK52 K52 => ?_)
      refine cw_false rfl ?_
      refine cw_exit ?_
      refine xw_past (by intro h; cases h) ?_
      refine xw_past (by intro h; cases h) ?_
      refine xw_here ?_
      refine xw_next K27 ?_
      refine cw_seq (fun FK53 K53 => ?_)
      refine cw_region ?_
      refine wl_val (v := .slice (some ⟨b, o, none⟩) l.length c) (fun ρ e => ex_move (e _ _ rfl)) rfl rfl ?_
      refine wl_val (v := .int .i64 ((l.length : Nat) : Int)) (fun ρ e => ex_len el36 (e _ _ rfl)) rfl rfl ?_
      refine wl_val (v := .bool true) (fun ρ e => ex_cmp (u := ((l.length : Nat) : Int)) (v := 0) (e _ _ rfl) (e _ _ rfl) (gtr1 (by omega))) rfl rfl ?_
      refine wl_val (v := .bool true) (fun ρ e => ex_assign (e _ _ rfl)) rfl rfl ?_
      refine wl_nil ?_
      refine xw_next K53 ?_
      refine cw_ret ?_
      refine xw_ret (v := .bool true) (fun T hT => res1 rfl T _ (hT 2 _ rfl)) ?_
      rw [hie, List.take_length] at hp
      have hr : ordB l = true := ordB_iff.2 ⟨by omega, hp⟩
      rw [hr]
      exact ⟨rfl, O33.old⟩
theorem part55 {W : World} {m : Nat} (h : 2 ≤ m) (h2 : m ≤ 1000000) : Calls Tryd.prog 55 #[.int .i64 (m : Int)] W fun e w' => e = .returned (.int .i64 ((gOf 1 m : Nat) : Int)) ∧ Below W.heap.size W w' := by
  have O0 : Own Z0 W W [] := Own.start W
  refine sx_enter (args := [.int .i64 (m : Int)]) Tryd.func55 rfl rfl (by simp) ?_
  refine cw_seq (fun FK1 K1 => ?_)
  refine cw_region ?_
  refine wl_val (v := .int .i64 0) (fun ρ e => ex_assign (e _ _ rfl)) rfl rfl ?_
  refine wl_nil ?_
  refine xw_next K1 ?_
  refine cw_seq (fun FK2 K2 => ?_)
  refine cw_region ?_
  refine wl_val (v := .int .i64 1) (fun ρ e => ex_assign (e _ _ rfl)) rfl rfl ?_
  refine wl_nil ?_
  refine xw_next K2 ?_
  refine cw_ret ?_
  refine xw_ret (v := .int .i64 1) (fun T hT => res1 rfl T _ (hT 2 _ rfl)) ?_
  exact ⟨rfl, O0.old⟩
theorem ex_sliceLo {ρ : Operand → Value} {d : Option Tmp} {x y : Operand} {t T : TypeId} {pos : String} {aft : Array Edge} {gd : Option (Nat × Bool)} {w : World} {e b o n c k q : Nat} (hT : ElB T e 1) (hx : ρ x = .slice (some ⟨b, o, none⟩) n c) (hy : ρ y = .int .i64 (k : Int)) (h1 : k < c) (h2 : k ≤ n) (hq : o + k = q) : (execOp ρ ⟨d, .slice T x (some y) none none, t, pos, aft, gd⟩).run Tryd.prog w = .ok (.value (.slice (some ⟨b, q, none⟩) (n - k) (c - k))) w := by
  subst hq
  have h3 : ¬ c = k := by omega
  simp [execOp, Instr.sliceAt, Instr.slice, run_underlying hT.elem, hx, hy, Instr.sliceBounds, Instr.sliceBound, asIntOf, h2, run_size hT.size, addr_plus, h3]
theorem part_ {L0 : List Int} {g : Nat → Nat} {D : Nat → Prop} {lc pc oc bl ol cl : Nat} {fl : FuncId} (hin : Enters Tryd.prog fl) (HL : ∀ (m : Nat) (W : World), 2 ≤ m → m ≤ 1000000 → Calls Tryd.prog fl #[.int .i64 (m : Int)] W fun e w' => e = .returned (.int .i64 ((g m : Nat) : Int)) ∧ Below W.heap.size W w') (hg : ∀ m, 2 ≤ m → 1 ≤ g m ∧ g m < m) :
    ∀ (k s m cc : Nat), s + m ≤ L0.length → 1 ≤ m → m ≤ k → m ≤ cc → ∀ (Z : Bool → Nat → Prop) (w0 W : World) (A : Option Addr) (n c : Nat) (l : List VN), Own Z w0 W [.blk lc 75 #[.func (.func fl) #[] #[]], .blk pc 69 #[.func (.func 76) #[] #[.pointer (some ⟨lc, 0, none⟩), .pointer (some ⟨pc, 0, none⟩), .pointer (some ⟨oc, 0, none⟩)]], .blk oc 23 #[.slice A n c], .row (.slice A n c) 38 3 n (ncells l), .ro D (fun w => IntsD D w (.slice (some ⟨bl, ol, none⟩) L0.length cl) L0)] → n + 2 * m ≤ 1000000 →
    Calls Tryd.prog 76 #[.slice (some ⟨bl, ol + s, none⟩) m cc, .pointer (some ⟨lc, 0, none⟩), .pointer (some ⟨pc, 0, none⟩), .pointer (some ⟨oc, 0, none⟩)] W fun e w' => ∃ A' c', e = .returned (.int .i64 ((n + Tr.size (mkT g k ((L0.drop s).take m)) - 1 : Nat) : Int)) ∧ Own Z w0 w' [.blk lc 75 #[.func (.func fl) #[] #[]], .blk pc 69 #[.func (.func 76) #[] #[.pointer (some ⟨lc, 0, none⟩), .pointer (some ⟨pc, 0, none⟩), .pointer (some ⟨oc, 0, none⟩)]], .blk oc 23 #[.slice A' (n + Tr.size (mkT g k ((L0.drop s).take m))) c'], .row (.slice A' (n + Tr.size (mkT g k ((L0.drop s).take m))) c') 38 3 (n + Tr.size (mkT g k ((L0.drop s).take m))) (ncells (l ++ post (mkT g k ((L0.drop s).take m)) n)), .ro D (fun w => IntsD D w (.slice (some ⟨bl, ol, none⟩) L0.length cl) L0)]
  | 0, s, m, cc, _, h1, h2, _ => absurd h1 (by omega)
  | k + 1, s, m, cc, hsm, hm1, hmk, hmc => fun Z w0 W A n c l O0 hlim => by
    have IH := part_ (L0 := L0) (lc := lc) (pc := pc) (oc := oc) (bl := bl) (ol := ol) (cl := cl) (D := D) hin HL hg k
    obtain ⟨v0, hv0⟩ : ∃ v, L0[s]? = some v := ⟨L0[s], List.getElem?_eq_getElem (by omega)⟩
    have hlen : ((L0.drop s).take m).length = m := by rw [List.length_take, List.length_drop]; omega
    by_cases h1 : m = 1
    · skip
      have hT : mkT g (k + 1) ((L0.drop s).take m) = .leaf v0 := mkT_one (by rw [hlen]; omega) (by rw [List.getElem?_take_of_lt (by omega), List.getElem?_drop, Nat.add_zero]; exact hv0)
      refine sx_enter (args := [.slice (some ⟨bl, ol + s, none⟩) m cc, .pointer (some ⟨lc, 0, none⟩), .pointer (some ⟨pc, 0, none⟩), .pointer (some ⟨oc, 0, none⟩)]) Tryd.func76 rfl rfl (by simp) ?_
      refine cw_seq (fun FK1 K1 => ?_)
      refine cw_region ?_
      refine wl_val (v := .int .i64 0) (fun ρ e => ex_assign (e _ _ rfl)) rfl rfl ?_
      refine wl_nil ?_
      refine xw_next K1 ?_
      refine cw_seq (fun FK2 K2 => ?_)
      refine cw_region ?_
      refine wl_val (v := .slice (some ⟨bl, ol + s, none⟩) m cc) (fun ρ e => ex_move (e _ _ rfl)) rfl rfl ?_
      refine wl_val (v := .pointer (some ⟨bl, ol + s, none⟩)) (fun ρ e => ex_idx (q := ol + s) (i := 0) el36 (e _ _ rfl) (e _ _ rfl) (by omega) (by omega)) rfl rfl ?_
      refine wl_val (v := .int .i64 v0) (fun ρ e => ex_load1 ty3 (e _ _ rfl) (IntsD.cellq ((O0.ro 4 rfl) : IntsD _ _ (.slice (some ⟨bl, ol, none⟩) L0.length cl) L0) hv0)) rfl rfl ?_
      refine wl_call (args := [.int .i64 v0]) in_50 rfl rfl rfl ?_
      refine (leafof_ v0 (W := W)).mono ?_
      rintro _ w3 ⟨rfl, hb4⟩
      have O5 : Own Z w0 w3 [.blk lc 75 #[.func (.func fl) #[] #[]], .blk pc 69 #[.func (.func 76) #[] #[.pointer (some ⟨lc, 0, none⟩), .pointer (some ⟨pc, 0, none⟩), .pointer (some ⟨oc, 0, none⟩)]], .blk oc 23 #[.slice A n c], .row (.slice A n c) 38 3 n (ncells l), .ro D (fun w => IntsD D w (.slice (some ⟨bl, ol, none⟩) L0.length cl) L0)] := O0.below hb4
      refine ⟨_, rfl, ?_⟩
      obtain ⟨g6, w7, r8, O9, hg10, hs11⟩ := own_alloc O5 38 ze38 rfl
      refine wl_val (v := .pointer (some ⟨g6, 0, none⟩)) (fun ρ e => r8 ρ _ _ _ _ _) rfl rfl ?_
      obtain ⟨w12, r13, O14, hs15⟩ := own_put (o := 0) (n := 3) O9 ty38 (.agg #[.int .i64 (-1), .int .i64 (-1), .int .i64 v0]) [.int .i64 (-1), .int .i64 (-1), .int .i64 v0] (cs' := #[.int .i64 (-1), .int .i64 (-1), .int .i64 v0]) rfl rfl rfl (Nat.le_of_ble_eq_true rfl) rfl
      refine wl_none (fun ρ e => r13 ρ _ _ _ _ _ _ (e _ _ rfl) (e _ _ rfl)) rfl ?_
      refine wl_nil ?_
      refine xw_next K2 ?_
      refine cw_seq (fun FK16 K16 => ?_)
      refine cw_seq (fun FK17 K17 => ?_)
      refine cw_region ?_
      refine wl_val (v := .slice (some ⟨bl, ol + s, none⟩) m cc) (fun ρ e => ex_move (e _ _ rfl)) rfl rfl ?_
      refine wl_val (v := .int .i64 (m : Int)) (fun ρ e => ex_len el36 (e _ _ rfl)) rfl rfl ?_
      refine wl_val (v := .bool false) (fun ρ e => ex_cmp (u := (m : Int)) (v := 1) (e _ _ rfl) (e _ _ rfl) (gtr0 (by omega))) rfl rfl ?_
      refine wl_nil ?_
      refine xw_next K17 ?_
      refine cw_false rfl ?_
      refine cw_skip ?_
      refine xw_next K16 ?_
      refine cw_seq (fun FK18 K18 => ?_)
      refine cw_region ?_
      refine wl_val (v := .slice A n c) (fun ρ e => ex_load1 ty23 (e _ _ rfl) (O14.cell 3 0 rfl rfl)) rfl rfl ?_
      refine wl_val (v := .agg #[.int .i64 (-1), .int .i64 (-1), .int .i64 v0]) (fun ρ e => ex_loadN (vs := [.int .i64 (-1), .int .i64 (-1), .int .i64 v0]) ty38 (e _ _ rfl) rfl (O14.cells 0 0 rfl rfl)) rfl rfl ?_
      obtain ⟨g19, w20, r21, O22, hg23, hs24⟩ := own_slice O14 el23 ze38 1 [(0, .agg #[.int .i64 (-1), .int .i64 (-1), .int .i64 v0])] (cs := #[.int .i64 (-1), .int .i64 (-1), .int .i64 v0]) (by decide) (by kernel_rfl)
      refine wl_val (v := .slice (some ⟨g19, 0, none⟩) 1 1) (fun ρ e => r21 ρ _ _ _ _ _ _ (e.parts rfl)) rfl rfl ?_
      obtain ⟨A25, c26, w27, r28, O29, hz30, hc31⟩ := own_app1 (O22.re [5, 0, 1, 2, 3, 4, 6] rfl : Own Z w0 w20 [.row (.slice A n c) 38 3 n (ncells l), .blk g19 38 #[.int .i64 (-1), .int .i64 (-1), .int .i64 v0], .blk g6 38 #[.int .i64 (-1), .int .i64 (-1), .int .i64 v0], .blk lc 75 #[.func (.func fl) #[] #[]], .blk pc 69 #[.func (.func 76) #[] #[.pointer (some ⟨lc, 0, none⟩), .pointer (some ⟨pc, 0, none⟩), .pointer (some ⟨oc, 0, none⟩)]], .blk oc 23 #[.slice A n c], .ro D (fun w => IntsD D w (.slice (some ⟨bl, ol, none⟩) L0.length cl) L0)]) ap23 ((O22.re [5, 0, 1, 2, 3, 4, 6] rfl : Own Z w0 w20 [.row (.slice A n c) 38 3 n (ncells l), .blk g19 38 #[.int .i64 (-1), .int .i64 (-1), .int .i64 v0], .blk g6 38 #[.int .i64 (-1), .int .i64 (-1), .int .i64 v0], .blk lc 75 #[.func (.func fl) #[] #[]], .blk pc 69 #[.func (.func 76) #[] #[.pointer (some ⟨lc, 0, none⟩), .pointer (some ⟨pc, 0, none⟩), .pointer (some ⟨oc, 0, none⟩)]], .blk oc 23 #[.slice A n c], .ro D (fun w => IntsD D w (.slice (some ⟨bl, ol, none⟩) L0.length cl) L0)]).blk 1 rfl) (cells := [.int .i64 (-1), .int .i64 (-1), .int .i64 v0]) rfl rfl (by omega) (by omega) (ys := (ncells (l ++ [(VN.mk (-1) (-1) v0)]))) (ncells_snoc l (VN.mk (-1) (-1) v0))
      refine wl_val (v := .slice A25 (n + 1) c26) (fun ρ e => r28 ρ _ _ _ _ _ _ _ (e _ _ rfl) (e _ _ rfl)) rfl rfl ?_
      obtain ⟨w32, r33, O34, hs35⟩ := own_put (o := 0) (n := 1) (O29.re [5, 0, 1, 2, 3, 4, 6] rfl : Own Z w0 w27 [.blk oc 23 #[.slice A n c], .row (.slice A25 (n + 1) c26) 38 3 (n + 1) (ncells (l ++ [(VN.mk (-1) (-1) v0)])), .blk g19 38 #[.int .i64 (-1), .int .i64 (-1), .int .i64 v0], .blk g6 38 #[.int .i64 (-1), .int .i64 (-1), .int .i64 v0], .blk lc 75 #[.func (.func fl) #[] #[]], .blk pc 69 #[.func (.func 76) #[] #[.pointer (some ⟨lc, 0, none⟩), .pointer (some ⟨pc, 0, none⟩), .pointer (some ⟨oc, 0, none⟩)]], .ro D (fun w => IntsD D w (.slice (some ⟨bl, ol, none⟩) L0.length cl) L0)]) ty23 (.slice A25 (n + 1) c26) [.slice A25 (n + 1) c26] (cs' := #[.slice A25 (n + 1) c26]) rfl rfl rfl (Nat.le_of_ble_eq_true rfl) rfl
      refine wl_none (fun ρ e => r33 ρ _ _ _ _ _ _ (e _ _ rfl) (e _ _ rfl)) rfl ?_
      refine wl_nil ?_
      refine xw_next K18 ?_
      refine cw_seq (fun FK36 K36 => ?_)
      refine cw_region ?_
      refine wl_val (v := .slice A25 (n + 1) c26) (fun ρ e => ex_load1 ty23 (e _ _ rfl) (O34.cell 0 0 rfl rfl)) rfl rfl ?_
      refine wl_val (v := .int .i64 ((n + 1 : Nat) : Int)) (fun ρ e => ex_len el23 (e _ _ rfl)) rfl rfl ?_
      refine wl_val (v := .int .i64 ((n + 1 - 1 : Nat) : Int)) (fun ρ e => ex_arith (k := .i64) (u := ((n + 1 : Nat) : Int)) (v := 1) (e _ _ rfl) (e _ _ rfl) (congrArg some ((congrArg _ (show _ = ((n + 1 - 1 : Nat) : Int) by omega)).trans (wrap_in (by omega) (by omega))))) rfl rfl ?_
      refine wl_val (v := .int .i64 ((n + 1 - 1 : Nat) : Int)) (fun ρ e => ex_assign (e _ _ rfl)) rfl rfl ?_
      refine wl_nil ?_
      refine xw_next K36 ?_
      refine cw_ret ?_
      refine xw_ret (v := .int .i64 ((n + 1 - 1 : Nat) : Int)) (fun T hT => res1 rfl T _ (hT 5 _ rfl)) ?_
      have hn : n + 1 = n + Tr.size (mkT g (k + 1) ((L0.drop s).take m)) := by rw [hT]; simp only [Tr.size] <;> omega
      have hl : (l ++ [(VN.mk (-1) (-1) v0)]) = l ++ post (mkT g (k + 1) ((L0.drop s).take m)) n := by rw [hT]; simp [post]
      have hO := (O34.re [4, 5, 0, 1, 6] rfl : Own Z w0 w32 [.blk lc 75 #[.func (.func fl) #[] #[]], .blk pc 69 #[.func (.func 76) #[] #[.pointer (some ⟨lc, 0, none⟩), .pointer (some ⟨pc, 0, none⟩), .pointer (some ⟨oc, 0, none⟩)]], .blk oc 23 #[.slice A25 (n + 1) c26], .row (.slice A25 (n + 1) c26) 38 3 (n + 1) (ncells (l ++ [(VN.mk (-1) (-1) v0)])), .ro D (fun w => IntsD D w (.slice (some ⟨bl, ol, none⟩) L0.length cl) L0)])
      rw [hn, hl] at hO
      exact ⟨A25, c26, congrArg (fun z : Nat => Ending.returned (.int .i64 (z : Int))) (show n + 1 - 1 = n + Tr.size (mkT g (k + 1) ((L0.drop s).take m)) - 1 by rw [hT]; simp only [Tr.size] <;> omega), hO⟩
    · skip
      have hm2 : 2 ≤ m := by omega
      have hgm := hg m hm2
      have hT : mkT g (k + 1) ((L0.drop s).take m) = .node (mkT g k ((L0.drop s).take (g m))) (mkT g k ((L0.drop (s + g m)).take (m - g m))) := by rw [mkT_more (by rw [hlen]; exact hm2), hlen, List.take_take, Nat.min_eq_left (by omega), List.drop_take, List.drop_drop]
      have hsz1 : Tr.size (mkT g k ((L0.drop s).take (g m))) = 2 * g m - 1 := by rw [(mkT_leaves hg k _ (by rw [List.length_take, List.length_drop]; omega) (by rw [List.length_take, List.length_drop]; omega)).2, List.length_take, List.length_drop, Nat.min_eq_left (by omega)]
      have hsz2 : Tr.size (mkT g k ((L0.drop (s + g m)).take (m - g m))) = 2 * (m - g m) - 1 := by rw [(mkT_leaves hg k _ (by rw [List.length_take, List.length_drop]; omega) (by rw [List.length_take, List.length_drop]; omega)).2, List.length_take, List.length_drop, Nat.min_eq_left (by omega)]
      refine sx_enter (args := [.slice (some ⟨bl, ol + s, none⟩) m cc, .pointer (some ⟨lc, 0, none⟩), .pointer (some ⟨pc, 0, none⟩), .pointer (some ⟨oc, 0, none⟩)]) Tryd.func76 rfl rfl (by simp) ?_
      refine cw_seq (fun FK1 K1 => ?_)
      refine cw_region ?_
      refine wl_val (v := .int .i64 0) (fun ρ e => ex_assign (e _ _ rfl)) rfl rfl ?_
      refine wl_nil ?_
      refine xw_next K1 ?_
      refine cw_seq (fun FK2 K2 => ?_)
      refine cw_region ?_
      refine wl_val (v := .slice (some ⟨bl, ol + s, none⟩) m cc) (fun ρ e => ex_move (e _ _ rfl)) rfl rfl ?_
      refine wl_val (v := .pointer (some ⟨bl, ol + s, none⟩)) (fun ρ e => ex_idx (q := ol + s) (i := 0) el36 (e _ _ rfl) (e _ _ rfl) (by omega) (by omega)) rfl rfl ?_
      refine wl_val (v := .int .i64 v0) (fun ρ e => ex_load1 ty3 (e _ _ rfl) (IntsD.cellq ((O0.ro 4 rfl) : IntsD _ _ (.slice (some ⟨bl, ol, none⟩) L0.length cl) L0) hv0)) rfl rfl ?_
      refine wl_call (args := [.int .i64 v0]) in_50 rfl rfl rfl ?_
      refine (leafof_ v0 (W := W)).mono ?_
      rintro _ w3 ⟨rfl, hb4⟩
      have O5 : Own Z w0 w3 [.blk lc 75 #[.func (.func fl) #[] #[]], .blk pc 69 #[.func (.func 76) #[] #[.pointer (some ⟨lc, 0, none⟩), .pointer (some ⟨pc, 0, none⟩), .pointer (some ⟨oc, 0, none⟩)]], .blk oc 23 #[.slice A n c], .row (.slice A n c) 38 3 n (ncells l), .ro D (fun w => IntsD D w (.slice (some ⟨bl, ol, none⟩) L0.length cl) L0)] := O0.below hb4
      refine ⟨_, rfl, ?_⟩
      obtain ⟨g6, w7, r8, O9, hg10, hs11⟩ := own_alloc O5 38 ze38 rfl
      refine wl_val (v := .pointer (some ⟨g6, 0, none⟩)) (fun ρ e => r8 ρ _ _ _ _ _) rfl rfl ?_
      obtain ⟨w12, r13, O14, hs15⟩ := own_put (o := 0) (n := 3) O9 ty38 (.agg #[.int .i64 (-1), .int .i64 (-1), .int .i64 v0]) [.int .i64 (-1), .int .i64 (-1), .int .i64 v0] (cs' := #[.int .i64 (-1), .int .i64 (-1), .int .i64 v0]) rfl rfl rfl (Nat.le_of_ble_eq_true rfl) rfl
      refine wl_none (fun ρ e => r13 ρ _ _ _ _ _ _ (e _ _ rfl) (e _ _ rfl)) rfl ?_
      refine wl_nil ?_
      refine xw_next K2 ?_
      refine cw_seq (fun FK16 K16 => ?_)
      refine cw_seq (fun FK17 K17 => ?_)
      refine cw_region ?_
      refine wl_val (v := .slice (some ⟨bl, ol + s, none⟩) m cc) (fun ρ e => ex_move (e _ _ rfl)) rfl rfl ?_
      refine wl_val (v := .int .i64 (m : Int)) (fun ρ e => ex_len el36 (e _ _ rfl)) rfl rfl ?_
      refine wl_val (v := .bool true) (fun ρ e => ex_cmp (u := (m : Int)) (v := 1) (e _ _ rfl) (e _ _ rfl) (gtr1 (by omega))) rfl rfl ?_
      refine wl_nil ?_
      refine xw_next K17 ?_
      refine cw_true rfl ?_
      refine cw_seq (fun FK18 K18 => ?_)
      refine cw_region ?_
      refine wl_val (v := .func (.func fl) #[] #[]) (fun ρ e => ex_load1 ty75 (e _ _ rfl) (O14.cell 1 0 rfl rfl)) rfl rfl ?_
      refine wl_val (v := .slice (some ⟨bl, ol + s, none⟩) m cc) (fun ρ e => ex_move (e _ _ rfl)) rfl rfl ?_
      refine wl_val (v := .int .i64 (m : Int)) (fun ρ e => ex_len el36 (e _ _ rfl)) rfl rfl ?_
      refine wl_callv (args := [.int .i64 (m : Int)]) (all := [.int .i64 (m : Int)]) hin rfl rfl rfl rfl rfl ?_
      refine (HL m _ hm2 (by omega)).mono ?_
      rintro _ w19 ⟨rfl, hb20⟩
      have O21 : Own Z w0 w19 [.blk g6 38 #[.int .i64 (-1), .int .i64 (-1), .int .i64 v0], .blk lc 75 #[.func (.func fl) #[] #[]], .blk pc 69 #[.func (.func 76) #[] #[.pointer (some ⟨lc, 0, none⟩), .pointer (some ⟨pc, 0, none⟩), .pointer (some ⟨oc, 0, none⟩)]], .blk oc 23 #[.slice A n c], .row (.slice A n c) 38 3 n (ncells l), .ro D (fun w => IntsD D w (.slice (some ⟨bl, ol, none⟩) L0.length cl) L0)] := O14.below hb20
      refine ⟨_, rfl, ?_⟩
      refine wl_val (v := .int .i64 ((g m : Nat) : Int)) (fun ρ e => ex_assign (e _ _ rfl)) rfl rfl ?_
      refine wl_nil ?_
      refine xw_next K18 ?_
      refine cw_drawn (fun X => Own Z w0 X [.blk g6 38 #[.int .i64 (-1), .int .i64 (-1), .int .i64 v0], .blk lc 75 #[.func (.func fl) #[] #[]], .blk pc 69 #[.func (.func 76) #[] #[.pointer (some ⟨lc, 0, none⟩), .pointer (some ⟨pc, 0, none⟩), .pointer (some ⟨oc, 0, none⟩)]], .ro D (fun w => IntsD D w (.slice (some ⟨bl, ol, none⟩) L0.length cl) L0)]) 11 [(0, 0), (1, 1), (2, 1), (3, 1), (5, 0), (6, 1), (7, 1), (8, 1), (4, 2), (9, 2), (10, 1), (11, 3)] (by kernel_rfl) (by kernel_rfl) (PQ.then_ PQ.body) ((O21.re [0, 1, 2, 5] rfl : Own Z w0 w19 [.blk g6 38 #[.int .i64 (-1), .int .i64 (-1), .int .i64 v0], .blk lc 75 #[.func (.func fl) #[] #[]], .blk pc 69 #[.func (.func 76) #[] #[.pointer (some ⟨lc, 0, none⟩), .pointer (some ⟨pc, 0, none⟩), .pointer (some ⟨oc, 0, none⟩)]], .ro D (fun w => IntsD D w (.slice (some ⟨bl, ol, none⟩) L0.length cl) L0)])).drew ?_
      have O22 : Own Z w0 w19.drew [.blk g6 38 #[.int .i64 (-1), .int .i64 (-1), .int .i64 v0], .blk lc 75 #[.func (.func fl) #[] #[]], .blk pc 69 #[.func (.func 76) #[] #[.pointer (some ⟨lc, 0, none⟩), .pointer (some ⟨pc, 0, none⟩), .pointer (some ⟨oc, 0, none⟩)]], .blk oc 23 #[.slice A n c], .row (.slice A n c) 38 3 n (ncells l), .ro D (fun w => IntsD D w (.slice (some ⟨bl, ol, none⟩) L0.length cl) L0)] := O21.drew
      refine wt0 (v := .func (.func 76) #[] #[.pointer (some ⟨lc, 0, none⟩), .pointer (some ⟨pc, 0, none⟩), .pointer (some ⟨oc, 0, none⟩)]) rfl (fun ρ e W hW => ex_load1 ty69 (e _ _ rfl) (hW.cell 2 0 rfl rfl)) rfl rfl ?_
      refine wt1 (v := .slice (some ⟨bl, ol + s, none⟩) m cc) rfl (fun ρ e W => ex_move (e _ _ rfl)) rfl rfl ?_
      refine wt1 (v := .int .i64 ((g m : Nat) : Int)) rfl (fun ρ e W => ex_move (e _ _ rfl)) rfl rfl ?_
      refine wt1 (v := .slice (some ⟨bl, ol + s, none⟩) (g m) cc) rfl (fun ρ e W => ex_sliceHi (h := g m) el36 (e _ _ rfl) (e _ _ rfl) (by omega)) rfl rfl ?_
      refine wt0 (v := .func (.func 76) #[] #[.pointer (some ⟨lc, 0, none⟩), .pointer (some ⟨pc, 0, none⟩), .pointer (some ⟨oc, 0, none⟩)]) rfl (fun ρ e W hW => ex_load1 ty69 (e _ _ rfl) (hW.cell 2 0 rfl rfl)) rfl rfl ?_
      refine wt1 (v := .slice (some ⟨bl, ol + s, none⟩) m cc) rfl (fun ρ e W => ex_move (e _ _ rfl)) rfl rfl ?_
      refine wt1 (v := .int .i64 ((g m : Nat) : Int)) rfl (fun ρ e W => ex_move (e _ _ rfl)) rfl rfl ?_
      refine wt1 (v := .slice (some ⟨bl, ol + (s + g m), none⟩) (m - g m) (cc - g m)) rfl (fun ρ e W => ex_sliceLo (k := g m) (q := ol + (s + g m)) el36 (e _ _ rfl) (e _ _ rfl) (by omega) (by omega) (by omega)) rfl rfl ?_
      refine wt2_callv (args := [.slice (some ⟨bl, ol + s, none⟩) (g m) cc]) (all := [.slice (some ⟨bl, ol + s, none⟩) (g m) cc, .pointer (some ⟨lc, 0, none⟩), .pointer (some ⟨pc, 0, none⟩), .pointer (some ⟨oc, 0, none⟩)]) rfl in_76 rfl rfl rfl rfl rfl ?_
      have O27h := Own.hand (A := [.blk lc 75 #[.func (.func fl) #[] #[]], .blk pc 69 #[.func (.func 76) #[] #[.pointer (some ⟨lc, 0, none⟩), .pointer (some ⟨pc, 0, none⟩), .pointer (some ⟨oc, 0, none⟩)]], .blk oc 23 #[.slice A n c], .row (.slice A n c) 38 3 n (ncells l), .ro D (fun w => IntsD D w (.slice (some ⟨bl, ol, none⟩) L0.length cl) L0)]) (R := [.blk g6 38 #[.int .i64 (-1), .int .i64 (-1), .int .i64 v0]]) (O22.re [1, 2, 3, 4, 5, 0] rfl : Own Z w0 w19.drew [.blk lc 75 #[.func (.func fl) #[] #[]], .blk pc 69 #[.func (.func 76) #[] #[.pointer (some ⟨lc, 0, none⟩), .pointer (some ⟨pc, 0, none⟩), .pointer (some ⟨oc, 0, none⟩)]], .blk oc 23 #[.slice A n c], .row (.slice A n c) 38 3 n (ncells l), .ro D (fun w => IntsD D w (.slice (some ⟨bl, ol, none⟩) L0.length cl) L0), .blk g6 38 #[.int .i64 (-1), .int .i64 (-1), .int .i64 v0]])
      refine ((IH s (g m) cc (by omega) (by omega) (by omega) (by omega) _ _ _ _ _ _ l O27h (by omega))).mono ?_
      rintro _ w25 ⟨A23, c24, rfl, h26⟩
      have O27 : Own Z w0 w25 [.blk lc 75 #[.func (.func fl) #[] #[]], .blk pc 69 #[.func (.func 76) #[] #[.pointer (some ⟨lc, 0, none⟩), .pointer (some ⟨pc, 0, none⟩), .pointer (some ⟨oc, 0, none⟩)]], .blk oc 23 #[.slice A23 (n + Tr.size (mkT g k ((L0.drop s).take (g m)))) c24], .row (.slice A23 (n + Tr.size (mkT g k ((L0.drop s).take (g m)))) c24) 38 3 (n + Tr.size (mkT g k ((L0.drop s).take (g m)))) (ncells (l ++ post (mkT g k ((L0.drop s).take (g m))) n)), .ro D (fun w => IntsD D w (.slice (some ⟨bl, ol, none⟩) L0.length cl) L0), .blk g6 38 #[.int .i64 (-1), .int .i64 (-1), .int .i64 v0]] := Own.frame (A := [.blk lc 75 #[.func (.func fl) #[] #[]], .blk pc 69 #[.func (.func 76) #[] #[.pointer (some ⟨lc, 0, none⟩), .pointer (some ⟨pc, 0, none⟩), .pointer (some ⟨oc, 0, none⟩)]], .blk oc 23 #[.slice A n c], .row (.slice A n c) 38 3 n (ncells l), .ro D (fun w => IntsD D w (.slice (some ⟨bl, ol, none⟩) L0.length cl) L0)]) (R := [.blk g6 38 #[.int .i64 (-1), .int .i64 (-1), .int .i64 v0]]) (O22.re [1, 2, 3, 4, 5, 0] rfl : Own Z w0 w19.drew [.blk lc 75 #[.func (.func fl) #[] #[]], .blk pc 69 #[.func (.func 76) #[] #[.pointer (some ⟨lc, 0, none⟩), .pointer (some ⟨pc, 0, none⟩), .pointer (some ⟨oc, 0, none⟩)]], .blk oc 23 #[.slice A n c], .row (.slice A n c) 38 3 n (ncells l), .ro D (fun w => IntsD D w (.slice (some ⟨bl, ol, none⟩) L0.length cl) L0), .blk g6 38 #[.int .i64 (-1), .int .i64 (-1), .int .i64 v0]]) h26
      refine ⟨_, rfl, (O27.re [5, 0, 1, 4] rfl : Own Z w0 w25 [.blk g6 38 #[.int .i64 (-1), .int .i64 (-1), .int .i64 v0], .blk lc 75 #[.func (.func fl) #[] #[]], .blk pc 69 #[.func (.func 76) #[] #[.pointer (some ⟨lc, 0, none⟩), .pointer (some ⟨pc, 0, none⟩), .pointer (some ⟨oc, 0, none⟩)]], .ro D (fun w => IntsD D w (.slice (some ⟨bl, ol, none⟩) L0.length cl) L0)]), ?_⟩
      refine wt2_callv (args := [.slice (some ⟨bl, ol + (s + g m), none⟩) (m - g m) (cc - g m)]) (all := [.slice (some ⟨bl, ol + (s + g m), none⟩) (m - g m) (cc - g m), .pointer (some ⟨lc, 0, none⟩), .pointer (some ⟨pc, 0, none⟩), .pointer (some ⟨oc, 0, none⟩)]) rfl in_76 rfl rfl rfl rfl rfl ?_
      have O32h := Own.hand (A := [.blk lc 75 #[.func (.func fl) #[] #[]], .blk pc 69 #[.func (.func 76) #[] #[.pointer (some ⟨lc, 0, none⟩), .pointer (some ⟨pc, 0, none⟩), .pointer (some ⟨oc, 0, none⟩)]], .blk oc 23 #[.slice A23 (n + Tr.size (mkT g k ((L0.drop s).take (g m)))) c24], .row (.slice A23 (n + Tr.size (mkT g k ((L0.drop s).take (g m)))) c24) 38 3 (n + Tr.size (mkT g k ((L0.drop s).take (g m)))) (ncells (l ++ post (mkT g k ((L0.drop s).take (g m))) n)), .ro D (fun w => IntsD D w (.slice (some ⟨bl, ol, none⟩) L0.length cl) L0)]) (R := [.blk g6 38 #[.int .i64 (-1), .int .i64 (-1), .int .i64 v0]]) O27
      refine ((IH (s + g m) (m - g m) (cc - g m) (by omega) (by omega) (by omega) (by omega) _ _ _ _ _ _ (l ++ post (mkT g k ((L0.drop s).take (g m))) n) O32h (by omega))).mono ?_
      rintro _ w30 ⟨A28, c29, rfl, h31⟩
      have O32 : Own Z w0 w30 [.blk lc 75 #[.func (.func fl) #[] #[]], .blk pc 69 #[.func (.func 76) #[] #[.pointer (some ⟨lc, 0, none⟩), .pointer (some ⟨pc, 0, none⟩), .pointer (some ⟨oc, 0, none⟩)]], .blk oc 23 #[.slice A28 ((n + Tr.size (mkT g k ((L0.drop s).take (g m)))) + Tr.size (mkT g k ((L0.drop (s + g m)).take (m - g m)))) c29], .row (.slice A28 ((n + Tr.size (mkT g k ((L0.drop s).take (g m)))) + Tr.size (mkT g k ((L0.drop (s + g m)).take (m - g m)))) c29) 38 3 ((n + Tr.size (mkT g k ((L0.drop s).take (g m)))) + Tr.size (mkT g k ((L0.drop (s + g m)).take (m - g m)))) (ncells ((l ++ post (mkT g k ((L0.drop s).take (g m))) n) ++ post (mkT g k ((L0.drop (s + g m)).take (m - g m))) (n + Tr.size (mkT g k ((L0.drop s).take (g m)))))), .ro D (fun w => IntsD D w (.slice (some ⟨bl, ol, none⟩) L0.length cl) L0), .blk g6 38 #[.int .i64 (-1), .int .i64 (-1), .int .i64 v0]] := Own.frame (A := [.blk lc 75 #[.func (.func fl) #[] #[]], .blk pc 69 #[.func (.func 76) #[] #[.pointer (some ⟨lc, 0, none⟩), .pointer (some ⟨pc, 0, none⟩), .pointer (some ⟨oc, 0, none⟩)]], .blk oc 23 #[.slice A23 (n + Tr.size (mkT g k ((L0.drop s).take (g m)))) c24], .row (.slice A23 (n + Tr.size (mkT g k ((L0.drop s).take (g m)))) c24) 38 3 (n + Tr.size (mkT g k ((L0.drop s).take (g m)))) (ncells (l ++ post (mkT g k ((L0.drop s).take (g m))) n)), .ro D (fun w => IntsD D w (.slice (some ⟨bl, ol, none⟩) L0.length cl) L0)]) (R := [.blk g6 38 #[.int .i64 (-1), .int .i64 (-1), .int .i64 v0]]) O27 h31
      refine ⟨_, rfl, (O32.re [5, 0, 1, 4] rfl : Own Z w0 w30 [.blk g6 38 #[.int .i64 (-1), .int .i64 (-1), .int .i64 v0], .blk lc 75 #[.func (.func fl) #[] #[]], .blk pc 69 #[.func (.func 76) #[] #[.pointer (some ⟨lc, 0, none⟩), .pointer (some ⟨pc, 0, none⟩), .pointer (some ⟨oc, 0, none⟩)]], .ro D (fun w => IntsD D w (.slice (some ⟨bl, ol, none⟩) L0.length cl) L0)]), ?_⟩
      refine wt1 (v := .agg #[.int .i64 ((n + Tr.size (mkT g k ((L0.drop s).take (g m))) - 1 : Nat) : Int), .int .i64 (((n + Tr.size (mkT g k ((L0.drop s).take (g m)))) + Tr.size (mkT g k ((L0.drop (s + g m)).take (m - g m))) - 1 : Nat) : Int), .int .i64 0]) rfl (fun ρ e W => ex_build (cells := #[.int .i64 ((n + Tr.size (mkT g k ((L0.drop s).take (g m))) - 1 : Nat) : Int), .int .i64 (((n + Tr.size (mkT g k ((L0.drop s).take (g m)))) + Tr.size (mkT g k ((L0.drop (s + g m)).take (m - g m))) - 1 : Nat) : Int), .int .i64 0]) st38 (e.parts rfl) rfl) rfl rfl ?_
      obtain ⟨w33, r34, O35, hs36⟩ := own_put (o := 0) (n := 3) (O32.re [5, 0, 1, 2, 3, 4] rfl : Own Z w0 w30 [.blk g6 38 #[.int .i64 (-1), .int .i64 (-1), .int .i64 v0], .blk lc 75 #[.func (.func fl) #[] #[]], .blk pc 69 #[.func (.func 76) #[] #[.pointer (some ⟨lc, 0, none⟩), .pointer (some ⟨pc, 0, none⟩), .pointer (some ⟨oc, 0, none⟩)]], .blk oc 23 #[.slice A28 ((n + Tr.size (mkT g k ((L0.drop s).take (g m)))) + Tr.size (mkT g k ((L0.drop (s + g m)).take (m - g m)))) c29], .row (.slice A28 ((n + Tr.size (mkT g k ((L0.drop s).take (g m)))) + Tr.size (mkT g k ((L0.drop (s + g m)).take (m - g m)))) c29) 38 3 ((n + Tr.size (mkT g k ((L0.drop s).take (g m)))) + Tr.size (mkT g k ((L0.drop (s + g m)).take (m - g m)))) (ncells ((l ++ post (mkT g k ((L0.drop s).take (g m))) n) ++ post (mkT g k ((L0.drop (s + g m)).take (m - g m))) (n + Tr.size (mkT g k ((L0.drop s).take (g m)))))), .ro D (fun w => IntsD D w (.slice (some ⟨bl, ol, none⟩) L0.length cl) L0)]) ty38 (.agg #[.int .i64 ((n + Tr.size (mkT g k ((L0.drop s).take (g m))) - 1 : Nat) : Int), .int .i64 (((n + Tr.size (mkT g k ((L0.drop s).take (g m)))) + Tr.size (mkT g k ((L0.drop (s + g m)).take (m - g m))) - 1 : Nat) : Int), .int .i64 0]) [.int .i64 ((n + Tr.size (mkT g k ((L0.drop s).take (g m))) - 1 : Nat) : Int), .int .i64 (((n + Tr.size (mkT g k ((L0.drop s).take (g m)))) + Tr.size (mkT g k ((L0.drop (s + g m)).take (m - g m))) - 1 : Nat) : Int), .int .i64 0] (cs' := #[.int .i64 ((n + Tr.size (mkT g k ((L0.drop s).take (g m))) - 1 : Nat) : Int), .int .i64 (((n + Tr.size (mkT g k ((L0.drop s).take (g m)))) + Tr.size (mkT g k ((L0.drop (s + g m)).take (m - g m))) - 1 : Nat) : Int), .int .i64 0]) rfl rfl rfl (Nat.le_of_ble_eq_true rfl) rfl
      refine wt3_none rfl (fun ρ e => r34 ρ _ _ _ _ _ _ (e _ _ rfl) (e _ _ rfl)) rfl ?_
      refine wt_nil ?_
      refine xw_next K16 ?_
      refine cw_seq (fun FK37 K37 => ?_)
      refine cw_region ?_
      refine wl_val (v := .slice A28 ((n + Tr.size (mkT g k ((L0.drop s).take (g m)))) + Tr.size (mkT g k ((L0.drop (s + g m)).take (m - g m)))) c29) (fun ρ e => ex_load1 ty23 (e _ _ rfl) (O35.cell 3 0 rfl rfl)) rfl rfl ?_
      refine wl_val (v := .agg #[.int .i64 ((n + Tr.size (mkT g k ((L0.drop s).take (g m))) - 1 : Nat) : Int), .int .i64 (((n + Tr.size (mkT g k ((L0.drop s).take (g m)))) + Tr.size (mkT g k ((L0.drop (s + g m)).take (m - g m))) - 1 : Nat) : Int), .int .i64 0]) (fun ρ e => ex_loadN (vs := [.int .i64 ((n + Tr.size (mkT g k ((L0.drop s).take (g m))) - 1 : Nat) : Int), .int .i64 (((n + Tr.size (mkT g k ((L0.drop s).take (g m)))) + Tr.size (mkT g k ((L0.drop (s + g m)).take (m - g m))) - 1 : Nat) : Int), .int .i64 0]) ty38 (e _ _ rfl) rfl (O35.cells 0 0 rfl rfl)) rfl rfl ?_
      obtain ⟨g38, w39, r40, O41, hg42, hs43⟩ := own_slice O35 el23 ze38 1 [(0, .agg #[.int .i64 ((n + Tr.size (mkT g k ((L0.drop s).take (g m))) - 1 : Nat) : Int), .int .i64 (((n + Tr.size (mkT g k ((L0.drop s).take (g m)))) + Tr.size (mkT g k ((L0.drop (s + g m)).take (m - g m))) - 1 : Nat) : Int), .int .i64 0])] (cs := #[.int .i64 ((n + Tr.size (mkT g k ((L0.drop s).take (g m))) - 1 : Nat) : Int), .int .i64 (((n + Tr.size (mkT g k ((L0.drop s).take (g m)))) + Tr.size (mkT g k ((L0.drop (s + g m)).take (m - g m))) - 1 : Nat) : Int), .int .i64 0]) (by decide) (by kernel_rfl)
      refine wl_val (v := .slice (some ⟨g38, 0, none⟩) 1 1) (fun ρ e => r40 ρ _ _ _ _ _ _ (e.parts rfl)) rfl rfl ?_
      obtain ⟨A44, c45, w46, r47, O48, hz49, hc50⟩ := own_app1 (O41.re [5, 0, 1, 2, 3, 4, 6] rfl : Own Z w0 w39 [.row (.slice A28 ((n + Tr.size (mkT g k ((L0.drop s).take (g m)))) + Tr.size (mkT g k ((L0.drop (s + g m)).take (m - g m)))) c29) 38 3 ((n + Tr.size (mkT g k ((L0.drop s).take (g m)))) + Tr.size (mkT g k ((L0.drop (s + g m)).take (m - g m)))) (ncells ((l ++ post (mkT g k ((L0.drop s).take (g m))) n) ++ post (mkT g k ((L0.drop (s + g m)).take (m - g m))) (n + Tr.size (mkT g k ((L0.drop s).take (g m)))))), .blk g38 38 #[.int .i64 ((n + Tr.size (mkT g k ((L0.drop s).take (g m))) - 1 : Nat) : Int), .int .i64 (((n + Tr.size (mkT g k ((L0.drop s).take (g m)))) + Tr.size (mkT g k ((L0.drop (s + g m)).take (m - g m))) - 1 : Nat) : Int), .int .i64 0], .blk g6 38 #[.int .i64 ((n + Tr.size (mkT g k ((L0.drop s).take (g m))) - 1 : Nat) : Int), .int .i64 (((n + Tr.size (mkT g k ((L0.drop s).take (g m)))) + Tr.size (mkT g k ((L0.drop (s + g m)).take (m - g m))) - 1 : Nat) : Int), .int .i64 0], .blk lc 75 #[.func (.func fl) #[] #[]], .blk pc 69 #[.func (.func 76) #[] #[.pointer (some ⟨lc, 0, none⟩), .pointer (some ⟨pc, 0, none⟩), .pointer (some ⟨oc, 0, none⟩)]], .blk oc 23 #[.slice A28 ((n + Tr.size (mkT g k ((L0.drop s).take (g m)))) + Tr.size (mkT g k ((L0.drop (s + g m)).take (m - g m)))) c29], .ro D (fun w => IntsD D w (.slice (some ⟨bl, ol, none⟩) L0.length cl) L0)]) ap23 ((O41.re [5, 0, 1, 2, 3, 4, 6] rfl : Own Z w0 w39 [.row (.slice A28 ((n + Tr.size (mkT g k ((L0.drop s).take (g m)))) + Tr.size (mkT g k ((L0.drop (s + g m)).take (m - g m)))) c29) 38 3 ((n + Tr.size (mkT g k ((L0.drop s).take (g m)))) + Tr.size (mkT g k ((L0.drop (s + g m)).take (m - g m)))) (ncells ((l ++ post (mkT g k ((L0.drop s).take (g m))) n) ++ post (mkT g k ((L0.drop (s + g m)).take (m - g m))) (n + Tr.size (mkT g k ((L0.drop s).take (g m)))))), .blk g38 38 #[.int .i64 ((n + Tr.size (mkT g k ((L0.drop s).take (g m))) - 1 : Nat) : Int), .int .i64 (((n + Tr.size (mkT g k ((L0.drop s).take (g m)))) + Tr.size (mkT g k ((L0.drop (s + g m)).take (m - g m))) - 1 : Nat) : Int), .int .i64 0], .blk g6 38 #[.int .i64 ((n + Tr.size (mkT g k ((L0.drop s).take (g m))) - 1 : Nat) : Int), .int .i64 (((n + Tr.size (mkT g k ((L0.drop s).take (g m)))) + Tr.size (mkT g k ((L0.drop (s + g m)).take (m - g m))) - 1 : Nat) : Int), .int .i64 0], .blk lc 75 #[.func (.func fl) #[] #[]], .blk pc 69 #[.func (.func 76) #[] #[.pointer (some ⟨lc, 0, none⟩), .pointer (some ⟨pc, 0, none⟩), .pointer (some ⟨oc, 0, none⟩)]], .blk oc 23 #[.slice A28 ((n + Tr.size (mkT g k ((L0.drop s).take (g m)))) + Tr.size (mkT g k ((L0.drop (s + g m)).take (m - g m)))) c29], .ro D (fun w => IntsD D w (.slice (some ⟨bl, ol, none⟩) L0.length cl) L0)]).blk 1 rfl) (cells := [.int .i64 ((n + Tr.size (mkT g k ((L0.drop s).take (g m))) - 1 : Nat) : Int), .int .i64 (((n + Tr.size (mkT g k ((L0.drop s).take (g m)))) + Tr.size (mkT g k ((L0.drop (s + g m)).take (m - g m))) - 1 : Nat) : Int), .int .i64 0]) rfl rfl (by omega) (by omega) (ys := (ncells (((l ++ post (mkT g k ((L0.drop s).take (g m))) n) ++ post (mkT g k ((L0.drop (s + g m)).take (m - g m))) (n + Tr.size (mkT g k ((L0.drop s).take (g m))))) ++ [(VN.mk ((n + Tr.size (mkT g k ((L0.drop s).take (g m))) - 1 : Nat) : Int) (((n + Tr.size (mkT g k ((L0.drop s).take (g m)))) + Tr.size (mkT g k ((L0.drop (s + g m)).take (m - g m))) - 1 : Nat) : Int) 0)]))) (ncells_snoc ((l ++ post (mkT g k ((L0.drop s).take (g m))) n) ++ post (mkT g k ((L0.drop (s + g m)).take (m - g m))) (n + Tr.size (mkT g k ((L0.drop s).take (g m))))) (VN.mk ((n + Tr.size (mkT g k ((L0.drop s).take (g m))) - 1 : Nat) : Int) (((n + Tr.size (mkT g k ((L0.drop s).take (g m)))) + Tr.size (mkT g k ((L0.drop (s + g m)).take (m - g m))) - 1 : Nat) : Int) 0))
      refine wl_val (v := .slice A44 (((n + Tr.size (mkT g k ((L0.drop s).take (g m)))) + Tr.size (mkT g k ((L0.drop (s + g m)).take (m - g m)))) + 1) c45) (fun ρ e => r47 ρ _ _ _ _ _ _ _ (e _ _ rfl) (e _ _ rfl)) rfl rfl ?_
      obtain ⟨w51, r52, O53, hs54⟩ := own_put (o := 0) (n := 1) (O48.re [5, 0, 1, 2, 3, 4, 6] rfl : Own Z w0 w46 [.blk oc 23 #[.slice A28 ((n + Tr.size (mkT g k ((L0.drop s).take (g m)))) + Tr.size (mkT g k ((L0.drop (s + g m)).take (m - g m)))) c29], .row (.slice A44 (((n + Tr.size (mkT g k ((L0.drop s).take (g m)))) + Tr.size (mkT g k ((L0.drop (s + g m)).take (m - g m)))) + 1) c45) 38 3 (((n + Tr.size (mkT g k ((L0.drop s).take (g m)))) + Tr.size (mkT g k ((L0.drop (s + g m)).take (m - g m)))) + 1) (ncells (((l ++ post (mkT g k ((L0.drop s).take (g m))) n) ++ post (mkT g k ((L0.drop (s + g m)).take (m - g m))) (n + Tr.size (mkT g k ((L0.drop s).take (g m))))) ++ [(VN.mk ((n + Tr.size (mkT g k ((L0.drop s).take (g m))) - 1 : Nat) : Int) (((n + Tr.size (mkT g k ((L0.drop s).take (g m)))) + Tr.size (mkT g k ((L0.drop (s + g m)).take (m - g m))) - 1 : Nat) : Int) 0)])), .blk g38 38 #[.int .i64 ((n + Tr.size (mkT g k ((L0.drop s).take (g m))) - 1 : Nat) : Int), .int .i64 (((n + Tr.size (mkT g k ((L0.drop s).take (g m)))) + Tr.size (mkT g k ((L0.drop (s + g m)).take (m - g m))) - 1 : Nat) : Int), .int .i64 0], .blk g6 38 #[.int .i64 ((n + Tr.size (mkT g k ((L0.drop s).take (g m))) - 1 : Nat) : Int), .int .i64 (((n + Tr.size (mkT g k ((L0.drop s).take (g m)))) + Tr.size (mkT g k ((L0.drop (s + g m)).take (m - g m))) - 1 : Nat) : Int), .int .i64 0], .blk lc 75 #[.func (.func fl) #[] #[]], .blk pc 69 #[.func (.func 76) #[] #[.pointer (some ⟨lc, 0, none⟩), .pointer (some ⟨pc, 0, none⟩), .pointer (some ⟨oc, 0, none⟩)]], .ro D (fun w => IntsD D w (.slice (some ⟨bl, ol, none⟩) L0.length cl) L0)]) ty23 (.slice A44 (((n + Tr.size (mkT g k ((L0.drop s).take (g m)))) + Tr.size (mkT g k ((L0.drop (s + g m)).take (m - g m)))) + 1) c45) [.slice A44 (((n + Tr.size (mkT g k ((L0.drop s).take (g m)))) + Tr.size (mkT g k ((L0.drop (s + g m)).take (m - g m)))) + 1) c45] (cs' := #[.slice A44 (((n + Tr.size (mkT g k ((L0.drop s).take (g m)))) + Tr.size (mkT g k ((L0.drop (s + g m)).take (m - g m)))) + 1) c45]) rfl rfl rfl (Nat.le_of_ble_eq_true rfl) rfl
      refine wl_none (fun ρ e => r52 ρ _ _ _ _ _ _ (e _ _ rfl) (e _ _ rfl)) rfl ?_
      refine wl_nil ?_
      refine xw_next K37 ?_
      refine cw_seq (fun FK55 K55 => ?_)
      refine cw_region ?_
      refine wl_val (v := .slice A44 (((n + Tr.size (mkT g k ((L0.drop s).take (g m)))) + Tr.size (mkT g k ((L0.drop (s + g m)).take (m - g m)))) + 1) c45) (fun ρ e => ex_load1 ty23 (e _ _ rfl) (O53.cell 0 0 rfl rfl)) rfl rfl ?_
      refine wl_val (v := .int .i64 ((((n + Tr.size (mkT g k ((L0.drop s).take (g m)))) + Tr.size (mkT g k ((L0.drop (s + g m)).take (m - g m)))) + 1 : Nat) : Int)) (fun ρ e => ex_len el23 (e _ _ rfl)) rfl rfl ?_
      refine wl_val (v := .int .i64 ((((n + Tr.size (mkT g k ((L0.drop s).take (g m)))) + Tr.size (mkT g k ((L0.drop (s + g m)).take (m - g m)))) + 1 - 1 : Nat) : Int)) (fun ρ e => ex_arith (k := .i64) (u := ((((n + Tr.size (mkT g k ((L0.drop s).take (g m)))) + Tr.size (mkT g k ((L0.drop (s + g m)).take (m - g m)))) + 1 : Nat) : Int)) (v := 1) (e _ _ rfl) (e _ _ rfl) (congrArg some ((congrArg _ (show _ = ((((n + Tr.size (mkT g k ((L0.drop s).take (g m)))) + Tr.size (mkT g k ((L0.drop (s + g m)).take (m - g m)))) + 1 - 1 : Nat) : Int) by omega)).trans (wrap_in (by omega) (by omega))))) rfl rfl ?_
      refine wl_val (v := .int .i64 ((((n + Tr.size (mkT g k ((L0.drop s).take (g m)))) + Tr.size (mkT g k ((L0.drop (s + g m)).take (m - g m)))) + 1 - 1 : Nat) : Int)) (fun ρ e => ex_assign (e _ _ rfl)) rfl rfl ?_
      refine wl_nil ?_
      refine xw_next K55 ?_
      refine cw_ret ?_
      refine xw_ret (v := .int .i64 ((((n + Tr.size (mkT g k ((L0.drop s).take (g m)))) + Tr.size (mkT g k ((L0.drop (s + g m)).take (m - g m)))) + 1 - 1 : Nat) : Int)) (fun T hT => res1 rfl T _ (hT 5 _ rfl)) ?_
      have hn : ((n + Tr.size (mkT g k ((L0.drop s).take (g m)))) + Tr.size (mkT g k ((L0.drop (s + g m)).take (m - g m)))) + 1 = n + Tr.size (mkT g (k + 1) ((L0.drop s).take m)) := by rw [hT]; simp only [Tr.size] <;> omega
      have hl : (((l ++ post (mkT g k ((L0.drop s).take (g m))) n) ++ post (mkT g k ((L0.drop (s + g m)).take (m - g m))) (n + Tr.size (mkT g k ((L0.drop s).take (g m))))) ++ [(VN.mk ((n + Tr.size (mkT g k ((L0.drop s).take (g m))) - 1 : Nat) : Int) (((n + Tr.size (mkT g k ((L0.drop s).take (g m)))) + Tr.size (mkT g k ((L0.drop (s + g m)).take (m - g m))) - 1 : Nat) : Int) 0)]) = l ++ post (mkT g (k + 1) ((L0.drop s).take m)) n := by rw [hT]; simp [post]
      have hO := (O53.re [4, 5, 0, 1, 6] rfl : Own Z w0 w51 [.blk lc 75 #[.func (.func fl) #[] #[]], .blk pc 69 #[.func (.func 76) #[] #[.pointer (some ⟨lc, 0, none⟩), .pointer (some ⟨pc, 0, none⟩), .pointer (some ⟨oc, 0, none⟩)]], .blk oc 23 #[.slice A44 (((n + Tr.size (mkT g k ((L0.drop s).take (g m)))) + Tr.size (mkT g k ((L0.drop (s + g m)).take (m - g m)))) + 1) c45], .row (.slice A44 (((n + Tr.size (mkT g k ((L0.drop s).take (g m)))) + Tr.size (mkT g k ((L0.drop (s + g m)).take (m - g m)))) + 1) c45) 38 3 (((n + Tr.size (mkT g k ((L0.drop s).take (g m)))) + Tr.size (mkT g k ((L0.drop (s + g m)).take (m - g m)))) + 1) (ncells (((l ++ post (mkT g k ((L0.drop s).take (g m))) n) ++ post (mkT g k ((L0.drop (s + g m)).take (m - g m))) (n + Tr.size (mkT g k ((L0.drop s).take (g m))))) ++ [(VN.mk ((n + Tr.size (mkT g k ((L0.drop s).take (g m))) - 1 : Nat) : Int) (((n + Tr.size (mkT g k ((L0.drop s).take (g m)))) + Tr.size (mkT g k ((L0.drop (s + g m)).take (m - g m))) - 1 : Nat) : Int) 0)])), .ro D (fun w => IntsD D w (.slice (some ⟨bl, ol, none⟩) L0.length cl) L0)])
      rw [hn, hl] at hO
      exact ⟨A44, c45, congrArg (fun z : Nat => Ending.returned (.int .i64 (z : Int))) (show ((n + Tr.size (mkT g k ((L0.drop s).take (g m)))) + Tr.size (mkT g k ((L0.drop (s + g m)).take (m - g m)))) + 1 - 1 = n + Tr.size (mkT g (k + 1) ((L0.drop s).take m)) - 1 by rw [hT]; simp only [Tr.size] <;> omega), hO⟩
theorem orderedb_ {W : World} {D : Nat → Prop} {V : Value} {l : List Int} (hI : IntsD D W V l) (hD : ∀ k, D k → k < W.heap.size) (hsz : l.length ≤ 1000000) {r : Bool} (h : ordB l = r) :
    Calls Tryd.prog 75 #[V] W fun e w' => e = .returned (.bool r) ∧ Below W.heap.size W w' := h ▸ ordered_ hI hD hsz
theorem range_few {l : List Int} (h : opreB l = true) : l.length ≤ 128 := by
  obtain ⟨h1, h2⟩ := opreB_iff.1 h
  have h3 : (l.map fun v => v - 1).Nodup := by
    rw [List.nodup_iff_pairwise_ne, List.pairwise_map]
    exact (List.nodup_iff_pairwise_ne.1 h2).imp (fun h e => h (by omega))
  have := range_len (n := 128) h3 (fun x hx => by
    obtain ⟨v, hv, rfl⟩ := List.mem_map.1 hx
    have := h1 v hv
    omega)
  simpa using this
theorem IntsD.cap {D : Nat → Prop} {w : World} {A : Option Addr} {n c : Nat} {xs : List Int} (h : IntsD D w (.slice A n c) xs) : xs.length ≤ c := by
  obtain ⟨A', c', h1, h2, _⟩ := h
  injection h1 with _ _ h1
  omega
theorem build_ {W : World} {D : Nat → Prop} {V : Value} {L0 : List Int} (hI : IntsD D W V L0) (hD : ∀ k, D k → k < W.heap.size) (hsz : L0.length ≤ 1000000) {kind : Nat} {g : Nat → Nat} (hgk : g = gOf kind) {fl : FuncId} (hin : Enters Tryd.prog fl) (HL : ∀ (m : Nat) (W : World), 2 ≤ m → m ≤ 1000000 → Calls Tryd.prog fl #[.int .i64 (m : Int)] W fun e w' => e = .returned (.int .i64 ((g m : Nat) : Int)) ∧ Below W.heap.size W w') (hg : ∀ m, 2 ≤ m → 1 ≤ g m ∧ g m < m) :
    Calls Tryd.prog 54 #[V, .func (.func fl) #[] #[]] W fun e w' => ∃ A' c', e = .returned (.tuple #[.slice A' (makeOf kind L0).1.length c', .int .i64 (makeOf kind L0).2]) ∧ Own Z0 W w' [.row (.slice A' (makeOf kind L0).1.length c') 38 3 (makeOf kind L0).1.length (ncells (makeOf kind L0).1)] := by
  obtain ⟨A, cl, rfl⟩ := hI.slice
  have O0 : Own Z0 W W [] := Own.start W
  refine sx_enter (args := [.slice A L0.length cl, .func (.func fl) #[] #[]]) Tryd.func54 rfl rfl (by simp) ?_
  refine cw_seq (fun FK1 K1 => ?_)
  refine cw_region ?_
  obtain ⟨g2, w3, r4, O5, hg6, hs7⟩ := own_box O0 75 (.func (.func fl) #[] #[]) rfl
  refine wl_val (v := .pointer (some ⟨g2, 0, none⟩)) (fun ρ e => r4 ρ _ _ _ _ _ _ (e _ _ rfl)) rfl rfl ?_
  refine wl_val (v := .slice none 0 0) (fun ρ e => ex_assign (e _ _ rfl)) rfl rfl ?_
  refine wl_val (v := .int .i64 0) (fun ρ e => ex_assign (e _ _ rfl)) rfl rfl ?_
  refine wl_nil ?_
  refine xw_next K1 ?_
  refine cw_seq (fun FK8 K8 => ?_)
  refine cw_seq (fun FK9 K9 => ?_)
  refine cw_region ?_
  refine wl_val (v := .slice A L0.length cl) (fun ρ e => ex_move (e _ _ rfl)) rfl rfl ?_
  by_cases c10 : (ordB L0) = true
  · skip
    have hlp := (ordB_iff.1 c10).1
    have hl128 := range_few (ordB_iff.1 c10).2
    obtain ⟨bl, ol, c', hv0⟩ := hI.form hlp
    injection hv0 with hA _ hc
    subst hA hc
    have hcl : L0.length ≤ cl := hI.cap
    have O11 := O5.oldro (D := D) (p := (fun w => IntsD D w (.slice (some ⟨bl, ol, none⟩) L0.length cl) L0)) (inE_holds hI hD)
    refine wl_call (args := [.slice (some ⟨bl, ol, none⟩) L0.length cl]) in_75 rfl rfl rfl ?_
    refine (orderedb_ (hI.move (fun k hk => (O11.old).block k (hD k hk))) (fun k hk => Nat.lt_of_lt_of_le (hD k hk) (O11.old).size) (by omega) (show ordB L0 = true from c10)).mono ?_
    rintro _ w12 ⟨rfl, hb13⟩
    have O14 : Own Z0 W w12 [.ro D (fun w => IntsD D w (.slice (some ⟨bl, ol, none⟩) L0.length cl) L0), .blk g2 75 #[.func (.func fl) #[] #[]]] := O11.below hb13
    refine ⟨_, rfl, ?_⟩
    refine wl_val (v := .bool false) (fun ρ e => ex_lnot (b := true) (e _ _ rfl)) rfl rfl ?_
    refine wl_nil ?_
    refine xw_next K9 ?_
    refine cw_false rfl ?_
    refine cw_skip ?_
    refine xw_next K8 ?_
    refine cw_seq (fun FK15 K15 => ?_)
    refine cw_region ?_
    obtain ⟨g16, w17, r18, O19, hg20, hs21⟩ := own_alloc O14 23 ze23 rfl
    refine wl_val (v := .pointer (some ⟨g16, 0, none⟩)) (fun ρ e => r18 ρ _ _ _ _ _) rfl rfl ?_
    refine wl_nil ?_
    refine xw_next K15 ?_
    refine cw_seq (fun FK22 K22 => ?_)
    refine cw_region ?_
    obtain ⟨g23, w24, r25, O26, hg27, hs28⟩ := own_alloc O19 69 ze69 rfl
    refine wl_val (v := .pointer (some ⟨g23, 0, none⟩)) (fun ρ e => r25 ρ _ _ _ _ _) rfl rfl ?_
    refine wl_nil ?_
    refine xw_next K22 ?_
    refine cw_seq (fun FK29 K29 => ?_)
    refine cw_region ?_
    refine wl_val (v := .func (.func 76) #[] #[.pointer (some ⟨g2, 0, none⟩), .pointer (some ⟨g23, 0, none⟩), .pointer (some ⟨g16, 0, none⟩)]) (fun ρ e => ex_func (us := []) (vs := [.pointer (some ⟨g2, 0, none⟩), .pointer (some ⟨g23, 0, none⟩), .pointer (some ⟨g16, 0, none⟩)]) (e.list rfl) (e.list rfl)) rfl rfl ?_
    obtain ⟨w30, r31, O32, hs33⟩ := own_put (o := 0) (n := 1) O26 ty69 (.func (.func 76) #[] #[.pointer (some ⟨g2, 0, none⟩), .pointer (some ⟨g23, 0, none⟩), .pointer (some ⟨g16, 0, none⟩)]) [.func (.func 76) #[] #[.pointer (some ⟨g2, 0, none⟩), .pointer (some ⟨g23, 0, none⟩), .pointer (some ⟨g16, 0, none⟩)]] (cs' := #[.func (.func 76) #[] #[.pointer (some ⟨g2, 0, none⟩), .pointer (some ⟨g23, 0, none⟩), .pointer (some ⟨g16, 0, none⟩)]]) rfl rfl rfl (Nat.le_of_ble_eq_true rfl) rfl
    refine wl_none (fun ρ e => r31 ρ _ _ _ _ _ _ (e _ _ rfl) (e _ _ rfl)) rfl ?_
    refine wl_nil ?_
    refine xw_next K29 ?_
    refine cw_seq (fun FK34 K34 => ?_)
    refine cw_region ?_
    refine wl_val (v := .func (.func 76) #[] #[.pointer (some ⟨g2, 0, none⟩), .pointer (some ⟨g23, 0, none⟩), .pointer (some ⟨g16, 0, none⟩)]) (fun ρ e => ex_load1 ty69 (e _ _ rfl) (O32.cell 0 0 rfl rfl)) rfl rfl ?_
    refine wl_val (v := .slice (some ⟨bl, ol, none⟩) L0.length cl) (fun ρ e => ex_move (e _ _ rfl)) rfl rfl ?_
    refine wl_callv (args := [.slice (some ⟨bl, ol, none⟩) L0.length cl]) (all := [.slice (some ⟨bl, ol, none⟩) L0.length cl, .pointer (some ⟨g2, 0, none⟩), .pointer (some ⟨g23, 0, none⟩), .pointer (some ⟨g16, 0, none⟩)]) in_76 rfl rfl rfl rfl rfl ?_
    have O35 : Own Z0 W w30 [.row (.slice none 0 0) 38 3 0 (ncells []), .blk g23 69 #[.func (.func 76) #[] #[.pointer (some ⟨g2, 0, none⟩), .pointer (some ⟨g23, 0, none⟩), .pointer (some ⟨g16, 0, none⟩)]], .blk g16 23 #[.slice none 0 0], .ro D (fun w => IntsD D w (.slice (some ⟨bl, ol, none⟩) L0.length cl) L0), .blk g2 75 #[.func (.func fl) #[] #[]]] := O32.nilrow 38 3
    have O40h := Own.hand (A := [.blk g2 75 #[.func (.func fl) #[] #[]], .blk g23 69 #[.func (.func 76) #[] #[.pointer (some ⟨g2, 0, none⟩), .pointer (some ⟨g23, 0, none⟩), .pointer (some ⟨g16, 0, none⟩)]], .blk g16 23 #[.slice none 0 0], .row (.slice none 0 0) 38 3 0 (ncells []), .ro D (fun w => IntsD D w (.slice (some ⟨bl, ol, none⟩) L0.length cl) L0)]) (R := []) (O35.re [4, 1, 2, 0, 3] rfl : Own Z0 W w30 [.blk g2 75 #[.func (.func fl) #[] #[]], .blk g23 69 #[.func (.func 76) #[] #[.pointer (some ⟨g2, 0, none⟩), .pointer (some ⟨g23, 0, none⟩), .pointer (some ⟨g16, 0, none⟩)]], .blk g16 23 #[.slice none 0 0], .row (.slice none 0 0) 38 3 0 (ncells []), .ro D (fun w => IntsD D w (.slice (some ⟨bl, ol, none⟩) L0.length cl) L0)])
    have hwh : (L0.drop 0).take L0.length = L0 := by rw [List.drop_zero, List.take_length]
    have hpt := (part_ hin HL hg L0.length 0 L0.length cl (by omega) (by omega) (by omega) hcl _ _ _ _ _ _ [] O40h (by omega))
    rw [hwh] at hpt
    refine (hpt).mono ?_
    rintro _ w38 ⟨A36, c37, rfl, h39⟩
    have O40 : Own Z0 W w38 [.blk g2 75 #[.func (.func fl) #[] #[]], .blk g23 69 #[.func (.func 76) #[] #[.pointer (some ⟨g2, 0, none⟩), .pointer (some ⟨g23, 0, none⟩), .pointer (some ⟨g16, 0, none⟩)]], .blk g16 23 #[.slice A36 (0 + Tr.size (mkT g L0.length L0)) c37], .row (.slice A36 (0 + Tr.size (mkT g L0.length L0)) c37) 38 3 (0 + Tr.size (mkT g L0.length L0)) (ncells ([] ++ post (mkT g L0.length L0) 0)), .ro D (fun w => IntsD D w (.slice (some ⟨bl, ol, none⟩) L0.length cl) L0)] := Own.frame (A := [.blk g2 75 #[.func (.func fl) #[] #[]], .blk g23 69 #[.func (.func 76) #[] #[.pointer (some ⟨g2, 0, none⟩), .pointer (some ⟨g23, 0, none⟩), .pointer (some ⟨g16, 0, none⟩)]], .blk g16 23 #[.slice none 0 0], .row (.slice none 0 0) 38 3 0 (ncells []), .ro D (fun w => IntsD D w (.slice (some ⟨bl, ol, none⟩) L0.length cl) L0)]) (R := []) (O35.re [4, 1, 2, 0, 3] rfl : Own Z0 W w30 [.blk g2 75 #[.func (.func fl) #[] #[]], .blk g23 69 #[.func (.func 76) #[] #[.pointer (some ⟨g2, 0, none⟩), .pointer (some ⟨g23, 0, none⟩), .pointer (some ⟨g16, 0, none⟩)]], .blk g16 23 #[.slice none 0 0], .row (.slice none 0 0) 38 3 0 (ncells []), .ro D (fun w => IntsD D w (.slice (some ⟨bl, ol, none⟩) L0.length cl) L0)]) h39
    refine ⟨_, rfl, ?_⟩
    refine wl_nil ?_
    refine xw_next K34 ?_
    refine cw_seq (fun FK41 K41 => ?_)
    refine cw_region ?_
    refine wl_val (v := .slice A36 (0 + Tr.size (mkT g L0.length L0)) c37) (fun ρ e => ex_load1 ty23 (e _ _ rfl) (O40.cell 2 0 rfl rfl)) rfl rfl ?_
    refine wl_val (v := .slice A36 (0 + Tr.size (mkT g L0.length L0)) c37) (fun ρ e => ex_assign (e _ _ rfl)) rfl rfl ?_
    refine wl_val (v := .int .i64 0) (fun ρ e => ex_assign (e _ _ rfl)) rfl rfl ?_
    refine wl_nil ?_
    refine xw_next K41 ?_
    refine cw_ret ?_
    refine xw_ret (v := .tuple #[.slice A36 (0 + Tr.size (mkT g L0.length L0)) c37, .int .i64 0]) (fun T hT => res2 rfl T _ (hT 4 _ rfl) (hT 5 _ rfl)) ?_
    have hm : makeOf kind L0 = (post (mkT g L0.length L0) 0, 0) := by unfold makeOf; rw [c10, ← hgk]; rfl
    rw [hm]
    simp only [post_len]
    have hO := (O40.re [3] rfl : Own Z0 W w38 [.row (.slice A36 (0 + Tr.size (mkT g L0.length L0)) c37) 38 3 (0 + Tr.size (mkT g L0.length L0)) (ncells ([] ++ post (mkT g L0.length L0) 0))])
    rw [Nat.zero_add, List.nil_append] at hO
    exact ⟨A36, c37, by rw [Nat.zero_add], hO⟩
  · skip
    refine wl_call (args := [.slice A L0.length cl]) in_75 rfl rfl rfl ?_
    refine (orderedb_ (hI.move (fun k hk => (O5.old).block k (hD k hk))) (fun k hk => Nat.lt_of_lt_of_le (hD k hk) (O5.old).size) (by omega) (show ordB L0 = false from Bool.eq_false_iff.2 c10)).mono ?_
    rintro _ w42 ⟨rfl, hb43⟩
    have O44 : Own Z0 W w42 [.blk g2 75 #[.func (.func fl) #[] #[]]] := O5.below hb43
    refine ⟨_, rfl, ?_⟩
    refine wl_val (v := .bool true) (fun ρ e => ex_lnot (b := false) (e _ _ rfl)) rfl rfl ?_
    refine wl_nil ?_
    refine xw_next K9 ?_
    refine cw_true rfl ?_
    refine cw_seq (fun FK45 K45 => ?_)
    refine cw_region ?_
    refine wl_val (v := .slice none 0 0) (fun ρ e => ex_assign (e _ _ rfl)) rfl rfl ?_
    refine wl_val (v := .int .i64 1) (fun ρ e => ex_assign (e _ _ rfl)) rfl rfl ?_
    refine wl_nil ?_
    refine xw_next K45 ?_
    refine cw_ret ?_
    refine xw_past (by intro h; cases h) ?_
    refine xw_ret (v := .tuple #[.slice none 0 0, .int .i64 1]) (fun T hT => res2 rfl T _ (hT 4 _ rfl) (hT 5 _ rfl)) ?_
    have hm : makeOf kind L0 = ([], 1) := by unfold makeOf; rw [Bool.eq_false_iff.2 c10]; rfl
    rw [hm]
    have O46 := O44.nilrow 38 3
    exact ⟨none, 0, rfl, O46.re [0] rfl⟩
theorem right_ {W : World} {D : Nat → Prop} {V : Value} {L0 : List Int} (hI : IntsD D W V L0) (hD : ∀ k, D k → k < W.heap.size) (hsz : L0.length ≤ 1000000) :
    Calls Tryd.prog 24 #[V] W fun e w' => ∃ A' c', e = .returned (.tuple #[.slice A' (makeOf 1 L0).1.length c', .int .i64 (makeOf 1 L0).2]) ∧ Own Z0 W w' [.row (.slice A' (makeOf 1 L0).1.length c') 38 3 (makeOf 1 L0).1.length (ncells (makeOf 1 L0).1)] := by
  obtain ⟨A, cl, rfl⟩ := hI.slice
  have O0 : Own Z0 W W [] := Own.start W
  refine sx_enter (args := [.slice A L0.length cl]) Tryd.func24 rfl rfl (by simp) ?_
  refine cw_seq (fun FK1 K1 => ?_)
  refine cw_region ?_
  refine wl_val (v := .slice none 0 0) (fun ρ e => ex_assign (e _ _ rfl)) rfl rfl ?_
  refine wl_val (v := .int .i64 0) (fun ρ e => ex_assign (e _ _ rfl)) rfl rfl ?_
  refine wl_nil ?_
  refine xw_next K1 ?_
  refine cw_seq (fun FK2 K2 => ?_)
  refine cw_region ?_
  refine wl_val (v := .slice A L0.length cl) (fun ρ e => ex_move (e _ _ rfl)) rfl rfl ?_
  refine wl_call (args := [.slice A L0.length cl, .func (.func 55) #[] #[]]) in_54 rfl rfl rfl ?_
  refine (build_ (kind := 1) (hI.move (fun k hk => (O0.old).block k (hD k hk))) (fun k hk => Nat.lt_of_lt_of_le (hD k hk) (O0.old).size) hsz rfl in_55 (fun m W h h2 => part55 h h2) (gOf_good 1)).mono ?_
  rintro _ w5 ⟨A3, c4, rfl, h6⟩
  have O7 := O0.join1 h6 trivial
  refine ⟨_, rfl, ?_⟩
  refine wl_val (v := .slice A3 ((makeOf 1 L0).1.length) c4) (fun ρ e => ex_extract (vs := #[.slice A3 ((makeOf 1 L0).1.length) c4, .int .i64 ((makeOf 1 L0).2)]) (e _ _ rfl) rfl) rfl rfl ?_
  refine wl_val (v := .int .i64 ((makeOf 1 L0).2)) (fun ρ e => ex_extract (vs := #[.slice A3 ((makeOf 1 L0).1.length) c4, .int .i64 ((makeOf 1 L0).2)]) (e _ _ rfl) rfl) rfl rfl ?_
  refine wl_val (v := .slice A3 ((makeOf 1 L0).1.length) c4) (fun ρ e => ex_assign (e _ _ rfl)) rfl rfl ?_
  refine wl_val (v := .int .i64 ((makeOf 1 L0).2)) (fun ρ e => ex_assign (e _ _ rfl)) rfl rfl ?_
  refine wl_nil ?_
  refine xw_next K2 ?_
  refine cw_ret ?_
  refine xw_ret (v := .tuple #[.slice A3 ((makeOf 1 L0).1.length) c4, .int .i64 ((makeOf 1 L0).2)]) (fun T hT => res2 rfl T _ (hT 2 _ rfl) (hT 3 _ rfl)) ?_
  exact ⟨A3, c4, rfl, O7⟩
end Go.Proofs.YtpeoodkepjhhiaaDoor
namespace Go.Proofs.YtpeoodkepjhhiaaDoor
open Go Go.RowKit
theorem read_ {W : World} (s : ByteArray) (tab : Tab W) : Calls Tryd.prog 47 #[.string s] W fun e w' => ∃ A' c', e = .returned (.slice A' (parseOf s.data.toList).1.length c') ∧ Own Z0 W w' [.row (.slice A' (parseOf s.data.toList).1.length c') 38 3 (parseOf s.data.toList).1.length (ncells (parseOf s.data.toList).1)] := by
  have O0 : Own Z0 W W [] := Own.start W
  refine sx_enter (args := [.string s]) Tryd.func47 rfl rfl (by simp) ?_
  refine cw_seq (fun FK1 K1 => ?_)
  refine cw_region ?_
  refine wl_val (v := .slice none 0 0) (fun ρ e => ex_assign (e _ _ rfl)) rfl rfl ?_
  refine wl_nil ?_
  refine xw_next K1 ?_
  refine cw_seq (fun FK2 K2 => ?_)
  refine cw_region ?_
  refine wl_val (v := .string s) (fun ρ e => ex_move (e _ _ rfl)) rfl rfl ?_
  refine wl_call (args := [.string s]) in_17 rfl rfl rfl ?_
  have hc8 := parse_ s (tab.below (Nat.le_refl _) O0.old)
  refine hc8.mono ?_
  rintro _ w5 ⟨A3, c4, rfl, h6⟩
  have O7 := O0.join1 h6 trivial
  refine ⟨_, rfl, ?_⟩
  refine wl_val (v := .tuple #[.slice A3 ((parseOf s.data.toList).1.length) c4, .int .i64 ((parseOf s.data.toList).2)]) (fun ρ e => ex_move (e _ _ rfl)) rfl rfl ?_
  refine wl_val (v := .slice A3 ((parseOf s.data.toList).1.length) c4) (fun ρ e => ex_extract (vs := #[.slice A3 ((parseOf s.data.toList).1.length) c4, .int .i64 ((parseOf s.data.toList).2)]) (e _ _ rfl) rfl) rfl rfl ?_
  refine wl_val (v := .int .i64 ((parseOf s.data.toList).2)) (fun ρ e => ex_extract (vs := #[.slice A3 ((parseOf s.data.toList).1.length) c4, .int .i64 ((parseOf s.data.toList).2)]) (e _ _ rfl) rfl) rfl rfl ?_
  refine wl_val (v := .slice A3 ((parseOf s.data.toList).1.length) c4) (fun ρ e => ex_assign (e _ _ rfl)) rfl rfl ?_
  refine wl_val (v := .int .i64 ((parseOf s.data.toList).2)) (fun ρ e => ex_assign (e _ _ rfl)) rfl rfl ?_
  refine wl_nil ?_
  refine xw_next K2 ?_
  refine cw_seq (fun FK9 K9 => ?_)
  refine cw_region ?_
  refine wl_val (v := .slice A3 ((parseOf s.data.toList).1.length) c4) (fun ρ e => ex_move (e _ _ rfl)) rfl rfl ?_
  refine wl_val (v := .slice A3 ((parseOf s.data.toList).1.length) c4) (fun ρ e => ex_assign (e _ _ rfl)) rfl rfl ?_
  refine wl_nil ?_
  refine xw_next K9 ?_
  refine cw_ret ?_
  refine xw_ret (v := .slice A3 ((parseOf s.data.toList).1.length) c4) (fun T hT => res1 rfl T _ (hT 2 _ rfl)) ?_
  exact ⟨A3, c4, rfl, O7⟩
def shownOf (ts : List VN) (ev : Int) : ByteArray := if ev ≠ 0 ∨ chkV ts ≠ 0 then ⟨#[110, 111, 110, 101]⟩ else ⟨(printOf ts).toArray⟩
theorem shown_ {W : World} {D : Nat → Prop} {V : Value} {ts : List VN} (hN : NodesD D W V ts) (hD : ∀ k, D k → k < W.heap.size) (tab : Tab W) (ev : Int) : Calls Tryd.prog 21 #[V, .int .i64 ev] W fun e w' => e = .returned (.string (shownOf ts ev)) ∧ Below W.heap.size W w' := by
  obtain ⟨A, c, rfl⟩ := hN.slice
  have O0 : Own Z0 W W [] := Own.start W
  refine sx_enter (args := [.slice A ts.length c, .int .i64 ev]) Tryd.func21 rfl rfl (by simp) ?_
  refine cw_seq (fun FK1 K1 => ?_)
  refine cw_region ?_
  refine wl_val (v := .string (⟨#[]⟩)) (fun ρ e => ex_assign (e _ _ rfl)) rfl rfl ?_
  refine wl_nil ?_
  refine xw_next K1 ?_
  refine cw_seq (fun FK2 K2 => ?_)
  refine cw_region ?_
  refine wl_val (v := .slice A ts.length c) (fun ρ e => ex_move (e _ _ rfl)) rfl rfl ?_
  refine wl_call (args := [.slice A ts.length c]) in_39 rfl rfl rfl ?_
  refine (print_ (hN.move (fun k hk => (O0.old).block k (hD k hk))) (fun k hk => Nat.lt_of_lt_of_le (hD k hk) (O0.old).size) (tab.below (Nat.le_refl _) O0.old)).mono ?_
  rintro _ w3 ⟨rfl, hb4⟩
  have O5 : Own Z0 W w3 [] := O0.below hb4
  refine ⟨_, rfl, ?_⟩
  refine wl_val (v := .tuple #[.string (⟨(printOf ts).toArray⟩), .int .i64 (chkV ts)]) (fun ρ e => ex_move (e _ _ rfl)) rfl rfl ?_
  refine wl_val (v := .string (⟨(printOf ts).toArray⟩)) (fun ρ e => ex_extract (vs := #[.string (⟨(printOf ts).toArray⟩), .int .i64 (chkV ts)]) (e _ _ rfl) rfl) rfl rfl ?_
  refine wl_val (v := .int .i64 (chkV ts)) (fun ρ e => ex_extract (vs := #[.string (⟨(printOf ts).toArray⟩), .int .i64 (chkV ts)]) (e _ _ rfl) rfl) rfl rfl ?_
  refine wl_val (v := .string (⟨(printOf ts).toArray⟩)) (fun ρ e => ex_assign (e _ _ rfl)) rfl rfl ?_
  refine wl_val (v := .int .i64 (chkV ts)) (fun ρ e => ex_assign (e _ _ rfl)) rfl rfl ?_
  refine wl_nil ?_
  refine xw_next K2 ?_
  refine cw_seq (fun FK6 K6 => ?_)
  refine cw_seq (fun FK7 K7 => ?_)
  refine cw_region ?_
  refine wl_val (v := .int .i64 ev) (fun ρ e => ex_move (e _ _ rfl)) rfl rfl ?_
  by_cases c8 : ev ≠ 0
  · skip
    refine wl_val (v := .bool true) (fun ρ e => ex_cmp (u := ev) (v := 0) (e _ _ rfl) (e _ _ rfl) (neq1 (by omega))) rfl rfl ?_
    refine wl_val (v := .bool true) (fun ρ e => ex_move (e _ _ rfl)) rfl rfl ?_
    refine wl_skip rfl rfl ?_
    refine wl_skip rfl rfl ?_
    refine wl_val (v := .bool true) (fun ρ e => ex_pick1 (e _ _ rfl) (e _ _ rfl)) rfl rfl ?_
    refine wl_nil ?_
    refine xw_next K7 ?_
    refine cw_true rfl ?_
    refine cw_seq (fun FK9 K9 => ?_)
    refine cw_region ?_
    refine wl_val (v := .string (⟨#[110, 111, 110, 101]⟩)) (fun ρ e => ex_assign (e _ _ rfl)) rfl rfl ?_
    refine wl_nil ?_
    refine xw_next K9 ?_
    refine cw_ret ?_
    refine xw_past (by intro h; cases h) ?_
    refine xw_ret (v := .string (⟨#[110, 111, 110, 101]⟩)) (fun T hT => res1 rfl T _ (hT 4 _ rfl)) ?_
    have hs : shownOf ts ev = ⟨#[110, 111, 110, 101]⟩ := by unfold shownOf; rw [if_pos (by omega)]
    rw [hs]
    exact ⟨rfl, O5.old⟩
  · skip
    refine wl_val (v := .bool false) (fun ρ e => ex_cmp (u := ev) (v := 0) (e _ _ rfl) (e _ _ rfl) (neq0 (by omega))) rfl rfl ?_
    refine wl_val (v := .bool false) (fun ρ e => ex_move (e _ _ rfl)) rfl rfl ?_
    refine wl_val (v := .int .i64 (chkV ts)) (fun ρ e => ex_move (e _ _ rfl)) rfl rfl ?_
    by_cases c10 : (chkV ts) ≠ 0
    · skip
      refine wl_val (v := .bool true) (fun ρ e => ex_cmp (u := (chkV ts)) (v := 0) (e _ _ rfl) (e _ _ rfl) (neq1 (by omega))) rfl rfl ?_
      refine wl_val (v := .bool true) (fun ρ e => ex_pick0 (e _ _ rfl) (e _ _ rfl)) rfl rfl ?_
      refine wl_nil ?_
      refine xw_next K7 ?_
      refine cw_true rfl ?_
      refine cw_seq (fun FK11 K11 => ?_)
      refine cw_region ?_
      refine wl_val (v := .string (⟨#[110, 111, 110, 101]⟩)) (fun ρ e => ex_assign (e _ _ rfl)) rfl rfl ?_
      refine wl_nil ?_
      refine xw_next K11 ?_
      refine cw_ret ?_
      refine xw_past (by intro h; cases h) ?_
      refine xw_ret (v := .string (⟨#[110, 111, 110, 101]⟩)) (fun T hT => res1 rfl T _ (hT 4 _ rfl)) ?_
      have hs : shownOf ts ev = ⟨#[110, 111, 110, 101]⟩ := by unfold shownOf; rw [if_pos (by omega)]
      rw [hs]
      exact ⟨rfl, O5.old⟩
    · skip
      refine wl_val (v := .bool false) (fun ρ e => ex_cmp (u := (chkV ts)) (v := 0) (e _ _ rfl) (e _ _ rfl) (neq0 (by omega))) rfl rfl ?_
      refine wl_val (v := .bool false) (fun ρ e => ex_pick0 (e _ _ rfl) (e _ _ rfl)) rfl rfl ?_
      refine wl_nil ?_
      refine xw_next K7 ?_
      refine cw_false rfl ?_
      refine cw_skip ?_
      refine xw_next K6 ?_
      refine cw_seq (fun FK12 K12 => ?_)
      refine cw_region ?_
      refine wl_val (v := .string (⟨(printOf ts).toArray⟩)) (fun ρ e => ex_move (e _ _ rfl)) rfl rfl ?_
      refine wl_val (v := .string (⟨(printOf ts).toArray⟩)) (fun ρ e => ex_assign (e _ _ rfl)) rfl rfl ?_
      refine wl_nil ?_
      refine xw_next K12 ?_
      refine cw_ret ?_
      refine xw_ret (v := .string (⟨(printOf ts).toArray⟩)) (fun T hT => res1 rfl T _ (hT 4 _ rfl)) ?_
      have hs : shownOf ts ev = ⟨(printOf ts).toArray⟩ := by unfold shownOf; rw [if_neg (by omega)]
      rw [hs]
      exact ⟨rfl, O5.old⟩
def T5 : List VN := [⟨-1, -1, 3⟩, ⟨-1, -1, 1⟩, ⟨0, 1, 0⟩, ⟨-1, -1, 2⟩, ⟨2, 3, 0⟩]
def T6 : List VN := [⟨-1, -1, 3⟩, ⟨-1, -1, 1⟩, ⟨-1, -1, 2⟩, ⟨1, 2, 0⟩, ⟨0, 3, 0⟩]
def T7 : List VN := [⟨-1, -1, 1⟩, ⟨-1, -1, 3⟩, ⟨0, 1, 0⟩, ⟨-1, -1, 2⟩, ⟨2, 3, 0⟩]
theorem w5 : parseOf (⟨#[40, 40, 51, 32, 49, 41, 32, 50, 41]⟩ : ByteArray).data.toList = (T5, 0) := by kernel_rfl
theorem w6 : movOf T5 1 4 = (T6, 0) := by kernel_rfl
theorem w7 : movOf T5 3 2 = (T7, 0) := by kernel_rfl
theorem w8 : makeOf 1 [3, 1, 2] = (T6, 0) := by kernel_rfl
theorem w9 : meetOf T5 0 3 = 4 := by kernel_rfl
theorem s6 : shownOf T6 0 = ⟨#[40, 51, 32, 40, 49, 32, 50, 41, 41]⟩ := by kernel_rfl
theorem s7 : shownOf T7 0 = ⟨#[40, 40, 49, 32, 51, 41, 32, 50, 41]⟩ := by kernel_rfl
theorem works_ {W : World} (tab : Tab W) : Calls Tryd.prog 14 #[] W fun e w' => e = .returned (.bool true) ∧ Below W.heap.size W w' := by
  have O0 : Own Z0 W W [] := Own.start W
  refine sx_enter (args := []) Tryd.func14 rfl rfl (by simp) ?_
  refine cw_seq (fun FK1 K1 => ?_)
  refine cw_region ?_
  refine wl_val (v := .bool false) (fun ρ e => ex_assign (e _ _ rfl)) rfl rfl ?_
  refine wl_nil ?_
  refine xw_next K1 ?_
  refine cw_seq (fun FK2 K2 => ?_)
  refine cw_region ?_
  refine wl_call (args := [.string (⟨#[40, 40, 51, 32, 49, 41, 32, 50, 41]⟩)]) in_47 rfl rfl rfl ?_
  have hc8 := read_ ⟨#[40, 40, 51, 32, 49, 41, 32, 50, 41]⟩ (tab.below (Nat.le_refl _) O0.old)
  rw [w5] at hc8
  refine hc8.mono ?_
  rintro _ w5 ⟨A3, c4, rfl, h6⟩
  have O7 := O0.join1 h6 trivial
  obtain ⟨g9, hg9⟩ := rowaddr (O7.row 0 rfl) (by decide)
  subst hg9
  refine ⟨_, rfl, ?_⟩
  refine wl_val (v := .slice (some ⟨g9, 0, none⟩) 5 c4) (fun ρ e => ex_assign (e _ _ rfl)) rfl rfl ?_
  refine wl_nil ?_
  refine xw_next K2 ?_
  refine cw_seq (fun FK10 K10 => ?_)
  refine cw_region ?_
  refine wl_val (v := .slice (some ⟨g9, 0, none⟩) 5 c4) (fun ρ e => ex_move (e _ _ rfl)) rfl rfl ?_
  refine wl_val (v := .int .i64 (5 : Int)) (fun ρ e => ex_len el23 (e _ _ rfl)) rfl rfl ?_
  refine wl_val (v := .bool true) (fun ρ e => ex_cmp (u := (5 : Int)) (v := 5) (e _ _ rfl) (e _ _ rfl) (eql1 (by omega))) rfl rfl ?_
  refine wl_val (v := .bool true) (fun ρ e => ex_move (e _ _ rfl)) rfl rfl ?_
  refine wl_val (v := .slice (some ⟨g9, 0, none⟩) 5 c4) (fun ρ e => ex_move (e _ _ rfl)) rfl rfl ?_
  refine wl_val (v := .pointer (some ⟨g9, 6, none⟩)) (fun ρ e => ex_idx (q := 6) (i := 2) el23 (e _ _ rfl) (e _ _ rfl) (by omega) (by omega)) rfl rfl ?_
  refine wl_val (v := .agg #[.int .i64 0, .int .i64 1, .int .i64 0]) (fun ρ e => ex_loadN (vs := [.int .i64 0, .int .i64 1, .int .i64 0]) ty38 (e _ _ rfl) rfl (cells3 (rowcell (O7.row 0 rfl) (show (ncells T5)[6]? = _ from rfl)) (rowcell (O7.row 0 rfl) (show (ncells T5)[7]? = _ from rfl)) (rowcell (O7.row 0 rfl) (show (ncells T5)[8]? = _ from rfl)))) rfl rfl ?_
  refine wl_val (v := .agg #[.int .i64 0, .int .i64 1, .int .i64 0]) (fun ρ e => ex_build (cells := #[.int .i64 0, .int .i64 1, .int .i64 0]) st38 (e.parts rfl) rfl) rfl rfl ?_
  refine wl_val (v := .bool true) (fun ρ e => ex_eqN (a := (VN.mk 0 1 0)) (b := (VN.mk 0 1 0)) (e _ _ rfl) (e _ _ rfl) (decide_eq_true rfl)) rfl rfl ?_
  refine wl_val (v := .bool true) (fun ρ e => ex_pick1 (e _ _ rfl) (e _ _ rfl)) rfl rfl ?_
  refine wl_val (v := .bool true) (fun ρ e => ex_move (e _ _ rfl)) rfl rfl ?_
  refine wl_val (v := .slice (some ⟨g9, 0, none⟩) 5 c4) (fun ρ e => ex_move (e _ _ rfl)) rfl rfl ?_
  refine wl_call (args := [.slice (some ⟨g9, 0, none⟩) 5 c4, .int .i64 4]) in_32 rfl rfl rfl ?_
  have hc16 := rotr_ (NodesD.of_row (O7.row 0 rfl)) (fun k hk => (World.ownsRow.lt (O7.row 0 rfl) k hk).2) 4
  rw [w6] at hc16
  refine hc16.mono ?_
  rintro _ w13 ⟨A11, c12, rfl, h14⟩
  have O15 := O7.join1 h14 trivial
  refine ⟨_, rfl, ?_⟩
  refine wl_val (v := .slice A11 T6.length c12) (fun ρ e => ex_extract (vs := #[.slice A11 T6.length c12, .int .i64 0]) (e _ _ rfl) rfl) rfl rfl ?_
  refine wl_val (v := .int .i64 0) (fun ρ e => ex_extract (vs := #[.slice A11 T6.length c12, .int .i64 0]) (e _ _ rfl) rfl) rfl rfl ?_
  refine wl_call (args := [.slice A11 T6.length c12, .int .i64 0]) in_21 rfl rfl rfl ?_
  have hc17 := shown_ (NodesD.of_row (O15.row 0 rfl)) (fun k hk => (World.ownsRow.lt (O15.row 0 rfl) k hk).2) (tab.below (Nat.le_refl _) O15.old) 0
  rw [s6] at hc17
  refine hc17.mono ?_
  rintro _ w18 ⟨rfl, hb19⟩
  have O20 : Own Z0 W w18 [.row (.slice A11 T6.length c12) 38 3 T6.length (ncells T6), .row (.slice (some ⟨g9, 0, none⟩) 5 c4) 38 3 5 (ncells T5)] := O15.below hb19
  refine ⟨_, rfl, ?_⟩
  refine wl_val (v := .bool true) (fun ρ e => ex_eqS (a := ⟨#[40, 51, 32, 40, 49, 32, 50, 41, 41]⟩) (b := ⟨#[40, 51, 32, 40, 49, 32, 50, 41, 41]⟩) (e _ _ rfl) (e _ _ rfl) (by rw [decide_eq_true rfl])) rfl rfl ?_
  refine wl_val (v := .bool true) (fun ρ e => ex_pick1 (e _ _ rfl) (e _ _ rfl)) rfl rfl ?_
  refine wl_val (v := .bool true) (fun ρ e => ex_move (e _ _ rfl)) rfl rfl ?_
  refine wl_val (v := .slice (some ⟨g9, 0, none⟩) 5 c4) (fun ρ e => ex_move (e _ _ rfl)) rfl rfl ?_
  refine wl_call (args := [.slice (some ⟨g9, 0, none⟩) 5 c4, .int .i64 2]) in_34 rfl rfl rfl ?_
  have hc26 := swap_ (NodesD.of_row (O20.row 1 rfl)) (fun k hk => (World.ownsRow.lt (O20.row 1 rfl) k hk).2) 2
  rw [w7] at hc26
  refine hc26.mono ?_
  rintro _ w23 ⟨A21, c22, rfl, h24⟩
  have O25 := O20.join1 h24 trivial
  refine ⟨_, rfl, ?_⟩
  refine wl_val (v := .slice A21 T7.length c22) (fun ρ e => ex_extract (vs := #[.slice A21 T7.length c22, .int .i64 0]) (e _ _ rfl) rfl) rfl rfl ?_
  refine wl_val (v := .int .i64 0) (fun ρ e => ex_extract (vs := #[.slice A21 T7.length c22, .int .i64 0]) (e _ _ rfl) rfl) rfl rfl ?_
  refine wl_call (args := [.slice A21 T7.length c22, .int .i64 0]) in_21 rfl rfl rfl ?_
  have hc27 := shown_ (NodesD.of_row (O25.row 0 rfl)) (fun k hk => (World.ownsRow.lt (O25.row 0 rfl) k hk).2) (tab.below (Nat.le_refl _) O25.old) 0
  rw [s7] at hc27
  refine hc27.mono ?_
  rintro _ w28 ⟨rfl, hb29⟩
  have O30 : Own Z0 W w28 [.row (.slice A21 T7.length c22) 38 3 T7.length (ncells T7), .row (.slice A11 T6.length c12) 38 3 T6.length (ncells T6), .row (.slice (some ⟨g9, 0, none⟩) 5 c4) 38 3 5 (ncells T5)] := O25.below hb29
  refine ⟨_, rfl, ?_⟩
  refine wl_val (v := .bool true) (fun ρ e => ex_eqS (a := ⟨#[40, 40, 49, 32, 51, 41, 32, 50, 41]⟩) (b := ⟨#[40, 40, 49, 32, 51, 41, 32, 50, 41]⟩) (e _ _ rfl) (e _ _ rfl) (by rw [decide_eq_true rfl])) rfl rfl ?_
  refine wl_val (v := .bool true) (fun ρ e => ex_pick1 (e _ _ rfl) (e _ _ rfl)) rfl rfl ?_
  refine wl_val (v := .bool true) (fun ρ e => ex_move (e _ _ rfl)) rfl rfl ?_
  obtain ⟨g31, w32, r33, O34, hg35, hs36⟩ := own_slice O30 el36 ze3 3 [(0, .int .i64 3), (1, .int .i64 1), (2, .int .i64 2)] (cs := #[.int .i64 3, .int .i64 1, .int .i64 2]) (by decide) (by kernel_rfl)
  refine wl_val (v := .slice (some ⟨g31, 0, none⟩) 3 3) (fun ρ e => r33 ρ _ _ _ _ _ _ (e.parts rfl)) rfl rfl ?_
  refine wl_call (args := [.slice (some ⟨g31, 0, none⟩) 3 3]) in_24 rfl rfl rfl ?_
  have hc42 := right_ (IntsD.of_blk (n := 3) (l := [3, 1, 2]) (O34.blk 0 rfl) rfl (by unfold maxLen; omega)) (fun k hk => hk ▸ (O34.blk 0 rfl).lt) (by decide)
  rw [w8] at hc42
  refine hc42.mono ?_
  rintro _ w39 ⟨A37, c38, rfl, h40⟩
  have O41 := O34.join1 h40 trivial
  refine ⟨_, rfl, ?_⟩
  refine wl_val (v := .slice A37 T6.length c38) (fun ρ e => ex_extract (vs := #[.slice A37 T6.length c38, .int .i64 0]) (e _ _ rfl) rfl) rfl rfl ?_
  refine wl_val (v := .int .i64 0) (fun ρ e => ex_extract (vs := #[.slice A37 T6.length c38, .int .i64 0]) (e _ _ rfl) rfl) rfl rfl ?_
  refine wl_call (args := [.slice A37 T6.length c38, .int .i64 0]) in_21 rfl rfl rfl ?_
  have hc43 := shown_ (NodesD.of_row (O41.row 0 rfl)) (fun k hk => (World.ownsRow.lt (O41.row 0 rfl) k hk).2) (tab.below (Nat.le_refl _) O41.old) 0
  rw [s6] at hc43
  refine hc43.mono ?_
  rintro _ w44 ⟨rfl, hb45⟩
  have O46 : Own Z0 W w44 [.row (.slice A37 T6.length c38) 38 3 T6.length (ncells T6), .blk g31 3 #[.int .i64 3, .int .i64 1, .int .i64 2], .row (.slice A21 T7.length c22) 38 3 T7.length (ncells T7), .row (.slice A11 T6.length c12) 38 3 T6.length (ncells T6), .row (.slice (some ⟨g9, 0, none⟩) 5 c4) 38 3 5 (ncells T5)] := O41.below hb45
  refine ⟨_, rfl, ?_⟩
  refine wl_val (v := .bool true) (fun ρ e => ex_eqS (a := ⟨#[40, 51, 32, 40, 49, 32, 50, 41, 41]⟩) (b := ⟨#[40, 51, 32, 40, 49, 32, 50, 41, 41]⟩) (e _ _ rfl) (e _ _ rfl) (by rw [decide_eq_true rfl])) rfl rfl ?_
  refine wl_val (v := .bool true) (fun ρ e => ex_pick1 (e _ _ rfl) (e _ _ rfl)) rfl rfl ?_
  refine wl_val (v := .bool true) (fun ρ e => ex_move (e _ _ rfl)) rfl rfl ?_
  refine wl_val (v := .slice (some ⟨g9, 0, none⟩) 5 c4) (fun ρ e => ex_move (e _ _ rfl)) rfl rfl ?_
  refine wl_call (args := [.slice (some ⟨g9, 0, none⟩) 5 c4, .int .i64 0, .int .i64 3]) in_15 rfl rfl rfl ?_
  have hc47 := meet_ (NodesD.of_row (O46.row 4 rfl)) (fun k hk => (World.ownsRow.lt (O46.row 4 rfl) k hk).2) 0 3
  rw [w9] at hc47
  refine hc47.mono ?_
  rintro _ w48 ⟨rfl, hb49⟩
  have O50 : Own Z0 W w48 [.row (.slice A37 T6.length c38) 38 3 T6.length (ncells T6), .blk g31 3 #[.int .i64 3, .int .i64 1, .int .i64 2], .row (.slice A21 T7.length c22) 38 3 T7.length (ncells T7), .row (.slice A11 T6.length c12) 38 3 T6.length (ncells T6), .row (.slice (some ⟨g9, 0, none⟩) 5 c4) 38 3 5 (ncells T5)] := O46.below hb49
  refine ⟨_, rfl, ?_⟩
  refine wl_val (v := .bool true) (fun ρ e => ex_cmp (u := 4) (v := 4) (e _ _ rfl) (e _ _ rfl) (eql1 (by omega))) rfl rfl ?_
  refine wl_val (v := .bool true) (fun ρ e => ex_pick1 (e _ _ rfl) (e _ _ rfl)) rfl rfl ?_
  refine wl_val (v := .bool true) (fun ρ e => ex_assign (e _ _ rfl)) rfl rfl ?_
  refine wl_nil ?_
  refine xw_next K10 ?_
  refine cw_ret ?_
  refine xw_ret (v := .bool true) (fun T hT => res1 rfl T _ (hT 0 _ rfl)) ?_
  exact ⟨rfl, O50.old⟩

end Go.Proofs.YtpeoodkepjhhiaaDoor
namespace Go.Proofs.YtpeoodkepjhhiaaDoor
open Go.ChangeShapes Go.WideShapes Go.ChangeAt Go.RowKit

end Go.Proofs.YtpeoodkepjhhiaaDoor
namespace Go.Proofs.YtpeoodkepjhhiaaDoor
open Go Go.RowKit Go.ChangeShapes Go.WideShapes Go.Deep Go.Joins

theorem laidOut : laidOutB Tryd.prog = true := by kernel_rfl

section
variable {H : Type} {enc : TypeId × Value → H} {W : World} {held : Bool}

theorem block_lt {a : Addr} {v : Value} (h : W.cell? a = some v) : a.block < W.heap.size := by
  unfold World.cell? at h
  split at h
  · rename_i he
    exact (Array.getElem?_eq_some_iff.1 he).1
  · cases h
theorem addr_eta {a : Addr} {v : Value} (h : W.cell? a = some v) : a = ⟨a.block, a.off, none⟩ := by
  have := World.cell?_spot h
  cases a; simp_all
theorem addr_add (b o j : Nat) : (⟨b, o, none⟩ : Addr).add j = ⟨b, o + j, none⟩ := by unfold Addr.add; split <;> simp_all

end
end Go.Proofs.YtpeoodkepjhhiaaDoor
namespace Go.Proofs.YtpeoodkepjhhiaaDoor
open Go Go.ChangeShapes Go.WideShapes Go.ChangeAt Go.RowKit

theorem carryAll {H : Type} {enc : TypeId × Value → H} {W W' : World} (hb : Below W.heap.size W W') : ∀ {ts : List TypeId} {vs : List Value} {ds : List (DataW H)} {ps : List MemPlace},
    DataW.TrodAll enc Tryd.prog W 0 (fun _ => true) true ts vs ds ps → (∀ x ∈ ps, x.block < W.heap.size) → ts.all (fun t => Tryd.prog.readableRec t && decide (t < Tryd.prog.types.size)) = true →
    DataW.TrodAll enc Tryd.prog W' 0 (fun b => decide (b < W.heap.size)) true ts vs ds ps := by
  intro ts
  induction ts with
  | nil =>
    intro vs ds ps h _ _
    obtain ⟨rfl, rfl, rfl⟩ := trodAll_nil h
    exact trodAll_mk0
  | cons t ts ih =>
    intro vs ds ps h hlt hts
    obtain ⟨v0, vs0, d0, ds0, p0, q0, rfl, rfl, rfl, h0, r0⟩ := trodAll_cons h
    simp only [List.all_cons, Bool.and_eq_true, decide_eq_true_eq] at hts
    exact trodAll_cons_mk (Below.trod laidOut hts.1.1 hts.1.2 h0 hb (fun x hx => hlt x (List.mem_append_left _ hx))) (ih r0 (fun x hx => hlt x (List.mem_append_right _ hx)) hts.2)

theorem law_post2 {H : Type} {enc : TypeId × Value → H} {f : Func} {s : ChangeSpec} {W W' : World} {args : Array Value} {v : Value} {ds : List (DataW H)} {p : List MemPlace} (hvars : s.vars = [])
    (hW : DataW.Whole enc Tryd.prog f.params.toList s.vars false W args.toList ds [] (p ++ []))
    (hA : DataW.TrodAll enc Tryd.prog W 0 (fun _ => true) true f.params.toList args.toList ds p)
    (hres : DataW.TrodAll enc Tryd.prog W' W.heap.size (fun _ => false) false f.resultTypes.toList (v.resultList f.resultTypes.size) (s.fn H (ds ++ [])).results [])
    (hfa : (s.fn H (ds ++ [])).args = ds) (hfv : (s.fn H (ds ++ [])).vars = []) (hts : f.params.toList.all (fun t => Tryd.prog.readableRec t && decide (t < Tryd.prog.types.size)) = true) (hb : Below W.heap.size W W') : s.post enc Tryd.prog f false true false false W args v W' := by
  have hlt : ∀ p' ∈ p ++ [], p'.block < W.heap.size := fun p' hp => hW.lt p' hp
  have hlt' : ∀ x ∈ p, x.block < W.heap.size := fun x hx => hlt x (by simpa using hx)
  have h2 := carryAll hb hA hlt' hts
  refine ⟨ds, [], p ++ [], [], p, [], hW, hres, ?_, ?_, World.keptBut_mono (fun p' hp => ⟨hp, .inr (.inl (by simpa using hp))⟩) (hb.frame (· ∈ p ++ [])), fun h => by cases h⟩
  · rw [hfa]; exact h2
  · rw [hfv, hvars]; rfl
end Go.Proofs.YtpeoodkepjhhiaaDoor
namespace Go.Proofs.YtpeoodkepjhhiaaDoor
open Go Go.ChangeShapes Go.WideShapes Go.ChangeAt Go.RowKit Go.Deep Go.Joins
section
variable {H : Type} {enc : TypeId × Value → H} {W : World} {held : Bool}
set_option maxRecDepth 100000 in
theorem slice_cells {r : Reach} {b0 t e : Nat} {v : Value} (ht : Tryd.prog.underlying t = some (.slice e)) (h : Value.okWide Tryd.prog W r b0 t v) : v.cells = #[v] := by
  obtain ⟨a, len, cap, rfl⟩ := okWide_slice ht h
  rfl
end
def laidL : List (String × DataW Unit) := Rows.vtreeMeetsRow.laid
theorem tab_laid {W : World} (h : laidMetH Tryd.prog laidL W) : Tab W := by
  rw [MakeChecks.laidMetH_plain _ _ _ (by kernel_rfl)] at h
  obtain ⟨g, t, cs, fuel, p, hg, ht, hv, hd⟩ := Lib.laidMet.reads (n := tabN) (d := Rows.laid_internal_strconv_uint64pow10) h (List.Mem.tail _ (List.Mem.tail _ (List.Mem.head _)))
  have h0 : Tryd.prog.globalNamed tabN = some 0 := by kernel_rfl
  obtain rfl := Option.some.inj (h0.symm.trans hg)
  have h1 : (Tryd.prog.globals[0]?).map (·.type) = some 108 := by kernel_rfl
  obtain rfl := Option.some.inj (h1.symm.trans ht)
  have hc := Lib.cells_of_tab (k := .u64) (zs := Lib.pow10Tab) Tryd.underlying108 Tryd.underlying55 (by kernel_rfl) (by kernel_rfl) hd
  unfold Tab Lib.TabIs
  rw [hv, ← hc]
end Go.Proofs.YtpeoodkepjhhiaaDoor
namespace Go.Proofs.YtpeoodkepjhhiaaDoor

/-- A tree whose leaves are distinct variables. -/
def GoodT (T : Tr) : Prop := T.leaves.Nodup ∧ ∀ v ∈ T.leaves, 1 ≤ v ∧ v ≤ 128
theorem Tr.size_leaves : ∀ T : Tr, T.size + 1 = 2 * T.leaves.length
  | .leaf _ => rfl
  | .node a b => by
    have h1 := a.size_leaves
    have h2 := b.size_leaves
    simp only [Tr.size, Tr.leaves, List.length_append]
    omega
theorem GoodT.few {T : Tr} (h : GoodT T) : T.leaves.length ≤ 128 := by
  have h3 : (T.leaves.map fun v => v - 1).Nodup := by
    rw [List.nodup_iff_pairwise_ne, List.pairwise_map]
    exact (List.nodup_iff_pairwise_ne.1 h.1).imp (fun h e => h (by omega))
  have := range_len (n := 128) h3 (fun x hx => by
    obtain ⟨v, hv, rfl⟩ := List.mem_map.1 hx
    have := h.2 v hv
    omega)
  simpa using this
theorem GoodT.small {T : Tr} (h : GoodT T) : T.size ≤ 255 := by
  have h1 := T.size_leaves
  have h2 := h.few
  omega
theorem GoodT.left {a b : Tr} (h : GoodT (.node a b)) : GoodT a := ⟨(List.nodup_append.1 h.1).1, fun v hv => h.2 v (List.mem_append_left _ hv)⟩
theorem GoodT.right {a b : Tr} (h : GoodT (.node a b)) : GoodT b := ⟨(List.nodup_append.1 h.1).2.1, fun v hv => h.2 v (List.mem_append_right _ hv)⟩
/-- The nodes of T lie in ts from n on. -/
def Lies (ts : List VN) (n : Nat) (T : Tr) : Prop := ∀ (i : Nat) (x : VN), (post T n)[i]? = some x → ts[n + i]? = some x
section
variable {ts : List VN} {n : Nat} {a b : Tr} {v : Int}
theorem Lies.all (T : Tr) : Lies (post T 0) 0 T := fun i x h => by rw [Nat.zero_add]; exact h
theorem Lies.one (h : Lies ts n (.leaf v)) : ts[n]? = some ⟨-1, -1, v⟩ := h 0 _ rfl
theorem Lies.left (h : Lies ts n (.node a b)) : Lies ts n a := fun i x hi => by
  refine h i x ?_
  have hl := (List.getElem?_eq_some_iff.1 hi).1
  simp only [post]
  rw [List.getElem?_append_left hl]
  exact hi
theorem Lies.right (h : Lies ts n (.node a b)) : Lies ts (n + a.size) b := fun i x hi => by
  have hl := (List.getElem?_eq_some_iff.1 hi).1
  have := h (a.size + i) x (by
    simp only [post]
    rw [List.getElem?_append_right (by rw [post_len]; omega), post_len, List.getElem?_append_left (by omega), show a.size + i - a.size = i by omega]
    exact hi)
  rw [Nat.add_assoc]
  exact this
theorem Lies.root (h : Lies ts n (.node a b)) : ts[n + a.size + b.size]? = some ⟨((n + a.size - 1 : Nat) : Int), ((n + a.size + b.size - 1 : Nat) : Int), 0⟩ := by
  have := h (a.size + b.size) ⟨((n + a.size - 1 : Nat) : Int), ((n + a.size + b.size - 1 : Nat) : Int), 0⟩ (by
    simp only [post]
    rw [List.getElem?_append_right (by rw [post_len]; omega), post_len, List.getElem?_append_right (by rw [post_len]; omega), post_len, show a.size + b.size - a.size - b.size = 0 by omega]
    rfl)
  rw [show n + (a.size + b.size) = n + a.size + b.size by omega] at this
  exact this
theorem Lies.len {T : Tr} (h : Lies ts n T) : n + T.size ≤ ts.length := by
  have hp := T.size_pos
  have hl : T.size - 1 < (post T n).length := by rw [post_len]; omega
  have := h (T.size - 1) _ (List.getElem?_eq_getElem hl)
  have := (List.getElem?_eq_some_iff.1 this).1
  omega
end
/-- Every node of a postorder: a leaf, or an inner node with its two children's numbers. -/
theorem post_kind : ∀ (T : Tr) (n i : Nat) (x : VN), (∀ v ∈ T.leaves, 1 ≤ v ∧ v ≤ 128) → (post T n)[i]? = some x → nodeB (n + i) x = true
  | .leaf v, n, i, x, h, hx => by
    obtain ⟨h1, h2⟩ := h v (by simp [Tr.leaves])
    have hi : i = 0 := by
      have := (List.getElem?_eq_some_iff.1 hx).1
      simpa [post] using this
    subst hi
    simp [post] at hx
    subst hx
    simp [nodeB, lf_leaf h1 h2]
  | .node a b, n, i, x, h, hx => by
    have ha := a.size_pos
    have hb := b.size_pos
    simp only [post] at hx
    by_cases h1 : i < a.size
    · rw [List.getElem?_append_left (by rw [post_len]; exact h1)] at hx
      exact post_kind a n i x (fun v hv => h v (List.mem_append_left _ hv)) hx
    · rw [List.getElem?_append_right (by rw [post_len]; omega), post_len] at hx
      by_cases h2 : i - a.size < b.size
      · rw [List.getElem?_append_left (by rw [post_len]; exact h2)] at hx
        have := post_kind b (n + a.size) (i - a.size) x (fun v hv => h v (List.mem_append_right _ hv)) hx
        rwa [show n + a.size + (i - a.size) = n + i by omega] at this
      · rw [List.getElem?_append_right (by rw [post_len]; omega), post_len] at hx
        have hx0 := hx
        have h3 : i - a.size - b.size = 0 := by
          have := (List.getElem?_eq_some_iff.1 hx).1
          simpa using this
        rw [h3] at hx
        simp at hx
        subst hx
        simp only [nodeB, Bool.or_eq_true, Bool.and_eq_true, decide_eq_true_eq]
        right
        have h4 := (List.getElem?_eq_some_iff.1 hx0).1
        simp only [List.length_cons, List.length_nil] at h4
        refine ⟨⟨⟨⟨trivial, ?_⟩, ?_⟩, ?_⟩, ?_⟩ <;> omega
theorem post_vars : ∀ (T : Tr) (n : Nat), (∀ v ∈ T.leaves, 1 ≤ v ∧ v ≤ 128) → varsL (post T n) = T.leaves
  | .leaf v, n, h => by
    obtain ⟨h1, h2⟩ := h v (by simp [Tr.leaves])
    simp [post, varsL, varOf, lf_leaf h1 h2, Tr.leaves]
  | .node a b, n, h => by
    have h1 := post_vars a n (fun v hv => h v (List.mem_append_left _ hv))
    have h2 := post_vars b (n + a.size) (fun v hv => h v (List.mem_append_right _ hv))
    unfold varsL at h1 h2 ⊢
    simp only [post, List.flatMap_append, h1, h2, Tr.leaves]
    simp [varOf, lf_inner]
theorem post_kids : ∀ (T : Tr) (n : Nat), (∀ v ∈ T.leaves, 1 ≤ v ∧ v ≤ 128) → (kidsL (post T n)).Perm ((List.range' n (T.size - 1)).map fun k : Nat => (k : Int))
  | .leaf v, n, h => by
    obtain ⟨h1, h2⟩ := h v (by simp [Tr.leaves])
    simp [post, kidsL, kidsOf, lf_leaf h1 h2, Tr.size]
  | .node a b, n, h => by
    have h1 := post_kids a n (fun v hv => h v (List.mem_append_left _ hv))
    have h2 := post_kids b (n + a.size) (fun v hv => h v (List.mem_append_right _ hv))
    have ha := a.size_pos
    have hb := b.size_pos
    unfold kidsL at h1 h2 ⊢
    simp only [post, List.flatMap_append, Tr.size]
    have e : (List.range' n (a.size + b.size + 1 - 1)) = (List.range' n (a.size - 1) ++ [n + a.size - 1]) ++ (List.range' (n + a.size) (b.size - 1) ++ [n + a.size + b.size - 1]) := by
      have q1 : List.range' n (a.size - 1) ++ [n + a.size - 1] = List.range' n a.size := by
        obtain ⟨m, hm⟩ : ∃ m, a.size = m + 1 := ⟨a.size - 1, by omega⟩
        rw [hm, List.range'_concat]
        simp
      have q2 : List.range' (n + a.size) (b.size - 1) ++ [n + a.size + b.size - 1] = List.range' (n + a.size) b.size := by
        obtain ⟨m, hm⟩ : ∃ m, b.size = m + 1 := ⟨b.size - 1, by omega⟩
        rw [hm, List.range'_concat]
        simp
      rw [q1, q2, List.range'_append_1]
      simp
    rw [e]
    simp only [List.map_append, List.map_cons, List.map_nil]
    have k3 : List.flatMap kidsOf [(⟨((n + a.size - 1 : Nat) : Int), ((n + a.size + b.size - 1 : Nat) : Int), 0⟩ : VN)] = [((n + a.size - 1 : Nat) : Int), ((n + a.size + b.size - 1 : Nat) : Int)] := by simp [kidsOf, lf_inner]
    rw [k3]
    refine (h1.append (h2.append_right _)).trans ?_
    have key : ∀ (P Q : List Int) (u w : Int), (P ++ (Q ++ [u, w])).Perm ((P ++ [u]) ++ (Q ++ [w])) := fun P Q u w => by
      rw [List.append_assoc]
      refine List.Perm.append_left P ?_
      have : (Q ++ [u, w]).Perm ([u] ++ Q ++ [w]) := by
        rw [show Q ++ [u, w] = Q ++ [u] ++ [w] by simp]
        exact List.Perm.append_right [w] List.perm_append_comm
      rw [← List.append_assoc]
      exact this
    exact key _ _ _ _
theorem post_ok {T : Tr} (h : GoodT T) : okT (post T 0) = true := by
  have hs := h.small
  have hp := T.size_pos
  have hk := post_kids T 0 h.2
  refine okT_parts.2 ⟨by rw [post_len]; exact hp, by rw [post_len]; exact hs, ?_, ?_⟩
  · unfold preB
    simp only [Bool.and_eq_true, decide_eq_true_eq]
    refine ⟨⟨(nodesB_iff _).2 fun i x hx => ?_, by rw [post_vars T 0 h.2]; exact h.1⟩, hk.nodup_iff.2 ?_⟩
    · have := post_kind T 0 i x h.2 hx
      rwa [Nat.zero_add] at this
    · rw [← List.range_eq_range']
      exact nodup_castrange _
  · unfold coverB
    simp only [List.all_eq_true, decide_eq_true_eq, List.mem_range, post_len]
    intro k hk2
    refine hk.mem_iff.2 (List.mem_map.2 ⟨k, ?_, rfl⟩)
    rw [List.mem_range'_1]
    omega
theorem Lies.at_ {ts : List VN} : ∀ (T : Tr) (n : Nat), (∀ v ∈ T.leaves, 1 ≤ v ∧ v ≤ 128) → Lies ts n T → ∃ vs, At ts idF (n + T.size - 1) T vs
  | .leaf v, n, h, hs => by
    obtain ⟨h1, h2⟩ := h v (by simp [Tr.leaves])
    exact ⟨_, .leaf (by simpa [Tr.size] using hs.one) h1 h2⟩
  | .node a b, n, h, hs => by
    obtain ⟨va, hA⟩ := Lies.at_ a n (fun v hv => h v (List.mem_append_left _ hv)) hs.left
    obtain ⟨vb, hB⟩ := Lies.at_ b (n + a.size) (fun v hv => h v (List.mem_append_right _ hv)) hs.right
    have hr := hs.root
    refine ⟨_, At.node (i := n + (Tr.node a b).size - 1) ?_ rfl hA hB⟩
    rw [show n + (Tr.node a b).size - 1 = n + a.size + b.size by simp only [Tr.size]; omega]
    exact hr
theorem trF_sub {ts : List VN} (hV : Val ts) {T : Tr} {n m : Nat} (h : ∀ v ∈ T.leaves, 1 ≤ v ∧ v ≤ 128) (hs : Lies ts n T) (hm : n + T.size - 1 < m) : trF ts m (n + T.size - 1) = T := by
  obtain ⟨vs, hA⟩ := hs.at_ T n h
  exact hA.tr hV m hm
/-! ### By position -/
def turn (kind : Nat) (a b : Tr) : Option Tr :=
  if kind = 1 then (match a with
    | .node p q => some (.node p (.node q b))
    | .leaf _ => none)
  else if kind = 2 then (match b with
    | .node p q => some (.node (.node a p) q)
    | .leaf _ => none)
  else some (.node b a)
/-- The tree with node i turned; its first node has the number n. -/
def tAt (kind : Nat) : Tr → Nat → Nat → Option Tr
  | .leaf _, _, _ => none
  | .node a b, n, i => if i = n + a.size + b.size then turn kind a b else if i < n + a.size then (tAt kind a n i).map (fun c => .node c b) else (tAt kind b (n + a.size) i).map (fun c => .node a c)
theorem tAt_root (kind : Nat) (a b : Tr) (n : Nat) : tAt kind (.node a b) n (n + a.size + b.size) = turn kind a b := by
  conv => lhs; unfold tAt
  rw [if_pos rfl]
theorem tAt_left {kind : Nat} {a b : Tr} {n i : Nat} (h : i < n + a.size) : tAt kind (.node a b) n i = (tAt kind a n i).map (fun c => .node c b) := by
  conv => lhs; unfold tAt
  rw [if_neg (by omega), if_pos h]
theorem tAt_right {kind : Nat} {a b : Tr} {n i : Nat} (h1 : n + a.size ≤ i) (h2 : i ≠ n + a.size + b.size) : tAt kind (.node a b) n i = (tAt kind b (n + a.size) i).map (fun c => .node a c) := by
  conv => lhs; unfold tAt
  rw [if_neg h2, if_neg (by omega)]
theorem turn_size {kind : Nat} {a b U : Tr} (h : turn kind a b = some U) : U.size = a.size + b.size + 1 := by
  unfold turn at h
  split at h
  · cases a with
    | leaf _ => cases h
    | node p q => injection h with h; subst h; simp only [Tr.size]; omega
  · split at h
    · cases b with
      | leaf _ => cases h
      | node p q => injection h with h; subst h; simp only [Tr.size]; omega
    · injection h with h; subst h; simp only [Tr.size]; omega
theorem tAt_size {kind : Nat} : ∀ {T U : Tr} {n i : Nat}, tAt kind T n i = some U → U.size = T.size
  | .leaf _, U, n, i, h => by cases h
  | .node a b, U, n, i, h => by
    unfold tAt at h
    split at h
    · rw [turn_size h]; rfl
    · split at h
      · obtain ⟨c, hc, rfl⟩ := Option.map_eq_some_iff.1 h
        simp only [Tr.size, tAt_size hc]
      · obtain ⟨c, hc, rfl⟩ := Option.map_eq_some_iff.1 h
        simp only [Tr.size, tAt_size hc]
theorem turn_leaves {kind : Nat} {a b U : Tr} (h : turn kind a b = some U) : U.leaves.Perm (a.leaves ++ b.leaves) ∧ (kind = 1 ∨ kind = 2 → U.leaves = a.leaves ++ b.leaves) := by
  unfold turn at h
  split at h
  · cases a with
    | leaf _ => cases h
    | node p q => injection h with h; subst h; simp only [Tr.leaves, List.append_assoc]; exact ⟨List.Perm.refl _, fun _ => trivial⟩
  · split at h
    · cases b with
      | leaf _ => cases h
      | node p q => injection h with h; subst h; simp only [Tr.leaves, List.append_assoc]; exact ⟨List.Perm.refl _, fun _ => trivial⟩
    · injection h with h; subst h; exact ⟨List.perm_append_comm, fun q => by omega⟩
theorem tAt_leaves {kind : Nat} : ∀ {T U : Tr} {n i : Nat}, tAt kind T n i = some U → U.leaves.Perm T.leaves ∧ (kind = 1 ∨ kind = 2 → U.leaves = T.leaves)
  | .leaf _, U, n, i, h => by cases h
  | .node a b, U, n, i, h => by
    unfold tAt at h
    split at h
    · exact turn_leaves h
    · split at h
      · obtain ⟨c, hc, rfl⟩ := Option.map_eq_some_iff.1 h
        obtain ⟨h1, h2⟩ := tAt_leaves hc
        exact ⟨h1.append_right _, fun q => by simp only [Tr.leaves, h2 q]⟩
      · obtain ⟨c, hc, rfl⟩ := Option.map_eq_some_iff.1 h
        obtain ⟨h1, h2⟩ := tAt_leaves hc
        exact ⟨h1.append_left _, fun q => by simp only [Tr.leaves, h2 q]⟩
theorem tAt_good {kind : Nat} {T U : Tr} {n i : Nat} (hT : GoodT T) (h : tAt kind T n i = some U) : GoodT U := by
  have hp := (tAt_leaves h).1
  exact ⟨hp.nodup_iff.2 hT.1, fun v hv => hT.2 v (hp.mem_iff.1 hv)⟩
/-- The opposite turn. -/
def opp (kind : Nat) : Nat := if kind = 1 then 2 else if kind = 2 then 1 else kind
/-! ### What the program makes of such a list -/
theorem chT_out {ts : List VN} (hV : Val ts) (kind i : Nat) : ∀ (T : Tr) (n m : Nat), (∀ v ∈ T.leaves, 1 ≤ v ∧ v ≤ 128) → Lies ts n T → n + T.size - 1 < m → i < n ∨ n + T.size ≤ i → chT ts kind i m (n + T.size - 1) = T
  | .leaf v, n, m, h, hs, hm, _ => by
    obtain ⟨h1, h2⟩ := h v (by simp [Tr.leaves])
    obtain ⟨m, rfl⟩ : ∃ k, m = k + 1 := ⟨m - 1, by omega⟩
    exact chT_leaf (by simpa [Tr.size] using hs.one) h1 h2
  | .node a b, n, m, h, hs, hm, hi => by
    obtain ⟨m, rfl⟩ : ∃ k, m = k + 1 := ⟨m - 1, by omega⟩
    have ha := a.size_pos
    have hb := b.size_pos
    have hr := hs.root
    simp only [Tr.size] at hm hi
    have e : n + (Tr.node a b).size - 1 = n + a.size + b.size := by simp only [Tr.size]; omega
    rw [e, chT_node hr (by omega), chT_out hV kind i a n m (fun v hv => h v (List.mem_append_left _ hv)) hs.left (by omega) (by omega),
      chT_out hV kind i b (n + a.size) m (fun v hv => h v (List.mem_append_right _ hv)) hs.right (by omega) (by omega)]
theorem chT_in {ts : List VN} (hV : Val ts) (kind i : Nat) (hkind : kind = 1 ∨ kind = 2 ∨ kind = 3) : ∀ (T U : Tr) (n m : Nat), (∀ v ∈ T.leaves, 1 ≤ v ∧ v ≤ 128) → Lies ts n T → n + T.size - 1 < m → tAt kind T n i = some U → chT ts kind i m (n + T.size - 1) = U
  | .leaf v, U, n, m, h, hs, hm, ht => by cases ht
  | .node a b, U, n, m, h, hs, hm, ht => by
    obtain ⟨m, rfl⟩ : ∃ k, m = k + 1 := ⟨m - 1, by omega⟩
    have ha := a.size_pos
    have hb := b.size_pos
    have hr := hs.root
    have hla : ∀ v ∈ a.leaves, 1 ≤ v ∧ v ≤ 128 := fun v hv => h v (List.mem_append_left _ hv)
    have hlb : ∀ v ∈ b.leaves, 1 ≤ v ∧ v ≤ 128 := fun v hv => h v (List.mem_append_right _ hv)
    simp only [Tr.size] at hm
    have e : n + (Tr.node a b).size - 1 = n + a.size + b.size := by simp only [Tr.size]; omega
    rw [e]
    by_cases e1 : i = n + a.size + b.size
    · subst e1
      rw [tAt_root] at ht
      have hm2 : n + a.size + b.size < m + 1 := by omega
      rcases hkind with rfl | rfl | rfl
      · cases a with
        | leaf _ => cases ht
        | node p q =>
          injection ht with ht
          subst ht
          have hr2 := hs.left.root
          have hp := p.size_pos
          have hq := q.size_pos
          have e2 : n + (Tr.node p q).size - 1 = n + p.size + q.size := by simp only [Tr.size]; omega
          rw [e2] at hr
          simp only [Tr.size] at hm hm2
          rw [chT_r hr hr2, trF_sub hV (fun v hv => hla v (List.mem_append_left _ hv)) hs.left.left (by omega), trF_sub hV (fun v hv => hla v (List.mem_append_right _ hv)) hs.left.right (by omega),
            trF_sub hV hlb hs.right (by simp only [Tr.size]; omega)]
      · cases b with
        | leaf _ => cases ht
        | node p q =>
          injection ht with ht
          subst ht
          have hr2 := hs.right.root
          have hp := p.size_pos
          have hq := q.size_pos
          have e2 : n + a.size + (Tr.node p q).size - 1 = n + a.size + p.size + q.size := by simp only [Tr.size]; omega
          rw [e2] at hr
          simp only [Tr.size] at hm hm2
          rw [chT_l hr hr2, trF_sub hV hla hs.left (by omega), trF_sub hV (fun v hv => hlb v (List.mem_append_left _ hv)) hs.right.left (by omega), trF_sub hV (fun v hv => hlb v (List.mem_append_right _ hv)) hs.right.right (by omega)]
      · injection ht with ht
        subst ht
        rw [chT_s hr, chT_out hV 3 _ a n m hla hs.left (by omega) (.inr (by omega)), chT_out hV 3 _ b (n + a.size) m hlb hs.right (by omega) (.inr (by omega))]
    · rw [chT_node hr (fun q => e1 q.symm)]
      by_cases e2 : i < n + a.size
      · rw [tAt_left e2] at ht
        obtain ⟨c, hc, rfl⟩ := Option.map_eq_some_iff.1 ht
        rw [chT_in hV kind i hkind a c n m hla hs.left (by omega) hc, chT_out hV kind i b (n + a.size) m hlb hs.right (by omega) (.inl e2)]
      · rw [tAt_right (by omega) e1] at ht
        obtain ⟨c, hc, rfl⟩ := Option.map_eq_some_iff.1 ht
        rw [chT_out hV kind i a n m hla hs.left (by omega) (.inr (by omega)), chT_in hV kind i hkind b c (n + a.size) m hlb hs.right (by omega) hc]
theorem inner_yes {ts : List VN} {i a b : Nat} (h : ts[i]? = some ⟨(a : Int), (b : Int), 0⟩) : innerB ts (i : Int) = true := by
  unfold innerB
  rw [Int.toNat_natCast, h]
  simp [lf_inner]
theorem inner_no {ts : List VN} {i : Nat} {v : Int} (h : ts[i]? = some ⟨-1, -1, v⟩) (h1 : 1 ≤ v) (h2 : v ≤ 128) : innerB ts (i : Int) = false := by
  unfold innerB
  rw [Int.toNat_natCast, h]
  simp [lf_leaf h1 h2]
theorem inner_root {ts : List VN} (T : Tr) (n : Nat) (h : ∀ v ∈ T.leaves, 1 ≤ v ∧ v ≤ 128) (hs : Lies ts n T) : innerB ts ((n + T.size - 1 : Nat) : Int) = (match T with
    | .leaf _ => false
    | .node _ _ => true) := by
  cases T with
  | leaf v =>
    obtain ⟨h1, h2⟩ := h v (by simp [Tr.leaves])
    exact inner_no (by simpa [Tr.size] using hs.one) h1 h2
  | node a b =>
    rw [show n + (Tr.node a b).size - 1 = n + a.size + b.size by simp only [Tr.size]; omega]
    exact inner_yes hs.root
theorem can_sub {ts : List VN} (kind i : Nat) (hkind : kind = 1 ∨ kind = 2 ∨ kind = 3) : ∀ (T : Tr) (n : Nat), (∀ v ∈ T.leaves, 1 ≤ v ∧ v ≤ 128) → Lies ts n T → n ≤ i → i < n + T.size → (innerB ts (i : Int) && (decide (kind = 3) || innerB ts (childOf ts kind (i : Int)))) = (tAt kind T n i).isSome
  | .leaf v, n, h, hs, h1, h2 => by
    obtain ⟨q1, q2⟩ := h v (by simp [Tr.leaves])
    have e : i = n := by simp only [Tr.size] at h2; omega
    subst e
    rw [inner_no hs.one q1 q2]
    rfl
  | .node a b, n, h, hs, h1, h2 => by
    have hla : ∀ v ∈ a.leaves, 1 ≤ v ∧ v ≤ 128 := fun v hv => h v (List.mem_append_left _ hv)
    have hlb : ∀ v ∈ b.leaves, 1 ≤ v ∧ v ≤ 128 := fun v hv => h v (List.mem_append_right _ hv)
    simp only [Tr.size] at h2
    by_cases e1 : i = n + a.size + b.size
    · subst e1
      rw [tAt_root, inner_yes hs.root, child_at hs.root]
      rcases hkind with rfl | rfl | rfl
      · rw [if_pos rfl, inner_root a n hla hs.left]
        cases a <;> rfl
      · rw [if_neg (by decide), inner_root b (n + a.size) hlb hs.right]
        cases b <;> rfl
      · rfl
    · by_cases e2 : i < n + a.size
      · rw [tAt_left e2, Option.isSome_map, can_sub kind i hkind a n hla hs.left h1 e2]
      · rw [tAt_right (by omega) e1, Option.isSome_map, can_sub kind i hkind b (n + a.size) hlb hs.right (by omega) (by omega)]
theorem mov_some {T U : Tr} {kind i : Nat} (hT : GoodT T) (hkind : kind = 1 ∨ kind = 2 ∨ kind = 3) (hi : i < T.size) (h : tAt kind T 0 i = some U) : movOf (post T 0) kind (i : Int) = (post U 0, 0) := by
  have hok := post_ok hT
  have hc : canB (post T 0) kind (i : Int) = true := by
    unfold canB
    rw [hok, Bool.true_and, can_sub kind i hkind T 0 hT.2 (Lies.all T) (Nat.zero_le _) (by omega), h]
    rfl
  have hp := T.size_pos
  rw [mov_yes hc]
  have := chT_in (okT_val hok) kind i hkind T U 0 (post T 0).length hT.2 (Lies.all T) (by rw [post_len]; omega) h
  rw [Nat.zero_add] at this
  rw [show (post T 0).length - 1 = T.size - 1 by rw [post_len], this]
theorem mov_none {T : Tr} {kind i : Nat} (hT : GoodT T) (hkind : kind = 1 ∨ kind = 2 ∨ kind = 3) (hi : i < T.size) (h : tAt kind T 0 i = none) : movOf (post T 0) kind (i : Int) = ([], 1) := by
  refine mov_no ?_
  unfold canB
  rw [Bool.and_assoc, can_sub kind i hkind T 0 hT.2 (Lies.all T) (Nat.zero_le _) (by omega), h]
  simp
end Go.Proofs.YtpeoodkepjhhiaaDoor
