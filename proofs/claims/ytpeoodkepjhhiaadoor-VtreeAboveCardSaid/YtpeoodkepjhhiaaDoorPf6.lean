/-
  Lemmas and contracts, joined: VlAbove.
-/
import Derived.Test.YtpeoodkepjhhiaaDoorPf4
import Derived.Test.YtpeoodkepjhhiaaDoorPf5
namespace Go.Proofs.YtpeoodkepjhhiaaDoor
open Go Go.RowKit
theorem under_ {Z : Bool → Nat → Prop} {w0 W : World} {ub g c : Nat} {ts : List VN} (hV : Val ts) (O0 : Own Z w0 W [.blk ub 36 #[.slice (some ⟨g, 0, none⟩) ts.length c], .row (.slice (some ⟨g, 0, none⟩) ts.length c) 3 1 ts.length (intCs (parsOf ts))]) {x : Nat} (hx : x < ts.length) (y : Int) (hy : y ≠ -1) :
    Calls Tryd.prog 46 #[.int .i64 (x : Int), .int .i64 y, .pointer (some ⟨ub, 0, none⟩)] W fun e w' => e = .returned (.bool (decide (y ∈ chainOf ts x))) ∧ Own Z w0 w' [.blk ub 36 #[.slice (some ⟨g, 0, none⟩) ts.length c], .row (.slice (some ⟨g, 0, none⟩) ts.length c) 3 1 ts.length (intCs (parsOf ts))] := by
  refine sx_enter (args := [.int .i64 (x : Int), .int .i64 y, .pointer (some ⟨ub, 0, none⟩)]) Tryd.func46 rfl rfl (by simp) ?_
  refine cw_seq (fun FK1 K1 => ?_)
  refine cw_region ?_
  refine wl_val (v := .bool false) (fun ρ e => ex_assign (e _ _ rfl)) rfl rfl ?_
  refine wl_nil ?_
  refine xw_next K1 ?_
  refine cw_seq (fun FK2 K2 => ?_)
  refine cw_block ?_
  refine cw_loop (ι := Int × List Int) (fun q => [(0, .int .i64 q.1), (1, .int .i64 y), (2, .pointer (some ⟨ub, 0, none⟩))]) (fun q X => (Und ts x y q.1 q.2) ∧ Own Z w0 X [.blk ub 36 #[.slice (some ⟨g, 0, none⟩) ts.length c], .row (.slice (some ⟨g, 0, none⟩) ts.length c) 3 1 ts.length (intCs (parsOf ts))]) (fun q => q.2.length) ((x : Int), (chainOf ts x)) ⟨und_start hx y, O0⟩ ⟨rfl, rfl, rfl, trivial⟩ (fun q w3 hJ F4 K5 => ?_)
  obtain ⟨k, r⟩ := q
  obtain ⟨hu, O6⟩ := hJ
  dsimp only at hu O6 ⊢
  obtain ⟨hk0, hiff⟩ := hu
  rcases hk0 with ⟨rfl, rfl⟩ | ⟨m, rfl, hm, rfl⟩
  · skip
    refine cw_seq (fun FK7 K7 => ?_)
    refine cw_seq (fun FK8 K8 => ?_)
    refine cw_region ?_
    refine wl_val (v := .int .i64 (-1)) (fun ρ e => ex_move (e _ _ rfl)) rfl rfl ?_
    refine wl_val (v := .bool false) (fun ρ e => ex_cmp (u := (-1)) (v := (-1)) (e _ _ rfl) (e _ _ rfl) (neq0 (by omega))) rfl rfl ?_
    refine wl_val (v := .bool false) (fun ρ e => ex_move (e _ _ rfl)) rfl rfl ?_
    refine wl_skip rfl rfl ?_
    refine wl_skip rfl rfl ?_
    refine wl_skip rfl rfl ?_
    refine wl_val (v := .bool false) (fun ρ e => ex_pick0 (e _ _ rfl) (e _ _ rfl)) rfl rfl ?_
    refine wl_nil ?_
    refine xw_next K8 ?_
    refine cw_false rfl ?_
    refine cw_exit ?_
    refine xw_past (by intro h; cases h) ?_
    refine xw_past (by intro h; cases h) ?_
    refine xw_here ?_
    refine xw_next K2 ?_
    refine cw_seq (fun FK9 K9 => ?_)
    refine cw_region ?_
    refine wl_val (v := .int .i64 (-1)) (fun ρ e => ex_move (e _ _ rfl)) rfl rfl ?_
    refine wl_val (v := .int .i64 y) (fun ρ e => ex_move (e _ _ rfl)) rfl rfl ?_
    refine wl_val (v := .bool false) (fun ρ e => ex_cmp (u := (-1)) (v := y) (e _ _ rfl) (e _ _ rfl) (eql0 (fun q => hy q.symm))) rfl rfl ?_
    refine wl_val (v := .bool false) (fun ρ e => ex_assign (e _ _ rfl)) rfl rfl ?_
    refine wl_nil ?_
    refine xw_next K9 ?_
    refine cw_ret ?_
    refine xw_ret (v := .bool false) (fun T hT => res1 rfl T _ (hT 5 _ rfl)) ?_
    exact ⟨congrArg (fun b => Ending.returned (.bool b)) (decide_eq_false (fun q => by have := hiff.1 q; cases this)).symm, O6⟩
  · by_cases hmy : (m : Int) = y
    · skip
      refine cw_seq (fun FK10 K10 => ?_)
      refine cw_seq (fun FK11 K11 => ?_)
      refine cw_region ?_
      refine wl_val (v := .int .i64 (m : Int)) (fun ρ e => ex_move (e _ _ rfl)) rfl rfl ?_
      refine wl_val (v := .bool true) (fun ρ e => ex_cmp (u := (m : Int)) (v := (-1)) (e _ _ rfl) (e _ _ rfl) (neq1 (by omega))) rfl rfl ?_
      refine wl_val (v := .bool true) (fun ρ e => ex_move (e _ _ rfl)) rfl rfl ?_
      refine wl_val (v := .int .i64 (m : Int)) (fun ρ e => ex_move (e _ _ rfl)) rfl rfl ?_
      refine wl_val (v := .int .i64 y) (fun ρ e => ex_move (e _ _ rfl)) rfl rfl ?_
      refine wl_val (v := .bool false) (fun ρ e => ex_cmp (u := (m : Int)) (v := y) (e _ _ rfl) (e _ _ rfl) (neq0 hmy)) rfl rfl ?_
      refine wl_val (v := .bool false) (fun ρ e => ex_pick1 (e _ _ rfl) (e _ _ rfl)) rfl rfl ?_
      refine wl_nil ?_
      refine xw_next K11 ?_
      refine cw_false rfl ?_
      refine cw_exit ?_
      refine xw_past (by intro h; cases h) ?_
      refine xw_past (by intro h; cases h) ?_
      refine xw_here ?_
      refine xw_next K2 ?_
      refine cw_seq (fun FK12 K12 => ?_)
      refine cw_region ?_
      refine wl_val (v := .int .i64 (m : Int)) (fun ρ e => ex_move (e _ _ rfl)) rfl rfl ?_
      refine wl_val (v := .int .i64 y) (fun ρ e => ex_move (e _ _ rfl)) rfl rfl ?_
      refine wl_val (v := .bool true) (fun ρ e => ex_cmp (u := (m : Int)) (v := y) (e _ _ rfl) (e _ _ rfl) (eql1 hmy)) rfl rfl ?_
      refine wl_val (v := .bool true) (fun ρ e => ex_assign (e _ _ rfl)) rfl rfl ?_
      refine wl_nil ?_
      refine xw_next K12 ?_
      refine cw_ret ?_
      refine xw_ret (v := .bool true) (fun T hT => res1 rfl T _ (hT 5 _ rfl)) ?_
      exact ⟨congrArg (fun b => Ending.returned (.bool b)) (decide_eq_true (hiff.2 (hmy ▸ chain_self hV hm))).symm, O6⟩
    · obtain ⟨k2, r2, hk2, hu2, hlt2⟩ := und_step hV hm hiff hmy
      refine cw_seq (fun FK13 K13 => ?_)
      refine cw_seq (fun FK14 K14 => ?_)
      refine cw_region ?_
      refine wl_val (v := .int .i64 (m : Int)) (fun ρ e => ex_move (e _ _ rfl)) rfl rfl ?_
      refine wl_val (v := .bool true) (fun ρ e => ex_cmp (u := (m : Int)) (v := (-1)) (e _ _ rfl) (e _ _ rfl) (neq1 (by omega))) rfl rfl ?_
      refine wl_val (v := .bool true) (fun ρ e => ex_move (e _ _ rfl)) rfl rfl ?_
      refine wl_val (v := .int .i64 (m : Int)) (fun ρ e => ex_move (e _ _ rfl)) rfl rfl ?_
      refine wl_val (v := .int .i64 y) (fun ρ e => ex_move (e _ _ rfl)) rfl rfl ?_
      refine wl_val (v := .bool true) (fun ρ e => ex_cmp (u := (m : Int)) (v := y) (e _ _ rfl) (e _ _ rfl) (neq1 hmy)) rfl rfl ?_
      refine wl_val (v := .bool true) (fun ρ e => ex_pick1 (e _ _ rfl) (e _ _ rfl)) rfl rfl ?_
      refine wl_nil ?_
      refine xw_next K14 ?_
      refine cw_true rfl ?_
      refine cw_skip ?_
      refine xw_next K13 ?_
      refine cw_block ?_
      refine cw_region ?_
      refine wl_val (v := .slice (some ⟨g, 0, none⟩) ts.length c) (fun ρ e => ex_load1 ty36 (e _ _ rfl) (O6.cell 0 0 rfl rfl)) rfl rfl ?_
      refine wl_val (v := .int .i64 (m : Int)) (fun ρ e => ex_move (e _ _ rfl)) rfl rfl ?_
      refine wl_val (v := .pointer (some ⟨g, m, none⟩)) (fun ρ e => ex_idx (q := m) (i := m) el36 (e _ _ rfl) (e _ _ rfl) (by omega) (by omega)) rfl rfl ?_
      refine wl_val (v := .int .i64 k2) (fun ρ e => ex_load1 ty3 (e _ _ rfl) (rowcell (O6.row 1 rfl) (intCs_get hk2))) rfl rfl ?_
      refine wl_val (v := .int .i64 k2) (fun ρ e => ex_assign (e _ _ rfl)) rfl rfl ?_
      refine wl_nil ?_
      refine xw_block ?_
      refine xw_round K5 (k2, r2) (by show r2.length < (chainOf ts m).length; exact hlt2) ⟨hu2, O6⟩ ⟨rfl, rfl, rfl, trivial⟩
section
variable {ρ : Operand → Value} {d : Option Tmp} {x0 y0 : Operand} {t T1 : TypeId} {pos0 : String} {aft : Array Edge} {gd : Option (Nat × Bool)} {w : World}
theorem ex_or64 {x y z : BitVec 64} (hx : ρ x0 = .int .u64 (x.toNat : Int)) (hy : ρ y0 = .int .u64 (y.toNat : Int)) (hz : x ||| y = z) : (execOp ρ ⟨d, .binOp .or 55 x0 y0 T1, t, pos0, aft, gd⟩).run Tryd.prog w = .ok (.value (.int .u64 (z.toNat : Int))) w := by
  subst hz
  have h := bits_or_bv x y
  simp [go_sem, hx, hy, h]
theorem ex_and0 {x y : BitVec 64} (hx : ρ x0 = .int .u64 (x.toNat : Int)) (hy : ρ y0 = .int .u64 (y.toNat : Int)) (hz : x &&& y = 0#64) : (execOp ρ ⟨d, .binOp .and 55 x0 y0 T1, t, pos0, aft, gd⟩).run Tryd.prog w = .ok (.value (.int .u64 0)) w := by
  have h := bits_and_bv x y
  rw [hz] at h
  simp [go_sem, hx, hy, h]
theorem ex_or00 (hx : ρ x0 = .int .u64 0) (hy : ρ y0 = .int .u64 0) : (execOp ρ ⟨d, .binOp .or 55 x0 y0 T1, t, pos0, aft, gd⟩).run Tryd.prog w = .ok (.value (.int .u64 0)) w := by
  have h := bits_or_bv 0#64 0#64
  have e : (0#64 ||| 0#64 : BitVec 64) = 0#64 := rfl
  rw [e] at h
  simp [go_sem, hx, hy] at h ⊢
  simp [h]
theorem set_eq57 (a b : Int) (w : World) : (Op.equalIn 10000 57 (.agg #[.int .u64 a, .int .u64 b]) (.agg #[.int .u64 a, .int .u64 b])).run Tryd.prog w = .ok true w := by
  have h2 : List.range' 0 2 = [0, 1] := rfl
  unfold Op.equalIn
  simp [go_sem, h2]
theorem ex_nesame57 {x y : Operand} {a b : Int} (hx : ρ x = .agg #[.int .u64 a, .int .u64 b]) (hy : ρ y = .agg #[.int .u64 a, .int .u64 b]) : (execOp ρ ⟨d, .binOp .neq 57 x y 57, t, pos0, aft, gd⟩).run Tryd.prog w = .ok (.value (.bool false)) w := by
  have h1 : (eqGuard .neq 57 x y (.agg #[.int .u64 a, .int .u64 b]) (.agg #[.int .u64 a, .int .u64 b])).run Tryd.prog w = .ok () w := by
    have hg : (Tryd.prog.eqGuardType Tryd.prog.depth 57) = false := by kernel_rfl
    simp [eqGuard, hg]
  have h2 : binOp .neq 57 (.agg #[.int .u64 a, .int .u64 b]) (.agg #[.int .u64 a, .int .u64 b]) = (do pure (.bool (!(← Op.equal 57 (.agg #[.int .u64 a, .int .u64 b]) (.agg #[.int .u64 a, .int .u64 b]))))) := rfl
  have h3 : (Op.equal 57 (.agg #[.int .u64 a, .int .u64 b]) (.agg #[.int .u64 a, .int .u64 b])).run Tryd.prog w = .ok true w := set_eq57 a b w
  simp only [execOp, hx, hy, Sem.run_bind, h1, h2, h3, Result.andThen_ok, Sem.run_pure]
  rfl
end
set_option maxHeartbeats 4000000 in
theorem vtreeAbove_ok {W : World} {V : Value} {bs : List Nat} (hB : BytesD (fun k => k < W.heap.size) W V bs) {x0 x2 x3 : Int} (hx0 : (Lit.int .u8 x0).wf = true) (hx2 : (Lit.int .u8 x2).wf = true) (hx3 : (Lit.int .u8 x3).wf = true) (tab : Tab W) : Calls Tryd.prog 11 #[.int .u8 x0, V, .int .u8 x2, .int .u8 x3] W fun e w' => e = .returned (.bool true) ∧ Below W.heap.size W w' := by
  obtain ⟨x, hx, rfl⟩ := byte_nat hx0
  obtain ⟨y, hy, rfl⟩ := byte_nat hx2
  obtain ⟨z, hz, rfl⟩ := byte_nat hx3
  obtain ⟨B, bc, rfl⟩ := hB.slice
  have hD : ∀ k, (fun k => k < W.heap.size) k → k < W.heap.size := fun _ h => h
  have O0 : Own Z0 W W [] := Own.start W
  refine sx_enter (args := [.int .u8 (x : Int), .slice B bs.length bc, .int .u8 (y : Int), .int .u8 (z : Int)]) Tryd.func11 rfl rfl (by simp) ?_
  refine cw_seq (fun FK1 K1 => ?_)
  refine cw_region ?_
  refine wl_val (v := .bool false) (fun ρ e => ex_assign (e _ _ rfl)) rfl rfl ?_
  refine wl_nil ?_
  refine xw_next K1 ?_
  refine cw_seq (fun FK2 K2 => ?_)
  refine cw_seq (fun FK3 K3 => ?_)
  refine cw_region ?_
  refine wl_val (v := .slice B bs.length bc) (fun ρ e => ex_move (e _ _ rfl)) rfl rfl ?_
  refine wl_val (v := .int .i64 ((bs.length : Nat) : Int)) (fun ρ e => ex_len el32 (e _ _ rfl)) rfl rfl ?_
  by_cases c4 : ((bs.length : Nat) : Int) > 200
  · skip
    refine wl_val (v := .bool true) (fun ρ e => ex_cmp (u := ((bs.length : Nat) : Int)) (v := 200) (e _ _ rfl) (e _ _ rfl) (gtr1 (by omega))) rfl rfl ?_
    refine wl_nil ?_
    refine xw_next K3 ?_
    refine cw_true rfl ?_
    refine cw_seq (fun FK5 K5 => ?_)
    refine cw_region ?_
    refine wl_call (args := []) in_14 rfl rfl rfl ?_
    refine (works_ (tab.below (Nat.le_refl _) O0.old)).mono ?_
    rintro _ w6 ⟨rfl, hb7⟩
    have O8 : Own Z0 W w6 [] := O0.below hb7
    refine ⟨_, rfl, ?_⟩
    refine wl_val (v := .bool true) (fun ρ e => ex_assign (e _ _ rfl)) rfl rfl ?_
    refine wl_nil ?_
    refine xw_next K5 ?_
    refine cw_ret ?_
    refine xw_past (by intro h; cases h) ?_
    refine xw_ret (v := .bool true) (fun T hT => res1 rfl T _ (hT 8 _ rfl)) ?_
    exact ⟨rfl, O8.old⟩
  · skip
    refine wl_val (v := .bool false) (fun ρ e => ex_cmp (u := ((bs.length : Nat) : Int)) (v := 200) (e _ _ rfl) (e _ _ rfl) (gtr0 (by omega))) rfl rfl ?_
    refine wl_nil ?_
    refine xw_next K3 ?_
    refine cw_false rfl ?_
    refine cw_skip ?_
    refine xw_next K2 ?_
    refine cw_seq (fun FK9 K9 => ?_)
    refine cw_region ?_
    refine wl_val (v := .int .u8 (x : Int)) (fun ρ e => ex_move (e _ _ rfl)) rfl rfl ?_
    refine wl_val (v := .slice B bs.length bc) (fun ρ e => ex_move (e _ _ rfl)) rfl rfl ?_
    refine wl_call (args := [.int .u8 (x : Int), .slice B bs.length bc]) in_20 rfl rfl rfl ?_
    refine (grown_ (hB.move (fun k hk => (O0.old).block k (hD k hk))) (fun k hk => Nat.lt_of_lt_of_le (hD k hk) (O0.old).size) (by omega) hx).mono ?_
    rintro _ w12 ⟨T, A10, c11, hgd, hl, rfl, h13⟩
    have O14 := O0.join1 h13 trivial
    have hpos := T.size_pos
    have hsm := hgd.small
    rw [← post_len T 0] at O14 hpos hsm
    obtain ⟨g15, hg15⟩ := rowaddr (O14.row 0 rfl) hpos
    subst hg15
    have hok := post_ok hgd
    have hV := okT_val hok
    rw [← post_len T 0]
    refine ⟨_, rfl, ?_⟩
    refine wl_val (v := .slice (some ⟨g15, 0, none⟩) ((post T 0).length) c11) (fun ρ e => ex_assign (e _ _ rfl)) rfl rfl ?_
    refine wl_nil ?_
    refine xw_next K9 ?_
    refine cw_seq (fun FK16 K16 => ?_)
    refine cw_seq (fun FK17 K17 => ?_)
    refine cw_region ?_
    refine wl_val (v := .slice (some ⟨g15, 0, none⟩) ((post T 0).length) c11) (fun ρ e => ex_move (e _ _ rfl)) rfl rfl ?_
    refine wl_val (v := .int .i64 (((post T 0).length : Nat) : Int)) (fun ρ e => ex_len el23 (e _ _ rfl)) rfl rfl ?_
    refine wl_val (v := .bool false) (fun ρ e => ex_cmp (u := (((post T 0).length : Nat) : Int)) (v := 0) (e _ _ rfl) (e _ _ rfl) (eql0 (by omega))) rfl rfl ?_
    refine wl_nil ?_
    refine xw_next K17 ?_
    refine cw_false rfl ?_
    refine cw_skip ?_
    refine xw_next K16 ?_
    refine cw_seq (fun FK18 K18 => ?_)
    refine cw_drawn (fun X => Own Z0 W X [.row (.slice (some ⟨g15, 0, none⟩) ((post T 0).length) c11) 38 3 ((post T 0).length) (ncells (post T 0))]) 10 [(0, 1), (1, 1), (2, 1), (3, 1), (4, 1), (5, 1), (6, 1), (7, 1), (8, 1), (9, 1), (10, 3), (11, 3)] (by kernel_rfl) (by kernel_rfl) (PQ.then_ PQ.body) (O14).drew ?_
    have O19 : Own Z0 W w12.drew [.row (.slice (some ⟨g15, 0, none⟩) ((post T 0).length) c11) 38 3 ((post T 0).length) (ncells (post T 0))] := O14.drew
    refine wt1 (v := .int .u8 (y : Int)) rfl (fun ρ e W => ex_move (e _ _ rfl)) rfl rfl ?_
    refine wt1 (v := .int .i64 (y : Int)) rfl (fun ρ e W => ex_conv8 (e _ _ rfl) (by omega)) rfl rfl ?_
    refine wt1 (v := .slice (some ⟨g15, 0, none⟩) ((post T 0).length) c11) rfl (fun ρ e W => ex_move (e _ _ rfl)) rfl rfl ?_
    refine wt1 (v := .int .i64 (((post T 0).length : Nat) : Int)) rfl (fun ρ e W => ex_len el23 (e _ _ rfl)) rfl rfl ?_
    obtain ⟨i, hi, li⟩ : ∃ q, y % ((post T 0).length) = q ∧ q < (post T 0).length := ⟨_, rfl, Nat.mod_lt _ (by omega)⟩
    refine wt1 (v := .int .i64 (i : Int)) rfl (fun ρ e W => ex_remg (a := y) (b := (post T 0).length) (e _ _ rfl) (e _ _ rfl) (by omega) hi) rfl rfl ?_
    refine wt1 (v := .int .u8 (z : Int)) rfl (fun ρ e W => ex_move (e _ _ rfl)) rfl rfl ?_
    refine wt1 (v := .int .i64 (z : Int)) rfl (fun ρ e W => ex_conv8 (e _ _ rfl) (by omega)) rfl rfl ?_
    refine wt1 (v := .slice (some ⟨g15, 0, none⟩) ((post T 0).length) c11) rfl (fun ρ e W => ex_move (e _ _ rfl)) rfl rfl ?_
    refine wt1 (v := .int .i64 (((post T 0).length : Nat) : Int)) rfl (fun ρ e W => ex_len el23 (e _ _ rfl)) rfl rfl ?_
    obtain ⟨k, hk, lk⟩ : ∃ q, z % ((post T 0).length) = q ∧ q < (post T 0).length := ⟨_, rfl, Nat.mod_lt _ (by omega)⟩
    refine wt1 (v := .int .i64 (k : Int)) rfl (fun ρ e W => ex_remg (a := z) (b := (post T 0).length) (e _ _ rfl) (e _ _ rfl) (by omega) hk) rfl rfl ?_
    refine wt3 (v := .int .i64 (i : Int)) rfl (fun ρ e => ex_assign (e _ _ rfl)) rfl rfl ?_
    refine wt3 (v := .int .i64 (k : Int)) rfl (fun ρ e => ex_assign (e _ _ rfl)) rfl rfl ?_
    refine wt_nil ?_
    refine xw_next K18 ?_
    refine cw_seq (fun FK20 K20 => ?_)
    refine cw_region ?_
    refine wl_val (v := .slice (some ⟨g15, 0, none⟩) ((post T 0).length) c11) (fun ρ e => ex_move (e _ _ rfl)) rfl rfl ?_
    refine wl_val (v := .int .i64 (i : Int)) (fun ρ e => ex_move (e _ _ rfl)) rfl rfl ?_
    refine wl_val (v := .int .i64 (k : Int)) (fun ρ e => ex_move (e _ _ rfl)) rfl rfl ?_
    refine wl_call (args := [.slice (some ⟨g15, 0, none⟩) ((post T 0).length) c11, .int .i64 (i : Int), .int .i64 (k : Int)]) in_15 rfl rfl rfl ?_
    obtain ⟨m, hm, hml, hmi, hmk, hmx⟩ := meet_at hok li lk
    have hc21 := meet_ (NodesD.of_row (O19.row 0 rfl)) (fun k hk => (World.ownsRow.lt (O19.row 0 rfl) k hk).2) (i : Int) (k : Int)
    rw [hm] at hc21
    refine hc21.mono ?_
    rintro _ w22 ⟨rfl, hb23⟩
    have O24 : Own Z0 W w22 [.row (.slice (some ⟨g15, 0, none⟩) ((post T 0).length) c11) 38 3 ((post T 0).length) (ncells (post T 0))] := O19.below hb23
    refine ⟨_, rfl, ?_⟩
    refine wl_val (v := .int .i64 (m : Int)) (fun ρ e => ex_assign (e _ _ rfl)) rfl rfl ?_
    refine wl_nil ?_
    refine xw_next K20 ?_
    refine cw_seq (fun FK25 K25 => ?_)
    refine cw_region ?_
    refine wl_val (v := .slice (some ⟨g15, 0, none⟩) ((post T 0).length) c11) (fun ρ e => ex_move (e _ _ rfl)) rfl rfl ?_
    refine wl_call (args := [.slice (some ⟨g15, 0, none⟩) ((post T 0).length) c11]) in_44 rfl rfl rfl ?_
    refine (vvars_ok (NodesD.of_row (O24.row 0 rfl)) (fun k hk => (World.ownsRow.lt (O24.row 0 rfl) k hk).2) hok).mono ?_
    rintro _ w26 ⟨g29, c30, rfl, h27⟩
    have O28 := O24.join1 h27 trivial
    refine ⟨_, rfl, ?_⟩
    refine wl_val (v := .slice (some ⟨g15, 0, none⟩) ((post T 0).length) c11) (fun ρ e => ex_move (e _ _ rfl)) rfl rfl ?_
    refine wl_call (args := [.slice (some ⟨g15, 0, none⟩) ((post T 0).length) c11]) in_31 rfl rfl rfl ?_
    refine (parents_ok (NodesD.of_row (O28.row 1 rfl)) (fun k hk => (World.ownsRow.lt (O28.row 1 rfl) k hk).2) hok).mono ?_
    rintro _ w31 ⟨g34, c35, rfl, h32⟩
    have O33 := O28.join1 h32 trivial
    refine ⟨_, rfl, ?_⟩
    obtain ⟨g36, w37, r38, O39, hg40, hs41⟩ := own_alloc O33 36 ze36 rfl
    refine wl_val (v := .pointer (some ⟨g36, 0, none⟩)) (fun ρ e => r38 ρ _ _ _ _ _) rfl rfl ?_
    refine wl_val (v := .slice (some ⟨g29, 0, none⟩) ((post T 0).length) c30) (fun ρ e => ex_assign (e _ _ rfl)) rfl rfl ?_
    obtain ⟨w42, r43, O44, hs45⟩ := own_put (o := 0) (n := 1) O39 ty36 (.slice (some ⟨g34, 0, none⟩) ((post T 0).length) c35) [.slice (some ⟨g34, 0, none⟩) ((post T 0).length) c35] (cs' := #[.slice (some ⟨g34, 0, none⟩) ((post T 0).length) c35]) rfl rfl rfl (Nat.le_of_ble_eq_true rfl) rfl
    refine wl_none (fun ρ e => r43 ρ _ _ _ _ _ _ (e _ _ rfl) (e _ _ rfl)) rfl ?_
    refine wl_nil ?_
    refine xw_next K25 ?_
    refine cw_seq (fun FK46 K46 => ?_)
    refine cw_seq (fun FK47 K47 => ?_)
    refine cw_region ?_
    refine wl_val (v := .slice (some ⟨g29, 0, none⟩) ((post T 0).length) c30) (fun ρ e => ex_move (e _ _ rfl)) rfl rfl ?_
    refine wl_val (v := .int .i64 (((post T 0).length : Nat) : Int)) (fun ρ e => ex_len el53 (e _ _ rfl)) rfl rfl ?_
    refine wl_val (v := .slice (some ⟨g15, 0, none⟩) ((post T 0).length) c11) (fun ρ e => ex_move (e _ _ rfl)) rfl rfl ?_
    refine wl_val (v := .int .i64 (((post T 0).length : Nat) : Int)) (fun ρ e => ex_len el23 (e _ _ rfl)) rfl rfl ?_
    refine wl_val (v := .bool false) (fun ρ e => ex_cmp (u := (((post T 0).length : Nat) : Int)) (v := (((post T 0).length : Nat) : Int)) (e _ _ rfl) (e _ _ rfl) (neq0 rfl)) rfl rfl ?_
    refine wl_val (v := .bool false) (fun ρ e => ex_move (e _ _ rfl)) rfl rfl ?_
    refine wl_val (v := .slice (some ⟨g34, 0, none⟩) ((post T 0).length) c35) (fun ρ e => ex_load1 ty36 (e _ _ rfl) (O44.cell 0 0 rfl rfl)) rfl rfl ?_
    refine wl_val (v := .int .i64 (((post T 0).length : Nat) : Int)) (fun ρ e => ex_len el36 (e _ _ rfl)) rfl rfl ?_
    refine wl_val (v := .slice (some ⟨g15, 0, none⟩) ((post T 0).length) c11) (fun ρ e => ex_move (e _ _ rfl)) rfl rfl ?_
    refine wl_val (v := .int .i64 (((post T 0).length : Nat) : Int)) (fun ρ e => ex_len el23 (e _ _ rfl)) rfl rfl ?_
    refine wl_val (v := .bool false) (fun ρ e => ex_cmp (u := (((post T 0).length : Nat) : Int)) (v := (((post T 0).length : Nat) : Int)) (e _ _ rfl) (e _ _ rfl) (neq0 rfl)) rfl rfl ?_
    refine wl_val (v := .bool false) (fun ρ e => ex_pick0 (e _ _ rfl) (e _ _ rfl)) rfl rfl ?_
    refine wl_val (v := .bool false) (fun ρ e => ex_move (e _ _ rfl)) rfl rfl ?_
    refine wl_val (v := .int .i64 (m : Int)) (fun ρ e => ex_move (e _ _ rfl)) rfl rfl ?_
    refine wl_val (v := .slice (some ⟨g15, 0, none⟩) ((post T 0).length) c11) (fun ρ e => ex_move (e _ _ rfl)) rfl rfl ?_
    refine wl_val (v := .int .i64 (k : Int)) (fun ρ e => ex_move (e _ _ rfl)) rfl rfl ?_
    refine wl_val (v := .int .i64 (i : Int)) (fun ρ e => ex_move (e _ _ rfl)) rfl rfl ?_
    refine wl_call (args := [.slice (some ⟨g15, 0, none⟩) ((post T 0).length) c11, .int .i64 (k : Int), .int .i64 (i : Int)]) in_15 rfl rfl rfl ?_
    have hm2 := (meet_comm hok lk li).trans hm
    have hc48 := meet_ (NodesD.of_row (O44.row 3 rfl)) (fun k hk => (World.ownsRow.lt (O44.row 3 rfl) k hk).2) (k : Int) (i : Int)
    rw [hm2] at hc48
    refine hc48.mono ?_
    rintro _ w49 ⟨rfl, hb50⟩
    have O51 : Own Z0 W w49 [.blk g36 36 #[.slice (some ⟨g34, 0, none⟩) ((post T 0).length) c35], .row (.slice (some ⟨g34, 0, none⟩) ((post T 0).length) c35) 3 1 ((post T 0).length) (intCs (parsOf (post T 0))), .row (.slice (some ⟨g29, 0, none⟩) ((post T 0).length) c30) 57 2 ((post T 0).length) (vcells (setsOf (post T 0))), .row (.slice (some ⟨g15, 0, none⟩) ((post T 0).length) c11) 38 3 ((post T 0).length) (ncells (post T 0))] := O44.below hb50
    refine ⟨_, rfl, ?_⟩
    refine wl_val (v := .bool false) (fun ρ e => ex_cmp (u := (m : Int)) (v := (m : Int)) (e _ _ rfl) (e _ _ rfl) (neq0 rfl)) rfl rfl ?_
    refine wl_val (v := .bool false) (fun ρ e => ex_pick0 (e _ _ rfl) (e _ _ rfl)) rfl rfl ?_
    refine wl_val (v := .bool false) (fun ρ e => ex_move (e _ _ rfl)) rfl rfl ?_
    refine wl_val (v := .slice (some ⟨g15, 0, none⟩) ((post T 0).length) c11) (fun ρ e => ex_move (e _ _ rfl)) rfl rfl ?_
    refine wl_val (v := .int .i64 (i : Int)) (fun ρ e => ex_move (e _ _ rfl)) rfl rfl ?_
    refine wl_val (v := .int .i64 (i : Int)) (fun ρ e => ex_move (e _ _ rfl)) rfl rfl ?_
    refine wl_call (args := [.slice (some ⟨g15, 0, none⟩) ((post T 0).length) c11, .int .i64 (i : Int), .int .i64 (i : Int)]) in_15 rfl rfl rfl ?_
    have hm3 := meet_self hok li
    have hc52 := meet_ (NodesD.of_row (O51.row 3 rfl)) (fun k hk => (World.ownsRow.lt (O51.row 3 rfl) k hk).2) (i : Int) (i : Int)
    rw [hm3] at hc52
    refine hc52.mono ?_
    rintro _ w53 ⟨rfl, hb54⟩
    have O55 : Own Z0 W w53 [.blk g36 36 #[.slice (some ⟨g34, 0, none⟩) ((post T 0).length) c35], .row (.slice (some ⟨g34, 0, none⟩) ((post T 0).length) c35) 3 1 ((post T 0).length) (intCs (parsOf (post T 0))), .row (.slice (some ⟨g29, 0, none⟩) ((post T 0).length) c30) 57 2 ((post T 0).length) (vcells (setsOf (post T 0))), .row (.slice (some ⟨g15, 0, none⟩) ((post T 0).length) c11) 38 3 ((post T 0).length) (ncells (post T 0))] := O51.below hb54
    refine ⟨_, rfl, ?_⟩
    refine wl_val (v := .int .i64 (i : Int)) (fun ρ e => ex_move (e _ _ rfl)) rfl rfl ?_
    refine wl_val (v := .bool false) (fun ρ e => ex_cmp (u := (i : Int)) (v := (i : Int)) (e _ _ rfl) (e _ _ rfl) (neq0 rfl)) rfl rfl ?_
    refine wl_val (v := .bool false) (fun ρ e => ex_pick0 (e _ _ rfl) (e _ _ rfl)) rfl rfl ?_
    refine wl_val (v := .bool false) (fun ρ e => ex_move (e _ _ rfl)) rfl rfl ?_
    refine wl_val (v := .slice (some ⟨g34, 0, none⟩) ((post T 0).length) c35) (fun ρ e => ex_load1 ty36 (e _ _ rfl) (O55.cell 0 0 rfl rfl)) rfl rfl ?_
    refine wl_val (v := .slice (some ⟨g15, 0, none⟩) ((post T 0).length) c11) (fun ρ e => ex_move (e _ _ rfl)) rfl rfl ?_
    refine wl_val (v := .int .i64 (((post T 0).length : Nat) : Int)) (fun ρ e => ex_len el23 (e _ _ rfl)) rfl rfl ?_
    refine wl_val (v := .int .i64 (((post T 0).length - 1 : Nat) : Int)) (fun ρ e => ex_arith (k := .i64) (u := (((post T 0).length : Nat) : Int)) (v := 1) (e _ _ rfl) (e _ _ rfl) (congrArg some ((congrArg _ (show _ = (((post T 0).length - 1 : Nat) : Int) by omega)).trans (wrap_in (by omega) (by omega))))) rfl rfl ?_
    refine wl_val (v := .pointer (some ⟨g34, ((post T 0).length - 1), none⟩)) (fun ρ e => ex_idx (q := ((post T 0).length - 1)) (i := (post T 0).length - 1) el36 (e _ _ rfl) (e _ _ rfl) (by omega) (by omega)) rfl rfl ?_
    refine wl_val (v := .int .i64 (-1)) (fun ρ e => ex_load1 ty3 (e _ _ rfl) (rowcell (O55.row 1 rfl) (intCs_get (par_last hV)))) rfl rfl ?_
    refine wl_val (v := .bool false) (fun ρ e => ex_cmp (u := (-1)) (v := (-1)) (e _ _ rfl) (e _ _ rfl) (neq0 rfl)) rfl rfl ?_
    refine wl_val (v := .bool false) (fun ρ e => ex_pick0 (e _ _ rfl) (e _ _ rfl)) rfl rfl ?_
    refine wl_nil ?_
    refine xw_next K47 ?_
    refine cw_false rfl ?_
    refine cw_skip ?_
    refine xw_next K46 ?_
    refine cw_seq (fun FK56 K56 => ?_)
    refine cw_region ?_
    refine wl_val (v := .func (.func 46) #[] #[.pointer (some ⟨g36, 0, none⟩)]) (fun ρ e => ex_func (us := []) (vs := [.pointer (some ⟨g36, 0, none⟩)]) (e.list rfl) (e.list rfl)) rfl rfl ?_
    refine wl_val (v := .func (.func 46) #[] #[.pointer (some ⟨g36, 0, none⟩)]) (fun ρ e => ex_assign (e _ _ rfl)) rfl rfl ?_
    refine wl_nil ?_
    refine xw_next K56 ?_
    refine cw_seq (fun FK57 K57 => ?_)
    refine cw_seq (fun FK58 K58 => ?_)
    refine cw_region ?_
    refine wl_val (v := .func (.func 46) #[] #[.pointer (some ⟨g36, 0, none⟩)]) (fun ρ e => ex_move (e _ _ rfl)) rfl rfl ?_
    refine wl_val (v := .int .i64 (i : Int)) (fun ρ e => ex_move (e _ _ rfl)) rfl rfl ?_
    refine wl_val (v := .int .i64 (m : Int)) (fun ρ e => ex_move (e _ _ rfl)) rfl rfl ?_
    refine wl_callv (args := [.int .i64 (i : Int), .int .i64 (m : Int)]) (all := [.int .i64 (i : Int), .int .i64 (m : Int), .pointer (some ⟨g36, 0, none⟩)]) in_46 rfl rfl rfl rfl rfl ?_
    have O62h := Own.hand (A := [.blk g36 36 #[.slice (some ⟨g34, 0, none⟩) ((post T 0).length) c35], .row (.slice (some ⟨g34, 0, none⟩) ((post T 0).length) c35) 3 1 ((post T 0).length) (intCs (parsOf (post T 0)))]) (R := [.row (.slice (some ⟨g29, 0, none⟩) ((post T 0).length) c30) 57 2 ((post T 0).length) (vcells (setsOf (post T 0))), .row (.slice (some ⟨g15, 0, none⟩) ((post T 0).length) c11) 38 3 ((post T 0).length) (ncells (post T 0))]) O55
    have hc59 := under_ hV O62h li (m : Int) (by omega)
    rw [decide_eq_true hmi] at hc59
    refine hc59.mono ?_
    rintro _ w60 ⟨rfl, h61⟩
    have O62 : Own Z0 W w60 [.blk g36 36 #[.slice (some ⟨g34, 0, none⟩) ((post T 0).length) c35], .row (.slice (some ⟨g34, 0, none⟩) ((post T 0).length) c35) 3 1 ((post T 0).length) (intCs (parsOf (post T 0))), .row (.slice (some ⟨g29, 0, none⟩) ((post T 0).length) c30) 57 2 ((post T 0).length) (vcells (setsOf (post T 0))), .row (.slice (some ⟨g15, 0, none⟩) ((post T 0).length) c11) 38 3 ((post T 0).length) (ncells (post T 0))] := Own.frame (A := [.blk g36 36 #[.slice (some ⟨g34, 0, none⟩) ((post T 0).length) c35], .row (.slice (some ⟨g34, 0, none⟩) ((post T 0).length) c35) 3 1 ((post T 0).length) (intCs (parsOf (post T 0)))]) (R := [.row (.slice (some ⟨g29, 0, none⟩) ((post T 0).length) c30) 57 2 ((post T 0).length) (vcells (setsOf (post T 0))), .row (.slice (some ⟨g15, 0, none⟩) ((post T 0).length) c11) 38 3 ((post T 0).length) (ncells (post T 0))]) O55 h61
    refine ⟨_, rfl, ?_⟩
    refine wl_val (v := .bool false) (fun ρ e => ex_lnot (b := true) (e _ _ rfl)) rfl rfl ?_
    refine wl_val (v := .bool false) (fun ρ e => ex_move (e _ _ rfl)) rfl rfl ?_
    refine wl_val (v := .func (.func 46) #[] #[.pointer (some ⟨g36, 0, none⟩)]) (fun ρ e => ex_move (e _ _ rfl)) rfl rfl ?_
    refine wl_val (v := .int .i64 (k : Int)) (fun ρ e => ex_move (e _ _ rfl)) rfl rfl ?_
    refine wl_val (v := .int .i64 (m : Int)) (fun ρ e => ex_move (e _ _ rfl)) rfl rfl ?_
    refine wl_callv (args := [.int .i64 (k : Int), .int .i64 (m : Int)]) (all := [.int .i64 (k : Int), .int .i64 (m : Int), .pointer (some ⟨g36, 0, none⟩)]) in_46 rfl rfl rfl rfl rfl ?_
    have O66h := Own.hand (A := [.blk g36 36 #[.slice (some ⟨g34, 0, none⟩) ((post T 0).length) c35], .row (.slice (some ⟨g34, 0, none⟩) ((post T 0).length) c35) 3 1 ((post T 0).length) (intCs (parsOf (post T 0)))]) (R := [.row (.slice (some ⟨g29, 0, none⟩) ((post T 0).length) c30) 57 2 ((post T 0).length) (vcells (setsOf (post T 0))), .row (.slice (some ⟨g15, 0, none⟩) ((post T 0).length) c11) 38 3 ((post T 0).length) (ncells (post T 0))]) O62
    have hc63 := under_ hV O66h lk (m : Int) (by omega)
    rw [decide_eq_true hmk] at hc63
    refine hc63.mono ?_
    rintro _ w64 ⟨rfl, h65⟩
    have O66 : Own Z0 W w64 [.blk g36 36 #[.slice (some ⟨g34, 0, none⟩) ((post T 0).length) c35], .row (.slice (some ⟨g34, 0, none⟩) ((post T 0).length) c35) 3 1 ((post T 0).length) (intCs (parsOf (post T 0))), .row (.slice (some ⟨g29, 0, none⟩) ((post T 0).length) c30) 57 2 ((post T 0).length) (vcells (setsOf (post T 0))), .row (.slice (some ⟨g15, 0, none⟩) ((post T 0).length) c11) 38 3 ((post T 0).length) (ncells (post T 0))] := Own.frame (A := [.blk g36 36 #[.slice (some ⟨g34, 0, none⟩) ((post T 0).length) c35], .row (.slice (some ⟨g34, 0, none⟩) ((post T 0).length) c35) 3 1 ((post T 0).length) (intCs (parsOf (post T 0)))]) (R := [.row (.slice (some ⟨g29, 0, none⟩) ((post T 0).length) c30) 57 2 ((post T 0).length) (vcells (setsOf (post T 0))), .row (.slice (some ⟨g15, 0, none⟩) ((post T 0).length) c11) 38 3 ((post T 0).length) (ncells (post T 0))]) O62 h65
    refine ⟨_, rfl, ?_⟩
    refine wl_val (v := .bool false) (fun ρ e => ex_lnot (b := true) (e _ _ rfl)) rfl rfl ?_
    refine wl_val (v := .bool false) (fun ρ e => ex_pick0 (e _ _ rfl) (e _ _ rfl)) rfl rfl ?_
    refine wl_nil ?_
    refine xw_next K58 ?_
    refine cw_false rfl ?_
    refine cw_skip ?_
    refine xw_next K57 ?_
    refine cw_seq (fun FK67 K67 => ?_)
    refine cw_seq (fun FK68 K68 => ?_)
    refine cw_region ?_
    refine wl_val (v := .slice (some ⟨g15, 0, none⟩) ((post T 0).length) c11) (fun ρ e => ex_move (e _ _ rfl)) rfl rfl ?_
    refine wl_val (v := .int .i64 (((post T 0).length : Nat) : Int)) (fun ρ e => ex_len el23 (e _ _ rfl)) rfl rfl ?_
    refine wl_val (v := .int .i64 0) (fun ρ e => ex_move (e _ _ rfl)) rfl rfl ?_
    refine wl_nil ?_
    refine xw_next K68 ?_
    refine cw_block ?_
    have O69 : Own Z0 W w64 [.row (.slice (some ⟨g15, 0, none⟩) ((post T 0).length) c11) 38 3 ((post T 0).length) (ncells (post T 0)), .row (.slice (some ⟨g29, 0, none⟩) ((post T 0).length) c30) 57 2 ((post T 0).length) (vcells (setsOf (post T 0))), .row (.slice (some ⟨g34, 0, none⟩) ((post T 0).length) c35) 3 1 ((post T 0).length) (intCs (parsOf (post T 0))), .blk g36 36 #[.slice (some ⟨g34, 0, none⟩) ((post T 0).length) c35]] := (O66.re [3, 2, 1, 0] rfl : Own Z0 W w64 [.row (.slice (some ⟨g15, 0, none⟩) ((post T 0).length) c11) 38 3 ((post T 0).length) (ncells (post T 0)), .row (.slice (some ⟨g29, 0, none⟩) ((post T 0).length) c30) 57 2 ((post T 0).length) (vcells (setsOf (post T 0))), .row (.slice (some ⟨g34, 0, none⟩) ((post T 0).length) c35) 3 1 ((post T 0).length) (intCs (parsOf (post T 0))), .blk g36 36 #[.slice (some ⟨g34, 0, none⟩) ((post T 0).length) c35]])
    refine cw_loop (ι := Nat) (fun q => [(9, .slice (some ⟨g15, 0, none⟩) ((post T 0).length) c11), (10, .int .i64 (i : Int)), (11, .int .i64 (k : Int)), (12, .int .i64 (m : Int)), (13, .slice (some ⟨g29, 0, none⟩) ((post T 0).length) c30), (14, .pointer (some ⟨g36, 0, none⟩)), (15, .func (.func 46) #[] #[.pointer (some ⟨g36, 0, none⟩)]), (98, .slice (some ⟨g15, 0, none⟩) ((post T 0).length) c11), (99, .int .i64 (((post T 0).length : Nat) : Int)), (100, .int .i64 (q : Int))]) (fun q X => (q ≤ (post T 0).length) ∧ Own Z0 W X [.row (.slice (some ⟨g15, 0, none⟩) ((post T 0).length) c11) 38 3 ((post T 0).length) (ncells (post T 0)), .row (.slice (some ⟨g29, 0, none⟩) ((post T 0).length) c30) 57 2 ((post T 0).length) (vcells (setsOf (post T 0))), .row (.slice (some ⟨g34, 0, none⟩) ((post T 0).length) c35) 3 1 ((post T 0).length) (intCs (parsOf (post T 0))), .blk g36 36 #[.slice (some ⟨g34, 0, none⟩) ((post T 0).length) c35]]) (fun q => (post T 0).length - q) 0 ⟨Nat.zero_le _, O69⟩ ⟨rfl, rfl, rfl, rfl, rfl, rfl, rfl, rfl, rfl, rfl, trivial⟩ (fun q w70 hJ F71 K72 => ?_)
    obtain ⟨n, rfl⟩ : ∃ x, x = q := ⟨_, rfl⟩
    obtain ⟨hn0, O73⟩ := hJ
    try dsimp only at hn0 O73 ⊢
    by_cases hn : n < (post T 0).length
    · skip
      rcases hV.kind n _ (List.getElem?_eq_getElem hn) with ⟨v, hx0, hv1, hv2⟩ | ⟨a, b, hx0, ha, hb, hab⟩
      · skip
        have hx : (post T 0)[n]? = some ⟨-1, -1, v⟩ := by rw [List.getElem?_eq_getElem hn, hx0]
        refine cw_seq (fun FK74 K74 => ?_)
        refine cw_region ?_
        refine wl_val (v := .bool true) (fun ρ e => ex_cmp (u := (n : Int)) (v := (((post T 0).length : Nat) : Int)) (e _ _ rfl) (e _ _ rfl) (lss1 (by omega))) rfl rfl ?_
        refine wl_nil ?_
        refine xw_next K74 ?_
        refine cw_seq (fun FK75 K75 => ?_)
        refine cw_true rfl ?_
        refine cw_skip ?_
        refine xw_next K75 ?_
        refine cw_seq (fun FK76 K76 => ?_)
        refine cw_block ?_
        refine cw_seq (fun FK77 K77 => ?_)
        refine cw_region ?_
        refine wl_val (v := .int .i64 (n : Int)) (fun ρ e => ex_move (e _ _ rfl)) rfl rfl ?_
        refine wl_val (v := .pointer (some ⟨g15, n * 3, none⟩)) (fun ρ e => ex_idx (q := n * 3) (i := n) el23 (e _ _ rfl) (e _ _ rfl) (by omega) (by omega)) rfl rfl ?_
        refine wl_val (v := .agg #[.int .i64 (-1), .int .i64 (-1), .int .i64 v]) (fun ρ e => ex_loadN (vs := [.int .i64 (-1), .int .i64 (-1), .int .i64 v]) ty38 (e _ _ rfl) rfl (cells3 (rowcell (O73.row 0 rfl) (ncells_get hx).1) (rowcell (O73.row 0 rfl) (ncells_get hx).2.1) (rowcell (O73.row 0 rfl) (ncells_get hx).2.2))) rfl rfl ?_
        obtain ⟨g78, w79, r80, O81, hg82, hs83⟩ := own_alloc O73 38 ze38 rfl
        refine wl_val (v := .pointer (some ⟨g78, 0, none⟩)) (fun ρ e => r80 ρ _ _ _ _ _) rfl rfl ?_
        refine wl_val (v := .int .i64 (n : Int)) (fun ρ e => ex_assign (e _ _ rfl)) rfl rfl ?_
        obtain ⟨w84, r85, O86, hs87⟩ := own_put (o := 0) (n := 3) O81 ty38 (.agg #[.int .i64 (-1), .int .i64 (-1), .int .i64 v]) [.int .i64 (-1), .int .i64 (-1), .int .i64 v] (cs' := #[.int .i64 (-1), .int .i64 (-1), .int .i64 v]) rfl rfl rfl (Nat.le_of_ble_eq_true rfl) rfl
        refine wl_none (fun ρ e => r85 ρ _ _ _ _ _ _ (e _ _ rfl) (e _ _ rfl)) rfl ?_
        refine wl_nil ?_
        refine xw_next K77 ?_
        refine cw_seq (fun FK88 K88 => ?_)
        refine cw_seq (fun FK89 K89 => ?_)
        refine cw_region ?_
        refine wl_val (v := .func (.func 46) #[] #[.pointer (some ⟨g36, 0, none⟩)]) (fun ρ e => ex_move (e _ _ rfl)) rfl rfl ?_
        refine wl_val (v := .int .i64 (i : Int)) (fun ρ e => ex_move (e _ _ rfl)) rfl rfl ?_
        refine wl_val (v := .int .i64 (n : Int)) (fun ρ e => ex_move (e _ _ rfl)) rfl rfl ?_
        by_cases c90 : (n : Int) ∈ (chainOf (post T 0) i)
        · skip
          refine wl_callv (args := [.int .i64 (i : Int), .int .i64 (n : Int)]) (all := [.int .i64 (i : Int), .int .i64 (n : Int), .pointer (some ⟨g36, 0, none⟩)]) in_46 rfl rfl rfl rfl rfl ?_
          have O94h := Own.hand (A := [.blk g36 36 #[.slice (some ⟨g34, 0, none⟩) ((post T 0).length) c35], .row (.slice (some ⟨g34, 0, none⟩) ((post T 0).length) c35) 3 1 ((post T 0).length) (intCs (parsOf (post T 0)))]) (R := [.blk g78 38 #[.int .i64 (-1), .int .i64 (-1), .int .i64 v], .row (.slice (some ⟨g15, 0, none⟩) ((post T 0).length) c11) 38 3 ((post T 0).length) (ncells (post T 0)), .row (.slice (some ⟨g29, 0, none⟩) ((post T 0).length) c30) 57 2 ((post T 0).length) (vcells (setsOf (post T 0)))]) (O86.re [4, 3, 0, 1, 2] rfl : Own Z0 W w84 [.blk g36 36 #[.slice (some ⟨g34, 0, none⟩) ((post T 0).length) c35], .row (.slice (some ⟨g34, 0, none⟩) ((post T 0).length) c35) 3 1 ((post T 0).length) (intCs (parsOf (post T 0))), .blk g78 38 #[.int .i64 (-1), .int .i64 (-1), .int .i64 v], .row (.slice (some ⟨g15, 0, none⟩) ((post T 0).length) c11) 38 3 ((post T 0).length) (ncells (post T 0)), .row (.slice (some ⟨g29, 0, none⟩) ((post T 0).length) c30) 57 2 ((post T 0).length) (vcells (setsOf (post T 0)))])
          have hc91 := under_ hV O94h li (n : Int) (by omega)
          rw [decide_eq_true c90] at hc91
          refine hc91.mono ?_
          rintro _ w92 ⟨rfl, h93⟩
          have O94 : Own Z0 W w92 [.blk g36 36 #[.slice (some ⟨g34, 0, none⟩) ((post T 0).length) c35], .row (.slice (some ⟨g34, 0, none⟩) ((post T 0).length) c35) 3 1 ((post T 0).length) (intCs (parsOf (post T 0))), .blk g78 38 #[.int .i64 (-1), .int .i64 (-1), .int .i64 v], .row (.slice (some ⟨g15, 0, none⟩) ((post T 0).length) c11) 38 3 ((post T 0).length) (ncells (post T 0)), .row (.slice (some ⟨g29, 0, none⟩) ((post T 0).length) c30) 57 2 ((post T 0).length) (vcells (setsOf (post T 0)))] := Own.frame (A := [.blk g36 36 #[.slice (some ⟨g34, 0, none⟩) ((post T 0).length) c35], .row (.slice (some ⟨g34, 0, none⟩) ((post T 0).length) c35) 3 1 ((post T 0).length) (intCs (parsOf (post T 0)))]) (R := [.blk g78 38 #[.int .i64 (-1), .int .i64 (-1), .int .i64 v], .row (.slice (some ⟨g15, 0, none⟩) ((post T 0).length) c11) 38 3 ((post T 0).length) (ncells (post T 0)), .row (.slice (some ⟨g29, 0, none⟩) ((post T 0).length) c30) 57 2 ((post T 0).length) (vcells (setsOf (post T 0)))]) (O86.re [4, 3, 0, 1, 2] rfl : Own Z0 W w84 [.blk g36 36 #[.slice (some ⟨g34, 0, none⟩) ((post T 0).length) c35], .row (.slice (some ⟨g34, 0, none⟩) ((post T 0).length) c35) 3 1 ((post T 0).length) (intCs (parsOf (post T 0))), .blk g78 38 #[.int .i64 (-1), .int .i64 (-1), .int .i64 v], .row (.slice (some ⟨g15, 0, none⟩) ((post T 0).length) c11) 38 3 ((post T 0).length) (ncells (post T 0)), .row (.slice (some ⟨g29, 0, none⟩) ((post T 0).length) c30) 57 2 ((post T 0).length) (vcells (setsOf (post T 0)))]) h93
          refine ⟨_, rfl, ?_⟩
          refine wl_val (v := .bool true) (fun ρ e => ex_move (e _ _ rfl)) rfl rfl ?_
          refine wl_val (v := .func (.func 46) #[] #[.pointer (some ⟨g36, 0, none⟩)]) (fun ρ e => ex_move (e _ _ rfl)) rfl rfl ?_
          refine wl_val (v := .int .i64 (k : Int)) (fun ρ e => ex_move (e _ _ rfl)) rfl rfl ?_
          refine wl_val (v := .int .i64 (n : Int)) (fun ρ e => ex_move (e _ _ rfl)) rfl rfl ?_
          by_cases c95 : (n : Int) ∈ (chainOf (post T 0) k)
          · skip
            refine wl_callv (args := [.int .i64 (k : Int), .int .i64 (n : Int)]) (all := [.int .i64 (k : Int), .int .i64 (n : Int), .pointer (some ⟨g36, 0, none⟩)]) in_46 rfl rfl rfl rfl rfl ?_
            have O99h := Own.hand (A := [.blk g36 36 #[.slice (some ⟨g34, 0, none⟩) ((post T 0).length) c35], .row (.slice (some ⟨g34, 0, none⟩) ((post T 0).length) c35) 3 1 ((post T 0).length) (intCs (parsOf (post T 0)))]) (R := [.blk g78 38 #[.int .i64 (-1), .int .i64 (-1), .int .i64 v], .row (.slice (some ⟨g15, 0, none⟩) ((post T 0).length) c11) 38 3 ((post T 0).length) (ncells (post T 0)), .row (.slice (some ⟨g29, 0, none⟩) ((post T 0).length) c30) 57 2 ((post T 0).length) (vcells (setsOf (post T 0)))]) O94
            have hc96 := under_ hV O99h lk (n : Int) (by omega)
            rw [decide_eq_true c95] at hc96
            refine hc96.mono ?_
            rintro _ w97 ⟨rfl, h98⟩
            have O99 : Own Z0 W w97 [.blk g36 36 #[.slice (some ⟨g34, 0, none⟩) ((post T 0).length) c35], .row (.slice (some ⟨g34, 0, none⟩) ((post T 0).length) c35) 3 1 ((post T 0).length) (intCs (parsOf (post T 0))), .blk g78 38 #[.int .i64 (-1), .int .i64 (-1), .int .i64 v], .row (.slice (some ⟨g15, 0, none⟩) ((post T 0).length) c11) 38 3 ((post T 0).length) (ncells (post T 0)), .row (.slice (some ⟨g29, 0, none⟩) ((post T 0).length) c30) 57 2 ((post T 0).length) (vcells (setsOf (post T 0)))] := Own.frame (A := [.blk g36 36 #[.slice (some ⟨g34, 0, none⟩) ((post T 0).length) c35], .row (.slice (some ⟨g34, 0, none⟩) ((post T 0).length) c35) 3 1 ((post T 0).length) (intCs (parsOf (post T 0)))]) (R := [.blk g78 38 #[.int .i64 (-1), .int .i64 (-1), .int .i64 v], .row (.slice (some ⟨g15, 0, none⟩) ((post T 0).length) c11) 38 3 ((post T 0).length) (ncells (post T 0)), .row (.slice (some ⟨g29, 0, none⟩) ((post T 0).length) c30) 57 2 ((post T 0).length) (vcells (setsOf (post T 0)))]) O94 h98
            refine ⟨_, rfl, ?_⟩
            refine wl_val (v := .bool true) (fun ρ e => ex_pick1 (e _ _ rfl) (e _ _ rfl)) rfl rfl ?_
            refine wl_val (v := .bool true) (fun ρ e => ex_move (e _ _ rfl)) rfl rfl ?_
            refine wl_val (v := .func (.func 46) #[] #[.pointer (some ⟨g36, 0, none⟩)]) (fun ρ e => ex_move (e _ _ rfl)) rfl rfl ?_
            refine wl_val (v := .int .i64 (m : Int)) (fun ρ e => ex_move (e _ _ rfl)) rfl rfl ?_
            refine wl_val (v := .int .i64 (n : Int)) (fun ρ e => ex_move (e _ _ rfl)) rfl rfl ?_
            refine wl_callv (args := [.int .i64 (m : Int), .int .i64 (n : Int)]) (all := [.int .i64 (m : Int), .int .i64 (n : Int), .pointer (some ⟨g36, 0, none⟩)]) in_46 rfl rfl rfl rfl rfl ?_
            have O103h := Own.hand (A := [.blk g36 36 #[.slice (some ⟨g34, 0, none⟩) ((post T 0).length) c35], .row (.slice (some ⟨g34, 0, none⟩) ((post T 0).length) c35) 3 1 ((post T 0).length) (intCs (parsOf (post T 0)))]) (R := [.blk g78 38 #[.int .i64 (-1), .int .i64 (-1), .int .i64 v], .row (.slice (some ⟨g15, 0, none⟩) ((post T 0).length) c11) 38 3 ((post T 0).length) (ncells (post T 0)), .row (.slice (some ⟨g29, 0, none⟩) ((post T 0).length) c30) 57 2 ((post T 0).length) (vcells (setsOf (post T 0)))]) O99
            have hc100 := under_ hV O103h hml (n : Int) (by omega)
            rw [decide_eq_true (hmx _ c90 c95)] at hc100
            refine hc100.mono ?_
            rintro _ w101 ⟨rfl, h102⟩
            have O103 : Own Z0 W w101 [.blk g36 36 #[.slice (some ⟨g34, 0, none⟩) ((post T 0).length) c35], .row (.slice (some ⟨g34, 0, none⟩) ((post T 0).length) c35) 3 1 ((post T 0).length) (intCs (parsOf (post T 0))), .blk g78 38 #[.int .i64 (-1), .int .i64 (-1), .int .i64 v], .row (.slice (some ⟨g15, 0, none⟩) ((post T 0).length) c11) 38 3 ((post T 0).length) (ncells (post T 0)), .row (.slice (some ⟨g29, 0, none⟩) ((post T 0).length) c30) 57 2 ((post T 0).length) (vcells (setsOf (post T 0)))] := Own.frame (A := [.blk g36 36 #[.slice (some ⟨g34, 0, none⟩) ((post T 0).length) c35], .row (.slice (some ⟨g34, 0, none⟩) ((post T 0).length) c35) 3 1 ((post T 0).length) (intCs (parsOf (post T 0)))]) (R := [.blk g78 38 #[.int .i64 (-1), .int .i64 (-1), .int .i64 v], .row (.slice (some ⟨g15, 0, none⟩) ((post T 0).length) c11) 38 3 ((post T 0).length) (ncells (post T 0)), .row (.slice (some ⟨g29, 0, none⟩) ((post T 0).length) c30) 57 2 ((post T 0).length) (vcells (setsOf (post T 0)))]) O99 h102
            refine ⟨_, rfl, ?_⟩
            refine wl_val (v := .bool false) (fun ρ e => ex_lnot (b := true) (e _ _ rfl)) rfl rfl ?_
            refine wl_val (v := .bool false) (fun ρ e => ex_pick1 (e _ _ rfl) (e _ _ rfl)) rfl rfl ?_
            refine wl_nil ?_
            refine xw_next K89 ?_
            refine cw_false rfl ?_
            refine cw_skip ?_
            refine xw_next K88 ?_
            refine cw_seq (fun FK104 K104 => ?_)
            refine cw_region ?_
            refine wl_val (v := .pointer (some ⟨g78, 2, none⟩)) (fun ρ e => ex_field (q := 2) fi38_2 (e _ _ rfl) rfl) rfl rfl ?_
            refine wl_val (v := .int .i64 v) (fun ρ e => ex_load1 ty3 (e _ _ rfl) (O103.cell 2 2 rfl rfl)) rfl rfl ?_
            refine wl_val (v := .bool false) (fun ρ e => ex_cmp (u := v) (v := 0) (e _ _ rfl) (e _ _ rfl) (eql0 (by omega))) rfl rfl ?_
            refine wl_nil ?_
            refine xw_next K104 ?_
            refine cw_false rfl ?_
            refine cw_skip ?_
            refine xw_block ?_
            refine xw_next K76 ?_
            refine cw_region ?_
            refine wl_val (v := .int .i64 ((n + 1 : Nat) : Int)) (fun ρ e => ex_arith (k := .i64) (u := (n : Int)) (v := 1) (e _ _ rfl) (e _ _ rfl) (congrArg some ((congrArg _ (by omega)).trans (wrap_in (u := ((n + 1 : Nat) : Int)) (by omega) (by omega))))) rfl rfl ?_
            refine wl_val (v := .int .i64 ((n + 1 : Nat) : Int)) (fun ρ e => ex_move (e _ _ rfl)) rfl rfl ?_
            refine wl_nil ?_
            refine xw_round K72 (n + 1) (by show (post T 0).length - (n + 1) < (post T 0).length - n; omega) ⟨(by show n + 1 ≤ (post T 0).length; omega), (O103.re [3, 4, 1, 0] rfl : Own Z0 W w101 [.row (.slice (some ⟨g15, 0, none⟩) ((post T 0).length) c11) 38 3 ((post T 0).length) (ncells (post T 0)), .row (.slice (some ⟨g29, 0, none⟩) ((post T 0).length) c30) 57 2 ((post T 0).length) (vcells (setsOf (post T 0))), .row (.slice (some ⟨g34, 0, none⟩) ((post T 0).length) c35) 3 1 ((post T 0).length) (intCs (parsOf (post T 0))), .blk g36 36 #[.slice (some ⟨g34, 0, none⟩) ((post T 0).length) c35]])⟩ ⟨rfl, rfl, rfl, rfl, rfl, rfl, rfl, rfl, rfl, rfl, trivial⟩
          · skip
            refine wl_callv (args := [.int .i64 (k : Int), .int .i64 (n : Int)]) (all := [.int .i64 (k : Int), .int .i64 (n : Int), .pointer (some ⟨g36, 0, none⟩)]) in_46 rfl rfl rfl rfl rfl ?_
            have O108h := Own.hand (A := [.blk g36 36 #[.slice (some ⟨g34, 0, none⟩) ((post T 0).length) c35], .row (.slice (some ⟨g34, 0, none⟩) ((post T 0).length) c35) 3 1 ((post T 0).length) (intCs (parsOf (post T 0)))]) (R := [.blk g78 38 #[.int .i64 (-1), .int .i64 (-1), .int .i64 v], .row (.slice (some ⟨g15, 0, none⟩) ((post T 0).length) c11) 38 3 ((post T 0).length) (ncells (post T 0)), .row (.slice (some ⟨g29, 0, none⟩) ((post T 0).length) c30) 57 2 ((post T 0).length) (vcells (setsOf (post T 0)))]) O94
            have hc105 := under_ hV O108h lk (n : Int) (by omega)
            rw [decide_eq_false c95] at hc105
            refine hc105.mono ?_
            rintro _ w106 ⟨rfl, h107⟩
            have O108 : Own Z0 W w106 [.blk g36 36 #[.slice (some ⟨g34, 0, none⟩) ((post T 0).length) c35], .row (.slice (some ⟨g34, 0, none⟩) ((post T 0).length) c35) 3 1 ((post T 0).length) (intCs (parsOf (post T 0))), .blk g78 38 #[.int .i64 (-1), .int .i64 (-1), .int .i64 v], .row (.slice (some ⟨g15, 0, none⟩) ((post T 0).length) c11) 38 3 ((post T 0).length) (ncells (post T 0)), .row (.slice (some ⟨g29, 0, none⟩) ((post T 0).length) c30) 57 2 ((post T 0).length) (vcells (setsOf (post T 0)))] := Own.frame (A := [.blk g36 36 #[.slice (some ⟨g34, 0, none⟩) ((post T 0).length) c35], .row (.slice (some ⟨g34, 0, none⟩) ((post T 0).length) c35) 3 1 ((post T 0).length) (intCs (parsOf (post T 0)))]) (R := [.blk g78 38 #[.int .i64 (-1), .int .i64 (-1), .int .i64 v], .row (.slice (some ⟨g15, 0, none⟩) ((post T 0).length) c11) 38 3 ((post T 0).length) (ncells (post T 0)), .row (.slice (some ⟨g29, 0, none⟩) ((post T 0).length) c30) 57 2 ((post T 0).length) (vcells (setsOf (post T 0)))]) O94 h107
            refine ⟨_, rfl, ?_⟩
            refine wl_val (v := .bool false) (fun ρ e => ex_pick1 (e _ _ rfl) (e _ _ rfl)) rfl rfl ?_
            refine wl_val (v := .bool false) (fun ρ e => ex_move (e _ _ rfl)) rfl rfl ?_
            refine wl_skip rfl rfl ?_
            refine wl_skip rfl rfl ?_
            refine wl_skip rfl rfl ?_
            refine wl_skip rfl rfl ?_
            refine wl_skip rfl rfl ?_
            refine wl_val (v := .bool false) (fun ρ e => ex_pick0 (e _ _ rfl) (e _ _ rfl)) rfl rfl ?_
            refine wl_nil ?_
            refine xw_next K89 ?_
            refine cw_false rfl ?_
            refine cw_skip ?_
            refine xw_next K88 ?_
            refine cw_seq (fun FK109 K109 => ?_)
            refine cw_region ?_
            refine wl_val (v := .pointer (some ⟨g78, 2, none⟩)) (fun ρ e => ex_field (q := 2) fi38_2 (e _ _ rfl) rfl) rfl rfl ?_
            refine wl_val (v := .int .i64 v) (fun ρ e => ex_load1 ty3 (e _ _ rfl) (O108.cell 2 2 rfl rfl)) rfl rfl ?_
            refine wl_val (v := .bool false) (fun ρ e => ex_cmp (u := v) (v := 0) (e _ _ rfl) (e _ _ rfl) (eql0 (by omega))) rfl rfl ?_
            refine wl_nil ?_
            refine xw_next K109 ?_
            refine cw_false rfl ?_
            refine cw_skip ?_
            refine xw_block ?_
            refine xw_next K76 ?_
            refine cw_region ?_
            refine wl_val (v := .int .i64 ((n + 1 : Nat) : Int)) (fun ρ e => ex_arith (k := .i64) (u := (n : Int)) (v := 1) (e _ _ rfl) (e _ _ rfl) (congrArg some ((congrArg _ (by omega)).trans (wrap_in (u := ((n + 1 : Nat) : Int)) (by omega) (by omega))))) rfl rfl ?_
            refine wl_val (v := .int .i64 ((n + 1 : Nat) : Int)) (fun ρ e => ex_move (e _ _ rfl)) rfl rfl ?_
            refine wl_nil ?_
            refine xw_round K72 (n + 1) (by show (post T 0).length - (n + 1) < (post T 0).length - n; omega) ⟨(by show n + 1 ≤ (post T 0).length; omega), (O108.re [3, 4, 1, 0] rfl : Own Z0 W w106 [.row (.slice (some ⟨g15, 0, none⟩) ((post T 0).length) c11) 38 3 ((post T 0).length) (ncells (post T 0)), .row (.slice (some ⟨g29, 0, none⟩) ((post T 0).length) c30) 57 2 ((post T 0).length) (vcells (setsOf (post T 0))), .row (.slice (some ⟨g34, 0, none⟩) ((post T 0).length) c35) 3 1 ((post T 0).length) (intCs (parsOf (post T 0))), .blk g36 36 #[.slice (some ⟨g34, 0, none⟩) ((post T 0).length) c35]])⟩ ⟨rfl, rfl, rfl, rfl, rfl, rfl, rfl, rfl, rfl, rfl, trivial⟩
        · skip
          refine wl_callv (args := [.int .i64 (i : Int), .int .i64 (n : Int)]) (all := [.int .i64 (i : Int), .int .i64 (n : Int), .pointer (some ⟨g36, 0, none⟩)]) in_46 rfl rfl rfl rfl rfl ?_
          have O113h := Own.hand (A := [.blk g36 36 #[.slice (some ⟨g34, 0, none⟩) ((post T 0).length) c35], .row (.slice (some ⟨g34, 0, none⟩) ((post T 0).length) c35) 3 1 ((post T 0).length) (intCs (parsOf (post T 0)))]) (R := [.blk g78 38 #[.int .i64 (-1), .int .i64 (-1), .int .i64 v], .row (.slice (some ⟨g15, 0, none⟩) ((post T 0).length) c11) 38 3 ((post T 0).length) (ncells (post T 0)), .row (.slice (some ⟨g29, 0, none⟩) ((post T 0).length) c30) 57 2 ((post T 0).length) (vcells (setsOf (post T 0)))]) (O86.re [4, 3, 0, 1, 2] rfl : Own Z0 W w84 [.blk g36 36 #[.slice (some ⟨g34, 0, none⟩) ((post T 0).length) c35], .row (.slice (some ⟨g34, 0, none⟩) ((post T 0).length) c35) 3 1 ((post T 0).length) (intCs (parsOf (post T 0))), .blk g78 38 #[.int .i64 (-1), .int .i64 (-1), .int .i64 v], .row (.slice (some ⟨g15, 0, none⟩) ((post T 0).length) c11) 38 3 ((post T 0).length) (ncells (post T 0)), .row (.slice (some ⟨g29, 0, none⟩) ((post T 0).length) c30) 57 2 ((post T 0).length) (vcells (setsOf (post T 0)))])
          have hc110 := under_ hV O113h li (n : Int) (by omega)
          rw [decide_eq_false c90] at hc110
          refine hc110.mono ?_
          rintro _ w111 ⟨rfl, h112⟩
          have O113 : Own Z0 W w111 [.blk g36 36 #[.slice (some ⟨g34, 0, none⟩) ((post T 0).length) c35], .row (.slice (some ⟨g34, 0, none⟩) ((post T 0).length) c35) 3 1 ((post T 0).length) (intCs (parsOf (post T 0))), .blk g78 38 #[.int .i64 (-1), .int .i64 (-1), .int .i64 v], .row (.slice (some ⟨g15, 0, none⟩) ((post T 0).length) c11) 38 3 ((post T 0).length) (ncells (post T 0)), .row (.slice (some ⟨g29, 0, none⟩) ((post T 0).length) c30) 57 2 ((post T 0).length) (vcells (setsOf (post T 0)))] := Own.frame (A := [.blk g36 36 #[.slice (some ⟨g34, 0, none⟩) ((post T 0).length) c35], .row (.slice (some ⟨g34, 0, none⟩) ((post T 0).length) c35) 3 1 ((post T 0).length) (intCs (parsOf (post T 0)))]) (R := [.blk g78 38 #[.int .i64 (-1), .int .i64 (-1), .int .i64 v], .row (.slice (some ⟨g15, 0, none⟩) ((post T 0).length) c11) 38 3 ((post T 0).length) (ncells (post T 0)), .row (.slice (some ⟨g29, 0, none⟩) ((post T 0).length) c30) 57 2 ((post T 0).length) (vcells (setsOf (post T 0)))]) (O86.re [4, 3, 0, 1, 2] rfl : Own Z0 W w84 [.blk g36 36 #[.slice (some ⟨g34, 0, none⟩) ((post T 0).length) c35], .row (.slice (some ⟨g34, 0, none⟩) ((post T 0).length) c35) 3 1 ((post T 0).length) (intCs (parsOf (post T 0))), .blk g78 38 #[.int .i64 (-1), .int .i64 (-1), .int .i64 v], .row (.slice (some ⟨g15, 0, none⟩) ((post T 0).length) c11) 38 3 ((post T 0).length) (ncells (post T 0)), .row (.slice (some ⟨g29, 0, none⟩) ((post T 0).length) c30) 57 2 ((post T 0).length) (vcells (setsOf (post T 0)))]) h112
          refine ⟨_, rfl, ?_⟩
          refine wl_val (v := .bool false) (fun ρ e => ex_move (e _ _ rfl)) rfl rfl ?_
          refine wl_skip rfl rfl ?_
          refine wl_skip rfl rfl ?_
          refine wl_skip rfl rfl ?_
          refine wl_skip rfl rfl ?_
          refine wl_val (v := .bool false) (fun ρ e => ex_pick0 (e _ _ rfl) (e _ _ rfl)) rfl rfl ?_
          refine wl_val (v := .bool false) (fun ρ e => ex_move (e _ _ rfl)) rfl rfl ?_
          refine wl_skip rfl rfl ?_
          refine wl_skip rfl rfl ?_
          refine wl_skip rfl rfl ?_
          refine wl_skip rfl rfl ?_
          refine wl_skip rfl rfl ?_
          refine wl_val (v := .bool false) (fun ρ e => ex_pick0 (e _ _ rfl) (e _ _ rfl)) rfl rfl ?_
          refine wl_nil ?_
          refine xw_next K89 ?_
          refine cw_false rfl ?_
          refine cw_skip ?_
          refine xw_next K88 ?_
          refine cw_seq (fun FK114 K114 => ?_)
          refine cw_region ?_
          refine wl_val (v := .pointer (some ⟨g78, 2, none⟩)) (fun ρ e => ex_field (q := 2) fi38_2 (e _ _ rfl) rfl) rfl rfl ?_
          refine wl_val (v := .int .i64 v) (fun ρ e => ex_load1 ty3 (e _ _ rfl) (O113.cell 2 2 rfl rfl)) rfl rfl ?_
          refine wl_val (v := .bool false) (fun ρ e => ex_cmp (u := v) (v := 0) (e _ _ rfl) (e _ _ rfl) (eql0 (by omega))) rfl rfl ?_
          refine wl_nil ?_
          refine xw_next K114 ?_
          refine cw_false rfl ?_
          refine cw_skip ?_
          refine xw_block ?_
          refine xw_next K76 ?_
          refine cw_region ?_
          refine wl_val (v := .int .i64 ((n + 1 : Nat) : Int)) (fun ρ e => ex_arith (k := .i64) (u := (n : Int)) (v := 1) (e _ _ rfl) (e _ _ rfl) (congrArg some ((congrArg _ (by omega)).trans (wrap_in (u := ((n + 1 : Nat) : Int)) (by omega) (by omega))))) rfl rfl ?_
          refine wl_val (v := .int .i64 ((n + 1 : Nat) : Int)) (fun ρ e => ex_move (e _ _ rfl)) rfl rfl ?_
          refine wl_nil ?_
          refine xw_round K72 (n + 1) (by show (post T 0).length - (n + 1) < (post T 0).length - n; omega) ⟨(by show n + 1 ≤ (post T 0).length; omega), (O113.re [3, 4, 1, 0] rfl : Own Z0 W w111 [.row (.slice (some ⟨g15, 0, none⟩) ((post T 0).length) c11) 38 3 ((post T 0).length) (ncells (post T 0)), .row (.slice (some ⟨g29, 0, none⟩) ((post T 0).length) c30) 57 2 ((post T 0).length) (vcells (setsOf (post T 0))), .row (.slice (some ⟨g34, 0, none⟩) ((post T 0).length) c35) 3 1 ((post T 0).length) (intCs (parsOf (post T 0))), .blk g36 36 #[.slice (some ⟨g34, 0, none⟩) ((post T 0).length) c35]])⟩ ⟨rfl, rfl, rfl, rfl, rfl, rfl, rfl, rfl, rfl, rfl, trivial⟩
      · skip
        have hx : (post T 0)[n]? = some ⟨(a : Int), (b : Int), 0⟩ := by rw [List.getElem?_eq_getElem hn, hx0]
        obtain ⟨sa, sb, hsa, hsb, hsn, hcut⟩ := sets_node hV hx
        refine cw_seq (fun FK115 K115 => ?_)
        refine cw_region ?_
        refine wl_val (v := .bool true) (fun ρ e => ex_cmp (u := (n : Int)) (v := (((post T 0).length : Nat) : Int)) (e _ _ rfl) (e _ _ rfl) (lss1 (by omega))) rfl rfl ?_
        refine wl_nil ?_
        refine xw_next K115 ?_
        refine cw_seq (fun FK116 K116 => ?_)
        refine cw_true rfl ?_
        refine cw_skip ?_
        refine xw_next K116 ?_
        refine cw_seq (fun FK117 K117 => ?_)
        refine cw_block ?_
        refine cw_seq (fun FK118 K118 => ?_)
        refine cw_region ?_
        refine wl_val (v := .int .i64 (n : Int)) (fun ρ e => ex_move (e _ _ rfl)) rfl rfl ?_
        refine wl_val (v := .pointer (some ⟨g15, n * 3, none⟩)) (fun ρ e => ex_idx (q := n * 3) (i := n) el23 (e _ _ rfl) (e _ _ rfl) (by omega) (by omega)) rfl rfl ?_
        refine wl_val (v := .agg #[.int .i64 (a : Int), .int .i64 (b : Int), .int .i64 0]) (fun ρ e => ex_loadN (vs := [.int .i64 (a : Int), .int .i64 (b : Int), .int .i64 0]) ty38 (e _ _ rfl) rfl (cells3 (rowcell (O73.row 0 rfl) (ncells_get hx).1) (rowcell (O73.row 0 rfl) (ncells_get hx).2.1) (rowcell (O73.row 0 rfl) (ncells_get hx).2.2))) rfl rfl ?_
        obtain ⟨g119, w120, r121, O122, hg123, hs124⟩ := own_alloc O73 38 ze38 rfl
        refine wl_val (v := .pointer (some ⟨g119, 0, none⟩)) (fun ρ e => r121 ρ _ _ _ _ _) rfl rfl ?_
        refine wl_val (v := .int .i64 (n : Int)) (fun ρ e => ex_assign (e _ _ rfl)) rfl rfl ?_
        obtain ⟨w125, r126, O127, hs128⟩ := own_put (o := 0) (n := 3) O122 ty38 (.agg #[.int .i64 (a : Int), .int .i64 (b : Int), .int .i64 0]) [.int .i64 (a : Int), .int .i64 (b : Int), .int .i64 0] (cs' := #[.int .i64 (a : Int), .int .i64 (b : Int), .int .i64 0]) rfl rfl rfl (Nat.le_of_ble_eq_true rfl) rfl
        refine wl_none (fun ρ e => r126 ρ _ _ _ _ _ _ (e _ _ rfl) (e _ _ rfl)) rfl ?_
        refine wl_nil ?_
        refine xw_next K118 ?_
        refine cw_seq (fun FK129 K129 => ?_)
        refine cw_seq (fun FK130 K130 => ?_)
        refine cw_region ?_
        refine wl_val (v := .func (.func 46) #[] #[.pointer (some ⟨g36, 0, none⟩)]) (fun ρ e => ex_move (e _ _ rfl)) rfl rfl ?_
        refine wl_val (v := .int .i64 (i : Int)) (fun ρ e => ex_move (e _ _ rfl)) rfl rfl ?_
        refine wl_val (v := .int .i64 (n : Int)) (fun ρ e => ex_move (e _ _ rfl)) rfl rfl ?_
        by_cases c131 : (n : Int) ∈ (chainOf (post T 0) i)
        · skip
          refine wl_callv (args := [.int .i64 (i : Int), .int .i64 (n : Int)]) (all := [.int .i64 (i : Int), .int .i64 (n : Int), .pointer (some ⟨g36, 0, none⟩)]) in_46 rfl rfl rfl rfl rfl ?_
          have O135h := Own.hand (A := [.blk g36 36 #[.slice (some ⟨g34, 0, none⟩) ((post T 0).length) c35], .row (.slice (some ⟨g34, 0, none⟩) ((post T 0).length) c35) 3 1 ((post T 0).length) (intCs (parsOf (post T 0)))]) (R := [.blk g119 38 #[.int .i64 (a : Int), .int .i64 (b : Int), .int .i64 0], .row (.slice (some ⟨g15, 0, none⟩) ((post T 0).length) c11) 38 3 ((post T 0).length) (ncells (post T 0)), .row (.slice (some ⟨g29, 0, none⟩) ((post T 0).length) c30) 57 2 ((post T 0).length) (vcells (setsOf (post T 0)))]) (O127.re [4, 3, 0, 1, 2] rfl : Own Z0 W w125 [.blk g36 36 #[.slice (some ⟨g34, 0, none⟩) ((post T 0).length) c35], .row (.slice (some ⟨g34, 0, none⟩) ((post T 0).length) c35) 3 1 ((post T 0).length) (intCs (parsOf (post T 0))), .blk g119 38 #[.int .i64 (a : Int), .int .i64 (b : Int), .int .i64 0], .row (.slice (some ⟨g15, 0, none⟩) ((post T 0).length) c11) 38 3 ((post T 0).length) (ncells (post T 0)), .row (.slice (some ⟨g29, 0, none⟩) ((post T 0).length) c30) 57 2 ((post T 0).length) (vcells (setsOf (post T 0)))])
          have hc132 := under_ hV O135h li (n : Int) (by omega)
          rw [decide_eq_true c131] at hc132
          refine hc132.mono ?_
          rintro _ w133 ⟨rfl, h134⟩
          have O135 : Own Z0 W w133 [.blk g36 36 #[.slice (some ⟨g34, 0, none⟩) ((post T 0).length) c35], .row (.slice (some ⟨g34, 0, none⟩) ((post T 0).length) c35) 3 1 ((post T 0).length) (intCs (parsOf (post T 0))), .blk g119 38 #[.int .i64 (a : Int), .int .i64 (b : Int), .int .i64 0], .row (.slice (some ⟨g15, 0, none⟩) ((post T 0).length) c11) 38 3 ((post T 0).length) (ncells (post T 0)), .row (.slice (some ⟨g29, 0, none⟩) ((post T 0).length) c30) 57 2 ((post T 0).length) (vcells (setsOf (post T 0)))] := Own.frame (A := [.blk g36 36 #[.slice (some ⟨g34, 0, none⟩) ((post T 0).length) c35], .row (.slice (some ⟨g34, 0, none⟩) ((post T 0).length) c35) 3 1 ((post T 0).length) (intCs (parsOf (post T 0)))]) (R := [.blk g119 38 #[.int .i64 (a : Int), .int .i64 (b : Int), .int .i64 0], .row (.slice (some ⟨g15, 0, none⟩) ((post T 0).length) c11) 38 3 ((post T 0).length) (ncells (post T 0)), .row (.slice (some ⟨g29, 0, none⟩) ((post T 0).length) c30) 57 2 ((post T 0).length) (vcells (setsOf (post T 0)))]) (O127.re [4, 3, 0, 1, 2] rfl : Own Z0 W w125 [.blk g36 36 #[.slice (some ⟨g34, 0, none⟩) ((post T 0).length) c35], .row (.slice (some ⟨g34, 0, none⟩) ((post T 0).length) c35) 3 1 ((post T 0).length) (intCs (parsOf (post T 0))), .blk g119 38 #[.int .i64 (a : Int), .int .i64 (b : Int), .int .i64 0], .row (.slice (some ⟨g15, 0, none⟩) ((post T 0).length) c11) 38 3 ((post T 0).length) (ncells (post T 0)), .row (.slice (some ⟨g29, 0, none⟩) ((post T 0).length) c30) 57 2 ((post T 0).length) (vcells (setsOf (post T 0)))]) h134
          refine ⟨_, rfl, ?_⟩
          refine wl_val (v := .bool true) (fun ρ e => ex_move (e _ _ rfl)) rfl rfl ?_
          refine wl_val (v := .func (.func 46) #[] #[.pointer (some ⟨g36, 0, none⟩)]) (fun ρ e => ex_move (e _ _ rfl)) rfl rfl ?_
          refine wl_val (v := .int .i64 (k : Int)) (fun ρ e => ex_move (e _ _ rfl)) rfl rfl ?_
          refine wl_val (v := .int .i64 (n : Int)) (fun ρ e => ex_move (e _ _ rfl)) rfl rfl ?_
          by_cases c136 : (n : Int) ∈ (chainOf (post T 0) k)
          · skip
            refine wl_callv (args := [.int .i64 (k : Int), .int .i64 (n : Int)]) (all := [.int .i64 (k : Int), .int .i64 (n : Int), .pointer (some ⟨g36, 0, none⟩)]) in_46 rfl rfl rfl rfl rfl ?_
            have O140h := Own.hand (A := [.blk g36 36 #[.slice (some ⟨g34, 0, none⟩) ((post T 0).length) c35], .row (.slice (some ⟨g34, 0, none⟩) ((post T 0).length) c35) 3 1 ((post T 0).length) (intCs (parsOf (post T 0)))]) (R := [.blk g119 38 #[.int .i64 (a : Int), .int .i64 (b : Int), .int .i64 0], .row (.slice (some ⟨g15, 0, none⟩) ((post T 0).length) c11) 38 3 ((post T 0).length) (ncells (post T 0)), .row (.slice (some ⟨g29, 0, none⟩) ((post T 0).length) c30) 57 2 ((post T 0).length) (vcells (setsOf (post T 0)))]) O135
            have hc137 := under_ hV O140h lk (n : Int) (by omega)
            rw [decide_eq_true c136] at hc137
            refine hc137.mono ?_
            rintro _ w138 ⟨rfl, h139⟩
            have O140 : Own Z0 W w138 [.blk g36 36 #[.slice (some ⟨g34, 0, none⟩) ((post T 0).length) c35], .row (.slice (some ⟨g34, 0, none⟩) ((post T 0).length) c35) 3 1 ((post T 0).length) (intCs (parsOf (post T 0))), .blk g119 38 #[.int .i64 (a : Int), .int .i64 (b : Int), .int .i64 0], .row (.slice (some ⟨g15, 0, none⟩) ((post T 0).length) c11) 38 3 ((post T 0).length) (ncells (post T 0)), .row (.slice (some ⟨g29, 0, none⟩) ((post T 0).length) c30) 57 2 ((post T 0).length) (vcells (setsOf (post T 0)))] := Own.frame (A := [.blk g36 36 #[.slice (some ⟨g34, 0, none⟩) ((post T 0).length) c35], .row (.slice (some ⟨g34, 0, none⟩) ((post T 0).length) c35) 3 1 ((post T 0).length) (intCs (parsOf (post T 0)))]) (R := [.blk g119 38 #[.int .i64 (a : Int), .int .i64 (b : Int), .int .i64 0], .row (.slice (some ⟨g15, 0, none⟩) ((post T 0).length) c11) 38 3 ((post T 0).length) (ncells (post T 0)), .row (.slice (some ⟨g29, 0, none⟩) ((post T 0).length) c30) 57 2 ((post T 0).length) (vcells (setsOf (post T 0)))]) O135 h139
            refine ⟨_, rfl, ?_⟩
            refine wl_val (v := .bool true) (fun ρ e => ex_pick1 (e _ _ rfl) (e _ _ rfl)) rfl rfl ?_
            refine wl_val (v := .bool true) (fun ρ e => ex_move (e _ _ rfl)) rfl rfl ?_
            refine wl_val (v := .func (.func 46) #[] #[.pointer (some ⟨g36, 0, none⟩)]) (fun ρ e => ex_move (e _ _ rfl)) rfl rfl ?_
            refine wl_val (v := .int .i64 (m : Int)) (fun ρ e => ex_move (e _ _ rfl)) rfl rfl ?_
            refine wl_val (v := .int .i64 (n : Int)) (fun ρ e => ex_move (e _ _ rfl)) rfl rfl ?_
            refine wl_callv (args := [.int .i64 (m : Int), .int .i64 (n : Int)]) (all := [.int .i64 (m : Int), .int .i64 (n : Int), .pointer (some ⟨g36, 0, none⟩)]) in_46 rfl rfl rfl rfl rfl ?_
            have O144h := Own.hand (A := [.blk g36 36 #[.slice (some ⟨g34, 0, none⟩) ((post T 0).length) c35], .row (.slice (some ⟨g34, 0, none⟩) ((post T 0).length) c35) 3 1 ((post T 0).length) (intCs (parsOf (post T 0)))]) (R := [.blk g119 38 #[.int .i64 (a : Int), .int .i64 (b : Int), .int .i64 0], .row (.slice (some ⟨g15, 0, none⟩) ((post T 0).length) c11) 38 3 ((post T 0).length) (ncells (post T 0)), .row (.slice (some ⟨g29, 0, none⟩) ((post T 0).length) c30) 57 2 ((post T 0).length) (vcells (setsOf (post T 0)))]) O140
            have hc141 := under_ hV O144h hml (n : Int) (by omega)
            rw [decide_eq_true (hmx _ c131 c136)] at hc141
            refine hc141.mono ?_
            rintro _ w142 ⟨rfl, h143⟩
            have O144 : Own Z0 W w142 [.blk g36 36 #[.slice (some ⟨g34, 0, none⟩) ((post T 0).length) c35], .row (.slice (some ⟨g34, 0, none⟩) ((post T 0).length) c35) 3 1 ((post T 0).length) (intCs (parsOf (post T 0))), .blk g119 38 #[.int .i64 (a : Int), .int .i64 (b : Int), .int .i64 0], .row (.slice (some ⟨g15, 0, none⟩) ((post T 0).length) c11) 38 3 ((post T 0).length) (ncells (post T 0)), .row (.slice (some ⟨g29, 0, none⟩) ((post T 0).length) c30) 57 2 ((post T 0).length) (vcells (setsOf (post T 0)))] := Own.frame (A := [.blk g36 36 #[.slice (some ⟨g34, 0, none⟩) ((post T 0).length) c35], .row (.slice (some ⟨g34, 0, none⟩) ((post T 0).length) c35) 3 1 ((post T 0).length) (intCs (parsOf (post T 0)))]) (R := [.blk g119 38 #[.int .i64 (a : Int), .int .i64 (b : Int), .int .i64 0], .row (.slice (some ⟨g15, 0, none⟩) ((post T 0).length) c11) 38 3 ((post T 0).length) (ncells (post T 0)), .row (.slice (some ⟨g29, 0, none⟩) ((post T 0).length) c30) 57 2 ((post T 0).length) (vcells (setsOf (post T 0)))]) O140 h143
            refine ⟨_, rfl, ?_⟩
            refine wl_val (v := .bool false) (fun ρ e => ex_lnot (b := true) (e _ _ rfl)) rfl rfl ?_
            refine wl_val (v := .bool false) (fun ρ e => ex_pick1 (e _ _ rfl) (e _ _ rfl)) rfl rfl ?_
            refine wl_nil ?_
            refine xw_next K130 ?_
            refine cw_false rfl ?_
            refine cw_skip ?_
            refine xw_next K129 ?_
            refine cw_seq (fun FK145 K145 => ?_)
            refine cw_region ?_
            refine wl_val (v := .pointer (some ⟨g119, 2, none⟩)) (fun ρ e => ex_field (q := 2) fi38_2 (e _ _ rfl) rfl) rfl rfl ?_
            refine wl_val (v := .int .i64 0) (fun ρ e => ex_load1 ty3 (e _ _ rfl) (O144.cell 2 2 rfl rfl)) rfl rfl ?_
            refine wl_val (v := .bool true) (fun ρ e => ex_cmp (u := 0) (v := 0) (e _ _ rfl) (e _ _ rfl) (eql1 rfl)) rfl rfl ?_
            refine wl_nil ?_
            refine xw_next K145 ?_
            refine cw_true rfl ?_
            refine cw_seq (fun FK146 K146 => ?_)
            refine at_start (fuel := 14) (listed := #[false, false, false, false, false, false, false, false, false, false, false, false, false, false]) (fun X => Own Z0 W X [.blk g36 36 #[.slice (some ⟨g34, 0, none⟩) ((post T 0).length) c35], .row (.slice (some ⟨g34, 0, none⟩) ((post T 0).length) c35) 3 1 ((post T 0).length) (intCs (parsOf (post T 0))), .blk g119 38 #[.int .i64 (a : Int), .int .i64 (b : Int), .int .i64 0], .row (.slice (some ⟨g15, 0, none⟩) ((post T 0).length) c11) 38 3 ((post T 0).length) (ncells (post T 0)), .row (.slice (some ⟨g29, 0, none⟩) ((post T 0).length) c30) 57 2 ((post T 0).length) (vcells (setsOf (post T 0)))]) 14 (by kernel_rfl) rfl (by kernel_rfl) (O144).drew ?_
            have O147 : Own Z0 W w142.drew [.blk g36 36 #[.slice (some ⟨g34, 0, none⟩) ((post T 0).length) c35], .row (.slice (some ⟨g34, 0, none⟩) ((post T 0).length) c35) 3 1 ((post T 0).length) (intCs (parsOf (post T 0))), .blk g119 38 #[.int .i64 (a : Int), .int .i64 (b : Int), .int .i64 0], .row (.slice (some ⟨g15, 0, none⟩) ((post T 0).length) c11) 38 3 ((post T 0).length) (ncells (post T 0)), .row (.slice (some ⟨g29, 0, none⟩) ((post T 0).length) c30) 57 2 ((post T 0).length) (vcells (setsOf (post T 0)))] := O144.drew
            refine at_name (fun AT148 hin149 hout150 => ?_)
            have N183 : ∀ (g151 : Nat) (g163 : Nat) (w184 : World), Own Z0 W w184 [.blk g163 57 #[.int .u64 (sb.a.toNat : Int), .int .u64 (sb.b.toNat : Int)], .blk g151 57 #[.int .u64 (sa.a.toNat : Int), .int .u64 (sa.b.toNat : Int)], .blk g36 36 #[.slice (some ⟨g34, 0, none⟩) ((post T 0).length) c35], .row (.slice (some ⟨g34, 0, none⟩) ((post T 0).length) c35) 3 1 ((post T 0).length) (intCs (parsOf (post T 0))), .blk g119 38 #[.int .i64 (a : Int), .int .i64 (b : Int), .int .i64 0], .row (.slice (some ⟨g15, 0, none⟩) ((post T 0).length) c11) 38 3 ((post T 0).length) (ncells (post T 0)), .row (.slice (some ⟨g29, 0, none⟩) ((post T 0).length) c30) 57 2 ((post T 0).length) (vcells (setsOf (post T 0)))] → AT148 0 #[true, true, true, true, true, true, true, true, true, true, true, true, true, true] 167 [(9, .slice (some ⟨g15, 0, none⟩) ((post T 0).length) c11), (10, .int .i64 (i : Int)), (11, .int .i64 (k : Int)), (12, .int .i64 (m : Int)), (13, .slice (some ⟨g29, 0, none⟩) ((post T 0).length) c30), (14, .pointer (some ⟨g36, 0, none⟩)), (15, .func (.func 46) #[] #[.pointer (some ⟨g36, 0, none⟩)]), (98, .slice (some ⟨g15, 0, none⟩) ((post T 0).length) c11), (99, .int .i64 (((post T 0).length : Nat) : Int)), (100, .int .i64 (n : Int)), (101, .bool true), (102, .int .i64 (n : Int)), (103, .pointer (some ⟨g15, n * 3, none⟩)), (104, .agg #[.int .i64 (a : Int), .int .i64 (b : Int), .int .i64 0]), (17, .pointer (some ⟨g119, 0, none⟩)), (16, .int .i64 (n : Int)), (105, .func (.func 46) #[] #[.pointer (some ⟨g36, 0, none⟩)]), (106, .int .i64 (i : Int)), (107, .int .i64 (n : Int)), (108, .bool true), (109, .bool true), (110, .func (.func 46) #[] #[.pointer (some ⟨g36, 0, none⟩)]), (111, .int .i64 (k : Int)), (112, .int .i64 (n : Int)), (113, .bool true), (114, .bool true), (115, .bool true), (116, .func (.func 46) #[] #[.pointer (some ⟨g36, 0, none⟩)]), (117, .int .i64 (m : Int)), (118, .int .i64 (n : Int)), (119, .bool true), (120, .bool false), (121, .bool false), (122, .pointer (some ⟨g119, 2, none⟩)), (123, .int .i64 0), (124, .bool true), (18, .pointer (some ⟨g151, 0, none⟩)), (19, .pointer (some ⟨g163, 0, none⟩))] w184 := by
              intro g151 g163 w184 O185
              refine hin149 _ _ _ _ _ ?_
              refine at_done rfl ?_
              refine xw_next K146 ?_
              refine cw_seq (fun FK186 K186 => ?_)
              refine cw_drawn (fun X => Own Z0 W X [.blk g163 57 #[.int .u64 (sb.a.toNat : Int), .int .u64 (sb.b.toNat : Int)], .blk g151 57 #[.int .u64 (sa.a.toNat : Int), .int .u64 (sa.b.toNat : Int)], .blk g36 36 #[.slice (some ⟨g34, 0, none⟩) ((post T 0).length) c35], .row (.slice (some ⟨g34, 0, none⟩) ((post T 0).length) c35) 3 1 ((post T 0).length) (intCs (parsOf (post T 0))), .blk g119 38 #[.int .i64 (a : Int), .int .i64 (b : Int), .int .i64 0], .row (.slice (some ⟨g15, 0, none⟩) ((post T 0).length) c11) 38 3 ((post T 0).length) (ncells (post T 0)), .row (.slice (some ⟨g29, 0, none⟩) ((post T 0).length) c30) 57 2 ((post T 0).length) (vcells (setsOf (post T 0)))]) 30 [(0, 1), (1, 1), (2, 1), (3, 0), (4, 1), (5, 0), (6, 1), (7, 0), (8, 1), (9, 1), (10, 0), (11, 1), (12, 0), (13, 1), (14, 1), (15, 1), (16, 1), (17, 1), (18, 0), (19, 1), (20, 0), (21, 1), (22, 1), (23, 0), (24, 1), (25, 0), (26, 1), (27, 1), (28, 1), (29, 1)] (by kernel_rfl) (by kernel_rfl) (PQ.then_ (PQ.block (PQ.then_ (PQ.then_ (PQ.block (PQ.then_ PQ.body)))))) (O185).drew ?_
              have O187 : Own Z0 W w184.drew [.blk g163 57 #[.int .u64 (sb.a.toNat : Int), .int .u64 (sb.b.toNat : Int)], .blk g151 57 #[.int .u64 (sa.a.toNat : Int), .int .u64 (sa.b.toNat : Int)], .blk g36 36 #[.slice (some ⟨g34, 0, none⟩) ((post T 0).length) c35], .row (.slice (some ⟨g34, 0, none⟩) ((post T 0).length) c35) 3 1 ((post T 0).length) (intCs (parsOf (post T 0))), .blk g119 38 #[.int .i64 (a : Int), .int .i64 (b : Int), .int .i64 0], .row (.slice (some ⟨g15, 0, none⟩) ((post T 0).length) c11) 38 3 ((post T 0).length) (ncells (post T 0)), .row (.slice (some ⟨g29, 0, none⟩) ((post T 0).length) c30) 57 2 ((post T 0).length) (vcells (setsOf (post T 0)))] := O185.drew
              refine wt1 (v := .slice (some ⟨g29, 0, none⟩) ((post T 0).length) c30) rfl (fun ρ e W => ex_move (e _ _ rfl)) rfl rfl ?_
              refine wt1 (v := .int .i64 (n : Int)) rfl (fun ρ e W => ex_move (e _ _ rfl)) rfl rfl ?_
              refine wt1 (v := .pointer (some ⟨g29, n * 2, none⟩)) rfl (fun ρ e W => ex_idx (q := n * 2) (i := n) el53 (e _ _ rfl) (e _ _ rfl) (by omega) (by omega)) rfl rfl ?_
              refine wt0 (v := .agg #[.int .u64 ((sa.union sb).a.toNat : Int), .int .u64 ((sa.union sb).b.toNat : Int)]) rfl (fun ρ e W hW => ex_loadN (vs := [.int .u64 ((sa.union sb).a.toNat : Int), .int .u64 ((sa.union sb).b.toNat : Int)]) ty57 (e _ _ rfl) rfl (cells2 (rowcell (hW.row 6 rfl) (vcells_get hsn).1) (rowcell (hW.row 6 rfl) (vcells_get hsn).2))) rfl rfl ?_
              refine wt1 (v := .pointer (some ⟨g151, 0, none⟩)) rfl (fun ρ e W => ex_idxA (q := 0) (i := 0) an57 (e _ _ rfl) (e _ _ rfl) (by omega) (by omega)) rfl rfl ?_
              refine wt0 (v := .int .u64 (sa.a.toNat : Int)) rfl (fun ρ e W hW => ex_load1 ty55 (e _ _ rfl) (hW.cell 1 0 rfl rfl)) rfl rfl ?_
              refine wt1 (v := .pointer (some ⟨g163, 0, none⟩)) rfl (fun ρ e W => ex_idxA (q := 0) (i := 0) an57 (e _ _ rfl) (e _ _ rfl) (by omega) (by omega)) rfl rfl ?_
              refine wt0 (v := .int .u64 (sb.a.toNat : Int)) rfl (fun ρ e W hW => ex_load1 ty55 (e _ _ rfl) (hW.cell 0 0 rfl rfl)) rfl rfl ?_
              refine wt1 (v := .int .u64 ((sa.union sb).a.toNat : Int)) rfl (fun ρ e W => ex_or64 (x := sa.a) (y := sb.a) (z := (sa.union sb).a) (e _ _ rfl) (e _ _ rfl) rfl) rfl rfl ?_
              refine wt1 (v := .pointer (some ⟨g151, 1, none⟩)) rfl (fun ρ e W => ex_idxA (q := 1) (i := 1) an57 (e _ _ rfl) (e _ _ rfl) (by omega) (by omega)) rfl rfl ?_
              refine wt0 (v := .int .u64 (sa.b.toNat : Int)) rfl (fun ρ e W hW => ex_load1 ty55 (e _ _ rfl) (hW.cell 1 1 rfl rfl)) rfl rfl ?_
              refine wt1 (v := .pointer (some ⟨g163, 1, none⟩)) rfl (fun ρ e W => ex_idxA (q := 1) (i := 1) an57 (e _ _ rfl) (e _ _ rfl) (by omega) (by omega)) rfl rfl ?_
              refine wt0 (v := .int .u64 (sb.b.toNat : Int)) rfl (fun ρ e W hW => ex_load1 ty55 (e _ _ rfl) (hW.cell 0 1 rfl rfl)) rfl rfl ?_
              refine wt1 (v := .int .u64 ((sa.union sb).b.toNat : Int)) rfl (fun ρ e W => ex_or64 (x := sa.b) (y := sb.b) (z := (sa.union sb).b) (e _ _ rfl) (e _ _ rfl) rfl) rfl rfl ?_
              refine wt1 (v := .agg #[.int .u64 ((sa.union sb).a.toNat : Int), .int .u64 ((sa.union sb).b.toNat : Int)]) rfl (fun ρ e W => ex_buildA (cells := #[.int .u64 ((sa.union sb).a.toNat : Int), .int .u64 ((sa.union sb).b.toNat : Int)]) ar57 (e.parts rfl) rfl) rfl rfl ?_
              refine wt1 (v := .bool false) rfl (fun ρ e W => ex_nesame57 (e _ _ rfl) (e _ _ rfl)) rfl rfl ?_
              refine wt1 (v := .bool false) rfl (fun ρ e W => ex_move (e _ _ rfl)) rfl rfl ?_
              refine wt1 (v := .pointer (some ⟨g151, 0, none⟩)) rfl (fun ρ e W => ex_idxA (q := 0) (i := 0) an57 (e _ _ rfl) (e _ _ rfl) (by omega) (by omega)) rfl rfl ?_
              refine wt0 (v := .int .u64 (sa.a.toNat : Int)) rfl (fun ρ e W hW => ex_load1 ty55 (e _ _ rfl) (hW.cell 1 0 rfl rfl)) rfl rfl ?_
              refine wt1 (v := .pointer (some ⟨g163, 0, none⟩)) rfl (fun ρ e W => ex_idxA (q := 0) (i := 0) an57 (e _ _ rfl) (e _ _ rfl) (by omega) (by omega)) rfl rfl ?_
              refine wt0 (v := .int .u64 (sb.a.toNat : Int)) rfl (fun ρ e W hW => ex_load1 ty55 (e _ _ rfl) (hW.cell 0 0 rfl rfl)) rfl rfl ?_
              refine wt1 (v := .int .u64 0) rfl (fun ρ e W => ex_and0 (x := sa.a) (y := sb.a) (e _ _ rfl) (e _ _ rfl) (congrArg VS.a hcut)) rfl rfl ?_
              refine wt1 (v := .pointer (some ⟨g151, 1, none⟩)) rfl (fun ρ e W => ex_idxA (q := 1) (i := 1) an57 (e _ _ rfl) (e _ _ rfl) (by omega) (by omega)) rfl rfl ?_
              refine wt0 (v := .int .u64 (sa.b.toNat : Int)) rfl (fun ρ e W hW => ex_load1 ty55 (e _ _ rfl) (hW.cell 1 1 rfl rfl)) rfl rfl ?_
              refine wt1 (v := .pointer (some ⟨g163, 1, none⟩)) rfl (fun ρ e W => ex_idxA (q := 1) (i := 1) an57 (e _ _ rfl) (e _ _ rfl) (by omega) (by omega)) rfl rfl ?_
              refine wt0 (v := .int .u64 (sb.b.toNat : Int)) rfl (fun ρ e W hW => ex_load1 ty55 (e _ _ rfl) (hW.cell 0 1 rfl rfl)) rfl rfl ?_
              refine wt1 (v := .int .u64 0) rfl (fun ρ e W => ex_and0 (x := sa.b) (y := sb.b) (e _ _ rfl) (e _ _ rfl) (congrArg VS.b hcut)) rfl rfl ?_
              refine wt1 (v := .int .u64 0) rfl (fun ρ e W => ex_or00 (e _ _ rfl) (e _ _ rfl)) rfl rfl ?_
              refine wt1 (v := .bool false) rfl (fun ρ e W => ex_cmp (u := 0) (v := 0) (e _ _ rfl) (e _ _ rfl) (neq0 rfl)) rfl rfl ?_
              refine wt1 (v := .bool false) rfl (fun ρ e W => ex_pick0 (e _ _ rfl) (e _ _ rfl)) rfl rfl ?_
              refine wt_nil ?_
              refine xw_next K186 ?_
              refine cw_false rfl ?_
              refine cw_skip ?_
              refine xw_block ?_
              refine xw_next K117 ?_
              refine cw_region ?_
              refine wl_val (v := .int .i64 ((n + 1 : Nat) : Int)) (fun ρ e => ex_arith (k := .i64) (u := (n : Int)) (v := 1) (e _ _ rfl) (e _ _ rfl) (congrArg some ((congrArg _ (by omega)).trans (wrap_in (u := ((n + 1 : Nat) : Int)) (by omega) (by omega))))) rfl rfl ?_
              refine wl_val (v := .int .i64 ((n + 1 : Nat) : Int)) (fun ρ e => ex_move (e _ _ rfl)) rfl rfl ?_
              refine wl_nil ?_
              refine xw_round K72 (n + 1) (by show (post T 0).length - (n + 1) < (post T 0).length - n; omega) ⟨(by show n + 1 ≤ (post T 0).length; omega), (O187.re [5, 6, 3, 2] rfl : Own Z0 W w184.drew [.row (.slice (some ⟨g15, 0, none⟩) ((post T 0).length) c11) 38 3 ((post T 0).length) (ncells (post T 0)), .row (.slice (some ⟨g29, 0, none⟩) ((post T 0).length) c30) 57 2 ((post T 0).length) (vcells (setsOf (post T 0))), .row (.slice (some ⟨g34, 0, none⟩) ((post T 0).length) c35) 3 1 ((post T 0).length) (intCs (parsOf (post T 0))), .blk g36 36 #[.slice (some ⟨g34, 0, none⟩) ((post T 0).length) c35]])⟩ ⟨rfl, rfl, rfl, rfl, rfl, rfl, rfl, rfl, rfl, rfl, trivial⟩
            have N188 : ∀ (g151 : Nat) (g163 : Nat) (w189 : World), Own Z0 W w189 [.blk g151 57 #[.int .u64 (sa.a.toNat : Int), .int .u64 (sa.b.toNat : Int)], .blk g163 57 #[.int .u64 0, .int .u64 0], .blk g36 36 #[.slice (some ⟨g34, 0, none⟩) ((post T 0).length) c35], .row (.slice (some ⟨g34, 0, none⟩) ((post T 0).length) c35) 3 1 ((post T 0).length) (intCs (parsOf (post T 0))), .blk g119 38 #[.int .i64 (a : Int), .int .i64 (b : Int), .int .i64 0], .row (.slice (some ⟨g15, 0, none⟩) ((post T 0).length) c11) 38 3 ((post T 0).length) (ncells (post T 0)), .row (.slice (some ⟨g29, 0, none⟩) ((post T 0).length) c30) 57 2 ((post T 0).length) (vcells (setsOf (post T 0)))] → AT148 1 #[true, true, true, true, true, true, true, true, true, true, true, true, true, false] 167 [(9, .slice (some ⟨g15, 0, none⟩) ((post T 0).length) c11), (10, .int .i64 (i : Int)), (11, .int .i64 (k : Int)), (12, .int .i64 (m : Int)), (13, .slice (some ⟨g29, 0, none⟩) ((post T 0).length) c30), (14, .pointer (some ⟨g36, 0, none⟩)), (15, .func (.func 46) #[] #[.pointer (some ⟨g36, 0, none⟩)]), (98, .slice (some ⟨g15, 0, none⟩) ((post T 0).length) c11), (99, .int .i64 (((post T 0).length : Nat) : Int)), (100, .int .i64 (n : Int)), (101, .bool true), (102, .int .i64 (n : Int)), (103, .pointer (some ⟨g15, n * 3, none⟩)), (104, .agg #[.int .i64 (a : Int), .int .i64 (b : Int), .int .i64 0]), (17, .pointer (some ⟨g119, 0, none⟩)), (16, .int .i64 (n : Int)), (105, .func (.func 46) #[] #[.pointer (some ⟨g36, 0, none⟩)]), (106, .int .i64 (i : Int)), (107, .int .i64 (n : Int)), (108, .bool true), (109, .bool true), (110, .func (.func 46) #[] #[.pointer (some ⟨g36, 0, none⟩)]), (111, .int .i64 (k : Int)), (112, .int .i64 (n : Int)), (113, .bool true), (114, .bool true), (115, .bool true), (116, .func (.func 46) #[] #[.pointer (some ⟨g36, 0, none⟩)]), (117, .int .i64 (m : Int)), (118, .int .i64 (n : Int)), (119, .bool true), (120, .bool false), (121, .bool false), (122, .pointer (some ⟨g119, 2, none⟩)), (123, .int .i64 0), (124, .bool true), (134, .agg #[.int .u64 (sb.a.toNat : Int), .int .u64 (sb.b.toNat : Int)]), (18, .pointer (some ⟨g151, 0, none⟩)), (19, .pointer (some ⟨g163, 0, none⟩))] w189 := by
              intro g151 g163 w189 O190
              refine hin149 _ _ _ _ _ ?_
              refine at_branch [13] (by kernel_rfl) ⟨?_, trivial⟩
              · skip
                obtain ⟨w191, r192, O193, hs194⟩ := own_put (o := 0) (n := 2) (O190.re [1, 0, 2, 3, 4, 5, 6] rfl : Own Z0 W w189 [.blk g163 57 #[.int .u64 0, .int .u64 0], .blk g151 57 #[.int .u64 (sa.a.toNat : Int), .int .u64 (sa.b.toNat : Int)], .blk g36 36 #[.slice (some ⟨g34, 0, none⟩) ((post T 0).length) c35], .row (.slice (some ⟨g34, 0, none⟩) ((post T 0).length) c35) 3 1 ((post T 0).length) (intCs (parsOf (post T 0))), .blk g119 38 #[.int .i64 (a : Int), .int .i64 (b : Int), .int .i64 0], .row (.slice (some ⟨g15, 0, none⟩) ((post T 0).length) c11) 38 3 ((post T 0).length) (ncells (post T 0)), .row (.slice (some ⟨g29, 0, none⟩) ((post T 0).length) c30) 57 2 ((post T 0).length) (vcells (setsOf (post T 0)))]) ty57 (.agg #[.int .u64 (sb.a.toNat : Int), .int .u64 (sb.b.toNat : Int)]) [.int .u64 (sb.a.toNat : Int), .int .u64 (sb.b.toNat : Int)] (cs' := #[.int .u64 (sb.a.toNat : Int), .int .u64 (sb.b.toNat : Int)]) rfl rfl rfl (Nat.le_of_ble_eq_true rfl) rfl
                refine stp_none (listed' := #[true, true, true, true, true, true, true, true, true, true, true, true, true, true]) rfl rfl (fun ρ e => r192 ρ _ _ _ _ _ _ (e _ _ rfl) (e _ _ rfl)) rfl (fun _ => (O193.re [2, 3, 4, 5, 6] rfl : Own Z0 W w191 [.blk g36 36 #[.slice (some ⟨g34, 0, none⟩) ((post T 0).length) c35], .row (.slice (some ⟨g34, 0, none⟩) ((post T 0).length) c35) 3 1 ((post T 0).length) (intCs (parsOf (post T 0))), .blk g119 38 #[.int .i64 (a : Int), .int .i64 (b : Int), .int .i64 0], .row (.slice (some ⟨g15, 0, none⟩) ((post T 0).length) c11) 38 3 ((post T 0).length) (ncells (post T 0)), .row (.slice (some ⟨g29, 0, none⟩) ((post T 0).length) c30) 57 2 ((post T 0).length) (vcells (setsOf (post T 0)))])) ?_
                exact at_sub2 (hout150 _ _ _ _ _ (N183 g151 g163 w191 O193)) ⟨rfl, rfl, rfl, rfl, rfl, rfl, rfl, rfl, rfl, rfl, rfl, rfl, rfl, rfl, rfl, rfl, rfl, rfl, rfl, rfl, rfl, rfl, rfl, rfl, rfl, rfl, rfl, rfl, rfl, rfl, rfl, rfl, rfl, rfl, rfl, rfl, rfl, rfl, trivial⟩
            have N195 : ∀ (g151 : Nat) (g163 : Nat) (w196 : World), Own Z0 W w196 [.blk g163 57 #[.int .u64 0, .int .u64 0], .blk g151 57 #[.int .u64 0, .int .u64 0], .blk g36 36 #[.slice (some ⟨g34, 0, none⟩) ((post T 0).length) c35], .row (.slice (some ⟨g34, 0, none⟩) ((post T 0).length) c35) 3 1 ((post T 0).length) (intCs (parsOf (post T 0))), .blk g119 38 #[.int .i64 (a : Int), .int .i64 (b : Int), .int .i64 0], .row (.slice (some ⟨g15, 0, none⟩) ((post T 0).length) c11) 38 3 ((post T 0).length) (ncells (post T 0)), .row (.slice (some ⟨g29, 0, none⟩) ((post T 0).length) c30) 57 2 ((post T 0).length) (vcells (setsOf (post T 0)))] → AT148 2 #[true, true, true, true, true, true, true, true, true, true, true, true, false, false] 167 [(9, .slice (some ⟨g15, 0, none⟩) ((post T 0).length) c11), (10, .int .i64 (i : Int)), (11, .int .i64 (k : Int)), (12, .int .i64 (m : Int)), (13, .slice (some ⟨g29, 0, none⟩) ((post T 0).length) c30), (14, .pointer (some ⟨g36, 0, none⟩)), (15, .func (.func 46) #[] #[.pointer (some ⟨g36, 0, none⟩)]), (98, .slice (some ⟨g15, 0, none⟩) ((post T 0).length) c11), (99, .int .i64 (((post T 0).length : Nat) : Int)), (100, .int .i64 (n : Int)), (101, .bool true), (102, .int .i64 (n : Int)), (103, .pointer (some ⟨g15, n * 3, none⟩)), (104, .agg #[.int .i64 (a : Int), .int .i64 (b : Int), .int .i64 0]), (17, .pointer (some ⟨g119, 0, none⟩)), (16, .int .i64 (n : Int)), (105, .func (.func 46) #[] #[.pointer (some ⟨g36, 0, none⟩)]), (106, .int .i64 (i : Int)), (107, .int .i64 (n : Int)), (108, .bool true), (109, .bool true), (110, .func (.func 46) #[] #[.pointer (some ⟨g36, 0, none⟩)]), (111, .int .i64 (k : Int)), (112, .int .i64 (n : Int)), (113, .bool true), (114, .bool true), (115, .bool true), (116, .func (.func 46) #[] #[.pointer (some ⟨g36, 0, none⟩)]), (117, .int .i64 (m : Int)), (118, .int .i64 (n : Int)), (119, .bool true), (120, .bool false), (121, .bool false), (122, .pointer (some ⟨g119, 2, none⟩)), (123, .int .i64 0), (124, .bool true), (129, .agg #[.int .u64 (sa.a.toNat : Int), .int .u64 (sa.b.toNat : Int)]), (134, .agg #[.int .u64 (sb.a.toNat : Int), .int .u64 (sb.b.toNat : Int)]), (18, .pointer (some ⟨g151, 0, none⟩)), (19, .pointer (some ⟨g163, 0, none⟩))] w196 := by
              intro g151 g163 w196 O197
              refine hin149 _ _ _ _ _ ?_
              refine at_branch [12] (by kernel_rfl) ⟨?_, trivial⟩
              · skip
                obtain ⟨w198, r199, O200, hs201⟩ := own_put (o := 0) (n := 2) (O197.re [1, 0, 2, 3, 4, 5, 6] rfl : Own Z0 W w196 [.blk g151 57 #[.int .u64 0, .int .u64 0], .blk g163 57 #[.int .u64 0, .int .u64 0], .blk g36 36 #[.slice (some ⟨g34, 0, none⟩) ((post T 0).length) c35], .row (.slice (some ⟨g34, 0, none⟩) ((post T 0).length) c35) 3 1 ((post T 0).length) (intCs (parsOf (post T 0))), .blk g119 38 #[.int .i64 (a : Int), .int .i64 (b : Int), .int .i64 0], .row (.slice (some ⟨g15, 0, none⟩) ((post T 0).length) c11) 38 3 ((post T 0).length) (ncells (post T 0)), .row (.slice (some ⟨g29, 0, none⟩) ((post T 0).length) c30) 57 2 ((post T 0).length) (vcells (setsOf (post T 0)))]) ty57 (.agg #[.int .u64 (sa.a.toNat : Int), .int .u64 (sa.b.toNat : Int)]) [.int .u64 (sa.a.toNat : Int), .int .u64 (sa.b.toNat : Int)] (cs' := #[.int .u64 (sa.a.toNat : Int), .int .u64 (sa.b.toNat : Int)]) rfl rfl rfl (Nat.le_of_ble_eq_true rfl) rfl
                refine stp_none (listed' := #[true, true, true, true, true, true, true, true, true, true, true, true, true, false]) rfl rfl (fun ρ e => r199 ρ _ _ _ _ _ _ (e _ _ rfl) (e _ _ rfl)) rfl (fun _ => (O200.re [2, 3, 4, 5, 6] rfl : Own Z0 W w198 [.blk g36 36 #[.slice (some ⟨g34, 0, none⟩) ((post T 0).length) c35], .row (.slice (some ⟨g34, 0, none⟩) ((post T 0).length) c35) 3 1 ((post T 0).length) (intCs (parsOf (post T 0))), .blk g119 38 #[.int .i64 (a : Int), .int .i64 (b : Int), .int .i64 0], .row (.slice (some ⟨g15, 0, none⟩) ((post T 0).length) c11) 38 3 ((post T 0).length) (ncells (post T 0)), .row (.slice (some ⟨g29, 0, none⟩) ((post T 0).length) c30) 57 2 ((post T 0).length) (vcells (setsOf (post T 0)))])) ?_
                exact at_sub2 (hout150 _ _ _ _ _ (N188 g151 g163 w198 O200)) ⟨rfl, rfl, rfl, rfl, rfl, rfl, rfl, rfl, rfl, rfl, rfl, rfl, rfl, rfl, rfl, rfl, rfl, rfl, rfl, rfl, rfl, rfl, rfl, rfl, rfl, rfl, rfl, rfl, rfl, rfl, rfl, rfl, rfl, rfl, rfl, rfl, rfl, rfl, rfl, trivial⟩
            have N202 : ∀ (g157 : Nat) (w203 : World), Own Z0 W w203 [.blk g157 57 #[.int .u64 0, .int .u64 0], .blk g36 36 #[.slice (some ⟨g34, 0, none⟩) ((post T 0).length) c35], .row (.slice (some ⟨g34, 0, none⟩) ((post T 0).length) c35) 3 1 ((post T 0).length) (intCs (parsOf (post T 0))), .blk g119 38 #[.int .i64 (a : Int), .int .i64 (b : Int), .int .i64 0], .row (.slice (some ⟨g15, 0, none⟩) ((post T 0).length) c11) 38 3 ((post T 0).length) (ncells (post T 0)), .row (.slice (some ⟨g29, 0, none⟩) ((post T 0).length) c30) 57 2 ((post T 0).length) (vcells (setsOf (post T 0)))] → AT148 3 #[true, true, true, true, true, true, true, true, true, true, false, true, false, false] 167 [(9, .slice (some ⟨g15, 0, none⟩) ((post T 0).length) c11), (10, .int .i64 (i : Int)), (11, .int .i64 (k : Int)), (12, .int .i64 (m : Int)), (13, .slice (some ⟨g29, 0, none⟩) ((post T 0).length) c30), (14, .pointer (some ⟨g36, 0, none⟩)), (15, .func (.func 46) #[] #[.pointer (some ⟨g36, 0, none⟩)]), (98, .slice (some ⟨g15, 0, none⟩) ((post T 0).length) c11), (99, .int .i64 (((post T 0).length : Nat) : Int)), (100, .int .i64 (n : Int)), (101, .bool true), (102, .int .i64 (n : Int)), (103, .pointer (some ⟨g15, n * 3, none⟩)), (104, .agg #[.int .i64 (a : Int), .int .i64 (b : Int), .int .i64 0]), (17, .pointer (some ⟨g119, 0, none⟩)), (16, .int .i64 (n : Int)), (105, .func (.func 46) #[] #[.pointer (some ⟨g36, 0, none⟩)]), (106, .int .i64 (i : Int)), (107, .int .i64 (n : Int)), (108, .bool true), (109, .bool true), (110, .func (.func 46) #[] #[.pointer (some ⟨g36, 0, none⟩)]), (111, .int .i64 (k : Int)), (112, .int .i64 (n : Int)), (113, .bool true), (114, .bool true), (115, .bool true), (116, .func (.func 46) #[] #[.pointer (some ⟨g36, 0, none⟩)]), (117, .int .i64 (m : Int)), (118, .int .i64 (n : Int)), (119, .bool true), (120, .bool false), (121, .bool false), (122, .pointer (some ⟨g119, 2, none⟩)), (123, .int .i64 0), (124, .bool true), (129, .agg #[.int .u64 (sa.a.toNat : Int), .int .u64 (sa.b.toNat : Int)]), (134, .agg #[.int .u64 (sb.a.toNat : Int), .int .u64 (sb.b.toNat : Int)]), (19, .pointer (some ⟨g157, 0, none⟩))] w203 := by
              intro g157 w203 O204
              refine hin149 _ _ _ _ _ ?_
              refine at_branch [10] (by kernel_rfl) ⟨?_, trivial⟩
              · skip
                obtain ⟨g205, w206, r207, O208, hg209, hs210⟩ := own_alloc O204 57 ze57 rfl
                refine stp_val (v := .pointer (some ⟨g205, 0, none⟩)) (listed' := #[true, true, true, true, true, true, true, true, true, true, true, true, false, false]) rfl rfl (fun ρ e => r207 ρ _ _ _ _ _) rfl rfl (fun _ => (O208.re [2, 3, 4, 5, 6] rfl : Own Z0 W w206 [.blk g36 36 #[.slice (some ⟨g34, 0, none⟩) ((post T 0).length) c35], .row (.slice (some ⟨g34, 0, none⟩) ((post T 0).length) c35) 3 1 ((post T 0).length) (intCs (parsOf (post T 0))), .blk g119 38 #[.int .i64 (a : Int), .int .i64 (b : Int), .int .i64 0], .row (.slice (some ⟨g15, 0, none⟩) ((post T 0).length) c11) 38 3 ((post T 0).length) (ncells (post T 0)), .row (.slice (some ⟨g29, 0, none⟩) ((post T 0).length) c30) 57 2 ((post T 0).length) (vcells (setsOf (post T 0)))])) ?_
                exact at_sub2 (hout150 _ _ _ _ _ (N195 g205 g157 w206 (O208.re [1, 0, 2, 3, 4, 5, 6] rfl : Own Z0 W w206 [.blk g157 57 #[.int .u64 0, .int .u64 0], .blk g205 57 #[.int .u64 0, .int .u64 0], .blk g36 36 #[.slice (some ⟨g34, 0, none⟩) ((post T 0).length) c35], .row (.slice (some ⟨g34, 0, none⟩) ((post T 0).length) c35) 3 1 ((post T 0).length) (intCs (parsOf (post T 0))), .blk g119 38 #[.int .i64 (a : Int), .int .i64 (b : Int), .int .i64 0], .row (.slice (some ⟨g15, 0, none⟩) ((post T 0).length) c11) 38 3 ((post T 0).length) (ncells (post T 0)), .row (.slice (some ⟨g29, 0, none⟩) ((post T 0).length) c30) 57 2 ((post T 0).length) (vcells (setsOf (post T 0)))]))) ⟨rfl, rfl, rfl, rfl, rfl, rfl, rfl, rfl, rfl, rfl, rfl, rfl, rfl, rfl, rfl, rfl, rfl, rfl, rfl, rfl, rfl, rfl, rfl, rfl, rfl, rfl, rfl, rfl, rfl, rfl, rfl, rfl, rfl, rfl, rfl, rfl, rfl, rfl, rfl, rfl, trivial⟩
            have N211 : ∀ (g151 : Nat) (w212 : World), Own Z0 W w212 [.blk g151 57 #[.int .u64 0, .int .u64 0], .blk g36 36 #[.slice (some ⟨g34, 0, none⟩) ((post T 0).length) c35], .row (.slice (some ⟨g34, 0, none⟩) ((post T 0).length) c35) 3 1 ((post T 0).length) (intCs (parsOf (post T 0))), .blk g119 38 #[.int .i64 (a : Int), .int .i64 (b : Int), .int .i64 0], .row (.slice (some ⟨g15, 0, none⟩) ((post T 0).length) c11) 38 3 ((post T 0).length) (ncells (post T 0)), .row (.slice (some ⟨g29, 0, none⟩) ((post T 0).length) c30) 57 2 ((post T 0).length) (vcells (setsOf (post T 0)))] → AT148 3 #[true, true, true, true, true, true, true, true, true, true, true, false, false, false] 167 [(9, .slice (some ⟨g15, 0, none⟩) ((post T 0).length) c11), (10, .int .i64 (i : Int)), (11, .int .i64 (k : Int)), (12, .int .i64 (m : Int)), (13, .slice (some ⟨g29, 0, none⟩) ((post T 0).length) c30), (14, .pointer (some ⟨g36, 0, none⟩)), (15, .func (.func 46) #[] #[.pointer (some ⟨g36, 0, none⟩)]), (98, .slice (some ⟨g15, 0, none⟩) ((post T 0).length) c11), (99, .int .i64 (((post T 0).length : Nat) : Int)), (100, .int .i64 (n : Int)), (101, .bool true), (102, .int .i64 (n : Int)), (103, .pointer (some ⟨g15, n * 3, none⟩)), (104, .agg #[.int .i64 (a : Int), .int .i64 (b : Int), .int .i64 0]), (17, .pointer (some ⟨g119, 0, none⟩)), (16, .int .i64 (n : Int)), (105, .func (.func 46) #[] #[.pointer (some ⟨g36, 0, none⟩)]), (106, .int .i64 (i : Int)), (107, .int .i64 (n : Int)), (108, .bool true), (109, .bool true), (110, .func (.func 46) #[] #[.pointer (some ⟨g36, 0, none⟩)]), (111, .int .i64 (k : Int)), (112, .int .i64 (n : Int)), (113, .bool true), (114, .bool true), (115, .bool true), (116, .func (.func 46) #[] #[.pointer (some ⟨g36, 0, none⟩)]), (117, .int .i64 (m : Int)), (118, .int .i64 (n : Int)), (119, .bool true), (120, .bool false), (121, .bool false), (122, .pointer (some ⟨g119, 2, none⟩)), (123, .int .i64 0), (124, .bool true), (129, .agg #[.int .u64 (sa.a.toNat : Int), .int .u64 (sa.b.toNat : Int)]), (134, .agg #[.int .u64 (sb.a.toNat : Int), .int .u64 (sb.b.toNat : Int)]), (18, .pointer (some ⟨g151, 0, none⟩))] w212 := by
              intro g151 w212 O213
              refine hin149 _ _ _ _ _ ?_
              refine at_branch [11] (by kernel_rfl) ⟨?_, trivial⟩
              · skip
                obtain ⟨g214, w215, r216, O217, hg218, hs219⟩ := own_alloc O213 57 ze57 rfl
                refine stp_val (v := .pointer (some ⟨g214, 0, none⟩)) (listed' := #[true, true, true, true, true, true, true, true, true, true, true, true, false, false]) rfl rfl (fun ρ e => r216 ρ _ _ _ _ _) rfl rfl (fun _ => (O217.re [2, 3, 4, 5, 6] rfl : Own Z0 W w215 [.blk g36 36 #[.slice (some ⟨g34, 0, none⟩) ((post T 0).length) c35], .row (.slice (some ⟨g34, 0, none⟩) ((post T 0).length) c35) 3 1 ((post T 0).length) (intCs (parsOf (post T 0))), .blk g119 38 #[.int .i64 (a : Int), .int .i64 (b : Int), .int .i64 0], .row (.slice (some ⟨g15, 0, none⟩) ((post T 0).length) c11) 38 3 ((post T 0).length) (ncells (post T 0)), .row (.slice (some ⟨g29, 0, none⟩) ((post T 0).length) c30) 57 2 ((post T 0).length) (vcells (setsOf (post T 0)))])) ?_
                exact at_sub2 (hout150 _ _ _ _ _ (N195 g151 g214 w215 O217)) ⟨rfl, rfl, rfl, rfl, rfl, rfl, rfl, rfl, rfl, rfl, rfl, rfl, rfl, rfl, rfl, rfl, rfl, rfl, rfl, rfl, rfl, rfl, rfl, rfl, rfl, rfl, rfl, rfl, rfl, rfl, rfl, rfl, rfl, rfl, rfl, rfl, rfl, rfl, rfl, rfl, trivial⟩
            refine hin149 _ _ _ _ _ ?_
            refine at_take1 (v := .slice (some ⟨g29, 0, none⟩) ((post T 0).length) c30) (i := 0) (listed' := #[true, false, false, false, false, false, false, false, false, false, false, false, false, false]) rfl (by kernel_rfl) (PQ.then_ (PQ.block (PQ.then_ (PQ.then_ (PQ.block (PQ.then_ PQ.body)))))) (fun _ => O147) (fun ρ e W => ex_move (e _ _ rfl)) rfl rfl ?_
            refine at_take1 (v := .pointer (some ⟨g119, 0, none⟩)) (i := 1) (listed' := #[true, true, false, false, false, false, false, false, false, false, false, false, false, false]) rfl (by kernel_rfl) (PQ.then_ (PQ.block (PQ.then_ (PQ.then_ (PQ.block (PQ.then_ PQ.body)))))) (fun _ => O147) (fun ρ e W => ex_field (q := 0) fi38_0 (e _ _ rfl) rfl) rfl rfl ?_
            refine at_take0 (v := .int .i64 (a : Int)) (i := 2) (listed' := #[true, true, true, false, false, false, false, false, false, false, false, false, false, false]) rfl (by kernel_rfl) (PQ.then_ (PQ.block (PQ.then_ (PQ.then_ (PQ.block (PQ.then_ PQ.body)))))) O147 (fun ρ e W hW => ex_load1 ty3 (e _ _ rfl) (hW.cell 2 0 rfl rfl)) rfl rfl ?_
            refine at_take1 (v := .pointer (some ⟨g29, a * 2, none⟩)) (i := 3) (listed' := #[true, true, true, true, false, false, false, false, false, false, false, false, false, false]) rfl (by kernel_rfl) (PQ.then_ (PQ.block (PQ.then_ (PQ.then_ (PQ.block (PQ.then_ PQ.body)))))) (fun _ => O147) (fun ρ e W => ex_idx (q := a * 2) (i := a) el53 (e _ _ rfl) (e _ _ rfl) (by omega) (by omega)) rfl rfl ?_
            refine at_take0 (v := .agg #[.int .u64 (sa.a.toNat : Int), .int .u64 (sa.b.toNat : Int)]) (i := 4) (listed' := #[true, true, true, true, true, false, false, false, false, false, false, false, false, false]) rfl (by kernel_rfl) (PQ.then_ (PQ.block (PQ.then_ (PQ.then_ (PQ.block (PQ.then_ PQ.body)))))) O147 (fun ρ e W hW => ex_loadN (vs := [.int .u64 (sa.a.toNat : Int), .int .u64 (sa.b.toNat : Int)]) ty57 (e _ _ rfl) rfl (cells2 (rowcell (hW.row 4 rfl) (vcells_get hsa).1) (rowcell (hW.row 4 rfl) (vcells_get hsa).2))) rfl rfl ?_
            refine at_take1 (v := .slice (some ⟨g29, 0, none⟩) ((post T 0).length) c30) (i := 5) (listed' := #[true, true, true, true, true, true, false, false, false, false, false, false, false, false]) rfl (by kernel_rfl) (PQ.then_ (PQ.block (PQ.then_ (PQ.then_ (PQ.block (PQ.then_ PQ.body)))))) (fun _ => O147) (fun ρ e W => ex_move (e _ _ rfl)) rfl rfl ?_
            refine at_take1 (v := .pointer (some ⟨g119, 1, none⟩)) (i := 6) (listed' := #[true, true, true, true, true, true, true, false, false, false, false, false, false, false]) rfl (by kernel_rfl) (PQ.then_ (PQ.block (PQ.then_ (PQ.then_ (PQ.block (PQ.then_ PQ.body)))))) (fun _ => O147) (fun ρ e W => ex_field (q := 1) fi38_1 (e _ _ rfl) rfl) rfl rfl ?_
            refine at_take0 (v := .int .i64 (b : Int)) (i := 7) (listed' := #[true, true, true, true, true, true, true, true, false, false, false, false, false, false]) rfl (by kernel_rfl) (PQ.then_ (PQ.block (PQ.then_ (PQ.then_ (PQ.block (PQ.then_ PQ.body)))))) O147 (fun ρ e W hW => ex_load1 ty3 (e _ _ rfl) (hW.cell 2 1 rfl rfl)) rfl rfl ?_
            refine at_take1 (v := .pointer (some ⟨g29, b * 2, none⟩)) (i := 8) (listed' := #[true, true, true, true, true, true, true, true, true, false, false, false, false, false]) rfl (by kernel_rfl) (PQ.then_ (PQ.block (PQ.then_ (PQ.then_ (PQ.block (PQ.then_ PQ.body)))))) (fun _ => O147) (fun ρ e W => ex_idx (q := b * 2) (i := b) el53 (e _ _ rfl) (e _ _ rfl) (by omega) (by omega)) rfl rfl ?_
            refine at_take0 (v := .agg #[.int .u64 (sb.a.toNat : Int), .int .u64 (sb.b.toNat : Int)]) (i := 9) (listed' := #[true, true, true, true, true, true, true, true, true, true, false, false, false, false]) rfl (by kernel_rfl) (PQ.then_ (PQ.block (PQ.then_ (PQ.then_ (PQ.block (PQ.then_ PQ.body)))))) O147 (fun ρ e W hW => ex_loadN (vs := [.int .u64 (sb.a.toNat : Int), .int .u64 (sb.b.toNat : Int)]) ty57 (e _ _ rfl) rfl (cells2 (rowcell (hW.row 4 rfl) (vcells_get hsb).1) (rowcell (hW.row 4 rfl) (vcells_get hsb).2))) rfl rfl ?_
            refine at_branch [10, 11] (by kernel_rfl) ⟨?_, ?_, trivial⟩
            · skip
              obtain ⟨g220, w221, r222, O223, hg224, hs225⟩ := own_alloc O147 57 ze57 rfl
              refine stp_val (v := .pointer (some ⟨g220, 0, none⟩)) (listed' := #[true, true, true, true, true, true, true, true, true, true, true, false, false, false]) rfl rfl (fun ρ e => r222 ρ _ _ _ _ _) rfl rfl (fun _ => (O223.re [1, 2, 3, 4, 5] rfl : Own Z0 W w221 [.blk g36 36 #[.slice (some ⟨g34, 0, none⟩) ((post T 0).length) c35], .row (.slice (some ⟨g34, 0, none⟩) ((post T 0).length) c35) 3 1 ((post T 0).length) (intCs (parsOf (post T 0))), .blk g119 38 #[.int .i64 (a : Int), .int .i64 (b : Int), .int .i64 0], .row (.slice (some ⟨g15, 0, none⟩) ((post T 0).length) c11) 38 3 ((post T 0).length) (ncells (post T 0)), .row (.slice (some ⟨g29, 0, none⟩) ((post T 0).length) c30) 57 2 ((post T 0).length) (vcells (setsOf (post T 0)))])) ?_
              exact at_sub2 (hout150 _ _ _ _ _ (N211 g220 w221 O223)) ⟨rfl, rfl, rfl, rfl, rfl, rfl, rfl, rfl, rfl, rfl, rfl, rfl, rfl, rfl, rfl, rfl, rfl, rfl, rfl, rfl, rfl, rfl, rfl, rfl, rfl, rfl, rfl, rfl, rfl, rfl, rfl, rfl, rfl, rfl, rfl, rfl, rfl, rfl, rfl, trivial⟩
            · skip
              obtain ⟨g226, w227, r228, O229, hg230, hs231⟩ := own_alloc O147 57 ze57 rfl
              refine stp_val (v := .pointer (some ⟨g226, 0, none⟩)) (listed' := #[true, true, true, true, true, true, true, true, true, true, false, true, false, false]) rfl rfl (fun ρ e => r228 ρ _ _ _ _ _) rfl rfl (fun _ => (O229.re [1, 2, 3, 4, 5] rfl : Own Z0 W w227 [.blk g36 36 #[.slice (some ⟨g34, 0, none⟩) ((post T 0).length) c35], .row (.slice (some ⟨g34, 0, none⟩) ((post T 0).length) c35) 3 1 ((post T 0).length) (intCs (parsOf (post T 0))), .blk g119 38 #[.int .i64 (a : Int), .int .i64 (b : Int), .int .i64 0], .row (.slice (some ⟨g15, 0, none⟩) ((post T 0).length) c11) 38 3 ((post T 0).length) (ncells (post T 0)), .row (.slice (some ⟨g29, 0, none⟩) ((post T 0).length) c30) 57 2 ((post T 0).length) (vcells (setsOf (post T 0)))])) ?_
              exact at_sub2 (hout150 _ _ _ _ _ (N202 g226 w227 O229)) ⟨rfl, rfl, rfl, rfl, rfl, rfl, rfl, rfl, rfl, rfl, rfl, rfl, rfl, rfl, rfl, rfl, rfl, rfl, rfl, rfl, rfl, rfl, rfl, rfl, rfl, rfl, rfl, rfl, rfl, rfl, rfl, rfl, rfl, rfl, rfl, rfl, rfl, rfl, rfl, trivial⟩
          · skip
            refine wl_callv (args := [.int .i64 (k : Int), .int .i64 (n : Int)]) (all := [.int .i64 (k : Int), .int .i64 (n : Int), .pointer (some ⟨g36, 0, none⟩)]) in_46 rfl rfl rfl rfl rfl ?_
            have O235h := Own.hand (A := [.blk g36 36 #[.slice (some ⟨g34, 0, none⟩) ((post T 0).length) c35], .row (.slice (some ⟨g34, 0, none⟩) ((post T 0).length) c35) 3 1 ((post T 0).length) (intCs (parsOf (post T 0)))]) (R := [.blk g119 38 #[.int .i64 (a : Int), .int .i64 (b : Int), .int .i64 0], .row (.slice (some ⟨g15, 0, none⟩) ((post T 0).length) c11) 38 3 ((post T 0).length) (ncells (post T 0)), .row (.slice (some ⟨g29, 0, none⟩) ((post T 0).length) c30) 57 2 ((post T 0).length) (vcells (setsOf (post T 0)))]) O135
            have hc232 := under_ hV O235h lk (n : Int) (by omega)
            rw [decide_eq_false c136] at hc232
            refine hc232.mono ?_
            rintro _ w233 ⟨rfl, h234⟩
            have O235 : Own Z0 W w233 [.blk g36 36 #[.slice (some ⟨g34, 0, none⟩) ((post T 0).length) c35], .row (.slice (some ⟨g34, 0, none⟩) ((post T 0).length) c35) 3 1 ((post T 0).length) (intCs (parsOf (post T 0))), .blk g119 38 #[.int .i64 (a : Int), .int .i64 (b : Int), .int .i64 0], .row (.slice (some ⟨g15, 0, none⟩) ((post T 0).length) c11) 38 3 ((post T 0).length) (ncells (post T 0)), .row (.slice (some ⟨g29, 0, none⟩) ((post T 0).length) c30) 57 2 ((post T 0).length) (vcells (setsOf (post T 0)))] := Own.frame (A := [.blk g36 36 #[.slice (some ⟨g34, 0, none⟩) ((post T 0).length) c35], .row (.slice (some ⟨g34, 0, none⟩) ((post T 0).length) c35) 3 1 ((post T 0).length) (intCs (parsOf (post T 0)))]) (R := [.blk g119 38 #[.int .i64 (a : Int), .int .i64 (b : Int), .int .i64 0], .row (.slice (some ⟨g15, 0, none⟩) ((post T 0).length) c11) 38 3 ((post T 0).length) (ncells (post T 0)), .row (.slice (some ⟨g29, 0, none⟩) ((post T 0).length) c30) 57 2 ((post T 0).length) (vcells (setsOf (post T 0)))]) O135 h234
            refine ⟨_, rfl, ?_⟩
            refine wl_val (v := .bool false) (fun ρ e => ex_pick1 (e _ _ rfl) (e _ _ rfl)) rfl rfl ?_
            refine wl_val (v := .bool false) (fun ρ e => ex_move (e _ _ rfl)) rfl rfl ?_
            refine wl_skip rfl rfl ?_
            refine wl_skip rfl rfl ?_
            refine wl_skip rfl rfl ?_
            refine wl_skip rfl rfl ?_
            refine wl_skip rfl rfl ?_
            refine wl_val (v := .bool false) (fun ρ e => ex_pick0 (e _ _ rfl) (e _ _ rfl)) rfl rfl ?_
            refine wl_nil ?_
            refine xw_next K130 ?_
            refine cw_false rfl ?_
            refine cw_skip ?_
            refine xw_next K129 ?_
            refine cw_seq (fun FK236 K236 => ?_)
            refine cw_region ?_
            refine wl_val (v := .pointer (some ⟨g119, 2, none⟩)) (fun ρ e => ex_field (q := 2) fi38_2 (e _ _ rfl) rfl) rfl rfl ?_
            refine wl_val (v := .int .i64 0) (fun ρ e => ex_load1 ty3 (e _ _ rfl) (O235.cell 2 2 rfl rfl)) rfl rfl ?_
            refine wl_val (v := .bool true) (fun ρ e => ex_cmp (u := 0) (v := 0) (e _ _ rfl) (e _ _ rfl) (eql1 rfl)) rfl rfl ?_
            refine wl_nil ?_
            refine xw_next K236 ?_
            refine cw_true rfl ?_
            refine cw_seq (fun FK237 K237 => ?_)
            refine at_start (fuel := 14) (listed := #[false, false, false, false, false, false, false, false, false, false, false, false, false, false]) (fun X => Own Z0 W X [.blk g36 36 #[.slice (some ⟨g34, 0, none⟩) ((post T 0).length) c35], .row (.slice (some ⟨g34, 0, none⟩) ((post T 0).length) c35) 3 1 ((post T 0).length) (intCs (parsOf (post T 0))), .blk g119 38 #[.int .i64 (a : Int), .int .i64 (b : Int), .int .i64 0], .row (.slice (some ⟨g15, 0, none⟩) ((post T 0).length) c11) 38 3 ((post T 0).length) (ncells (post T 0)), .row (.slice (some ⟨g29, 0, none⟩) ((post T 0).length) c30) 57 2 ((post T 0).length) (vcells (setsOf (post T 0)))]) 14 (by kernel_rfl) rfl (by kernel_rfl) (O235).drew ?_
            have O238 : Own Z0 W w233.drew [.blk g36 36 #[.slice (some ⟨g34, 0, none⟩) ((post T 0).length) c35], .row (.slice (some ⟨g34, 0, none⟩) ((post T 0).length) c35) 3 1 ((post T 0).length) (intCs (parsOf (post T 0))), .blk g119 38 #[.int .i64 (a : Int), .int .i64 (b : Int), .int .i64 0], .row (.slice (some ⟨g15, 0, none⟩) ((post T 0).length) c11) 38 3 ((post T 0).length) (ncells (post T 0)), .row (.slice (some ⟨g29, 0, none⟩) ((post T 0).length) c30) 57 2 ((post T 0).length) (vcells (setsOf (post T 0)))] := O235.drew
            refine at_name (fun AT239 hin240 hout241 => ?_)
            have N274 : ∀ (g242 : Nat) (g254 : Nat) (w275 : World), Own Z0 W w275 [.blk g254 57 #[.int .u64 (sb.a.toNat : Int), .int .u64 (sb.b.toNat : Int)], .blk g242 57 #[.int .u64 (sa.a.toNat : Int), .int .u64 (sa.b.toNat : Int)], .blk g36 36 #[.slice (some ⟨g34, 0, none⟩) ((post T 0).length) c35], .row (.slice (some ⟨g34, 0, none⟩) ((post T 0).length) c35) 3 1 ((post T 0).length) (intCs (parsOf (post T 0))), .blk g119 38 #[.int .i64 (a : Int), .int .i64 (b : Int), .int .i64 0], .row (.slice (some ⟨g15, 0, none⟩) ((post T 0).length) c11) 38 3 ((post T 0).length) (ncells (post T 0)), .row (.slice (some ⟨g29, 0, none⟩) ((post T 0).length) c30) 57 2 ((post T 0).length) (vcells (setsOf (post T 0)))] → AT239 0 #[true, true, true, true, true, true, true, true, true, true, true, true, true, true] 167 [(9, .slice (some ⟨g15, 0, none⟩) ((post T 0).length) c11), (10, .int .i64 (i : Int)), (11, .int .i64 (k : Int)), (12, .int .i64 (m : Int)), (13, .slice (some ⟨g29, 0, none⟩) ((post T 0).length) c30), (14, .pointer (some ⟨g36, 0, none⟩)), (15, .func (.func 46) #[] #[.pointer (some ⟨g36, 0, none⟩)]), (98, .slice (some ⟨g15, 0, none⟩) ((post T 0).length) c11), (99, .int .i64 (((post T 0).length : Nat) : Int)), (100, .int .i64 (n : Int)), (101, .bool true), (102, .int .i64 (n : Int)), (103, .pointer (some ⟨g15, n * 3, none⟩)), (104, .agg #[.int .i64 (a : Int), .int .i64 (b : Int), .int .i64 0]), (17, .pointer (some ⟨g119, 0, none⟩)), (16, .int .i64 (n : Int)), (105, .func (.func 46) #[] #[.pointer (some ⟨g36, 0, none⟩)]), (106, .int .i64 (i : Int)), (107, .int .i64 (n : Int)), (108, .bool true), (109, .bool true), (110, .func (.func 46) #[] #[.pointer (some ⟨g36, 0, none⟩)]), (111, .int .i64 (k : Int)), (112, .int .i64 (n : Int)), (113, .bool false), (114, .bool false), (115, .bool false), (116, undef), (117, undef), (118, undef), (119, undef), (120, undef), (121, .bool false), (122, .pointer (some ⟨g119, 2, none⟩)), (123, .int .i64 0), (124, .bool true), (18, .pointer (some ⟨g242, 0, none⟩)), (19, .pointer (some ⟨g254, 0, none⟩))] w275 := by
              intro g242 g254 w275 O276
              refine hin240 _ _ _ _ _ ?_
              refine at_done rfl ?_
              refine xw_next K237 ?_
              refine cw_seq (fun FK277 K277 => ?_)
              refine cw_drawn (fun X => Own Z0 W X [.blk g254 57 #[.int .u64 (sb.a.toNat : Int), .int .u64 (sb.b.toNat : Int)], .blk g242 57 #[.int .u64 (sa.a.toNat : Int), .int .u64 (sa.b.toNat : Int)], .blk g36 36 #[.slice (some ⟨g34, 0, none⟩) ((post T 0).length) c35], .row (.slice (some ⟨g34, 0, none⟩) ((post T 0).length) c35) 3 1 ((post T 0).length) (intCs (parsOf (post T 0))), .blk g119 38 #[.int .i64 (a : Int), .int .i64 (b : Int), .int .i64 0], .row (.slice (some ⟨g15, 0, none⟩) ((post T 0).length) c11) 38 3 ((post T 0).length) (ncells (post T 0)), .row (.slice (some ⟨g29, 0, none⟩) ((post T 0).length) c30) 57 2 ((post T 0).length) (vcells (setsOf (post T 0)))]) 30 [(0, 1), (1, 1), (2, 1), (3, 0), (4, 1), (5, 0), (6, 1), (7, 0), (8, 1), (9, 1), (10, 0), (11, 1), (12, 0), (13, 1), (14, 1), (15, 1), (16, 1), (17, 1), (18, 0), (19, 1), (20, 0), (21, 1), (22, 1), (23, 0), (24, 1), (25, 0), (26, 1), (27, 1), (28, 1), (29, 1)] (by kernel_rfl) (by kernel_rfl) (PQ.then_ (PQ.block (PQ.then_ (PQ.then_ (PQ.block (PQ.then_ PQ.body)))))) (O276).drew ?_
              have O278 : Own Z0 W w275.drew [.blk g254 57 #[.int .u64 (sb.a.toNat : Int), .int .u64 (sb.b.toNat : Int)], .blk g242 57 #[.int .u64 (sa.a.toNat : Int), .int .u64 (sa.b.toNat : Int)], .blk g36 36 #[.slice (some ⟨g34, 0, none⟩) ((post T 0).length) c35], .row (.slice (some ⟨g34, 0, none⟩) ((post T 0).length) c35) 3 1 ((post T 0).length) (intCs (parsOf (post T 0))), .blk g119 38 #[.int .i64 (a : Int), .int .i64 (b : Int), .int .i64 0], .row (.slice (some ⟨g15, 0, none⟩) ((post T 0).length) c11) 38 3 ((post T 0).length) (ncells (post T 0)), .row (.slice (some ⟨g29, 0, none⟩) ((post T 0).length) c30) 57 2 ((post T 0).length) (vcells (setsOf (post T 0)))] := O276.drew
              refine wt1 (v := .slice (some ⟨g29, 0, none⟩) ((post T 0).length) c30) rfl (fun ρ e W => ex_move (e _ _ rfl)) rfl rfl ?_
              refine wt1 (v := .int .i64 (n : Int)) rfl (fun ρ e W => ex_move (e _ _ rfl)) rfl rfl ?_
              refine wt1 (v := .pointer (some ⟨g29, n * 2, none⟩)) rfl (fun ρ e W => ex_idx (q := n * 2) (i := n) el53 (e _ _ rfl) (e _ _ rfl) (by omega) (by omega)) rfl rfl ?_
              refine wt0 (v := .agg #[.int .u64 ((sa.union sb).a.toNat : Int), .int .u64 ((sa.union sb).b.toNat : Int)]) rfl (fun ρ e W hW => ex_loadN (vs := [.int .u64 ((sa.union sb).a.toNat : Int), .int .u64 ((sa.union sb).b.toNat : Int)]) ty57 (e _ _ rfl) rfl (cells2 (rowcell (hW.row 6 rfl) (vcells_get hsn).1) (rowcell (hW.row 6 rfl) (vcells_get hsn).2))) rfl rfl ?_
              refine wt1 (v := .pointer (some ⟨g242, 0, none⟩)) rfl (fun ρ e W => ex_idxA (q := 0) (i := 0) an57 (e _ _ rfl) (e _ _ rfl) (by omega) (by omega)) rfl rfl ?_
              refine wt0 (v := .int .u64 (sa.a.toNat : Int)) rfl (fun ρ e W hW => ex_load1 ty55 (e _ _ rfl) (hW.cell 1 0 rfl rfl)) rfl rfl ?_
              refine wt1 (v := .pointer (some ⟨g254, 0, none⟩)) rfl (fun ρ e W => ex_idxA (q := 0) (i := 0) an57 (e _ _ rfl) (e _ _ rfl) (by omega) (by omega)) rfl rfl ?_
              refine wt0 (v := .int .u64 (sb.a.toNat : Int)) rfl (fun ρ e W hW => ex_load1 ty55 (e _ _ rfl) (hW.cell 0 0 rfl rfl)) rfl rfl ?_
              refine wt1 (v := .int .u64 ((sa.union sb).a.toNat : Int)) rfl (fun ρ e W => ex_or64 (x := sa.a) (y := sb.a) (z := (sa.union sb).a) (e _ _ rfl) (e _ _ rfl) rfl) rfl rfl ?_
              refine wt1 (v := .pointer (some ⟨g242, 1, none⟩)) rfl (fun ρ e W => ex_idxA (q := 1) (i := 1) an57 (e _ _ rfl) (e _ _ rfl) (by omega) (by omega)) rfl rfl ?_
              refine wt0 (v := .int .u64 (sa.b.toNat : Int)) rfl (fun ρ e W hW => ex_load1 ty55 (e _ _ rfl) (hW.cell 1 1 rfl rfl)) rfl rfl ?_
              refine wt1 (v := .pointer (some ⟨g254, 1, none⟩)) rfl (fun ρ e W => ex_idxA (q := 1) (i := 1) an57 (e _ _ rfl) (e _ _ rfl) (by omega) (by omega)) rfl rfl ?_
              refine wt0 (v := .int .u64 (sb.b.toNat : Int)) rfl (fun ρ e W hW => ex_load1 ty55 (e _ _ rfl) (hW.cell 0 1 rfl rfl)) rfl rfl ?_
              refine wt1 (v := .int .u64 ((sa.union sb).b.toNat : Int)) rfl (fun ρ e W => ex_or64 (x := sa.b) (y := sb.b) (z := (sa.union sb).b) (e _ _ rfl) (e _ _ rfl) rfl) rfl rfl ?_
              refine wt1 (v := .agg #[.int .u64 ((sa.union sb).a.toNat : Int), .int .u64 ((sa.union sb).b.toNat : Int)]) rfl (fun ρ e W => ex_buildA (cells := #[.int .u64 ((sa.union sb).a.toNat : Int), .int .u64 ((sa.union sb).b.toNat : Int)]) ar57 (e.parts rfl) rfl) rfl rfl ?_
              refine wt1 (v := .bool false) rfl (fun ρ e W => ex_nesame57 (e _ _ rfl) (e _ _ rfl)) rfl rfl ?_
              refine wt1 (v := .bool false) rfl (fun ρ e W => ex_move (e _ _ rfl)) rfl rfl ?_
              refine wt1 (v := .pointer (some ⟨g242, 0, none⟩)) rfl (fun ρ e W => ex_idxA (q := 0) (i := 0) an57 (e _ _ rfl) (e _ _ rfl) (by omega) (by omega)) rfl rfl ?_
              refine wt0 (v := .int .u64 (sa.a.toNat : Int)) rfl (fun ρ e W hW => ex_load1 ty55 (e _ _ rfl) (hW.cell 1 0 rfl rfl)) rfl rfl ?_
              refine wt1 (v := .pointer (some ⟨g254, 0, none⟩)) rfl (fun ρ e W => ex_idxA (q := 0) (i := 0) an57 (e _ _ rfl) (e _ _ rfl) (by omega) (by omega)) rfl rfl ?_
              refine wt0 (v := .int .u64 (sb.a.toNat : Int)) rfl (fun ρ e W hW => ex_load1 ty55 (e _ _ rfl) (hW.cell 0 0 rfl rfl)) rfl rfl ?_
              refine wt1 (v := .int .u64 0) rfl (fun ρ e W => ex_and0 (x := sa.a) (y := sb.a) (e _ _ rfl) (e _ _ rfl) (congrArg VS.a hcut)) rfl rfl ?_
              refine wt1 (v := .pointer (some ⟨g242, 1, none⟩)) rfl (fun ρ e W => ex_idxA (q := 1) (i := 1) an57 (e _ _ rfl) (e _ _ rfl) (by omega) (by omega)) rfl rfl ?_
              refine wt0 (v := .int .u64 (sa.b.toNat : Int)) rfl (fun ρ e W hW => ex_load1 ty55 (e _ _ rfl) (hW.cell 1 1 rfl rfl)) rfl rfl ?_
              refine wt1 (v := .pointer (some ⟨g254, 1, none⟩)) rfl (fun ρ e W => ex_idxA (q := 1) (i := 1) an57 (e _ _ rfl) (e _ _ rfl) (by omega) (by omega)) rfl rfl ?_
              refine wt0 (v := .int .u64 (sb.b.toNat : Int)) rfl (fun ρ e W hW => ex_load1 ty55 (e _ _ rfl) (hW.cell 0 1 rfl rfl)) rfl rfl ?_
              refine wt1 (v := .int .u64 0) rfl (fun ρ e W => ex_and0 (x := sa.b) (y := sb.b) (e _ _ rfl) (e _ _ rfl) (congrArg VS.b hcut)) rfl rfl ?_
              refine wt1 (v := .int .u64 0) rfl (fun ρ e W => ex_or00 (e _ _ rfl) (e _ _ rfl)) rfl rfl ?_
              refine wt1 (v := .bool false) rfl (fun ρ e W => ex_cmp (u := 0) (v := 0) (e _ _ rfl) (e _ _ rfl) (neq0 rfl)) rfl rfl ?_
              refine wt1 (v := .bool false) rfl (fun ρ e W => ex_pick0 (e _ _ rfl) (e _ _ rfl)) rfl rfl ?_
              refine wt_nil ?_
              refine xw_next K277 ?_
              refine cw_false rfl ?_
              refine cw_skip ?_
              refine xw_block ?_
              refine xw_next K117 ?_
              refine cw_region ?_
              refine wl_val (v := .int .i64 ((n + 1 : Nat) : Int)) (fun ρ e => ex_arith (k := .i64) (u := (n : Int)) (v := 1) (e _ _ rfl) (e _ _ rfl) (congrArg some ((congrArg _ (by omega)).trans (wrap_in (u := ((n + 1 : Nat) : Int)) (by omega) (by omega))))) rfl rfl ?_
              refine wl_val (v := .int .i64 ((n + 1 : Nat) : Int)) (fun ρ e => ex_move (e _ _ rfl)) rfl rfl ?_
              refine wl_nil ?_
              refine xw_round K72 (n + 1) (by show (post T 0).length - (n + 1) < (post T 0).length - n; omega) ⟨(by show n + 1 ≤ (post T 0).length; omega), (O278.re [5, 6, 3, 2] rfl : Own Z0 W w275.drew [.row (.slice (some ⟨g15, 0, none⟩) ((post T 0).length) c11) 38 3 ((post T 0).length) (ncells (post T 0)), .row (.slice (some ⟨g29, 0, none⟩) ((post T 0).length) c30) 57 2 ((post T 0).length) (vcells (setsOf (post T 0))), .row (.slice (some ⟨g34, 0, none⟩) ((post T 0).length) c35) 3 1 ((post T 0).length) (intCs (parsOf (post T 0))), .blk g36 36 #[.slice (some ⟨g34, 0, none⟩) ((post T 0).length) c35]])⟩ ⟨rfl, rfl, rfl, rfl, rfl, rfl, rfl, rfl, rfl, rfl, trivial⟩
            have N279 : ∀ (g242 : Nat) (g254 : Nat) (w280 : World), Own Z0 W w280 [.blk g242 57 #[.int .u64 (sa.a.toNat : Int), .int .u64 (sa.b.toNat : Int)], .blk g254 57 #[.int .u64 0, .int .u64 0], .blk g36 36 #[.slice (some ⟨g34, 0, none⟩) ((post T 0).length) c35], .row (.slice (some ⟨g34, 0, none⟩) ((post T 0).length) c35) 3 1 ((post T 0).length) (intCs (parsOf (post T 0))), .blk g119 38 #[.int .i64 (a : Int), .int .i64 (b : Int), .int .i64 0], .row (.slice (some ⟨g15, 0, none⟩) ((post T 0).length) c11) 38 3 ((post T 0).length) (ncells (post T 0)), .row (.slice (some ⟨g29, 0, none⟩) ((post T 0).length) c30) 57 2 ((post T 0).length) (vcells (setsOf (post T 0)))] → AT239 1 #[true, true, true, true, true, true, true, true, true, true, true, true, true, false] 167 [(9, .slice (some ⟨g15, 0, none⟩) ((post T 0).length) c11), (10, .int .i64 (i : Int)), (11, .int .i64 (k : Int)), (12, .int .i64 (m : Int)), (13, .slice (some ⟨g29, 0, none⟩) ((post T 0).length) c30), (14, .pointer (some ⟨g36, 0, none⟩)), (15, .func (.func 46) #[] #[.pointer (some ⟨g36, 0, none⟩)]), (98, .slice (some ⟨g15, 0, none⟩) ((post T 0).length) c11), (99, .int .i64 (((post T 0).length : Nat) : Int)), (100, .int .i64 (n : Int)), (101, .bool true), (102, .int .i64 (n : Int)), (103, .pointer (some ⟨g15, n * 3, none⟩)), (104, .agg #[.int .i64 (a : Int), .int .i64 (b : Int), .int .i64 0]), (17, .pointer (some ⟨g119, 0, none⟩)), (16, .int .i64 (n : Int)), (105, .func (.func 46) #[] #[.pointer (some ⟨g36, 0, none⟩)]), (106, .int .i64 (i : Int)), (107, .int .i64 (n : Int)), (108, .bool true), (109, .bool true), (110, .func (.func 46) #[] #[.pointer (some ⟨g36, 0, none⟩)]), (111, .int .i64 (k : Int)), (112, .int .i64 (n : Int)), (113, .bool false), (114, .bool false), (115, .bool false), (116, undef), (117, undef), (118, undef), (119, undef), (120, undef), (121, .bool false), (122, .pointer (some ⟨g119, 2, none⟩)), (123, .int .i64 0), (124, .bool true), (134, .agg #[.int .u64 (sb.a.toNat : Int), .int .u64 (sb.b.toNat : Int)]), (18, .pointer (some ⟨g242, 0, none⟩)), (19, .pointer (some ⟨g254, 0, none⟩))] w280 := by
              intro g242 g254 w280 O281
              refine hin240 _ _ _ _ _ ?_
              refine at_branch [13] (by kernel_rfl) ⟨?_, trivial⟩
              · skip
                obtain ⟨w282, r283, O284, hs285⟩ := own_put (o := 0) (n := 2) (O281.re [1, 0, 2, 3, 4, 5, 6] rfl : Own Z0 W w280 [.blk g254 57 #[.int .u64 0, .int .u64 0], .blk g242 57 #[.int .u64 (sa.a.toNat : Int), .int .u64 (sa.b.toNat : Int)], .blk g36 36 #[.slice (some ⟨g34, 0, none⟩) ((post T 0).length) c35], .row (.slice (some ⟨g34, 0, none⟩) ((post T 0).length) c35) 3 1 ((post T 0).length) (intCs (parsOf (post T 0))), .blk g119 38 #[.int .i64 (a : Int), .int .i64 (b : Int), .int .i64 0], .row (.slice (some ⟨g15, 0, none⟩) ((post T 0).length) c11) 38 3 ((post T 0).length) (ncells (post T 0)), .row (.slice (some ⟨g29, 0, none⟩) ((post T 0).length) c30) 57 2 ((post T 0).length) (vcells (setsOf (post T 0)))]) ty57 (.agg #[.int .u64 (sb.a.toNat : Int), .int .u64 (sb.b.toNat : Int)]) [.int .u64 (sb.a.toNat : Int), .int .u64 (sb.b.toNat : Int)] (cs' := #[.int .u64 (sb.a.toNat : Int), .int .u64 (sb.b.toNat : Int)]) rfl rfl rfl (Nat.le_of_ble_eq_true rfl) rfl
                refine stp_none (listed' := #[true, true, true, true, true, true, true, true, true, true, true, true, true, true]) rfl rfl (fun ρ e => r283 ρ _ _ _ _ _ _ (e _ _ rfl) (e _ _ rfl)) rfl (fun _ => (O284.re [2, 3, 4, 5, 6] rfl : Own Z0 W w282 [.blk g36 36 #[.slice (some ⟨g34, 0, none⟩) ((post T 0).length) c35], .row (.slice (some ⟨g34, 0, none⟩) ((post T 0).length) c35) 3 1 ((post T 0).length) (intCs (parsOf (post T 0))), .blk g119 38 #[.int .i64 (a : Int), .int .i64 (b : Int), .int .i64 0], .row (.slice (some ⟨g15, 0, none⟩) ((post T 0).length) c11) 38 3 ((post T 0).length) (ncells (post T 0)), .row (.slice (some ⟨g29, 0, none⟩) ((post T 0).length) c30) 57 2 ((post T 0).length) (vcells (setsOf (post T 0)))])) ?_
                exact at_sub2 (hout241 _ _ _ _ _ (N274 g242 g254 w282 O284)) ⟨rfl, rfl, rfl, rfl, rfl, rfl, rfl, rfl, rfl, rfl, rfl, rfl, rfl, rfl, rfl, rfl, rfl, rfl, rfl, rfl, rfl, rfl, rfl, rfl, rfl, rfl, rfl, rfl, rfl, rfl, rfl, rfl, rfl, rfl, rfl, rfl, rfl, rfl, trivial⟩
            have N286 : ∀ (g242 : Nat) (g254 : Nat) (w287 : World), Own Z0 W w287 [.blk g254 57 #[.int .u64 0, .int .u64 0], .blk g242 57 #[.int .u64 0, .int .u64 0], .blk g36 36 #[.slice (some ⟨g34, 0, none⟩) ((post T 0).length) c35], .row (.slice (some ⟨g34, 0, none⟩) ((post T 0).length) c35) 3 1 ((post T 0).length) (intCs (parsOf (post T 0))), .blk g119 38 #[.int .i64 (a : Int), .int .i64 (b : Int), .int .i64 0], .row (.slice (some ⟨g15, 0, none⟩) ((post T 0).length) c11) 38 3 ((post T 0).length) (ncells (post T 0)), .row (.slice (some ⟨g29, 0, none⟩) ((post T 0).length) c30) 57 2 ((post T 0).length) (vcells (setsOf (post T 0)))] → AT239 2 #[true, true, true, true, true, true, true, true, true, true, true, true, false, false] 167 [(9, .slice (some ⟨g15, 0, none⟩) ((post T 0).length) c11), (10, .int .i64 (i : Int)), (11, .int .i64 (k : Int)), (12, .int .i64 (m : Int)), (13, .slice (some ⟨g29, 0, none⟩) ((post T 0).length) c30), (14, .pointer (some ⟨g36, 0, none⟩)), (15, .func (.func 46) #[] #[.pointer (some ⟨g36, 0, none⟩)]), (98, .slice (some ⟨g15, 0, none⟩) ((post T 0).length) c11), (99, .int .i64 (((post T 0).length : Nat) : Int)), (100, .int .i64 (n : Int)), (101, .bool true), (102, .int .i64 (n : Int)), (103, .pointer (some ⟨g15, n * 3, none⟩)), (104, .agg #[.int .i64 (a : Int), .int .i64 (b : Int), .int .i64 0]), (17, .pointer (some ⟨g119, 0, none⟩)), (16, .int .i64 (n : Int)), (105, .func (.func 46) #[] #[.pointer (some ⟨g36, 0, none⟩)]), (106, .int .i64 (i : Int)), (107, .int .i64 (n : Int)), (108, .bool true), (109, .bool true), (110, .func (.func 46) #[] #[.pointer (some ⟨g36, 0, none⟩)]), (111, .int .i64 (k : Int)), (112, .int .i64 (n : Int)), (113, .bool false), (114, .bool false), (115, .bool false), (116, undef), (117, undef), (118, undef), (119, undef), (120, undef), (121, .bool false), (122, .pointer (some ⟨g119, 2, none⟩)), (123, .int .i64 0), (124, .bool true), (129, .agg #[.int .u64 (sa.a.toNat : Int), .int .u64 (sa.b.toNat : Int)]), (134, .agg #[.int .u64 (sb.a.toNat : Int), .int .u64 (sb.b.toNat : Int)]), (18, .pointer (some ⟨g242, 0, none⟩)), (19, .pointer (some ⟨g254, 0, none⟩))] w287 := by
              intro g242 g254 w287 O288
              refine hin240 _ _ _ _ _ ?_
              refine at_branch [12] (by kernel_rfl) ⟨?_, trivial⟩
              · skip
                obtain ⟨w289, r290, O291, hs292⟩ := own_put (o := 0) (n := 2) (O288.re [1, 0, 2, 3, 4, 5, 6] rfl : Own Z0 W w287 [.blk g242 57 #[.int .u64 0, .int .u64 0], .blk g254 57 #[.int .u64 0, .int .u64 0], .blk g36 36 #[.slice (some ⟨g34, 0, none⟩) ((post T 0).length) c35], .row (.slice (some ⟨g34, 0, none⟩) ((post T 0).length) c35) 3 1 ((post T 0).length) (intCs (parsOf (post T 0))), .blk g119 38 #[.int .i64 (a : Int), .int .i64 (b : Int), .int .i64 0], .row (.slice (some ⟨g15, 0, none⟩) ((post T 0).length) c11) 38 3 ((post T 0).length) (ncells (post T 0)), .row (.slice (some ⟨g29, 0, none⟩) ((post T 0).length) c30) 57 2 ((post T 0).length) (vcells (setsOf (post T 0)))]) ty57 (.agg #[.int .u64 (sa.a.toNat : Int), .int .u64 (sa.b.toNat : Int)]) [.int .u64 (sa.a.toNat : Int), .int .u64 (sa.b.toNat : Int)] (cs' := #[.int .u64 (sa.a.toNat : Int), .int .u64 (sa.b.toNat : Int)]) rfl rfl rfl (Nat.le_of_ble_eq_true rfl) rfl
                refine stp_none (listed' := #[true, true, true, true, true, true, true, true, true, true, true, true, true, false]) rfl rfl (fun ρ e => r290 ρ _ _ _ _ _ _ (e _ _ rfl) (e _ _ rfl)) rfl (fun _ => (O291.re [2, 3, 4, 5, 6] rfl : Own Z0 W w289 [.blk g36 36 #[.slice (some ⟨g34, 0, none⟩) ((post T 0).length) c35], .row (.slice (some ⟨g34, 0, none⟩) ((post T 0).length) c35) 3 1 ((post T 0).length) (intCs (parsOf (post T 0))), .blk g119 38 #[.int .i64 (a : Int), .int .i64 (b : Int), .int .i64 0], .row (.slice (some ⟨g15, 0, none⟩) ((post T 0).length) c11) 38 3 ((post T 0).length) (ncells (post T 0)), .row (.slice (some ⟨g29, 0, none⟩) ((post T 0).length) c30) 57 2 ((post T 0).length) (vcells (setsOf (post T 0)))])) ?_
                exact at_sub2 (hout241 _ _ _ _ _ (N279 g242 g254 w289 O291)) ⟨rfl, rfl, rfl, rfl, rfl, rfl, rfl, rfl, rfl, rfl, rfl, rfl, rfl, rfl, rfl, rfl, rfl, rfl, rfl, rfl, rfl, rfl, rfl, rfl, rfl, rfl, rfl, rfl, rfl, rfl, rfl, rfl, rfl, rfl, rfl, rfl, rfl, rfl, rfl, trivial⟩
            have N293 : ∀ (g248 : Nat) (w294 : World), Own Z0 W w294 [.blk g248 57 #[.int .u64 0, .int .u64 0], .blk g36 36 #[.slice (some ⟨g34, 0, none⟩) ((post T 0).length) c35], .row (.slice (some ⟨g34, 0, none⟩) ((post T 0).length) c35) 3 1 ((post T 0).length) (intCs (parsOf (post T 0))), .blk g119 38 #[.int .i64 (a : Int), .int .i64 (b : Int), .int .i64 0], .row (.slice (some ⟨g15, 0, none⟩) ((post T 0).length) c11) 38 3 ((post T 0).length) (ncells (post T 0)), .row (.slice (some ⟨g29, 0, none⟩) ((post T 0).length) c30) 57 2 ((post T 0).length) (vcells (setsOf (post T 0)))] → AT239 3 #[true, true, true, true, true, true, true, true, true, true, false, true, false, false] 167 [(9, .slice (some ⟨g15, 0, none⟩) ((post T 0).length) c11), (10, .int .i64 (i : Int)), (11, .int .i64 (k : Int)), (12, .int .i64 (m : Int)), (13, .slice (some ⟨g29, 0, none⟩) ((post T 0).length) c30), (14, .pointer (some ⟨g36, 0, none⟩)), (15, .func (.func 46) #[] #[.pointer (some ⟨g36, 0, none⟩)]), (98, .slice (some ⟨g15, 0, none⟩) ((post T 0).length) c11), (99, .int .i64 (((post T 0).length : Nat) : Int)), (100, .int .i64 (n : Int)), (101, .bool true), (102, .int .i64 (n : Int)), (103, .pointer (some ⟨g15, n * 3, none⟩)), (104, .agg #[.int .i64 (a : Int), .int .i64 (b : Int), .int .i64 0]), (17, .pointer (some ⟨g119, 0, none⟩)), (16, .int .i64 (n : Int)), (105, .func (.func 46) #[] #[.pointer (some ⟨g36, 0, none⟩)]), (106, .int .i64 (i : Int)), (107, .int .i64 (n : Int)), (108, .bool true), (109, .bool true), (110, .func (.func 46) #[] #[.pointer (some ⟨g36, 0, none⟩)]), (111, .int .i64 (k : Int)), (112, .int .i64 (n : Int)), (113, .bool false), (114, .bool false), (115, .bool false), (116, undef), (117, undef), (118, undef), (119, undef), (120, undef), (121, .bool false), (122, .pointer (some ⟨g119, 2, none⟩)), (123, .int .i64 0), (124, .bool true), (129, .agg #[.int .u64 (sa.a.toNat : Int), .int .u64 (sa.b.toNat : Int)]), (134, .agg #[.int .u64 (sb.a.toNat : Int), .int .u64 (sb.b.toNat : Int)]), (19, .pointer (some ⟨g248, 0, none⟩))] w294 := by
              intro g248 w294 O295
              refine hin240 _ _ _ _ _ ?_
              refine at_branch [10] (by kernel_rfl) ⟨?_, trivial⟩
              · skip
                obtain ⟨g296, w297, r298, O299, hg300, hs301⟩ := own_alloc O295 57 ze57 rfl
                refine stp_val (v := .pointer (some ⟨g296, 0, none⟩)) (listed' := #[true, true, true, true, true, true, true, true, true, true, true, true, false, false]) rfl rfl (fun ρ e => r298 ρ _ _ _ _ _) rfl rfl (fun _ => (O299.re [2, 3, 4, 5, 6] rfl : Own Z0 W w297 [.blk g36 36 #[.slice (some ⟨g34, 0, none⟩) ((post T 0).length) c35], .row (.slice (some ⟨g34, 0, none⟩) ((post T 0).length) c35) 3 1 ((post T 0).length) (intCs (parsOf (post T 0))), .blk g119 38 #[.int .i64 (a : Int), .int .i64 (b : Int), .int .i64 0], .row (.slice (some ⟨g15, 0, none⟩) ((post T 0).length) c11) 38 3 ((post T 0).length) (ncells (post T 0)), .row (.slice (some ⟨g29, 0, none⟩) ((post T 0).length) c30) 57 2 ((post T 0).length) (vcells (setsOf (post T 0)))])) ?_
                exact at_sub2 (hout241 _ _ _ _ _ (N286 g296 g248 w297 (O299.re [1, 0, 2, 3, 4, 5, 6] rfl : Own Z0 W w297 [.blk g248 57 #[.int .u64 0, .int .u64 0], .blk g296 57 #[.int .u64 0, .int .u64 0], .blk g36 36 #[.slice (some ⟨g34, 0, none⟩) ((post T 0).length) c35], .row (.slice (some ⟨g34, 0, none⟩) ((post T 0).length) c35) 3 1 ((post T 0).length) (intCs (parsOf (post T 0))), .blk g119 38 #[.int .i64 (a : Int), .int .i64 (b : Int), .int .i64 0], .row (.slice (some ⟨g15, 0, none⟩) ((post T 0).length) c11) 38 3 ((post T 0).length) (ncells (post T 0)), .row (.slice (some ⟨g29, 0, none⟩) ((post T 0).length) c30) 57 2 ((post T 0).length) (vcells (setsOf (post T 0)))]))) ⟨rfl, rfl, rfl, rfl, rfl, rfl, rfl, rfl, rfl, rfl, rfl, rfl, rfl, rfl, rfl, rfl, rfl, rfl, rfl, rfl, rfl, rfl, rfl, rfl, rfl, rfl, rfl, rfl, rfl, rfl, rfl, rfl, rfl, rfl, rfl, rfl, rfl, rfl, rfl, rfl, trivial⟩
            have N302 : ∀ (g242 : Nat) (w303 : World), Own Z0 W w303 [.blk g242 57 #[.int .u64 0, .int .u64 0], .blk g36 36 #[.slice (some ⟨g34, 0, none⟩) ((post T 0).length) c35], .row (.slice (some ⟨g34, 0, none⟩) ((post T 0).length) c35) 3 1 ((post T 0).length) (intCs (parsOf (post T 0))), .blk g119 38 #[.int .i64 (a : Int), .int .i64 (b : Int), .int .i64 0], .row (.slice (some ⟨g15, 0, none⟩) ((post T 0).length) c11) 38 3 ((post T 0).length) (ncells (post T 0)), .row (.slice (some ⟨g29, 0, none⟩) ((post T 0).length) c30) 57 2 ((post T 0).length) (vcells (setsOf (post T 0)))] → AT239 3 #[true, true, true, true, true, true, true, true, true, true, true, false, false, false] 167 [(9, .slice (some ⟨g15, 0, none⟩) ((post T 0).length) c11), (10, .int .i64 (i : Int)), (11, .int .i64 (k : Int)), (12, .int .i64 (m : Int)), (13, .slice (some ⟨g29, 0, none⟩) ((post T 0).length) c30), (14, .pointer (some ⟨g36, 0, none⟩)), (15, .func (.func 46) #[] #[.pointer (some ⟨g36, 0, none⟩)]), (98, .slice (some ⟨g15, 0, none⟩) ((post T 0).length) c11), (99, .int .i64 (((post T 0).length : Nat) : Int)), (100, .int .i64 (n : Int)), (101, .bool true), (102, .int .i64 (n : Int)), (103, .pointer (some ⟨g15, n * 3, none⟩)), (104, .agg #[.int .i64 (a : Int), .int .i64 (b : Int), .int .i64 0]), (17, .pointer (some ⟨g119, 0, none⟩)), (16, .int .i64 (n : Int)), (105, .func (.func 46) #[] #[.pointer (some ⟨g36, 0, none⟩)]), (106, .int .i64 (i : Int)), (107, .int .i64 (n : Int)), (108, .bool true), (109, .bool true), (110, .func (.func 46) #[] #[.pointer (some ⟨g36, 0, none⟩)]), (111, .int .i64 (k : Int)), (112, .int .i64 (n : Int)), (113, .bool false), (114, .bool false), (115, .bool false), (116, undef), (117, undef), (118, undef), (119, undef), (120, undef), (121, .bool false), (122, .pointer (some ⟨g119, 2, none⟩)), (123, .int .i64 0), (124, .bool true), (129, .agg #[.int .u64 (sa.a.toNat : Int), .int .u64 (sa.b.toNat : Int)]), (134, .agg #[.int .u64 (sb.a.toNat : Int), .int .u64 (sb.b.toNat : Int)]), (18, .pointer (some ⟨g242, 0, none⟩))] w303 := by
              intro g242 w303 O304
              refine hin240 _ _ _ _ _ ?_
              refine at_branch [11] (by kernel_rfl) ⟨?_, trivial⟩
              · skip
                obtain ⟨g305, w306, r307, O308, hg309, hs310⟩ := own_alloc O304 57 ze57 rfl
                refine stp_val (v := .pointer (some ⟨g305, 0, none⟩)) (listed' := #[true, true, true, true, true, true, true, true, true, true, true, true, false, false]) rfl rfl (fun ρ e => r307 ρ _ _ _ _ _) rfl rfl (fun _ => (O308.re [2, 3, 4, 5, 6] rfl : Own Z0 W w306 [.blk g36 36 #[.slice (some ⟨g34, 0, none⟩) ((post T 0).length) c35], .row (.slice (some ⟨g34, 0, none⟩) ((post T 0).length) c35) 3 1 ((post T 0).length) (intCs (parsOf (post T 0))), .blk g119 38 #[.int .i64 (a : Int), .int .i64 (b : Int), .int .i64 0], .row (.slice (some ⟨g15, 0, none⟩) ((post T 0).length) c11) 38 3 ((post T 0).length) (ncells (post T 0)), .row (.slice (some ⟨g29, 0, none⟩) ((post T 0).length) c30) 57 2 ((post T 0).length) (vcells (setsOf (post T 0)))])) ?_
                exact at_sub2 (hout241 _ _ _ _ _ (N286 g242 g305 w306 O308)) ⟨rfl, rfl, rfl, rfl, rfl, rfl, rfl, rfl, rfl, rfl, rfl, rfl, rfl, rfl, rfl, rfl, rfl, rfl, rfl, rfl, rfl, rfl, rfl, rfl, rfl, rfl, rfl, rfl, rfl, rfl, rfl, rfl, rfl, rfl, rfl, rfl, rfl, rfl, rfl, rfl, trivial⟩
            refine hin240 _ _ _ _ _ ?_
            refine at_take1 (v := .slice (some ⟨g29, 0, none⟩) ((post T 0).length) c30) (i := 0) (listed' := #[true, false, false, false, false, false, false, false, false, false, false, false, false, false]) rfl (by kernel_rfl) (PQ.then_ (PQ.block (PQ.then_ (PQ.then_ (PQ.block (PQ.then_ PQ.body)))))) (fun _ => O238) (fun ρ e W => ex_move (e _ _ rfl)) rfl rfl ?_
            refine at_take1 (v := .pointer (some ⟨g119, 0, none⟩)) (i := 1) (listed' := #[true, true, false, false, false, false, false, false, false, false, false, false, false, false]) rfl (by kernel_rfl) (PQ.then_ (PQ.block (PQ.then_ (PQ.then_ (PQ.block (PQ.then_ PQ.body)))))) (fun _ => O238) (fun ρ e W => ex_field (q := 0) fi38_0 (e _ _ rfl) rfl) rfl rfl ?_
            refine at_take0 (v := .int .i64 (a : Int)) (i := 2) (listed' := #[true, true, true, false, false, false, false, false, false, false, false, false, false, false]) rfl (by kernel_rfl) (PQ.then_ (PQ.block (PQ.then_ (PQ.then_ (PQ.block (PQ.then_ PQ.body)))))) O238 (fun ρ e W hW => ex_load1 ty3 (e _ _ rfl) (hW.cell 2 0 rfl rfl)) rfl rfl ?_
            refine at_take1 (v := .pointer (some ⟨g29, a * 2, none⟩)) (i := 3) (listed' := #[true, true, true, true, false, false, false, false, false, false, false, false, false, false]) rfl (by kernel_rfl) (PQ.then_ (PQ.block (PQ.then_ (PQ.then_ (PQ.block (PQ.then_ PQ.body)))))) (fun _ => O238) (fun ρ e W => ex_idx (q := a * 2) (i := a) el53 (e _ _ rfl) (e _ _ rfl) (by omega) (by omega)) rfl rfl ?_
            refine at_take0 (v := .agg #[.int .u64 (sa.a.toNat : Int), .int .u64 (sa.b.toNat : Int)]) (i := 4) (listed' := #[true, true, true, true, true, false, false, false, false, false, false, false, false, false]) rfl (by kernel_rfl) (PQ.then_ (PQ.block (PQ.then_ (PQ.then_ (PQ.block (PQ.then_ PQ.body)))))) O238 (fun ρ e W hW => ex_loadN (vs := [.int .u64 (sa.a.toNat : Int), .int .u64 (sa.b.toNat : Int)]) ty57 (e _ _ rfl) rfl (cells2 (rowcell (hW.row 4 rfl) (vcells_get hsa).1) (rowcell (hW.row 4 rfl) (vcells_get hsa).2))) rfl rfl ?_
            refine at_take1 (v := .slice (some ⟨g29, 0, none⟩) ((post T 0).length) c30) (i := 5) (listed' := #[true, true, true, true, true, true, false, false, false, false, false, false, false, false]) rfl (by kernel_rfl) (PQ.then_ (PQ.block (PQ.then_ (PQ.then_ (PQ.block (PQ.then_ PQ.body)))))) (fun _ => O238) (fun ρ e W => ex_move (e _ _ rfl)) rfl rfl ?_
            refine at_take1 (v := .pointer (some ⟨g119, 1, none⟩)) (i := 6) (listed' := #[true, true, true, true, true, true, true, false, false, false, false, false, false, false]) rfl (by kernel_rfl) (PQ.then_ (PQ.block (PQ.then_ (PQ.then_ (PQ.block (PQ.then_ PQ.body)))))) (fun _ => O238) (fun ρ e W => ex_field (q := 1) fi38_1 (e _ _ rfl) rfl) rfl rfl ?_
            refine at_take0 (v := .int .i64 (b : Int)) (i := 7) (listed' := #[true, true, true, true, true, true, true, true, false, false, false, false, false, false]) rfl (by kernel_rfl) (PQ.then_ (PQ.block (PQ.then_ (PQ.then_ (PQ.block (PQ.then_ PQ.body)))))) O238 (fun ρ e W hW => ex_load1 ty3 (e _ _ rfl) (hW.cell 2 1 rfl rfl)) rfl rfl ?_
            refine at_take1 (v := .pointer (some ⟨g29, b * 2, none⟩)) (i := 8) (listed' := #[true, true, true, true, true, true, true, true, true, false, false, false, false, false]) rfl (by kernel_rfl) (PQ.then_ (PQ.block (PQ.then_ (PQ.then_ (PQ.block (PQ.then_ PQ.body)))))) (fun _ => O238) (fun ρ e W => ex_idx (q := b * 2) (i := b) el53 (e _ _ rfl) (e _ _ rfl) (by omega) (by omega)) rfl rfl ?_
            refine at_take0 (v := .agg #[.int .u64 (sb.a.toNat : Int), .int .u64 (sb.b.toNat : Int)]) (i := 9) (listed' := #[true, true, true, true, true, true, true, true, true, true, false, false, false, false]) rfl (by kernel_rfl) (PQ.then_ (PQ.block (PQ.then_ (PQ.then_ (PQ.block (PQ.then_ PQ.body)))))) O238 (fun ρ e W hW => ex_loadN (vs := [.int .u64 (sb.a.toNat : Int), .int .u64 (sb.b.toNat : Int)]) ty57 (e _ _ rfl) rfl (cells2 (rowcell (hW.row 4 rfl) (vcells_get hsb).1) (rowcell (hW.row 4 rfl) (vcells_get hsb).2))) rfl rfl ?_
            refine at_branch [10, 11] (by kernel_rfl) ⟨?_, ?_, trivial⟩
            · skip
              obtain ⟨g311, w312, r313, O314, hg315, hs316⟩ := own_alloc O238 57 ze57 rfl
              refine stp_val (v := .pointer (some ⟨g311, 0, none⟩)) (listed' := #[true, true, true, true, true, true, true, true, true, true, true, false, false, false]) rfl rfl (fun ρ e => r313 ρ _ _ _ _ _) rfl rfl (fun _ => (O314.re [1, 2, 3, 4, 5] rfl : Own Z0 W w312 [.blk g36 36 #[.slice (some ⟨g34, 0, none⟩) ((post T 0).length) c35], .row (.slice (some ⟨g34, 0, none⟩) ((post T 0).length) c35) 3 1 ((post T 0).length) (intCs (parsOf (post T 0))), .blk g119 38 #[.int .i64 (a : Int), .int .i64 (b : Int), .int .i64 0], .row (.slice (some ⟨g15, 0, none⟩) ((post T 0).length) c11) 38 3 ((post T 0).length) (ncells (post T 0)), .row (.slice (some ⟨g29, 0, none⟩) ((post T 0).length) c30) 57 2 ((post T 0).length) (vcells (setsOf (post T 0)))])) ?_
              exact at_sub2 (hout241 _ _ _ _ _ (N302 g311 w312 O314)) ⟨rfl, rfl, rfl, rfl, rfl, rfl, rfl, rfl, rfl, rfl, rfl, rfl, rfl, rfl, rfl, rfl, rfl, rfl, rfl, rfl, rfl, rfl, rfl, rfl, rfl, rfl, rfl, rfl, rfl, rfl, rfl, rfl, rfl, rfl, rfl, rfl, rfl, rfl, rfl, trivial⟩
            · skip
              obtain ⟨g317, w318, r319, O320, hg321, hs322⟩ := own_alloc O238 57 ze57 rfl
              refine stp_val (v := .pointer (some ⟨g317, 0, none⟩)) (listed' := #[true, true, true, true, true, true, true, true, true, true, false, true, false, false]) rfl rfl (fun ρ e => r319 ρ _ _ _ _ _) rfl rfl (fun _ => (O320.re [1, 2, 3, 4, 5] rfl : Own Z0 W w318 [.blk g36 36 #[.slice (some ⟨g34, 0, none⟩) ((post T 0).length) c35], .row (.slice (some ⟨g34, 0, none⟩) ((post T 0).length) c35) 3 1 ((post T 0).length) (intCs (parsOf (post T 0))), .blk g119 38 #[.int .i64 (a : Int), .int .i64 (b : Int), .int .i64 0], .row (.slice (some ⟨g15, 0, none⟩) ((post T 0).length) c11) 38 3 ((post T 0).length) (ncells (post T 0)), .row (.slice (some ⟨g29, 0, none⟩) ((post T 0).length) c30) 57 2 ((post T 0).length) (vcells (setsOf (post T 0)))])) ?_
              exact at_sub2 (hout241 _ _ _ _ _ (N293 g317 w318 O320)) ⟨rfl, rfl, rfl, rfl, rfl, rfl, rfl, rfl, rfl, rfl, rfl, rfl, rfl, rfl, rfl, rfl, rfl, rfl, rfl, rfl, rfl, rfl, rfl, rfl, rfl, rfl, rfl, rfl, rfl, rfl, rfl, rfl, rfl, rfl, rfl, rfl, rfl, rfl, rfl, trivial⟩
        · skip
          refine wl_callv (args := [.int .i64 (i : Int), .int .i64 (n : Int)]) (all := [.int .i64 (i : Int), .int .i64 (n : Int), .pointer (some ⟨g36, 0, none⟩)]) in_46 rfl rfl rfl rfl rfl ?_
          have O326h := Own.hand (A := [.blk g36 36 #[.slice (some ⟨g34, 0, none⟩) ((post T 0).length) c35], .row (.slice (some ⟨g34, 0, none⟩) ((post T 0).length) c35) 3 1 ((post T 0).length) (intCs (parsOf (post T 0)))]) (R := [.blk g119 38 #[.int .i64 (a : Int), .int .i64 (b : Int), .int .i64 0], .row (.slice (some ⟨g15, 0, none⟩) ((post T 0).length) c11) 38 3 ((post T 0).length) (ncells (post T 0)), .row (.slice (some ⟨g29, 0, none⟩) ((post T 0).length) c30) 57 2 ((post T 0).length) (vcells (setsOf (post T 0)))]) (O127.re [4, 3, 0, 1, 2] rfl : Own Z0 W w125 [.blk g36 36 #[.slice (some ⟨g34, 0, none⟩) ((post T 0).length) c35], .row (.slice (some ⟨g34, 0, none⟩) ((post T 0).length) c35) 3 1 ((post T 0).length) (intCs (parsOf (post T 0))), .blk g119 38 #[.int .i64 (a : Int), .int .i64 (b : Int), .int .i64 0], .row (.slice (some ⟨g15, 0, none⟩) ((post T 0).length) c11) 38 3 ((post T 0).length) (ncells (post T 0)), .row (.slice (some ⟨g29, 0, none⟩) ((post T 0).length) c30) 57 2 ((post T 0).length) (vcells (setsOf (post T 0)))])
          have hc323 := under_ hV O326h li (n : Int) (by omega)
          rw [decide_eq_false c131] at hc323
          refine hc323.mono ?_
          rintro _ w324 ⟨rfl, h325⟩
          have O326 : Own Z0 W w324 [.blk g36 36 #[.slice (some ⟨g34, 0, none⟩) ((post T 0).length) c35], .row (.slice (some ⟨g34, 0, none⟩) ((post T 0).length) c35) 3 1 ((post T 0).length) (intCs (parsOf (post T 0))), .blk g119 38 #[.int .i64 (a : Int), .int .i64 (b : Int), .int .i64 0], .row (.slice (some ⟨g15, 0, none⟩) ((post T 0).length) c11) 38 3 ((post T 0).length) (ncells (post T 0)), .row (.slice (some ⟨g29, 0, none⟩) ((post T 0).length) c30) 57 2 ((post T 0).length) (vcells (setsOf (post T 0)))] := Own.frame (A := [.blk g36 36 #[.slice (some ⟨g34, 0, none⟩) ((post T 0).length) c35], .row (.slice (some ⟨g34, 0, none⟩) ((post T 0).length) c35) 3 1 ((post T 0).length) (intCs (parsOf (post T 0)))]) (R := [.blk g119 38 #[.int .i64 (a : Int), .int .i64 (b : Int), .int .i64 0], .row (.slice (some ⟨g15, 0, none⟩) ((post T 0).length) c11) 38 3 ((post T 0).length) (ncells (post T 0)), .row (.slice (some ⟨g29, 0, none⟩) ((post T 0).length) c30) 57 2 ((post T 0).length) (vcells (setsOf (post T 0)))]) (O127.re [4, 3, 0, 1, 2] rfl : Own Z0 W w125 [.blk g36 36 #[.slice (some ⟨g34, 0, none⟩) ((post T 0).length) c35], .row (.slice (some ⟨g34, 0, none⟩) ((post T 0).length) c35) 3 1 ((post T 0).length) (intCs (parsOf (post T 0))), .blk g119 38 #[.int .i64 (a : Int), .int .i64 (b : Int), .int .i64 0], .row (.slice (some ⟨g15, 0, none⟩) ((post T 0).length) c11) 38 3 ((post T 0).length) (ncells (post T 0)), .row (.slice (some ⟨g29, 0, none⟩) ((post T 0).length) c30) 57 2 ((post T 0).length) (vcells (setsOf (post T 0)))]) h325
          refine ⟨_, rfl, ?_⟩
          refine wl_val (v := .bool false) (fun ρ e => ex_move (e _ _ rfl)) rfl rfl ?_
          refine wl_skip rfl rfl ?_
          refine wl_skip rfl rfl ?_
          refine wl_skip rfl rfl ?_
          refine wl_skip rfl rfl ?_
          refine wl_val (v := .bool false) (fun ρ e => ex_pick0 (e _ _ rfl) (e _ _ rfl)) rfl rfl ?_
          refine wl_val (v := .bool false) (fun ρ e => ex_move (e _ _ rfl)) rfl rfl ?_
          refine wl_skip rfl rfl ?_
          refine wl_skip rfl rfl ?_
          refine wl_skip rfl rfl ?_
          refine wl_skip rfl rfl ?_
          refine wl_skip rfl rfl ?_
          refine wl_val (v := .bool false) (fun ρ e => ex_pick0 (e _ _ rfl) (e _ _ rfl)) rfl rfl ?_
          refine wl_nil ?_
          refine xw_next K130 ?_
          refine cw_false rfl ?_
          refine cw_skip ?_
          refine xw_next K129 ?_
          refine cw_seq (fun FK327 K327 => ?_)
          refine cw_region ?_
          refine wl_val (v := .pointer (some ⟨g119, 2, none⟩)) (fun ρ e => ex_field (q := 2) fi38_2 (e _ _ rfl) rfl) rfl rfl ?_
          refine wl_val (v := .int .i64 0) (fun ρ e => ex_load1 ty3 (e _ _ rfl) (O326.cell 2 2 rfl rfl)) rfl rfl ?_
          refine wl_val (v := .bool true) (fun ρ e => ex_cmp (u := 0) (v := 0) (e _ _ rfl) (e _ _ rfl) (eql1 rfl)) rfl rfl ?_
          refine wl_nil ?_
          refine xw_next K327 ?_
          refine cw_true rfl ?_
          refine cw_seq (fun FK328 K328 => ?_)
          refine at_start (fuel := 14) (listed := #[false, false, false, false, false, false, false, false, false, false, false, false, false, false]) (fun X => Own Z0 W X [.blk g36 36 #[.slice (some ⟨g34, 0, none⟩) ((post T 0).length) c35], .row (.slice (some ⟨g34, 0, none⟩) ((post T 0).length) c35) 3 1 ((post T 0).length) (intCs (parsOf (post T 0))), .blk g119 38 #[.int .i64 (a : Int), .int .i64 (b : Int), .int .i64 0], .row (.slice (some ⟨g15, 0, none⟩) ((post T 0).length) c11) 38 3 ((post T 0).length) (ncells (post T 0)), .row (.slice (some ⟨g29, 0, none⟩) ((post T 0).length) c30) 57 2 ((post T 0).length) (vcells (setsOf (post T 0)))]) 14 (by kernel_rfl) rfl (by kernel_rfl) (O326).drew ?_
          have O329 : Own Z0 W w324.drew [.blk g36 36 #[.slice (some ⟨g34, 0, none⟩) ((post T 0).length) c35], .row (.slice (some ⟨g34, 0, none⟩) ((post T 0).length) c35) 3 1 ((post T 0).length) (intCs (parsOf (post T 0))), .blk g119 38 #[.int .i64 (a : Int), .int .i64 (b : Int), .int .i64 0], .row (.slice (some ⟨g15, 0, none⟩) ((post T 0).length) c11) 38 3 ((post T 0).length) (ncells (post T 0)), .row (.slice (some ⟨g29, 0, none⟩) ((post T 0).length) c30) 57 2 ((post T 0).length) (vcells (setsOf (post T 0)))] := O326.drew
          refine at_name (fun AT330 hin331 hout332 => ?_)
          have N365 : ∀ (g333 : Nat) (g345 : Nat) (w366 : World), Own Z0 W w366 [.blk g345 57 #[.int .u64 (sb.a.toNat : Int), .int .u64 (sb.b.toNat : Int)], .blk g333 57 #[.int .u64 (sa.a.toNat : Int), .int .u64 (sa.b.toNat : Int)], .blk g36 36 #[.slice (some ⟨g34, 0, none⟩) ((post T 0).length) c35], .row (.slice (some ⟨g34, 0, none⟩) ((post T 0).length) c35) 3 1 ((post T 0).length) (intCs (parsOf (post T 0))), .blk g119 38 #[.int .i64 (a : Int), .int .i64 (b : Int), .int .i64 0], .row (.slice (some ⟨g15, 0, none⟩) ((post T 0).length) c11) 38 3 ((post T 0).length) (ncells (post T 0)), .row (.slice (some ⟨g29, 0, none⟩) ((post T 0).length) c30) 57 2 ((post T 0).length) (vcells (setsOf (post T 0)))] → AT330 0 #[true, true, true, true, true, true, true, true, true, true, true, true, true, true] 167 [(9, .slice (some ⟨g15, 0, none⟩) ((post T 0).length) c11), (10, .int .i64 (i : Int)), (11, .int .i64 (k : Int)), (12, .int .i64 (m : Int)), (13, .slice (some ⟨g29, 0, none⟩) ((post T 0).length) c30), (14, .pointer (some ⟨g36, 0, none⟩)), (15, .func (.func 46) #[] #[.pointer (some ⟨g36, 0, none⟩)]), (98, .slice (some ⟨g15, 0, none⟩) ((post T 0).length) c11), (99, .int .i64 (((post T 0).length : Nat) : Int)), (100, .int .i64 (n : Int)), (101, .bool true), (102, .int .i64 (n : Int)), (103, .pointer (some ⟨g15, n * 3, none⟩)), (104, .agg #[.int .i64 (a : Int), .int .i64 (b : Int), .int .i64 0]), (17, .pointer (some ⟨g119, 0, none⟩)), (16, .int .i64 (n : Int)), (105, .func (.func 46) #[] #[.pointer (some ⟨g36, 0, none⟩)]), (106, .int .i64 (i : Int)), (107, .int .i64 (n : Int)), (108, .bool false), (109, .bool false), (110, undef), (111, undef), (112, undef), (113, undef), (114, .bool false), (115, .bool false), (116, undef), (117, undef), (118, undef), (119, undef), (120, undef), (121, .bool false), (122, .pointer (some ⟨g119, 2, none⟩)), (123, .int .i64 0), (124, .bool true), (18, .pointer (some ⟨g333, 0, none⟩)), (19, .pointer (some ⟨g345, 0, none⟩))] w366 := by
            intro g333 g345 w366 O367
            refine hin331 _ _ _ _ _ ?_
            refine at_done rfl ?_
            refine xw_next K328 ?_
            refine cw_seq (fun FK368 K368 => ?_)
            refine cw_drawn (fun X => Own Z0 W X [.blk g345 57 #[.int .u64 (sb.a.toNat : Int), .int .u64 (sb.b.toNat : Int)], .blk g333 57 #[.int .u64 (sa.a.toNat : Int), .int .u64 (sa.b.toNat : Int)], .blk g36 36 #[.slice (some ⟨g34, 0, none⟩) ((post T 0).length) c35], .row (.slice (some ⟨g34, 0, none⟩) ((post T 0).length) c35) 3 1 ((post T 0).length) (intCs (parsOf (post T 0))), .blk g119 38 #[.int .i64 (a : Int), .int .i64 (b : Int), .int .i64 0], .row (.slice (some ⟨g15, 0, none⟩) ((post T 0).length) c11) 38 3 ((post T 0).length) (ncells (post T 0)), .row (.slice (some ⟨g29, 0, none⟩) ((post T 0).length) c30) 57 2 ((post T 0).length) (vcells (setsOf (post T 0)))]) 30 [(0, 1), (1, 1), (2, 1), (3, 0), (4, 1), (5, 0), (6, 1), (7, 0), (8, 1), (9, 1), (10, 0), (11, 1), (12, 0), (13, 1), (14, 1), (15, 1), (16, 1), (17, 1), (18, 0), (19, 1), (20, 0), (21, 1), (22, 1), (23, 0), (24, 1), (25, 0), (26, 1), (27, 1), (28, 1), (29, 1)] (by kernel_rfl) (by kernel_rfl) (PQ.then_ (PQ.block (PQ.then_ (PQ.then_ (PQ.block (PQ.then_ PQ.body)))))) (O367).drew ?_
            have O369 : Own Z0 W w366.drew [.blk g345 57 #[.int .u64 (sb.a.toNat : Int), .int .u64 (sb.b.toNat : Int)], .blk g333 57 #[.int .u64 (sa.a.toNat : Int), .int .u64 (sa.b.toNat : Int)], .blk g36 36 #[.slice (some ⟨g34, 0, none⟩) ((post T 0).length) c35], .row (.slice (some ⟨g34, 0, none⟩) ((post T 0).length) c35) 3 1 ((post T 0).length) (intCs (parsOf (post T 0))), .blk g119 38 #[.int .i64 (a : Int), .int .i64 (b : Int), .int .i64 0], .row (.slice (some ⟨g15, 0, none⟩) ((post T 0).length) c11) 38 3 ((post T 0).length) (ncells (post T 0)), .row (.slice (some ⟨g29, 0, none⟩) ((post T 0).length) c30) 57 2 ((post T 0).length) (vcells (setsOf (post T 0)))] := O367.drew
            refine wt1 (v := .slice (some ⟨g29, 0, none⟩) ((post T 0).length) c30) rfl (fun ρ e W => ex_move (e _ _ rfl)) rfl rfl ?_
            refine wt1 (v := .int .i64 (n : Int)) rfl (fun ρ e W => ex_move (e _ _ rfl)) rfl rfl ?_
            refine wt1 (v := .pointer (some ⟨g29, n * 2, none⟩)) rfl (fun ρ e W => ex_idx (q := n * 2) (i := n) el53 (e _ _ rfl) (e _ _ rfl) (by omega) (by omega)) rfl rfl ?_
            refine wt0 (v := .agg #[.int .u64 ((sa.union sb).a.toNat : Int), .int .u64 ((sa.union sb).b.toNat : Int)]) rfl (fun ρ e W hW => ex_loadN (vs := [.int .u64 ((sa.union sb).a.toNat : Int), .int .u64 ((sa.union sb).b.toNat : Int)]) ty57 (e _ _ rfl) rfl (cells2 (rowcell (hW.row 6 rfl) (vcells_get hsn).1) (rowcell (hW.row 6 rfl) (vcells_get hsn).2))) rfl rfl ?_
            refine wt1 (v := .pointer (some ⟨g333, 0, none⟩)) rfl (fun ρ e W => ex_idxA (q := 0) (i := 0) an57 (e _ _ rfl) (e _ _ rfl) (by omega) (by omega)) rfl rfl ?_
            refine wt0 (v := .int .u64 (sa.a.toNat : Int)) rfl (fun ρ e W hW => ex_load1 ty55 (e _ _ rfl) (hW.cell 1 0 rfl rfl)) rfl rfl ?_
            refine wt1 (v := .pointer (some ⟨g345, 0, none⟩)) rfl (fun ρ e W => ex_idxA (q := 0) (i := 0) an57 (e _ _ rfl) (e _ _ rfl) (by omega) (by omega)) rfl rfl ?_
            refine wt0 (v := .int .u64 (sb.a.toNat : Int)) rfl (fun ρ e W hW => ex_load1 ty55 (e _ _ rfl) (hW.cell 0 0 rfl rfl)) rfl rfl ?_
            refine wt1 (v := .int .u64 ((sa.union sb).a.toNat : Int)) rfl (fun ρ e W => ex_or64 (x := sa.a) (y := sb.a) (z := (sa.union sb).a) (e _ _ rfl) (e _ _ rfl) rfl) rfl rfl ?_
            refine wt1 (v := .pointer (some ⟨g333, 1, none⟩)) rfl (fun ρ e W => ex_idxA (q := 1) (i := 1) an57 (e _ _ rfl) (e _ _ rfl) (by omega) (by omega)) rfl rfl ?_
            refine wt0 (v := .int .u64 (sa.b.toNat : Int)) rfl (fun ρ e W hW => ex_load1 ty55 (e _ _ rfl) (hW.cell 1 1 rfl rfl)) rfl rfl ?_
            refine wt1 (v := .pointer (some ⟨g345, 1, none⟩)) rfl (fun ρ e W => ex_idxA (q := 1) (i := 1) an57 (e _ _ rfl) (e _ _ rfl) (by omega) (by omega)) rfl rfl ?_
            refine wt0 (v := .int .u64 (sb.b.toNat : Int)) rfl (fun ρ e W hW => ex_load1 ty55 (e _ _ rfl) (hW.cell 0 1 rfl rfl)) rfl rfl ?_
            refine wt1 (v := .int .u64 ((sa.union sb).b.toNat : Int)) rfl (fun ρ e W => ex_or64 (x := sa.b) (y := sb.b) (z := (sa.union sb).b) (e _ _ rfl) (e _ _ rfl) rfl) rfl rfl ?_
            refine wt1 (v := .agg #[.int .u64 ((sa.union sb).a.toNat : Int), .int .u64 ((sa.union sb).b.toNat : Int)]) rfl (fun ρ e W => ex_buildA (cells := #[.int .u64 ((sa.union sb).a.toNat : Int), .int .u64 ((sa.union sb).b.toNat : Int)]) ar57 (e.parts rfl) rfl) rfl rfl ?_
            refine wt1 (v := .bool false) rfl (fun ρ e W => ex_nesame57 (e _ _ rfl) (e _ _ rfl)) rfl rfl ?_
            refine wt1 (v := .bool false) rfl (fun ρ e W => ex_move (e _ _ rfl)) rfl rfl ?_
            refine wt1 (v := .pointer (some ⟨g333, 0, none⟩)) rfl (fun ρ e W => ex_idxA (q := 0) (i := 0) an57 (e _ _ rfl) (e _ _ rfl) (by omega) (by omega)) rfl rfl ?_
            refine wt0 (v := .int .u64 (sa.a.toNat : Int)) rfl (fun ρ e W hW => ex_load1 ty55 (e _ _ rfl) (hW.cell 1 0 rfl rfl)) rfl rfl ?_
            refine wt1 (v := .pointer (some ⟨g345, 0, none⟩)) rfl (fun ρ e W => ex_idxA (q := 0) (i := 0) an57 (e _ _ rfl) (e _ _ rfl) (by omega) (by omega)) rfl rfl ?_
            refine wt0 (v := .int .u64 (sb.a.toNat : Int)) rfl (fun ρ e W hW => ex_load1 ty55 (e _ _ rfl) (hW.cell 0 0 rfl rfl)) rfl rfl ?_
            refine wt1 (v := .int .u64 0) rfl (fun ρ e W => ex_and0 (x := sa.a) (y := sb.a) (e _ _ rfl) (e _ _ rfl) (congrArg VS.a hcut)) rfl rfl ?_
            refine wt1 (v := .pointer (some ⟨g333, 1, none⟩)) rfl (fun ρ e W => ex_idxA (q := 1) (i := 1) an57 (e _ _ rfl) (e _ _ rfl) (by omega) (by omega)) rfl rfl ?_
            refine wt0 (v := .int .u64 (sa.b.toNat : Int)) rfl (fun ρ e W hW => ex_load1 ty55 (e _ _ rfl) (hW.cell 1 1 rfl rfl)) rfl rfl ?_
            refine wt1 (v := .pointer (some ⟨g345, 1, none⟩)) rfl (fun ρ e W => ex_idxA (q := 1) (i := 1) an57 (e _ _ rfl) (e _ _ rfl) (by omega) (by omega)) rfl rfl ?_
            refine wt0 (v := .int .u64 (sb.b.toNat : Int)) rfl (fun ρ e W hW => ex_load1 ty55 (e _ _ rfl) (hW.cell 0 1 rfl rfl)) rfl rfl ?_
            refine wt1 (v := .int .u64 0) rfl (fun ρ e W => ex_and0 (x := sa.b) (y := sb.b) (e _ _ rfl) (e _ _ rfl) (congrArg VS.b hcut)) rfl rfl ?_
            refine wt1 (v := .int .u64 0) rfl (fun ρ e W => ex_or00 (e _ _ rfl) (e _ _ rfl)) rfl rfl ?_
            refine wt1 (v := .bool false) rfl (fun ρ e W => ex_cmp (u := 0) (v := 0) (e _ _ rfl) (e _ _ rfl) (neq0 rfl)) rfl rfl ?_
            refine wt1 (v := .bool false) rfl (fun ρ e W => ex_pick0 (e _ _ rfl) (e _ _ rfl)) rfl rfl ?_
            refine wt_nil ?_
            refine xw_next K368 ?_
            refine cw_false rfl ?_
            refine cw_skip ?_
            refine xw_block ?_
            refine xw_next K117 ?_
            refine cw_region ?_
            refine wl_val (v := .int .i64 ((n + 1 : Nat) : Int)) (fun ρ e => ex_arith (k := .i64) (u := (n : Int)) (v := 1) (e _ _ rfl) (e _ _ rfl) (congrArg some ((congrArg _ (by omega)).trans (wrap_in (u := ((n + 1 : Nat) : Int)) (by omega) (by omega))))) rfl rfl ?_
            refine wl_val (v := .int .i64 ((n + 1 : Nat) : Int)) (fun ρ e => ex_move (e _ _ rfl)) rfl rfl ?_
            refine wl_nil ?_
            refine xw_round K72 (n + 1) (by show (post T 0).length - (n + 1) < (post T 0).length - n; omega) ⟨(by show n + 1 ≤ (post T 0).length; omega), (O369.re [5, 6, 3, 2] rfl : Own Z0 W w366.drew [.row (.slice (some ⟨g15, 0, none⟩) ((post T 0).length) c11) 38 3 ((post T 0).length) (ncells (post T 0)), .row (.slice (some ⟨g29, 0, none⟩) ((post T 0).length) c30) 57 2 ((post T 0).length) (vcells (setsOf (post T 0))), .row (.slice (some ⟨g34, 0, none⟩) ((post T 0).length) c35) 3 1 ((post T 0).length) (intCs (parsOf (post T 0))), .blk g36 36 #[.slice (some ⟨g34, 0, none⟩) ((post T 0).length) c35]])⟩ ⟨rfl, rfl, rfl, rfl, rfl, rfl, rfl, rfl, rfl, rfl, trivial⟩
          have N370 : ∀ (g333 : Nat) (g345 : Nat) (w371 : World), Own Z0 W w371 [.blk g333 57 #[.int .u64 (sa.a.toNat : Int), .int .u64 (sa.b.toNat : Int)], .blk g345 57 #[.int .u64 0, .int .u64 0], .blk g36 36 #[.slice (some ⟨g34, 0, none⟩) ((post T 0).length) c35], .row (.slice (some ⟨g34, 0, none⟩) ((post T 0).length) c35) 3 1 ((post T 0).length) (intCs (parsOf (post T 0))), .blk g119 38 #[.int .i64 (a : Int), .int .i64 (b : Int), .int .i64 0], .row (.slice (some ⟨g15, 0, none⟩) ((post T 0).length) c11) 38 3 ((post T 0).length) (ncells (post T 0)), .row (.slice (some ⟨g29, 0, none⟩) ((post T 0).length) c30) 57 2 ((post T 0).length) (vcells (setsOf (post T 0)))] → AT330 1 #[true, true, true, true, true, true, true, true, true, true, true, true, true, false] 167 [(9, .slice (some ⟨g15, 0, none⟩) ((post T 0).length) c11), (10, .int .i64 (i : Int)), (11, .int .i64 (k : Int)), (12, .int .i64 (m : Int)), (13, .slice (some ⟨g29, 0, none⟩) ((post T 0).length) c30), (14, .pointer (some ⟨g36, 0, none⟩)), (15, .func (.func 46) #[] #[.pointer (some ⟨g36, 0, none⟩)]), (98, .slice (some ⟨g15, 0, none⟩) ((post T 0).length) c11), (99, .int .i64 (((post T 0).length : Nat) : Int)), (100, .int .i64 (n : Int)), (101, .bool true), (102, .int .i64 (n : Int)), (103, .pointer (some ⟨g15, n * 3, none⟩)), (104, .agg #[.int .i64 (a : Int), .int .i64 (b : Int), .int .i64 0]), (17, .pointer (some ⟨g119, 0, none⟩)), (16, .int .i64 (n : Int)), (105, .func (.func 46) #[] #[.pointer (some ⟨g36, 0, none⟩)]), (106, .int .i64 (i : Int)), (107, .int .i64 (n : Int)), (108, .bool false), (109, .bool false), (110, undef), (111, undef), (112, undef), (113, undef), (114, .bool false), (115, .bool false), (116, undef), (117, undef), (118, undef), (119, undef), (120, undef), (121, .bool false), (122, .pointer (some ⟨g119, 2, none⟩)), (123, .int .i64 0), (124, .bool true), (134, .agg #[.int .u64 (sb.a.toNat : Int), .int .u64 (sb.b.toNat : Int)]), (18, .pointer (some ⟨g333, 0, none⟩)), (19, .pointer (some ⟨g345, 0, none⟩))] w371 := by
            intro g333 g345 w371 O372
            refine hin331 _ _ _ _ _ ?_
            refine at_branch [13] (by kernel_rfl) ⟨?_, trivial⟩
            · skip
              obtain ⟨w373, r374, O375, hs376⟩ := own_put (o := 0) (n := 2) (O372.re [1, 0, 2, 3, 4, 5, 6] rfl : Own Z0 W w371 [.blk g345 57 #[.int .u64 0, .int .u64 0], .blk g333 57 #[.int .u64 (sa.a.toNat : Int), .int .u64 (sa.b.toNat : Int)], .blk g36 36 #[.slice (some ⟨g34, 0, none⟩) ((post T 0).length) c35], .row (.slice (some ⟨g34, 0, none⟩) ((post T 0).length) c35) 3 1 ((post T 0).length) (intCs (parsOf (post T 0))), .blk g119 38 #[.int .i64 (a : Int), .int .i64 (b : Int), .int .i64 0], .row (.slice (some ⟨g15, 0, none⟩) ((post T 0).length) c11) 38 3 ((post T 0).length) (ncells (post T 0)), .row (.slice (some ⟨g29, 0, none⟩) ((post T 0).length) c30) 57 2 ((post T 0).length) (vcells (setsOf (post T 0)))]) ty57 (.agg #[.int .u64 (sb.a.toNat : Int), .int .u64 (sb.b.toNat : Int)]) [.int .u64 (sb.a.toNat : Int), .int .u64 (sb.b.toNat : Int)] (cs' := #[.int .u64 (sb.a.toNat : Int), .int .u64 (sb.b.toNat : Int)]) rfl rfl rfl (Nat.le_of_ble_eq_true rfl) rfl
              refine stp_none (listed' := #[true, true, true, true, true, true, true, true, true, true, true, true, true, true]) rfl rfl (fun ρ e => r374 ρ _ _ _ _ _ _ (e _ _ rfl) (e _ _ rfl)) rfl (fun _ => (O375.re [2, 3, 4, 5, 6] rfl : Own Z0 W w373 [.blk g36 36 #[.slice (some ⟨g34, 0, none⟩) ((post T 0).length) c35], .row (.slice (some ⟨g34, 0, none⟩) ((post T 0).length) c35) 3 1 ((post T 0).length) (intCs (parsOf (post T 0))), .blk g119 38 #[.int .i64 (a : Int), .int .i64 (b : Int), .int .i64 0], .row (.slice (some ⟨g15, 0, none⟩) ((post T 0).length) c11) 38 3 ((post T 0).length) (ncells (post T 0)), .row (.slice (some ⟨g29, 0, none⟩) ((post T 0).length) c30) 57 2 ((post T 0).length) (vcells (setsOf (post T 0)))])) ?_
              exact at_sub2 (hout332 _ _ _ _ _ (N365 g333 g345 w373 O375)) ⟨rfl, rfl, rfl, rfl, rfl, rfl, rfl, rfl, rfl, rfl, rfl, rfl, rfl, rfl, rfl, rfl, rfl, rfl, rfl, rfl, rfl, rfl, rfl, rfl, rfl, rfl, rfl, rfl, rfl, rfl, rfl, rfl, rfl, rfl, rfl, rfl, rfl, rfl, trivial⟩
          have N377 : ∀ (g333 : Nat) (g345 : Nat) (w378 : World), Own Z0 W w378 [.blk g345 57 #[.int .u64 0, .int .u64 0], .blk g333 57 #[.int .u64 0, .int .u64 0], .blk g36 36 #[.slice (some ⟨g34, 0, none⟩) ((post T 0).length) c35], .row (.slice (some ⟨g34, 0, none⟩) ((post T 0).length) c35) 3 1 ((post T 0).length) (intCs (parsOf (post T 0))), .blk g119 38 #[.int .i64 (a : Int), .int .i64 (b : Int), .int .i64 0], .row (.slice (some ⟨g15, 0, none⟩) ((post T 0).length) c11) 38 3 ((post T 0).length) (ncells (post T 0)), .row (.slice (some ⟨g29, 0, none⟩) ((post T 0).length) c30) 57 2 ((post T 0).length) (vcells (setsOf (post T 0)))] → AT330 2 #[true, true, true, true, true, true, true, true, true, true, true, true, false, false] 167 [(9, .slice (some ⟨g15, 0, none⟩) ((post T 0).length) c11), (10, .int .i64 (i : Int)), (11, .int .i64 (k : Int)), (12, .int .i64 (m : Int)), (13, .slice (some ⟨g29, 0, none⟩) ((post T 0).length) c30), (14, .pointer (some ⟨g36, 0, none⟩)), (15, .func (.func 46) #[] #[.pointer (some ⟨g36, 0, none⟩)]), (98, .slice (some ⟨g15, 0, none⟩) ((post T 0).length) c11), (99, .int .i64 (((post T 0).length : Nat) : Int)), (100, .int .i64 (n : Int)), (101, .bool true), (102, .int .i64 (n : Int)), (103, .pointer (some ⟨g15, n * 3, none⟩)), (104, .agg #[.int .i64 (a : Int), .int .i64 (b : Int), .int .i64 0]), (17, .pointer (some ⟨g119, 0, none⟩)), (16, .int .i64 (n : Int)), (105, .func (.func 46) #[] #[.pointer (some ⟨g36, 0, none⟩)]), (106, .int .i64 (i : Int)), (107, .int .i64 (n : Int)), (108, .bool false), (109, .bool false), (110, undef), (111, undef), (112, undef), (113, undef), (114, .bool false), (115, .bool false), (116, undef), (117, undef), (118, undef), (119, undef), (120, undef), (121, .bool false), (122, .pointer (some ⟨g119, 2, none⟩)), (123, .int .i64 0), (124, .bool true), (129, .agg #[.int .u64 (sa.a.toNat : Int), .int .u64 (sa.b.toNat : Int)]), (134, .agg #[.int .u64 (sb.a.toNat : Int), .int .u64 (sb.b.toNat : Int)]), (18, .pointer (some ⟨g333, 0, none⟩)), (19, .pointer (some ⟨g345, 0, none⟩))] w378 := by
            intro g333 g345 w378 O379
            refine hin331 _ _ _ _ _ ?_
            refine at_branch [12] (by kernel_rfl) ⟨?_, trivial⟩
            · skip
              obtain ⟨w380, r381, O382, hs383⟩ := own_put (o := 0) (n := 2) (O379.re [1, 0, 2, 3, 4, 5, 6] rfl : Own Z0 W w378 [.blk g333 57 #[.int .u64 0, .int .u64 0], .blk g345 57 #[.int .u64 0, .int .u64 0], .blk g36 36 #[.slice (some ⟨g34, 0, none⟩) ((post T 0).length) c35], .row (.slice (some ⟨g34, 0, none⟩) ((post T 0).length) c35) 3 1 ((post T 0).length) (intCs (parsOf (post T 0))), .blk g119 38 #[.int .i64 (a : Int), .int .i64 (b : Int), .int .i64 0], .row (.slice (some ⟨g15, 0, none⟩) ((post T 0).length) c11) 38 3 ((post T 0).length) (ncells (post T 0)), .row (.slice (some ⟨g29, 0, none⟩) ((post T 0).length) c30) 57 2 ((post T 0).length) (vcells (setsOf (post T 0)))]) ty57 (.agg #[.int .u64 (sa.a.toNat : Int), .int .u64 (sa.b.toNat : Int)]) [.int .u64 (sa.a.toNat : Int), .int .u64 (sa.b.toNat : Int)] (cs' := #[.int .u64 (sa.a.toNat : Int), .int .u64 (sa.b.toNat : Int)]) rfl rfl rfl (Nat.le_of_ble_eq_true rfl) rfl
              refine stp_none (listed' := #[true, true, true, true, true, true, true, true, true, true, true, true, true, false]) rfl rfl (fun ρ e => r381 ρ _ _ _ _ _ _ (e _ _ rfl) (e _ _ rfl)) rfl (fun _ => (O382.re [2, 3, 4, 5, 6] rfl : Own Z0 W w380 [.blk g36 36 #[.slice (some ⟨g34, 0, none⟩) ((post T 0).length) c35], .row (.slice (some ⟨g34, 0, none⟩) ((post T 0).length) c35) 3 1 ((post T 0).length) (intCs (parsOf (post T 0))), .blk g119 38 #[.int .i64 (a : Int), .int .i64 (b : Int), .int .i64 0], .row (.slice (some ⟨g15, 0, none⟩) ((post T 0).length) c11) 38 3 ((post T 0).length) (ncells (post T 0)), .row (.slice (some ⟨g29, 0, none⟩) ((post T 0).length) c30) 57 2 ((post T 0).length) (vcells (setsOf (post T 0)))])) ?_
              exact at_sub2 (hout332 _ _ _ _ _ (N370 g333 g345 w380 O382)) ⟨rfl, rfl, rfl, rfl, rfl, rfl, rfl, rfl, rfl, rfl, rfl, rfl, rfl, rfl, rfl, rfl, rfl, rfl, rfl, rfl, rfl, rfl, rfl, rfl, rfl, rfl, rfl, rfl, rfl, rfl, rfl, rfl, rfl, rfl, rfl, rfl, rfl, rfl, rfl, trivial⟩
          have N384 : ∀ (g339 : Nat) (w385 : World), Own Z0 W w385 [.blk g339 57 #[.int .u64 0, .int .u64 0], .blk g36 36 #[.slice (some ⟨g34, 0, none⟩) ((post T 0).length) c35], .row (.slice (some ⟨g34, 0, none⟩) ((post T 0).length) c35) 3 1 ((post T 0).length) (intCs (parsOf (post T 0))), .blk g119 38 #[.int .i64 (a : Int), .int .i64 (b : Int), .int .i64 0], .row (.slice (some ⟨g15, 0, none⟩) ((post T 0).length) c11) 38 3 ((post T 0).length) (ncells (post T 0)), .row (.slice (some ⟨g29, 0, none⟩) ((post T 0).length) c30) 57 2 ((post T 0).length) (vcells (setsOf (post T 0)))] → AT330 3 #[true, true, true, true, true, true, true, true, true, true, false, true, false, false] 167 [(9, .slice (some ⟨g15, 0, none⟩) ((post T 0).length) c11), (10, .int .i64 (i : Int)), (11, .int .i64 (k : Int)), (12, .int .i64 (m : Int)), (13, .slice (some ⟨g29, 0, none⟩) ((post T 0).length) c30), (14, .pointer (some ⟨g36, 0, none⟩)), (15, .func (.func 46) #[] #[.pointer (some ⟨g36, 0, none⟩)]), (98, .slice (some ⟨g15, 0, none⟩) ((post T 0).length) c11), (99, .int .i64 (((post T 0).length : Nat) : Int)), (100, .int .i64 (n : Int)), (101, .bool true), (102, .int .i64 (n : Int)), (103, .pointer (some ⟨g15, n * 3, none⟩)), (104, .agg #[.int .i64 (a : Int), .int .i64 (b : Int), .int .i64 0]), (17, .pointer (some ⟨g119, 0, none⟩)), (16, .int .i64 (n : Int)), (105, .func (.func 46) #[] #[.pointer (some ⟨g36, 0, none⟩)]), (106, .int .i64 (i : Int)), (107, .int .i64 (n : Int)), (108, .bool false), (109, .bool false), (110, undef), (111, undef), (112, undef), (113, undef), (114, .bool false), (115, .bool false), (116, undef), (117, undef), (118, undef), (119, undef), (120, undef), (121, .bool false), (122, .pointer (some ⟨g119, 2, none⟩)), (123, .int .i64 0), (124, .bool true), (129, .agg #[.int .u64 (sa.a.toNat : Int), .int .u64 (sa.b.toNat : Int)]), (134, .agg #[.int .u64 (sb.a.toNat : Int), .int .u64 (sb.b.toNat : Int)]), (19, .pointer (some ⟨g339, 0, none⟩))] w385 := by
            intro g339 w385 O386
            refine hin331 _ _ _ _ _ ?_
            refine at_branch [10] (by kernel_rfl) ⟨?_, trivial⟩
            · skip
              obtain ⟨g387, w388, r389, O390, hg391, hs392⟩ := own_alloc O386 57 ze57 rfl
              refine stp_val (v := .pointer (some ⟨g387, 0, none⟩)) (listed' := #[true, true, true, true, true, true, true, true, true, true, true, true, false, false]) rfl rfl (fun ρ e => r389 ρ _ _ _ _ _) rfl rfl (fun _ => (O390.re [2, 3, 4, 5, 6] rfl : Own Z0 W w388 [.blk g36 36 #[.slice (some ⟨g34, 0, none⟩) ((post T 0).length) c35], .row (.slice (some ⟨g34, 0, none⟩) ((post T 0).length) c35) 3 1 ((post T 0).length) (intCs (parsOf (post T 0))), .blk g119 38 #[.int .i64 (a : Int), .int .i64 (b : Int), .int .i64 0], .row (.slice (some ⟨g15, 0, none⟩) ((post T 0).length) c11) 38 3 ((post T 0).length) (ncells (post T 0)), .row (.slice (some ⟨g29, 0, none⟩) ((post T 0).length) c30) 57 2 ((post T 0).length) (vcells (setsOf (post T 0)))])) ?_
              exact at_sub2 (hout332 _ _ _ _ _ (N377 g387 g339 w388 (O390.re [1, 0, 2, 3, 4, 5, 6] rfl : Own Z0 W w388 [.blk g339 57 #[.int .u64 0, .int .u64 0], .blk g387 57 #[.int .u64 0, .int .u64 0], .blk g36 36 #[.slice (some ⟨g34, 0, none⟩) ((post T 0).length) c35], .row (.slice (some ⟨g34, 0, none⟩) ((post T 0).length) c35) 3 1 ((post T 0).length) (intCs (parsOf (post T 0))), .blk g119 38 #[.int .i64 (a : Int), .int .i64 (b : Int), .int .i64 0], .row (.slice (some ⟨g15, 0, none⟩) ((post T 0).length) c11) 38 3 ((post T 0).length) (ncells (post T 0)), .row (.slice (some ⟨g29, 0, none⟩) ((post T 0).length) c30) 57 2 ((post T 0).length) (vcells (setsOf (post T 0)))]))) ⟨rfl, rfl, rfl, rfl, rfl, rfl, rfl, rfl, rfl, rfl, rfl, rfl, rfl, rfl, rfl, rfl, rfl, rfl, rfl, rfl, rfl, rfl, rfl, rfl, rfl, rfl, rfl, rfl, rfl, rfl, rfl, rfl, rfl, rfl, rfl, rfl, rfl, rfl, rfl, rfl, trivial⟩
          have N393 : ∀ (g333 : Nat) (w394 : World), Own Z0 W w394 [.blk g333 57 #[.int .u64 0, .int .u64 0], .blk g36 36 #[.slice (some ⟨g34, 0, none⟩) ((post T 0).length) c35], .row (.slice (some ⟨g34, 0, none⟩) ((post T 0).length) c35) 3 1 ((post T 0).length) (intCs (parsOf (post T 0))), .blk g119 38 #[.int .i64 (a : Int), .int .i64 (b : Int), .int .i64 0], .row (.slice (some ⟨g15, 0, none⟩) ((post T 0).length) c11) 38 3 ((post T 0).length) (ncells (post T 0)), .row (.slice (some ⟨g29, 0, none⟩) ((post T 0).length) c30) 57 2 ((post T 0).length) (vcells (setsOf (post T 0)))] → AT330 3 #[true, true, true, true, true, true, true, true, true, true, true, false, false, false] 167 [(9, .slice (some ⟨g15, 0, none⟩) ((post T 0).length) c11), (10, .int .i64 (i : Int)), (11, .int .i64 (k : Int)), (12, .int .i64 (m : Int)), (13, .slice (some ⟨g29, 0, none⟩) ((post T 0).length) c30), (14, .pointer (some ⟨g36, 0, none⟩)), (15, .func (.func 46) #[] #[.pointer (some ⟨g36, 0, none⟩)]), (98, .slice (some ⟨g15, 0, none⟩) ((post T 0).length) c11), (99, .int .i64 (((post T 0).length : Nat) : Int)), (100, .int .i64 (n : Int)), (101, .bool true), (102, .int .i64 (n : Int)), (103, .pointer (some ⟨g15, n * 3, none⟩)), (104, .agg #[.int .i64 (a : Int), .int .i64 (b : Int), .int .i64 0]), (17, .pointer (some ⟨g119, 0, none⟩)), (16, .int .i64 (n : Int)), (105, .func (.func 46) #[] #[.pointer (some ⟨g36, 0, none⟩)]), (106, .int .i64 (i : Int)), (107, .int .i64 (n : Int)), (108, .bool false), (109, .bool false), (110, undef), (111, undef), (112, undef), (113, undef), (114, .bool false), (115, .bool false), (116, undef), (117, undef), (118, undef), (119, undef), (120, undef), (121, .bool false), (122, .pointer (some ⟨g119, 2, none⟩)), (123, .int .i64 0), (124, .bool true), (129, .agg #[.int .u64 (sa.a.toNat : Int), .int .u64 (sa.b.toNat : Int)]), (134, .agg #[.int .u64 (sb.a.toNat : Int), .int .u64 (sb.b.toNat : Int)]), (18, .pointer (some ⟨g333, 0, none⟩))] w394 := by
            intro g333 w394 O395
            refine hin331 _ _ _ _ _ ?_
            refine at_branch [11] (by kernel_rfl) ⟨?_, trivial⟩
            · skip
              obtain ⟨g396, w397, r398, O399, hg400, hs401⟩ := own_alloc O395 57 ze57 rfl
              refine stp_val (v := .pointer (some ⟨g396, 0, none⟩)) (listed' := #[true, true, true, true, true, true, true, true, true, true, true, true, false, false]) rfl rfl (fun ρ e => r398 ρ _ _ _ _ _) rfl rfl (fun _ => (O399.re [2, 3, 4, 5, 6] rfl : Own Z0 W w397 [.blk g36 36 #[.slice (some ⟨g34, 0, none⟩) ((post T 0).length) c35], .row (.slice (some ⟨g34, 0, none⟩) ((post T 0).length) c35) 3 1 ((post T 0).length) (intCs (parsOf (post T 0))), .blk g119 38 #[.int .i64 (a : Int), .int .i64 (b : Int), .int .i64 0], .row (.slice (some ⟨g15, 0, none⟩) ((post T 0).length) c11) 38 3 ((post T 0).length) (ncells (post T 0)), .row (.slice (some ⟨g29, 0, none⟩) ((post T 0).length) c30) 57 2 ((post T 0).length) (vcells (setsOf (post T 0)))])) ?_
              exact at_sub2 (hout332 _ _ _ _ _ (N377 g333 g396 w397 O399)) ⟨rfl, rfl, rfl, rfl, rfl, rfl, rfl, rfl, rfl, rfl, rfl, rfl, rfl, rfl, rfl, rfl, rfl, rfl, rfl, rfl, rfl, rfl, rfl, rfl, rfl, rfl, rfl, rfl, rfl, rfl, rfl, rfl, rfl, rfl, rfl, rfl, rfl, rfl, rfl, rfl, trivial⟩
          refine hin331 _ _ _ _ _ ?_
          refine at_take1 (v := .slice (some ⟨g29, 0, none⟩) ((post T 0).length) c30) (i := 0) (listed' := #[true, false, false, false, false, false, false, false, false, false, false, false, false, false]) rfl (by kernel_rfl) (PQ.then_ (PQ.block (PQ.then_ (PQ.then_ (PQ.block (PQ.then_ PQ.body)))))) (fun _ => O329) (fun ρ e W => ex_move (e _ _ rfl)) rfl rfl ?_
          refine at_take1 (v := .pointer (some ⟨g119, 0, none⟩)) (i := 1) (listed' := #[true, true, false, false, false, false, false, false, false, false, false, false, false, false]) rfl (by kernel_rfl) (PQ.then_ (PQ.block (PQ.then_ (PQ.then_ (PQ.block (PQ.then_ PQ.body)))))) (fun _ => O329) (fun ρ e W => ex_field (q := 0) fi38_0 (e _ _ rfl) rfl) rfl rfl ?_
          refine at_take0 (v := .int .i64 (a : Int)) (i := 2) (listed' := #[true, true, true, false, false, false, false, false, false, false, false, false, false, false]) rfl (by kernel_rfl) (PQ.then_ (PQ.block (PQ.then_ (PQ.then_ (PQ.block (PQ.then_ PQ.body)))))) O329 (fun ρ e W hW => ex_load1 ty3 (e _ _ rfl) (hW.cell 2 0 rfl rfl)) rfl rfl ?_
          refine at_take1 (v := .pointer (some ⟨g29, a * 2, none⟩)) (i := 3) (listed' := #[true, true, true, true, false, false, false, false, false, false, false, false, false, false]) rfl (by kernel_rfl) (PQ.then_ (PQ.block (PQ.then_ (PQ.then_ (PQ.block (PQ.then_ PQ.body)))))) (fun _ => O329) (fun ρ e W => ex_idx (q := a * 2) (i := a) el53 (e _ _ rfl) (e _ _ rfl) (by omega) (by omega)) rfl rfl ?_
          refine at_take0 (v := .agg #[.int .u64 (sa.a.toNat : Int), .int .u64 (sa.b.toNat : Int)]) (i := 4) (listed' := #[true, true, true, true, true, false, false, false, false, false, false, false, false, false]) rfl (by kernel_rfl) (PQ.then_ (PQ.block (PQ.then_ (PQ.then_ (PQ.block (PQ.then_ PQ.body)))))) O329 (fun ρ e W hW => ex_loadN (vs := [.int .u64 (sa.a.toNat : Int), .int .u64 (sa.b.toNat : Int)]) ty57 (e _ _ rfl) rfl (cells2 (rowcell (hW.row 4 rfl) (vcells_get hsa).1) (rowcell (hW.row 4 rfl) (vcells_get hsa).2))) rfl rfl ?_
          refine at_take1 (v := .slice (some ⟨g29, 0, none⟩) ((post T 0).length) c30) (i := 5) (listed' := #[true, true, true, true, true, true, false, false, false, false, false, false, false, false]) rfl (by kernel_rfl) (PQ.then_ (PQ.block (PQ.then_ (PQ.then_ (PQ.block (PQ.then_ PQ.body)))))) (fun _ => O329) (fun ρ e W => ex_move (e _ _ rfl)) rfl rfl ?_
          refine at_take1 (v := .pointer (some ⟨g119, 1, none⟩)) (i := 6) (listed' := #[true, true, true, true, true, true, true, false, false, false, false, false, false, false]) rfl (by kernel_rfl) (PQ.then_ (PQ.block (PQ.then_ (PQ.then_ (PQ.block (PQ.then_ PQ.body)))))) (fun _ => O329) (fun ρ e W => ex_field (q := 1) fi38_1 (e _ _ rfl) rfl) rfl rfl ?_
          refine at_take0 (v := .int .i64 (b : Int)) (i := 7) (listed' := #[true, true, true, true, true, true, true, true, false, false, false, false, false, false]) rfl (by kernel_rfl) (PQ.then_ (PQ.block (PQ.then_ (PQ.then_ (PQ.block (PQ.then_ PQ.body)))))) O329 (fun ρ e W hW => ex_load1 ty3 (e _ _ rfl) (hW.cell 2 1 rfl rfl)) rfl rfl ?_
          refine at_take1 (v := .pointer (some ⟨g29, b * 2, none⟩)) (i := 8) (listed' := #[true, true, true, true, true, true, true, true, true, false, false, false, false, false]) rfl (by kernel_rfl) (PQ.then_ (PQ.block (PQ.then_ (PQ.then_ (PQ.block (PQ.then_ PQ.body)))))) (fun _ => O329) (fun ρ e W => ex_idx (q := b * 2) (i := b) el53 (e _ _ rfl) (e _ _ rfl) (by omega) (by omega)) rfl rfl ?_
          refine at_take0 (v := .agg #[.int .u64 (sb.a.toNat : Int), .int .u64 (sb.b.toNat : Int)]) (i := 9) (listed' := #[true, true, true, true, true, true, true, true, true, true, false, false, false, false]) rfl (by kernel_rfl) (PQ.then_ (PQ.block (PQ.then_ (PQ.then_ (PQ.block (PQ.then_ PQ.body)))))) O329 (fun ρ e W hW => ex_loadN (vs := [.int .u64 (sb.a.toNat : Int), .int .u64 (sb.b.toNat : Int)]) ty57 (e _ _ rfl) rfl (cells2 (rowcell (hW.row 4 rfl) (vcells_get hsb).1) (rowcell (hW.row 4 rfl) (vcells_get hsb).2))) rfl rfl ?_
          refine at_branch [10, 11] (by kernel_rfl) ⟨?_, ?_, trivial⟩
          · skip
            obtain ⟨g402, w403, r404, O405, hg406, hs407⟩ := own_alloc O329 57 ze57 rfl
            refine stp_val (v := .pointer (some ⟨g402, 0, none⟩)) (listed' := #[true, true, true, true, true, true, true, true, true, true, true, false, false, false]) rfl rfl (fun ρ e => r404 ρ _ _ _ _ _) rfl rfl (fun _ => (O405.re [1, 2, 3, 4, 5] rfl : Own Z0 W w403 [.blk g36 36 #[.slice (some ⟨g34, 0, none⟩) ((post T 0).length) c35], .row (.slice (some ⟨g34, 0, none⟩) ((post T 0).length) c35) 3 1 ((post T 0).length) (intCs (parsOf (post T 0))), .blk g119 38 #[.int .i64 (a : Int), .int .i64 (b : Int), .int .i64 0], .row (.slice (some ⟨g15, 0, none⟩) ((post T 0).length) c11) 38 3 ((post T 0).length) (ncells (post T 0)), .row (.slice (some ⟨g29, 0, none⟩) ((post T 0).length) c30) 57 2 ((post T 0).length) (vcells (setsOf (post T 0)))])) ?_
            exact at_sub2 (hout332 _ _ _ _ _ (N393 g402 w403 O405)) ⟨rfl, rfl, rfl, rfl, rfl, rfl, rfl, rfl, rfl, rfl, rfl, rfl, rfl, rfl, rfl, rfl, rfl, rfl, rfl, rfl, rfl, rfl, rfl, rfl, rfl, rfl, rfl, rfl, rfl, rfl, rfl, rfl, rfl, rfl, rfl, rfl, rfl, rfl, rfl, trivial⟩
          · skip
            obtain ⟨g408, w409, r410, O411, hg412, hs413⟩ := own_alloc O329 57 ze57 rfl
            refine stp_val (v := .pointer (some ⟨g408, 0, none⟩)) (listed' := #[true, true, true, true, true, true, true, true, true, true, false, true, false, false]) rfl rfl (fun ρ e => r410 ρ _ _ _ _ _) rfl rfl (fun _ => (O411.re [1, 2, 3, 4, 5] rfl : Own Z0 W w409 [.blk g36 36 #[.slice (some ⟨g34, 0, none⟩) ((post T 0).length) c35], .row (.slice (some ⟨g34, 0, none⟩) ((post T 0).length) c35) 3 1 ((post T 0).length) (intCs (parsOf (post T 0))), .blk g119 38 #[.int .i64 (a : Int), .int .i64 (b : Int), .int .i64 0], .row (.slice (some ⟨g15, 0, none⟩) ((post T 0).length) c11) 38 3 ((post T 0).length) (ncells (post T 0)), .row (.slice (some ⟨g29, 0, none⟩) ((post T 0).length) c30) 57 2 ((post T 0).length) (vcells (setsOf (post T 0)))])) ?_
            exact at_sub2 (hout332 _ _ _ _ _ (N384 g408 w409 O411)) ⟨rfl, rfl, rfl, rfl, rfl, rfl, rfl, rfl, rfl, rfl, rfl, rfl, rfl, rfl, rfl, rfl, rfl, rfl, rfl, rfl, rfl, rfl, rfl, rfl, rfl, rfl, rfl, rfl, rfl, rfl, rfl, rfl, rfl, rfl, rfl, rfl, rfl, rfl, rfl, trivial⟩
    · skip
      refine cw_seq (fun FK414 K414 => ?_)
      refine cw_region ?_
      refine wl_val (v := .bool false) (fun ρ e => ex_cmp (u := (n : Int)) (v := (((post T 0).length : Nat) : Int)) (e _ _ rfl) (e _ _ rfl) (lss0 (by omega))) rfl rfl ?_
      refine wl_nil ?_
      refine xw_next K414 ?_
      refine cw_seq (fun FK415 K415 => ?_)
      refine cw_false rfl ?_
      refine cw_exit ?_
      refine xw_past (by intro h; cases h) ?_
      refine xw_past (by intro h; cases h) ?_
      refine xw_here ?_
      refine xw_next K67 ?_
      refine cw_seq (fun FK416 K416 => ?_)
      refine cw_region ?_
      refine wl_call (args := []) in_14 rfl rfl rfl ?_
      refine (works_ (tab.below (Nat.le_refl _) O73.old)).mono ?_
      rintro _ w417 ⟨rfl, hb418⟩
      have O419 : Own Z0 W w417 [.row (.slice (some ⟨g15, 0, none⟩) ((post T 0).length) c11) 38 3 ((post T 0).length) (ncells (post T 0)), .row (.slice (some ⟨g29, 0, none⟩) ((post T 0).length) c30) 57 2 ((post T 0).length) (vcells (setsOf (post T 0))), .row (.slice (some ⟨g34, 0, none⟩) ((post T 0).length) c35) 3 1 ((post T 0).length) (intCs (parsOf (post T 0))), .blk g36 36 #[.slice (some ⟨g34, 0, none⟩) ((post T 0).length) c35]] := O73.below hb418
      refine ⟨_, rfl, ?_⟩
      refine wl_val (v := .bool true) (fun ρ e => ex_assign (e _ _ rfl)) rfl rfl ?_
      refine wl_nil ?_
      refine xw_next K416 ?_
      refine cw_ret ?_
      refine xw_ret (v := .bool true) (fun T hT => res1 rfl T _ (hT 8 _ rfl)) ?_
      exact ⟨rfl, O419.old⟩

end Go.Proofs.YtpeoodkepjhhiaaDoor
