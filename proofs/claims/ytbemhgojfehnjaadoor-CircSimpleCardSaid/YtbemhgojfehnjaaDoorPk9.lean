/-
  Lemmas and contracts, joined: Cvars Claw3 Dag.
-/
import Derived.Test.YtbemhgojfehnjaaDoorPk8
import Derived.Test.YtbemhgojfehnjaaDoorPk1
namespace Go.Proofs.YtbemhgojfehnjaaDoor
open Go Go.RowKit
def vlist : List Gate → List Int
  | [] => []
  | g :: r => if g.kind = 2 then litVar g.lit :: vlist r else vlist r
def varsOf (N : Int) (gs : List Gate) : VS := if checkOf N gs ≠ 0 then VS.empty else VS.ofList (vlist gs)
theorem vlist_one (l : List Gate) (g : Gate) (h : g.kind = 2) : vlist (l ++ [g]) = vlist l ++ [litVar g.lit] := by
  induction l with
  | nil => simp [vlist, h]
  | cons x l ih =>
    rw [List.cons_append, vlist, vlist, ih]
    split <;> rfl
theorem vlist_no (l : List Gate) (g : Gate) (h : ¬ g.kind = 2) : vlist (l ++ [g]) = vlist l := by
  induction l with
  | nil => simp [vlist, h]
  | cons x l ih =>
    rw [List.cons_append, vlist, vlist, ih]
theorem VS.with_comm (s : VS) (u v : Int) : (s.with_ u).with_ v = (s.with_ v).with_ u := by
  unfold VS.with_
  simp only [VS.mk.injEq]
  exact ⟨by rw [BitVec.or_assoc, BitVec.or_comm (VS.bit u).a, ← BitVec.or_assoc], by rw [BitVec.or_assoc, BitVec.or_comm (VS.bit u).b, ← BitVec.or_assoc]⟩
theorem VS.ofList_snoc (l : List Int) (v : Int) : VS.ofList (l ++ [v]) = (VS.ofList l).with_ v := by
  induction l with
  | nil => rfl
  | cons x l ih => rw [List.cons_append, VS.ofList, ih, VS.with_comm]; rfl
theorem ex_max {ρ : Operand → Value} {d : Option Tmp} {x y : Operand} {t : TypeId} {pos : String} {aft : Array Edge} {gd : Option (Nat × Bool)} {w : World} {u v r : Int} (hx : ρ x = .int .i64 u) (hy : ρ y = .int .i64 v) (h : (if v > u then v else u) = r) : (execOp ρ ⟨d, .call ⟨.builtin .max, #[x, y], #[3, 3]⟩, t, pos, aft, gd⟩).run Tryd.prog w = .ok (.value (.int .i64 r)) w := by
  subst h
  unfold execOp
  simp only [resolve, invoke, builtin, Sem.run_bind, Sem.run_pure, Result.andThen_ok, List.map_toArray, List.map_cons, List.map_nil, hx, hy, Builtin.max_, List.foldlM, Builtin.max2]
theorem max_lit {N : Int} {g : Gate} (h0 : 0 ≤ N) (h1 : N ≤ 128) (hg : litGood N g = true) (hk : g.kind = 2) : (if -g.lit > g.lit then -g.lit else g.lit) = litVar g.lit := by
  unfold litGood at hg
  rw [if_pos hk, litOk_iff _ _ h0 h1] at hg
  unfold litVar
  split <;> split <;> (try split) <;> omega
theorem cvars_ {W : World} {V : Value} {N : Int} {gs : List Gate} (hV : GatesV W W.heap.size V gs) (hsz : sizeOf gs ≤ 4611686018427387904) : Calls Tryd.prog 30 #[.agg #[.int .i64 N, V]] W fun e w' => e = .returned (.agg #[.int .u64 ((varsOf N gs).a.toNat : Int), .int .u64 ((varsOf N gs).b.toNat : Int)]) ∧ Below W.heap.size W w' := by
  obtain ⟨A, c, rfl, _, _, _⟩ := id hV
  have O0 : Own Z0 W W [] := Own.start W
  refine sx_enter (args := [.agg #[.int .i64 N, .slice A gs.length c]]) Tryd.func30 rfl rfl (by simp) ?_
  refine cw_seq (fun FK1 K1 => ?_)
  refine cw_region ?_
  obtain ⟨g2, w3, r4, O5, hg6, hs7⟩ := own_box O0 24 (.agg #[.int .i64 N, .slice A gs.length c]) rfl
  refine wl_val (v := .pointer (some ⟨g2, 0, none⟩)) (fun ρ e => r4 ρ _ _ _ _ _ _ (e _ _ rfl)) rfl rfl ?_
  obtain ⟨g8, w9, r10, O11, hg12, hs13⟩ := own_alloc O5 27 ze27 rfl
  refine wl_val (v := .pointer (some ⟨g8, 0, none⟩)) (fun ρ e => r10 ρ _ _ _ _ _) rfl rfl ?_
  refine wl_nil ?_
  refine xw_next K1 ?_
  refine cw_seq (fun FK14 K14 => ?_)
  refine cw_region ?_
  obtain ⟨g15, w16, r17, O18, hg19, hs20⟩ := own_alloc O11 27 ze27 rfl
  refine wl_val (v := .pointer (some ⟨g15, 0, none⟩)) (fun ρ e => r17 ρ _ _ _ _ _) rfl rfl ?_
  refine wl_nil ?_
  refine xw_next K14 ?_
  refine cw_seq (fun FK21 K21 => ?_)
  refine cw_seq (fun FK22 K22 => ?_)
  refine cw_region ?_
  refine wl_val (v := .agg #[.int .i64 N, .slice A gs.length c]) (fun ρ e => ex_loadN (vs := [.int .i64 N, .slice A gs.length c]) ty24 (e _ _ rfl) rfl (O18.cells 2 0 rfl rfl)) rfl rfl ?_
  refine wl_call (args := [.agg #[.int .i64 N, .slice A gs.length c]]) in_22 rfl rfl rfl ?_
  refine (circ_check N _ gs _ W.heap.size O18.old.size (hV.below O18.old) hsz).mono ?_
  rintro _ w23 ⟨rfl, hb24⟩
  have O25 : Own Z0 W w23 [.blk g15 27 #[.int .u64 0, .int .u64 0], .blk g8 27 #[.int .u64 0, .int .u64 0], .blk g2 24 #[.int .i64 N, .slice A gs.length c]] := O18.below hb24
  refine ⟨_, rfl, ?_⟩
  by_cases c26 : (checkOf N gs) ≠ 0
  · skip
    refine wl_val (v := .bool true) (fun ρ e => ex_cmp (u := (checkOf N gs)) (v := 0) (e _ _ rfl) (e _ _ rfl) (neq1 (by omega))) rfl rfl ?_
    refine wl_nil ?_
    refine xw_next K22 ?_
    refine cw_true rfl ?_
    refine cw_seq (fun FK27 K27 => ?_)
    refine cw_region ?_
    refine wl_val (v := .agg #[.int .u64 0, .int .u64 0]) (fun ρ e => ex_loadN (vs := [.int .u64 0, .int .u64 0]) ty27 (e _ _ rfl) rfl (O25.cells 0 0 rfl rfl)) rfl rfl ?_
    obtain ⟨w28, r29, O30, hs31⟩ := own_put (o := 0) (n := 2) (O25.re [1, 0, 2] rfl : Own Z0 W w23 [.blk g8 27 #[.int .u64 0, .int .u64 0], .blk g15 27 #[.int .u64 0, .int .u64 0], .blk g2 24 #[.int .i64 N, .slice A gs.length c]]) ty27 (.agg #[.int .u64 0, .int .u64 0]) [.int .u64 0, .int .u64 0] (cs' := #[.int .u64 0, .int .u64 0]) rfl rfl rfl (Nat.le_of_ble_eq_true rfl) rfl
    refine wl_none (fun ρ e => r29 ρ _ _ _ _ _ _ (e _ _ rfl) (e _ _ rfl)) rfl ?_
    refine wl_nil ?_
    refine xw_next K27 ?_
    refine cw_ret ?_
    refine xw_past (by intro h; cases h) ?_
    refine xw_ret (v := .agg #[.int .u64 0, .int .u64 0]) (fun T hT => res1c rfl T _ (hT 2 _ rfl) (run_loadN (vs := [.int .u64 0, .int .u64 0]) ty27 rfl (O30.cells 0 0 rfl rfl))) ?_
    exact ⟨by unfold varsOf; rw [if_pos c26]; rfl, O30.old⟩
  · skip
    have c0 : checkOf N gs = 0 := by omega
    obtain ⟨hN0, hN1, hgl, hsz2, hg0, hgt⟩ := check_zero c0
    refine wl_val (v := .bool false) (fun ρ e => ex_cmp (u := (checkOf N gs)) (v := 0) (e _ _ rfl) (e _ _ rfl) (neq0 (by omega))) rfl rfl ?_
    refine wl_nil ?_
    refine xw_next K22 ?_
    refine cw_false rfl ?_
    refine cw_skip ?_
    refine xw_next K21 ?_
    refine cw_seq (fun FK32 K32 => ?_)
    refine cw_seq (fun FK33 K33 => ?_)
    refine cw_region ?_
    refine wl_val (v := .pointer (some ⟨g2, 1, none⟩)) (fun ρ e => ex_field (q := 1) fi24_1 (e _ _ rfl) rfl) rfl rfl ?_
    refine wl_val (v := .slice A gs.length c) (fun ρ e => ex_load1 ty22 (e _ _ rfl) (O25.cell 2 1 rfl rfl)) rfl rfl ?_
    refine wl_val (v := .int .i64 ((gs.length : Nat) : Int)) (fun ρ e => ex_len el22 (e _ _ rfl)) rfl rfl ?_
    refine wl_val (v := .int .i64 0) (fun ρ e => ex_move (e _ _ rfl)) rfl rfl ?_
    refine wl_nil ?_
    refine xw_next K33 ?_
    refine cw_block ?_
    have O34 : Own Z0 W w23 [.blk g15 27 #[.int .u64 0, .int .u64 0], .blk g8 27 #[.int .u64 0, .int .u64 0], .blk g2 24 #[.int .i64 N, .slice A gs.length c]] := O25
    have O35 : Own Z0 W w23 [.blk g15 27 #[.int .u64 (VS.empty.a.toNat : Int), .int .u64 (VS.empty.b.toNat : Int)], .blk g8 27 #[.int .u64 0, .int .u64 0], .blk g2 24 #[.int .i64 N, .slice A gs.length c]] := O34
    refine cw_loop (ι := Nat × VS) (fun q => [(1, .pointer (some ⟨g2, 0, none⟩)), (2, .pointer (some ⟨g8, 0, none⟩)), (3, .pointer (some ⟨g15, 0, none⟩)), (11, .slice A gs.length c), (12, .int .i64 ((gs.length : Nat) : Int)), (13, .int .i64 (q.1 : Int))]) (fun q X => (q.1 ≤ gs.length) ∧ (q.2 = VS.ofList (vlist (gs.take q.1))) ∧ Own Z0 W X [.blk g15 27 #[.int .u64 (q.2.a.toNat : Int), .int .u64 (q.2.b.toNat : Int)], .blk g8 27 #[.int .u64 0, .int .u64 0], .blk g2 24 #[.int .i64 N, .slice A gs.length c]]) (fun q => gs.length - q.1) (0, VS.empty) ⟨Nat.zero_le _, rfl, O35⟩ ⟨rfl, rfl, rfl, rfl, rfl, rfl, trivial⟩ (fun q w36 hJ F37 K38 => ?_)
    obtain ⟨i, s⟩ := q
    obtain ⟨hi0, hs, O39⟩ := hJ
    dsimp only at hi0 hs O39 ⊢
    by_cases hk : i < gs.length
    · obtain ⟨bG, oG, AI, cI, hbA, hbB, k0, k1, k2, hIV, hIc, hIm⟩ := hV.at_ (Below.refl _ _) hk
      have hgi := (goodTo_iff N gs gs.length).1 hgt i hk
      rw [goodAt_eq N gs i hk] at hgi
      have hls := lit_small (good_parts hgi).2.1
      unfold smallI at hls
      have htk : gs.take (i + 1) = gs.take i ++ [gs[i]] := (List.take_append_getElem hk).symm
      refine cw_seq (fun FK40 K40 => ?_)
      refine cw_region ?_
      refine wl_val (v := .bool true) (fun ρ e => ex_cmp (u := (i : Int)) (v := ((gs.length : Nat) : Int)) (e _ _ rfl) (e _ _ rfl) (lss1 (by omega))) rfl rfl ?_
      refine wl_nil ?_
      refine xw_next K40 ?_
      refine cw_seq (fun FK41 K41 => ?_)
      refine cw_true rfl ?_
      refine cw_skip ?_
      refine xw_next K41 ?_
      refine cw_seq (fun FK42 K42 => ?_)
      refine cw_block ?_
      refine cw_seq (fun FK43 K43 => ?_)
      refine cw_region ?_
      refine wl_val (v := .pointer (some ⟨bG, oG + i * 3, none⟩)) (fun ρ e => ex_idx (q := oG + i * 3) (g := bG) (o := oG) (i := i) el22 ((e _ _ rfl).trans (congrArg (fun z => Value.slice z gs.length c) hbA)) (e _ _ rfl) hk (by omega)) rfl rfl ?_
      refine wl_val (v := .agg #[.int .i64 (gs[i].kind), .int .i64 (gs[i].lit), .slice AI (gs[i].inp.length) cI]) (fun ρ e => ex_loadN (vs := [.int .i64 (gs[i].kind), .int .i64 (gs[i].lit), .slice AI (gs[i].inp.length) cI]) ty38 (e _ _ rfl) rfl (cells3 ((O39.old.cell (p := ⟨bG, oG + i * 3, none⟩) hbB).trans k0) ((O39.old.cell (p := ⟨bG, oG + i * 3 + 1, none⟩) hbB).trans k1) ((O39.old.cell (p := ⟨bG, oG + i * 3 + 2, none⟩) hbB).trans k2))) rfl rfl ?_
      obtain ⟨g44, w45, r46, O47, hg48, hs49⟩ := own_alloc O39 38 ze38 rfl
      refine wl_val (v := .pointer (some ⟨g44, 0, none⟩)) (fun ρ e => r46 ρ _ _ _ _ _) rfl rfl ?_
      obtain ⟨w50, r51, O52, hs53⟩ := own_put (o := 0) (n := 3) O47 ty38 (.agg #[.int .i64 (gs[i].kind), .int .i64 (gs[i].lit), .slice AI (gs[i].inp.length) cI]) [.int .i64 (gs[i].kind), .int .i64 (gs[i].lit), .slice AI (gs[i].inp.length) cI] (cs' := #[.int .i64 (gs[i].kind), .int .i64 (gs[i].lit), .slice AI (gs[i].inp.length) cI]) rfl rfl rfl (Nat.le_of_ble_eq_true rfl) rfl
      refine wl_none (fun ρ e => r51 ρ _ _ _ _ _ _ (e _ _ rfl) (e _ _ rfl)) rfl ?_
      refine wl_nil ?_
      refine xw_next K43 ?_
      refine cw_seq (fun FK54 K54 => ?_)
      refine cw_region ?_
      refine wl_val (v := .pointer (some ⟨g44, 0, none⟩)) (fun ρ e => ex_field (q := 0) fi38_0 (e _ _ rfl) rfl) rfl rfl ?_
      refine wl_val (v := .int .i64 (gs[i].kind)) (fun ρ e => ex_load1 ty3 (e _ _ rfl) (O52.cell 0 0 rfl rfl)) rfl rfl ?_
      by_cases c55 : gs[i].kind = 2
      · skip
        refine wl_val (v := .bool true) (fun ρ e => ex_cmp (u := gs[i].kind) (v := 2) (e _ _ rfl) (e _ _ rfl) (eql1 (by omega))) rfl rfl ?_
        refine wl_nil ?_
        refine xw_next K54 ?_
        refine cw_true rfl ?_
        refine cw_drawn (fun X => Own Z0 W X [.blk g44 38 #[.int .i64 (gs[i].kind), .int .i64 (gs[i].lit), .slice AI (gs[i].inp.length) cI], .blk g15 27 #[.int .u64 (s.a.toNat : Int), .int .u64 (s.b.toNat : Int)], .blk g8 27 #[.int .u64 0, .int .u64 0], .blk g2 24 #[.int .i64 N, .slice A gs.length c]]) 5 [(0, 0), (1, 1), (2, 0), (3, 2), (4, 2), (5, 3)] (by kernel_rfl) (by kernel_rfl) (PQ.block (PQ.then_ (PQ.then_ (PQ.block (PQ.then_ PQ.body))))) (O52).drew ?_
        have O56 : Own Z0 W w50.drew [.blk g44 38 #[.int .i64 (gs[i].kind), .int .i64 (gs[i].lit), .slice AI (gs[i].inp.length) cI], .blk g15 27 #[.int .u64 (s.a.toNat : Int), .int .u64 (s.b.toNat : Int)], .blk g8 27 #[.int .u64 0, .int .u64 0], .blk g2 24 #[.int .i64 N, .slice A gs.length c]] := O52.drew
        refine wt0 (v := .agg #[.int .u64 (s.a.toNat : Int), .int .u64 (s.b.toNat : Int)]) rfl (fun ρ e W hW => ex_loadN (vs := [.int .u64 (s.a.toNat : Int), .int .u64 (s.b.toNat : Int)]) ty27 (e _ _ rfl) rfl (hW.cells 1 0 rfl rfl)) rfl rfl ?_
        refine wt1 (v := .pointer (some ⟨g44, 1, none⟩)) rfl (fun ρ e W => ex_field (q := 1) fi38_1 (e _ _ rfl) rfl) rfl rfl ?_
        refine wt0 (v := .int .i64 (gs[i].lit)) rfl (fun ρ e W hW => ex_load1 ty3 (e _ _ rfl) (hW.cell 0 1 rfl rfl)) rfl rfl ?_
        refine wt2_call (args := [.int .i64 (gs[i].lit)]) rfl in_52 rfl rfl rfl ?_
        refine (lit_Var gs[i].lit _).mono ?_
        rintro _ _ ⟨rfl, rfl⟩
        refine ⟨_, rfl, O56, ?_⟩
        refine wt2_call (args := [.agg #[.int .u64 (s.a.toNat : Int), .int .u64 (s.b.toNat : Int)], .int .i64 (litVar gs[i].lit)]) rfl in_51 rfl rfl rfl ?_
        refine (vars_with s.a s.b (litVar gs[i].lit) _).mono ?_
        rintro _ w57 ⟨rfl, hb58⟩
        have O59 : Own Z0 W w57 [.blk g44 38 #[.int .i64 (gs[i].kind), .int .i64 (gs[i].lit), .slice AI (gs[i].inp.length) cI], .blk g15 27 #[.int .u64 (s.a.toNat : Int), .int .u64 (s.b.toNat : Int)], .blk g8 27 #[.int .u64 0, .int .u64 0], .blk g2 24 #[.int .i64 N, .slice A gs.length c]] := O56.below hb58
        refine ⟨_, rfl, O59, ?_⟩
        obtain ⟨w60, r61, O62, hs63⟩ := own_put (o := 0) (n := 2) (O59.re [1, 0, 2, 3] rfl : Own Z0 W w57 [.blk g15 27 #[.int .u64 (s.a.toNat : Int), .int .u64 (s.b.toNat : Int)], .blk g44 38 #[.int .i64 (gs[i].kind), .int .i64 (gs[i].lit), .slice AI (gs[i].inp.length) cI], .blk g8 27 #[.int .u64 0, .int .u64 0], .blk g2 24 #[.int .i64 N, .slice A gs.length c]]) ty27 (.agg #[.int .u64 ((VS.with_ s (litVar gs[i].lit)).a.toNat : Int), .int .u64 ((VS.with_ s (litVar gs[i].lit)).b.toNat : Int)]) [.int .u64 ((VS.with_ s (litVar gs[i].lit)).a.toNat : Int), .int .u64 ((VS.with_ s (litVar gs[i].lit)).b.toNat : Int)] (cs' := #[.int .u64 ((VS.with_ s (litVar gs[i].lit)).a.toNat : Int), .int .u64 ((VS.with_ s (litVar gs[i].lit)).b.toNat : Int)]) rfl rfl rfl (Nat.le_of_ble_eq_true rfl) rfl
        refine wt3_none rfl (fun ρ e => r61 ρ _ _ _ _ _ _ (e _ _ rfl) (e _ _ rfl)) rfl ?_
        refine wt_nil ?_
        refine xw_block ?_
        refine xw_next K42 ?_
        refine cw_region ?_
        refine wl_val (v := .int .i64 ((i + 1 : Nat) : Int)) (fun ρ e => ex_arith (k := .i64) (u := (i : Int)) (v := 1) (e _ _ rfl) (e _ _ rfl) (congrArg some ((congrArg _ (by omega)).trans (wrap_in (u := ((i + 1 : Nat) : Int)) (by omega) (by omega))))) rfl rfl ?_
        refine wl_val (v := .int .i64 ((i + 1 : Nat) : Int)) (fun ρ e => ex_move (e _ _ rfl)) rfl rfl ?_
        refine wl_nil ?_
        refine xw_round K38 (i + 1, (VS.with_ s (litVar gs[i].lit))) (by show gs.length - (i + 1) < gs.length - i; omega) ⟨(by show i + 1 ≤ _; omega), (by show VS.with_ s _ = _; rw [htk, vlist_one _ _ c55, VS.ofList_snoc, hs]), (O62.re [0, 2, 3] rfl : Own Z0 W w60 [.blk g15 27 #[.int .u64 ((VS.with_ s (litVar gs[i].lit)).a.toNat : Int), .int .u64 ((VS.with_ s (litVar gs[i].lit)).b.toNat : Int)], .blk g8 27 #[.int .u64 0, .int .u64 0], .blk g2 24 #[.int .i64 N, .slice A gs.length c]])⟩ ⟨rfl, rfl, rfl, rfl, rfl, rfl, trivial⟩
      · skip
        refine wl_val (v := .bool false) (fun ρ e => ex_cmp (u := gs[i].kind) (v := 2) (e _ _ rfl) (e _ _ rfl) (eql0 (by omega))) rfl rfl ?_
        refine wl_nil ?_
        refine xw_next K54 ?_
        refine cw_false rfl ?_
        refine cw_skip ?_
        refine xw_block ?_
        refine xw_next K42 ?_
        refine cw_region ?_
        refine wl_val (v := .int .i64 ((i + 1 : Nat) : Int)) (fun ρ e => ex_arith (k := .i64) (u := (i : Int)) (v := 1) (e _ _ rfl) (e _ _ rfl) (congrArg some ((congrArg _ (by omega)).trans (wrap_in (u := ((i + 1 : Nat) : Int)) (by omega) (by omega))))) rfl rfl ?_
        refine wl_val (v := .int .i64 ((i + 1 : Nat) : Int)) (fun ρ e => ex_move (e _ _ rfl)) rfl rfl ?_
        refine wl_nil ?_
        refine xw_round K38 (i + 1, s) (by show gs.length - (i + 1) < gs.length - i; omega) ⟨(by show i + 1 ≤ _; omega), (by show s = _; rw [htk, vlist_no _ _ c55, hs]), (O52.re [1, 2, 3] rfl : Own Z0 W w50 [.blk g15 27 #[.int .u64 (s.a.toNat : Int), .int .u64 (s.b.toNat : Int)], .blk g8 27 #[.int .u64 0, .int .u64 0], .blk g2 24 #[.int .i64 N, .slice A gs.length c]])⟩ ⟨rfl, rfl, rfl, rfl, rfl, rfl, trivial⟩
    · have hie : i = gs.length := by omega
      rw [hie, List.take_length] at hs
      refine cw_seq (fun FK64 K64 => ?_)
      refine cw_region ?_
      refine wl_val (v := .bool false) (fun ρ e => ex_cmp (u := (i : Int)) (v := ((gs.length : Nat) : Int)) (e _ _ rfl) (e _ _ rfl) (lss0 (by omega))) rfl rfl ?_
      refine wl_nil ?_
      refine xw_next K64 ?_
      refine cw_seq (fun FK65 K65 => ?_)
      refine cw_false rfl ?_
      refine cw_exit ?_
      refine xw_past (by intro h; cases h) ?_
      refine xw_past (by intro h; cases h) ?_
      refine xw_here ?_
      refine xw_next K32 ?_
      refine cw_seq (fun FK66 K66 => ?_)
      refine cw_region ?_
      refine wl_val (v := .agg #[.int .u64 (s.a.toNat : Int), .int .u64 (s.b.toNat : Int)]) (fun ρ e => ex_loadN (vs := [.int .u64 (s.a.toNat : Int), .int .u64 (s.b.toNat : Int)]) ty27 (e _ _ rfl) rfl (O39.cells 0 0 rfl rfl)) rfl rfl ?_
      obtain ⟨w67, r68, O69, hs70⟩ := own_put (o := 0) (n := 2) (O39.re [1, 0, 2] rfl : Own Z0 W w36 [.blk g8 27 #[.int .u64 0, .int .u64 0], .blk g15 27 #[.int .u64 (s.a.toNat : Int), .int .u64 (s.b.toNat : Int)], .blk g2 24 #[.int .i64 N, .slice A gs.length c]]) ty27 (.agg #[.int .u64 (s.a.toNat : Int), .int .u64 (s.b.toNat : Int)]) [.int .u64 (s.a.toNat : Int), .int .u64 (s.b.toNat : Int)] (cs' := #[.int .u64 (s.a.toNat : Int), .int .u64 (s.b.toNat : Int)]) rfl rfl rfl (Nat.le_of_ble_eq_true rfl) rfl
      refine wl_none (fun ρ e => r68 ρ _ _ _ _ _ _ (e _ _ rfl) (e _ _ rfl)) rfl ?_
      refine wl_nil ?_
      refine xw_next K66 ?_
      refine cw_ret ?_
      refine xw_ret (v := .agg #[.int .u64 (s.a.toNat : Int), .int .u64 (s.b.toNat : Int)]) (fun T hT => res1c rfl T _ (hT 2 _ rfl) (run_loadN (vs := [.int .u64 (s.a.toNat : Int), .int .u64 (s.b.toNat : Int)]) ty27 rfl (O69.cells 0 0 rfl rfl))) ?_
      exact ⟨by unfold varsOf; rw [if_neg (by omega), ← hs], O69.old⟩
theorem rvars_ {W : World} {V : Value} {N : Int} {gs : List Gate} (hV : GatesV W W.heap.size V gs) (hsz : sizeOf gs ≤ 4611686018427387904) : Calls Tryd.prog 31 #[.agg #[.int .i64 N, V]] W fun e w' => e = .returned (.agg #[.int .u64 ((varsOf N gs).a.toNat : Int), .int .u64 ((varsOf N gs).b.toNat : Int)]) ∧ Below W.heap.size W w' := by
  obtain ⟨A, c, rfl, _, _, _⟩ := id hV
  have O0 : Own Z0 W W [] := Own.start W
  refine sx_enter (args := [.agg #[.int .i64 N, .slice A gs.length c]]) Tryd.func31 rfl rfl (by simp) ?_
  refine cw_seq (fun FK1 K1 => ?_)
  refine cw_region ?_
  obtain ⟨g2, w3, r4, O5, hg6, hs7⟩ := own_box O0 24 (.agg #[.int .i64 N, .slice A gs.length c]) rfl
  refine wl_val (v := .pointer (some ⟨g2, 0, none⟩)) (fun ρ e => r4 ρ _ _ _ _ _ _ (e _ _ rfl)) rfl rfl ?_
  obtain ⟨g8, w9, r10, O11, hg12, hs13⟩ := own_alloc O5 27 ze27 rfl
  refine wl_val (v := .pointer (some ⟨g8, 0, none⟩)) (fun ρ e => r10 ρ _ _ _ _ _) rfl rfl ?_
  refine wl_nil ?_
  refine xw_next K1 ?_
  refine cw_seq (fun FK14 K14 => ?_)
  refine cw_region ?_
  refine wl_val (v := .slice none 0 0) (fun ρ e => ex_assign (e _ _ rfl)) rfl rfl ?_
  refine wl_nil ?_
  refine xw_next K14 ?_
  refine cw_seq (fun FK15 K15 => ?_)
  refine cw_seq (fun FK16 K16 => ?_)
  refine cw_region ?_
  refine wl_val (v := .agg #[.int .i64 N, .slice A gs.length c]) (fun ρ e => ex_loadN (vs := [.int .i64 N, .slice A gs.length c]) ty24 (e _ _ rfl) rfl (O11.cells 1 0 rfl rfl)) rfl rfl ?_
  refine wl_call (args := [.agg #[.int .i64 N, .slice A gs.length c]]) in_29 rfl rfl rfl ?_
  refine (ref07_check N _ gs _ W.heap.size O11.old.size (hV.below O11.old) hsz).mono ?_
  rintro _ w17 ⟨rfl, hb18⟩
  have O19 : Own Z0 W w17 [.blk g8 27 #[.int .u64 0, .int .u64 0], .blk g2 24 #[.int .i64 N, .slice A gs.length c]] := O11.below hb18
  refine ⟨_, rfl, ?_⟩
  by_cases c20 : (checkOf N gs) ≠ 0
  · skip
    refine wl_val (v := .bool true) (fun ρ e => ex_cmp (u := (checkOf N gs)) (v := 0) (e _ _ rfl) (e _ _ rfl) (neq1 (by omega))) rfl rfl ?_
    refine wl_nil ?_
    refine xw_next K16 ?_
    refine cw_true rfl ?_
    refine cw_seq (fun FK21 K21 => ?_)
    refine cw_region ?_
    refine wl_val (v := .agg #[.int .u64 0, .int .u64 0]) (fun ρ e => ex_buildA (cells := #[.int .u64 0, .int .u64 0]) ar27 (e.parts rfl) rfl) rfl rfl ?_
    obtain ⟨w22, r23, O24, hs25⟩ := own_put (o := 0) (n := 2) O19 ty27 (.agg #[.int .u64 0, .int .u64 0]) [.int .u64 0, .int .u64 0] (cs' := #[.int .u64 0, .int .u64 0]) rfl rfl rfl (Nat.le_of_ble_eq_true rfl) rfl
    refine wl_none (fun ρ e => r23 ρ _ _ _ _ _ _ (e _ _ rfl) (e _ _ rfl)) rfl ?_
    refine wl_nil ?_
    refine xw_next K21 ?_
    refine cw_ret ?_
    refine xw_past (by intro h; cases h) ?_
    refine xw_ret (v := .agg #[.int .u64 0, .int .u64 0]) (fun T hT => res1c rfl T _ (hT 2 _ rfl) (run_loadN (vs := [.int .u64 0, .int .u64 0]) ty27 rfl (O24.cells 0 0 rfl rfl))) ?_
    exact ⟨by unfold varsOf; rw [if_pos c20]; rfl, O24.old⟩
  · skip
    have c0 : checkOf N gs = 0 := by omega
    obtain ⟨hN0, hN1, hgl, hsz2, hg0, hgt⟩ := check_zero c0
    refine wl_val (v := .bool false) (fun ρ e => ex_cmp (u := (checkOf N gs)) (v := 0) (e _ _ rfl) (e _ _ rfl) (neq0 (by omega))) rfl rfl ?_
    refine wl_nil ?_
    refine xw_next K16 ?_
    refine cw_false rfl ?_
    refine cw_skip ?_
    refine xw_next K15 ?_
    refine cw_seq (fun FK26 K26 => ?_)
    refine cw_seq (fun FK27 K27 => ?_)
    refine cw_region ?_
    refine wl_val (v := .int .i64 0) (fun ρ e => ex_assign (e _ _ rfl)) rfl rfl ?_
    refine wl_nil ?_
    refine xw_next K27 ?_
    refine cw_block ?_
    have O28 : Own Z0 W w17 [.row (.slice none 0 0) 3 1 0 (intCs []), .blk g8 27 #[.int .u64 0, .int .u64 0], .blk g2 24 #[.int .i64 N, .slice A gs.length c]] := O19.nilrow 3 1
    refine cw_loop (ι := Nat × Option Addr × Nat × Nat × List Int) (fun q => [(1, .pointer (some ⟨g2, 0, none⟩)), (2, .pointer (some ⟨g8, 0, none⟩)), (4, .int .i64 (q.1 : Int)), (3, .slice q.2.1 q.2.2.2.1 q.2.2.1)]) (fun q X => (q.1 ≤ gs.length) ∧ (q.2.2.2.1 = q.2.2.2.2.length) ∧ (q.2.2.2.1 ≤ q.1) ∧ (q.2.2.2.2 = vlist (gs.take q.1)) ∧ Own Z0 W X [.row (.slice q.2.1 q.2.2.2.1 q.2.2.1) 3 1 q.2.2.2.1 (intCs q.2.2.2.2), .blk g8 27 #[.int .u64 0, .int .u64 0], .blk g2 24 #[.int .i64 N, .slice A gs.length c]]) (fun q => gs.length - q.1) (0, none, 0, 0, []) ⟨Nat.zero_le _, rfl, Nat.zero_le _, rfl, O28⟩ ⟨rfl, rfl, rfl, rfl, trivial⟩ (fun q w29 hJ F30 K31 => ?_)
    obtain ⟨i, Ar, cr, n, l⟩ := q
    obtain ⟨hi0, hn, hni, hs, O32⟩ := hJ
    dsimp only at hi0 hn hni hs O32 ⊢
    by_cases hk : i < gs.length
    · obtain ⟨bG, oG, AI, cI, hbA, hbB, k0, k1, k2, hIV, hIc, hIm⟩ := hV.at_ (Below.refl _ _) hk
      have hgi := (goodTo_iff N gs gs.length).1 hgt i hk
      rw [goodAt_eq N gs i hk] at hgi
      have hls := lit_small (good_parts hgi).2.1
      unfold smallI at hls
      have htk : gs.take (i + 1) = gs.take i ++ [gs[i]] := (List.take_append_getElem hk).symm
      refine cw_seq (fun FK33 K33 => ?_)
      refine cw_seq (fun FK34 K34 => ?_)
      refine cw_region ?_
      refine wl_val (v := .int .i64 (i : Int)) (fun ρ e => ex_move (e _ _ rfl)) rfl rfl ?_
      refine wl_val (v := .pointer (some ⟨g2, 1, none⟩)) (fun ρ e => ex_field (q := 1) fi24_1 (e _ _ rfl) rfl) rfl rfl ?_
      refine wl_val (v := .slice A gs.length c) (fun ρ e => ex_load1 ty22 (e _ _ rfl) (O32.cell 2 1 rfl rfl)) rfl rfl ?_
      refine wl_val (v := .int .i64 ((gs.length : Nat) : Int)) (fun ρ e => ex_len el22 (e _ _ rfl)) rfl rfl ?_
      refine wl_val (v := .bool true) (fun ρ e => ex_cmp (u := (i : Int)) (v := ((gs.length : Nat) : Int)) (e _ _ rfl) (e _ _ rfl) (lss1 (by omega))) rfl rfl ?_
      refine wl_nil ?_
      refine xw_next K34 ?_
      refine cw_true rfl ?_
      refine cw_skip ?_
      refine xw_next K33 ?_
      refine cw_seq (fun FK35 K35 => ?_)
      refine cw_block ?_
      refine cw_seq (fun FK36 K36 => ?_)
      refine cw_region ?_
      refine wl_val (v := .pointer (some ⟨g2, 1, none⟩)) (fun ρ e => ex_field (q := 1) fi24_1 (e _ _ rfl) rfl) rfl rfl ?_
      refine wl_val (v := .slice A gs.length c) (fun ρ e => ex_load1 ty22 (e _ _ rfl) (O32.cell 2 1 rfl rfl)) rfl rfl ?_
      refine wl_val (v := .int .i64 (i : Int)) (fun ρ e => ex_move (e _ _ rfl)) rfl rfl ?_
      refine wl_val (v := .pointer (some ⟨bG, oG + i * 3, none⟩)) (fun ρ e => ex_idx (q := oG + i * 3) (g := bG) (o := oG) (i := i) el22 ((e _ _ rfl).trans (congrArg (fun z => Value.slice z gs.length c) hbA)) (e _ _ rfl) hk (by omega)) rfl rfl ?_
      refine wl_val (v := .pointer (some ⟨bG, oG + i * 3, none⟩)) (fun ρ e => ex_field (q := oG + i * 3) fi38_0 (e _ _ rfl) rfl) rfl rfl ?_
      refine wl_val (v := .int .i64 (gs[i].kind)) (fun ρ e => ex_load1 ty3 (e _ _ rfl) ((O32.old.cell (p := ⟨bG, oG + i * 3, none⟩) hbB).trans k0)) rfl rfl ?_
      by_cases c37 : gs[i].kind = 2
      · skip
        refine wl_val (v := .bool true) (fun ρ e => ex_cmp (u := gs[i].kind) (v := 2) (e _ _ rfl) (e _ _ rfl) (eql1 (by omega))) rfl rfl ?_
        refine wl_nil ?_
        refine xw_next K36 ?_
        refine cw_true rfl ?_
        refine cw_drawn (fun X => Own Z0 W X [.blk g8 27 #[.int .u64 0, .int .u64 0], .blk g2 24 #[.int .i64 N, .slice A gs.length c]]) 17 [(0, 1), (1, 1), (2, 0), (3, 1), (4, 1), (5, 1), (6, 0), (7, 1), (8, 0), (9, 1), (10, 1), (11, 1), (12, 0), (13, 1), (14, 1), (15, 2), (16, 2), (17, 3)] (by kernel_rfl) (by kernel_rfl) (PQ.block (PQ.then_ (PQ.then_ (PQ.block (PQ.then_ PQ.body))))) ((O32.re [1, 2] rfl : Own Z0 W w29 [.blk g8 27 #[.int .u64 0, .int .u64 0], .blk g2 24 #[.int .i64 N, .slice A gs.length c]])).drew ?_
        have O38 : Own Z0 W w29.drew [.row (.slice Ar n cr) 3 1 n (intCs l), .blk g8 27 #[.int .u64 0, .int .u64 0], .blk g2 24 #[.int .i64 N, .slice A gs.length c]] := O32.drew
        refine wt1 (v := .slice Ar n cr) rfl (fun ρ e W => ex_move (e _ _ rfl)) rfl rfl ?_
        refine wt1 (v := .pointer (some ⟨g2, 1, none⟩)) rfl (fun ρ e W => ex_field (q := 1) fi24_1 (e _ _ rfl) rfl) rfl rfl ?_
        refine wt0 (v := .slice A gs.length c) rfl (fun ρ e W hW => ex_load1 ty22 (e _ _ rfl) (hW.cell 1 1 rfl rfl)) rfl rfl ?_
        refine wt1 (v := .int .i64 (i : Int)) rfl (fun ρ e W => ex_move (e _ _ rfl)) rfl rfl ?_
        refine wt1 (v := .pointer (some ⟨bG, oG + i * 3, none⟩)) rfl (fun ρ e W => ex_idx (q := oG + i * 3) (g := bG) (o := oG) (i := i) el22 ((e _ _ rfl).trans (congrArg (fun z => Value.slice z gs.length c) hbA)) (e _ _ rfl) hk (by omega)) rfl rfl ?_
        refine wt1 (v := .pointer (some ⟨bG, oG + i * 3 + 1, none⟩)) rfl (fun ρ e W => ex_field (q := oG + i * 3 + 1) fi38_1 (e _ _ rfl) rfl) rfl rfl ?_
        refine wt0 (v := .int .i64 (gs[i].lit)) rfl (fun ρ e W hW => ex_load1 ty3 (e _ _ rfl) ((hW.old.cell (p := ⟨bG, oG + i * 3 + 1, none⟩) hbB).trans k1)) rfl rfl ?_
        refine wt1 (v := .pointer (some ⟨g2, 1, none⟩)) rfl (fun ρ e W => ex_field (q := 1) fi24_1 (e _ _ rfl) rfl) rfl rfl ?_
        refine wt0 (v := .slice A gs.length c) rfl (fun ρ e W hW => ex_load1 ty22 (e _ _ rfl) (hW.cell 1 1 rfl rfl)) rfl rfl ?_
        refine wt1 (v := .int .i64 (i : Int)) rfl (fun ρ e W => ex_move (e _ _ rfl)) rfl rfl ?_
        refine wt1 (v := .pointer (some ⟨bG, oG + i * 3, none⟩)) rfl (fun ρ e W => ex_idx (q := oG + i * 3) (g := bG) (o := oG) (i := i) el22 ((e _ _ rfl).trans (congrArg (fun z => Value.slice z gs.length c) hbA)) (e _ _ rfl) hk (by omega)) rfl rfl ?_
        refine wt1 (v := .pointer (some ⟨bG, oG + i * 3 + 1, none⟩)) rfl (fun ρ e W => ex_field (q := oG + i * 3 + 1) fi38_1 (e _ _ rfl) rfl) rfl rfl ?_
        refine wt0 (v := .int .i64 (gs[i].lit)) rfl (fun ρ e W hW => ex_load1 ty3 (e _ _ rfl) ((hW.old.cell (p := ⟨bG, oG + i * 3 + 1, none⟩) hbB).trans k1)) rfl rfl ?_
        refine wt1 (v := .int .i64 (-(gs[i].lit))) rfl (fun ρ e W => ex_minus (e _ _ rfl) (wrap_in (by omega) (by omega))) rfl rfl ?_
        refine wt1 (v := .int .i64 (litVar gs[i].lit)) rfl (fun ρ e W => ex_max (e _ _ rfl) (e _ _ rfl) (max_lit hN0 hN1 (good_parts hgi).2.1 c37)) rfl rfl ?_
        obtain ⟨g39, w40, r41, O42, hg43, hs44⟩ := own_slice O38 el36 ze3 1 [(0, .int .i64 (litVar gs[i].lit))] (cs := #[.int .i64 (litVar gs[i].lit)]) (by decide) (by kernel_rfl)
        refine wt2 (v := .slice (some ⟨g39, 0, none⟩) 1 1) rfl (fun ρ e => r41 ρ _ _ _ _ _ _ (e.parts rfl)) rfl rfl (O42.re [2, 3] rfl : Own Z0 W w40 [.blk g8 27 #[.int .u64 0, .int .u64 0], .blk g2 24 #[.int .i64 N, .slice A gs.length c]]) ?_
        obtain ⟨A45, c46, w47, r48, O49, hz50, hc51⟩ := own_app1 (O42.re [1, 0, 2, 3] rfl : Own Z0 W w40 [.row (.slice Ar n cr) 3 1 n (intCs l), .blk g39 3 #[.int .i64 (litVar gs[i].lit)], .blk g8 27 #[.int .u64 0, .int .u64 0], .blk g2 24 #[.int .i64 N, .slice A gs.length c]]) ap36 ((O42.re [1, 0, 2, 3] rfl : Own Z0 W w40 [.row (.slice Ar n cr) 3 1 n (intCs l), .blk g39 3 #[.int .i64 (litVar gs[i].lit)], .blk g8 27 #[.int .u64 0, .int .u64 0], .blk g2 24 #[.int .i64 N, .slice A gs.length c]]).blk 1 rfl) (cells := [.int .i64 (litVar gs[i].lit)]) rfl rfl (by omega) (by omega) (ys := (intCs (l ++ [litVar gs[i].lit]))) (intCs_snoc l _)
        refine wt2 (v := .slice A45 (n + 1) c46) rfl (fun ρ e => r48 ρ _ _ _ _ _ _ _ (e _ _ rfl) (e _ _ rfl)) rfl rfl (O49.re [2, 3] rfl : Own Z0 W w47 [.blk g8 27 #[.int .u64 0, .int .u64 0], .blk g2 24 #[.int .i64 N, .slice A gs.length c]]) ?_
        refine wt3 (v := .slice A45 (n + 1) c46) rfl (fun ρ e => ex_assign (e _ _ rfl)) rfl rfl ?_
        refine wt_nil ?_
        refine xw_block ?_
        refine xw_next K35 ?_
        refine cw_region ?_
        refine wl_val (v := .int .i64 (i : Int)) (fun ρ e => ex_move (e _ _ rfl)) rfl rfl ?_
        refine wl_val (v := .int .i64 ((i + 1 : Nat) : Int)) (fun ρ e => ex_arith (k := .i64) (u := (i : Int)) (v := 1) (e _ _ rfl) (e _ _ rfl) (congrArg some ((congrArg _ (by omega)).trans (wrap_in (u := ((i + 1 : Nat) : Int)) (by omega) (by omega))))) rfl rfl ?_
        refine wl_val (v := .int .i64 ((i + 1 : Nat) : Int)) (fun ρ e => ex_assign (e _ _ rfl)) rfl rfl ?_
        refine wl_nil ?_
        refine xw_round K31 (i + 1, A45, c46, n + 1, (l ++ [litVar gs[i].lit])) (by show gs.length - (i + 1) < gs.length - i; omega) ⟨(by show i + 1 ≤ _; omega), (by show n + 1 = (l ++ [_]).length; simp [hn]), (by show n + 1 ≤ i + 1; omega), (by show l ++ [_] = _; rw [htk, vlist_one _ _ c37, hs]), (O49.re [0, 2, 3] rfl : Own Z0 W w47 [.row (.slice A45 (n + 1) c46) 3 1 (n + 1) (intCs (l ++ [litVar gs[i].lit])), .blk g8 27 #[.int .u64 0, .int .u64 0], .blk g2 24 #[.int .i64 N, .slice A gs.length c]])⟩ ⟨rfl, rfl, rfl, rfl, trivial⟩
      · skip
        refine wl_val (v := .bool false) (fun ρ e => ex_cmp (u := gs[i].kind) (v := 2) (e _ _ rfl) (e _ _ rfl) (eql0 (by omega))) rfl rfl ?_
        refine wl_nil ?_
        refine xw_next K36 ?_
        refine cw_false rfl ?_
        refine cw_skip ?_
        refine xw_block ?_
        refine xw_next K35 ?_
        refine cw_region ?_
        refine wl_val (v := .int .i64 (i : Int)) (fun ρ e => ex_move (e _ _ rfl)) rfl rfl ?_
        refine wl_val (v := .int .i64 ((i + 1 : Nat) : Int)) (fun ρ e => ex_arith (k := .i64) (u := (i : Int)) (v := 1) (e _ _ rfl) (e _ _ rfl) (congrArg some ((congrArg _ (by omega)).trans (wrap_in (u := ((i + 1 : Nat) : Int)) (by omega) (by omega))))) rfl rfl ?_
        refine wl_val (v := .int .i64 ((i + 1 : Nat) : Int)) (fun ρ e => ex_assign (e _ _ rfl)) rfl rfl ?_
        refine wl_nil ?_
        refine xw_round K31 (i + 1, Ar, cr, n, l) (by show gs.length - (i + 1) < gs.length - i; omega) ⟨(by show i + 1 ≤ _; omega), hn, (by show n ≤ i + 1; omega), (by show l = _; rw [htk, vlist_no _ _ c37, hs]), O32⟩ ⟨rfl, rfl, rfl, rfl, trivial⟩
    · have hie : i = gs.length := by omega
      rw [hie, List.take_length] at hs
      refine cw_seq (fun FK52 K52 => ?_)
      refine cw_seq (fun FK53 K53 => ?_)
      refine cw_region ?_
      refine wl_val (v := .int .i64 (i : Int)) (fun ρ e => ex_move (e _ _ rfl)) rfl rfl ?_
      refine wl_val (v := .pointer (some ⟨g2, 1, none⟩)) (fun ρ e => ex_field (q := 1) fi24_1 (e _ _ rfl) rfl) rfl rfl ?_
      refine wl_val (v := .slice A gs.length c) (fun ρ e => ex_load1 ty22 (e _ _ rfl) (O32.cell 2 1 rfl rfl)) rfl rfl ?_
      refine wl_val (v := .int .i64 ((gs.length : Nat) : Int)) (fun ρ e => ex_len el22 (e _ _ rfl)) rfl rfl ?_
      refine wl_val (v := .bool false) (fun ρ e => ex_cmp (u := (i : Int)) (v := ((gs.length : Nat) : Int)) (e _ _ rfl) (e _ _ rfl) (lss0 (by omega))) rfl rfl ?_
      refine wl_nil ?_
      refine xw_next K53 ?_
      refine cw_false rfl ?_
      refine cw_exit ?_
      refine xw_past (by intro h; cases h) ?_
      refine xw_past (by intro h; cases h) ?_
      refine xw_here ?_
      refine xw_next K26 ?_
      refine cw_seq (fun FK54 K54 => ?_)
      refine cw_region ?_
      refine wl_val (v := .slice Ar n cr) (fun ρ e => ex_move (e _ _ rfl)) rfl rfl ?_
      refine wl_call (args := [.slice Ar n cr]) in_53 rfl rfl rfl ?_
      refine (ref03_of _ _ _ l (Nat.le_refl _) ((IntsD.of_row (l := l) (O32.row 0 rfl)).V (fun k hk => (World.ownsRow.lt (O32.row 0 rfl) k hk).2))).mono ?_
      rintro _ w55 ⟨rfl, hb56⟩
      have O57 : Own Z0 W w55 [.row (.slice Ar n cr) 3 1 n (intCs l), .blk g8 27 #[.int .u64 0, .int .u64 0], .blk g2 24 #[.int .i64 N, .slice A gs.length c]] := O32.below hb56
      refine ⟨_, rfl, ?_⟩
      obtain ⟨w58, r59, O60, hs61⟩ := own_put (o := 0) (n := 2) (O57.re [1, 0, 2] rfl : Own Z0 W w55 [.blk g8 27 #[.int .u64 0, .int .u64 0], .row (.slice Ar n cr) 3 1 n (intCs l), .blk g2 24 #[.int .i64 N, .slice A gs.length c]]) ty27 (.agg #[.int .u64 ((VS.ofList l).a.toNat : Int), .int .u64 ((VS.ofList l).b.toNat : Int)]) [.int .u64 ((VS.ofList l).a.toNat : Int), .int .u64 ((VS.ofList l).b.toNat : Int)] (cs' := #[.int .u64 ((VS.ofList l).a.toNat : Int), .int .u64 ((VS.ofList l).b.toNat : Int)]) rfl rfl rfl (Nat.le_of_ble_eq_true rfl) rfl
      refine wl_none (fun ρ e => r59 ρ _ _ _ _ _ _ (e _ _ rfl) (e _ _ rfl)) rfl ?_
      refine wl_nil ?_
      refine xw_next K54 ?_
      refine cw_ret ?_
      refine xw_ret (v := .agg #[.int .u64 ((VS.ofList l).a.toNat : Int), .int .u64 ((VS.ofList l).b.toNat : Int)]) (fun T hT => res1c rfl T _ (hT 2 _ rfl) (run_loadN (vs := [.int .u64 ((VS.ofList l).a.toNat : Int), .int .u64 ((VS.ofList l).b.toNat : Int)]) ty27 rfl (O60.cells 0 0 rfl rfl))) ?_
      exact ⟨by unfold varsOf; rw [if_neg (by omega), ← hs], O60.old⟩
end Go.Proofs.YtbemhgojfehnjaaDoor
namespace Go.Proofs.YtbemhgojfehnjaaDoor
open Go Go.RowKit
theorem set_eq (a b : Int) (w : World) : (Op.equalIn 10000 27 (.agg #[.int .u64 a, .int .u64 b]) (.agg #[.int .u64 a, .int .u64 b])).run Tryd.prog w = .ok true w := by
  have h2 : List.range' 0 2 = [0, 1] := rfl
  unfold Op.equalIn
  simp [go_sem, h2]
theorem ex_eqset {ρ : Operand → Value} {d : Option Tmp} {x y : Operand} {t : TypeId} {pos : String} {aft : Array Edge} {gd : Option (Nat × Bool)} {w : World} {a b : Int} {T1 : TypeId} (hx : ρ x = .agg #[.int .u64 a, .int .u64 b]) (hy : ρ y = .agg #[.int .u64 a, .int .u64 b]) : (execOp ρ ⟨d, .binOp .eql 27 x y T1, t, pos, aft, gd⟩).run Tryd.prog w = .ok (.value (.bool true)) w := by
  have h1 : (eqGuard .eql 27 x y (.agg #[.int .u64 a, .int .u64 b]) (.agg #[.int .u64 a, .int .u64 b])).run Tryd.prog w = .ok () w := by
    have hg : (Tryd.prog.eqGuardType Tryd.prog.depth 27) = false := by kernel_rfl
    simp [eqGuard, hg]
  have h2 : binOp .eql 27 (.agg #[.int .u64 a, .int .u64 b]) (.agg #[.int .u64 a, .int .u64 b]) = (do pure (.bool (← Op.equal 27 (.agg #[.int .u64 a, .int .u64 b]) (.agg #[.int .u64 a, .int .u64 b])))) := rfl
  have h3 : (Op.equal 27 (.agg #[.int .u64 a, .int .u64 b]) (.agg #[.int .u64 a, .int .u64 b])).run Tryd.prog w = .ok true w := set_eq a b w
  simp only [execOp, hx, hy, Sem.run_bind, h1, h2, h3, Result.andThen_ok, Sem.run_pure]
theorem circChecks_ok {W : World} {V : Value} {N : Int} {gs : List Gate} (hV : GatesV W W.heap.size V gs) (tab : Tab W) : Calls Tryd.prog 11 #[.agg #[.int .i64 N, V]] W fun e w' => e = .returned (.bool true) ∧ Below W.heap.size W w' := by
  obtain ⟨A, c, rfl, hAc, hcm, _⟩ := id hV
  have hmx : maxLen = 9223372036854775807 := rfl
  have O0 : Own Z0 W W [] := Own.start W
  refine sx_enter (args := [.agg #[.int .i64 N, .slice A gs.length c]]) Tryd.func11 rfl rfl (by simp) ?_
  refine cw_seq (fun FK1 K1 => ?_)
  refine cw_region ?_
  obtain ⟨g2, w3, r4, O5, hg6, hs7⟩ := own_box O0 24 (.agg #[.int .i64 N, .slice A gs.length c]) rfl
  refine wl_val (v := .pointer (some ⟨g2, 0, none⟩)) (fun ρ e => r4 ρ _ _ _ _ _ _ (e _ _ rfl)) rfl rfl ?_
  refine wl_val (v := .bool false) (fun ρ e => ex_assign (e _ _ rfl)) rfl rfl ?_
  refine wl_nil ?_
  refine xw_next K1 ?_
  refine cw_seq (fun FK8 K8 => ?_)
  refine cw_seq (fun FK9 K9 => ?_)
  refine cw_region ?_
  refine wl_val (v := .pointer (some ⟨g2, 1, none⟩)) (fun ρ e => ex_field (q := 1) fi24_1 (e _ _ rfl) rfl) rfl rfl ?_
  refine wl_val (v := .slice A gs.length c) (fun ρ e => ex_load1 ty22 (e _ _ rfl) (O5.cell 0 1 rfl rfl)) rfl rfl ?_
  refine wl_val (v := .int .i64 ((gs.length : Nat) : Int)) (fun ρ e => ex_len el22 (e _ _ rfl)) rfl rfl ?_
  by_cases c10 : ((gs.length : Nat) : Int) > 5000
  · skip
    refine wl_val (v := .bool true) (fun ρ e => ex_cmp (u := ((gs.length : Nat) : Int)) (v := 5000) (e _ _ rfl) (e _ _ rfl) (gtr1 (by omega))) rfl rfl ?_
    refine wl_nil ?_
    refine xw_next K9 ?_
    refine cw_true rfl ?_
    refine cw_seq (fun FK11 K11 => ?_)
    refine cw_region ?_
    refine wl_call (args := []) in_14 rfl rfl rfl ?_
    refine (works_ (tab.below (Nat.le_refl _) O5.old)).mono ?_
    rintro _ w12 ⟨rfl, hb13⟩
    have O14 : Own Z0 W w12 [.blk g2 24 #[.int .i64 N, .slice A gs.length c]] := O5.below hb13
    refine ⟨_, rfl, ?_⟩
    refine wl_val (v := .bool true) (fun ρ e => ex_assign (e _ _ rfl)) rfl rfl ?_
    refine wl_nil ?_
    refine xw_next K11 ?_
    refine cw_ret ?_
    refine xw_past (by intro h; cases h) ?_
    refine xw_ret (v := .bool true) (fun T hT => res1 rfl T _ (hT 2 _ rfl)) ?_
    exact ⟨rfl, O14.old⟩
  · skip
    refine wl_val (v := .bool false) (fun ρ e => ex_cmp (u := ((gs.length : Nat) : Int)) (v := 5000) (e _ _ rfl) (e _ _ rfl) (gtr0 (by omega))) rfl rfl ?_
    refine wl_nil ?_
    refine xw_next K9 ?_
    refine cw_false rfl ?_
    refine cw_skip ?_
    refine xw_next K8 ?_
    refine cw_seq (fun FK15 K15 => ?_)
    refine cw_seq (fun FK16 K16 => ?_)
    refine cw_region ?_
    refine wl_val (v := .pointer (some ⟨g2, 1, none⟩)) (fun ρ e => ex_field (q := 1) fi24_1 (e _ _ rfl) rfl) rfl rfl ?_
    refine wl_val (v := .slice A gs.length c) (fun ρ e => ex_load1 ty22 (e _ _ rfl) (O5.cell 0 1 rfl rfl)) rfl rfl ?_
    refine wl_val (v := .int .i64 ((gs.length : Nat) : Int)) (fun ρ e => ex_len el22 (e _ _ rfl)) rfl rfl ?_
    refine wl_val (v := .int .i64 0) (fun ρ e => ex_move (e _ _ rfl)) rfl rfl ?_
    refine wl_nil ?_
    refine xw_next K16 ?_
    refine cw_block ?_
    refine cw_loop (ι := Nat) (fun q => [(1, .pointer (some ⟨g2, 0, none⟩)), (2, .bool false), (12, .slice A gs.length c), (13, .int .i64 ((gs.length : Nat) : Int)), (14, .int .i64 (q : Int))]) (fun q X => (q ≤ gs.length) ∧ (∀ g ∈ gs.take q, g.inp.length ≤ 200) ∧ Own Z0 W X [.blk g2 24 #[.int .i64 N, .slice A gs.length c]]) (fun q => gs.length - q) 0 ⟨Nat.zero_le _, (by simp), O5⟩ ⟨rfl, rfl, rfl, rfl, rfl, trivial⟩ (fun q w17 hJ F18 K19 => ?_)
    obtain ⟨i, rfl⟩ : ∃ x, x = q := ⟨_, rfl⟩
    obtain ⟨hi0, h200, O20⟩ := hJ
    try dsimp only at hi0 h200 O20 ⊢
    by_cases hk : i < gs.length
    · obtain ⟨bG, oG, AI, cI, hbA, hbB, k0, k1, k2, hIV, hIc, hIm⟩ := hV.at_ (Below.refl _ _) hk
      have htk : gs.take (i + 1) = gs.take i ++ [gs[i]] := (List.take_append_getElem hk).symm
      refine cw_seq (fun FK21 K21 => ?_)
      refine cw_region ?_
      refine wl_val (v := .bool true) (fun ρ e => ex_cmp (u := (i : Int)) (v := ((gs.length : Nat) : Int)) (e _ _ rfl) (e _ _ rfl) (lss1 (by omega))) rfl rfl ?_
      refine wl_nil ?_
      refine xw_next K21 ?_
      refine cw_seq (fun FK22 K22 => ?_)
      refine cw_true rfl ?_
      refine cw_skip ?_
      refine xw_next K22 ?_
      refine cw_seq (fun FK23 K23 => ?_)
      refine cw_block ?_
      refine cw_seq (fun FK24 K24 => ?_)
      refine cw_region ?_
      refine wl_val (v := .pointer (some ⟨bG, oG + i * 3, none⟩)) (fun ρ e => ex_idx (q := oG + i * 3) (g := bG) (o := oG) (i := i) el22 ((e _ _ rfl).trans (congrArg (fun z => Value.slice z gs.length c) hbA)) (e _ _ rfl) hk (by omega)) rfl rfl ?_
      refine wl_val (v := .agg #[.int .i64 (gs[i].kind), .int .i64 (gs[i].lit), .slice AI (gs[i].inp.length) cI]) (fun ρ e => ex_loadN (vs := [.int .i64 (gs[i].kind), .int .i64 (gs[i].lit), .slice AI (gs[i].inp.length) cI]) ty38 (e _ _ rfl) rfl (cells3 ((O20.old.cell (p := ⟨bG, oG + i * 3, none⟩) hbB).trans k0) ((O20.old.cell (p := ⟨bG, oG + i * 3 + 1, none⟩) hbB).trans k1) ((O20.old.cell (p := ⟨bG, oG + i * 3 + 2, none⟩) hbB).trans k2))) rfl rfl ?_
      obtain ⟨g25, w26, r27, O28, hg29, hs30⟩ := own_alloc O20 38 ze38 rfl
      refine wl_val (v := .pointer (some ⟨g25, 0, none⟩)) (fun ρ e => r27 ρ _ _ _ _ _) rfl rfl ?_
      obtain ⟨w31, r32, O33, hs34⟩ := own_put (o := 0) (n := 3) O28 ty38 (.agg #[.int .i64 (gs[i].kind), .int .i64 (gs[i].lit), .slice AI (gs[i].inp.length) cI]) [.int .i64 (gs[i].kind), .int .i64 (gs[i].lit), .slice AI (gs[i].inp.length) cI] (cs' := #[.int .i64 (gs[i].kind), .int .i64 (gs[i].lit), .slice AI (gs[i].inp.length) cI]) rfl rfl rfl (Nat.le_of_ble_eq_true rfl) rfl
      refine wl_none (fun ρ e => r32 ρ _ _ _ _ _ _ (e _ _ rfl) (e _ _ rfl)) rfl ?_
      refine wl_nil ?_
      refine xw_next K24 ?_
      refine cw_seq (fun FK35 K35 => ?_)
      refine cw_region ?_
      refine wl_val (v := .pointer (some ⟨g25, 2, none⟩)) (fun ρ e => ex_field (q := 2) fi38_2 (e _ _ rfl) rfl) rfl rfl ?_
      refine wl_val (v := .slice AI (gs[i].inp.length) cI) (fun ρ e => ex_load1 ty36 (e _ _ rfl) (O33.cell 0 2 rfl rfl)) rfl rfl ?_
      refine wl_val (v := .int .i64 ((gs[i].inp.length : Nat) : Int)) (fun ρ e => ex_len el36 (e _ _ rfl)) rfl rfl ?_
      by_cases c36 : ((gs[i].inp.length : Nat) : Int) > 200
      · skip
        refine wl_val (v := .bool true) (fun ρ e => ex_cmp (u := ((gs[i].inp.length : Nat) : Int)) (v := 200) (e _ _ rfl) (e _ _ rfl) (gtr1 (by omega))) rfl rfl ?_
        refine wl_nil ?_
        refine xw_next K35 ?_
        refine cw_true rfl ?_
        refine cw_seq (fun FK37 K37 => ?_)
        refine cw_region ?_
        refine wl_call (args := []) in_14 rfl rfl rfl ?_
        refine (works_ (tab.below (Nat.le_refl _) O33.old)).mono ?_
        rintro _ w38 ⟨rfl, hb39⟩
        have O40 : Own Z0 W w38 [.blk g25 38 #[.int .i64 (gs[i].kind), .int .i64 (gs[i].lit), .slice AI (gs[i].inp.length) cI], .blk g2 24 #[.int .i64 N, .slice A gs.length c]] := O33.below hb39
        refine ⟨_, rfl, ?_⟩
        refine wl_val (v := .bool true) (fun ρ e => ex_assign (e _ _ rfl)) rfl rfl ?_
        refine wl_nil ?_
        refine xw_next K37 ?_
        refine cw_ret ?_
        refine xw_blockret ?_
        refine xw_past (by intro h; cases h) ?_
        refine xw_past (by intro h; cases h) ?_
        refine xw_blockret ?_
        refine xw_past (by intro h; cases h) ?_
        refine xw_ret (v := .bool true) (fun T hT => res1 rfl T _ (hT 2 _ rfl)) ?_
        exact ⟨rfl, O40.old⟩
      · skip
        refine wl_val (v := .bool false) (fun ρ e => ex_cmp (u := ((gs[i].inp.length : Nat) : Int)) (v := 200) (e _ _ rfl) (e _ _ rfl) (gtr0 (by omega))) rfl rfl ?_
        refine wl_nil ?_
        refine xw_next K35 ?_
        refine cw_false rfl ?_
        refine cw_skip ?_
        refine xw_block ?_
        refine xw_next K23 ?_
        refine cw_region ?_
        refine wl_val (v := .int .i64 ((i + 1 : Nat) : Int)) (fun ρ e => ex_arith (k := .i64) (u := (i : Int)) (v := 1) (e _ _ rfl) (e _ _ rfl) (congrArg some ((congrArg _ (by omega)).trans (wrap_in (u := ((i + 1 : Nat) : Int)) (by omega) (by omega))))) rfl rfl ?_
        refine wl_val (v := .int .i64 ((i + 1 : Nat) : Int)) (fun ρ e => ex_move (e _ _ rfl)) rfl rfl ?_
        refine wl_nil ?_
        refine xw_round K19 (i + 1) (by show gs.length - (i + 1) < gs.length - i; omega) ⟨(by show i + 1 ≤ _; omega), (by rw [htk]; intro g hg; rcases List.mem_append.1 hg with h | h; exact h200 g h; rw [List.mem_singleton.1 h]; omega), (O33.re [1] rfl : Own Z0 W w31 [.blk g2 24 #[.int .i64 N, .slice A gs.length c]])⟩ ⟨rfl, rfl, rfl, rfl, rfl, trivial⟩
    · have hie : i = gs.length := by omega
      rw [hie, List.take_length] at h200
      refine cw_seq (fun FK41 K41 => ?_)
      refine cw_region ?_
      refine wl_val (v := .bool false) (fun ρ e => ex_cmp (u := (i : Int)) (v := ((gs.length : Nat) : Int)) (e _ _ rfl) (e _ _ rfl) (lss0 (by omega))) rfl rfl ?_
      refine wl_nil ?_
      refine xw_next K41 ?_
      refine cw_seq (fun FK42 K42 => ?_)
      refine cw_false rfl ?_
      refine cw_exit ?_
      refine xw_past (by intro h; cases h) ?_
      refine xw_past (by intro h; cases h) ?_
      refine xw_here ?_
      refine xw_next K15 ?_
      refine cw_seq (fun FK43 K43 => ?_)
      refine cw_region ?_
      refine wl_val (v := .agg #[.int .i64 N, .slice A gs.length c]) (fun ρ e => ex_loadN (vs := [.int .i64 N, .slice A gs.length c]) ty24 (e _ _ rfl) rfl (O20.cells 0 0 rfl rfl)) rfl rfl ?_
      refine wl_call (args := [.agg #[.int .i64 N, .slice A gs.length c]]) in_16 rfl rfl rfl ?_
      refine (copy_ (N := N) (gs := gs) ((hV.below O20.old).more O20.old.size) (fun g hg => by have := h200 g hg; omega) (by omega)).mono ?_
      rintro _ w48 ⟨A44, c45, D46, vs47, rfl, h49, hd50⟩
      have O51 : Own Z0 W w48 [.row (.slice A44 gs.length c45) 38 3 gs.length (gcells gs vs47), .ro D46 (OwnIns D46 gs vs47), .blk g2 24 #[.int .i64 N, .slice A gs.length c]] := Own.joinr O20 h49 (fun e he => by rcases List.mem_cons.1 he with rfl | he; exact .inl trivial; exact .inr (by rw [List.mem_singleton.1 he]; exact hd50))
      refine ⟨_, rfl, ?_⟩
      obtain ⟨g52, w53, r54, O55, hg56, hs57⟩ := own_alloc O51 24 ze24 rfl
      refine wl_val (v := .pointer (some ⟨g52, 0, none⟩)) (fun ρ e => r54 ρ _ _ _ _ _) rfl rfl ?_
      obtain ⟨w58, r59, O60, hs61⟩ := own_put (o := 0) (n := 2) O55 ty24 (.agg #[.int .i64 N, .slice A44 gs.length c45]) [.int .i64 N, .slice A44 gs.length c45] (cs' := #[.int .i64 N, .slice A44 gs.length c45]) rfl rfl rfl (Nat.le_of_ble_eq_true rfl) rfl
      refine wl_none (fun ρ e => r59 ρ _ _ _ _ _ _ (e _ _ rfl) (e _ _ rfl)) rfl ?_
      refine wl_nil ?_
      refine xw_next K43 ?_
      refine cw_seq (fun FK62 K62 => ?_)
      refine cw_drawn (fun X => Own Z0 W X [.blk g52 24 #[.int .i64 N, .slice A44 gs.length c45], .ro D46 (OwnIns D46 gs vs47), .blk g2 24 #[.int .i64 N, .slice A gs.length c]]) 27 [(0, 0), (2, 0), (1, 2), (3, 2), (4, 1), (5, 1), (6, 0), (8, 0), (7, 2), (9, 2), (10, 1), (11, 1), (12, 1), (13, 0), (15, 0), (14, 2), (16, 2), (17, 1), (18, 1), (19, 1), (20, 0), (21, 0), (22, 2), (23, 1), (24, 1), (25, 2), (26, 1), (27, 3)] (by kernel_rfl) (by kernel_rfl) (PQ.then_ PQ.body) ((O60.re [0, 2, 3] rfl : Own Z0 W w58 [.blk g52 24 #[.int .i64 N, .slice A44 gs.length c45], .ro D46 (OwnIns D46 gs vs47), .blk g2 24 #[.int .i64 N, .slice A gs.length c]])).drew ?_
      have O63 : Own Z0 W w58.drew [.blk g52 24 #[.int .i64 N, .slice A44 gs.length c45], .row (.slice A44 gs.length c45) 38 3 gs.length (gcells gs vs47), .ro D46 (OwnIns D46 gs vs47), .blk g2 24 #[.int .i64 N, .slice A gs.length c]] := O60.drew
      refine wt0 (v := .agg #[.int .i64 N, .slice A44 gs.length c45]) rfl (fun ρ e W hW => ex_loadN (vs := [.int .i64 N, .slice A44 gs.length c45]) ty24 (e _ _ rfl) rfl (hW.cells 0 0 rfl rfl)) rfl rfl ?_
      refine wt0 (v := .agg #[.int .i64 N, .slice A gs.length c]) rfl (fun ρ e W hW => ex_loadN (vs := [.int .i64 N, .slice A gs.length c]) ty24 (e _ _ rfl) rfl (hW.cells 2 0 rfl rfl)) rfl rfl ?_
      refine wt2_call (args := [.agg #[.int .i64 N, .slice A44 gs.length c45]]) rfl in_22 rfl rfl rfl ?_
      refine (circ_check N _ gs _ _ (Nat.le_refl _) (gates_of_own (O63.row 1 rfl) (O63.ro 2 rfl) (O63.get 2 rfl).2.1) (light_size (N := N) (by omega) h200)).mono ?_
      rintro _ w64 ⟨rfl, hb65⟩
      have O66 : Own Z0 W w64 [.blk g52 24 #[.int .i64 N, .slice A44 gs.length c45], .row (.slice A44 gs.length c45) 38 3 gs.length (gcells gs vs47), .ro D46 (OwnIns D46 gs vs47), .blk g2 24 #[.int .i64 N, .slice A gs.length c]] := O63.below hb65
      refine ⟨_, rfl, (O66.re [0, 2, 3] rfl : Own Z0 W w64 [.blk g52 24 #[.int .i64 N, .slice A44 gs.length c45], .ro D46 (OwnIns D46 gs vs47), .blk g2 24 #[.int .i64 N, .slice A gs.length c]]), ?_⟩
      refine wt2_call (args := [.agg #[.int .i64 N, .slice A gs.length c]]) rfl in_29 rfl rfl rfl ?_
      refine (ref07_check N _ gs _ _ (Nat.le_refl _) ((hV.below O66.old).more O66.old.size) (light_size (N := N) (by omega) h200)).mono ?_
      rintro _ w67 ⟨rfl, hb68⟩
      have O69 : Own Z0 W w67 [.blk g52 24 #[.int .i64 N, .slice A44 gs.length c45], .row (.slice A44 gs.length c45) 38 3 gs.length (gcells gs vs47), .ro D46 (OwnIns D46 gs vs47), .blk g2 24 #[.int .i64 N, .slice A gs.length c]] := O66.below hb68
      refine ⟨_, rfl, (O69.re [0, 2, 3] rfl : Own Z0 W w67 [.blk g52 24 #[.int .i64 N, .slice A44 gs.length c45], .ro D46 (OwnIns D46 gs vs47), .blk g2 24 #[.int .i64 N, .slice A gs.length c]]), ?_⟩
      refine wt1 (v := .bool true) rfl (fun ρ e W => ex_cmp (u := (checkOf N gs)) (v := (checkOf N gs)) (e _ _ rfl) (e _ _ rfl) (eql1 rfl)) rfl rfl ?_
      refine wt1 (v := .bool true) rfl (fun ρ e W => ex_move (e _ _ rfl)) rfl rfl ?_
      refine wt0 (v := .agg #[.int .i64 N, .slice A44 gs.length c45]) rfl (fun ρ e W hW => ex_loadN (vs := [.int .i64 N, .slice A44 gs.length c45]) ty24 (e _ _ rfl) rfl (hW.cells 0 0 rfl rfl)) rfl rfl ?_
      refine wt0 (v := .agg #[.int .i64 N, .slice A gs.length c]) rfl (fun ρ e W hW => ex_loadN (vs := [.int .i64 N, .slice A gs.length c]) ty24 (e _ _ rfl) rfl (hW.cells 2 0 rfl rfl)) rfl rfl ?_
      refine wt2_call (args := [.agg #[.int .i64 N, .slice A44 gs.length c45]]) rfl in_30 rfl rfl rfl ?_
      refine (cvars_ (N := N) (gates_of_own (O69.row 1 rfl) (O69.ro 2 rfl) (O69.get 2 rfl).2.1) (light_size (N := N) (by omega) h200)).mono ?_
      rintro _ w70 ⟨rfl, hb71⟩
      have O72 : Own Z0 W w70 [.blk g52 24 #[.int .i64 N, .slice A44 gs.length c45], .row (.slice A44 gs.length c45) 38 3 gs.length (gcells gs vs47), .ro D46 (OwnIns D46 gs vs47), .blk g2 24 #[.int .i64 N, .slice A gs.length c]] := O69.below hb71
      refine ⟨_, rfl, (O72.re [0, 2, 3] rfl : Own Z0 W w70 [.blk g52 24 #[.int .i64 N, .slice A44 gs.length c45], .ro D46 (OwnIns D46 gs vs47), .blk g2 24 #[.int .i64 N, .slice A gs.length c]]), ?_⟩
      refine wt2_call (args := [.agg #[.int .i64 N, .slice A gs.length c]]) rfl in_31 rfl rfl rfl ?_
      refine (rvars_ (N := N) ((hV.below O72.old).more O72.old.size) (light_size (N := N) (by omega) h200)).mono ?_
      rintro _ w73 ⟨rfl, hb74⟩
      have O75 : Own Z0 W w73 [.blk g52 24 #[.int .i64 N, .slice A44 gs.length c45], .row (.slice A44 gs.length c45) 38 3 gs.length (gcells gs vs47), .ro D46 (OwnIns D46 gs vs47), .blk g2 24 #[.int .i64 N, .slice A gs.length c]] := O72.below hb74
      refine ⟨_, rfl, (O75.re [0, 2, 3] rfl : Own Z0 W w73 [.blk g52 24 #[.int .i64 N, .slice A44 gs.length c45], .ro D46 (OwnIns D46 gs vs47), .blk g2 24 #[.int .i64 N, .slice A gs.length c]]), ?_⟩
      refine wt1 (v := .bool true) rfl (fun ρ e W => ex_eqset (e _ _ rfl) (e _ _ rfl)) rfl rfl ?_
      refine wt1 (v := .bool true) rfl (fun ρ e W => ex_pick1 (e _ _ rfl) (e _ _ rfl)) rfl rfl ?_
      refine wt1 (v := .bool true) rfl (fun ρ e W => ex_move (e _ _ rfl)) rfl rfl ?_
      refine wt0 (v := .agg #[.int .i64 N, .slice A44 gs.length c45]) rfl (fun ρ e W hW => ex_loadN (vs := [.int .i64 N, .slice A44 gs.length c45]) ty24 (e _ _ rfl) rfl (hW.cells 0 0 rfl rfl)) rfl rfl ?_
      refine wt0 (v := .agg #[.int .i64 N, .slice A gs.length c]) rfl (fun ρ e W hW => ex_loadN (vs := [.int .i64 N, .slice A gs.length c]) ty24 (e _ _ rfl) rfl (hW.cells 2 0 rfl rfl)) rfl rfl ?_
      refine wt2_call (args := [.agg #[.int .i64 N, .slice A44 gs.length c45]]) rfl in_23 rfl rfl rfl ?_
      refine (circ_size N _ gs _ _ (Nat.le_refl _) (gates_of_own (O75.row 1 rfl) (O75.ro 2 rfl) (O75.get 2 rfl).2.1) (light_size (N := N) (by omega) h200)).mono ?_
      rintro _ w76 ⟨rfl, hb77⟩
      have O78 : Own Z0 W w76 [.blk g52 24 #[.int .i64 N, .slice A44 gs.length c45], .row (.slice A44 gs.length c45) 38 3 gs.length (gcells gs vs47), .ro D46 (OwnIns D46 gs vs47), .blk g2 24 #[.int .i64 N, .slice A gs.length c]] := O75.below hb77
      refine ⟨_, rfl, (O78.re [0, 2, 3] rfl : Own Z0 W w76 [.blk g52 24 #[.int .i64 N, .slice A44 gs.length c45], .ro D46 (OwnIns D46 gs vs47), .blk g2 24 #[.int .i64 N, .slice A gs.length c]]), ?_⟩
      refine wt2_call (args := [.agg #[.int .i64 N, .slice A gs.length c]]) rfl in_32 rfl rfl rfl ?_
      refine (ref07_size N _ gs _ _ (Nat.le_refl _) ((hV.below O78.old).more O78.old.size) (light_size (N := N) (by omega) h200)).mono ?_
      rintro _ w79 ⟨rfl, hb80⟩
      have O81 : Own Z0 W w79 [.blk g52 24 #[.int .i64 N, .slice A44 gs.length c45], .row (.slice A44 gs.length c45) 38 3 gs.length (gcells gs vs47), .ro D46 (OwnIns D46 gs vs47), .blk g2 24 #[.int .i64 N, .slice A gs.length c]] := O78.below hb80
      refine ⟨_, rfl, (O81.re [0, 2, 3] rfl : Own Z0 W w79 [.blk g52 24 #[.int .i64 N, .slice A44 gs.length c45], .ro D46 (OwnIns D46 gs vs47), .blk g2 24 #[.int .i64 N, .slice A gs.length c]]), ?_⟩
      refine wt1 (v := .bool true) rfl (fun ρ e W => ex_cmp (u := ((sizeOf gs : Nat) : Int)) (v := ((sizeOf gs : Nat) : Int)) (e _ _ rfl) (e _ _ rfl) (eql1 rfl)) rfl rfl ?_
      refine wt1 (v := .bool true) rfl (fun ρ e W => ex_pick1 (e _ _ rfl) (e _ _ rfl)) rfl rfl ?_
      refine wt1 (v := .bool true) rfl (fun ρ e W => ex_move (e _ _ rfl)) rfl rfl ?_
      refine wt0 (v := .agg #[.int .i64 N, .slice A44 gs.length c45]) rfl (fun ρ e W hW => ex_loadN (vs := [.int .i64 N, .slice A44 gs.length c45]) ty24 (e _ _ rfl) rfl (hW.cells 0 0 rfl rfl)) rfl rfl ?_
      refine wt0 (v := .agg #[.int .i64 N, .slice A gs.length c]) rfl (fun ρ e W hW => ex_loadN (vs := [.int .i64 N, .slice A gs.length c]) ty24 (e _ _ rfl) rfl (hW.cells 2 0 rfl rfl)) rfl rfl ?_
      refine wt2_call (args := [.agg #[.int .i64 N, .slice A44 gs.length c45], .agg #[.int .i64 N, .slice A gs.length c]]) rfl in_20 rfl rfl rfl ?_
      have h85 := rcsame_ (N := N) (M := N) (gates_of_own (O81.row 1 rfl) (O81.ro 2 rfl) (O81.get 2 rfl).2.1) ((hV.below O81.old).more O81.old.size) (fun g hg => by have := h200 g hg; omega) (fun g hg => by have := h200 g hg; omega) (by omega) (by omega)
      rw [decide_eq_true (show N = N ∧ gs = gs from ⟨rfl, rfl⟩)] at h85
      refine h85.mono ?_
      rintro _ w82 ⟨rfl, hb83⟩
      have O84 : Own Z0 W w82 [.blk g52 24 #[.int .i64 N, .slice A44 gs.length c45], .row (.slice A44 gs.length c45) 38 3 gs.length (gcells gs vs47), .ro D46 (OwnIns D46 gs vs47), .blk g2 24 #[.int .i64 N, .slice A gs.length c]] := O81.below hb83
      refine ⟨_, rfl, (O84.re [0, 2, 3] rfl : Own Z0 W w82 [.blk g52 24 #[.int .i64 N, .slice A44 gs.length c45], .ro D46 (OwnIns D46 gs vs47), .blk g2 24 #[.int .i64 N, .slice A gs.length c]]), ?_⟩
      refine wt1 (v := .bool true) rfl (fun ρ e W => ex_pick1 (e _ _ rfl) (e _ _ rfl)) rfl rfl ?_
      refine wt1 (v := .bool true) rfl (fun ρ e W => ex_move (e _ _ rfl)) rfl rfl ?_
      refine wt2_call (args := []) rfl in_14 rfl rfl rfl ?_
      refine (works_ (tab.below (Nat.le_refl _) O84.old)).mono ?_
      rintro _ w86 ⟨rfl, hb87⟩
      have O88 : Own Z0 W w86 [.blk g52 24 #[.int .i64 N, .slice A44 gs.length c45], .row (.slice A44 gs.length c45) 38 3 gs.length (gcells gs vs47), .ro D46 (OwnIns D46 gs vs47), .blk g2 24 #[.int .i64 N, .slice A gs.length c]] := O84.below hb87
      refine ⟨_, rfl, (O88.re [0, 2, 3] rfl : Own Z0 W w86 [.blk g52 24 #[.int .i64 N, .slice A44 gs.length c45], .ro D46 (OwnIns D46 gs vs47), .blk g2 24 #[.int .i64 N, .slice A gs.length c]]), ?_⟩
      refine wt1 (v := .bool true) rfl (fun ρ e W => ex_pick1 (e _ _ rfl) (e _ _ rfl)) rfl rfl ?_
      refine wt3 (v := .bool true) rfl (fun ρ e => ex_assign (e _ _ rfl)) rfl rfl ?_
      refine wt_nil ?_
      refine xw_next K62 ?_
      refine cw_ret ?_
      refine xw_ret (v := .bool true) (fun T hT => res1 rfl T _ (hT 2 _ rfl)) ?_
      exact ⟨rfl, O88.old⟩
end Go.Proofs.YtbemhgojfehnjaaDoor
namespace Go.Proofs.YtbemhgojfehnjaaDoor
open Go Go.RowKit
section
variable {P : Program} {ops : Array Oper} {Q : Exit → Act → World → Prop} {S : World → Prop} {k fuel n i d : Nat} {listed listed' : Array Bool} {m : List (Nat × Value)} {w w' : World} {op : Op} {t : TypeId} {pos : String} {aft : Array Edge} {gd : Option (Nat × Bool)} {v : Value}
def at_ (P : Program) (ops : Array Oper) (Q : Exit → Act → World → Prop) (S : World → Prop) (k fuel : Nat) (listed : Array Bool) (n : Nat) (m : List (Nat × Value)) (w : World) : Prop := ∀ a, Fm n m a → AnyT P .any ops Q S k fuel listed a w
theorem at_sub {r : List (Nat × Value)} (hs : Sub r m) (h : at_ P ops Q S k fuel listed n r w) : at_ P ops Q S k fuel listed n m w := fun a ha => h a (ha.sub hs)
theorem at_sub2 {r : List (Nat × Value)} (h : at_ P ops Q S k fuel listed n r w) (hs : Sub r m) : at_ P ops Q S k fuel listed n m w := fun a ha => h a (ha.sub hs)
theorem at_start {id : Nat} {l : List Oper} (S : World → Prop) (k : Nat) (hm : P.follows .mixedOrders = true) (hf : l.toArray.size = fuel) (hl : Array.replicate l.toArray.size false = listed) (hS : S w.drew) (h : at_ P l.toArray Q S k fuel listed n m w.drew) : cw P (.region id l.toArray true) Q n m w := fun a ha =>
  region_T hm S k hS (fun _ => by subst hf hl; exact h a ha)
/-- What is asked of an operation that is taken ahead of all others. -/
def takeB (ops : Array Oper) (listed listed' : Array Bool) (i k : Nat) (load : Bool) : Bool :=
  Region.noSelect ops && Region.free .any ops listed i && (Region.ready .any ops listed).contains i && (i != k) && (!load || (waitB .any ops k i && !(listed.getD k false))) && (listed.setIfInBounds i true == listed')
theorem at_take0 (ho : ops[i]? = some ⟨some d, op, t, pos, aft, gd⟩) (hb : takeB ops listed listed' i k true = true) (hQ : PQ Q) (hS : S w) (hr : ∀ ρ, Reads m ρ → ∀ W, S W → (execOp ρ ⟨some d, op, t, pos, aft, gd⟩).run P W = .ok (.value v) W) (hg : wantedM ops m gd = some true) (hd : Nat.blt d n = true)
    (h : at_ P ops Q S k fuel listed' n ((d, v) :: m) w) : at_ P ops Q S k (fuel + 1) listed n m w := fun a ha => by
  simp only [takeB, Bool.and_eq_true, beq_iff_eq, Bool.not_true, Bool.false_or] at hb
  obtain ⟨⟨⟨⟨⟨h1, h2⟩, h3⟩, h4⟩, h5, h6⟩, h7⟩ := hb
  subst h7
  refine anyT_take ho h1 h2 h3 (by simp only [Bool.and_eq_true]; exact ⟨⟨h5, h6⟩, h4⟩) (fun c a w => hQ c a _ _ w) (.inl ⟨ha.wanted hg, hr _ ha.reads⟩) hS ?_
  exact h _ (ha.put (by simpa [Nat.blt_eq] using hd) v)
theorem at_take1 (ho : ops[i]? = some ⟨some d, op, t, pos, aft, gd⟩) (hb : takeB ops listed listed' i k false = true) (hQ : PQ Q) (hS : listed.getD k false = false → S w) (hr : ∀ ρ, Reads m ρ → ∀ W, (execOp ρ ⟨some d, op, t, pos, aft, gd⟩).run P W = .ok (.value v) W) (hg : wantedM ops m gd = some true) (hd : Nat.blt d n = true)
    (h : at_ P ops Q S k fuel listed' n ((d, v) :: m) w) : at_ P ops Q S k (fuel + 1) listed n m w := fun a ha => by
  simp only [takeB, Bool.and_eq_true, beq_iff_eq] at hb
  obtain ⟨⟨⟨⟨⟨h1, h2⟩, h3⟩, h4⟩, _⟩, h7⟩ := hb
  subst h7
  refine anyT_takeY ho h1 h2 h3 h4 (fun c a w => hQ c a _ _ w) (.inl ⟨ha.wanted hg, fun W _ => hr _ ha.reads W⟩) hS ?_
  exact h _ (ha.put (by simpa [Nat.blt_eq] using hd) v)
theorem at_takeS (ho : ops[i]? = some ⟨some d, op, t, pos, aft, gd⟩) (hb : takeB ops listed listed' i k false = true) (hQ : PQ Q) (hS : listed.getD k false = false → S w) (hg : wantedM ops m gd = some false) (hd : Nat.blt d n = true)
    (h : at_ P ops Q S k fuel listed' n ((d, undef) :: m) w) : at_ P ops Q S k (fuel + 1) listed n m w := fun a ha => by
  simp only [takeB, Bool.and_eq_true, beq_iff_eq] at hb
  obtain ⟨⟨⟨⟨⟨h1, h2⟩, h3⟩, h4⟩, _⟩, h7⟩ := hb
  subst h7
  refine anyT_takeY ho h1 h2 h3 h4 (fun c a w => hQ c a _ _ w) (.inr ⟨ha.wanted hg, rfl⟩) hS ?_
  exact h _ (ha.put (by simpa [Nat.blt_eq] using hd) undef)
/-- The operation that comes up next. -/
def stp (P : Program) (ops : Array Oper) (Q : Exit → Act → World → Prop) (S : World → Prop) (k fuel : Nat) (listed : Array Bool) (n : Nat) (m : List (Nat × Value)) (w : World) (i : Nat) : Prop :=
  ∀ a, Fm n m a → wpOp P ops Q i (fun a' w' => ((listed.setIfInBounds i true).getD k false = false → S w') ∧ AnyT P .any ops Q S k fuel (listed.setIfInBounds i true) a' w') a w
def allS (st : Nat → Prop) : List Nat → Prop
  | [] => True
  | i :: r => st i ∧ allS st r
theorem allS_mem {st : Nat → Prop} : ∀ {l : List Nat}, allS st l → ∀ i ∈ l, st i
  | [], _, i, hi => by cases hi
  | j :: r, h, i, hi => by
    rcases List.mem_cons.1 hi with rfl | hi
    · exact h.1
    · exact allS_mem h.2 i hi
theorem at_branch (is : List Nat) (hr : (Region.ready .any ops listed == is && !is.isEmpty) = true) (h : allS (stp P ops Q S k fuel listed n m w) is) : at_ P ops Q S k (fuel + 1) listed n m w := fun a ha => by
  simp only [Bool.and_eq_true, beq_iff_eq] at hr
  refine ⟨fun h0 => ?_, fun i hi => allS_mem h i (hr.1 ▸ hi) a ha⟩
  have := hr.1.symm.trans h0
  subst this
  simp at hr
theorem at_done (hr : (Region.ready .any ops listed).isEmpty = true) (h : xw Q .normal n m w) : at_ P ops Q S k fuel listed n m w := fun a ha => anyT_done (by simpa using hr) (h a ha) fuel
theorem stp_val (ho : ops[i]? = some ⟨some d, op, t, pos, aft, gd⟩) (hl : (listed.setIfInBounds i true == listed') = true) (hr : ∀ ρ, Reads m ρ → (execOp ρ ⟨some d, op, t, pos, aft, gd⟩).run P w = .ok (.value v) w') (hg : wantedM ops m gd = some true) (hd : Nat.blt d n = true) (hS : listed'.getD k false = false → S w')
    (h : at_ P ops Q S k fuel listed' n ((d, v) :: m) w') : stp P ops Q S k fuel listed n m w i := fun a ha => by
  have hl' := eq_of_beq hl
  subst hl'
  refine wpOp_step ho (fun K' hK => ?_)
  rw [if_pos (ha.wanted hg)]
  unfold Oper.wp
  rw [hr _ ha.reads]
  exact hK _ _ ⟨hS, h _ (ha.put (by simpa [Nat.blt_eq] using hd) v)⟩
theorem stp_skip (ho : ops[i]? = some ⟨some d, op, t, pos, aft, gd⟩) (hl : (listed.setIfInBounds i true == listed') = true) (hg : wantedM ops m gd = some false) (hd : Nat.blt d n = true) (hS : listed'.getD k false = false → S w)
    (h : at_ P ops Q S k fuel listed' n ((d, undef) :: m) w) : stp P ops Q S k fuel listed n m w i := fun a ha => by
  have hl' := eq_of_beq hl
  subst hl'
  refine wpOp_step ho (fun K' hK => ?_)
  rw [if_neg (by rw [ha.wanted hg]; simp)]
  exact hK _ _ ⟨hS, h _ (ha.put (by simpa [Nat.blt_eq] using hd) undef)⟩
theorem stp_none (ho : ops[i]? = some ⟨none, op, t, pos, aft, gd⟩) (hl : (listed.setIfInBounds i true == listed') = true) (hr : ∀ ρ, Reads m ρ → (execOp ρ ⟨none, op, t, pos, aft, gd⟩).run P w = .ok .skip w') (hg : wantedM ops m gd = some true) (hS : listed'.getD k false = false → S w')
    (h : at_ P ops Q S k fuel listed' n m w') : stp P ops Q S k fuel listed n m w i := fun a ha => by
  have hl' := eq_of_beq hl
  subst hl'
  refine wpOp_step ho (fun K' hK => ?_)
  rw [if_pos (ha.wanted hg)]
  unfold Oper.wp
  rw [hr _ ha.reads]
  exact hK _ _ ⟨hS, h _ ha⟩
theorem stp_call {f : FuncId} {xs : List Operand} {ts : Array TypeId} {args : List Value} (ho : ops[i]? = some ⟨some d, .call ⟨.value (.func f), xs.toArray, ts⟩, t, pos, aft, gd⟩) (hl : (listed.setIfInBounds i true == listed') = true) (he : Enters P f) (hargs : evs m xs = some args) (hg : wantedM ops m gd = some true) (hd : Nat.blt d n = true)
    (h : Calls P f args.toArray w fun e w' => ∃ v, e = .returned v ∧ (listed'.getD k false = false → S w') ∧ at_ P ops Q S k fuel listed' n ((d, v) :: m) w') : stp P ops Q S k fuel listed n m w i := fun a ha => by
  have hl' := eq_of_beq hl
  subst hl'
  refine wpOp_step ho (fun K' hK => ?_)
  rw [if_pos (ha.wanted hg)]
  unfold Oper.wp
  rw [exec_call he rfl (args := args.toArray) (by rw [List.map_toArray, ha.evs hargs])]
  refine h.mono ?_
  rintro e w' ⟨v, rfl, hS, hh⟩
  exact hK _ _ ⟨hS, hh _ (ha.put (by simpa [Nat.blt_eq] using hd) v)⟩
end
end Go.Proofs.YtbemhgojfehnjaaDoor
namespace Go.Proofs.YtbemhgojfehnjaaDoor
open Go Go.RowKit
theorem at_name {P : Program} {ops : Array Oper} {Q : Exit → Act → World → Prop} {S : World → Prop} {k fuel n : Nat} {listed : Array Bool} {m : List (Nat × Value)} {w : World}
    (h : ∀ AT : Nat → Array Bool → Nat → List (Nat × Value) → World → Prop, (∀ f l n m w, at_ P ops Q S k f l n m w → AT f l n m w) → (∀ f l n m w, AT f l n m w → at_ P ops Q S k f l n m w) → AT fuel listed n m w) : at_ P ops Q S k fuel listed n m w :=
  h (at_ P ops Q S k) (fun _ _ _ _ _ h => h) (fun _ _ _ _ _ h => h)
end Go.Proofs.YtbemhgojfehnjaaDoor
