/-
  Lemmas and contracts, joined: VlDepth.
-/
import Derived.Test.YtpeoodkepjhhiaaDoorPf4
namespace Go.Proofs.YtpeoodkepjhhiaaDoor
open Go Go.RowKit
theorem ex_shlI {ρ : Operand → Value} {d0 : Option Tmp} {x0 y0 : Operand} {t T1 : TypeId} {pos0 : String} {aft : Array Edge} {gd : Option (Nat × Bool)} {w : World} {k : Nat} (hx : ρ x0 = .int .i64 1) (hy : ρ y0 = .int .u64 ((k : Nat) : Int)) (hk : k ≤ 7) : (execOp ρ ⟨d0, .binOp .shl 3 x0 y0 T1, t, pos0, aft, gd⟩).run Tryd.prog w = .ok (.value (.int .i64 ((2 ^ k : Nat) : Int))) w := by
  rcases (show k = 0 ∨ k = 1 ∨ k = 2 ∨ k = 3 ∨ k = 4 ∨ k = 5 ∨ k = 6 ∨ k = 7 by omega) with rfl | rfl | rfl | rfl | rfl | rfl | rfl | rfl <;> (simp [go_sem, hx, hy]; rfl)
theorem chain_bound (ts : List VN) (i : Nat) : (chainOf ts i).length ≤ ts.length := by
  have key : ∀ (u : List Int) (n k : Nat), (chainL u n k).length ≤ n := by
    intro u n
    induction n with
    | zero => intro k; simp [chainL]
    | succ n ih =>
      intro k
      unfold chainL
      cases u[k]? with
      | none => simp
      | some p =>
        dsimp only
        split
        · simp
        · have := ih p.toNat
          simp only [List.length_cons]
          omega
  exact key _ _ _
set_option maxHeartbeats 4000000 in
theorem vtreeDepth_ok {W : World} {x0 x1 : Int} (hx0 : (Lit.int .u8 x0).wf = true) (hx1 : (Lit.int .u8 x1).wf = true) (tab : Tab W) : Calls Tryd.prog 7 #[.int .u8 x0, .int .u8 x1] W fun e w' => e = .returned (.bool true) ∧ Below W.heap.size W w' := by
  obtain ⟨x, hx, rfl⟩ := byte_nat hx0
  obtain ⟨y, hy, rfl⟩ := byte_nat hx1
  have O0 : Own Z0 W W [] := Own.start W
  refine sx_enter (args := [.int .u8 (x : Int), .int .u8 (y : Int)]) Tryd.func7 rfl rfl (by simp) ?_
  refine cw_seq (fun FK1 K1 => ?_)
  refine cw_region ?_
  refine wl_val (v := .bool false) (fun ρ e => ex_assign (e _ _ rfl)) rfl rfl ?_
  refine wl_nil ?_
  refine xw_next K1 ?_
  refine cw_seq (fun FK2 K2 => ?_)
  refine cw_region ?_
  refine wl_val (v := .int .u8 (x : Int)) (fun ρ e => ex_move (e _ _ rfl)) rfl rfl ?_
  obtain ⟨k3, hk3, lk3⟩ : ∃ q, x % 128 = q ∧ q < 128 := ⟨_, rfl, Nat.mod_lt _ (by omega)⟩
  refine wl_val (v := .int .u8 (k3 : Int)) (fun ρ e => ex_rem8 (a := x) (b := 128) (e _ _ rfl) (e _ _ rfl) (by omega) hk3) rfl rfl ?_
  refine wl_val (v := .int .i64 (k3 : Int)) (fun ρ e => ex_conv8 (e _ _ rfl) (by omega)) rfl rfl ?_
  obtain ⟨n, hn⟩ : ∃ q, q = 1 + k3 := ⟨_, rfl⟩
  have hn0 : 0 < n := by omega
  have hn1 : n ≤ 128 := by omega
  refine wl_val (v := .int .i64 (n : Int)) (fun ρ e => ex_arith (k := .i64) (u := 1) (v := (k3 : Int)) (e _ _ rfl) (e _ _ rfl) (congrArg some ((congrArg _ (show _ = (n : Int) by omega)).trans (wrap_in (by omega) (by omega))))) rfl rfl ?_
  refine wl_val (v := .int .i64 (n : Int)) (fun ρ e => ex_assign (e _ _ rfl)) rfl rfl ?_
  refine wl_nil ?_
  refine xw_next K2 ?_
  refine cw_seq (fun FK4 K4 => ?_)
  refine cw_region ?_
  refine wl_val (v := .int .i64 (n : Int)) (fun ρ e => ex_move (e _ _ rfl)) rfl rfl ?_
  obtain ⟨g5, w6, r7, O8, hg9, hs10⟩ := own_make1 O0 ap36 rfl n (by decide) (by omega) (cs := (intCs (ordL n y 0)).toArray) (by rw [ordL_zero]; simp [intCs])
  refine wl_val (v := .slice (some ⟨g5, 0, none⟩) n n) (fun ρ e => r7 ρ _ _ _ _ _ _ _ (e _ _ rfl) (e _ _ rfl)) rfl rfl ?_
  refine wl_val (v := .slice (some ⟨g5, 0, none⟩) n n) (fun ρ e => ex_assign (e _ _ rfl)) rfl rfl ?_
  refine wl_nil ?_
  refine xw_next K4 ?_
  refine cw_seq (fun FK11 K11 => ?_)
  refine cw_seq (fun FK12 K12 => ?_)
  refine cw_region ?_
  refine wl_val (v := .slice (some ⟨g5, 0, none⟩) n n) (fun ρ e => ex_move (e _ _ rfl)) rfl rfl ?_
  refine wl_val (v := .int .i64 (n : Int)) (fun ρ e => ex_len el36 (e _ _ rfl)) rfl rfl ?_
  refine wl_val (v := .int .i64 0) (fun ρ e => ex_move (e _ _ rfl)) rfl rfl ?_
  refine wl_nil ?_
  refine xw_next K12 ?_
  refine cw_block ?_
  have O13 : Own Z0 W w6 [.blk g5 3 ((intCs (ordL n y 0)).toArray)] := O8
  refine cw_loop (ι := Nat) (fun q => [(1, .int .u8 (y : Int)), (5, .int .i64 (n : Int)), (6, .slice (some ⟨g5, 0, none⟩) n n), (27, .int .i64 (n : Int)), (28, .int .i64 (q : Int))]) (fun q X => (q ≤ n) ∧ Own Z0 W X [.blk g5 3 ((intCs (ordL n y q)).toArray)]) (fun q => n - q) 0 ⟨Nat.zero_le _, O13⟩ ⟨rfl, rfl, rfl, rfl, rfl, trivial⟩ (fun q w14 hJ F15 K16 => ?_)
  obtain ⟨i, rfl⟩ : ∃ x, x = q := ⟨_, rfl⟩
  obtain ⟨hi0, O17⟩ := hJ
  try dsimp only at hi0 O17 ⊢
  by_cases hi : i < n
  · skip
    refine cw_seq (fun FK18 K18 => ?_)
    refine cw_region ?_
    refine wl_val (v := .bool true) (fun ρ e => ex_cmp (u := (i : Int)) (v := (n : Int)) (e _ _ rfl) (e _ _ rfl) (lss1 (by omega))) rfl rfl ?_
    refine wl_nil ?_
    refine xw_next K18 ?_
    refine cw_seq (fun FK19 K19 => ?_)
    refine cw_true rfl ?_
    refine cw_skip ?_
    refine xw_next K19 ?_
    refine cw_seq (fun FK20 K20 => ?_)
    refine cw_block ?_
    refine cw_seq (fun FK21 K21 => ?_)
    refine cw_region ?_
    refine wl_val (v := .int .i64 (i : Int)) (fun ρ e => ex_move (e _ _ rfl)) rfl rfl ?_
    refine wl_val (v := .int .i64 (i : Int)) (fun ρ e => ex_assign (e _ _ rfl)) rfl rfl ?_
    refine wl_nil ?_
    refine xw_next K21 ?_
    refine cw_region ?_
    refine wl_val (v := .slice (some ⟨g5, 0, none⟩) n n) (fun ρ e => ex_move (e _ _ rfl)) rfl rfl ?_
    refine wl_val (v := .int .i64 (i : Int)) (fun ρ e => ex_move (e _ _ rfl)) rfl rfl ?_
    refine wl_val (v := .int .i64 (i : Int)) (fun ρ e => ex_move (e _ _ rfl)) rfl rfl ?_
    refine wl_val (v := .int .u8 (y : Int)) (fun ρ e => ex_move (e _ _ rfl)) rfl rfl ?_
    refine wl_val (v := .int .i64 (y : Int)) (fun ρ e => ex_conv8 (e _ _ rfl) (by omega)) rfl rfl ?_
    refine wl_val (v := .int .i64 ((i + y : Nat) : Int)) (fun ρ e => ex_arith (k := .i64) (u := (i : Int)) (v := (y : Int)) (e _ _ rfl) (e _ _ rfl) (congrArg some ((congrArg _ (show _ = ((i + y : Nat) : Int) by omega)).trans (wrap_in (by omega) (by omega))))) rfl rfl ?_
    obtain ⟨k22, hk22, lk22⟩ : ∃ q, (i + y) % 128 = q ∧ q < 128 := ⟨_, rfl, Nat.mod_lt _ (by omega)⟩
    refine wl_val (v := .int .i64 (k22 : Int)) (fun ρ e => ex_remg (a := i + y) (b := 128) (e _ _ rfl) (e _ _ rfl) (by omega) hk22) rfl rfl ?_
    refine wl_val (v := .int .i64 ((1 + k22 : Nat) : Int)) (fun ρ e => ex_arith (k := .i64) (u := 1) (v := (k22 : Int)) (e _ _ rfl) (e _ _ rfl) (congrArg some ((congrArg _ (show _ = ((1 + k22 : Nat) : Int) by omega)).trans (wrap_in (by omega) (by omega))))) rfl rfl ?_
    refine wl_val (v := .pointer (some ⟨g5, i, none⟩)) (fun ρ e => ex_idx (q := i) (i := i) el36 (e _ _ rfl) (e _ _ rfl) (by omega) (by omega)) rfl rfl ?_
    obtain ⟨w23, r24, O25, hs26⟩ := own_put (o := i) (n := 1) O17 ty3 (.int .i64 ((1 + k22 : Nat) : Int)) [.int .i64 ((1 + k22 : Nat) : Int)] (cs' := (intCs ((ordL n y i).set i ((1 + k22 : Nat) : Int))).toArray) rfl rfl rfl (by simp [intCs, ordL_len] <;> omega) (setI _ i ((1 + k22 : Nat) : Int))
    refine wl_none (fun ρ e => r24 ρ _ _ _ _ _ _ (e _ _ rfl) (e _ _ rfl)) rfl ?_
    refine wl_nil ?_
    refine xw_block ?_
    refine xw_next K20 ?_
    refine cw_region ?_
    refine wl_val (v := .int .i64 ((i + 1 : Nat) : Int)) (fun ρ e => ex_arith (k := .i64) (u := (i : Int)) (v := 1) (e _ _ rfl) (e _ _ rfl) (congrArg some ((congrArg _ (show _ = ((i + 1 : Nat) : Int) by omega)).trans (wrap_in (by omega) (by omega))))) rfl rfl ?_
    refine wl_val (v := .int .i64 ((i + 1 : Nat) : Int)) (fun ρ e => ex_move (e _ _ rfl)) rfl rfl ?_
    refine wl_nil ?_
    have hq1 : 1 + k22 = 1 + (i + y) % 128 := by omega
    have O27 : Own Z0 W w23 [.blk g5 3 ((intCs (ordL n y (i + 1))).toArray)] := by rw [← ordL_set hi, ← hq1]; exact O25
    refine xw_round K16 (i + 1) (by show n - (i + 1) < n - i; omega) ⟨(by show i + 1 ≤ n; omega), O27⟩ ⟨rfl, rfl, rfl, rfl, rfl, trivial⟩
  · have hie : i = n := by omega
    rw [hie] at O17
    refine cw_seq (fun FK28 K28 => ?_)
    refine cw_region ?_
    refine wl_val (v := .bool false) (fun ρ e => ex_cmp (u := (i : Int)) (v := (n : Int)) (e _ _ rfl) (e _ _ rfl) (lss0 (by omega))) rfl rfl ?_
    refine wl_nil ?_
    refine xw_next K28 ?_
    refine cw_seq (fun FK29 K29 => ?_)
    refine cw_false rfl ?_
    refine cw_exit ?_
    refine xw_past (by intro h; cases h) ?_
    refine xw_past (by intro h; cases h) ?_
    refine xw_here ?_
    refine xw_next K11 ?_
    refine cw_seq (fun FK30 K30 => ?_)
    refine cw_region ?_
    refine wl_val (v := .int .i64 0) (fun ρ e => ex_assign (e _ _ rfl)) rfl rfl ?_
    refine wl_nil ?_
    refine xw_next K30 ?_
    refine cw_seq (fun FK31 K31 => ?_)
    refine cw_block ?_
    refine cw_loop (ι := Nat) (fun q => [(5, .int .i64 (n : Int)), (6, .slice (some ⟨g5, 0, none⟩) n n), (8, .int .i64 (q : Int))]) (fun q X => (q ≤ 7) ∧ Own Z0 W X [.blk g5 3 ((intCs (ordL n y n)).toArray)]) (fun q => 7 - q) 0 ⟨Nat.zero_le _, O17⟩ ⟨rfl, rfl, rfl, trivial⟩ (fun q w32 hJ F33 K34 => ?_)
    obtain ⟨d, rfl⟩ : ∃ x, x = q := ⟨_, rfl⟩
    obtain ⟨hd0, O35⟩ := hJ
    try dsimp only at hd0 O35 ⊢
    by_cases hd : 2 ^ d < n
    · have hd7 : d < 7 := by
        rcases (show d < 7 ∨ d = 7 by omega) with h | rfl
        · exact h
        · simp at hd; omega
      refine cw_seq (fun FK36 K36 => ?_)
      refine cw_seq (fun FK37 K37 => ?_)
      refine cw_region ?_
      refine wl_val (v := .int .i64 (d : Int)) (fun ρ e => ex_move (e _ _ rfl)) rfl rfl ?_
      refine wl_val (v := .int .u64 (d : Int)) (fun ρ e => ex_conv343 (e _ _ rfl) (by omega) (by omega)) rfl rfl ?_
      refine wl_val (v := .int .i64 ((2 ^ d : Nat) : Int)) (fun ρ e => ex_shlI (e _ _ rfl) (e _ _ rfl) (by omega)) rfl rfl ?_
      refine wl_val (v := .int .i64 (n : Int)) (fun ρ e => ex_move (e _ _ rfl)) rfl rfl ?_
      refine wl_val (v := .bool true) (fun ρ e => ex_cmp (u := ((2 ^ d : Nat) : Int)) (v := (n : Int)) (e _ _ rfl) (e _ _ rfl) (lss1 (Int.ofNat_lt.2 hd))) rfl rfl ?_
      refine wl_nil ?_
      refine xw_next K37 ?_
      refine cw_true rfl ?_
      refine cw_skip ?_
      refine xw_next K36 ?_
      refine cw_block ?_
      refine cw_region ?_
      refine wl_val (v := .int .i64 (d : Int)) (fun ρ e => ex_move (e _ _ rfl)) rfl rfl ?_
      refine wl_val (v := .int .i64 ((d + 1 : Nat) : Int)) (fun ρ e => ex_arith (k := .i64) (u := (d : Int)) (v := 1) (e _ _ rfl) (e _ _ rfl) (congrArg some ((congrArg _ (show _ = ((d + 1 : Nat) : Int) by omega)).trans (wrap_in (by omega) (by omega))))) rfl rfl ?_
      refine wl_val (v := .int .i64 ((d + 1 : Nat) : Int)) (fun ρ e => ex_assign (e _ _ rfl)) rfl rfl ?_
      refine wl_nil ?_
      refine xw_block ?_
      refine xw_round K34 (d + 1) (by show 7 - (d + 1) < 7 - d; omega) ⟨(by show d + 1 ≤ 7; omega), O35⟩ ⟨rfl, rfl, rfl, trivial⟩
    · have hdn : n ≤ 2 ^ d := Nat.not_lt.1 hd
      refine cw_seq (fun FK38 K38 => ?_)
      refine cw_seq (fun FK39 K39 => ?_)
      refine cw_region ?_
      refine wl_val (v := .int .i64 (d : Int)) (fun ρ e => ex_move (e _ _ rfl)) rfl rfl ?_
      refine wl_val (v := .int .u64 (d : Int)) (fun ρ e => ex_conv343 (e _ _ rfl) (by omega) (by omega)) rfl rfl ?_
      refine wl_val (v := .int .i64 ((2 ^ d : Nat) : Int)) (fun ρ e => ex_shlI (e _ _ rfl) (e _ _ rfl) (by omega)) rfl rfl ?_
      refine wl_val (v := .int .i64 (n : Int)) (fun ρ e => ex_move (e _ _ rfl)) rfl rfl ?_
      refine wl_val (v := .bool false) (fun ρ e => ex_cmp (u := ((2 ^ d : Nat) : Int)) (v := (n : Int)) (e _ _ rfl) (e _ _ rfl) (lss0 (Int.ofNat_le.2 hdn))) rfl rfl ?_
      refine wl_nil ?_
      refine xw_next K39 ?_
      refine cw_false rfl ?_
      refine cw_exit ?_
      refine xw_past (by intro h; cases h) ?_
      refine xw_past (by intro h; cases h) ?_
      refine xw_here ?_
      refine xw_next K31 ?_
      refine cw_seq (fun FK40 K40 => ?_)
      refine cw_seq (fun FK41 K41 => ?_)
      refine cw_region ?_
      refine wl_val (v := .int .i64 0) (fun ρ e => ex_move (e _ _ rfl)) rfl rfl ?_
      refine wl_nil ?_
      refine xw_next K41 ?_
      refine cw_block ?_
      refine cw_loop (ι := Nat) (fun q => [(5, .int .i64 (n : Int)), (6, .slice (some ⟨g5, 0, none⟩) n n), (8, .int .i64 (d : Int)), (48, .int .i64 (q : Int))]) (fun q X => (q ≤ 3) ∧ Own Z0 W X [.blk g5 3 ((intCs (ordL n y n)).toArray)]) (fun q => 3 - q) 0 ⟨Nat.zero_le _, O35⟩ ⟨rfl, rfl, rfl, rfl, trivial⟩ (fun q w42 hJ F43 K44 => ?_)
      obtain ⟨kk, rfl⟩ : ∃ x, x = q := ⟨_, rfl⟩
      obtain ⟨hk0, O45⟩ := hJ
      try dsimp only at hk0 O45 ⊢
      rcases (show kk = 0 ∨ kk = 1 ∨ kk = 2 ∨ kk = 3 by omega) with rfl | rfl | rfl | rfl
      · skip
        refine cw_seq (fun FK46 K46 => ?_)
        refine cw_region ?_
        refine wl_val (v := .bool true) (fun ρ e => ex_cmp (u := ((0 : Nat) : Int)) (v := 3) (e _ _ rfl) (e _ _ rfl) (lss1 (by omega))) rfl rfl ?_
        refine wl_nil ?_
        refine xw_next K46 ?_
        refine cw_seq (fun FK47 K47 => ?_)
        refine cw_true rfl ?_
        refine cw_skip ?_
        refine xw_next K47 ?_
        refine cw_seq (fun FK48 K48 => ?_)
        refine cw_block ?_
        refine cw_seq (fun FK49 K49 => ?_)
        refine cw_region ?_
        refine wl_val (v := .int .i64 ((0 : Nat) : Int)) (fun ρ e => ex_move (e _ _ rfl)) rfl rfl ?_
        refine wl_val (v := .int .i64 ((0 : Nat) : Int)) (fun ρ e => ex_assign (e _ _ rfl)) rfl rfl ?_
        refine wl_nil ?_
        refine xw_next K49 ?_
        refine cw_seq (fun FK50 K50 => ?_)
        refine cw_region ?_
        refine wl_val (v := .slice (some ⟨g5, 0, none⟩) n n) (fun ρ e => ex_move (e _ _ rfl)) rfl rfl ?_
        refine wl_call (args := [.slice (some ⟨g5, 0, none⟩) n n]) in_26 rfl rfl rfl ?_
        obtain ⟨T3, mkk3, gd3, lv3, sz3, dp3, cr3, cl3⟩ := depth_make 3 y hn0 hn1
        have hc56 := balanced_ (IntsD.of_blk (n := n) (l := (ordL n y n)) (O45.blk 0 rfl) (ordL_len n y n).symm (by unfold maxLen; omega)) (fun k hk => hk ▸ (O45.blk 0 rfl).lt) (by rw [ordL_len]; omega)
        rw [mkk3] at hc56
        refine hc56.mono ?_
        rintro _ w53 ⟨A51, c52, rfl, h54⟩
        have O55 := O45.join1 h54 trivial
        rw [post_len] at O55
        obtain ⟨g57, hg57⟩ := rowaddr (O55.row 0 rfl) T3.size_pos
        subst hg57
        have hpl : (post T3 0).length = T3.size := post_len T3 0
        rw [hpl]
        refine ⟨_, rfl, ?_⟩
        refine wl_val (v := .tuple #[.slice (some ⟨g57, 0, none⟩) T3.size c52, .int .i64 0]) (fun ρ e => ex_move (e _ _ rfl)) rfl rfl ?_
        refine wl_val (v := .slice (some ⟨g57, 0, none⟩) T3.size c52) (fun ρ e => ex_extract (vs := #[.slice (some ⟨g57, 0, none⟩) T3.size c52, .int .i64 0]) (e _ _ rfl) rfl) rfl rfl ?_
        refine wl_val (v := .int .i64 0) (fun ρ e => ex_extract (vs := #[.slice (some ⟨g57, 0, none⟩) T3.size c52, .int .i64 0]) (e _ _ rfl) rfl) rfl rfl ?_
        refine wl_val (v := .slice (some ⟨g57, 0, none⟩) T3.size c52) (fun ρ e => ex_assign (e _ _ rfl)) rfl rfl ?_
        refine wl_val (v := .int .i64 0) (fun ρ e => ex_assign (e _ _ rfl)) rfl rfl ?_
        refine wl_nil ?_
        refine xw_next K50 ?_
        refine cw_seq (fun FK58 K58 => ?_)
        refine cw_seq (fun FK59 K59 => ?_)
        refine cw_region ?_
        refine wl_val (v := .int .i64 ((0 : Nat) : Int)) (fun ρ e => ex_move (e _ _ rfl)) rfl rfl ?_
        refine wl_val (v := .bool false) (fun ρ e => ex_cmp (u := ((0 : Nat) : Int)) (v := 1) (e _ _ rfl) (e _ _ rfl) (eql0 (by omega))) rfl rfl ?_
        refine wl_nil ?_
        refine xw_next K59 ?_
        refine cw_false rfl ?_
        refine cw_skip ?_
        refine xw_next K58 ?_
        refine cw_seq (fun FK60 K60 => ?_)
        refine cw_seq (fun FK61 K61 => ?_)
        refine cw_region ?_
        refine wl_val (v := .int .i64 ((0 : Nat) : Int)) (fun ρ e => ex_move (e _ _ rfl)) rfl rfl ?_
        refine wl_val (v := .bool false) (fun ρ e => ex_cmp (u := ((0 : Nat) : Int)) (v := 2) (e _ _ rfl) (e _ _ rfl) (eql0 (by omega))) rfl rfl ?_
        refine wl_nil ?_
        refine xw_next K61 ?_
        refine cw_false rfl ?_
        refine cw_skip ?_
        refine xw_next K60 ?_
        refine cw_seq (fun FK62 K62 => ?_)
        refine cw_seq (fun FK63 K63 => ?_)
        refine cw_region ?_
        refine wl_val (v := .int .i64 0) (fun ρ e => ex_move (e _ _ rfl)) rfl rfl ?_
        refine wl_val (v := .bool false) (fun ρ e => ex_cmp (u := 0) (v := 0) (e _ _ rfl) (e _ _ rfl) (neq0 rfl)) rfl rfl ?_
        refine wl_val (v := .bool false) (fun ρ e => ex_move (e _ _ rfl)) rfl rfl ?_
        refine wl_val (v := .slice (some ⟨g57, 0, none⟩) T3.size c52) (fun ρ e => ex_move (e _ _ rfl)) rfl rfl ?_
        refine wl_val (v := .int .i64 ((T3.size : Nat) : Int)) (fun ρ e => ex_len el23 (e _ _ rfl)) rfl rfl ?_
        refine wl_val (v := .int .i64 (n : Int)) (fun ρ e => ex_move (e _ _ rfl)) rfl rfl ?_
        refine wl_val (v := .int .i64 ((2 * n : Nat) : Int)) (fun ρ e => ex_arith (k := .i64) (u := 2) (v := (n : Int)) (e _ _ rfl) (e _ _ rfl) (congrArg some ((congrArg _ (show _ = ((2 * n : Nat) : Int) by omega)).trans (wrap_in (by omega) (by omega))))) rfl rfl ?_
        refine wl_val (v := .int .i64 (((2 * n) - 1 : Nat) : Int)) (fun ρ e => ex_arith (k := .i64) (u := ((2 * n : Nat) : Int)) (v := 1) (e _ _ rfl) (e _ _ rfl) (congrArg some ((congrArg _ (show _ = (((2 * n) - 1 : Nat) : Int) by omega)).trans (wrap_in (by omega) (by omega))))) rfl rfl ?_
        refine wl_val (v := .bool false) (fun ρ e => ex_cmp (u := ((T3.size : Nat) : Int)) (v := (((2 * n) - 1 : Nat) : Int)) (e _ _ rfl) (e _ _ rfl) (neq0 (by omega))) rfl rfl ?_
        refine wl_val (v := .bool false) (fun ρ e => ex_pick0 (e _ _ rfl) (e _ _ rfl)) rfl rfl ?_
        refine wl_val (v := .bool false) (fun ρ e => ex_move (e _ _ rfl)) rfl rfl ?_
        refine wl_val (v := .slice (some ⟨g57, 0, none⟩) T3.size c52) (fun ρ e => ex_move (e _ _ rfl)) rfl rfl ?_
        refine wl_call (args := [.slice (some ⟨g57, 0, none⟩) T3.size c52]) in_23 rfl rfl rfl ?_
        refine (checkb_ (NodesD.of_row (O55.row 0 rfl)) (fun k hk => (World.ownsRow.lt (O55.row 0 rfl) k hk).2) (chk_val (post_ok gd3))).mono ?_
        rintro _ w65 ⟨rfl, hb66⟩
        have O67 : Own Z0 W w65 [.row (.slice (some ⟨g57, 0, none⟩) T3.size c52) 38 3 T3.size (ncells (post T3 0)), .blk g5 3 ((intCs (ordL n y n)).toArray)] := O55.below hb66
        refine ⟨_, rfl, ?_⟩
        refine wl_val (v := .bool false) (fun ρ e => ex_cmp (u := 0) (v := 0) (e _ _ rfl) (e _ _ rfl) (neq0 rfl)) rfl rfl ?_
        refine wl_val (v := .bool false) (fun ρ e => ex_pick0 (e _ _ rfl) (e _ _ rfl)) rfl rfl ?_
        refine wl_nil ?_
        refine xw_next K63 ?_
        refine cw_false rfl ?_
        refine cw_skip ?_
        refine xw_next K62 ?_
        refine cw_seq (fun FK68 K68 => ?_)
        refine cw_region ?_
        refine wl_val (v := .slice (some ⟨g57, 0, none⟩) T3.size c52) (fun ρ e => ex_move (e _ _ rfl)) rfl rfl ?_
        refine wl_call (args := [.slice (some ⟨g57, 0, none⟩) T3.size c52]) in_30 rfl rfl rfl ?_
        have hv76 := NodesD.of_row (O67.row 0 rfl)
        have hc74 := leaves_ (ts := post T3 0) (hpl ▸ hv76) (fun k hk => (World.ownsRow.lt (O67.row 0 rfl) k hk).2) (by rw [hpl]; omega)
        rw [hpl, leaves_post T3 0 gd3.2, lv3, ordL_len] at hc74
        refine hc74.mono ?_
        rintro _ w71 ⟨A69, c70, rfl, h72⟩
        have O73 := O67.join1 h72 trivial
        obtain ⟨g75, hg75⟩ := rowaddr (O73.row 0 rfl) hn0
        subst hg75
        refine ⟨_, rfl, ?_⟩
        refine wl_val (v := .slice (some ⟨g57, 0, none⟩) T3.size c52) (fun ρ e => ex_move (e _ _ rfl)) rfl rfl ?_
        refine wl_call (args := [.slice (some ⟨g57, 0, none⟩) T3.size c52]) in_31 rfl rfl rfl ?_
        have hv83 := NodesD.of_row (O73.row 1 rfl)
        have hc81 := parents_ok (ts := post T3 0) (hpl ▸ hv83) (fun k hk => (World.ownsRow.lt (O73.row 1 rfl) k hk).2) (post_ok gd3)
        rw [hpl] at hc81
        refine hc81.mono ?_
        rintro _ w78 ⟨g82, c77, rfl, h79⟩
        have O80 := O73.join1 h79 trivial
        refine ⟨_, rfl, ?_⟩
        refine wl_val (v := .slice (some ⟨g75, 0, none⟩) n c70) (fun ρ e => ex_assign (e _ _ rfl)) rfl rfl ?_
        refine wl_val (v := .slice (some ⟨g82, 0, none⟩) T3.size c77) (fun ρ e => ex_assign (e _ _ rfl)) rfl rfl ?_
        refine wl_nil ?_
        refine xw_next K68 ?_
        refine cw_seq (fun FK84 K84 => ?_)
        refine cw_seq (fun FK85 K85 => ?_)
        refine cw_region ?_
        refine wl_val (v := .slice (some ⟨g75, 0, none⟩) n c70) (fun ρ e => ex_move (e _ _ rfl)) rfl rfl ?_
        refine wl_val (v := .int .i64 (n : Int)) (fun ρ e => ex_len el36 (e _ _ rfl)) rfl rfl ?_
        refine wl_val (v := .int .i64 (n : Int)) (fun ρ e => ex_move (e _ _ rfl)) rfl rfl ?_
        refine wl_val (v := .bool false) (fun ρ e => ex_cmp (u := (n : Int)) (v := (n : Int)) (e _ _ rfl) (e _ _ rfl) (neq0 rfl)) rfl rfl ?_
        refine wl_val (v := .bool false) (fun ρ e => ex_move (e _ _ rfl)) rfl rfl ?_
        refine wl_val (v := .slice (some ⟨g82, 0, none⟩) T3.size c77) (fun ρ e => ex_move (e _ _ rfl)) rfl rfl ?_
        refine wl_val (v := .int .i64 ((T3.size : Nat) : Int)) (fun ρ e => ex_len el36 (e _ _ rfl)) rfl rfl ?_
        refine wl_val (v := .slice (some ⟨g57, 0, none⟩) T3.size c52) (fun ρ e => ex_move (e _ _ rfl)) rfl rfl ?_
        refine wl_val (v := .int .i64 ((T3.size : Nat) : Int)) (fun ρ e => ex_len el23 (e _ _ rfl)) rfl rfl ?_
        refine wl_val (v := .bool false) (fun ρ e => ex_cmp (u := ((T3.size : Nat) : Int)) (v := ((T3.size : Nat) : Int)) (e _ _ rfl) (e _ _ rfl) (neq0 rfl)) rfl rfl ?_
        refine wl_val (v := .bool false) (fun ρ e => ex_pick0 (e _ _ rfl) (e _ _ rfl)) rfl rfl ?_
        refine wl_nil ?_
        refine xw_next K85 ?_
        refine cw_false rfl ?_
        refine cw_skip ?_
        refine xw_next K84 ?_
        refine cw_seq (fun FK86 K86 => ?_)
        refine cw_seq (fun FK87 K87 => ?_)
        refine cw_region ?_
        refine wl_val (v := .slice (some ⟨g75, 0, none⟩) n c70) (fun ρ e => ex_move (e _ _ rfl)) rfl rfl ?_
        refine wl_val (v := .int .i64 (n : Int)) (fun ρ e => ex_len el36 (e _ _ rfl)) rfl rfl ?_
        refine wl_val (v := .int .i64 0) (fun ρ e => ex_move (e _ _ rfl)) rfl rfl ?_
        refine wl_nil ?_
        refine xw_next K87 ?_
        refine cw_block ?_
        have O88 : Own Z0 W w78 [.row (.slice (some ⟨g75, 0, none⟩) n c70) 3 1 n (intCs (ordL n y n)), .row (.slice (some ⟨g82, 0, none⟩) T3.size c77) 3 1 T3.size (intCs (parsOf (post T3 0))), .row (.slice (some ⟨g57, 0, none⟩) T3.size c52) 38 3 T3.size (ncells (post T3 0)), .blk g5 3 ((intCs (ordL n y n)).toArray)] := (O80.re [1, 0, 2, 3] rfl : Own Z0 W w78 [.row (.slice (some ⟨g75, 0, none⟩) n c70) 3 1 n (intCs (ordL n y n)), .row (.slice (some ⟨g82, 0, none⟩) T3.size c77) 3 1 T3.size (intCs (parsOf (post T3 0))), .row (.slice (some ⟨g57, 0, none⟩) T3.size c52) 38 3 T3.size (ncells (post T3 0)), .blk g5 3 ((intCs (ordL n y n)).toArray)])
        refine cw_loop (ι := Nat) (fun q => [(5, .int .i64 (n : Int)), (6, .slice (some ⟨g5, 0, none⟩) n n), (8, .int .i64 (d : Int)), (9, .int .i64 ((0 : Nat) : Int)), (10, .slice (some ⟨g57, 0, none⟩) T3.size c52), (13, .slice (some ⟨g82, 0, none⟩) T3.size c77), (100, .slice (some ⟨g75, 0, none⟩) n c70), (101, .int .i64 (n : Int)), (48, .int .i64 ((0 : Nat) : Int)), (102, .int .i64 (q : Int))]) (fun q X => (q ≤ n) ∧ Own Z0 W X [.row (.slice (some ⟨g75, 0, none⟩) n c70) 3 1 n (intCs (ordL n y n)), .row (.slice (some ⟨g82, 0, none⟩) T3.size c77) 3 1 T3.size (intCs (parsOf (post T3 0))), .row (.slice (some ⟨g57, 0, none⟩) T3.size c52) 38 3 T3.size (ncells (post T3 0)), .blk g5 3 ((intCs (ordL n y n)).toArray)]) (fun q => n - q) 0 ⟨Nat.zero_le _, O88⟩ ⟨rfl, rfl, rfl, rfl, rfl, rfl, rfl, rfl, rfl, rfl, trivial⟩ (fun q w89 hJ F90 K91 => ?_)
        obtain ⟨i, rfl⟩ : ∃ x, x = q := ⟨_, rfl⟩
        obtain ⟨hi0, O92⟩ := hJ
        try dsimp only at hi0 O92 ⊢
        by_cases hi : i < n
        · skip
          obtain ⟨u, hu⟩ : ∃ u, (ordL n y n)[i]? = some u := ⟨_, List.getElem?_eq_getElem (show i < (ordL n y n).length by rw [ordL_len]; exact hi)⟩
          refine cw_seq (fun FK93 K93 => ?_)
          refine cw_region ?_
          refine wl_val (v := .bool true) (fun ρ e => ex_cmp (u := (i : Int)) (v := (n : Int)) (e _ _ rfl) (e _ _ rfl) (lss1 (by omega))) rfl rfl ?_
          refine wl_nil ?_
          refine xw_next K93 ?_
          refine cw_seq (fun FK94 K94 => ?_)
          refine cw_true rfl ?_
          refine cw_skip ?_
          refine xw_next K94 ?_
          refine cw_seq (fun FK95 K95 => ?_)
          refine cw_block ?_
          refine cw_seq (fun FK96 K96 => ?_)
          refine cw_region ?_
          refine wl_val (v := .int .i64 (i : Int)) (fun ρ e => ex_move (e _ _ rfl)) rfl rfl ?_
          refine wl_val (v := .pointer (some ⟨g75, i, none⟩)) (fun ρ e => ex_idx (q := i) (i := i) el36 (e _ _ rfl) (e _ _ rfl) (by omega) (by omega)) rfl rfl ?_
          refine wl_val (v := .int .i64 u) (fun ρ e => ex_load1 ty3 (e _ _ rfl) (rowcell (O92.row 0 rfl) (intCs_get hu))) rfl rfl ?_
          refine wl_val (v := .int .i64 (i : Int)) (fun ρ e => ex_assign (e _ _ rfl)) rfl rfl ?_
          refine wl_val (v := .int .i64 u) (fun ρ e => ex_assign (e _ _ rfl)) rfl rfl ?_
          refine wl_nil ?_
          refine xw_next K96 ?_
          refine cw_seq (fun FK97 K97 => ?_)
          refine cw_region ?_
          refine wl_val (v := .int .i64 u) (fun ρ e => ex_move (e _ _ rfl)) rfl rfl ?_
          refine wl_val (v := .slice (some ⟨g5, 0, none⟩) n n) (fun ρ e => ex_move (e _ _ rfl)) rfl rfl ?_
          refine wl_val (v := .int .i64 (i : Int)) (fun ρ e => ex_move (e _ _ rfl)) rfl rfl ?_
          refine wl_val (v := .pointer (some ⟨g5, i, none⟩)) (fun ρ e => ex_idx (q := i) (i := i) el36 (e _ _ rfl) (e _ _ rfl) (by omega) (by omega)) rfl rfl ?_
          refine wl_val (v := .int .i64 u) (fun ρ e => ex_load1 ty3 (e _ _ rfl) (((O92.blk 3 rfl).cell _).trans (getI hu))) rfl rfl ?_
          refine wl_val (v := .bool false) (fun ρ e => ex_cmp (u := u) (v := u) (e _ _ rfl) (e _ _ rfl) (neq0 rfl)) rfl rfl ?_
          refine wl_nil ?_
          refine xw_next K97 ?_
          refine cw_false rfl ?_
          refine cw_skip ?_
          refine xw_block ?_
          refine xw_next K95 ?_
          refine cw_region ?_
          refine wl_val (v := .int .i64 ((i + 1 : Nat) : Int)) (fun ρ e => ex_arith (k := .i64) (u := (i : Int)) (v := 1) (e _ _ rfl) (e _ _ rfl) (congrArg some ((congrArg _ (show _ = ((i + 1 : Nat) : Int) by omega)).trans (wrap_in (by omega) (by omega))))) rfl rfl ?_
          refine wl_val (v := .int .i64 ((i + 1 : Nat) : Int)) (fun ρ e => ex_move (e _ _ rfl)) rfl rfl ?_
          refine wl_nil ?_
          refine xw_round K91 (i + 1) (by show n - (i + 1) < n - i; omega) ⟨(by show i + 1 ≤ n; omega), O92⟩ ⟨rfl, rfl, rfl, rfl, rfl, rfl, rfl, rfl, rfl, rfl, trivial⟩
        · skip
          refine cw_seq (fun FK98 K98 => ?_)
          refine cw_region ?_
          refine wl_val (v := .bool false) (fun ρ e => ex_cmp (u := (i : Int)) (v := (n : Int)) (e _ _ rfl) (e _ _ rfl) (lss0 (by omega))) rfl rfl ?_
          refine wl_nil ?_
          refine xw_next K98 ?_
          refine cw_seq (fun FK99 K99 => ?_)
          refine cw_false rfl ?_
          refine cw_exit ?_
          refine xw_past (by intro h; cases h) ?_
          refine xw_past (by intro h; cases h) ?_
          refine xw_here ?_
          refine xw_next K86 ?_
          refine cw_seq (fun FK100 K100 => ?_)
          refine cw_region ?_
          refine wl_val (v := .slice (some ⟨g57, 0, none⟩) T3.size c52) (fun ρ e => ex_move (e _ _ rfl)) rfl rfl ?_
          refine wl_val (v := .int .i64 ((T3.size : Nat) : Int)) (fun ρ e => ex_len el23 (e _ _ rfl)) rfl rfl ?_
          refine wl_val (v := .int .i64 0) (fun ρ e => ex_move (e _ _ rfl)) rfl rfl ?_
          refine wl_nil ?_
          refine xw_next K100 ?_
          refine cw_block ?_
          have O101 : Own Z0 W w89 [.row (.slice (some ⟨g82, 0, none⟩) T3.size c77) 3 1 T3.size (intCs (parsOf (post T3 0))), .row (.slice (some ⟨g57, 0, none⟩) T3.size c52) 38 3 T3.size (ncells (post T3 0)), .blk g5 3 ((intCs (ordL n y n)).toArray)] := (O92.re [1, 2, 3] rfl : Own Z0 W w89 [.row (.slice (some ⟨g82, 0, none⟩) T3.size c77) 3 1 T3.size (intCs (parsOf (post T3 0))), .row (.slice (some ⟨g57, 0, none⟩) T3.size c52) 38 3 T3.size (ncells (post T3 0)), .blk g5 3 ((intCs (ordL n y n)).toArray)])
          refine cw_loop (ι := Nat) (fun q => [(5, .int .i64 (n : Int)), (6, .slice (some ⟨g5, 0, none⟩) n n), (8, .int .i64 (d : Int)), (9, .int .i64 ((0 : Nat) : Int)), (10, .slice (some ⟨g57, 0, none⟩) T3.size c52), (13, .slice (some ⟨g82, 0, none⟩) T3.size c77), (114, .slice (some ⟨g57, 0, none⟩) T3.size c52), (115, .int .i64 ((T3.size : Nat) : Int)), (48, .int .i64 ((0 : Nat) : Int)), (116, .int .i64 (q : Int))]) (fun q X => (q ≤ T3.size) ∧ Own Z0 W X [.row (.slice (some ⟨g82, 0, none⟩) T3.size c77) 3 1 T3.size (intCs (parsOf (post T3 0))), .row (.slice (some ⟨g57, 0, none⟩) T3.size c52) 38 3 T3.size (ncells (post T3 0)), .blk g5 3 ((intCs (ordL n y n)).toArray)]) (fun q => T3.size - q) 0 ⟨Nat.zero_le _, O101⟩ ⟨rfl, rfl, rfl, rfl, rfl, rfl, rfl, rfl, rfl, rfl, trivial⟩ (fun q w102 hJ F103 K104 => ?_)
          obtain ⟨i, rfl⟩ : ∃ x, x = q := ⟨_, rfl⟩
          obtain ⟨hi0, O105⟩ := hJ
          try dsimp only at hi0 O105 ⊢
          by_cases hi : i < T3.size
          · skip
            have hV := okT_val (post_ok gd3)
            have hil : i < (post T3 0).length := by rw [hpl]; exact hi
            rcases hV.kind i _ (List.getElem?_eq_getElem hil) with ⟨v, hx0, hv1, hv2⟩ | ⟨a, b, hx0, ha, hb, hab⟩
            · skip
              have hx : (post T3 0)[i]? = some ⟨-1, -1, v⟩ := by rw [List.getElem?_eq_getElem hil, hx0]
              obtain ⟨p0, hp0, hu0⟩ := up_start hV hil
              refine cw_seq (fun FK106 K106 => ?_)
              refine cw_region ?_
              refine wl_val (v := .bool true) (fun ρ e => ex_cmp (u := (i : Int)) (v := ((T3.size : Nat) : Int)) (e _ _ rfl) (e _ _ rfl) (lss1 (by omega))) rfl rfl ?_
              refine wl_nil ?_
              refine xw_next K106 ?_
              refine cw_seq (fun FK107 K107 => ?_)
              refine cw_true rfl ?_
              refine cw_skip ?_
              refine xw_next K107 ?_
              refine cw_seq (fun FK108 K108 => ?_)
              refine cw_block ?_
              refine cw_seq (fun FK109 K109 => ?_)
              refine cw_region ?_
              refine wl_val (v := .int .i64 (i : Int)) (fun ρ e => ex_move (e _ _ rfl)) rfl rfl ?_
              refine wl_val (v := .pointer (some ⟨g57, i * 3, none⟩)) (fun ρ e => ex_idx (q := i * 3) (i := i) el23 (e _ _ rfl) (e _ _ rfl) (by omega) (by omega)) rfl rfl ?_
              refine wl_val (v := .agg #[.int .i64 (-1), .int .i64 (-1), .int .i64 v]) (fun ρ e => ex_loadN (vs := [.int .i64 (-1), .int .i64 (-1), .int .i64 v]) ty38 (e _ _ rfl) rfl (cells3 (rowcell (O105.row 1 rfl) (ncells_get hx).1) (rowcell (O105.row 1 rfl) (ncells_get hx).2.1) (rowcell (O105.row 1 rfl) (ncells_get hx).2.2))) rfl rfl ?_
              obtain ⟨g110, w111, r112, O113, hg114, hs115⟩ := own_alloc O105 38 ze38 rfl
              refine wl_val (v := .pointer (some ⟨g110, 0, none⟩)) (fun ρ e => r112 ρ _ _ _ _ _) rfl rfl ?_
              refine wl_val (v := .int .i64 (i : Int)) (fun ρ e => ex_assign (e _ _ rfl)) rfl rfl ?_
              obtain ⟨w116, r117, O118, hs119⟩ := own_put (o := 0) (n := 3) O113 ty38 (.agg #[.int .i64 (-1), .int .i64 (-1), .int .i64 v]) [.int .i64 (-1), .int .i64 (-1), .int .i64 v] (cs' := #[.int .i64 (-1), .int .i64 (-1), .int .i64 v]) rfl rfl rfl (Nat.le_of_ble_eq_true rfl) rfl
              refine wl_none (fun ρ e => r117 ρ _ _ _ _ _ _ (e _ _ rfl) (e _ _ rfl)) rfl ?_
              refine wl_nil ?_
              refine xw_next K109 ?_
              refine cw_seq (fun FK120 K120 => ?_)
              refine cw_region ?_
              refine wl_val (v := .int .i64 0) (fun ρ e => ex_assign (e _ _ rfl)) rfl rfl ?_
              refine wl_nil ?_
              refine xw_next K120 ?_
              refine cw_seq (fun FK121 K121 => ?_)
              refine cw_seq (fun FK122 K122 => ?_)
              refine cw_region ?_
              refine wl_val (v := .slice (some ⟨g82, 0, none⟩) T3.size c77) (fun ρ e => ex_move (e _ _ rfl)) rfl rfl ?_
              refine wl_val (v := .int .i64 (i : Int)) (fun ρ e => ex_move (e _ _ rfl)) rfl rfl ?_
              refine wl_val (v := .pointer (some ⟨g82, i, none⟩)) (fun ρ e => ex_idx (q := i) (i := i) el36 (e _ _ rfl) (e _ _ rfl) (by omega) (by omega)) rfl rfl ?_
              refine wl_val (v := .int .i64 p0) (fun ρ e => ex_load1 ty3 (e _ _ rfl) (rowcell (O118.row 1 rfl) (intCs_get hp0))) rfl rfl ?_
              refine wl_val (v := .int .i64 p0) (fun ρ e => ex_assign (e _ _ rfl)) rfl rfl ?_
              refine wl_nil ?_
              refine xw_next K122 ?_
              refine cw_block ?_
              refine cw_loop (ι := Int × Nat) (fun q => [(5, .int .i64 (n : Int)), (6, .slice (some ⟨g5, 0, none⟩) n n), (8, .int .i64 (d : Int)), (9, .int .i64 ((0 : Nat) : Int)), (10, .slice (some ⟨g57, 0, none⟩) T3.size c52), (13, .slice (some ⟨g82, 0, none⟩) T3.size c77), (16, .int .i64 (i : Int)), (17, .pointer (some ⟨g110, 0, none⟩)), (114, .slice (some ⟨g57, 0, none⟩) T3.size c52), (115, .int .i64 ((T3.size : Nat) : Int)), (48, .int .i64 ((0 : Nat) : Int)), (116, .int .i64 (i : Int)), (18, .int .i64 (q.2 : Int)), (19, .int .i64 q.1)]) (fun q X => (UpTo (post T3 0) i q.1 q.2) ∧ Own Z0 W X [.blk g110 38 #[.int .i64 (-1), .int .i64 (-1), .int .i64 v], .row (.slice (some ⟨g82, 0, none⟩) T3.size c77) 3 1 T3.size (intCs (parsOf (post T3 0))), .row (.slice (some ⟨g57, 0, none⟩) T3.size c52) 38 3 T3.size (ncells (post T3 0)), .blk g5 3 ((intCs (ordL n y n)).toArray)]) (fun q => (chainOf (post T3 0) i).length - q.2) (p0, 0) ⟨hu0, O118⟩ ⟨rfl, rfl, rfl, rfl, rfl, rfl, rfl, rfl, rfl, rfl, rfl, rfl, rfl, rfl, trivial⟩ (fun q w123 hJ F124 K125 => ?_)
              obtain ⟨k, c⟩ := q
              obtain ⟨hup, O126⟩ := hJ
              dsimp only at hup O126 ⊢
              rcases hup with ⟨rfl, hup⟩ | ⟨m, rfl, hm, hup⟩
              · skip
                have hdeep := chain_deep hV T3 0 i (Lies.all _) (Nat.zero_le _) (by omega)
                have hroot := chain_root hV
                rw [Nat.zero_add, ← hpl, hroot] at hdeep
                simp only [List.length_cons, List.length_nil] at hdeep
                have hbd := dp3 rfl d hdn
                refine cw_seq (fun FK127 K127 => ?_)
                refine cw_seq (fun FK128 K128 => ?_)
                refine cw_region ?_
                refine wl_val (v := .int .i64 (-1)) (fun ρ e => ex_move (e _ _ rfl)) rfl rfl ?_
                refine wl_val (v := .bool false) (fun ρ e => ex_cmp (u := (-1)) (v := (-1)) (e _ _ rfl) (e _ _ rfl) (neq0 rfl)) rfl rfl ?_
                refine wl_nil ?_
                refine xw_next K128 ?_
                refine cw_false rfl ?_
                refine cw_exit ?_
                refine xw_past (by intro h; cases h) ?_
                refine xw_past (by intro h; cases h) ?_
                refine xw_here ?_
                refine xw_next K121 ?_
                refine cw_seq (fun FK129 K129 => ?_)
                refine cw_region ?_
                refine wl_val (v := .int .i64 ((0 : Nat) : Int)) (fun ρ e => ex_move (e _ _ rfl)) rfl rfl ?_
                refine wl_val (v := .bool true) (fun ρ e => ex_cmp (u := ((0 : Nat) : Int)) (v := 0) (e _ _ rfl) (e _ _ rfl) (eql1 (by omega))) rfl rfl ?_
                refine wl_val (v := .bool true) (fun ρ e => ex_move (e _ _ rfl)) rfl rfl ?_
                refine wl_val (v := .pointer (some ⟨g110, 2, none⟩)) (fun ρ e => ex_field (q := 2) fi38_2 (e _ _ rfl) rfl) rfl rfl ?_
                refine wl_val (v := .int .i64 v) (fun ρ e => ex_load1 ty3 (e _ _ rfl) (O126.cell 0 2 rfl rfl)) rfl rfl ?_
                refine wl_val (v := .bool true) (fun ρ e => ex_cmp (u := v) (v := 0) (e _ _ rfl) (e _ _ rfl) (neq1 (by omega))) rfl rfl ?_
                refine wl_val (v := .bool true) (fun ρ e => ex_pick1 (e _ _ rfl) (e _ _ rfl)) rfl rfl ?_
                refine wl_val (v := .bool true) (fun ρ e => ex_move (e _ _ rfl)) rfl rfl ?_
                refine wl_val (v := .int .i64 (c : Int)) (fun ρ e => ex_move (e _ _ rfl)) rfl rfl ?_
                refine wl_val (v := .int .i64 (d : Int)) (fun ρ e => ex_move (e _ _ rfl)) rfl rfl ?_
                refine wl_val (v := .bool false) (fun ρ e => ex_cmp (u := (c : Int)) (v := (d : Int)) (e _ _ rfl) (e _ _ rfl) (gtr0 (by omega))) rfl rfl ?_
                refine wl_val (v := .bool false) (fun ρ e => ex_pick1 (e _ _ rfl) (e _ _ rfl)) rfl rfl ?_
                refine wl_val (v := .bool false) (fun ρ e => ex_move (e _ _ rfl)) rfl rfl ?_
                refine wl_val (v := .int .i64 ((0 : Nat) : Int)) (fun ρ e => ex_move (e _ _ rfl)) rfl rfl ?_
                refine wl_val (v := .bool false) (fun ρ e => ex_cmp (u := ((0 : Nat) : Int)) (v := 1) (e _ _ rfl) (e _ _ rfl) (eql0 (by omega))) rfl rfl ?_
                refine wl_val (v := .bool false) (fun ρ e => ex_move (e _ _ rfl)) rfl rfl ?_
                refine wl_skip rfl rfl ?_
                refine wl_skip rfl rfl ?_
                refine wl_skip rfl rfl ?_
                refine wl_val (v := .bool false) (fun ρ e => ex_pick0 (e _ _ rfl) (e _ _ rfl)) rfl rfl ?_
                refine wl_val (v := .bool false) (fun ρ e => ex_move (e _ _ rfl)) rfl rfl ?_
                refine wl_skip rfl rfl ?_
                refine wl_skip rfl rfl ?_
                refine wl_skip rfl rfl ?_
                refine wl_skip rfl rfl ?_
                refine wl_skip rfl rfl ?_
                refine wl_skip rfl rfl ?_
                refine wl_skip rfl rfl ?_
                refine wl_val (v := .bool false) (fun ρ e => ex_pick0 (e _ _ rfl) (e _ _ rfl)) rfl rfl ?_
                refine wl_val (v := .bool false) (fun ρ e => ex_pick0 (e _ _ rfl) (e _ _ rfl)) rfl rfl ?_
                refine wl_val (v := .bool false) (fun ρ e => ex_move (e _ _ rfl)) rfl rfl ?_
                refine wl_val (v := .int .i64 ((0 : Nat) : Int)) (fun ρ e => ex_move (e _ _ rfl)) rfl rfl ?_
                refine wl_val (v := .bool false) (fun ρ e => ex_cmp (u := ((0 : Nat) : Int)) (v := 2) (e _ _ rfl) (e _ _ rfl) (eql0 (by omega))) rfl rfl ?_
                refine wl_val (v := .bool false) (fun ρ e => ex_move (e _ _ rfl)) rfl rfl ?_
                refine wl_skip rfl rfl ?_
                refine wl_skip rfl rfl ?_
                refine wl_skip rfl rfl ?_
                refine wl_val (v := .bool false) (fun ρ e => ex_pick0 (e _ _ rfl) (e _ _ rfl)) rfl rfl ?_
                refine wl_val (v := .bool false) (fun ρ e => ex_move (e _ _ rfl)) rfl rfl ?_
                refine wl_skip rfl rfl ?_
                refine wl_skip rfl rfl ?_
                refine wl_skip rfl rfl ?_
                refine wl_skip rfl rfl ?_
                refine wl_skip rfl rfl ?_
                refine wl_skip rfl rfl ?_
                refine wl_skip rfl rfl ?_
                refine wl_val (v := .bool false) (fun ρ e => ex_pick0 (e _ _ rfl) (e _ _ rfl)) rfl rfl ?_
                refine wl_val (v := .bool false) (fun ρ e => ex_pick0 (e _ _ rfl) (e _ _ rfl)) rfl rfl ?_
                refine wl_nil ?_
                refine xw_next K129 ?_
                refine cw_false rfl ?_
                refine cw_skip ?_
                refine xw_block ?_
                refine xw_next K108 ?_
                refine cw_region ?_
                refine wl_val (v := .int .i64 ((i + 1 : Nat) : Int)) (fun ρ e => ex_arith (k := .i64) (u := (i : Int)) (v := 1) (e _ _ rfl) (e _ _ rfl) (congrArg some ((congrArg _ (show _ = ((i + 1 : Nat) : Int) by omega)).trans (wrap_in (by omega) (by omega))))) rfl rfl ?_
                refine wl_val (v := .int .i64 ((i + 1 : Nat) : Int)) (fun ρ e => ex_move (e _ _ rfl)) rfl rfl ?_
                refine wl_nil ?_
                refine xw_round K104 (i + 1) (by show T3.size - (i + 1) < T3.size - i; omega) ⟨(by show i + 1 ≤ T3.size; omega), (O126.re [1, 2, 3] rfl : Own Z0 W w123 [.row (.slice (some ⟨g82, 0, none⟩) T3.size c77) 3 1 T3.size (intCs (parsOf (post T3 0))), .row (.slice (some ⟨g57, 0, none⟩) T3.size c52) 38 3 T3.size (ncells (post T3 0)), .blk g5 3 ((intCs (ordL n y n)).toArray)])⟩ ⟨rfl, rfl, rfl, rfl, rfl, rfl, rfl, rfl, rfl, rfl, trivial⟩
              · skip
                obtain ⟨p1, hp1, hu1, hlt⟩ := up_step hV hm hup
                have hm2 : m < T3.size := by rw [← hpl]; exact hm
                have hcl := chain_bound (post T3 0) i
                refine cw_seq (fun FK130 K130 => ?_)
                refine cw_seq (fun FK131 K131 => ?_)
                refine cw_region ?_
                refine wl_val (v := .int .i64 (m : Int)) (fun ρ e => ex_move (e _ _ rfl)) rfl rfl ?_
                refine wl_val (v := .bool true) (fun ρ e => ex_cmp (u := (m : Int)) (v := (-1)) (e _ _ rfl) (e _ _ rfl) (neq1 (by omega))) rfl rfl ?_
                refine wl_nil ?_
                refine xw_next K131 ?_
                refine cw_true rfl ?_
                refine cw_skip ?_
                refine xw_next K130 ?_
                refine cw_seq (fun FK132 K132 => ?_)
                refine cw_block ?_
                refine cw_region ?_
                refine wl_val (v := .int .i64 (c : Int)) (fun ρ e => ex_move (e _ _ rfl)) rfl rfl ?_
                refine wl_val (v := .int .i64 ((c + 1 : Nat) : Int)) (fun ρ e => ex_arith (k := .i64) (u := (c : Int)) (v := 1) (e _ _ rfl) (e _ _ rfl) (congrArg some ((congrArg _ (show _ = ((c + 1 : Nat) : Int) by omega)).trans (wrap_in (by omega) (by omega))))) rfl rfl ?_
                refine wl_val (v := .int .i64 ((c + 1 : Nat) : Int)) (fun ρ e => ex_assign (e _ _ rfl)) rfl rfl ?_
                refine wl_nil ?_
                refine xw_block ?_
                refine xw_next K132 ?_
                refine cw_region ?_
                refine wl_val (v := .slice (some ⟨g82, 0, none⟩) T3.size c77) (fun ρ e => ex_move (e _ _ rfl)) rfl rfl ?_
                refine wl_val (v := .int .i64 (m : Int)) (fun ρ e => ex_move (e _ _ rfl)) rfl rfl ?_
                refine wl_val (v := .pointer (some ⟨g82, m, none⟩)) (fun ρ e => ex_idx (q := m) (i := m) el36 (e _ _ rfl) (e _ _ rfl) (by omega) (by omega)) rfl rfl ?_
                refine wl_val (v := .int .i64 p1) (fun ρ e => ex_load1 ty3 (e _ _ rfl) (rowcell (O126.row 1 rfl) (intCs_get hp1))) rfl rfl ?_
                refine wl_val (v := .int .i64 p1) (fun ρ e => ex_assign (e _ _ rfl)) rfl rfl ?_
                refine wl_nil ?_
                refine xw_round K125 (p1, (c + 1)) (by show (chainOf (post T3 0) i).length - (c + 1) < (chainOf (post T3 0) i).length - c; omega) ⟨hu1, O126⟩ ⟨rfl, rfl, rfl, rfl, rfl, rfl, rfl, rfl, rfl, rfl, rfl, rfl, rfl, rfl, trivial⟩
            · skip
              have hx : (post T3 0)[i]? = some ⟨(a : Int), (b : Int), 0⟩ := by rw [List.getElem?_eq_getElem hil, hx0]
              obtain ⟨p0, hp0, hu0⟩ := up_start hV hil
              refine cw_seq (fun FK133 K133 => ?_)
              refine cw_region ?_
              refine wl_val (v := .bool true) (fun ρ e => ex_cmp (u := (i : Int)) (v := ((T3.size : Nat) : Int)) (e _ _ rfl) (e _ _ rfl) (lss1 (by omega))) rfl rfl ?_
              refine wl_nil ?_
              refine xw_next K133 ?_
              refine cw_seq (fun FK134 K134 => ?_)
              refine cw_true rfl ?_
              refine cw_skip ?_
              refine xw_next K134 ?_
              refine cw_seq (fun FK135 K135 => ?_)
              refine cw_block ?_
              refine cw_seq (fun FK136 K136 => ?_)
              refine cw_region ?_
              refine wl_val (v := .int .i64 (i : Int)) (fun ρ e => ex_move (e _ _ rfl)) rfl rfl ?_
              refine wl_val (v := .pointer (some ⟨g57, i * 3, none⟩)) (fun ρ e => ex_idx (q := i * 3) (i := i) el23 (e _ _ rfl) (e _ _ rfl) (by omega) (by omega)) rfl rfl ?_
              refine wl_val (v := .agg #[.int .i64 (a : Int), .int .i64 (b : Int), .int .i64 0]) (fun ρ e => ex_loadN (vs := [.int .i64 (a : Int), .int .i64 (b : Int), .int .i64 0]) ty38 (e _ _ rfl) rfl (cells3 (rowcell (O105.row 1 rfl) (ncells_get hx).1) (rowcell (O105.row 1 rfl) (ncells_get hx).2.1) (rowcell (O105.row 1 rfl) (ncells_get hx).2.2))) rfl rfl ?_
              obtain ⟨g137, w138, r139, O140, hg141, hs142⟩ := own_alloc O105 38 ze38 rfl
              refine wl_val (v := .pointer (some ⟨g137, 0, none⟩)) (fun ρ e => r139 ρ _ _ _ _ _) rfl rfl ?_
              refine wl_val (v := .int .i64 (i : Int)) (fun ρ e => ex_assign (e _ _ rfl)) rfl rfl ?_
              obtain ⟨w143, r144, O145, hs146⟩ := own_put (o := 0) (n := 3) O140 ty38 (.agg #[.int .i64 (a : Int), .int .i64 (b : Int), .int .i64 0]) [.int .i64 (a : Int), .int .i64 (b : Int), .int .i64 0] (cs' := #[.int .i64 (a : Int), .int .i64 (b : Int), .int .i64 0]) rfl rfl rfl (Nat.le_of_ble_eq_true rfl) rfl
              refine wl_none (fun ρ e => r144 ρ _ _ _ _ _ _ (e _ _ rfl) (e _ _ rfl)) rfl ?_
              refine wl_nil ?_
              refine xw_next K136 ?_
              refine cw_seq (fun FK147 K147 => ?_)
              refine cw_region ?_
              refine wl_val (v := .int .i64 0) (fun ρ e => ex_assign (e _ _ rfl)) rfl rfl ?_
              refine wl_nil ?_
              refine xw_next K147 ?_
              refine cw_seq (fun FK148 K148 => ?_)
              refine cw_seq (fun FK149 K149 => ?_)
              refine cw_region ?_
              refine wl_val (v := .slice (some ⟨g82, 0, none⟩) T3.size c77) (fun ρ e => ex_move (e _ _ rfl)) rfl rfl ?_
              refine wl_val (v := .int .i64 (i : Int)) (fun ρ e => ex_move (e _ _ rfl)) rfl rfl ?_
              refine wl_val (v := .pointer (some ⟨g82, i, none⟩)) (fun ρ e => ex_idx (q := i) (i := i) el36 (e _ _ rfl) (e _ _ rfl) (by omega) (by omega)) rfl rfl ?_
              refine wl_val (v := .int .i64 p0) (fun ρ e => ex_load1 ty3 (e _ _ rfl) (rowcell (O145.row 1 rfl) (intCs_get hp0))) rfl rfl ?_
              refine wl_val (v := .int .i64 p0) (fun ρ e => ex_assign (e _ _ rfl)) rfl rfl ?_
              refine wl_nil ?_
              refine xw_next K149 ?_
              refine cw_block ?_
              refine cw_loop (ι := Int × Nat) (fun q => [(5, .int .i64 (n : Int)), (6, .slice (some ⟨g5, 0, none⟩) n n), (8, .int .i64 (d : Int)), (9, .int .i64 ((0 : Nat) : Int)), (10, .slice (some ⟨g57, 0, none⟩) T3.size c52), (13, .slice (some ⟨g82, 0, none⟩) T3.size c77), (16, .int .i64 (i : Int)), (17, .pointer (some ⟨g137, 0, none⟩)), (114, .slice (some ⟨g57, 0, none⟩) T3.size c52), (115, .int .i64 ((T3.size : Nat) : Int)), (48, .int .i64 ((0 : Nat) : Int)), (116, .int .i64 (i : Int)), (18, .int .i64 (q.2 : Int)), (19, .int .i64 q.1)]) (fun q X => (UpTo (post T3 0) i q.1 q.2) ∧ Own Z0 W X [.blk g137 38 #[.int .i64 (a : Int), .int .i64 (b : Int), .int .i64 0], .row (.slice (some ⟨g82, 0, none⟩) T3.size c77) 3 1 T3.size (intCs (parsOf (post T3 0))), .row (.slice (some ⟨g57, 0, none⟩) T3.size c52) 38 3 T3.size (ncells (post T3 0)), .blk g5 3 ((intCs (ordL n y n)).toArray)]) (fun q => (chainOf (post T3 0) i).length - q.2) (p0, 0) ⟨hu0, O145⟩ ⟨rfl, rfl, rfl, rfl, rfl, rfl, rfl, rfl, rfl, rfl, rfl, rfl, rfl, rfl, trivial⟩ (fun q w150 hJ F151 K152 => ?_)
              obtain ⟨k, c⟩ := q
              obtain ⟨hup, O153⟩ := hJ
              dsimp only at hup O153 ⊢
              rcases hup with ⟨rfl, hup⟩ | ⟨m, rfl, hm, hup⟩
              · skip
                refine cw_seq (fun FK154 K154 => ?_)
                refine cw_seq (fun FK155 K155 => ?_)
                refine cw_region ?_
                refine wl_val (v := .int .i64 (-1)) (fun ρ e => ex_move (e _ _ rfl)) rfl rfl ?_
                refine wl_val (v := .bool false) (fun ρ e => ex_cmp (u := (-1)) (v := (-1)) (e _ _ rfl) (e _ _ rfl) (neq0 rfl)) rfl rfl ?_
                refine wl_nil ?_
                refine xw_next K155 ?_
                refine cw_false rfl ?_
                refine cw_exit ?_
                refine xw_past (by intro h; cases h) ?_
                refine xw_past (by intro h; cases h) ?_
                refine xw_here ?_
                refine xw_next K148 ?_
                refine cw_seq (fun FK156 K156 => ?_)
                refine cw_region ?_
                refine wl_val (v := .int .i64 ((0 : Nat) : Int)) (fun ρ e => ex_move (e _ _ rfl)) rfl rfl ?_
                refine wl_val (v := .bool true) (fun ρ e => ex_cmp (u := ((0 : Nat) : Int)) (v := 0) (e _ _ rfl) (e _ _ rfl) (eql1 (by omega))) rfl rfl ?_
                refine wl_val (v := .bool true) (fun ρ e => ex_move (e _ _ rfl)) rfl rfl ?_
                refine wl_val (v := .pointer (some ⟨g137, 2, none⟩)) (fun ρ e => ex_field (q := 2) fi38_2 (e _ _ rfl) rfl) rfl rfl ?_
                refine wl_val (v := .int .i64 0) (fun ρ e => ex_load1 ty3 (e _ _ rfl) (O153.cell 0 2 rfl rfl)) rfl rfl ?_
                refine wl_val (v := .bool false) (fun ρ e => ex_cmp (u := 0) (v := 0) (e _ _ rfl) (e _ _ rfl) (neq0 rfl)) rfl rfl ?_
                refine wl_val (v := .bool false) (fun ρ e => ex_pick1 (e _ _ rfl) (e _ _ rfl)) rfl rfl ?_
                refine wl_val (v := .bool false) (fun ρ e => ex_move (e _ _ rfl)) rfl rfl ?_
                refine wl_skip rfl rfl ?_
                refine wl_skip rfl rfl ?_
                refine wl_skip rfl rfl ?_
                refine wl_val (v := .bool false) (fun ρ e => ex_pick0 (e _ _ rfl) (e _ _ rfl)) rfl rfl ?_
                refine wl_val (v := .bool false) (fun ρ e => ex_move (e _ _ rfl)) rfl rfl ?_
                refine wl_val (v := .int .i64 ((0 : Nat) : Int)) (fun ρ e => ex_move (e _ _ rfl)) rfl rfl ?_
                refine wl_val (v := .bool false) (fun ρ e => ex_cmp (u := ((0 : Nat) : Int)) (v := 1) (e _ _ rfl) (e _ _ rfl) (eql0 (by omega))) rfl rfl ?_
                refine wl_val (v := .bool false) (fun ρ e => ex_move (e _ _ rfl)) rfl rfl ?_
                refine wl_skip rfl rfl ?_
                refine wl_skip rfl rfl ?_
                refine wl_skip rfl rfl ?_
                refine wl_val (v := .bool false) (fun ρ e => ex_pick0 (e _ _ rfl) (e _ _ rfl)) rfl rfl ?_
                refine wl_val (v := .bool false) (fun ρ e => ex_move (e _ _ rfl)) rfl rfl ?_
                refine wl_skip rfl rfl ?_
                refine wl_skip rfl rfl ?_
                refine wl_skip rfl rfl ?_
                refine wl_skip rfl rfl ?_
                refine wl_skip rfl rfl ?_
                refine wl_skip rfl rfl ?_
                refine wl_skip rfl rfl ?_
                refine wl_val (v := .bool false) (fun ρ e => ex_pick0 (e _ _ rfl) (e _ _ rfl)) rfl rfl ?_
                refine wl_val (v := .bool false) (fun ρ e => ex_pick0 (e _ _ rfl) (e _ _ rfl)) rfl rfl ?_
                refine wl_val (v := .bool false) (fun ρ e => ex_move (e _ _ rfl)) rfl rfl ?_
                refine wl_val (v := .int .i64 ((0 : Nat) : Int)) (fun ρ e => ex_move (e _ _ rfl)) rfl rfl ?_
                refine wl_val (v := .bool false) (fun ρ e => ex_cmp (u := ((0 : Nat) : Int)) (v := 2) (e _ _ rfl) (e _ _ rfl) (eql0 (by omega))) rfl rfl ?_
                refine wl_val (v := .bool false) (fun ρ e => ex_move (e _ _ rfl)) rfl rfl ?_
                refine wl_skip rfl rfl ?_
                refine wl_skip rfl rfl ?_
                refine wl_skip rfl rfl ?_
                refine wl_val (v := .bool false) (fun ρ e => ex_pick0 (e _ _ rfl) (e _ _ rfl)) rfl rfl ?_
                refine wl_val (v := .bool false) (fun ρ e => ex_move (e _ _ rfl)) rfl rfl ?_
                refine wl_skip rfl rfl ?_
                refine wl_skip rfl rfl ?_
                refine wl_skip rfl rfl ?_
                refine wl_skip rfl rfl ?_
                refine wl_skip rfl rfl ?_
                refine wl_skip rfl rfl ?_
                refine wl_skip rfl rfl ?_
                refine wl_val (v := .bool false) (fun ρ e => ex_pick0 (e _ _ rfl) (e _ _ rfl)) rfl rfl ?_
                refine wl_val (v := .bool false) (fun ρ e => ex_pick0 (e _ _ rfl) (e _ _ rfl)) rfl rfl ?_
                refine wl_nil ?_
                refine xw_next K156 ?_
                refine cw_false rfl ?_
                refine cw_skip ?_
                refine xw_block ?_
                refine xw_next K135 ?_
                refine cw_region ?_
                refine wl_val (v := .int .i64 ((i + 1 : Nat) : Int)) (fun ρ e => ex_arith (k := .i64) (u := (i : Int)) (v := 1) (e _ _ rfl) (e _ _ rfl) (congrArg some ((congrArg _ (show _ = ((i + 1 : Nat) : Int) by omega)).trans (wrap_in (by omega) (by omega))))) rfl rfl ?_
                refine wl_val (v := .int .i64 ((i + 1 : Nat) : Int)) (fun ρ e => ex_move (e _ _ rfl)) rfl rfl ?_
                refine wl_nil ?_
                refine xw_round K104 (i + 1) (by show T3.size - (i + 1) < T3.size - i; omega) ⟨(by show i + 1 ≤ T3.size; omega), (O153.re [1, 2, 3] rfl : Own Z0 W w150 [.row (.slice (some ⟨g82, 0, none⟩) T3.size c77) 3 1 T3.size (intCs (parsOf (post T3 0))), .row (.slice (some ⟨g57, 0, none⟩) T3.size c52) 38 3 T3.size (ncells (post T3 0)), .blk g5 3 ((intCs (ordL n y n)).toArray)])⟩ ⟨rfl, rfl, rfl, rfl, rfl, rfl, rfl, rfl, rfl, rfl, trivial⟩
              · skip
                obtain ⟨p1, hp1, hu1, hlt⟩ := up_step hV hm hup
                have hm2 : m < T3.size := by rw [← hpl]; exact hm
                have hcl := chain_bound (post T3 0) i
                refine cw_seq (fun FK157 K157 => ?_)
                refine cw_seq (fun FK158 K158 => ?_)
                refine cw_region ?_
                refine wl_val (v := .int .i64 (m : Int)) (fun ρ e => ex_move (e _ _ rfl)) rfl rfl ?_
                refine wl_val (v := .bool true) (fun ρ e => ex_cmp (u := (m : Int)) (v := (-1)) (e _ _ rfl) (e _ _ rfl) (neq1 (by omega))) rfl rfl ?_
                refine wl_nil ?_
                refine xw_next K158 ?_
                refine cw_true rfl ?_
                refine cw_skip ?_
                refine xw_next K157 ?_
                refine cw_seq (fun FK159 K159 => ?_)
                refine cw_block ?_
                refine cw_region ?_
                refine wl_val (v := .int .i64 (c : Int)) (fun ρ e => ex_move (e _ _ rfl)) rfl rfl ?_
                refine wl_val (v := .int .i64 ((c + 1 : Nat) : Int)) (fun ρ e => ex_arith (k := .i64) (u := (c : Int)) (v := 1) (e _ _ rfl) (e _ _ rfl) (congrArg some ((congrArg _ (show _ = ((c + 1 : Nat) : Int) by omega)).trans (wrap_in (by omega) (by omega))))) rfl rfl ?_
                refine wl_val (v := .int .i64 ((c + 1 : Nat) : Int)) (fun ρ e => ex_assign (e _ _ rfl)) rfl rfl ?_
                refine wl_nil ?_
                refine xw_block ?_
                refine xw_next K159 ?_
                refine cw_region ?_
                refine wl_val (v := .slice (some ⟨g82, 0, none⟩) T3.size c77) (fun ρ e => ex_move (e _ _ rfl)) rfl rfl ?_
                refine wl_val (v := .int .i64 (m : Int)) (fun ρ e => ex_move (e _ _ rfl)) rfl rfl ?_
                refine wl_val (v := .pointer (some ⟨g82, m, none⟩)) (fun ρ e => ex_idx (q := m) (i := m) el36 (e _ _ rfl) (e _ _ rfl) (by omega) (by omega)) rfl rfl ?_
                refine wl_val (v := .int .i64 p1) (fun ρ e => ex_load1 ty3 (e _ _ rfl) (rowcell (O153.row 1 rfl) (intCs_get hp1))) rfl rfl ?_
                refine wl_val (v := .int .i64 p1) (fun ρ e => ex_assign (e _ _ rfl)) rfl rfl ?_
                refine wl_nil ?_
                refine xw_round K152 (p1, (c + 1)) (by show (chainOf (post T3 0) i).length - (c + 1) < (chainOf (post T3 0) i).length - c; omega) ⟨hu1, O153⟩ ⟨rfl, rfl, rfl, rfl, rfl, rfl, rfl, rfl, rfl, rfl, rfl, rfl, rfl, rfl, trivial⟩
          · skip
            refine cw_seq (fun FK160 K160 => ?_)
            refine cw_region ?_
            refine wl_val (v := .bool false) (fun ρ e => ex_cmp (u := (i : Int)) (v := ((T3.size : Nat) : Int)) (e _ _ rfl) (e _ _ rfl) (lss0 (by omega))) rfl rfl ?_
            refine wl_nil ?_
            refine xw_next K160 ?_
            refine cw_seq (fun FK161 K161 => ?_)
            refine cw_false rfl ?_
            refine cw_exit ?_
            refine xw_past (by intro h; cases h) ?_
            refine xw_past (by intro h; cases h) ?_
            refine xw_here ?_
            refine xw_block ?_
            refine xw_next K48 ?_
            refine cw_region ?_
            refine wl_val (v := .int .i64 ((0 + 1 : Nat) : Int)) (fun ρ e => ex_arith (k := .i64) (u := ((0 : Nat) : Int)) (v := 1) (e _ _ rfl) (e _ _ rfl) (congrArg some ((congrArg _ (show _ = ((0 + 1 : Nat) : Int) by omega)).trans (wrap_in (by omega) (by omega))))) rfl rfl ?_
            refine wl_val (v := .int .i64 ((0 + 1 : Nat) : Int)) (fun ρ e => ex_move (e _ _ rfl)) rfl rfl ?_
            refine wl_nil ?_
            refine xw_round K44 (0 + 1) (by show 3 - (0 + 1) < 3 - 0; omega) ⟨(by show 0 + 1 ≤ 3; omega), (O105.re [2] rfl : Own Z0 W w102 [.blk g5 3 ((intCs (ordL n y n)).toArray)])⟩ ⟨rfl, rfl, rfl, rfl, trivial⟩
      · skip
        refine cw_seq (fun FK162 K162 => ?_)
        refine cw_region ?_
        refine wl_val (v := .bool true) (fun ρ e => ex_cmp (u := ((1 : Nat) : Int)) (v := 3) (e _ _ rfl) (e _ _ rfl) (lss1 (by omega))) rfl rfl ?_
        refine wl_nil ?_
        refine xw_next K162 ?_
        refine cw_seq (fun FK163 K163 => ?_)
        refine cw_true rfl ?_
        refine cw_skip ?_
        refine xw_next K163 ?_
        refine cw_seq (fun FK164 K164 => ?_)
        refine cw_block ?_
        refine cw_seq (fun FK165 K165 => ?_)
        refine cw_region ?_
        refine wl_val (v := .int .i64 ((1 : Nat) : Int)) (fun ρ e => ex_move (e _ _ rfl)) rfl rfl ?_
        refine wl_val (v := .int .i64 ((1 : Nat) : Int)) (fun ρ e => ex_assign (e _ _ rfl)) rfl rfl ?_
        refine wl_nil ?_
        refine xw_next K165 ?_
        refine cw_seq (fun FK166 K166 => ?_)
        refine cw_region ?_
        refine wl_val (v := .slice (some ⟨g5, 0, none⟩) n n) (fun ρ e => ex_move (e _ _ rfl)) rfl rfl ?_
        refine wl_call (args := [.slice (some ⟨g5, 0, none⟩) n n]) in_26 rfl rfl rfl ?_
        obtain ⟨T3, mkk3, gd3, lv3, sz3, dp3, cr3, cl3⟩ := depth_make 3 y hn0 hn1
        have hc172 := balanced_ (IntsD.of_blk (n := n) (l := (ordL n y n)) (O45.blk 0 rfl) (ordL_len n y n).symm (by unfold maxLen; omega)) (fun k hk => hk ▸ (O45.blk 0 rfl).lt) (by rw [ordL_len]; omega)
        rw [mkk3] at hc172
        refine hc172.mono ?_
        rintro _ w169 ⟨A167, c168, rfl, h170⟩
        have O171 := O45.join1 h170 trivial
        rw [post_len] at O171
        obtain ⟨g173, hg173⟩ := rowaddr (O171.row 0 rfl) T3.size_pos
        subst hg173
        have hpl : (post T3 0).length = T3.size := post_len T3 0
        rw [hpl]
        refine ⟨_, rfl, ?_⟩
        refine wl_val (v := .tuple #[.slice (some ⟨g173, 0, none⟩) T3.size c168, .int .i64 0]) (fun ρ e => ex_move (e _ _ rfl)) rfl rfl ?_
        refine wl_val (v := .slice (some ⟨g173, 0, none⟩) T3.size c168) (fun ρ e => ex_extract (vs := #[.slice (some ⟨g173, 0, none⟩) T3.size c168, .int .i64 0]) (e _ _ rfl) rfl) rfl rfl ?_
        refine wl_val (v := .int .i64 0) (fun ρ e => ex_extract (vs := #[.slice (some ⟨g173, 0, none⟩) T3.size c168, .int .i64 0]) (e _ _ rfl) rfl) rfl rfl ?_
        refine wl_val (v := .slice (some ⟨g173, 0, none⟩) T3.size c168) (fun ρ e => ex_assign (e _ _ rfl)) rfl rfl ?_
        refine wl_val (v := .int .i64 0) (fun ρ e => ex_assign (e _ _ rfl)) rfl rfl ?_
        refine wl_nil ?_
        refine xw_next K166 ?_
        refine cw_seq (fun FK174 K174 => ?_)
        refine cw_seq (fun FK175 K175 => ?_)
        refine cw_region ?_
        refine wl_val (v := .int .i64 ((1 : Nat) : Int)) (fun ρ e => ex_move (e _ _ rfl)) rfl rfl ?_
        refine wl_val (v := .bool true) (fun ρ e => ex_cmp (u := ((1 : Nat) : Int)) (v := 1) (e _ _ rfl) (e _ _ rfl) (eql1 (by omega))) rfl rfl ?_
        refine wl_nil ?_
        refine xw_next K175 ?_
        refine cw_true rfl ?_
        refine cw_region ?_
        refine wl_val (v := .slice (some ⟨g5, 0, none⟩) n n) (fun ρ e => ex_move (e _ _ rfl)) rfl rfl ?_
        refine wl_call (args := [.slice (some ⟨g5, 0, none⟩) n n]) in_24 rfl rfl rfl ?_
        obtain ⟨T1, mkk1, gd1, lv1, sz1, dp1, cr1, cl1⟩ := depth_make 1 y hn0 hn1
        have hc181 := right_ (IntsD.of_blk (n := n) (l := (ordL n y n)) (O171.blk 1 rfl) (ordL_len n y n).symm (by unfold maxLen; omega)) (fun k hk => hk ▸ (O171.blk 1 rfl).lt) (by rw [ordL_len]; omega)
        rw [mkk1] at hc181
        refine hc181.mono ?_
        rintro _ w178 ⟨A176, c177, rfl, h179⟩
        have O180 := O171.join1 h179 trivial
        rw [post_len] at O180
        obtain ⟨g182, hg182⟩ := rowaddr (O180.row 0 rfl) T1.size_pos
        subst hg182
        have hpl : (post T1 0).length = T1.size := post_len T1 0
        rw [hpl]
        refine ⟨_, rfl, ?_⟩
        refine wl_val (v := .tuple #[.slice (some ⟨g182, 0, none⟩) T1.size c177, .int .i64 0]) (fun ρ e => ex_move (e _ _ rfl)) rfl rfl ?_
        refine wl_val (v := .slice (some ⟨g182, 0, none⟩) T1.size c177) (fun ρ e => ex_extract (vs := #[.slice (some ⟨g182, 0, none⟩) T1.size c177, .int .i64 0]) (e _ _ rfl) rfl) rfl rfl ?_
        refine wl_val (v := .int .i64 0) (fun ρ e => ex_extract (vs := #[.slice (some ⟨g182, 0, none⟩) T1.size c177, .int .i64 0]) (e _ _ rfl) rfl) rfl rfl ?_
        refine wl_val (v := .slice (some ⟨g182, 0, none⟩) T1.size c177) (fun ρ e => ex_assign (e _ _ rfl)) rfl rfl ?_
        refine wl_val (v := .int .i64 0) (fun ρ e => ex_assign (e _ _ rfl)) rfl rfl ?_
        refine wl_nil ?_
        refine xw_next K174 ?_
        refine cw_seq (fun FK183 K183 => ?_)
        refine cw_seq (fun FK184 K184 => ?_)
        refine cw_region ?_
        refine wl_val (v := .int .i64 ((1 : Nat) : Int)) (fun ρ e => ex_move (e _ _ rfl)) rfl rfl ?_
        refine wl_val (v := .bool false) (fun ρ e => ex_cmp (u := ((1 : Nat) : Int)) (v := 2) (e _ _ rfl) (e _ _ rfl) (eql0 (by omega))) rfl rfl ?_
        refine wl_nil ?_
        refine xw_next K184 ?_
        refine cw_false rfl ?_
        refine cw_skip ?_
        refine xw_next K183 ?_
        refine cw_seq (fun FK185 K185 => ?_)
        refine cw_seq (fun FK186 K186 => ?_)
        refine cw_region ?_
        refine wl_val (v := .int .i64 0) (fun ρ e => ex_move (e _ _ rfl)) rfl rfl ?_
        refine wl_val (v := .bool false) (fun ρ e => ex_cmp (u := 0) (v := 0) (e _ _ rfl) (e _ _ rfl) (neq0 rfl)) rfl rfl ?_
        refine wl_val (v := .bool false) (fun ρ e => ex_move (e _ _ rfl)) rfl rfl ?_
        refine wl_val (v := .slice (some ⟨g182, 0, none⟩) T1.size c177) (fun ρ e => ex_move (e _ _ rfl)) rfl rfl ?_
        refine wl_val (v := .int .i64 ((T1.size : Nat) : Int)) (fun ρ e => ex_len el23 (e _ _ rfl)) rfl rfl ?_
        refine wl_val (v := .int .i64 (n : Int)) (fun ρ e => ex_move (e _ _ rfl)) rfl rfl ?_
        refine wl_val (v := .int .i64 ((2 * n : Nat) : Int)) (fun ρ e => ex_arith (k := .i64) (u := 2) (v := (n : Int)) (e _ _ rfl) (e _ _ rfl) (congrArg some ((congrArg _ (show _ = ((2 * n : Nat) : Int) by omega)).trans (wrap_in (by omega) (by omega))))) rfl rfl ?_
        refine wl_val (v := .int .i64 (((2 * n) - 1 : Nat) : Int)) (fun ρ e => ex_arith (k := .i64) (u := ((2 * n : Nat) : Int)) (v := 1) (e _ _ rfl) (e _ _ rfl) (congrArg some ((congrArg _ (show _ = (((2 * n) - 1 : Nat) : Int) by omega)).trans (wrap_in (by omega) (by omega))))) rfl rfl ?_
        refine wl_val (v := .bool false) (fun ρ e => ex_cmp (u := ((T1.size : Nat) : Int)) (v := (((2 * n) - 1 : Nat) : Int)) (e _ _ rfl) (e _ _ rfl) (neq0 (by omega))) rfl rfl ?_
        refine wl_val (v := .bool false) (fun ρ e => ex_pick0 (e _ _ rfl) (e _ _ rfl)) rfl rfl ?_
        refine wl_val (v := .bool false) (fun ρ e => ex_move (e _ _ rfl)) rfl rfl ?_
        refine wl_val (v := .slice (some ⟨g182, 0, none⟩) T1.size c177) (fun ρ e => ex_move (e _ _ rfl)) rfl rfl ?_
        refine wl_call (args := [.slice (some ⟨g182, 0, none⟩) T1.size c177]) in_23 rfl rfl rfl ?_
        refine (checkb_ (NodesD.of_row (O180.row 0 rfl)) (fun k hk => (World.ownsRow.lt (O180.row 0 rfl) k hk).2) (chk_val (post_ok gd1))).mono ?_
        rintro _ w188 ⟨rfl, hb189⟩
        have O190 : Own Z0 W w188 [.row (.slice (some ⟨g182, 0, none⟩) T1.size c177) 38 3 T1.size (ncells (post T1 0)), .row (.slice (some ⟨g173, 0, none⟩) T3.size c168) 38 3 T3.size (ncells (post T3 0)), .blk g5 3 ((intCs (ordL n y n)).toArray)] := O180.below hb189
        refine ⟨_, rfl, ?_⟩
        refine wl_val (v := .bool false) (fun ρ e => ex_cmp (u := 0) (v := 0) (e _ _ rfl) (e _ _ rfl) (neq0 rfl)) rfl rfl ?_
        refine wl_val (v := .bool false) (fun ρ e => ex_pick0 (e _ _ rfl) (e _ _ rfl)) rfl rfl ?_
        refine wl_nil ?_
        refine xw_next K186 ?_
        refine cw_false rfl ?_
        refine cw_skip ?_
        refine xw_next K185 ?_
        refine cw_seq (fun FK191 K191 => ?_)
        refine cw_region ?_
        refine wl_val (v := .slice (some ⟨g182, 0, none⟩) T1.size c177) (fun ρ e => ex_move (e _ _ rfl)) rfl rfl ?_
        refine wl_call (args := [.slice (some ⟨g182, 0, none⟩) T1.size c177]) in_30 rfl rfl rfl ?_
        have hv199 := NodesD.of_row (O190.row 0 rfl)
        have hc197 := leaves_ (ts := post T1 0) (hpl ▸ hv199) (fun k hk => (World.ownsRow.lt (O190.row 0 rfl) k hk).2) (by rw [hpl]; omega)
        rw [hpl, leaves_post T1 0 gd1.2, lv1, ordL_len] at hc197
        refine hc197.mono ?_
        rintro _ w194 ⟨A192, c193, rfl, h195⟩
        have O196 := O190.join1 h195 trivial
        obtain ⟨g198, hg198⟩ := rowaddr (O196.row 0 rfl) hn0
        subst hg198
        refine ⟨_, rfl, ?_⟩
        refine wl_val (v := .slice (some ⟨g182, 0, none⟩) T1.size c177) (fun ρ e => ex_move (e _ _ rfl)) rfl rfl ?_
        refine wl_call (args := [.slice (some ⟨g182, 0, none⟩) T1.size c177]) in_31 rfl rfl rfl ?_
        have hv206 := NodesD.of_row (O196.row 1 rfl)
        have hc204 := parents_ok (ts := post T1 0) (hpl ▸ hv206) (fun k hk => (World.ownsRow.lt (O196.row 1 rfl) k hk).2) (post_ok gd1)
        rw [hpl] at hc204
        refine hc204.mono ?_
        rintro _ w201 ⟨g205, c200, rfl, h202⟩
        have O203 := O196.join1 h202 trivial
        refine ⟨_, rfl, ?_⟩
        refine wl_val (v := .slice (some ⟨g198, 0, none⟩) n c193) (fun ρ e => ex_assign (e _ _ rfl)) rfl rfl ?_
        refine wl_val (v := .slice (some ⟨g205, 0, none⟩) T1.size c200) (fun ρ e => ex_assign (e _ _ rfl)) rfl rfl ?_
        refine wl_nil ?_
        refine xw_next K191 ?_
        refine cw_seq (fun FK207 K207 => ?_)
        refine cw_seq (fun FK208 K208 => ?_)
        refine cw_region ?_
        refine wl_val (v := .slice (some ⟨g198, 0, none⟩) n c193) (fun ρ e => ex_move (e _ _ rfl)) rfl rfl ?_
        refine wl_val (v := .int .i64 (n : Int)) (fun ρ e => ex_len el36 (e _ _ rfl)) rfl rfl ?_
        refine wl_val (v := .int .i64 (n : Int)) (fun ρ e => ex_move (e _ _ rfl)) rfl rfl ?_
        refine wl_val (v := .bool false) (fun ρ e => ex_cmp (u := (n : Int)) (v := (n : Int)) (e _ _ rfl) (e _ _ rfl) (neq0 rfl)) rfl rfl ?_
        refine wl_val (v := .bool false) (fun ρ e => ex_move (e _ _ rfl)) rfl rfl ?_
        refine wl_val (v := .slice (some ⟨g205, 0, none⟩) T1.size c200) (fun ρ e => ex_move (e _ _ rfl)) rfl rfl ?_
        refine wl_val (v := .int .i64 ((T1.size : Nat) : Int)) (fun ρ e => ex_len el36 (e _ _ rfl)) rfl rfl ?_
        refine wl_val (v := .slice (some ⟨g182, 0, none⟩) T1.size c177) (fun ρ e => ex_move (e _ _ rfl)) rfl rfl ?_
        refine wl_val (v := .int .i64 ((T1.size : Nat) : Int)) (fun ρ e => ex_len el23 (e _ _ rfl)) rfl rfl ?_
        refine wl_val (v := .bool false) (fun ρ e => ex_cmp (u := ((T1.size : Nat) : Int)) (v := ((T1.size : Nat) : Int)) (e _ _ rfl) (e _ _ rfl) (neq0 rfl)) rfl rfl ?_
        refine wl_val (v := .bool false) (fun ρ e => ex_pick0 (e _ _ rfl) (e _ _ rfl)) rfl rfl ?_
        refine wl_nil ?_
        refine xw_next K208 ?_
        refine cw_false rfl ?_
        refine cw_skip ?_
        refine xw_next K207 ?_
        refine cw_seq (fun FK209 K209 => ?_)
        refine cw_seq (fun FK210 K210 => ?_)
        refine cw_region ?_
        refine wl_val (v := .slice (some ⟨g198, 0, none⟩) n c193) (fun ρ e => ex_move (e _ _ rfl)) rfl rfl ?_
        refine wl_val (v := .int .i64 (n : Int)) (fun ρ e => ex_len el36 (e _ _ rfl)) rfl rfl ?_
        refine wl_val (v := .int .i64 0) (fun ρ e => ex_move (e _ _ rfl)) rfl rfl ?_
        refine wl_nil ?_
        refine xw_next K210 ?_
        refine cw_block ?_
        have O211 : Own Z0 W w201 [.row (.slice (some ⟨g198, 0, none⟩) n c193) 3 1 n (intCs (ordL n y n)), .row (.slice (some ⟨g205, 0, none⟩) T1.size c200) 3 1 T1.size (intCs (parsOf (post T1 0))), .row (.slice (some ⟨g182, 0, none⟩) T1.size c177) 38 3 T1.size (ncells (post T1 0)), .blk g5 3 ((intCs (ordL n y n)).toArray)] := (O203.re [1, 0, 2, 4] rfl : Own Z0 W w201 [.row (.slice (some ⟨g198, 0, none⟩) n c193) 3 1 n (intCs (ordL n y n)), .row (.slice (some ⟨g205, 0, none⟩) T1.size c200) 3 1 T1.size (intCs (parsOf (post T1 0))), .row (.slice (some ⟨g182, 0, none⟩) T1.size c177) 38 3 T1.size (ncells (post T1 0)), .blk g5 3 ((intCs (ordL n y n)).toArray)])
        refine cw_loop (ι := Nat) (fun q => [(5, .int .i64 (n : Int)), (6, .slice (some ⟨g5, 0, none⟩) n n), (8, .int .i64 (d : Int)), (9, .int .i64 ((1 : Nat) : Int)), (10, .slice (some ⟨g182, 0, none⟩) T1.size c177), (13, .slice (some ⟨g205, 0, none⟩) T1.size c200), (100, .slice (some ⟨g198, 0, none⟩) n c193), (101, .int .i64 (n : Int)), (48, .int .i64 ((1 : Nat) : Int)), (102, .int .i64 (q : Int))]) (fun q X => (q ≤ n) ∧ Own Z0 W X [.row (.slice (some ⟨g198, 0, none⟩) n c193) 3 1 n (intCs (ordL n y n)), .row (.slice (some ⟨g205, 0, none⟩) T1.size c200) 3 1 T1.size (intCs (parsOf (post T1 0))), .row (.slice (some ⟨g182, 0, none⟩) T1.size c177) 38 3 T1.size (ncells (post T1 0)), .blk g5 3 ((intCs (ordL n y n)).toArray)]) (fun q => n - q) 0 ⟨Nat.zero_le _, O211⟩ ⟨rfl, rfl, rfl, rfl, rfl, rfl, rfl, rfl, rfl, rfl, trivial⟩ (fun q w212 hJ F213 K214 => ?_)
        obtain ⟨i, rfl⟩ : ∃ x, x = q := ⟨_, rfl⟩
        obtain ⟨hi0, O215⟩ := hJ
        try dsimp only at hi0 O215 ⊢
        by_cases hi : i < n
        · skip
          obtain ⟨u, hu⟩ : ∃ u, (ordL n y n)[i]? = some u := ⟨_, List.getElem?_eq_getElem (show i < (ordL n y n).length by rw [ordL_len]; exact hi)⟩
          refine cw_seq (fun FK216 K216 => ?_)
          refine cw_region ?_
          refine wl_val (v := .bool true) (fun ρ e => ex_cmp (u := (i : Int)) (v := (n : Int)) (e _ _ rfl) (e _ _ rfl) (lss1 (by omega))) rfl rfl ?_
          refine wl_nil ?_
          refine xw_next K216 ?_
          refine cw_seq (fun FK217 K217 => ?_)
          refine cw_true rfl ?_
          refine cw_skip ?_
          refine xw_next K217 ?_
          refine cw_seq (fun FK218 K218 => ?_)
          refine cw_block ?_
          refine cw_seq (fun FK219 K219 => ?_)
          refine cw_region ?_
          refine wl_val (v := .int .i64 (i : Int)) (fun ρ e => ex_move (e _ _ rfl)) rfl rfl ?_
          refine wl_val (v := .pointer (some ⟨g198, i, none⟩)) (fun ρ e => ex_idx (q := i) (i := i) el36 (e _ _ rfl) (e _ _ rfl) (by omega) (by omega)) rfl rfl ?_
          refine wl_val (v := .int .i64 u) (fun ρ e => ex_load1 ty3 (e _ _ rfl) (rowcell (O215.row 0 rfl) (intCs_get hu))) rfl rfl ?_
          refine wl_val (v := .int .i64 (i : Int)) (fun ρ e => ex_assign (e _ _ rfl)) rfl rfl ?_
          refine wl_val (v := .int .i64 u) (fun ρ e => ex_assign (e _ _ rfl)) rfl rfl ?_
          refine wl_nil ?_
          refine xw_next K219 ?_
          refine cw_seq (fun FK220 K220 => ?_)
          refine cw_region ?_
          refine wl_val (v := .int .i64 u) (fun ρ e => ex_move (e _ _ rfl)) rfl rfl ?_
          refine wl_val (v := .slice (some ⟨g5, 0, none⟩) n n) (fun ρ e => ex_move (e _ _ rfl)) rfl rfl ?_
          refine wl_val (v := .int .i64 (i : Int)) (fun ρ e => ex_move (e _ _ rfl)) rfl rfl ?_
          refine wl_val (v := .pointer (some ⟨g5, i, none⟩)) (fun ρ e => ex_idx (q := i) (i := i) el36 (e _ _ rfl) (e _ _ rfl) (by omega) (by omega)) rfl rfl ?_
          refine wl_val (v := .int .i64 u) (fun ρ e => ex_load1 ty3 (e _ _ rfl) (((O215.blk 3 rfl).cell _).trans (getI hu))) rfl rfl ?_
          refine wl_val (v := .bool false) (fun ρ e => ex_cmp (u := u) (v := u) (e _ _ rfl) (e _ _ rfl) (neq0 rfl)) rfl rfl ?_
          refine wl_nil ?_
          refine xw_next K220 ?_
          refine cw_false rfl ?_
          refine cw_skip ?_
          refine xw_block ?_
          refine xw_next K218 ?_
          refine cw_region ?_
          refine wl_val (v := .int .i64 ((i + 1 : Nat) : Int)) (fun ρ e => ex_arith (k := .i64) (u := (i : Int)) (v := 1) (e _ _ rfl) (e _ _ rfl) (congrArg some ((congrArg _ (show _ = ((i + 1 : Nat) : Int) by omega)).trans (wrap_in (by omega) (by omega))))) rfl rfl ?_
          refine wl_val (v := .int .i64 ((i + 1 : Nat) : Int)) (fun ρ e => ex_move (e _ _ rfl)) rfl rfl ?_
          refine wl_nil ?_
          refine xw_round K214 (i + 1) (by show n - (i + 1) < n - i; omega) ⟨(by show i + 1 ≤ n; omega), O215⟩ ⟨rfl, rfl, rfl, rfl, rfl, rfl, rfl, rfl, rfl, rfl, trivial⟩
        · skip
          refine cw_seq (fun FK221 K221 => ?_)
          refine cw_region ?_
          refine wl_val (v := .bool false) (fun ρ e => ex_cmp (u := (i : Int)) (v := (n : Int)) (e _ _ rfl) (e _ _ rfl) (lss0 (by omega))) rfl rfl ?_
          refine wl_nil ?_
          refine xw_next K221 ?_
          refine cw_seq (fun FK222 K222 => ?_)
          refine cw_false rfl ?_
          refine cw_exit ?_
          refine xw_past (by intro h; cases h) ?_
          refine xw_past (by intro h; cases h) ?_
          refine xw_here ?_
          refine xw_next K209 ?_
          refine cw_seq (fun FK223 K223 => ?_)
          refine cw_region ?_
          refine wl_val (v := .slice (some ⟨g182, 0, none⟩) T1.size c177) (fun ρ e => ex_move (e _ _ rfl)) rfl rfl ?_
          refine wl_val (v := .int .i64 ((T1.size : Nat) : Int)) (fun ρ e => ex_len el23 (e _ _ rfl)) rfl rfl ?_
          refine wl_val (v := .int .i64 0) (fun ρ e => ex_move (e _ _ rfl)) rfl rfl ?_
          refine wl_nil ?_
          refine xw_next K223 ?_
          refine cw_block ?_
          have O224 : Own Z0 W w212 [.row (.slice (some ⟨g205, 0, none⟩) T1.size c200) 3 1 T1.size (intCs (parsOf (post T1 0))), .row (.slice (some ⟨g182, 0, none⟩) T1.size c177) 38 3 T1.size (ncells (post T1 0)), .blk g5 3 ((intCs (ordL n y n)).toArray)] := (O215.re [1, 2, 3] rfl : Own Z0 W w212 [.row (.slice (some ⟨g205, 0, none⟩) T1.size c200) 3 1 T1.size (intCs (parsOf (post T1 0))), .row (.slice (some ⟨g182, 0, none⟩) T1.size c177) 38 3 T1.size (ncells (post T1 0)), .blk g5 3 ((intCs (ordL n y n)).toArray)])
          refine cw_loop (ι := Nat) (fun q => [(5, .int .i64 (n : Int)), (6, .slice (some ⟨g5, 0, none⟩) n n), (8, .int .i64 (d : Int)), (9, .int .i64 ((1 : Nat) : Int)), (10, .slice (some ⟨g182, 0, none⟩) T1.size c177), (13, .slice (some ⟨g205, 0, none⟩) T1.size c200), (114, .slice (some ⟨g182, 0, none⟩) T1.size c177), (115, .int .i64 ((T1.size : Nat) : Int)), (48, .int .i64 ((1 : Nat) : Int)), (116, .int .i64 (q : Int))]) (fun q X => (q ≤ T1.size) ∧ Own Z0 W X [.row (.slice (some ⟨g205, 0, none⟩) T1.size c200) 3 1 T1.size (intCs (parsOf (post T1 0))), .row (.slice (some ⟨g182, 0, none⟩) T1.size c177) 38 3 T1.size (ncells (post T1 0)), .blk g5 3 ((intCs (ordL n y n)).toArray)]) (fun q => T1.size - q) 0 ⟨Nat.zero_le _, O224⟩ ⟨rfl, rfl, rfl, rfl, rfl, rfl, rfl, rfl, rfl, rfl, trivial⟩ (fun q w225 hJ F226 K227 => ?_)
          obtain ⟨i, rfl⟩ : ∃ x, x = q := ⟨_, rfl⟩
          obtain ⟨hi0, O228⟩ := hJ
          try dsimp only at hi0 O228 ⊢
          by_cases hi : i < T1.size
          · skip
            have hV := okT_val (post_ok gd1)
            have hil : i < (post T1 0).length := by rw [hpl]; exact hi
            rcases hV.kind i _ (List.getElem?_eq_getElem hil) with ⟨v, hx0, hv1, hv2⟩ | ⟨a, b, hx0, ha, hb, hab⟩
            · skip
              have hx : (post T1 0)[i]? = some ⟨-1, -1, v⟩ := by rw [List.getElem?_eq_getElem hil, hx0]
              obtain ⟨p0, hp0, hu0⟩ := up_start hV hil
              refine cw_seq (fun FK229 K229 => ?_)
              refine cw_region ?_
              refine wl_val (v := .bool true) (fun ρ e => ex_cmp (u := (i : Int)) (v := ((T1.size : Nat) : Int)) (e _ _ rfl) (e _ _ rfl) (lss1 (by omega))) rfl rfl ?_
              refine wl_nil ?_
              refine xw_next K229 ?_
              refine cw_seq (fun FK230 K230 => ?_)
              refine cw_true rfl ?_
              refine cw_skip ?_
              refine xw_next K230 ?_
              refine cw_seq (fun FK231 K231 => ?_)
              refine cw_block ?_
              refine cw_seq (fun FK232 K232 => ?_)
              refine cw_region ?_
              refine wl_val (v := .int .i64 (i : Int)) (fun ρ e => ex_move (e _ _ rfl)) rfl rfl ?_
              refine wl_val (v := .pointer (some ⟨g182, i * 3, none⟩)) (fun ρ e => ex_idx (q := i * 3) (i := i) el23 (e _ _ rfl) (e _ _ rfl) (by omega) (by omega)) rfl rfl ?_
              refine wl_val (v := .agg #[.int .i64 (-1), .int .i64 (-1), .int .i64 v]) (fun ρ e => ex_loadN (vs := [.int .i64 (-1), .int .i64 (-1), .int .i64 v]) ty38 (e _ _ rfl) rfl (cells3 (rowcell (O228.row 1 rfl) (ncells_get hx).1) (rowcell (O228.row 1 rfl) (ncells_get hx).2.1) (rowcell (O228.row 1 rfl) (ncells_get hx).2.2))) rfl rfl ?_
              obtain ⟨g233, w234, r235, O236, hg237, hs238⟩ := own_alloc O228 38 ze38 rfl
              refine wl_val (v := .pointer (some ⟨g233, 0, none⟩)) (fun ρ e => r235 ρ _ _ _ _ _) rfl rfl ?_
              refine wl_val (v := .int .i64 (i : Int)) (fun ρ e => ex_assign (e _ _ rfl)) rfl rfl ?_
              obtain ⟨w239, r240, O241, hs242⟩ := own_put (o := 0) (n := 3) O236 ty38 (.agg #[.int .i64 (-1), .int .i64 (-1), .int .i64 v]) [.int .i64 (-1), .int .i64 (-1), .int .i64 v] (cs' := #[.int .i64 (-1), .int .i64 (-1), .int .i64 v]) rfl rfl rfl (Nat.le_of_ble_eq_true rfl) rfl
              refine wl_none (fun ρ e => r240 ρ _ _ _ _ _ _ (e _ _ rfl) (e _ _ rfl)) rfl ?_
              refine wl_nil ?_
              refine xw_next K232 ?_
              refine cw_seq (fun FK243 K243 => ?_)
              refine cw_region ?_
              refine wl_val (v := .int .i64 0) (fun ρ e => ex_assign (e _ _ rfl)) rfl rfl ?_
              refine wl_nil ?_
              refine xw_next K243 ?_
              refine cw_seq (fun FK244 K244 => ?_)
              refine cw_seq (fun FK245 K245 => ?_)
              refine cw_region ?_
              refine wl_val (v := .slice (some ⟨g205, 0, none⟩) T1.size c200) (fun ρ e => ex_move (e _ _ rfl)) rfl rfl ?_
              refine wl_val (v := .int .i64 (i : Int)) (fun ρ e => ex_move (e _ _ rfl)) rfl rfl ?_
              refine wl_val (v := .pointer (some ⟨g205, i, none⟩)) (fun ρ e => ex_idx (q := i) (i := i) el36 (e _ _ rfl) (e _ _ rfl) (by omega) (by omega)) rfl rfl ?_
              refine wl_val (v := .int .i64 p0) (fun ρ e => ex_load1 ty3 (e _ _ rfl) (rowcell (O241.row 1 rfl) (intCs_get hp0))) rfl rfl ?_
              refine wl_val (v := .int .i64 p0) (fun ρ e => ex_assign (e _ _ rfl)) rfl rfl ?_
              refine wl_nil ?_
              refine xw_next K245 ?_
              refine cw_block ?_
              refine cw_loop (ι := Int × Nat) (fun q => [(5, .int .i64 (n : Int)), (6, .slice (some ⟨g5, 0, none⟩) n n), (8, .int .i64 (d : Int)), (9, .int .i64 ((1 : Nat) : Int)), (10, .slice (some ⟨g182, 0, none⟩) T1.size c177), (13, .slice (some ⟨g205, 0, none⟩) T1.size c200), (16, .int .i64 (i : Int)), (17, .pointer (some ⟨g233, 0, none⟩)), (114, .slice (some ⟨g182, 0, none⟩) T1.size c177), (115, .int .i64 ((T1.size : Nat) : Int)), (48, .int .i64 ((1 : Nat) : Int)), (116, .int .i64 (i : Int)), (18, .int .i64 (q.2 : Int)), (19, .int .i64 q.1)]) (fun q X => (UpTo (post T1 0) i q.1 q.2) ∧ Own Z0 W X [.blk g233 38 #[.int .i64 (-1), .int .i64 (-1), .int .i64 v], .row (.slice (some ⟨g205, 0, none⟩) T1.size c200) 3 1 T1.size (intCs (parsOf (post T1 0))), .row (.slice (some ⟨g182, 0, none⟩) T1.size c177) 38 3 T1.size (ncells (post T1 0)), .blk g5 3 ((intCs (ordL n y n)).toArray)]) (fun q => (chainOf (post T1 0) i).length - q.2) (p0, 0) ⟨hu0, O241⟩ ⟨rfl, rfl, rfl, rfl, rfl, rfl, rfl, rfl, rfl, rfl, rfl, rfl, rfl, rfl, trivial⟩ (fun q w246 hJ F247 K248 => ?_)
              obtain ⟨k, c⟩ := q
              obtain ⟨hup, O249⟩ := hJ
              dsimp only at hup O249 ⊢
              rcases hup with ⟨rfl, hup⟩ | ⟨m, rfl, hm, hup⟩
              · skip
                refine cw_seq (fun FK250 K250 => ?_)
                refine cw_seq (fun FK251 K251 => ?_)
                refine cw_region ?_
                refine wl_val (v := .int .i64 (-1)) (fun ρ e => ex_move (e _ _ rfl)) rfl rfl ?_
                refine wl_val (v := .bool false) (fun ρ e => ex_cmp (u := (-1)) (v := (-1)) (e _ _ rfl) (e _ _ rfl) (neq0 rfl)) rfl rfl ?_
                refine wl_nil ?_
                refine xw_next K251 ?_
                refine cw_false rfl ?_
                refine cw_exit ?_
                refine xw_past (by intro h; cases h) ?_
                refine xw_past (by intro h; cases h) ?_
                refine xw_here ?_
                refine xw_next K244 ?_
                refine cw_seq (fun FK252 K252 => ?_)
                refine cw_region ?_
                refine wl_val (v := .int .i64 ((1 : Nat) : Int)) (fun ρ e => ex_move (e _ _ rfl)) rfl rfl ?_
                refine wl_val (v := .bool false) (fun ρ e => ex_cmp (u := ((1 : Nat) : Int)) (v := 0) (e _ _ rfl) (e _ _ rfl) (eql0 (by omega))) rfl rfl ?_
                refine wl_val (v := .bool false) (fun ρ e => ex_move (e _ _ rfl)) rfl rfl ?_
                refine wl_skip rfl rfl ?_
                refine wl_skip rfl rfl ?_
                refine wl_skip rfl rfl ?_
                refine wl_val (v := .bool false) (fun ρ e => ex_pick0 (e _ _ rfl) (e _ _ rfl)) rfl rfl ?_
                refine wl_val (v := .bool false) (fun ρ e => ex_move (e _ _ rfl)) rfl rfl ?_
                refine wl_skip rfl rfl ?_
                refine wl_skip rfl rfl ?_
                refine wl_skip rfl rfl ?_
                refine wl_val (v := .bool false) (fun ρ e => ex_pick0 (e _ _ rfl) (e _ _ rfl)) rfl rfl ?_
                refine wl_val (v := .bool false) (fun ρ e => ex_move (e _ _ rfl)) rfl rfl ?_
                refine wl_val (v := .int .i64 ((1 : Nat) : Int)) (fun ρ e => ex_move (e _ _ rfl)) rfl rfl ?_
                refine wl_val (v := .bool true) (fun ρ e => ex_cmp (u := ((1 : Nat) : Int)) (v := 1) (e _ _ rfl) (e _ _ rfl) (eql1 (by omega))) rfl rfl ?_
                refine wl_val (v := .bool true) (fun ρ e => ex_move (e _ _ rfl)) rfl rfl ?_
                refine wl_val (v := .pointer (some ⟨g233, 2, none⟩)) (fun ρ e => ex_field (q := 2) fi38_2 (e _ _ rfl) rfl) rfl rfl ?_
                refine wl_val (v := .int .i64 v) (fun ρ e => ex_load1 ty3 (e _ _ rfl) (O249.cell 0 2 rfl rfl)) rfl rfl ?_
                refine wl_val (v := .bool false) (fun ρ e => ex_cmp (u := v) (v := 0) (e _ _ rfl) (e _ _ rfl) (eql0 (by omega))) rfl rfl ?_
                refine wl_val (v := .bool false) (fun ρ e => ex_pick1 (e _ _ rfl) (e _ _ rfl)) rfl rfl ?_
                refine wl_val (v := .bool false) (fun ρ e => ex_move (e _ _ rfl)) rfl rfl ?_
                refine wl_skip rfl rfl ?_
                refine wl_skip rfl rfl ?_
                refine wl_skip rfl rfl ?_
                refine wl_skip rfl rfl ?_
                refine wl_skip rfl rfl ?_
                refine wl_skip rfl rfl ?_
                refine wl_skip rfl rfl ?_
                refine wl_val (v := .bool false) (fun ρ e => ex_pick0 (e _ _ rfl) (e _ _ rfl)) rfl rfl ?_
                refine wl_val (v := .bool false) (fun ρ e => ex_pick0 (e _ _ rfl) (e _ _ rfl)) rfl rfl ?_
                refine wl_val (v := .bool false) (fun ρ e => ex_move (e _ _ rfl)) rfl rfl ?_
                refine wl_val (v := .int .i64 ((1 : Nat) : Int)) (fun ρ e => ex_move (e _ _ rfl)) rfl rfl ?_
                refine wl_val (v := .bool false) (fun ρ e => ex_cmp (u := ((1 : Nat) : Int)) (v := 2) (e _ _ rfl) (e _ _ rfl) (eql0 (by omega))) rfl rfl ?_
                refine wl_val (v := .bool false) (fun ρ e => ex_move (e _ _ rfl)) rfl rfl ?_
                refine wl_skip rfl rfl ?_
                refine wl_skip rfl rfl ?_
                refine wl_skip rfl rfl ?_
                refine wl_val (v := .bool false) (fun ρ e => ex_pick0 (e _ _ rfl) (e _ _ rfl)) rfl rfl ?_
                refine wl_val (v := .bool false) (fun ρ e => ex_move (e _ _ rfl)) rfl rfl ?_
                refine wl_skip rfl rfl ?_
                refine wl_skip rfl rfl ?_
                refine wl_skip rfl rfl ?_
                refine wl_skip rfl rfl ?_
                refine wl_skip rfl rfl ?_
                refine wl_skip rfl rfl ?_
                refine wl_skip rfl rfl ?_
                refine wl_val (v := .bool false) (fun ρ e => ex_pick0 (e _ _ rfl) (e _ _ rfl)) rfl rfl ?_
                refine wl_val (v := .bool false) (fun ρ e => ex_pick0 (e _ _ rfl) (e _ _ rfl)) rfl rfl ?_
                refine wl_nil ?_
                refine xw_next K252 ?_
                refine cw_false rfl ?_
                refine cw_skip ?_
                refine xw_block ?_
                refine xw_next K231 ?_
                refine cw_region ?_
                refine wl_val (v := .int .i64 ((i + 1 : Nat) : Int)) (fun ρ e => ex_arith (k := .i64) (u := (i : Int)) (v := 1) (e _ _ rfl) (e _ _ rfl) (congrArg some ((congrArg _ (show _ = ((i + 1 : Nat) : Int) by omega)).trans (wrap_in (by omega) (by omega))))) rfl rfl ?_
                refine wl_val (v := .int .i64 ((i + 1 : Nat) : Int)) (fun ρ e => ex_move (e _ _ rfl)) rfl rfl ?_
                refine wl_nil ?_
                refine xw_round K227 (i + 1) (by show T1.size - (i + 1) < T1.size - i; omega) ⟨(by show i + 1 ≤ T1.size; omega), (O249.re [1, 2, 3] rfl : Own Z0 W w246 [.row (.slice (some ⟨g205, 0, none⟩) T1.size c200) 3 1 T1.size (intCs (parsOf (post T1 0))), .row (.slice (some ⟨g182, 0, none⟩) T1.size c177) 38 3 T1.size (ncells (post T1 0)), .blk g5 3 ((intCs (ordL n y n)).toArray)])⟩ ⟨rfl, rfl, rfl, rfl, rfl, rfl, rfl, rfl, rfl, rfl, trivial⟩
              · skip
                obtain ⟨p1, hp1, hu1, hlt⟩ := up_step hV hm hup
                have hm2 : m < T1.size := by rw [← hpl]; exact hm
                have hcl := chain_bound (post T1 0) i
                refine cw_seq (fun FK253 K253 => ?_)
                refine cw_seq (fun FK254 K254 => ?_)
                refine cw_region ?_
                refine wl_val (v := .int .i64 (m : Int)) (fun ρ e => ex_move (e _ _ rfl)) rfl rfl ?_
                refine wl_val (v := .bool true) (fun ρ e => ex_cmp (u := (m : Int)) (v := (-1)) (e _ _ rfl) (e _ _ rfl) (neq1 (by omega))) rfl rfl ?_
                refine wl_nil ?_
                refine xw_next K254 ?_
                refine cw_true rfl ?_
                refine cw_skip ?_
                refine xw_next K253 ?_
                refine cw_seq (fun FK255 K255 => ?_)
                refine cw_block ?_
                refine cw_region ?_
                refine wl_val (v := .int .i64 (c : Int)) (fun ρ e => ex_move (e _ _ rfl)) rfl rfl ?_
                refine wl_val (v := .int .i64 ((c + 1 : Nat) : Int)) (fun ρ e => ex_arith (k := .i64) (u := (c : Int)) (v := 1) (e _ _ rfl) (e _ _ rfl) (congrArg some ((congrArg _ (show _ = ((c + 1 : Nat) : Int) by omega)).trans (wrap_in (by omega) (by omega))))) rfl rfl ?_
                refine wl_val (v := .int .i64 ((c + 1 : Nat) : Int)) (fun ρ e => ex_assign (e _ _ rfl)) rfl rfl ?_
                refine wl_nil ?_
                refine xw_block ?_
                refine xw_next K255 ?_
                refine cw_region ?_
                refine wl_val (v := .slice (some ⟨g205, 0, none⟩) T1.size c200) (fun ρ e => ex_move (e _ _ rfl)) rfl rfl ?_
                refine wl_val (v := .int .i64 (m : Int)) (fun ρ e => ex_move (e _ _ rfl)) rfl rfl ?_
                refine wl_val (v := .pointer (some ⟨g205, m, none⟩)) (fun ρ e => ex_idx (q := m) (i := m) el36 (e _ _ rfl) (e _ _ rfl) (by omega) (by omega)) rfl rfl ?_
                refine wl_val (v := .int .i64 p1) (fun ρ e => ex_load1 ty3 (e _ _ rfl) (rowcell (O249.row 1 rfl) (intCs_get hp1))) rfl rfl ?_
                refine wl_val (v := .int .i64 p1) (fun ρ e => ex_assign (e _ _ rfl)) rfl rfl ?_
                refine wl_nil ?_
                refine xw_round K248 (p1, (c + 1)) (by show (chainOf (post T1 0) i).length - (c + 1) < (chainOf (post T1 0) i).length - c; omega) ⟨hu1, O249⟩ ⟨rfl, rfl, rfl, rfl, rfl, rfl, rfl, rfl, rfl, rfl, rfl, rfl, rfl, rfl, trivial⟩
            · skip
              have hx : (post T1 0)[i]? = some ⟨(a : Int), (b : Int), 0⟩ := by rw [List.getElem?_eq_getElem hil, hx0]
              obtain ⟨v2, hx2, hw1, hw2⟩ := (leaf_child T1 0 i gd1.2 (Lies.all _) (Nat.zero_le _) (by omega) hx).1 (cr1 rfl)
              obtain ⟨p0, hp0, hu0⟩ := up_start hV hil
              refine cw_seq (fun FK256 K256 => ?_)
              refine cw_region ?_
              refine wl_val (v := .bool true) (fun ρ e => ex_cmp (u := (i : Int)) (v := ((T1.size : Nat) : Int)) (e _ _ rfl) (e _ _ rfl) (lss1 (by omega))) rfl rfl ?_
              refine wl_nil ?_
              refine xw_next K256 ?_
              refine cw_seq (fun FK257 K257 => ?_)
              refine cw_true rfl ?_
              refine cw_skip ?_
              refine xw_next K257 ?_
              refine cw_seq (fun FK258 K258 => ?_)
              refine cw_block ?_
              refine cw_seq (fun FK259 K259 => ?_)
              refine cw_region ?_
              refine wl_val (v := .int .i64 (i : Int)) (fun ρ e => ex_move (e _ _ rfl)) rfl rfl ?_
              refine wl_val (v := .pointer (some ⟨g182, i * 3, none⟩)) (fun ρ e => ex_idx (q := i * 3) (i := i) el23 (e _ _ rfl) (e _ _ rfl) (by omega) (by omega)) rfl rfl ?_
              refine wl_val (v := .agg #[.int .i64 (a : Int), .int .i64 (b : Int), .int .i64 0]) (fun ρ e => ex_loadN (vs := [.int .i64 (a : Int), .int .i64 (b : Int), .int .i64 0]) ty38 (e _ _ rfl) rfl (cells3 (rowcell (O228.row 1 rfl) (ncells_get hx).1) (rowcell (O228.row 1 rfl) (ncells_get hx).2.1) (rowcell (O228.row 1 rfl) (ncells_get hx).2.2))) rfl rfl ?_
              obtain ⟨g260, w261, r262, O263, hg264, hs265⟩ := own_alloc O228 38 ze38 rfl
              refine wl_val (v := .pointer (some ⟨g260, 0, none⟩)) (fun ρ e => r262 ρ _ _ _ _ _) rfl rfl ?_
              refine wl_val (v := .int .i64 (i : Int)) (fun ρ e => ex_assign (e _ _ rfl)) rfl rfl ?_
              obtain ⟨w266, r267, O268, hs269⟩ := own_put (o := 0) (n := 3) O263 ty38 (.agg #[.int .i64 (a : Int), .int .i64 (b : Int), .int .i64 0]) [.int .i64 (a : Int), .int .i64 (b : Int), .int .i64 0] (cs' := #[.int .i64 (a : Int), .int .i64 (b : Int), .int .i64 0]) rfl rfl rfl (Nat.le_of_ble_eq_true rfl) rfl
              refine wl_none (fun ρ e => r267 ρ _ _ _ _ _ _ (e _ _ rfl) (e _ _ rfl)) rfl ?_
              refine wl_nil ?_
              refine xw_next K259 ?_
              refine cw_seq (fun FK270 K270 => ?_)
              refine cw_region ?_
              refine wl_val (v := .int .i64 0) (fun ρ e => ex_assign (e _ _ rfl)) rfl rfl ?_
              refine wl_nil ?_
              refine xw_next K270 ?_
              refine cw_seq (fun FK271 K271 => ?_)
              refine cw_seq (fun FK272 K272 => ?_)
              refine cw_region ?_
              refine wl_val (v := .slice (some ⟨g205, 0, none⟩) T1.size c200) (fun ρ e => ex_move (e _ _ rfl)) rfl rfl ?_
              refine wl_val (v := .int .i64 (i : Int)) (fun ρ e => ex_move (e _ _ rfl)) rfl rfl ?_
              refine wl_val (v := .pointer (some ⟨g205, i, none⟩)) (fun ρ e => ex_idx (q := i) (i := i) el36 (e _ _ rfl) (e _ _ rfl) (by omega) (by omega)) rfl rfl ?_
              refine wl_val (v := .int .i64 p0) (fun ρ e => ex_load1 ty3 (e _ _ rfl) (rowcell (O268.row 1 rfl) (intCs_get hp0))) rfl rfl ?_
              refine wl_val (v := .int .i64 p0) (fun ρ e => ex_assign (e _ _ rfl)) rfl rfl ?_
              refine wl_nil ?_
              refine xw_next K272 ?_
              refine cw_block ?_
              refine cw_loop (ι := Int × Nat) (fun q => [(5, .int .i64 (n : Int)), (6, .slice (some ⟨g5, 0, none⟩) n n), (8, .int .i64 (d : Int)), (9, .int .i64 ((1 : Nat) : Int)), (10, .slice (some ⟨g182, 0, none⟩) T1.size c177), (13, .slice (some ⟨g205, 0, none⟩) T1.size c200), (16, .int .i64 (i : Int)), (17, .pointer (some ⟨g260, 0, none⟩)), (114, .slice (some ⟨g182, 0, none⟩) T1.size c177), (115, .int .i64 ((T1.size : Nat) : Int)), (48, .int .i64 ((1 : Nat) : Int)), (116, .int .i64 (i : Int)), (18, .int .i64 (q.2 : Int)), (19, .int .i64 q.1)]) (fun q X => (UpTo (post T1 0) i q.1 q.2) ∧ Own Z0 W X [.blk g260 38 #[.int .i64 (a : Int), .int .i64 (b : Int), .int .i64 0], .row (.slice (some ⟨g205, 0, none⟩) T1.size c200) 3 1 T1.size (intCs (parsOf (post T1 0))), .row (.slice (some ⟨g182, 0, none⟩) T1.size c177) 38 3 T1.size (ncells (post T1 0)), .blk g5 3 ((intCs (ordL n y n)).toArray)]) (fun q => (chainOf (post T1 0) i).length - q.2) (p0, 0) ⟨hu0, O268⟩ ⟨rfl, rfl, rfl, rfl, rfl, rfl, rfl, rfl, rfl, rfl, rfl, rfl, rfl, rfl, trivial⟩ (fun q w273 hJ F274 K275 => ?_)
              obtain ⟨k, c⟩ := q
              obtain ⟨hup, O276⟩ := hJ
              dsimp only at hup O276 ⊢
              rcases hup with ⟨rfl, hup⟩ | ⟨m, rfl, hm, hup⟩
              · skip
                refine cw_seq (fun FK277 K277 => ?_)
                refine cw_seq (fun FK278 K278 => ?_)
                refine cw_region ?_
                refine wl_val (v := .int .i64 (-1)) (fun ρ e => ex_move (e _ _ rfl)) rfl rfl ?_
                refine wl_val (v := .bool false) (fun ρ e => ex_cmp (u := (-1)) (v := (-1)) (e _ _ rfl) (e _ _ rfl) (neq0 rfl)) rfl rfl ?_
                refine wl_nil ?_
                refine xw_next K278 ?_
                refine cw_false rfl ?_
                refine cw_exit ?_
                refine xw_past (by intro h; cases h) ?_
                refine xw_past (by intro h; cases h) ?_
                refine xw_here ?_
                refine xw_next K271 ?_
                refine cw_seq (fun FK279 K279 => ?_)
                refine cw_region ?_
                refine wl_val (v := .int .i64 ((1 : Nat) : Int)) (fun ρ e => ex_move (e _ _ rfl)) rfl rfl ?_
                refine wl_val (v := .bool false) (fun ρ e => ex_cmp (u := ((1 : Nat) : Int)) (v := 0) (e _ _ rfl) (e _ _ rfl) (eql0 (by omega))) rfl rfl ?_
                refine wl_val (v := .bool false) (fun ρ e => ex_move (e _ _ rfl)) rfl rfl ?_
                refine wl_skip rfl rfl ?_
                refine wl_skip rfl rfl ?_
                refine wl_skip rfl rfl ?_
                refine wl_val (v := .bool false) (fun ρ e => ex_pick0 (e _ _ rfl) (e _ _ rfl)) rfl rfl ?_
                refine wl_val (v := .bool false) (fun ρ e => ex_move (e _ _ rfl)) rfl rfl ?_
                refine wl_skip rfl rfl ?_
                refine wl_skip rfl rfl ?_
                refine wl_skip rfl rfl ?_
                refine wl_val (v := .bool false) (fun ρ e => ex_pick0 (e _ _ rfl) (e _ _ rfl)) rfl rfl ?_
                refine wl_val (v := .bool false) (fun ρ e => ex_move (e _ _ rfl)) rfl rfl ?_
                refine wl_val (v := .int .i64 ((1 : Nat) : Int)) (fun ρ e => ex_move (e _ _ rfl)) rfl rfl ?_
                refine wl_val (v := .bool true) (fun ρ e => ex_cmp (u := ((1 : Nat) : Int)) (v := 1) (e _ _ rfl) (e _ _ rfl) (eql1 (by omega))) rfl rfl ?_
                refine wl_val (v := .bool true) (fun ρ e => ex_move (e _ _ rfl)) rfl rfl ?_
                refine wl_val (v := .pointer (some ⟨g260, 2, none⟩)) (fun ρ e => ex_field (q := 2) fi38_2 (e _ _ rfl) rfl) rfl rfl ?_
                refine wl_val (v := .int .i64 0) (fun ρ e => ex_load1 ty3 (e _ _ rfl) (O276.cell 0 2 rfl rfl)) rfl rfl ?_
                refine wl_val (v := .bool true) (fun ρ e => ex_cmp (u := 0) (v := 0) (e _ _ rfl) (e _ _ rfl) (eql1 rfl)) rfl rfl ?_
                refine wl_val (v := .bool true) (fun ρ e => ex_pick1 (e _ _ rfl) (e _ _ rfl)) rfl rfl ?_
                refine wl_val (v := .bool true) (fun ρ e => ex_move (e _ _ rfl)) rfl rfl ?_
                refine wl_val (v := .slice (some ⟨g182, 0, none⟩) T1.size c177) (fun ρ e => ex_move (e _ _ rfl)) rfl rfl ?_
                refine wl_val (v := .pointer (some ⟨g260, 0, none⟩)) (fun ρ e => ex_field (q := 0) fi38_0 (e _ _ rfl) rfl) rfl rfl ?_
                refine wl_val (v := .int .i64 (a : Int)) (fun ρ e => ex_load1 ty3 (e _ _ rfl) (O276.cell 0 0 rfl rfl)) rfl rfl ?_
                refine wl_val (v := .pointer (some ⟨g182, a * 3, none⟩)) (fun ρ e => ex_idx (q := a * 3) (i := a) el23 (e _ _ rfl) (e _ _ rfl) (by omega) (by omega)) rfl rfl ?_
                refine wl_val (v := .pointer (some ⟨g182, a * 3 + 2, none⟩)) (fun ρ e => ex_field (q := a * 3 + 2) fi38_2 (e _ _ rfl) rfl) rfl rfl ?_
                refine wl_val (v := .int .i64 v2) (fun ρ e => ex_load1 ty3 (e _ _ rfl) (rowcell (O276.row 2 rfl) (ncells_get hx2).2.2)) rfl rfl ?_
                refine wl_val (v := .bool false) (fun ρ e => ex_cmp (u := v2) (v := 0) (e _ _ rfl) (e _ _ rfl) (eql0 (by omega))) rfl rfl ?_
                refine wl_val (v := .bool false) (fun ρ e => ex_pick1 (e _ _ rfl) (e _ _ rfl)) rfl rfl ?_
                refine wl_val (v := .bool false) (fun ρ e => ex_pick0 (e _ _ rfl) (e _ _ rfl)) rfl rfl ?_
                refine wl_val (v := .bool false) (fun ρ e => ex_move (e _ _ rfl)) rfl rfl ?_
                refine wl_val (v := .int .i64 ((1 : Nat) : Int)) (fun ρ e => ex_move (e _ _ rfl)) rfl rfl ?_
                refine wl_val (v := .bool false) (fun ρ e => ex_cmp (u := ((1 : Nat) : Int)) (v := 2) (e _ _ rfl) (e _ _ rfl) (eql0 (by omega))) rfl rfl ?_
                refine wl_val (v := .bool false) (fun ρ e => ex_move (e _ _ rfl)) rfl rfl ?_
                refine wl_skip rfl rfl ?_
                refine wl_skip rfl rfl ?_
                refine wl_skip rfl rfl ?_
                refine wl_val (v := .bool false) (fun ρ e => ex_pick0 (e _ _ rfl) (e _ _ rfl)) rfl rfl ?_
                refine wl_val (v := .bool false) (fun ρ e => ex_move (e _ _ rfl)) rfl rfl ?_
                refine wl_skip rfl rfl ?_
                refine wl_skip rfl rfl ?_
                refine wl_skip rfl rfl ?_
                refine wl_skip rfl rfl ?_
                refine wl_skip rfl rfl ?_
                refine wl_skip rfl rfl ?_
                refine wl_skip rfl rfl ?_
                refine wl_val (v := .bool false) (fun ρ e => ex_pick0 (e _ _ rfl) (e _ _ rfl)) rfl rfl ?_
                refine wl_val (v := .bool false) (fun ρ e => ex_pick0 (e _ _ rfl) (e _ _ rfl)) rfl rfl ?_
                refine wl_nil ?_
                refine xw_next K279 ?_
                refine cw_false rfl ?_
                refine cw_skip ?_
                refine xw_block ?_
                refine xw_next K258 ?_
                refine cw_region ?_
                refine wl_val (v := .int .i64 ((i + 1 : Nat) : Int)) (fun ρ e => ex_arith (k := .i64) (u := (i : Int)) (v := 1) (e _ _ rfl) (e _ _ rfl) (congrArg some ((congrArg _ (show _ = ((i + 1 : Nat) : Int) by omega)).trans (wrap_in (by omega) (by omega))))) rfl rfl ?_
                refine wl_val (v := .int .i64 ((i + 1 : Nat) : Int)) (fun ρ e => ex_move (e _ _ rfl)) rfl rfl ?_
                refine wl_nil ?_
                refine xw_round K227 (i + 1) (by show T1.size - (i + 1) < T1.size - i; omega) ⟨(by show i + 1 ≤ T1.size; omega), (O276.re [1, 2, 3] rfl : Own Z0 W w273 [.row (.slice (some ⟨g205, 0, none⟩) T1.size c200) 3 1 T1.size (intCs (parsOf (post T1 0))), .row (.slice (some ⟨g182, 0, none⟩) T1.size c177) 38 3 T1.size (ncells (post T1 0)), .blk g5 3 ((intCs (ordL n y n)).toArray)])⟩ ⟨rfl, rfl, rfl, rfl, rfl, rfl, rfl, rfl, rfl, rfl, trivial⟩
              · skip
                obtain ⟨p1, hp1, hu1, hlt⟩ := up_step hV hm hup
                have hm2 : m < T1.size := by rw [← hpl]; exact hm
                have hcl := chain_bound (post T1 0) i
                refine cw_seq (fun FK280 K280 => ?_)
                refine cw_seq (fun FK281 K281 => ?_)
                refine cw_region ?_
                refine wl_val (v := .int .i64 (m : Int)) (fun ρ e => ex_move (e _ _ rfl)) rfl rfl ?_
                refine wl_val (v := .bool true) (fun ρ e => ex_cmp (u := (m : Int)) (v := (-1)) (e _ _ rfl) (e _ _ rfl) (neq1 (by omega))) rfl rfl ?_
                refine wl_nil ?_
                refine xw_next K281 ?_
                refine cw_true rfl ?_
                refine cw_skip ?_
                refine xw_next K280 ?_
                refine cw_seq (fun FK282 K282 => ?_)
                refine cw_block ?_
                refine cw_region ?_
                refine wl_val (v := .int .i64 (c : Int)) (fun ρ e => ex_move (e _ _ rfl)) rfl rfl ?_
                refine wl_val (v := .int .i64 ((c + 1 : Nat) : Int)) (fun ρ e => ex_arith (k := .i64) (u := (c : Int)) (v := 1) (e _ _ rfl) (e _ _ rfl) (congrArg some ((congrArg _ (show _ = ((c + 1 : Nat) : Int) by omega)).trans (wrap_in (by omega) (by omega))))) rfl rfl ?_
                refine wl_val (v := .int .i64 ((c + 1 : Nat) : Int)) (fun ρ e => ex_assign (e _ _ rfl)) rfl rfl ?_
                refine wl_nil ?_
                refine xw_block ?_
                refine xw_next K282 ?_
                refine cw_region ?_
                refine wl_val (v := .slice (some ⟨g205, 0, none⟩) T1.size c200) (fun ρ e => ex_move (e _ _ rfl)) rfl rfl ?_
                refine wl_val (v := .int .i64 (m : Int)) (fun ρ e => ex_move (e _ _ rfl)) rfl rfl ?_
                refine wl_val (v := .pointer (some ⟨g205, m, none⟩)) (fun ρ e => ex_idx (q := m) (i := m) el36 (e _ _ rfl) (e _ _ rfl) (by omega) (by omega)) rfl rfl ?_
                refine wl_val (v := .int .i64 p1) (fun ρ e => ex_load1 ty3 (e _ _ rfl) (rowcell (O276.row 1 rfl) (intCs_get hp1))) rfl rfl ?_
                refine wl_val (v := .int .i64 p1) (fun ρ e => ex_assign (e _ _ rfl)) rfl rfl ?_
                refine wl_nil ?_
                refine xw_round K275 (p1, (c + 1)) (by show (chainOf (post T1 0) i).length - (c + 1) < (chainOf (post T1 0) i).length - c; omega) ⟨hu1, O276⟩ ⟨rfl, rfl, rfl, rfl, rfl, rfl, rfl, rfl, rfl, rfl, rfl, rfl, rfl, rfl, trivial⟩
          · skip
            refine cw_seq (fun FK283 K283 => ?_)
            refine cw_region ?_
            refine wl_val (v := .bool false) (fun ρ e => ex_cmp (u := (i : Int)) (v := ((T1.size : Nat) : Int)) (e _ _ rfl) (e _ _ rfl) (lss0 (by omega))) rfl rfl ?_
            refine wl_nil ?_
            refine xw_next K283 ?_
            refine cw_seq (fun FK284 K284 => ?_)
            refine cw_false rfl ?_
            refine cw_exit ?_
            refine xw_past (by intro h; cases h) ?_
            refine xw_past (by intro h; cases h) ?_
            refine xw_here ?_
            refine xw_block ?_
            refine xw_next K164 ?_
            refine cw_region ?_
            refine wl_val (v := .int .i64 ((1 + 1 : Nat) : Int)) (fun ρ e => ex_arith (k := .i64) (u := ((1 : Nat) : Int)) (v := 1) (e _ _ rfl) (e _ _ rfl) (congrArg some ((congrArg _ (show _ = ((1 + 1 : Nat) : Int) by omega)).trans (wrap_in (by omega) (by omega))))) rfl rfl ?_
            refine wl_val (v := .int .i64 ((1 + 1 : Nat) : Int)) (fun ρ e => ex_move (e _ _ rfl)) rfl rfl ?_
            refine wl_nil ?_
            refine xw_round K44 (1 + 1) (by show 3 - (1 + 1) < 3 - 1; omega) ⟨(by show 1 + 1 ≤ 3; omega), (O228.re [2] rfl : Own Z0 W w225 [.blk g5 3 ((intCs (ordL n y n)).toArray)])⟩ ⟨rfl, rfl, rfl, rfl, trivial⟩
      · skip
        refine cw_seq (fun FK285 K285 => ?_)
        refine cw_region ?_
        refine wl_val (v := .bool true) (fun ρ e => ex_cmp (u := ((2 : Nat) : Int)) (v := 3) (e _ _ rfl) (e _ _ rfl) (lss1 (by omega))) rfl rfl ?_
        refine wl_nil ?_
        refine xw_next K285 ?_
        refine cw_seq (fun FK286 K286 => ?_)
        refine cw_true rfl ?_
        refine cw_skip ?_
        refine xw_next K286 ?_
        refine cw_seq (fun FK287 K287 => ?_)
        refine cw_block ?_
        refine cw_seq (fun FK288 K288 => ?_)
        refine cw_region ?_
        refine wl_val (v := .int .i64 ((2 : Nat) : Int)) (fun ρ e => ex_move (e _ _ rfl)) rfl rfl ?_
        refine wl_val (v := .int .i64 ((2 : Nat) : Int)) (fun ρ e => ex_assign (e _ _ rfl)) rfl rfl ?_
        refine wl_nil ?_
        refine xw_next K288 ?_
        refine cw_seq (fun FK289 K289 => ?_)
        refine cw_region ?_
        refine wl_val (v := .slice (some ⟨g5, 0, none⟩) n n) (fun ρ e => ex_move (e _ _ rfl)) rfl rfl ?_
        refine wl_call (args := [.slice (some ⟨g5, 0, none⟩) n n]) in_26 rfl rfl rfl ?_
        obtain ⟨T3, mkk3, gd3, lv3, sz3, dp3, cr3, cl3⟩ := depth_make 3 y hn0 hn1
        have hc295 := balanced_ (IntsD.of_blk (n := n) (l := (ordL n y n)) (O45.blk 0 rfl) (ordL_len n y n).symm (by unfold maxLen; omega)) (fun k hk => hk ▸ (O45.blk 0 rfl).lt) (by rw [ordL_len]; omega)
        rw [mkk3] at hc295
        refine hc295.mono ?_
        rintro _ w292 ⟨A290, c291, rfl, h293⟩
        have O294 := O45.join1 h293 trivial
        rw [post_len] at O294
        obtain ⟨g296, hg296⟩ := rowaddr (O294.row 0 rfl) T3.size_pos
        subst hg296
        have hpl : (post T3 0).length = T3.size := post_len T3 0
        rw [hpl]
        refine ⟨_, rfl, ?_⟩
        refine wl_val (v := .tuple #[.slice (some ⟨g296, 0, none⟩) T3.size c291, .int .i64 0]) (fun ρ e => ex_move (e _ _ rfl)) rfl rfl ?_
        refine wl_val (v := .slice (some ⟨g296, 0, none⟩) T3.size c291) (fun ρ e => ex_extract (vs := #[.slice (some ⟨g296, 0, none⟩) T3.size c291, .int .i64 0]) (e _ _ rfl) rfl) rfl rfl ?_
        refine wl_val (v := .int .i64 0) (fun ρ e => ex_extract (vs := #[.slice (some ⟨g296, 0, none⟩) T3.size c291, .int .i64 0]) (e _ _ rfl) rfl) rfl rfl ?_
        refine wl_val (v := .slice (some ⟨g296, 0, none⟩) T3.size c291) (fun ρ e => ex_assign (e _ _ rfl)) rfl rfl ?_
        refine wl_val (v := .int .i64 0) (fun ρ e => ex_assign (e _ _ rfl)) rfl rfl ?_
        refine wl_nil ?_
        refine xw_next K289 ?_
        refine cw_seq (fun FK297 K297 => ?_)
        refine cw_seq (fun FK298 K298 => ?_)
        refine cw_region ?_
        refine wl_val (v := .int .i64 ((2 : Nat) : Int)) (fun ρ e => ex_move (e _ _ rfl)) rfl rfl ?_
        refine wl_val (v := .bool false) (fun ρ e => ex_cmp (u := ((2 : Nat) : Int)) (v := 1) (e _ _ rfl) (e _ _ rfl) (eql0 (by omega))) rfl rfl ?_
        refine wl_nil ?_
        refine xw_next K298 ?_
        refine cw_false rfl ?_
        refine cw_skip ?_
        refine xw_next K297 ?_
        refine cw_seq (fun FK299 K299 => ?_)
        refine cw_seq (fun FK300 K300 => ?_)
        refine cw_region ?_
        refine wl_val (v := .int .i64 ((2 : Nat) : Int)) (fun ρ e => ex_move (e _ _ rfl)) rfl rfl ?_
        refine wl_val (v := .bool true) (fun ρ e => ex_cmp (u := ((2 : Nat) : Int)) (v := 2) (e _ _ rfl) (e _ _ rfl) (eql1 (by omega))) rfl rfl ?_
        refine wl_nil ?_
        refine xw_next K300 ?_
        refine cw_true rfl ?_
        refine cw_region ?_
        refine wl_val (v := .slice (some ⟨g5, 0, none⟩) n n) (fun ρ e => ex_move (e _ _ rfl)) rfl rfl ?_
        refine wl_call (args := [.slice (some ⟨g5, 0, none⟩) n n]) in_25 rfl rfl rfl ?_
        obtain ⟨T2, mkk2, gd2, lv2, sz2, dp2, cr2, cl2⟩ := depth_make 2 y hn0 hn1
        have hc306 := left_ (IntsD.of_blk (n := n) (l := (ordL n y n)) (O294.blk 1 rfl) (ordL_len n y n).symm (by unfold maxLen; omega)) (fun k hk => hk ▸ (O294.blk 1 rfl).lt) (by rw [ordL_len]; omega)
        rw [mkk2] at hc306
        refine hc306.mono ?_
        rintro _ w303 ⟨A301, c302, rfl, h304⟩
        have O305 := O294.join1 h304 trivial
        rw [post_len] at O305
        obtain ⟨g307, hg307⟩ := rowaddr (O305.row 0 rfl) T2.size_pos
        subst hg307
        have hpl : (post T2 0).length = T2.size := post_len T2 0
        rw [hpl]
        refine ⟨_, rfl, ?_⟩
        refine wl_val (v := .tuple #[.slice (some ⟨g307, 0, none⟩) T2.size c302, .int .i64 0]) (fun ρ e => ex_move (e _ _ rfl)) rfl rfl ?_
        refine wl_val (v := .slice (some ⟨g307, 0, none⟩) T2.size c302) (fun ρ e => ex_extract (vs := #[.slice (some ⟨g307, 0, none⟩) T2.size c302, .int .i64 0]) (e _ _ rfl) rfl) rfl rfl ?_
        refine wl_val (v := .int .i64 0) (fun ρ e => ex_extract (vs := #[.slice (some ⟨g307, 0, none⟩) T2.size c302, .int .i64 0]) (e _ _ rfl) rfl) rfl rfl ?_
        refine wl_val (v := .slice (some ⟨g307, 0, none⟩) T2.size c302) (fun ρ e => ex_assign (e _ _ rfl)) rfl rfl ?_
        refine wl_val (v := .int .i64 0) (fun ρ e => ex_assign (e _ _ rfl)) rfl rfl ?_
        refine wl_nil ?_
        refine xw_next K299 ?_
        refine cw_seq (fun FK308 K308 => ?_)
        refine cw_seq (fun FK309 K309 => ?_)
        refine cw_region ?_
        refine wl_val (v := .int .i64 0) (fun ρ e => ex_move (e _ _ rfl)) rfl rfl ?_
        refine wl_val (v := .bool false) (fun ρ e => ex_cmp (u := 0) (v := 0) (e _ _ rfl) (e _ _ rfl) (neq0 rfl)) rfl rfl ?_
        refine wl_val (v := .bool false) (fun ρ e => ex_move (e _ _ rfl)) rfl rfl ?_
        refine wl_val (v := .slice (some ⟨g307, 0, none⟩) T2.size c302) (fun ρ e => ex_move (e _ _ rfl)) rfl rfl ?_
        refine wl_val (v := .int .i64 ((T2.size : Nat) : Int)) (fun ρ e => ex_len el23 (e _ _ rfl)) rfl rfl ?_
        refine wl_val (v := .int .i64 (n : Int)) (fun ρ e => ex_move (e _ _ rfl)) rfl rfl ?_
        refine wl_val (v := .int .i64 ((2 * n : Nat) : Int)) (fun ρ e => ex_arith (k := .i64) (u := 2) (v := (n : Int)) (e _ _ rfl) (e _ _ rfl) (congrArg some ((congrArg _ (show _ = ((2 * n : Nat) : Int) by omega)).trans (wrap_in (by omega) (by omega))))) rfl rfl ?_
        refine wl_val (v := .int .i64 (((2 * n) - 1 : Nat) : Int)) (fun ρ e => ex_arith (k := .i64) (u := ((2 * n : Nat) : Int)) (v := 1) (e _ _ rfl) (e _ _ rfl) (congrArg some ((congrArg _ (show _ = (((2 * n) - 1 : Nat) : Int) by omega)).trans (wrap_in (by omega) (by omega))))) rfl rfl ?_
        refine wl_val (v := .bool false) (fun ρ e => ex_cmp (u := ((T2.size : Nat) : Int)) (v := (((2 * n) - 1 : Nat) : Int)) (e _ _ rfl) (e _ _ rfl) (neq0 (by omega))) rfl rfl ?_
        refine wl_val (v := .bool false) (fun ρ e => ex_pick0 (e _ _ rfl) (e _ _ rfl)) rfl rfl ?_
        refine wl_val (v := .bool false) (fun ρ e => ex_move (e _ _ rfl)) rfl rfl ?_
        refine wl_val (v := .slice (some ⟨g307, 0, none⟩) T2.size c302) (fun ρ e => ex_move (e _ _ rfl)) rfl rfl ?_
        refine wl_call (args := [.slice (some ⟨g307, 0, none⟩) T2.size c302]) in_23 rfl rfl rfl ?_
        refine (checkb_ (NodesD.of_row (O305.row 0 rfl)) (fun k hk => (World.ownsRow.lt (O305.row 0 rfl) k hk).2) (chk_val (post_ok gd2))).mono ?_
        rintro _ w311 ⟨rfl, hb312⟩
        have O313 : Own Z0 W w311 [.row (.slice (some ⟨g307, 0, none⟩) T2.size c302) 38 3 T2.size (ncells (post T2 0)), .row (.slice (some ⟨g296, 0, none⟩) T3.size c291) 38 3 T3.size (ncells (post T3 0)), .blk g5 3 ((intCs (ordL n y n)).toArray)] := O305.below hb312
        refine ⟨_, rfl, ?_⟩
        refine wl_val (v := .bool false) (fun ρ e => ex_cmp (u := 0) (v := 0) (e _ _ rfl) (e _ _ rfl) (neq0 rfl)) rfl rfl ?_
        refine wl_val (v := .bool false) (fun ρ e => ex_pick0 (e _ _ rfl) (e _ _ rfl)) rfl rfl ?_
        refine wl_nil ?_
        refine xw_next K309 ?_
        refine cw_false rfl ?_
        refine cw_skip ?_
        refine xw_next K308 ?_
        refine cw_seq (fun FK314 K314 => ?_)
        refine cw_region ?_
        refine wl_val (v := .slice (some ⟨g307, 0, none⟩) T2.size c302) (fun ρ e => ex_move (e _ _ rfl)) rfl rfl ?_
        refine wl_call (args := [.slice (some ⟨g307, 0, none⟩) T2.size c302]) in_30 rfl rfl rfl ?_
        have hv322 := NodesD.of_row (O313.row 0 rfl)
        have hc320 := leaves_ (ts := post T2 0) (hpl ▸ hv322) (fun k hk => (World.ownsRow.lt (O313.row 0 rfl) k hk).2) (by rw [hpl]; omega)
        rw [hpl, leaves_post T2 0 gd2.2, lv2, ordL_len] at hc320
        refine hc320.mono ?_
        rintro _ w317 ⟨A315, c316, rfl, h318⟩
        have O319 := O313.join1 h318 trivial
        obtain ⟨g321, hg321⟩ := rowaddr (O319.row 0 rfl) hn0
        subst hg321
        refine ⟨_, rfl, ?_⟩
        refine wl_val (v := .slice (some ⟨g307, 0, none⟩) T2.size c302) (fun ρ e => ex_move (e _ _ rfl)) rfl rfl ?_
        refine wl_call (args := [.slice (some ⟨g307, 0, none⟩) T2.size c302]) in_31 rfl rfl rfl ?_
        have hv329 := NodesD.of_row (O319.row 1 rfl)
        have hc327 := parents_ok (ts := post T2 0) (hpl ▸ hv329) (fun k hk => (World.ownsRow.lt (O319.row 1 rfl) k hk).2) (post_ok gd2)
        rw [hpl] at hc327
        refine hc327.mono ?_
        rintro _ w324 ⟨g328, c323, rfl, h325⟩
        have O326 := O319.join1 h325 trivial
        refine ⟨_, rfl, ?_⟩
        refine wl_val (v := .slice (some ⟨g321, 0, none⟩) n c316) (fun ρ e => ex_assign (e _ _ rfl)) rfl rfl ?_
        refine wl_val (v := .slice (some ⟨g328, 0, none⟩) T2.size c323) (fun ρ e => ex_assign (e _ _ rfl)) rfl rfl ?_
        refine wl_nil ?_
        refine xw_next K314 ?_
        refine cw_seq (fun FK330 K330 => ?_)
        refine cw_seq (fun FK331 K331 => ?_)
        refine cw_region ?_
        refine wl_val (v := .slice (some ⟨g321, 0, none⟩) n c316) (fun ρ e => ex_move (e _ _ rfl)) rfl rfl ?_
        refine wl_val (v := .int .i64 (n : Int)) (fun ρ e => ex_len el36 (e _ _ rfl)) rfl rfl ?_
        refine wl_val (v := .int .i64 (n : Int)) (fun ρ e => ex_move (e _ _ rfl)) rfl rfl ?_
        refine wl_val (v := .bool false) (fun ρ e => ex_cmp (u := (n : Int)) (v := (n : Int)) (e _ _ rfl) (e _ _ rfl) (neq0 rfl)) rfl rfl ?_
        refine wl_val (v := .bool false) (fun ρ e => ex_move (e _ _ rfl)) rfl rfl ?_
        refine wl_val (v := .slice (some ⟨g328, 0, none⟩) T2.size c323) (fun ρ e => ex_move (e _ _ rfl)) rfl rfl ?_
        refine wl_val (v := .int .i64 ((T2.size : Nat) : Int)) (fun ρ e => ex_len el36 (e _ _ rfl)) rfl rfl ?_
        refine wl_val (v := .slice (some ⟨g307, 0, none⟩) T2.size c302) (fun ρ e => ex_move (e _ _ rfl)) rfl rfl ?_
        refine wl_val (v := .int .i64 ((T2.size : Nat) : Int)) (fun ρ e => ex_len el23 (e _ _ rfl)) rfl rfl ?_
        refine wl_val (v := .bool false) (fun ρ e => ex_cmp (u := ((T2.size : Nat) : Int)) (v := ((T2.size : Nat) : Int)) (e _ _ rfl) (e _ _ rfl) (neq0 rfl)) rfl rfl ?_
        refine wl_val (v := .bool false) (fun ρ e => ex_pick0 (e _ _ rfl) (e _ _ rfl)) rfl rfl ?_
        refine wl_nil ?_
        refine xw_next K331 ?_
        refine cw_false rfl ?_
        refine cw_skip ?_
        refine xw_next K330 ?_
        refine cw_seq (fun FK332 K332 => ?_)
        refine cw_seq (fun FK333 K333 => ?_)
        refine cw_region ?_
        refine wl_val (v := .slice (some ⟨g321, 0, none⟩) n c316) (fun ρ e => ex_move (e _ _ rfl)) rfl rfl ?_
        refine wl_val (v := .int .i64 (n : Int)) (fun ρ e => ex_len el36 (e _ _ rfl)) rfl rfl ?_
        refine wl_val (v := .int .i64 0) (fun ρ e => ex_move (e _ _ rfl)) rfl rfl ?_
        refine wl_nil ?_
        refine xw_next K333 ?_
        refine cw_block ?_
        have O334 : Own Z0 W w324 [.row (.slice (some ⟨g321, 0, none⟩) n c316) 3 1 n (intCs (ordL n y n)), .row (.slice (some ⟨g328, 0, none⟩) T2.size c323) 3 1 T2.size (intCs (parsOf (post T2 0))), .row (.slice (some ⟨g307, 0, none⟩) T2.size c302) 38 3 T2.size (ncells (post T2 0)), .blk g5 3 ((intCs (ordL n y n)).toArray)] := (O326.re [1, 0, 2, 4] rfl : Own Z0 W w324 [.row (.slice (some ⟨g321, 0, none⟩) n c316) 3 1 n (intCs (ordL n y n)), .row (.slice (some ⟨g328, 0, none⟩) T2.size c323) 3 1 T2.size (intCs (parsOf (post T2 0))), .row (.slice (some ⟨g307, 0, none⟩) T2.size c302) 38 3 T2.size (ncells (post T2 0)), .blk g5 3 ((intCs (ordL n y n)).toArray)])
        refine cw_loop (ι := Nat) (fun q => [(5, .int .i64 (n : Int)), (6, .slice (some ⟨g5, 0, none⟩) n n), (8, .int .i64 (d : Int)), (9, .int .i64 ((2 : Nat) : Int)), (10, .slice (some ⟨g307, 0, none⟩) T2.size c302), (13, .slice (some ⟨g328, 0, none⟩) T2.size c323), (100, .slice (some ⟨g321, 0, none⟩) n c316), (101, .int .i64 (n : Int)), (48, .int .i64 ((2 : Nat) : Int)), (102, .int .i64 (q : Int))]) (fun q X => (q ≤ n) ∧ Own Z0 W X [.row (.slice (some ⟨g321, 0, none⟩) n c316) 3 1 n (intCs (ordL n y n)), .row (.slice (some ⟨g328, 0, none⟩) T2.size c323) 3 1 T2.size (intCs (parsOf (post T2 0))), .row (.slice (some ⟨g307, 0, none⟩) T2.size c302) 38 3 T2.size (ncells (post T2 0)), .blk g5 3 ((intCs (ordL n y n)).toArray)]) (fun q => n - q) 0 ⟨Nat.zero_le _, O334⟩ ⟨rfl, rfl, rfl, rfl, rfl, rfl, rfl, rfl, rfl, rfl, trivial⟩ (fun q w335 hJ F336 K337 => ?_)
        obtain ⟨i, rfl⟩ : ∃ x, x = q := ⟨_, rfl⟩
        obtain ⟨hi0, O338⟩ := hJ
        try dsimp only at hi0 O338 ⊢
        by_cases hi : i < n
        · skip
          obtain ⟨u, hu⟩ : ∃ u, (ordL n y n)[i]? = some u := ⟨_, List.getElem?_eq_getElem (show i < (ordL n y n).length by rw [ordL_len]; exact hi)⟩
          refine cw_seq (fun FK339 K339 => ?_)
          refine cw_region ?_
          refine wl_val (v := .bool true) (fun ρ e => ex_cmp (u := (i : Int)) (v := (n : Int)) (e _ _ rfl) (e _ _ rfl) (lss1 (by omega))) rfl rfl ?_
          refine wl_nil ?_
          refine xw_next K339 ?_
          refine cw_seq (fun FK340 K340 => ?_)
          refine cw_true rfl ?_
          refine cw_skip ?_
          refine xw_next K340 ?_
          refine cw_seq (fun FK341 K341 => ?_)
          refine cw_block ?_
          refine cw_seq (fun FK342 K342 => ?_)
          refine cw_region ?_
          refine wl_val (v := .int .i64 (i : Int)) (fun ρ e => ex_move (e _ _ rfl)) rfl rfl ?_
          refine wl_val (v := .pointer (some ⟨g321, i, none⟩)) (fun ρ e => ex_idx (q := i) (i := i) el36 (e _ _ rfl) (e _ _ rfl) (by omega) (by omega)) rfl rfl ?_
          refine wl_val (v := .int .i64 u) (fun ρ e => ex_load1 ty3 (e _ _ rfl) (rowcell (O338.row 0 rfl) (intCs_get hu))) rfl rfl ?_
          refine wl_val (v := .int .i64 (i : Int)) (fun ρ e => ex_assign (e _ _ rfl)) rfl rfl ?_
          refine wl_val (v := .int .i64 u) (fun ρ e => ex_assign (e _ _ rfl)) rfl rfl ?_
          refine wl_nil ?_
          refine xw_next K342 ?_
          refine cw_seq (fun FK343 K343 => ?_)
          refine cw_region ?_
          refine wl_val (v := .int .i64 u) (fun ρ e => ex_move (e _ _ rfl)) rfl rfl ?_
          refine wl_val (v := .slice (some ⟨g5, 0, none⟩) n n) (fun ρ e => ex_move (e _ _ rfl)) rfl rfl ?_
          refine wl_val (v := .int .i64 (i : Int)) (fun ρ e => ex_move (e _ _ rfl)) rfl rfl ?_
          refine wl_val (v := .pointer (some ⟨g5, i, none⟩)) (fun ρ e => ex_idx (q := i) (i := i) el36 (e _ _ rfl) (e _ _ rfl) (by omega) (by omega)) rfl rfl ?_
          refine wl_val (v := .int .i64 u) (fun ρ e => ex_load1 ty3 (e _ _ rfl) (((O338.blk 3 rfl).cell _).trans (getI hu))) rfl rfl ?_
          refine wl_val (v := .bool false) (fun ρ e => ex_cmp (u := u) (v := u) (e _ _ rfl) (e _ _ rfl) (neq0 rfl)) rfl rfl ?_
          refine wl_nil ?_
          refine xw_next K343 ?_
          refine cw_false rfl ?_
          refine cw_skip ?_
          refine xw_block ?_
          refine xw_next K341 ?_
          refine cw_region ?_
          refine wl_val (v := .int .i64 ((i + 1 : Nat) : Int)) (fun ρ e => ex_arith (k := .i64) (u := (i : Int)) (v := 1) (e _ _ rfl) (e _ _ rfl) (congrArg some ((congrArg _ (show _ = ((i + 1 : Nat) : Int) by omega)).trans (wrap_in (by omega) (by omega))))) rfl rfl ?_
          refine wl_val (v := .int .i64 ((i + 1 : Nat) : Int)) (fun ρ e => ex_move (e _ _ rfl)) rfl rfl ?_
          refine wl_nil ?_
          refine xw_round K337 (i + 1) (by show n - (i + 1) < n - i; omega) ⟨(by show i + 1 ≤ n; omega), O338⟩ ⟨rfl, rfl, rfl, rfl, rfl, rfl, rfl, rfl, rfl, rfl, trivial⟩
        · skip
          refine cw_seq (fun FK344 K344 => ?_)
          refine cw_region ?_
          refine wl_val (v := .bool false) (fun ρ e => ex_cmp (u := (i : Int)) (v := (n : Int)) (e _ _ rfl) (e _ _ rfl) (lss0 (by omega))) rfl rfl ?_
          refine wl_nil ?_
          refine xw_next K344 ?_
          refine cw_seq (fun FK345 K345 => ?_)
          refine cw_false rfl ?_
          refine cw_exit ?_
          refine xw_past (by intro h; cases h) ?_
          refine xw_past (by intro h; cases h) ?_
          refine xw_here ?_
          refine xw_next K332 ?_
          refine cw_seq (fun FK346 K346 => ?_)
          refine cw_region ?_
          refine wl_val (v := .slice (some ⟨g307, 0, none⟩) T2.size c302) (fun ρ e => ex_move (e _ _ rfl)) rfl rfl ?_
          refine wl_val (v := .int .i64 ((T2.size : Nat) : Int)) (fun ρ e => ex_len el23 (e _ _ rfl)) rfl rfl ?_
          refine wl_val (v := .int .i64 0) (fun ρ e => ex_move (e _ _ rfl)) rfl rfl ?_
          refine wl_nil ?_
          refine xw_next K346 ?_
          refine cw_block ?_
          have O347 : Own Z0 W w335 [.row (.slice (some ⟨g328, 0, none⟩) T2.size c323) 3 1 T2.size (intCs (parsOf (post T2 0))), .row (.slice (some ⟨g307, 0, none⟩) T2.size c302) 38 3 T2.size (ncells (post T2 0)), .blk g5 3 ((intCs (ordL n y n)).toArray)] := (O338.re [1, 2, 3] rfl : Own Z0 W w335 [.row (.slice (some ⟨g328, 0, none⟩) T2.size c323) 3 1 T2.size (intCs (parsOf (post T2 0))), .row (.slice (some ⟨g307, 0, none⟩) T2.size c302) 38 3 T2.size (ncells (post T2 0)), .blk g5 3 ((intCs (ordL n y n)).toArray)])
          refine cw_loop (ι := Nat) (fun q => [(5, .int .i64 (n : Int)), (6, .slice (some ⟨g5, 0, none⟩) n n), (8, .int .i64 (d : Int)), (9, .int .i64 ((2 : Nat) : Int)), (10, .slice (some ⟨g307, 0, none⟩) T2.size c302), (13, .slice (some ⟨g328, 0, none⟩) T2.size c323), (114, .slice (some ⟨g307, 0, none⟩) T2.size c302), (115, .int .i64 ((T2.size : Nat) : Int)), (48, .int .i64 ((2 : Nat) : Int)), (116, .int .i64 (q : Int))]) (fun q X => (q ≤ T2.size) ∧ Own Z0 W X [.row (.slice (some ⟨g328, 0, none⟩) T2.size c323) 3 1 T2.size (intCs (parsOf (post T2 0))), .row (.slice (some ⟨g307, 0, none⟩) T2.size c302) 38 3 T2.size (ncells (post T2 0)), .blk g5 3 ((intCs (ordL n y n)).toArray)]) (fun q => T2.size - q) 0 ⟨Nat.zero_le _, O347⟩ ⟨rfl, rfl, rfl, rfl, rfl, rfl, rfl, rfl, rfl, rfl, trivial⟩ (fun q w348 hJ F349 K350 => ?_)
          obtain ⟨i, rfl⟩ : ∃ x, x = q := ⟨_, rfl⟩
          obtain ⟨hi0, O351⟩ := hJ
          try dsimp only at hi0 O351 ⊢
          by_cases hi : i < T2.size
          · skip
            have hV := okT_val (post_ok gd2)
            have hil : i < (post T2 0).length := by rw [hpl]; exact hi
            rcases hV.kind i _ (List.getElem?_eq_getElem hil) with ⟨v, hx0, hv1, hv2⟩ | ⟨a, b, hx0, ha, hb, hab⟩
            · skip
              have hx : (post T2 0)[i]? = some ⟨-1, -1, v⟩ := by rw [List.getElem?_eq_getElem hil, hx0]
              obtain ⟨p0, hp0, hu0⟩ := up_start hV hil
              refine cw_seq (fun FK352 K352 => ?_)
              refine cw_region ?_
              refine wl_val (v := .bool true) (fun ρ e => ex_cmp (u := (i : Int)) (v := ((T2.size : Nat) : Int)) (e _ _ rfl) (e _ _ rfl) (lss1 (by omega))) rfl rfl ?_
              refine wl_nil ?_
              refine xw_next K352 ?_
              refine cw_seq (fun FK353 K353 => ?_)
              refine cw_true rfl ?_
              refine cw_skip ?_
              refine xw_next K353 ?_
              refine cw_seq (fun FK354 K354 => ?_)
              refine cw_block ?_
              refine cw_seq (fun FK355 K355 => ?_)
              refine cw_region ?_
              refine wl_val (v := .int .i64 (i : Int)) (fun ρ e => ex_move (e _ _ rfl)) rfl rfl ?_
              refine wl_val (v := .pointer (some ⟨g307, i * 3, none⟩)) (fun ρ e => ex_idx (q := i * 3) (i := i) el23 (e _ _ rfl) (e _ _ rfl) (by omega) (by omega)) rfl rfl ?_
              refine wl_val (v := .agg #[.int .i64 (-1), .int .i64 (-1), .int .i64 v]) (fun ρ e => ex_loadN (vs := [.int .i64 (-1), .int .i64 (-1), .int .i64 v]) ty38 (e _ _ rfl) rfl (cells3 (rowcell (O351.row 1 rfl) (ncells_get hx).1) (rowcell (O351.row 1 rfl) (ncells_get hx).2.1) (rowcell (O351.row 1 rfl) (ncells_get hx).2.2))) rfl rfl ?_
              obtain ⟨g356, w357, r358, O359, hg360, hs361⟩ := own_alloc O351 38 ze38 rfl
              refine wl_val (v := .pointer (some ⟨g356, 0, none⟩)) (fun ρ e => r358 ρ _ _ _ _ _) rfl rfl ?_
              refine wl_val (v := .int .i64 (i : Int)) (fun ρ e => ex_assign (e _ _ rfl)) rfl rfl ?_
              obtain ⟨w362, r363, O364, hs365⟩ := own_put (o := 0) (n := 3) O359 ty38 (.agg #[.int .i64 (-1), .int .i64 (-1), .int .i64 v]) [.int .i64 (-1), .int .i64 (-1), .int .i64 v] (cs' := #[.int .i64 (-1), .int .i64 (-1), .int .i64 v]) rfl rfl rfl (Nat.le_of_ble_eq_true rfl) rfl
              refine wl_none (fun ρ e => r363 ρ _ _ _ _ _ _ (e _ _ rfl) (e _ _ rfl)) rfl ?_
              refine wl_nil ?_
              refine xw_next K355 ?_
              refine cw_seq (fun FK366 K366 => ?_)
              refine cw_region ?_
              refine wl_val (v := .int .i64 0) (fun ρ e => ex_assign (e _ _ rfl)) rfl rfl ?_
              refine wl_nil ?_
              refine xw_next K366 ?_
              refine cw_seq (fun FK367 K367 => ?_)
              refine cw_seq (fun FK368 K368 => ?_)
              refine cw_region ?_
              refine wl_val (v := .slice (some ⟨g328, 0, none⟩) T2.size c323) (fun ρ e => ex_move (e _ _ rfl)) rfl rfl ?_
              refine wl_val (v := .int .i64 (i : Int)) (fun ρ e => ex_move (e _ _ rfl)) rfl rfl ?_
              refine wl_val (v := .pointer (some ⟨g328, i, none⟩)) (fun ρ e => ex_idx (q := i) (i := i) el36 (e _ _ rfl) (e _ _ rfl) (by omega) (by omega)) rfl rfl ?_
              refine wl_val (v := .int .i64 p0) (fun ρ e => ex_load1 ty3 (e _ _ rfl) (rowcell (O364.row 1 rfl) (intCs_get hp0))) rfl rfl ?_
              refine wl_val (v := .int .i64 p0) (fun ρ e => ex_assign (e _ _ rfl)) rfl rfl ?_
              refine wl_nil ?_
              refine xw_next K368 ?_
              refine cw_block ?_
              refine cw_loop (ι := Int × Nat) (fun q => [(5, .int .i64 (n : Int)), (6, .slice (some ⟨g5, 0, none⟩) n n), (8, .int .i64 (d : Int)), (9, .int .i64 ((2 : Nat) : Int)), (10, .slice (some ⟨g307, 0, none⟩) T2.size c302), (13, .slice (some ⟨g328, 0, none⟩) T2.size c323), (16, .int .i64 (i : Int)), (17, .pointer (some ⟨g356, 0, none⟩)), (114, .slice (some ⟨g307, 0, none⟩) T2.size c302), (115, .int .i64 ((T2.size : Nat) : Int)), (48, .int .i64 ((2 : Nat) : Int)), (116, .int .i64 (i : Int)), (18, .int .i64 (q.2 : Int)), (19, .int .i64 q.1)]) (fun q X => (UpTo (post T2 0) i q.1 q.2) ∧ Own Z0 W X [.blk g356 38 #[.int .i64 (-1), .int .i64 (-1), .int .i64 v], .row (.slice (some ⟨g328, 0, none⟩) T2.size c323) 3 1 T2.size (intCs (parsOf (post T2 0))), .row (.slice (some ⟨g307, 0, none⟩) T2.size c302) 38 3 T2.size (ncells (post T2 0)), .blk g5 3 ((intCs (ordL n y n)).toArray)]) (fun q => (chainOf (post T2 0) i).length - q.2) (p0, 0) ⟨hu0, O364⟩ ⟨rfl, rfl, rfl, rfl, rfl, rfl, rfl, rfl, rfl, rfl, rfl, rfl, rfl, rfl, trivial⟩ (fun q w369 hJ F370 K371 => ?_)
              obtain ⟨k, c⟩ := q
              obtain ⟨hup, O372⟩ := hJ
              dsimp only at hup O372 ⊢
              rcases hup with ⟨rfl, hup⟩ | ⟨m, rfl, hm, hup⟩
              · skip
                refine cw_seq (fun FK373 K373 => ?_)
                refine cw_seq (fun FK374 K374 => ?_)
                refine cw_region ?_
                refine wl_val (v := .int .i64 (-1)) (fun ρ e => ex_move (e _ _ rfl)) rfl rfl ?_
                refine wl_val (v := .bool false) (fun ρ e => ex_cmp (u := (-1)) (v := (-1)) (e _ _ rfl) (e _ _ rfl) (neq0 rfl)) rfl rfl ?_
                refine wl_nil ?_
                refine xw_next K374 ?_
                refine cw_false rfl ?_
                refine cw_exit ?_
                refine xw_past (by intro h; cases h) ?_
                refine xw_past (by intro h; cases h) ?_
                refine xw_here ?_
                refine xw_next K367 ?_
                refine cw_seq (fun FK375 K375 => ?_)
                refine cw_region ?_
                refine wl_val (v := .int .i64 ((2 : Nat) : Int)) (fun ρ e => ex_move (e _ _ rfl)) rfl rfl ?_
                refine wl_val (v := .bool false) (fun ρ e => ex_cmp (u := ((2 : Nat) : Int)) (v := 0) (e _ _ rfl) (e _ _ rfl) (eql0 (by omega))) rfl rfl ?_
                refine wl_val (v := .bool false) (fun ρ e => ex_move (e _ _ rfl)) rfl rfl ?_
                refine wl_skip rfl rfl ?_
                refine wl_skip rfl rfl ?_
                refine wl_skip rfl rfl ?_
                refine wl_val (v := .bool false) (fun ρ e => ex_pick0 (e _ _ rfl) (e _ _ rfl)) rfl rfl ?_
                refine wl_val (v := .bool false) (fun ρ e => ex_move (e _ _ rfl)) rfl rfl ?_
                refine wl_skip rfl rfl ?_
                refine wl_skip rfl rfl ?_
                refine wl_skip rfl rfl ?_
                refine wl_val (v := .bool false) (fun ρ e => ex_pick0 (e _ _ rfl) (e _ _ rfl)) rfl rfl ?_
                refine wl_val (v := .bool false) (fun ρ e => ex_move (e _ _ rfl)) rfl rfl ?_
                refine wl_val (v := .int .i64 ((2 : Nat) : Int)) (fun ρ e => ex_move (e _ _ rfl)) rfl rfl ?_
                refine wl_val (v := .bool false) (fun ρ e => ex_cmp (u := ((2 : Nat) : Int)) (v := 1) (e _ _ rfl) (e _ _ rfl) (eql0 (by omega))) rfl rfl ?_
                refine wl_val (v := .bool false) (fun ρ e => ex_move (e _ _ rfl)) rfl rfl ?_
                refine wl_skip rfl rfl ?_
                refine wl_skip rfl rfl ?_
                refine wl_skip rfl rfl ?_
                refine wl_val (v := .bool false) (fun ρ e => ex_pick0 (e _ _ rfl) (e _ _ rfl)) rfl rfl ?_
                refine wl_val (v := .bool false) (fun ρ e => ex_move (e _ _ rfl)) rfl rfl ?_
                refine wl_skip rfl rfl ?_
                refine wl_skip rfl rfl ?_
                refine wl_skip rfl rfl ?_
                refine wl_skip rfl rfl ?_
                refine wl_skip rfl rfl ?_
                refine wl_skip rfl rfl ?_
                refine wl_skip rfl rfl ?_
                refine wl_val (v := .bool false) (fun ρ e => ex_pick0 (e _ _ rfl) (e _ _ rfl)) rfl rfl ?_
                refine wl_val (v := .bool false) (fun ρ e => ex_pick0 (e _ _ rfl) (e _ _ rfl)) rfl rfl ?_
                refine wl_val (v := .bool false) (fun ρ e => ex_move (e _ _ rfl)) rfl rfl ?_
                refine wl_val (v := .int .i64 ((2 : Nat) : Int)) (fun ρ e => ex_move (e _ _ rfl)) rfl rfl ?_
                refine wl_val (v := .bool true) (fun ρ e => ex_cmp (u := ((2 : Nat) : Int)) (v := 2) (e _ _ rfl) (e _ _ rfl) (eql1 (by omega))) rfl rfl ?_
                refine wl_val (v := .bool true) (fun ρ e => ex_move (e _ _ rfl)) rfl rfl ?_
                refine wl_val (v := .pointer (some ⟨g356, 2, none⟩)) (fun ρ e => ex_field (q := 2) fi38_2 (e _ _ rfl) rfl) rfl rfl ?_
                refine wl_val (v := .int .i64 v) (fun ρ e => ex_load1 ty3 (e _ _ rfl) (O372.cell 0 2 rfl rfl)) rfl rfl ?_
                refine wl_val (v := .bool false) (fun ρ e => ex_cmp (u := v) (v := 0) (e _ _ rfl) (e _ _ rfl) (eql0 (by omega))) rfl rfl ?_
                refine wl_val (v := .bool false) (fun ρ e => ex_pick1 (e _ _ rfl) (e _ _ rfl)) rfl rfl ?_
                refine wl_val (v := .bool false) (fun ρ e => ex_move (e _ _ rfl)) rfl rfl ?_
                refine wl_skip rfl rfl ?_
                refine wl_skip rfl rfl ?_
                refine wl_skip rfl rfl ?_
                refine wl_skip rfl rfl ?_
                refine wl_skip rfl rfl ?_
                refine wl_skip rfl rfl ?_
                refine wl_skip rfl rfl ?_
                refine wl_val (v := .bool false) (fun ρ e => ex_pick0 (e _ _ rfl) (e _ _ rfl)) rfl rfl ?_
                refine wl_val (v := .bool false) (fun ρ e => ex_pick0 (e _ _ rfl) (e _ _ rfl)) rfl rfl ?_
                refine wl_nil ?_
                refine xw_next K375 ?_
                refine cw_false rfl ?_
                refine cw_skip ?_
                refine xw_block ?_
                refine xw_next K354 ?_
                refine cw_region ?_
                refine wl_val (v := .int .i64 ((i + 1 : Nat) : Int)) (fun ρ e => ex_arith (k := .i64) (u := (i : Int)) (v := 1) (e _ _ rfl) (e _ _ rfl) (congrArg some ((congrArg _ (show _ = ((i + 1 : Nat) : Int) by omega)).trans (wrap_in (by omega) (by omega))))) rfl rfl ?_
                refine wl_val (v := .int .i64 ((i + 1 : Nat) : Int)) (fun ρ e => ex_move (e _ _ rfl)) rfl rfl ?_
                refine wl_nil ?_
                refine xw_round K350 (i + 1) (by show T2.size - (i + 1) < T2.size - i; omega) ⟨(by show i + 1 ≤ T2.size; omega), (O372.re [1, 2, 3] rfl : Own Z0 W w369 [.row (.slice (some ⟨g328, 0, none⟩) T2.size c323) 3 1 T2.size (intCs (parsOf (post T2 0))), .row (.slice (some ⟨g307, 0, none⟩) T2.size c302) 38 3 T2.size (ncells (post T2 0)), .blk g5 3 ((intCs (ordL n y n)).toArray)])⟩ ⟨rfl, rfl, rfl, rfl, rfl, rfl, rfl, rfl, rfl, rfl, trivial⟩
              · skip
                obtain ⟨p1, hp1, hu1, hlt⟩ := up_step hV hm hup
                have hm2 : m < T2.size := by rw [← hpl]; exact hm
                have hcl := chain_bound (post T2 0) i
                refine cw_seq (fun FK376 K376 => ?_)
                refine cw_seq (fun FK377 K377 => ?_)
                refine cw_region ?_
                refine wl_val (v := .int .i64 (m : Int)) (fun ρ e => ex_move (e _ _ rfl)) rfl rfl ?_
                refine wl_val (v := .bool true) (fun ρ e => ex_cmp (u := (m : Int)) (v := (-1)) (e _ _ rfl) (e _ _ rfl) (neq1 (by omega))) rfl rfl ?_
                refine wl_nil ?_
                refine xw_next K377 ?_
                refine cw_true rfl ?_
                refine cw_skip ?_
                refine xw_next K376 ?_
                refine cw_seq (fun FK378 K378 => ?_)
                refine cw_block ?_
                refine cw_region ?_
                refine wl_val (v := .int .i64 (c : Int)) (fun ρ e => ex_move (e _ _ rfl)) rfl rfl ?_
                refine wl_val (v := .int .i64 ((c + 1 : Nat) : Int)) (fun ρ e => ex_arith (k := .i64) (u := (c : Int)) (v := 1) (e _ _ rfl) (e _ _ rfl) (congrArg some ((congrArg _ (show _ = ((c + 1 : Nat) : Int) by omega)).trans (wrap_in (by omega) (by omega))))) rfl rfl ?_
                refine wl_val (v := .int .i64 ((c + 1 : Nat) : Int)) (fun ρ e => ex_assign (e _ _ rfl)) rfl rfl ?_
                refine wl_nil ?_
                refine xw_block ?_
                refine xw_next K378 ?_
                refine cw_region ?_
                refine wl_val (v := .slice (some ⟨g328, 0, none⟩) T2.size c323) (fun ρ e => ex_move (e _ _ rfl)) rfl rfl ?_
                refine wl_val (v := .int .i64 (m : Int)) (fun ρ e => ex_move (e _ _ rfl)) rfl rfl ?_
                refine wl_val (v := .pointer (some ⟨g328, m, none⟩)) (fun ρ e => ex_idx (q := m) (i := m) el36 (e _ _ rfl) (e _ _ rfl) (by omega) (by omega)) rfl rfl ?_
                refine wl_val (v := .int .i64 p1) (fun ρ e => ex_load1 ty3 (e _ _ rfl) (rowcell (O372.row 1 rfl) (intCs_get hp1))) rfl rfl ?_
                refine wl_val (v := .int .i64 p1) (fun ρ e => ex_assign (e _ _ rfl)) rfl rfl ?_
                refine wl_nil ?_
                refine xw_round K371 (p1, (c + 1)) (by show (chainOf (post T2 0) i).length - (c + 1) < (chainOf (post T2 0) i).length - c; omega) ⟨hu1, O372⟩ ⟨rfl, rfl, rfl, rfl, rfl, rfl, rfl, rfl, rfl, rfl, rfl, rfl, rfl, rfl, trivial⟩
            · skip
              have hx : (post T2 0)[i]? = some ⟨(a : Int), (b : Int), 0⟩ := by rw [List.getElem?_eq_getElem hil, hx0]
              obtain ⟨v2, hx2, hw1, hw2⟩ := (leaf_child T2 0 i gd2.2 (Lies.all _) (Nat.zero_le _) (by omega) hx).2 (cl2 rfl)
              obtain ⟨p0, hp0, hu0⟩ := up_start hV hil
              refine cw_seq (fun FK379 K379 => ?_)
              refine cw_region ?_
              refine wl_val (v := .bool true) (fun ρ e => ex_cmp (u := (i : Int)) (v := ((T2.size : Nat) : Int)) (e _ _ rfl) (e _ _ rfl) (lss1 (by omega))) rfl rfl ?_
              refine wl_nil ?_
              refine xw_next K379 ?_
              refine cw_seq (fun FK380 K380 => ?_)
              refine cw_true rfl ?_
              refine cw_skip ?_
              refine xw_next K380 ?_
              refine cw_seq (fun FK381 K381 => ?_)
              refine cw_block ?_
              refine cw_seq (fun FK382 K382 => ?_)
              refine cw_region ?_
              refine wl_val (v := .int .i64 (i : Int)) (fun ρ e => ex_move (e _ _ rfl)) rfl rfl ?_
              refine wl_val (v := .pointer (some ⟨g307, i * 3, none⟩)) (fun ρ e => ex_idx (q := i * 3) (i := i) el23 (e _ _ rfl) (e _ _ rfl) (by omega) (by omega)) rfl rfl ?_
              refine wl_val (v := .agg #[.int .i64 (a : Int), .int .i64 (b : Int), .int .i64 0]) (fun ρ e => ex_loadN (vs := [.int .i64 (a : Int), .int .i64 (b : Int), .int .i64 0]) ty38 (e _ _ rfl) rfl (cells3 (rowcell (O351.row 1 rfl) (ncells_get hx).1) (rowcell (O351.row 1 rfl) (ncells_get hx).2.1) (rowcell (O351.row 1 rfl) (ncells_get hx).2.2))) rfl rfl ?_
              obtain ⟨g383, w384, r385, O386, hg387, hs388⟩ := own_alloc O351 38 ze38 rfl
              refine wl_val (v := .pointer (some ⟨g383, 0, none⟩)) (fun ρ e => r385 ρ _ _ _ _ _) rfl rfl ?_
              refine wl_val (v := .int .i64 (i : Int)) (fun ρ e => ex_assign (e _ _ rfl)) rfl rfl ?_
              obtain ⟨w389, r390, O391, hs392⟩ := own_put (o := 0) (n := 3) O386 ty38 (.agg #[.int .i64 (a : Int), .int .i64 (b : Int), .int .i64 0]) [.int .i64 (a : Int), .int .i64 (b : Int), .int .i64 0] (cs' := #[.int .i64 (a : Int), .int .i64 (b : Int), .int .i64 0]) rfl rfl rfl (Nat.le_of_ble_eq_true rfl) rfl
              refine wl_none (fun ρ e => r390 ρ _ _ _ _ _ _ (e _ _ rfl) (e _ _ rfl)) rfl ?_
              refine wl_nil ?_
              refine xw_next K382 ?_
              refine cw_seq (fun FK393 K393 => ?_)
              refine cw_region ?_
              refine wl_val (v := .int .i64 0) (fun ρ e => ex_assign (e _ _ rfl)) rfl rfl ?_
              refine wl_nil ?_
              refine xw_next K393 ?_
              refine cw_seq (fun FK394 K394 => ?_)
              refine cw_seq (fun FK395 K395 => ?_)
              refine cw_region ?_
              refine wl_val (v := .slice (some ⟨g328, 0, none⟩) T2.size c323) (fun ρ e => ex_move (e _ _ rfl)) rfl rfl ?_
              refine wl_val (v := .int .i64 (i : Int)) (fun ρ e => ex_move (e _ _ rfl)) rfl rfl ?_
              refine wl_val (v := .pointer (some ⟨g328, i, none⟩)) (fun ρ e => ex_idx (q := i) (i := i) el36 (e _ _ rfl) (e _ _ rfl) (by omega) (by omega)) rfl rfl ?_
              refine wl_val (v := .int .i64 p0) (fun ρ e => ex_load1 ty3 (e _ _ rfl) (rowcell (O391.row 1 rfl) (intCs_get hp0))) rfl rfl ?_
              refine wl_val (v := .int .i64 p0) (fun ρ e => ex_assign (e _ _ rfl)) rfl rfl ?_
              refine wl_nil ?_
              refine xw_next K395 ?_
              refine cw_block ?_
              refine cw_loop (ι := Int × Nat) (fun q => [(5, .int .i64 (n : Int)), (6, .slice (some ⟨g5, 0, none⟩) n n), (8, .int .i64 (d : Int)), (9, .int .i64 ((2 : Nat) : Int)), (10, .slice (some ⟨g307, 0, none⟩) T2.size c302), (13, .slice (some ⟨g328, 0, none⟩) T2.size c323), (16, .int .i64 (i : Int)), (17, .pointer (some ⟨g383, 0, none⟩)), (114, .slice (some ⟨g307, 0, none⟩) T2.size c302), (115, .int .i64 ((T2.size : Nat) : Int)), (48, .int .i64 ((2 : Nat) : Int)), (116, .int .i64 (i : Int)), (18, .int .i64 (q.2 : Int)), (19, .int .i64 q.1)]) (fun q X => (UpTo (post T2 0) i q.1 q.2) ∧ Own Z0 W X [.blk g383 38 #[.int .i64 (a : Int), .int .i64 (b : Int), .int .i64 0], .row (.slice (some ⟨g328, 0, none⟩) T2.size c323) 3 1 T2.size (intCs (parsOf (post T2 0))), .row (.slice (some ⟨g307, 0, none⟩) T2.size c302) 38 3 T2.size (ncells (post T2 0)), .blk g5 3 ((intCs (ordL n y n)).toArray)]) (fun q => (chainOf (post T2 0) i).length - q.2) (p0, 0) ⟨hu0, O391⟩ ⟨rfl, rfl, rfl, rfl, rfl, rfl, rfl, rfl, rfl, rfl, rfl, rfl, rfl, rfl, trivial⟩ (fun q w396 hJ F397 K398 => ?_)
              obtain ⟨k, c⟩ := q
              obtain ⟨hup, O399⟩ := hJ
              dsimp only at hup O399 ⊢
              rcases hup with ⟨rfl, hup⟩ | ⟨m, rfl, hm, hup⟩
              · skip
                refine cw_seq (fun FK400 K400 => ?_)
                refine cw_seq (fun FK401 K401 => ?_)
                refine cw_region ?_
                refine wl_val (v := .int .i64 (-1)) (fun ρ e => ex_move (e _ _ rfl)) rfl rfl ?_
                refine wl_val (v := .bool false) (fun ρ e => ex_cmp (u := (-1)) (v := (-1)) (e _ _ rfl) (e _ _ rfl) (neq0 rfl)) rfl rfl ?_
                refine wl_nil ?_
                refine xw_next K401 ?_
                refine cw_false rfl ?_
                refine cw_exit ?_
                refine xw_past (by intro h; cases h) ?_
                refine xw_past (by intro h; cases h) ?_
                refine xw_here ?_
                refine xw_next K394 ?_
                refine cw_seq (fun FK402 K402 => ?_)
                refine cw_region ?_
                refine wl_val (v := .int .i64 ((2 : Nat) : Int)) (fun ρ e => ex_move (e _ _ rfl)) rfl rfl ?_
                refine wl_val (v := .bool false) (fun ρ e => ex_cmp (u := ((2 : Nat) : Int)) (v := 0) (e _ _ rfl) (e _ _ rfl) (eql0 (by omega))) rfl rfl ?_
                refine wl_val (v := .bool false) (fun ρ e => ex_move (e _ _ rfl)) rfl rfl ?_
                refine wl_skip rfl rfl ?_
                refine wl_skip rfl rfl ?_
                refine wl_skip rfl rfl ?_
                refine wl_val (v := .bool false) (fun ρ e => ex_pick0 (e _ _ rfl) (e _ _ rfl)) rfl rfl ?_
                refine wl_val (v := .bool false) (fun ρ e => ex_move (e _ _ rfl)) rfl rfl ?_
                refine wl_skip rfl rfl ?_
                refine wl_skip rfl rfl ?_
                refine wl_skip rfl rfl ?_
                refine wl_val (v := .bool false) (fun ρ e => ex_pick0 (e _ _ rfl) (e _ _ rfl)) rfl rfl ?_
                refine wl_val (v := .bool false) (fun ρ e => ex_move (e _ _ rfl)) rfl rfl ?_
                refine wl_val (v := .int .i64 ((2 : Nat) : Int)) (fun ρ e => ex_move (e _ _ rfl)) rfl rfl ?_
                refine wl_val (v := .bool false) (fun ρ e => ex_cmp (u := ((2 : Nat) : Int)) (v := 1) (e _ _ rfl) (e _ _ rfl) (eql0 (by omega))) rfl rfl ?_
                refine wl_val (v := .bool false) (fun ρ e => ex_move (e _ _ rfl)) rfl rfl ?_
                refine wl_skip rfl rfl ?_
                refine wl_skip rfl rfl ?_
                refine wl_skip rfl rfl ?_
                refine wl_val (v := .bool false) (fun ρ e => ex_pick0 (e _ _ rfl) (e _ _ rfl)) rfl rfl ?_
                refine wl_val (v := .bool false) (fun ρ e => ex_move (e _ _ rfl)) rfl rfl ?_
                refine wl_skip rfl rfl ?_
                refine wl_skip rfl rfl ?_
                refine wl_skip rfl rfl ?_
                refine wl_skip rfl rfl ?_
                refine wl_skip rfl rfl ?_
                refine wl_skip rfl rfl ?_
                refine wl_skip rfl rfl ?_
                refine wl_val (v := .bool false) (fun ρ e => ex_pick0 (e _ _ rfl) (e _ _ rfl)) rfl rfl ?_
                refine wl_val (v := .bool false) (fun ρ e => ex_pick0 (e _ _ rfl) (e _ _ rfl)) rfl rfl ?_
                refine wl_val (v := .bool false) (fun ρ e => ex_move (e _ _ rfl)) rfl rfl ?_
                refine wl_val (v := .int .i64 ((2 : Nat) : Int)) (fun ρ e => ex_move (e _ _ rfl)) rfl rfl ?_
                refine wl_val (v := .bool true) (fun ρ e => ex_cmp (u := ((2 : Nat) : Int)) (v := 2) (e _ _ rfl) (e _ _ rfl) (eql1 (by omega))) rfl rfl ?_
                refine wl_val (v := .bool true) (fun ρ e => ex_move (e _ _ rfl)) rfl rfl ?_
                refine wl_val (v := .pointer (some ⟨g383, 2, none⟩)) (fun ρ e => ex_field (q := 2) fi38_2 (e _ _ rfl) rfl) rfl rfl ?_
                refine wl_val (v := .int .i64 0) (fun ρ e => ex_load1 ty3 (e _ _ rfl) (O399.cell 0 2 rfl rfl)) rfl rfl ?_
                refine wl_val (v := .bool true) (fun ρ e => ex_cmp (u := 0) (v := 0) (e _ _ rfl) (e _ _ rfl) (eql1 rfl)) rfl rfl ?_
                refine wl_val (v := .bool true) (fun ρ e => ex_pick1 (e _ _ rfl) (e _ _ rfl)) rfl rfl ?_
                refine wl_val (v := .bool true) (fun ρ e => ex_move (e _ _ rfl)) rfl rfl ?_
                refine wl_val (v := .slice (some ⟨g307, 0, none⟩) T2.size c302) (fun ρ e => ex_move (e _ _ rfl)) rfl rfl ?_
                refine wl_val (v := .pointer (some ⟨g383, 1, none⟩)) (fun ρ e => ex_field (q := 1) fi38_1 (e _ _ rfl) rfl) rfl rfl ?_
                refine wl_val (v := .int .i64 (b : Int)) (fun ρ e => ex_load1 ty3 (e _ _ rfl) (O399.cell 0 1 rfl rfl)) rfl rfl ?_
                refine wl_val (v := .pointer (some ⟨g307, b * 3, none⟩)) (fun ρ e => ex_idx (q := b * 3) (i := b) el23 (e _ _ rfl) (e _ _ rfl) (by omega) (by omega)) rfl rfl ?_
                refine wl_val (v := .pointer (some ⟨g307, b * 3 + 2, none⟩)) (fun ρ e => ex_field (q := b * 3 + 2) fi38_2 (e _ _ rfl) rfl) rfl rfl ?_
                refine wl_val (v := .int .i64 v2) (fun ρ e => ex_load1 ty3 (e _ _ rfl) (rowcell (O399.row 2 rfl) (ncells_get hx2).2.2)) rfl rfl ?_
                refine wl_val (v := .bool false) (fun ρ e => ex_cmp (u := v2) (v := 0) (e _ _ rfl) (e _ _ rfl) (eql0 (by omega))) rfl rfl ?_
                refine wl_val (v := .bool false) (fun ρ e => ex_pick1 (e _ _ rfl) (e _ _ rfl)) rfl rfl ?_
                refine wl_val (v := .bool false) (fun ρ e => ex_pick0 (e _ _ rfl) (e _ _ rfl)) rfl rfl ?_
                refine wl_nil ?_
                refine xw_next K402 ?_
                refine cw_false rfl ?_
                refine cw_skip ?_
                refine xw_block ?_
                refine xw_next K381 ?_
                refine cw_region ?_
                refine wl_val (v := .int .i64 ((i + 1 : Nat) : Int)) (fun ρ e => ex_arith (k := .i64) (u := (i : Int)) (v := 1) (e _ _ rfl) (e _ _ rfl) (congrArg some ((congrArg _ (show _ = ((i + 1 : Nat) : Int) by omega)).trans (wrap_in (by omega) (by omega))))) rfl rfl ?_
                refine wl_val (v := .int .i64 ((i + 1 : Nat) : Int)) (fun ρ e => ex_move (e _ _ rfl)) rfl rfl ?_
                refine wl_nil ?_
                refine xw_round K350 (i + 1) (by show T2.size - (i + 1) < T2.size - i; omega) ⟨(by show i + 1 ≤ T2.size; omega), (O399.re [1, 2, 3] rfl : Own Z0 W w396 [.row (.slice (some ⟨g328, 0, none⟩) T2.size c323) 3 1 T2.size (intCs (parsOf (post T2 0))), .row (.slice (some ⟨g307, 0, none⟩) T2.size c302) 38 3 T2.size (ncells (post T2 0)), .blk g5 3 ((intCs (ordL n y n)).toArray)])⟩ ⟨rfl, rfl, rfl, rfl, rfl, rfl, rfl, rfl, rfl, rfl, trivial⟩
              · skip
                obtain ⟨p1, hp1, hu1, hlt⟩ := up_step hV hm hup
                have hm2 : m < T2.size := by rw [← hpl]; exact hm
                have hcl := chain_bound (post T2 0) i
                refine cw_seq (fun FK403 K403 => ?_)
                refine cw_seq (fun FK404 K404 => ?_)
                refine cw_region ?_
                refine wl_val (v := .int .i64 (m : Int)) (fun ρ e => ex_move (e _ _ rfl)) rfl rfl ?_
                refine wl_val (v := .bool true) (fun ρ e => ex_cmp (u := (m : Int)) (v := (-1)) (e _ _ rfl) (e _ _ rfl) (neq1 (by omega))) rfl rfl ?_
                refine wl_nil ?_
                refine xw_next K404 ?_
                refine cw_true rfl ?_
                refine cw_skip ?_
                refine xw_next K403 ?_
                refine cw_seq (fun FK405 K405 => ?_)
                refine cw_block ?_
                refine cw_region ?_
                refine wl_val (v := .int .i64 (c : Int)) (fun ρ e => ex_move (e _ _ rfl)) rfl rfl ?_
                refine wl_val (v := .int .i64 ((c + 1 : Nat) : Int)) (fun ρ e => ex_arith (k := .i64) (u := (c : Int)) (v := 1) (e _ _ rfl) (e _ _ rfl) (congrArg some ((congrArg _ (show _ = ((c + 1 : Nat) : Int) by omega)).trans (wrap_in (by omega) (by omega))))) rfl rfl ?_
                refine wl_val (v := .int .i64 ((c + 1 : Nat) : Int)) (fun ρ e => ex_assign (e _ _ rfl)) rfl rfl ?_
                refine wl_nil ?_
                refine xw_block ?_
                refine xw_next K405 ?_
                refine cw_region ?_
                refine wl_val (v := .slice (some ⟨g328, 0, none⟩) T2.size c323) (fun ρ e => ex_move (e _ _ rfl)) rfl rfl ?_
                refine wl_val (v := .int .i64 (m : Int)) (fun ρ e => ex_move (e _ _ rfl)) rfl rfl ?_
                refine wl_val (v := .pointer (some ⟨g328, m, none⟩)) (fun ρ e => ex_idx (q := m) (i := m) el36 (e _ _ rfl) (e _ _ rfl) (by omega) (by omega)) rfl rfl ?_
                refine wl_val (v := .int .i64 p1) (fun ρ e => ex_load1 ty3 (e _ _ rfl) (rowcell (O399.row 1 rfl) (intCs_get hp1))) rfl rfl ?_
                refine wl_val (v := .int .i64 p1) (fun ρ e => ex_assign (e _ _ rfl)) rfl rfl ?_
                refine wl_nil ?_
                refine xw_round K398 (p1, (c + 1)) (by show (chainOf (post T2 0) i).length - (c + 1) < (chainOf (post T2 0) i).length - c; omega) ⟨hu1, O399⟩ ⟨rfl, rfl, rfl, rfl, rfl, rfl, rfl, rfl, rfl, rfl, rfl, rfl, rfl, rfl, trivial⟩
          · skip
            refine cw_seq (fun FK406 K406 => ?_)
            refine cw_region ?_
            refine wl_val (v := .bool false) (fun ρ e => ex_cmp (u := (i : Int)) (v := ((T2.size : Nat) : Int)) (e _ _ rfl) (e _ _ rfl) (lss0 (by omega))) rfl rfl ?_
            refine wl_nil ?_
            refine xw_next K406 ?_
            refine cw_seq (fun FK407 K407 => ?_)
            refine cw_false rfl ?_
            refine cw_exit ?_
            refine xw_past (by intro h; cases h) ?_
            refine xw_past (by intro h; cases h) ?_
            refine xw_here ?_
            refine xw_block ?_
            refine xw_next K287 ?_
            refine cw_region ?_
            refine wl_val (v := .int .i64 ((2 + 1 : Nat) : Int)) (fun ρ e => ex_arith (k := .i64) (u := ((2 : Nat) : Int)) (v := 1) (e _ _ rfl) (e _ _ rfl) (congrArg some ((congrArg _ (show _ = ((2 + 1 : Nat) : Int) by omega)).trans (wrap_in (by omega) (by omega))))) rfl rfl ?_
            refine wl_val (v := .int .i64 ((2 + 1 : Nat) : Int)) (fun ρ e => ex_move (e _ _ rfl)) rfl rfl ?_
            refine wl_nil ?_
            refine xw_round K44 (2 + 1) (by show 3 - (2 + 1) < 3 - 2; omega) ⟨(by show 2 + 1 ≤ 3; omega), (O351.re [2] rfl : Own Z0 W w348 [.blk g5 3 ((intCs (ordL n y n)).toArray)])⟩ ⟨rfl, rfl, rfl, rfl, trivial⟩
      · skip
        refine cw_seq (fun FK408 K408 => ?_)
        refine cw_region ?_
        refine wl_val (v := .bool false) (fun ρ e => ex_cmp (u := ((3 : Nat) : Int)) (v := 3) (e _ _ rfl) (e _ _ rfl) (lss0 (by omega))) rfl rfl ?_
        refine wl_nil ?_
        refine xw_next K408 ?_
        refine cw_seq (fun FK409 K409 => ?_)
        refine cw_false rfl ?_
        refine cw_exit ?_
        refine xw_past (by intro h; cases h) ?_
        refine xw_past (by intro h; cases h) ?_
        refine xw_here ?_
        refine xw_next K40 ?_
        refine cw_seq (fun FK410 K410 => ?_)
        refine cw_region ?_
        refine wl_call (args := []) in_14 rfl rfl rfl ?_
        refine (works_ (tab.below (Nat.le_refl _) O45.old)).mono ?_
        rintro _ w411 ⟨rfl, hb412⟩
        have O413 : Own Z0 W w411 [.blk g5 3 ((intCs (ordL n y n)).toArray)] := O45.below hb412
        refine ⟨_, rfl, ?_⟩
        refine wl_val (v := .bool true) (fun ρ e => ex_assign (e _ _ rfl)) rfl rfl ?_
        refine wl_nil ?_
        refine xw_next K410 ?_
        refine cw_ret ?_
        refine xw_ret (v := .bool true) (fun T hT => res1 rfl T _ (hT 4 _ rfl)) ?_
        exact ⟨rfl, O413.old⟩

end Go.Proofs.YtpeoodkepjhhiaaDoor
