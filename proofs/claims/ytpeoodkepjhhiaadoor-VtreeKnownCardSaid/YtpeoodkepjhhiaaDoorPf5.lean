/-
  Lemmas and contracts, joined: VlKnown.
-/
import Derived.Test.YtpeoodkepjhhiaaDoorPf4
namespace Go.Proofs.YtpeoodkepjhhiaaDoor
open Go Go.RowKit
theorem kstr {i : Nat} (hi : i < 18) : ∃ s : ByteArray, (#[.string (⟨#[]⟩), .string (⟨#[40, 49, 32, 49, 41]⟩), .string (⟨#[40, 49, 32, 32, 50, 41]⟩), .string (⟨#[40, 48, 49, 32, 50, 41]⟩), .string (⟨#[49, 50, 57]⟩), .string (⟨#[48]⟩), .string (⟨#[40, 49, 32, 50, 41, 32]⟩), .string (⟨#[32, 49]⟩), .string (⟨#[40, 49, 41]⟩), .string (⟨#[40, 41]⟩), .string (⟨#[40, 49, 32, 50, 32, 51, 41]⟩), .string (⟨#[49, 32, 50]⟩), .string (⟨#[40, 40, 49, 32, 50, 41]⟩), .string (⟨#[40, 49, 32, 50, 41, 41]⟩), .string (⟨#[40, 49, 44, 50, 41]⟩), .string (⟨#[40, 49, 32, 50, 41, 51]⟩), .string (⟨#[40, 49, 40, 50, 32, 51, 41, 41]⟩), .string (⟨#[45, 49]⟩)] : Array Value)[i]? = some (.string s) ∧ parseOf s.data.toList = ((([] : List VN)), 5) := by
  rcases (show i = 0 ∨ i = 1 ∨ i = 2 ∨ i = 3 ∨ i = 4 ∨ i = 5 ∨ i = 6 ∨ i = 7 ∨ i = 8 ∨ i = 9 ∨ i = 10 ∨ i = 11 ∨ i = 12 ∨ i = 13 ∨ i = 14 ∨ i = 15 ∨ i = 16 ∨ i = 17 by omega) with rfl | rfl | rfl | rfl | rfl | rfl | rfl | rfl | rfl | rfl | rfl | rfl | rfl | rfl | rfl | rfl | rfl | rfl
  · exact ⟨⟨#[]⟩, rfl, by kernel_rfl⟩
  · exact ⟨⟨#[40, 49, 32, 49, 41]⟩, rfl, by kernel_rfl⟩
  · exact ⟨⟨#[40, 49, 32, 32, 50, 41]⟩, rfl, by kernel_rfl⟩
  · exact ⟨⟨#[40, 48, 49, 32, 50, 41]⟩, rfl, by kernel_rfl⟩
  · exact ⟨⟨#[49, 50, 57]⟩, rfl, by kernel_rfl⟩
  · exact ⟨⟨#[48]⟩, rfl, by kernel_rfl⟩
  · exact ⟨⟨#[40, 49, 32, 50, 41, 32]⟩, rfl, by kernel_rfl⟩
  · exact ⟨⟨#[32, 49]⟩, rfl, by kernel_rfl⟩
  · exact ⟨⟨#[40, 49, 41]⟩, rfl, by kernel_rfl⟩
  · exact ⟨⟨#[40, 41]⟩, rfl, by kernel_rfl⟩
  · exact ⟨⟨#[40, 49, 32, 50, 32, 51, 41]⟩, rfl, by kernel_rfl⟩
  · exact ⟨⟨#[49, 32, 50]⟩, rfl, by kernel_rfl⟩
  · exact ⟨⟨#[40, 40, 49, 32, 50, 41]⟩, rfl, by kernel_rfl⟩
  · exact ⟨⟨#[40, 49, 32, 50, 41, 41]⟩, rfl, by kernel_rfl⟩
  · exact ⟨⟨#[40, 49, 44, 50, 41]⟩, rfl, by kernel_rfl⟩
  · exact ⟨⟨#[40, 49, 32, 50, 41, 51]⟩, rfl, by kernel_rfl⟩
  · exact ⟨⟨#[40, 49, 40, 50, 32, 51, 41, 41]⟩, rfl, by kernel_rfl⟩
  · exact ⟨⟨#[45, 49]⟩, rfl, by kernel_rfl⟩
theorem kp5 : parseOf (⟨#[40, 40, 51, 32, 49, 41, 32, 50, 41]⟩ : ByteArray).data.toList = (T5, 0) := w5
theorem kr : movOf T5 1 2 = (([] : List VN), 1) := by kernel_rfl
theorem kl : movOf T5 2 4 = (([] : List VN), 1) := by kernel_rfl
theorem kb : makeOf 3 [3, 1, 2] = (T5, 0) := by kernel_rfl
theorem ks : shownOf T5 0 = ⟨#[40, 40, 51, 32, 49, 41, 32, 50, 41]⟩ := by kernel_rfl
theorem km1 : meetOf T5 0 1 = 2 := by kernel_rfl
theorem km2 : meetOf T5 2 0 = 2 := by kernel_rfl
theorem km3 : meetOf T5 0 5 = -1 := by kernel_rfl
theorem vtreeKnown_ok {W : World} (tab : Tab W) : Calls Tryd.prog 13 #[] W fun e w' => e = .returned (.bool true) ∧ Below W.heap.size W w' := by
  have O0 : Own Z0 W W [] := Own.start W
  refine sx_enter (args := []) Tryd.func13 rfl rfl (by simp) ?_
  refine cw_seq (fun FK1 K1 => ?_)
  refine cw_region ?_
  refine wl_val (v := .bool false) (fun ρ e => ex_assign (e _ _ rfl)) rfl rfl ?_
  refine wl_nil ?_
  refine xw_next K1 ?_
  refine cw_seq (fun FK2 K2 => ?_)
  refine cw_seq (fun FK3 K3 => ?_)
  refine cw_region ?_
  obtain ⟨g4, w5, r6, O7, hg8, hs9⟩ := own_slice O0 el62 ze9 18 [(0, .string (⟨#[]⟩)), (1, .string (⟨#[40, 49, 32, 49, 41]⟩)), (2, .string (⟨#[40, 49, 32, 32, 50, 41]⟩)), (3, .string (⟨#[40, 48, 49, 32, 50, 41]⟩)), (4, .string (⟨#[49, 50, 57]⟩)), (5, .string (⟨#[48]⟩)), (6, .string (⟨#[40, 49, 32, 50, 41, 32]⟩)), (7, .string (⟨#[32, 49]⟩)), (8, .string (⟨#[40, 49, 41]⟩)), (9, .string (⟨#[40, 41]⟩)), (10, .string (⟨#[40, 49, 32, 50, 32, 51, 41]⟩)), (11, .string (⟨#[49, 32, 50]⟩)), (12, .string (⟨#[40, 40, 49, 32, 50, 41]⟩)), (13, .string (⟨#[40, 49, 32, 50, 41, 41]⟩)), (14, .string (⟨#[40, 49, 44, 50, 41]⟩)), (15, .string (⟨#[40, 49, 32, 50, 41, 51]⟩)), (16, .string (⟨#[40, 49, 40, 50, 32, 51, 41, 41]⟩)), (17, .string (⟨#[45, 49]⟩))] (cs := #[.string (⟨#[]⟩), .string (⟨#[40, 49, 32, 49, 41]⟩), .string (⟨#[40, 49, 32, 32, 50, 41]⟩), .string (⟨#[40, 48, 49, 32, 50, 41]⟩), .string (⟨#[49, 50, 57]⟩), .string (⟨#[48]⟩), .string (⟨#[40, 49, 32, 50, 41, 32]⟩), .string (⟨#[32, 49]⟩), .string (⟨#[40, 49, 41]⟩), .string (⟨#[40, 41]⟩), .string (⟨#[40, 49, 32, 50, 32, 51, 41]⟩), .string (⟨#[49, 32, 50]⟩), .string (⟨#[40, 40, 49, 32, 50, 41]⟩), .string (⟨#[40, 49, 32, 50, 41, 41]⟩), .string (⟨#[40, 49, 44, 50, 41]⟩), .string (⟨#[40, 49, 32, 50, 41, 51]⟩), .string (⟨#[40, 49, 40, 50, 32, 51, 41, 41]⟩), .string (⟨#[45, 49]⟩)]) (by decide) (by kernel_rfl)
  refine wl_val (v := .slice (some ⟨g4, 0, none⟩) 18 18) (fun ρ e => r6 ρ _ _ _ _ _ _ (e.parts rfl)) rfl rfl ?_
  refine wl_val (v := .int .i64 (18 : Int)) (fun ρ e => ex_len el62 (e _ _ rfl)) rfl rfl ?_
  refine wl_val (v := .int .i64 0) (fun ρ e => ex_move (e _ _ rfl)) rfl rfl ?_
  refine wl_nil ?_
  refine xw_next K3 ?_
  refine cw_block ?_
  have O10 : Own Z0 W w5 [.blk g4 9 #[.string (⟨#[]⟩), .string (⟨#[40, 49, 32, 49, 41]⟩), .string (⟨#[40, 49, 32, 32, 50, 41]⟩), .string (⟨#[40, 48, 49, 32, 50, 41]⟩), .string (⟨#[49, 50, 57]⟩), .string (⟨#[48]⟩), .string (⟨#[40, 49, 32, 50, 41, 32]⟩), .string (⟨#[32, 49]⟩), .string (⟨#[40, 49, 41]⟩), .string (⟨#[40, 41]⟩), .string (⟨#[40, 49, 32, 50, 32, 51, 41]⟩), .string (⟨#[49, 32, 50]⟩), .string (⟨#[40, 40, 49, 32, 50, 41]⟩), .string (⟨#[40, 49, 32, 50, 41, 41]⟩), .string (⟨#[40, 49, 44, 50, 41]⟩), .string (⟨#[40, 49, 32, 50, 41, 51]⟩), .string (⟨#[40, 49, 40, 50, 32, 51, 41, 41]⟩), .string (⟨#[45, 49]⟩)]] := O7
  refine cw_loop (ι := Nat) (fun q => [(24, .slice (some ⟨g4, 0, none⟩) 18 18), (25, .int .i64 (18 : Int)), (26, .int .i64 (q : Int))]) (fun q X => (q ≤ 18) ∧ Own Z0 W X [.blk g4 9 #[.string (⟨#[]⟩), .string (⟨#[40, 49, 32, 49, 41]⟩), .string (⟨#[40, 49, 32, 32, 50, 41]⟩), .string (⟨#[40, 48, 49, 32, 50, 41]⟩), .string (⟨#[49, 50, 57]⟩), .string (⟨#[48]⟩), .string (⟨#[40, 49, 32, 50, 41, 32]⟩), .string (⟨#[32, 49]⟩), .string (⟨#[40, 49, 41]⟩), .string (⟨#[40, 41]⟩), .string (⟨#[40, 49, 32, 50, 32, 51, 41]⟩), .string (⟨#[49, 32, 50]⟩), .string (⟨#[40, 40, 49, 32, 50, 41]⟩), .string (⟨#[40, 49, 32, 50, 41, 41]⟩), .string (⟨#[40, 49, 44, 50, 41]⟩), .string (⟨#[40, 49, 32, 50, 41, 51]⟩), .string (⟨#[40, 49, 40, 50, 32, 51, 41, 41]⟩), .string (⟨#[45, 49]⟩)]]) (fun q => 18 - q) 0 ⟨Nat.zero_le _, O10⟩ ⟨rfl, rfl, rfl, trivial⟩ (fun q w11 hJ F12 K13 => ?_)
  obtain ⟨i, rfl⟩ : ∃ x, x = q := ⟨_, rfl⟩
  obtain ⟨hi0, O14⟩ := hJ
  try dsimp only at hi0 O14 ⊢
  by_cases hi : i < 18
  · skip
    obtain ⟨sv, hsv, hp⟩ := kstr hi
    refine cw_seq (fun FK15 K15 => ?_)
    refine cw_region ?_
    refine wl_val (v := .bool true) (fun ρ e => ex_cmp (u := (i : Int)) (v := (18 : Int)) (e _ _ rfl) (e _ _ rfl) (lss1 (by omega))) rfl rfl ?_
    refine wl_nil ?_
    refine xw_next K15 ?_
    refine cw_seq (fun FK16 K16 => ?_)
    refine cw_true rfl ?_
    refine cw_skip ?_
    refine xw_next K16 ?_
    refine cw_seq (fun FK17 K17 => ?_)
    refine cw_block ?_
    refine cw_seq (fun FK18 K18 => ?_)
    refine cw_region ?_
    refine wl_val (v := .pointer (some ⟨g4, i, none⟩)) (fun ρ e => ex_idx (q := i) (i := i) el62 (e _ _ rfl) (e _ _ rfl) (by omega) (by omega)) rfl rfl ?_
    refine wl_val (v := .string sv) (fun ρ e => ex_load1 ty9 (e _ _ rfl) (((O14.blk 0 rfl).cell _).trans hsv)) rfl rfl ?_
    refine wl_val (v := .string sv) (fun ρ e => ex_assign (e _ _ rfl)) rfl rfl ?_
    refine wl_nil ?_
    refine xw_next K18 ?_
    refine cw_seq (fun FK19 K19 => ?_)
    refine cw_region ?_
    refine wl_val (v := .string sv) (fun ρ e => ex_move (e _ _ rfl)) rfl rfl ?_
    refine wl_call (args := [.string sv]) in_17 rfl rfl rfl ?_
    have hc25 := parse_ sv (tab.below (Nat.le_refl _) O14.old)
    rw [hp] at hc25
    refine hc25.mono ?_
    rintro _ w22 ⟨A20, c21, rfl, h23⟩
    have O24 := O14.join1 h23 trivial
    refine ⟨_, rfl, ?_⟩
    refine wl_val (v := .tuple #[.slice A20 (([] : List VN).length) c21, .int .i64 5]) (fun ρ e => ex_move (e _ _ rfl)) rfl rfl ?_
    refine wl_val (v := .slice A20 (([] : List VN).length) c21) (fun ρ e => ex_extract (vs := #[.slice A20 (([] : List VN).length) c21, .int .i64 5]) (e _ _ rfl) rfl) rfl rfl ?_
    refine wl_val (v := .int .i64 5) (fun ρ e => ex_extract (vs := #[.slice A20 (([] : List VN).length) c21, .int .i64 5]) (e _ _ rfl) rfl) rfl rfl ?_
    refine wl_val (v := .slice A20 (([] : List VN).length) c21) (fun ρ e => ex_assign (e _ _ rfl)) rfl rfl ?_
    refine wl_val (v := .int .i64 5) (fun ρ e => ex_assign (e _ _ rfl)) rfl rfl ?_
    refine wl_nil ?_
    refine xw_next K19 ?_
    refine cw_seq (fun FK26 K26 => ?_)
    refine cw_region ?_
    refine wl_val (v := .int .i64 5) (fun ρ e => ex_move (e _ _ rfl)) rfl rfl ?_
    refine wl_val (v := .bool false) (fun ρ e => ex_cmp (u := 5) (v := 5) (e _ _ rfl) (e _ _ rfl) (neq0 rfl)) rfl rfl ?_
    refine wl_val (v := .bool false) (fun ρ e => ex_move (e _ _ rfl)) rfl rfl ?_
    refine wl_val (v := .slice A20 (([] : List VN).length) c21) (fun ρ e => ex_move (e _ _ rfl)) rfl rfl ?_
    refine wl_val (v := .int .i64 ((([] : List VN).length : Nat) : Int)) (fun ρ e => ex_len el23 (e _ _ rfl)) rfl rfl ?_
    refine wl_val (v := .bool false) (fun ρ e => ex_cmp (u := ((([] : List VN).length : Nat) : Int)) (v := 0) (e _ _ rfl) (e _ _ rfl) (neq0 (by decide))) rfl rfl ?_
    refine wl_val (v := .bool false) (fun ρ e => ex_pick0 (e _ _ rfl) (e _ _ rfl)) rfl rfl ?_
    refine wl_nil ?_
    refine xw_next K26 ?_
    refine cw_false rfl ?_
    refine cw_skip ?_
    refine xw_block ?_
    refine xw_next K17 ?_
    refine cw_region ?_
    refine wl_val (v := .int .i64 ((i + 1 : Nat) : Int)) (fun ρ e => ex_arith (k := .i64) (u := (i : Int)) (v := 1) (e _ _ rfl) (e _ _ rfl) (congrArg some ((congrArg _ (by omega)).trans (wrap_in (u := ((i + 1 : Nat) : Int)) (by omega) (by omega))))) rfl rfl ?_
    refine wl_val (v := .int .i64 ((i + 1 : Nat) : Int)) (fun ρ e => ex_move (e _ _ rfl)) rfl rfl ?_
    refine wl_nil ?_
    refine xw_round K13 (i + 1) (by show 18 - (i + 1) < 18 - i; omega) ⟨(by show i + 1 ≤ 18; omega), (O24.re [1] rfl : Own Z0 W w22 [.blk g4 9 #[.string (⟨#[]⟩), .string (⟨#[40, 49, 32, 49, 41]⟩), .string (⟨#[40, 49, 32, 32, 50, 41]⟩), .string (⟨#[40, 48, 49, 32, 50, 41]⟩), .string (⟨#[49, 50, 57]⟩), .string (⟨#[48]⟩), .string (⟨#[40, 49, 32, 50, 41, 32]⟩), .string (⟨#[32, 49]⟩), .string (⟨#[40, 49, 41]⟩), .string (⟨#[40, 41]⟩), .string (⟨#[40, 49, 32, 50, 32, 51, 41]⟩), .string (⟨#[49, 32, 50]⟩), .string (⟨#[40, 40, 49, 32, 50, 41]⟩), .string (⟨#[40, 49, 32, 50, 41, 41]⟩), .string (⟨#[40, 49, 44, 50, 41]⟩), .string (⟨#[40, 49, 32, 50, 41, 51]⟩), .string (⟨#[40, 49, 40, 50, 32, 51, 41, 41]⟩), .string (⟨#[45, 49]⟩)]])⟩ ⟨rfl, rfl, rfl, trivial⟩
  · skip
    refine cw_seq (fun FK27 K27 => ?_)
    refine cw_region ?_
    refine wl_val (v := .bool false) (fun ρ e => ex_cmp (u := (i : Int)) (v := (18 : Int)) (e _ _ rfl) (e _ _ rfl) (lss0 (by omega))) rfl rfl ?_
    refine wl_nil ?_
    refine xw_next K27 ?_
    refine cw_seq (fun FK28 K28 => ?_)
    refine cw_false rfl ?_
    refine cw_exit ?_
    refine xw_past (by intro h; cases h) ?_
    refine xw_past (by intro h; cases h) ?_
    refine xw_here ?_
    refine xw_next K2 ?_
    refine cw_seq (fun FK29 K29 => ?_)
    refine cw_seq (fun FK30 K30 => ?_)
    refine cw_region ?_
    refine wl_val (v := .agg #[.int .i64 (-1), .int .i64 (-1), .int .i64 0]) (fun ρ e => ex_build (cells := #[.int .i64 (-1), .int .i64 (-1), .int .i64 0]) st38 (e.parts rfl) rfl) rfl rfl ?_
    obtain ⟨g31, w32, r33, O34, hg35, hs36⟩ := own_slice O14 el23 ze38 1 [(0, .agg #[.int .i64 (-1), .int .i64 (-1), .int .i64 0])] (cs := #[.int .i64 (-1), .int .i64 (-1), .int .i64 0]) (by decide) (by kernel_rfl)
    refine wl_val (v := .slice (some ⟨g31, 0, none⟩) 1 1) (fun ρ e => r33 ρ _ _ _ _ _ _ (e.parts rfl)) rfl rfl ?_
    refine wl_val (v := .agg #[.int .i64 (-1), .int .i64 (-1), .int .i64 129]) (fun ρ e => ex_build (cells := #[.int .i64 (-1), .int .i64 (-1), .int .i64 129]) st38 (e.parts rfl) rfl) rfl rfl ?_
    obtain ⟨g37, w38, r39, O40, hg41, hs42⟩ := own_slice O34 el23 ze38 1 [(0, .agg #[.int .i64 (-1), .int .i64 (-1), .int .i64 129])] (cs := #[.int .i64 (-1), .int .i64 (-1), .int .i64 129]) (by decide) (by kernel_rfl)
    refine wl_val (v := .slice (some ⟨g37, 0, none⟩) 1 1) (fun ρ e => r39 ρ _ _ _ _ _ _ (e.parts rfl)) rfl rfl ?_
    refine wl_val (v := .agg #[.int .i64 (-1), .int .i64 (-1), .int .i64 1]) (fun ρ e => ex_build (cells := #[.int .i64 (-1), .int .i64 (-1), .int .i64 1]) st38 (e.parts rfl) rfl) rfl rfl ?_
    refine wl_val (v := .agg #[.int .i64 (-1), .int .i64 (-1), .int .i64 2]) (fun ρ e => ex_build (cells := #[.int .i64 (-1), .int .i64 (-1), .int .i64 2]) st38 (e.parts rfl) rfl) rfl rfl ?_
    obtain ⟨g43, w44, r45, O46, hg47, hs48⟩ := own_slice O40 el23 ze38 2 [(0, .agg #[.int .i64 (-1), .int .i64 (-1), .int .i64 1]), (1, .agg #[.int .i64 (-1), .int .i64 (-1), .int .i64 2])] (cs := #[.int .i64 (-1), .int .i64 (-1), .int .i64 1, .int .i64 (-1), .int .i64 (-1), .int .i64 2]) (by decide) (by kernel_rfl)
    refine wl_val (v := .slice (some ⟨g43, 0, none⟩) 2 2) (fun ρ e => r45 ρ _ _ _ _ _ _ (e.parts rfl)) rfl rfl ?_
    refine wl_val (v := .agg #[.int .i64 (-1), .int .i64 (-1), .int .i64 1]) (fun ρ e => ex_build (cells := #[.int .i64 (-1), .int .i64 (-1), .int .i64 1]) st38 (e.parts rfl) rfl) rfl rfl ?_
    refine wl_val (v := .agg #[.int .i64 0, .int .i64 0, .int .i64 0]) (fun ρ e => ex_build (cells := #[.int .i64 0, .int .i64 0, .int .i64 0]) st38 (e.parts rfl) rfl) rfl rfl ?_
    obtain ⟨g49, w50, r51, O52, hg53, hs54⟩ := own_slice O46 el23 ze38 2 [(0, .agg #[.int .i64 (-1), .int .i64 (-1), .int .i64 1]), (1, .agg #[.int .i64 0, .int .i64 0, .int .i64 0])] (cs := #[.int .i64 (-1), .int .i64 (-1), .int .i64 1, .int .i64 0, .int .i64 0, .int .i64 0]) (by decide) (by kernel_rfl)
    refine wl_val (v := .slice (some ⟨g49, 0, none⟩) 2 2) (fun ρ e => r51 ρ _ _ _ _ _ _ (e.parts rfl)) rfl rfl ?_
    refine wl_val (v := .agg #[.int .i64 (-1), .int .i64 (-1), .int .i64 1]) (fun ρ e => ex_build (cells := #[.int .i64 (-1), .int .i64 (-1), .int .i64 1]) st38 (e.parts rfl) rfl) rfl rfl ?_
    refine wl_val (v := .agg #[.int .i64 (-1), .int .i64 (-1), .int .i64 2]) (fun ρ e => ex_build (cells := #[.int .i64 (-1), .int .i64 (-1), .int .i64 2]) st38 (e.parts rfl) rfl) rfl rfl ?_
    refine wl_val (v := .agg #[.int .i64 0, .int .i64 1, .int .i64 3]) (fun ρ e => ex_build (cells := #[.int .i64 0, .int .i64 1, .int .i64 3]) st38 (e.parts rfl) rfl) rfl rfl ?_
    obtain ⟨g55, w56, r57, O58, hg59, hs60⟩ := own_slice O52 el23 ze38 3 [(0, .agg #[.int .i64 (-1), .int .i64 (-1), .int .i64 1]), (1, .agg #[.int .i64 (-1), .int .i64 (-1), .int .i64 2]), (2, .agg #[.int .i64 0, .int .i64 1, .int .i64 3])] (cs := #[.int .i64 (-1), .int .i64 (-1), .int .i64 1, .int .i64 (-1), .int .i64 (-1), .int .i64 2, .int .i64 0, .int .i64 1, .int .i64 3]) (by decide) (by kernel_rfl)
    refine wl_val (v := .slice (some ⟨g55, 0, none⟩) 3 3) (fun ρ e => r57 ρ _ _ _ _ _ _ (e.parts rfl)) rfl rfl ?_
    refine wl_val (v := .agg #[.int .i64 (-1), .int .i64 (-1), .int .i64 1]) (fun ρ e => ex_build (cells := #[.int .i64 (-1), .int .i64 (-1), .int .i64 1]) st38 (e.parts rfl) rfl) rfl rfl ?_
    refine wl_val (v := .agg #[.int .i64 (-1), .int .i64 (-1), .int .i64 1]) (fun ρ e => ex_build (cells := #[.int .i64 (-1), .int .i64 (-1), .int .i64 1]) st38 (e.parts rfl) rfl) rfl rfl ?_
    refine wl_val (v := .agg #[.int .i64 0, .int .i64 1, .int .i64 0]) (fun ρ e => ex_build (cells := #[.int .i64 0, .int .i64 1, .int .i64 0]) st38 (e.parts rfl) rfl) rfl rfl ?_
    obtain ⟨g61, w62, r63, O64, hg65, hs66⟩ := own_slice O58 el23 ze38 3 [(0, .agg #[.int .i64 (-1), .int .i64 (-1), .int .i64 1]), (1, .agg #[.int .i64 (-1), .int .i64 (-1), .int .i64 1]), (2, .agg #[.int .i64 0, .int .i64 1, .int .i64 0])] (cs := #[.int .i64 (-1), .int .i64 (-1), .int .i64 1, .int .i64 (-1), .int .i64 (-1), .int .i64 1, .int .i64 0, .int .i64 1, .int .i64 0]) (by decide) (by kernel_rfl)
    refine wl_val (v := .slice (some ⟨g61, 0, none⟩) 3 3) (fun ρ e => r63 ρ _ _ _ _ _ _ (e.parts rfl)) rfl rfl ?_
    refine wl_val (v := .agg #[.int .i64 (-1), .int .i64 0, .int .i64 1]) (fun ρ e => ex_build (cells := #[.int .i64 (-1), .int .i64 0, .int .i64 1]) st38 (e.parts rfl) rfl) rfl rfl ?_
    obtain ⟨g67, w68, r69, O70, hg71, hs72⟩ := own_slice O64 el23 ze38 1 [(0, .agg #[.int .i64 (-1), .int .i64 0, .int .i64 1])] (cs := #[.int .i64 (-1), .int .i64 0, .int .i64 1]) (by decide) (by kernel_rfl)
    refine wl_val (v := .slice (some ⟨g67, 0, none⟩) 1 1) (fun ρ e => r69 ρ _ _ _ _ _ _ (e.parts rfl)) rfl rfl ?_
    obtain ⟨g73, w74, r75, O76, hg77, hs78⟩ := own_slice O70 el47 ze23 8 [(0, .slice none 0 0), (1, .slice (some ⟨g31, 0, none⟩) 1 1), (2, .slice (some ⟨g37, 0, none⟩) 1 1), (3, .slice (some ⟨g43, 0, none⟩) 2 2), (4, .slice (some ⟨g49, 0, none⟩) 2 2), (5, .slice (some ⟨g55, 0, none⟩) 3 3), (6, .slice (some ⟨g61, 0, none⟩) 3 3), (7, .slice (some ⟨g67, 0, none⟩) 1 1)] (cs := #[.slice none 0 0, .slice (some ⟨g31, 0, none⟩) 1 1, .slice (some ⟨g37, 0, none⟩) 1 1, .slice (some ⟨g43, 0, none⟩) 2 2, .slice (some ⟨g49, 0, none⟩) 2 2, .slice (some ⟨g55, 0, none⟩) 3 3, .slice (some ⟨g61, 0, none⟩) 3 3, .slice (some ⟨g67, 0, none⟩) 1 1]) (by decide) (by kernel_rfl)
    refine wl_val (v := .slice (some ⟨g73, 0, none⟩) 8 8) (fun ρ e => r75 ρ _ _ _ _ _ _ (e.parts rfl)) rfl rfl ?_
    refine wl_val (v := .int .i64 (8 : Int)) (fun ρ e => ex_len el47 (e _ _ rfl)) rfl rfl ?_
    refine wl_val (v := .int .i64 0) (fun ρ e => ex_move (e _ _ rfl)) rfl rfl ?_
    refine wl_nil ?_
    refine xw_next K30 ?_
    refine cw_block ?_
    have O79 : Own Z0 W w74 [.blk g73 23 #[.slice none 0 0, .slice (some ⟨g31, 0, none⟩) 1 1, .slice (some ⟨g37, 0, none⟩) 1 1, .slice (some ⟨g43, 0, none⟩) 2 2, .slice (some ⟨g49, 0, none⟩) 2 2, .slice (some ⟨g55, 0, none⟩) 3 3, .slice (some ⟨g61, 0, none⟩) 3 3, .slice (some ⟨g67, 0, none⟩) 1 1], .blk g67 38 #[.int .i64 (-1), .int .i64 0, .int .i64 1], .blk g61 38 #[.int .i64 (-1), .int .i64 (-1), .int .i64 1, .int .i64 (-1), .int .i64 (-1), .int .i64 1, .int .i64 0, .int .i64 1, .int .i64 0], .blk g55 38 #[.int .i64 (-1), .int .i64 (-1), .int .i64 1, .int .i64 (-1), .int .i64 (-1), .int .i64 2, .int .i64 0, .int .i64 1, .int .i64 3], .blk g49 38 #[.int .i64 (-1), .int .i64 (-1), .int .i64 1, .int .i64 0, .int .i64 0, .int .i64 0], .blk g43 38 #[.int .i64 (-1), .int .i64 (-1), .int .i64 1, .int .i64 (-1), .int .i64 (-1), .int .i64 2], .blk g37 38 #[.int .i64 (-1), .int .i64 (-1), .int .i64 129], .blk g31 38 #[.int .i64 (-1), .int .i64 (-1), .int .i64 0], .blk g4 9 #[.string (⟨#[]⟩), .string (⟨#[40, 49, 32, 49, 41]⟩), .string (⟨#[40, 49, 32, 32, 50, 41]⟩), .string (⟨#[40, 48, 49, 32, 50, 41]⟩), .string (⟨#[49, 50, 57]⟩), .string (⟨#[48]⟩), .string (⟨#[40, 49, 32, 50, 41, 32]⟩), .string (⟨#[32, 49]⟩), .string (⟨#[40, 49, 41]⟩), .string (⟨#[40, 41]⟩), .string (⟨#[40, 49, 32, 50, 32, 51, 41]⟩), .string (⟨#[49, 32, 50]⟩), .string (⟨#[40, 40, 49, 32, 50, 41]⟩), .string (⟨#[40, 49, 32, 50, 41, 41]⟩), .string (⟨#[40, 49, 44, 50, 41]⟩), .string (⟨#[40, 49, 32, 50, 41, 51]⟩), .string (⟨#[40, 49, 40, 50, 32, 51, 41, 41]⟩), .string (⟨#[45, 49]⟩)]] := O76
    have tab81 := (tab.below (Nat.le_refl _) O79.old)
    have hb80 : Below W.heap.size W w74 := O79.old
    have O82 : Own Z0 w74 w74 [] := Own.start w74
    have hlt1 : g73 < w74.heap.size := (O79.blk 0 rfl).lt
    have hel1 : ∀ i, i < 8 → ∃ V ts, w74.cell? ⟨g73, i, none⟩ = some V ∧ NodesD (fun k => k < w74.heap.size) w74 V ts ∧ okT ts = false ∧ chkV ts = 1 ∧ movOf ts 3 0 = (([] : List VN), 1) ∧ meetOf ts 0 0 = -1 := by
      intro i hi
      rcases (show i = 0 ∨ i = 1 ∨ i = 2 ∨ i = 3 ∨ i = 4 ∨ i = 5 ∨ i = 6 ∨ i = 7 by omega) with rfl | rfl | rfl | rfl | rfl | rfl | rfl | rfl
      · exact ⟨.slice none 0 0, [], O79.cell 0 0 rfl rfl, NodesD.nil _ _, by kernel_rfl, by kernel_rfl, by kernel_rfl, by kernel_rfl⟩
      · exact ⟨.slice (some ⟨g31, 0, none⟩) 1 1, [⟨(-1), (-1), 0⟩], O79.cell 0 1 rfl rfl, (NodesD.of_blk (n := 1) (ts := [⟨(-1), (-1), 0⟩]) (O79.blk 7 rfl) rfl (by unfold maxLen; omega)).mono (fun k hk => hk ▸ (O79.blk 7 rfl).lt), by kernel_rfl, by kernel_rfl, by kernel_rfl, by kernel_rfl⟩
      · exact ⟨.slice (some ⟨g37, 0, none⟩) 1 1, [⟨(-1), (-1), 129⟩], O79.cell 0 2 rfl rfl, (NodesD.of_blk (n := 1) (ts := [⟨(-1), (-1), 129⟩]) (O79.blk 6 rfl) rfl (by unfold maxLen; omega)).mono (fun k hk => hk ▸ (O79.blk 6 rfl).lt), by kernel_rfl, by kernel_rfl, by kernel_rfl, by kernel_rfl⟩
      · exact ⟨.slice (some ⟨g43, 0, none⟩) 2 2, [⟨(-1), (-1), 1⟩, ⟨(-1), (-1), 2⟩], O79.cell 0 3 rfl rfl, (NodesD.of_blk (n := 2) (ts := [⟨(-1), (-1), 1⟩, ⟨(-1), (-1), 2⟩]) (O79.blk 5 rfl) rfl (by unfold maxLen; omega)).mono (fun k hk => hk ▸ (O79.blk 5 rfl).lt), by kernel_rfl, by kernel_rfl, by kernel_rfl, by kernel_rfl⟩
      · exact ⟨.slice (some ⟨g49, 0, none⟩) 2 2, [⟨(-1), (-1), 1⟩, ⟨0, 0, 0⟩], O79.cell 0 4 rfl rfl, (NodesD.of_blk (n := 2) (ts := [⟨(-1), (-1), 1⟩, ⟨0, 0, 0⟩]) (O79.blk 4 rfl) rfl (by unfold maxLen; omega)).mono (fun k hk => hk ▸ (O79.blk 4 rfl).lt), by kernel_rfl, by kernel_rfl, by kernel_rfl, by kernel_rfl⟩
      · exact ⟨.slice (some ⟨g55, 0, none⟩) 3 3, [⟨(-1), (-1), 1⟩, ⟨(-1), (-1), 2⟩, ⟨0, 1, 3⟩], O79.cell 0 5 rfl rfl, (NodesD.of_blk (n := 3) (ts := [⟨(-1), (-1), 1⟩, ⟨(-1), (-1), 2⟩, ⟨0, 1, 3⟩]) (O79.blk 3 rfl) rfl (by unfold maxLen; omega)).mono (fun k hk => hk ▸ (O79.blk 3 rfl).lt), by kernel_rfl, by kernel_rfl, by kernel_rfl, by kernel_rfl⟩
      · exact ⟨.slice (some ⟨g61, 0, none⟩) 3 3, [⟨(-1), (-1), 1⟩, ⟨(-1), (-1), 1⟩, ⟨0, 1, 0⟩], O79.cell 0 6 rfl rfl, (NodesD.of_blk (n := 3) (ts := [⟨(-1), (-1), 1⟩, ⟨(-1), (-1), 1⟩, ⟨0, 1, 0⟩]) (O79.blk 2 rfl) rfl (by unfold maxLen; omega)).mono (fun k hk => hk ▸ (O79.blk 2 rfl).lt), by kernel_rfl, by kernel_rfl, by kernel_rfl, by kernel_rfl⟩
      · exact ⟨.slice (some ⟨g67, 0, none⟩) 1 1, [⟨(-1), 0, 1⟩], O79.cell 0 7 rfl rfl, (NodesD.of_blk (n := 1) (ts := [⟨(-1), 0, 1⟩]) (O79.blk 1 rfl) rfl (by unfold maxLen; omega)).mono (fun k hk => hk ▸ (O79.blk 1 rfl).lt), by kernel_rfl, by kernel_rfl, by kernel_rfl, by kernel_rfl⟩
    refine cw_loop (ι := Nat) (fun q => [(63, .slice (some ⟨g73, 0, none⟩) 8 8), (64, .int .i64 (8 : Int)), (65, .int .i64 (q : Int))]) (fun q X => (q ≤ 8) ∧ Own Z0 w74 X []) (fun q => 8 - q) 0 ⟨Nat.zero_le _, O82⟩ ⟨rfl, rfl, rfl, trivial⟩ (fun q w83 hJ F84 K85 => ?_)
    obtain ⟨i, rfl⟩ : ∃ x, x = q := ⟨_, rfl⟩
    obtain ⟨hi0, O86⟩ := hJ
    try dsimp only at hi0 O86 ⊢
    by_cases hi : i < 8
    · skip
      obtain ⟨V, ts, hce, hN, k1, k2, k3, k4⟩ := hel1 i hi
      obtain ⟨A, c, rfl⟩ := hN.slice
      refine cw_seq (fun FK87 K87 => ?_)
      refine cw_region ?_
      refine wl_val (v := .bool true) (fun ρ e => ex_cmp (u := (i : Int)) (v := (8 : Int)) (e _ _ rfl) (e _ _ rfl) (lss1 (by omega))) rfl rfl ?_
      refine wl_nil ?_
      refine xw_next K87 ?_
      refine cw_seq (fun FK88 K88 => ?_)
      refine cw_true rfl ?_
      refine cw_skip ?_
      refine xw_next K88 ?_
      refine cw_seq (fun FK89 K89 => ?_)
      refine cw_block ?_
      refine cw_seq (fun FK90 K90 => ?_)
      refine cw_region ?_
      refine wl_val (v := .pointer (some ⟨g73, i, none⟩)) (fun ρ e => ex_idx (q := i) (i := i) el47 (e _ _ rfl) (e _ _ rfl) (by omega) (by omega)) rfl rfl ?_
      refine wl_val (v := .slice A ts.length c) (fun ρ e => ex_load1 ty23 (e _ _ rfl) (((O86.old).cell (p := ⟨g73, _, none⟩) hlt1).trans hce)) rfl rfl ?_
      refine wl_val (v := .slice A ts.length c) (fun ρ e => ex_assign (e _ _ rfl)) rfl rfl ?_
      refine wl_nil ?_
      refine xw_next K90 ?_
      refine cw_seq (fun FK91 K91 => ?_)
      refine cw_region ?_
      refine wl_val (v := .slice A ts.length c) (fun ρ e => ex_move (e _ _ rfl)) rfl rfl ?_
      refine wl_call (args := [.slice A ts.length c]) in_39 rfl rfl rfl ?_
      have hc92 := print_ (hN.move (fun k hk => (O86.old).block k hk)) (fun k hk => Nat.lt_of_lt_of_le hk (O86.old).size) (tab81.below (Nat.le_refl _) O86.old)
      rw [k2] at hc92
      refine hc92.mono ?_
      rintro _ w93 ⟨rfl, hb94⟩
      have O95 : Own Z0 w74 w93 [] := O86.below hb94
      refine ⟨_, rfl, ?_⟩
      refine wl_val (v := .tuple #[.string (⟨(printOf ts).toArray⟩), .int .i64 1]) (fun ρ e => ex_move (e _ _ rfl)) rfl rfl ?_
      refine wl_val (v := .string (⟨(printOf ts).toArray⟩)) (fun ρ e => ex_extract (vs := #[.string (⟨(printOf ts).toArray⟩), .int .i64 1]) (e _ _ rfl) rfl) rfl rfl ?_
      refine wl_val (v := .int .i64 1) (fun ρ e => ex_extract (vs := #[.string (⟨(printOf ts).toArray⟩), .int .i64 1]) (e _ _ rfl) rfl) rfl rfl ?_
      refine wl_val (v := .string (⟨(printOf ts).toArray⟩)) (fun ρ e => ex_assign (e _ _ rfl)) rfl rfl ?_
      refine wl_val (v := .int .i64 1) (fun ρ e => ex_assign (e _ _ rfl)) rfl rfl ?_
      refine wl_nil ?_
      refine xw_next K91 ?_
      refine cw_seq (fun FK96 K96 => ?_)
      refine cw_region ?_
      refine wl_val (v := .slice A ts.length c) (fun ρ e => ex_move (e _ _ rfl)) rfl rfl ?_
      refine wl_call (args := [.slice A ts.length c, .int .i64 0]) in_34 rfl rfl rfl ?_
      have hc102 := swap_ (hN.move (fun k hk => (O95.old).block k hk)) (fun k hk => Nat.lt_of_lt_of_le hk (O95.old).size) 0
      rw [k3] at hc102
      refine hc102.mono ?_
      rintro _ w99 ⟨A97, c98, rfl, h100⟩
      have O101 := O95.join1 h100 trivial
      refine ⟨_, rfl, ?_⟩
      refine wl_val (v := .tuple #[.slice A97 (([] : List VN).length) c98, .int .i64 1]) (fun ρ e => ex_move (e _ _ rfl)) rfl rfl ?_
      refine wl_val (v := .slice A97 (([] : List VN).length) c98) (fun ρ e => ex_extract (vs := #[.slice A97 (([] : List VN).length) c98, .int .i64 1]) (e _ _ rfl) rfl) rfl rfl ?_
      refine wl_val (v := .int .i64 1) (fun ρ e => ex_extract (vs := #[.slice A97 (([] : List VN).length) c98, .int .i64 1]) (e _ _ rfl) rfl) rfl rfl ?_
      refine wl_val (v := .slice A97 (([] : List VN).length) c98) (fun ρ e => ex_assign (e _ _ rfl)) rfl rfl ?_
      refine wl_val (v := .int .i64 1) (fun ρ e => ex_assign (e _ _ rfl)) rfl rfl ?_
      refine wl_nil ?_
      refine xw_next K96 ?_
      refine cw_seq (fun FK103 K103 => ?_)
      refine cw_region ?_
      refine wl_val (v := .slice A ts.length c) (fun ρ e => ex_move (e _ _ rfl)) rfl rfl ?_
      refine wl_call (args := [.slice A ts.length c]) in_23 rfl rfl rfl ?_
      have hc104 := check_ (hN.move (fun k hk => (O101.old).block k hk)) (fun k hk => Nat.lt_of_lt_of_le hk (O101.old).size)
      rw [k2] at hc104
      refine hc104.mono ?_
      rintro _ w105 ⟨rfl, hb106⟩
      have O107 : Own Z0 w74 w105 [.row (.slice A97 (([] : List VN).length) c98) 38 3 (([] : List VN).length) (ncells ([] : List VN))] := O101.below hb106
      refine ⟨_, rfl, ?_⟩
      refine wl_val (v := .bool false) (fun ρ e => ex_cmp (u := 1) (v := 1) (e _ _ rfl) (e _ _ rfl) (neq0 rfl)) rfl rfl ?_
      refine wl_val (v := .bool false) (fun ρ e => ex_move (e _ _ rfl)) rfl rfl ?_
      refine wl_val (v := .int .i64 1) (fun ρ e => ex_move (e _ _ rfl)) rfl rfl ?_
      refine wl_val (v := .bool false) (fun ρ e => ex_cmp (u := 1) (v := 1) (e _ _ rfl) (e _ _ rfl) (neq0 rfl)) rfl rfl ?_
      refine wl_val (v := .bool false) (fun ρ e => ex_pick0 (e _ _ rfl) (e _ _ rfl)) rfl rfl ?_
      refine wl_val (v := .bool false) (fun ρ e => ex_move (e _ _ rfl)) rfl rfl ?_
      refine wl_val (v := .int .i64 1) (fun ρ e => ex_move (e _ _ rfl)) rfl rfl ?_
      refine wl_val (v := .bool false) (fun ρ e => ex_cmp (u := 1) (v := 1) (e _ _ rfl) (e _ _ rfl) (neq0 rfl)) rfl rfl ?_
      refine wl_val (v := .bool false) (fun ρ e => ex_pick0 (e _ _ rfl) (e _ _ rfl)) rfl rfl ?_
      refine wl_val (v := .bool false) (fun ρ e => ex_move (e _ _ rfl)) rfl rfl ?_
      refine wl_val (v := .slice A ts.length c) (fun ρ e => ex_move (e _ _ rfl)) rfl rfl ?_
      refine wl_call (args := [.slice A ts.length c]) in_44 rfl rfl rfl ?_
      refine (vvars_no (hN.move (fun k hk => (O107.old).block k hk)) (fun k hk => Nat.lt_of_lt_of_le hk (O107.old).size) k1).mono ?_
      rintro _ w108 ⟨rfl, hb109⟩
      have O110 : Own Z0 w74 w108 [.row (.slice A97 (([] : List VN).length) c98) 38 3 (([] : List VN).length) (ncells ([] : List VN))] := O107.below hb109
      refine ⟨_, rfl, ?_⟩
      refine wl_val (v := .int .i64 (0 : Int)) (fun ρ e => ex_len el53 (e _ _ rfl)) rfl rfl ?_
      refine wl_val (v := .bool false) (fun ρ e => ex_cmp (u := (0 : Int)) (v := 0) (e _ _ rfl) (e _ _ rfl) (neq0 (by omega))) rfl rfl ?_
      refine wl_val (v := .bool false) (fun ρ e => ex_pick0 (e _ _ rfl) (e _ _ rfl)) rfl rfl ?_
      refine wl_val (v := .bool false) (fun ρ e => ex_move (e _ _ rfl)) rfl rfl ?_
      refine wl_val (v := .slice A ts.length c) (fun ρ e => ex_move (e _ _ rfl)) rfl rfl ?_
      refine wl_call (args := [.slice A ts.length c]) in_31 rfl rfl rfl ?_
      refine (parents_no (hN.move (fun k hk => (O110.old).block k hk)) (fun k hk => Nat.lt_of_lt_of_le hk (O110.old).size) k1).mono ?_
      rintro _ w111 ⟨rfl, hb112⟩
      have O113 : Own Z0 w74 w111 [.row (.slice A97 (([] : List VN).length) c98) 38 3 (([] : List VN).length) (ncells ([] : List VN))] := O110.below hb112
      refine ⟨_, rfl, ?_⟩
      refine wl_val (v := .int .i64 (0 : Int)) (fun ρ e => ex_len el36 (e _ _ rfl)) rfl rfl ?_
      refine wl_val (v := .bool false) (fun ρ e => ex_cmp (u := (0 : Int)) (v := 0) (e _ _ rfl) (e _ _ rfl) (neq0 (by omega))) rfl rfl ?_
      refine wl_val (v := .bool false) (fun ρ e => ex_pick0 (e _ _ rfl) (e _ _ rfl)) rfl rfl ?_
      refine wl_val (v := .bool false) (fun ρ e => ex_move (e _ _ rfl)) rfl rfl ?_
      refine wl_val (v := .slice A ts.length c) (fun ρ e => ex_move (e _ _ rfl)) rfl rfl ?_
      refine wl_call (args := [.slice A ts.length c, .int .i64 0, .int .i64 0]) in_15 rfl rfl rfl ?_
      have hc114 := meet_ (hN.move (fun k hk => (O113.old).block k hk)) (fun k hk => Nat.lt_of_lt_of_le hk (O113.old).size) 0 0
      rw [k4] at hc114
      refine hc114.mono ?_
      rintro _ w115 ⟨rfl, hb116⟩
      have O117 : Own Z0 w74 w115 [.row (.slice A97 (([] : List VN).length) c98) 38 3 (([] : List VN).length) (ncells ([] : List VN))] := O113.below hb116
      refine ⟨_, rfl, ?_⟩
      refine wl_val (v := .bool false) (fun ρ e => ex_cmp (u := (-1)) (v := (-1)) (e _ _ rfl) (e _ _ rfl) (neq0 rfl)) rfl rfl ?_
      refine wl_val (v := .bool false) (fun ρ e => ex_pick0 (e _ _ rfl) (e _ _ rfl)) rfl rfl ?_
      refine wl_nil ?_
      refine xw_next K103 ?_
      refine cw_false rfl ?_
      refine cw_skip ?_
      refine xw_block ?_
      refine xw_next K89 ?_
      refine cw_region ?_
      refine wl_val (v := .int .i64 ((i + 1 : Nat) : Int)) (fun ρ e => ex_arith (k := .i64) (u := (i : Int)) (v := 1) (e _ _ rfl) (e _ _ rfl) (congrArg some ((congrArg _ (by omega)).trans (wrap_in (u := ((i + 1 : Nat) : Int)) (by omega) (by omega))))) rfl rfl ?_
      refine wl_val (v := .int .i64 ((i + 1 : Nat) : Int)) (fun ρ e => ex_move (e _ _ rfl)) rfl rfl ?_
      refine wl_nil ?_
      refine xw_round K85 (i + 1) (by show 8 - (i + 1) < 8 - i; omega) ⟨(by show i + 1 ≤ 8; omega), (O117.re [] rfl : Own Z0 w74 w115 [])⟩ ⟨rfl, rfl, rfl, trivial⟩
    · skip
      refine cw_seq (fun FK118 K118 => ?_)
      refine cw_region ?_
      refine wl_val (v := .bool false) (fun ρ e => ex_cmp (u := (i : Int)) (v := (8 : Int)) (e _ _ rfl) (e _ _ rfl) (lss0 (by omega))) rfl rfl ?_
      refine wl_nil ?_
      refine xw_next K118 ?_
      refine cw_seq (fun FK119 K119 => ?_)
      refine cw_false rfl ?_
      refine cw_exit ?_
      refine xw_past (by intro h; cases h) ?_
      refine xw_past (by intro h; cases h) ?_
      refine xw_here ?_
      refine xw_next K29 ?_
      refine cw_seq (fun FK120 K120 => ?_)
      refine cw_seq (fun FK121 K121 => ?_)
      refine cw_region ?_
      obtain ⟨g122, w123, r124, O125, hg126, hs127⟩ := own_slice O86 el36 ze3 1 [(0, .int .i64 0)] (cs := #[.int .i64 0]) (by decide) (by kernel_rfl)
      refine wl_val (v := .slice (some ⟨g122, 0, none⟩) 1 1) (fun ρ e => r124 ρ _ _ _ _ _ _ (e.parts rfl)) rfl rfl ?_
      obtain ⟨g128, w129, r130, O131, hg132, hs133⟩ := own_slice O125 el36 ze3 1 [(0, .int .i64 129)] (cs := #[.int .i64 129]) (by decide) (by kernel_rfl)
      refine wl_val (v := .slice (some ⟨g128, 0, none⟩) 1 1) (fun ρ e => r130 ρ _ _ _ _ _ _ (e.parts rfl)) rfl rfl ?_
      obtain ⟨g134, w135, r136, O137, hg138, hs139⟩ := own_slice O131 el36 ze3 3 [(0, .int .i64 1), (1, .int .i64 2), (2, .int .i64 1)] (cs := #[.int .i64 1, .int .i64 2, .int .i64 1]) (by decide) (by kernel_rfl)
      refine wl_val (v := .slice (some ⟨g134, 0, none⟩) 3 3) (fun ρ e => r136 ρ _ _ _ _ _ _ (e.parts rfl)) rfl rfl ?_
      obtain ⟨g140, w141, r142, O143, hg144, hs145⟩ := own_slice O137 el36 ze3 1 [(0, .int .i64 (-1))] (cs := #[.int .i64 (-1)]) (by decide) (by kernel_rfl)
      refine wl_val (v := .slice (some ⟨g140, 0, none⟩) 1 1) (fun ρ e => r142 ρ _ _ _ _ _ _ (e.parts rfl)) rfl rfl ?_
      obtain ⟨g146, w147, r148, O149, hg150, hs151⟩ := own_slice O143 el63 ze36 5 [(0, .slice none 0 0), (1, .slice (some ⟨g122, 0, none⟩) 1 1), (2, .slice (some ⟨g128, 0, none⟩) 1 1), (3, .slice (some ⟨g134, 0, none⟩) 3 3), (4, .slice (some ⟨g140, 0, none⟩) 1 1)] (cs := #[.slice none 0 0, .slice (some ⟨g122, 0, none⟩) 1 1, .slice (some ⟨g128, 0, none⟩) 1 1, .slice (some ⟨g134, 0, none⟩) 3 3, .slice (some ⟨g140, 0, none⟩) 1 1]) (by decide) (by kernel_rfl)
      refine wl_val (v := .slice (some ⟨g146, 0, none⟩) 5 5) (fun ρ e => r148 ρ _ _ _ _ _ _ (e.parts rfl)) rfl rfl ?_
      refine wl_val (v := .int .i64 (5 : Int)) (fun ρ e => ex_len el63 (e _ _ rfl)) rfl rfl ?_
      refine wl_val (v := .int .i64 0) (fun ρ e => ex_move (e _ _ rfl)) rfl rfl ?_
      refine wl_nil ?_
      refine xw_next K121 ?_
      refine cw_block ?_
      have O152 : Own Z0 w74 w147 [.blk g146 36 #[.slice none 0 0, .slice (some ⟨g122, 0, none⟩) 1 1, .slice (some ⟨g128, 0, none⟩) 1 1, .slice (some ⟨g134, 0, none⟩) 3 3, .slice (some ⟨g140, 0, none⟩) 1 1], .blk g140 3 #[.int .i64 (-1)], .blk g134 3 #[.int .i64 1, .int .i64 2, .int .i64 1], .blk g128 3 #[.int .i64 129], .blk g122 3 #[.int .i64 0]] := O149
      have tab154 := (tab81.below (Nat.le_refl _) O152.old)
      have hb153 : Below W.heap.size W w147 := hb80.trans ((O152.old).mono (hb80).size)
      have O155 : Own Z0 w147 w147 [] := Own.start w147
      have hlt2 : g146 < w147.heap.size := (O152.blk 0 rfl).lt
      have hel2 : ∀ i, i < 5 → ∃ V, ∃ l : List Int, w147.cell? ⟨g146, i, none⟩ = some V ∧ IntsD (fun k => k < w147.heap.size) w147 V l ∧ l.length ≤ 1000000 ∧ makeOf 1 l = (([] : List VN), 1) ∧ makeOf 2 l = (([] : List VN), 1) ∧ makeOf 3 l = (([] : List VN), 1) := by
        intro i hi
        rcases (show i = 0 ∨ i = 1 ∨ i = 2 ∨ i = 3 ∨ i = 4 by omega) with rfl | rfl | rfl | rfl | rfl
        · exact ⟨.slice none 0 0, [], O152.cell 0 0 rfl rfl, IntsD.nil _ _, by decide, by kernel_rfl, by kernel_rfl, by kernel_rfl⟩
        · exact ⟨.slice (some ⟨g122, 0, none⟩) 1 1, [0], O152.cell 0 1 rfl rfl, (IntsD.of_blk (n := 1) (l := [0]) (O152.blk 4 rfl) rfl (by unfold maxLen; omega)).mono (fun k hk => hk ▸ (O152.blk 4 rfl).lt), by decide, by kernel_rfl, by kernel_rfl, by kernel_rfl⟩
        · exact ⟨.slice (some ⟨g128, 0, none⟩) 1 1, [129], O152.cell 0 2 rfl rfl, (IntsD.of_blk (n := 1) (l := [129]) (O152.blk 3 rfl) rfl (by unfold maxLen; omega)).mono (fun k hk => hk ▸ (O152.blk 3 rfl).lt), by decide, by kernel_rfl, by kernel_rfl, by kernel_rfl⟩
        · exact ⟨.slice (some ⟨g134, 0, none⟩) 3 3, [1, 2, 1], O152.cell 0 3 rfl rfl, (IntsD.of_blk (n := 3) (l := [1, 2, 1]) (O152.blk 2 rfl) rfl (by unfold maxLen; omega)).mono (fun k hk => hk ▸ (O152.blk 2 rfl).lt), by decide, by kernel_rfl, by kernel_rfl, by kernel_rfl⟩
        · exact ⟨.slice (some ⟨g140, 0, none⟩) 1 1, [(-1)], O152.cell 0 4 rfl rfl, (IntsD.of_blk (n := 1) (l := [(-1)]) (O152.blk 1 rfl) rfl (by unfold maxLen; omega)).mono (fun k hk => hk ▸ (O152.blk 1 rfl).lt), by decide, by kernel_rfl, by kernel_rfl, by kernel_rfl⟩
      refine cw_loop (ι := Nat) (fun q => [(112, .slice (some ⟨g146, 0, none⟩) 5 5), (113, .int .i64 (5 : Int)), (114, .int .i64 (q : Int))]) (fun q X => (q ≤ 5) ∧ Own Z0 w147 X []) (fun q => 5 - q) 0 ⟨Nat.zero_le _, O155⟩ ⟨rfl, rfl, rfl, trivial⟩ (fun q w156 hJ F157 K158 => ?_)
      obtain ⟨i, rfl⟩ : ∃ x, x = q := ⟨_, rfl⟩
      obtain ⟨hi0, O159⟩ := hJ
      try dsimp only at hi0 O159 ⊢
      by_cases hi : i < 5
      · skip
        obtain ⟨V, l, hce, hI, hl, m1, m2, m3⟩ := hel2 i hi
        obtain ⟨A, c, rfl⟩ := hI.slice
        refine cw_seq (fun FK160 K160 => ?_)
        refine cw_region ?_
        refine wl_val (v := .bool true) (fun ρ e => ex_cmp (u := (i : Int)) (v := (5 : Int)) (e _ _ rfl) (e _ _ rfl) (lss1 (by omega))) rfl rfl ?_
        refine wl_nil ?_
        refine xw_next K160 ?_
        refine cw_seq (fun FK161 K161 => ?_)
        refine cw_true rfl ?_
        refine cw_skip ?_
        refine xw_next K161 ?_
        refine cw_seq (fun FK162 K162 => ?_)
        refine cw_block ?_
        refine cw_seq (fun FK163 K163 => ?_)
        refine cw_region ?_
        refine wl_val (v := .pointer (some ⟨g146, i, none⟩)) (fun ρ e => ex_idx (q := i) (i := i) el63 (e _ _ rfl) (e _ _ rfl) (by omega) (by omega)) rfl rfl ?_
        refine wl_val (v := .slice A l.length c) (fun ρ e => ex_load1 ty36 (e _ _ rfl) (((O159.old).cell (p := ⟨g146, _, none⟩) hlt2).trans hce)) rfl rfl ?_
        refine wl_val (v := .slice A l.length c) (fun ρ e => ex_assign (e _ _ rfl)) rfl rfl ?_
        refine wl_nil ?_
        refine xw_next K163 ?_
        refine cw_seq (fun FK164 K164 => ?_)
        refine cw_region ?_
        refine wl_val (v := .slice A l.length c) (fun ρ e => ex_move (e _ _ rfl)) rfl rfl ?_
        refine wl_call (args := [.slice A l.length c]) in_24 rfl rfl rfl ?_
        have hc170 := right_ (hI.move (fun k hk => (O159.old).block k hk)) (fun k hk => Nat.lt_of_lt_of_le hk (O159.old).size) hl
        rw [m1] at hc170
        refine hc170.mono ?_
        rintro _ w167 ⟨A165, c166, rfl, h168⟩
        have O169 := O159.join1 h168 trivial
        refine ⟨_, rfl, ?_⟩
        refine wl_val (v := .tuple #[.slice A165 (([] : List VN).length) c166, .int .i64 1]) (fun ρ e => ex_move (e _ _ rfl)) rfl rfl ?_
        refine wl_val (v := .slice A165 (([] : List VN).length) c166) (fun ρ e => ex_extract (vs := #[.slice A165 (([] : List VN).length) c166, .int .i64 1]) (e _ _ rfl) rfl) rfl rfl ?_
        refine wl_val (v := .int .i64 1) (fun ρ e => ex_extract (vs := #[.slice A165 (([] : List VN).length) c166, .int .i64 1]) (e _ _ rfl) rfl) rfl rfl ?_
        refine wl_val (v := .slice A165 (([] : List VN).length) c166) (fun ρ e => ex_assign (e _ _ rfl)) rfl rfl ?_
        refine wl_val (v := .int .i64 1) (fun ρ e => ex_assign (e _ _ rfl)) rfl rfl ?_
        refine wl_nil ?_
        refine xw_next K164 ?_
        refine cw_seq (fun FK171 K171 => ?_)
        refine cw_region ?_
        refine wl_val (v := .slice A l.length c) (fun ρ e => ex_move (e _ _ rfl)) rfl rfl ?_
        refine wl_call (args := [.slice A l.length c]) in_25 rfl rfl rfl ?_
        have hc177 := left_ (hI.move (fun k hk => (O169.old).block k hk)) (fun k hk => Nat.lt_of_lt_of_le hk (O169.old).size) hl
        rw [m2] at hc177
        refine hc177.mono ?_
        rintro _ w174 ⟨A172, c173, rfl, h175⟩
        have O176 := O169.join1 h175 trivial
        refine ⟨_, rfl, ?_⟩
        refine wl_val (v := .tuple #[.slice A172 (([] : List VN).length) c173, .int .i64 1]) (fun ρ e => ex_move (e _ _ rfl)) rfl rfl ?_
        refine wl_val (v := .slice A172 (([] : List VN).length) c173) (fun ρ e => ex_extract (vs := #[.slice A172 (([] : List VN).length) c173, .int .i64 1]) (e _ _ rfl) rfl) rfl rfl ?_
        refine wl_val (v := .int .i64 1) (fun ρ e => ex_extract (vs := #[.slice A172 (([] : List VN).length) c173, .int .i64 1]) (e _ _ rfl) rfl) rfl rfl ?_
        refine wl_val (v := .slice A172 (([] : List VN).length) c173) (fun ρ e => ex_assign (e _ _ rfl)) rfl rfl ?_
        refine wl_val (v := .int .i64 1) (fun ρ e => ex_assign (e _ _ rfl)) rfl rfl ?_
        refine wl_nil ?_
        refine xw_next K171 ?_
        refine cw_seq (fun FK178 K178 => ?_)
        refine cw_region ?_
        refine wl_val (v := .slice A l.length c) (fun ρ e => ex_move (e _ _ rfl)) rfl rfl ?_
        refine wl_call (args := [.slice A l.length c]) in_26 rfl rfl rfl ?_
        have hc184 := balanced_ (hI.move (fun k hk => (O176.old).block k hk)) (fun k hk => Nat.lt_of_lt_of_le hk (O176.old).size) hl
        rw [m3] at hc184
        refine hc184.mono ?_
        rintro _ w181 ⟨A179, c180, rfl, h182⟩
        have O183 := O176.join1 h182 trivial
        refine ⟨_, rfl, ?_⟩
        refine wl_val (v := .tuple #[.slice A179 (([] : List VN).length) c180, .int .i64 1]) (fun ρ e => ex_move (e _ _ rfl)) rfl rfl ?_
        refine wl_val (v := .slice A179 (([] : List VN).length) c180) (fun ρ e => ex_extract (vs := #[.slice A179 (([] : List VN).length) c180, .int .i64 1]) (e _ _ rfl) rfl) rfl rfl ?_
        refine wl_val (v := .int .i64 1) (fun ρ e => ex_extract (vs := #[.slice A179 (([] : List VN).length) c180, .int .i64 1]) (e _ _ rfl) rfl) rfl rfl ?_
        refine wl_val (v := .slice A179 (([] : List VN).length) c180) (fun ρ e => ex_assign (e _ _ rfl)) rfl rfl ?_
        refine wl_val (v := .int .i64 1) (fun ρ e => ex_assign (e _ _ rfl)) rfl rfl ?_
        refine wl_nil ?_
        refine xw_next K178 ?_
        refine cw_seq (fun FK185 K185 => ?_)
        refine cw_region ?_
        refine wl_val (v := .int .i64 1) (fun ρ e => ex_move (e _ _ rfl)) rfl rfl ?_
        refine wl_val (v := .bool false) (fun ρ e => ex_cmp (u := 1) (v := 1) (e _ _ rfl) (e _ _ rfl) (neq0 rfl)) rfl rfl ?_
        refine wl_val (v := .bool false) (fun ρ e => ex_move (e _ _ rfl)) rfl rfl ?_
        refine wl_val (v := .int .i64 1) (fun ρ e => ex_move (e _ _ rfl)) rfl rfl ?_
        refine wl_val (v := .bool false) (fun ρ e => ex_cmp (u := 1) (v := 1) (e _ _ rfl) (e _ _ rfl) (neq0 rfl)) rfl rfl ?_
        refine wl_val (v := .bool false) (fun ρ e => ex_pick0 (e _ _ rfl) (e _ _ rfl)) rfl rfl ?_
        refine wl_val (v := .bool false) (fun ρ e => ex_move (e _ _ rfl)) rfl rfl ?_
        refine wl_val (v := .int .i64 1) (fun ρ e => ex_move (e _ _ rfl)) rfl rfl ?_
        refine wl_val (v := .bool false) (fun ρ e => ex_cmp (u := 1) (v := 1) (e _ _ rfl) (e _ _ rfl) (neq0 rfl)) rfl rfl ?_
        refine wl_val (v := .bool false) (fun ρ e => ex_pick0 (e _ _ rfl) (e _ _ rfl)) rfl rfl ?_
        refine wl_nil ?_
        refine xw_next K185 ?_
        refine cw_false rfl ?_
        refine cw_skip ?_
        refine xw_block ?_
        refine xw_next K162 ?_
        refine cw_region ?_
        refine wl_val (v := .int .i64 ((i + 1 : Nat) : Int)) (fun ρ e => ex_arith (k := .i64) (u := (i : Int)) (v := 1) (e _ _ rfl) (e _ _ rfl) (congrArg some ((congrArg _ (by omega)).trans (wrap_in (u := ((i + 1 : Nat) : Int)) (by omega) (by omega))))) rfl rfl ?_
        refine wl_val (v := .int .i64 ((i + 1 : Nat) : Int)) (fun ρ e => ex_move (e _ _ rfl)) rfl rfl ?_
        refine wl_nil ?_
        refine xw_round K158 (i + 1) (by show 5 - (i + 1) < 5 - i; omega) ⟨(by show i + 1 ≤ 5; omega), (O183.re [] rfl : Own Z0 w147 w181 [])⟩ ⟨rfl, rfl, rfl, trivial⟩
      · skip
        refine cw_seq (fun FK186 K186 => ?_)
        refine cw_region ?_
        refine wl_val (v := .bool false) (fun ρ e => ex_cmp (u := (i : Int)) (v := (5 : Int)) (e _ _ rfl) (e _ _ rfl) (lss0 (by omega))) rfl rfl ?_
        refine wl_nil ?_
        refine xw_next K186 ?_
        refine cw_seq (fun FK187 K187 => ?_)
        refine cw_false rfl ?_
        refine cw_exit ?_
        refine xw_past (by intro h; cases h) ?_
        refine xw_past (by intro h; cases h) ?_
        refine xw_here ?_
        refine xw_next K120 ?_
        refine cw_seq (fun FK188 K188 => ?_)
        refine cw_region ?_
        refine wl_call (args := [.string (⟨#[40, 40, 51, 32, 49, 41, 32, 50, 41]⟩)]) in_47 rfl rfl rfl ?_
        have hc194 := read_ ⟨#[40, 40, 51, 32, 49, 41, 32, 50, 41]⟩ (tab154.below (Nat.le_refl _) O159.old)
        rw [kp5] at hc194
        refine hc194.mono ?_
        rintro _ w191 ⟨A189, c190, rfl, h192⟩
        have O193 := O159.join1 h192 trivial
        refine ⟨_, rfl, ?_⟩
        refine wl_val (v := .slice A189 T5.length c190) (fun ρ e => ex_assign (e _ _ rfl)) rfl rfl ?_
        refine wl_nil ?_
        refine xw_next K188 ?_
        refine cw_seq (fun FK195 K195 => ?_)
        refine cw_region ?_
        refine wl_val (v := .slice A189 T5.length c190) (fun ρ e => ex_move (e _ _ rfl)) rfl rfl ?_
        refine wl_call (args := [.slice A189 T5.length c190, .int .i64 2]) in_32 rfl rfl rfl ?_
        have hc201 := rotr_ (NodesD.of_row (O193.row 0 rfl)) (fun k hk => (World.ownsRow.lt (O193.row 0 rfl) k hk).2) 2
        rw [kr] at hc201
        refine hc201.mono ?_
        rintro _ w198 ⟨A196, c197, rfl, h199⟩
        have O200 := O193.join1 h199 trivial
        refine ⟨_, rfl, ?_⟩
        refine wl_val (v := .tuple #[.slice A196 (([] : List VN).length) c197, .int .i64 1]) (fun ρ e => ex_move (e _ _ rfl)) rfl rfl ?_
        refine wl_val (v := .slice A196 (([] : List VN).length) c197) (fun ρ e => ex_extract (vs := #[.slice A196 (([] : List VN).length) c197, .int .i64 1]) (e _ _ rfl) rfl) rfl rfl ?_
        refine wl_val (v := .int .i64 1) (fun ρ e => ex_extract (vs := #[.slice A196 (([] : List VN).length) c197, .int .i64 1]) (e _ _ rfl) rfl) rfl rfl ?_
        refine wl_val (v := .slice A196 (([] : List VN).length) c197) (fun ρ e => ex_assign (e _ _ rfl)) rfl rfl ?_
        refine wl_val (v := .int .i64 1) (fun ρ e => ex_assign (e _ _ rfl)) rfl rfl ?_
        refine wl_nil ?_
        refine xw_next K195 ?_
        refine cw_seq (fun FK202 K202 => ?_)
        refine cw_region ?_
        refine wl_val (v := .slice A189 T5.length c190) (fun ρ e => ex_move (e _ _ rfl)) rfl rfl ?_
        refine wl_call (args := [.slice A189 T5.length c190, .int .i64 4]) in_33 rfl rfl rfl ?_
        have hc208 := rotl_ (NodesD.of_row (O200.row 1 rfl)) (fun k hk => (World.ownsRow.lt (O200.row 1 rfl) k hk).2) 4
        rw [kl] at hc208
        refine hc208.mono ?_
        rintro _ w205 ⟨A203, c204, rfl, h206⟩
        have O207 := O200.join1 h206 trivial
        refine ⟨_, rfl, ?_⟩
        refine wl_val (v := .tuple #[.slice A203 (([] : List VN).length) c204, .int .i64 1]) (fun ρ e => ex_move (e _ _ rfl)) rfl rfl ?_
        refine wl_val (v := .slice A203 (([] : List VN).length) c204) (fun ρ e => ex_extract (vs := #[.slice A203 (([] : List VN).length) c204, .int .i64 1]) (e _ _ rfl) rfl) rfl rfl ?_
        refine wl_val (v := .int .i64 1) (fun ρ e => ex_extract (vs := #[.slice A203 (([] : List VN).length) c204, .int .i64 1]) (e _ _ rfl) rfl) rfl rfl ?_
        refine wl_val (v := .slice A203 (([] : List VN).length) c204) (fun ρ e => ex_assign (e _ _ rfl)) rfl rfl ?_
        refine wl_val (v := .int .i64 1) (fun ρ e => ex_assign (e _ _ rfl)) rfl rfl ?_
        refine wl_nil ?_
        refine xw_next K202 ?_
        refine cw_seq (fun FK209 K209 => ?_)
        refine cw_region ?_
        refine wl_val (v := .int .i64 1) (fun ρ e => ex_move (e _ _ rfl)) rfl rfl ?_
        refine wl_val (v := .bool true) (fun ρ e => ex_cmp (u := 1) (v := 1) (e _ _ rfl) (e _ _ rfl) (eql1 rfl)) rfl rfl ?_
        refine wl_val (v := .bool true) (fun ρ e => ex_move (e _ _ rfl)) rfl rfl ?_
        refine wl_val (v := .int .i64 1) (fun ρ e => ex_move (e _ _ rfl)) rfl rfl ?_
        refine wl_val (v := .bool true) (fun ρ e => ex_cmp (u := 1) (v := 1) (e _ _ rfl) (e _ _ rfl) (eql1 rfl)) rfl rfl ?_
        refine wl_val (v := .bool true) (fun ρ e => ex_pick1 (e _ _ rfl) (e _ _ rfl)) rfl rfl ?_
        refine wl_val (v := .bool true) (fun ρ e => ex_move (e _ _ rfl)) rfl rfl ?_
        obtain ⟨g210, w211, r212, O213, hg214, hs215⟩ := own_slice O207 el36 ze3 3 [(0, .int .i64 3), (1, .int .i64 1), (2, .int .i64 2)] (cs := #[.int .i64 3, .int .i64 1, .int .i64 2]) (by decide) (by kernel_rfl)
        refine wl_val (v := .slice (some ⟨g210, 0, none⟩) 3 3) (fun ρ e => r212 ρ _ _ _ _ _ _ (e.parts rfl)) rfl rfl ?_
        refine wl_call (args := [.slice (some ⟨g210, 0, none⟩) 3 3]) in_26 rfl rfl rfl ?_
        have hc221 := balanced_ (IntsD.of_blk (n := 3) (l := [3, 1, 2]) (O213.blk 0 rfl) rfl (by unfold maxLen; omega)) (fun k hk => hk ▸ (O213.blk 0 rfl).lt) (by decide)
        rw [kb] at hc221
        refine hc221.mono ?_
        rintro _ w218 ⟨A216, c217, rfl, h219⟩
        have O220 := O213.join1 h219 trivial
        refine ⟨_, rfl, ?_⟩
        refine wl_val (v := .slice A216 T5.length c217) (fun ρ e => ex_extract (vs := #[.slice A216 T5.length c217, .int .i64 0]) (e _ _ rfl) rfl) rfl rfl ?_
        refine wl_val (v := .int .i64 0) (fun ρ e => ex_extract (vs := #[.slice A216 T5.length c217, .int .i64 0]) (e _ _ rfl) rfl) rfl rfl ?_
        refine wl_call (args := [.slice A216 T5.length c217, .int .i64 0]) in_21 rfl rfl rfl ?_
        have hc222 := shown_ (NodesD.of_row (O220.row 0 rfl)) (fun k hk => (World.ownsRow.lt (O220.row 0 rfl) k hk).2) (tab154.below (Nat.le_refl _) O220.old) 0
        rw [ks] at hc222
        refine hc222.mono ?_
        rintro _ w223 ⟨rfl, hb224⟩
        have O225 : Own Z0 w147 w223 [.row (.slice A216 T5.length c217) 38 3 T5.length (ncells T5), .blk g210 3 #[.int .i64 3, .int .i64 1, .int .i64 2], .row (.slice A203 (([] : List VN).length) c204) 38 3 (([] : List VN).length) (ncells ([] : List VN)), .row (.slice A196 (([] : List VN).length) c197) 38 3 (([] : List VN).length) (ncells ([] : List VN)), .row (.slice A189 T5.length c190) 38 3 T5.length (ncells T5)] := O220.below hb224
        refine ⟨_, rfl, ?_⟩
        refine wl_val (v := .bool true) (fun ρ e => ex_eqS (a := ⟨#[40, 40, 51, 32, 49, 41, 32, 50, 41]⟩) (b := ⟨#[40, 40, 51, 32, 49, 41, 32, 50, 41]⟩) (e _ _ rfl) (e _ _ rfl) (by rw [decide_eq_true rfl])) rfl rfl ?_
        refine wl_val (v := .bool true) (fun ρ e => ex_pick1 (e _ _ rfl) (e _ _ rfl)) rfl rfl ?_
        refine wl_val (v := .bool true) (fun ρ e => ex_move (e _ _ rfl)) rfl rfl ?_
        refine wl_val (v := .slice A189 T5.length c190) (fun ρ e => ex_move (e _ _ rfl)) rfl rfl ?_
        refine wl_call (args := [.slice A189 T5.length c190, .int .i64 0, .int .i64 1]) in_15 rfl rfl rfl ?_
        have hc226 := meet_ (NodesD.of_row (O225.row 4 rfl)) (fun k hk => (World.ownsRow.lt (O225.row 4 rfl) k hk).2) 0 1
        rw [km1] at hc226
        refine hc226.mono ?_
        rintro _ w227 ⟨rfl, hb228⟩
        have O229 : Own Z0 w147 w227 [.row (.slice A216 T5.length c217) 38 3 T5.length (ncells T5), .blk g210 3 #[.int .i64 3, .int .i64 1, .int .i64 2], .row (.slice A203 (([] : List VN).length) c204) 38 3 (([] : List VN).length) (ncells ([] : List VN)), .row (.slice A196 (([] : List VN).length) c197) 38 3 (([] : List VN).length) (ncells ([] : List VN)), .row (.slice A189 T5.length c190) 38 3 T5.length (ncells T5)] := O225.below hb228
        refine ⟨_, rfl, ?_⟩
        refine wl_val (v := .bool true) (fun ρ e => ex_cmp (u := 2) (v := 2) (e _ _ rfl) (e _ _ rfl) (eql1 rfl)) rfl rfl ?_
        refine wl_val (v := .bool true) (fun ρ e => ex_pick1 (e _ _ rfl) (e _ _ rfl)) rfl rfl ?_
        refine wl_val (v := .bool true) (fun ρ e => ex_move (e _ _ rfl)) rfl rfl ?_
        refine wl_val (v := .slice A189 T5.length c190) (fun ρ e => ex_move (e _ _ rfl)) rfl rfl ?_
        refine wl_call (args := [.slice A189 T5.length c190, .int .i64 2, .int .i64 0]) in_15 rfl rfl rfl ?_
        have hc230 := meet_ (NodesD.of_row (O229.row 4 rfl)) (fun k hk => (World.ownsRow.lt (O229.row 4 rfl) k hk).2) 2 0
        rw [km2] at hc230
        refine hc230.mono ?_
        rintro _ w231 ⟨rfl, hb232⟩
        have O233 : Own Z0 w147 w231 [.row (.slice A216 T5.length c217) 38 3 T5.length (ncells T5), .blk g210 3 #[.int .i64 3, .int .i64 1, .int .i64 2], .row (.slice A203 (([] : List VN).length) c204) 38 3 (([] : List VN).length) (ncells ([] : List VN)), .row (.slice A196 (([] : List VN).length) c197) 38 3 (([] : List VN).length) (ncells ([] : List VN)), .row (.slice A189 T5.length c190) 38 3 T5.length (ncells T5)] := O229.below hb232
        refine ⟨_, rfl, ?_⟩
        refine wl_val (v := .bool true) (fun ρ e => ex_cmp (u := 2) (v := 2) (e _ _ rfl) (e _ _ rfl) (eql1 rfl)) rfl rfl ?_
        refine wl_val (v := .bool true) (fun ρ e => ex_pick1 (e _ _ rfl) (e _ _ rfl)) rfl rfl ?_
        refine wl_val (v := .bool true) (fun ρ e => ex_move (e _ _ rfl)) rfl rfl ?_
        refine wl_val (v := .slice A189 T5.length c190) (fun ρ e => ex_move (e _ _ rfl)) rfl rfl ?_
        refine wl_call (args := [.slice A189 T5.length c190, .int .i64 0, .int .i64 5]) in_15 rfl rfl rfl ?_
        have hc234 := meet_ (NodesD.of_row (O233.row 4 rfl)) (fun k hk => (World.ownsRow.lt (O233.row 4 rfl) k hk).2) 0 5
        rw [km3] at hc234
        refine hc234.mono ?_
        rintro _ w235 ⟨rfl, hb236⟩
        have O237 : Own Z0 w147 w235 [.row (.slice A216 T5.length c217) 38 3 T5.length (ncells T5), .blk g210 3 #[.int .i64 3, .int .i64 1, .int .i64 2], .row (.slice A203 (([] : List VN).length) c204) 38 3 (([] : List VN).length) (ncells ([] : List VN)), .row (.slice A196 (([] : List VN).length) c197) 38 3 (([] : List VN).length) (ncells ([] : List VN)), .row (.slice A189 T5.length c190) 38 3 T5.length (ncells T5)] := O233.below hb236
        refine ⟨_, rfl, ?_⟩
        refine wl_val (v := .bool true) (fun ρ e => ex_cmp (u := (-1)) (v := (-1)) (e _ _ rfl) (e _ _ rfl) (eql1 rfl)) rfl rfl ?_
        refine wl_val (v := .bool true) (fun ρ e => ex_pick1 (e _ _ rfl) (e _ _ rfl)) rfl rfl ?_
        refine wl_val (v := .bool true) (fun ρ e => ex_move (e _ _ rfl)) rfl rfl ?_
        refine wl_call (args := []) in_14 rfl rfl rfl ?_
        refine (works_ (tab154.below (Nat.le_refl _) O237.old)).mono ?_
        rintro _ w238 ⟨rfl, hb239⟩
        have O240 : Own Z0 w147 w238 [.row (.slice A216 T5.length c217) 38 3 T5.length (ncells T5), .blk g210 3 #[.int .i64 3, .int .i64 1, .int .i64 2], .row (.slice A203 (([] : List VN).length) c204) 38 3 (([] : List VN).length) (ncells ([] : List VN)), .row (.slice A196 (([] : List VN).length) c197) 38 3 (([] : List VN).length) (ncells ([] : List VN)), .row (.slice A189 T5.length c190) 38 3 T5.length (ncells T5)] := O237.below hb239
        refine ⟨_, rfl, ?_⟩
        refine wl_val (v := .bool true) (fun ρ e => ex_pick1 (e _ _ rfl) (e _ _ rfl)) rfl rfl ?_
        refine wl_val (v := .bool true) (fun ρ e => ex_assign (e _ _ rfl)) rfl rfl ?_
        refine wl_nil ?_
        refine xw_next K209 ?_
        refine cw_ret ?_
        refine xw_ret (v := .bool true) (fun T hT => res1 rfl T _ (hT 0 _ rfl)) ?_
        exact ⟨rfl, hb153.trans ((O240.old).mono (hb153).size)⟩

end Go.Proofs.YtpeoodkepjhhiaaDoor
