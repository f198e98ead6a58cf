/-
  The reference on circuits (censusref07): Size, allowed, literal, Check.
-/
import Derived.Test.YtlifakbdgmdafaaWEval2
namespace Go.Proofs.Ytlifakbdgmdafaa
open Go Go.RowKit

set_option maxHeartbeats 400000 in
theorem ref07_size (N : Int) (V : Value) (gs : List Gate) (w : World) (B : Nat) (hB : B ≤ w.heap.size) (hg : GatesV w B V gs) (hs : sizeOf gs ≤ 4611686018427387904) :
    Calls Try.prog 63 #[.agg #[.int .i64 N, V]] w fun e w' => e = .returned (.int .i64 ((sizeOf gs : Nat) : Int)) ∧ Below w.heap.size w w' := by
  obtain ⟨A, c, rfl, hlc, hcm, _⟩ := id hg
  unfold maxLen at hcm
  go_enter Try.func63, Try.ntmps63
  go_wp2
  go_loop [3, 4] (fun s i => ∃ k : Nat, k ≤ gs.length ∧ i = .int .i64 k ∧ s = .int .i64 ((sizeTo gs k : Nat) : Int)) (fun _ i => gs.length - (intOf i).toNat)
  case atStart => exact ⟨0, Nat.zero_le _, rfl, by rw [sizeTo_zero]; rfl⟩
  case round =>
    obtain ⟨k, hk, rfl, rfl⟩ := hrel
    by_cases hlt : k < gs.length
    · obtain ⟨b, o, A', c', rfl, hbB, h0, h1, h2, hI, hnc, hcm'⟩ := hg.at_ (Below.refl _ _) hlt
      have hbl : b < w.heap.size := by omega
      have hsz := Lib.hid (sizeTo_succ gs k hlt)
      have hle1 := sizeTo_le gs (k + 1)
      have hle2 := sizeTo_succ gs k hlt
      have hle : sizeTo gs k + gs[k].inp.length ≤ 4611686018427387904 := by omega
      clear hle1 hle2
      go_wp2
      go_round
      case rel => exact ⟨k + 1, by omega, by go_num, by rw [hsz.out]; simp⟩
      case measure => simp [intOf]; omega
    · go_wp2
      go_ret
      have : k = gs.length := by omega
      subst this
      exact ⟨rfl, by go_grown⟩

set_option maxHeartbeats 800000 in
theorem ref07_allowed (k n : Int) (w : World) :
    Calls Try.prog 64 #[(.int .i64 (k)), (.int .i64 (n))] w fun e w' => e = .returned (.bool (allowedB k n)) ∧ w = w' := by
  by_cases h0 : k = 0
  · subst h0
    go_enter Try.func64, Try.ntmps64
    go_wp2
    go_ret
    exact ⟨ret_bool (by simp [allowedB]), rfl⟩
  by_cases h1 : k = 1
  · subst h1
    go_enter Try.func64, Try.ntmps64
    go_wp2
    go_ret
    exact ⟨ret_bool (by simp [allowedB]), rfl⟩
  by_cases h2 : k = 2
  · subst h2
    go_enter Try.func64, Try.ntmps64
    go_wp2
    go_ret
    exact ⟨ret_bool (by simp [allowedB]), rfl⟩
  by_cases h3 : k = 3
  · subst h3
    go_enter Try.func64, Try.ntmps64
    go_wp2
    go_ret
    exact ⟨ret_bool (by simp [allowedB]), rfl⟩
  by_cases h7 : k = 7
  · subst h7
    go_enter Try.func64, Try.ntmps64
    go_wp2
    go_ret
    exact ⟨ret_bool (by simp [allowedB]), rfl⟩
  by_cases h8 : k = 8
  · subst h8
    go_enter Try.func64, Try.ntmps64
    go_wp2
    go_ret
    exact ⟨ret_bool (by simp [allowedB]), rfl⟩
  have e0 : (k == 0) = false := by simp [h0]
  have e1 : (k == 1) = false := by simp [h1]
  have e2 : (k == 2) = false := by simp [h2]
  have e3 : (k == 3) = false := by simp [h3]
  have e7 : (k == 7) = false := by simp [h7]
  have e8 : (k == 8) = false := by simp [h8]
  have hv : allowedB k n = (k == 4 || k == 5 || k == 6) := by simp [allowedB, h0, h1, h2, h3, h7, h8]
  rw [hv]
  clear hv h0 h1 h2 h3 h7 h8
  by_cases h4 : k = 4
  · subst h4
    go_enter Try.func64, Try.ntmps64
    go_wp2
    go_ret
    exact ⟨rfl, rfl⟩
  by_cases h5 : k = 5
  · subst h5
    go_enter Try.func64, Try.ntmps64
    go_wp2
    go_ret
    exact ⟨rfl, rfl⟩
  have e4 : (k == 4) = false := by simp [h4]
  have e5 : (k == 5) = false := by simp [h5]
  clear h4 h5
  go_enter Try.func64, Try.ntmps64
  go_wp2
  go_ret
  exact ⟨ret_bool (by simp [e4, e5]), rfl⟩

theorem ref07_literal (l n : Int) (w : World) (h0 : 0 ≤ n) (h1 : n ≤ 128) :
    Calls Try.prog 65 #[(.int .i64 (l)), (.int .i64 (n))] w fun e w' => e = .returned (.bool (litOk l n)) ∧ w = w' := by
  have e : litOk l n = (decide (1 ≤ l) && decide (l ≤ n) || decide (l ≤ -1) && decide (-n ≤ l)) := by
    rw [Bool.eq_iff_iff, litOk_iff l n h0 h1]; simp; omega
  rw [e]
  clear e
  by_cases a1 : 1 ≤ l
  · by_cases a2 : l ≤ n
    · go_enter Try.func65, Try.ntmps65
      go_wp2
      go_ret
      exact ⟨ret_bool (by simp [a1, a2]), rfl⟩
    · have a3 : ¬ l ≤ -1 := by omega
      go_enter Try.func65, Try.ntmps65
      go_wp2
      go_ret
      exact ⟨ret_bool (by simp; omega), rfl⟩
  · by_cases a2 : l ≤ -1
    · go_enter Try.func65, Try.ntmps65
      go_wp2
      go_ret
      exact ⟨ret_bool (by simp; try omega), rfl⟩
    · go_enter Try.func65, Try.ntmps65
      go_wp2
      go_ret
      exact ⟨ret_bool (by simp; try omega), rfl⟩
end Go.Proofs.Ytlifakbdgmdafaa
