/-
  What theory.Check computes; SameInts, SameTheory; light.
-/
import Derived.Test.YtlifakbdgmdafaaWSets5
import Derived.Test.YtlifakbdgmdafaaTheory
namespace Go.Proofs.Ytlifakbdgmdafaa
open Go Go.RowKit

set_option maxRecDepth 100000 in
set_option maxHeartbeats 3200000 in
theorem theory_check (N : Int) (V : Value) (L : List (List Int)) (w : World) (B : Nat) (hB : B ≤ w.heap.size) (hL : RowsV w B V L) :
    Calls Try.prog 33 #[.agg #[.int .i64 N, V]] w fun e w' => e = .returned (.int .i64 (thCheck N L)) ∧ Below w.heap.size w w' := by
  obtain ⟨A, c, rfl, hlc, hcm, _⟩ := id hL
  unfold maxLen at hcm
  obtain ⟨r, hr⟩ : ∃ r, r = thCheck N L := ⟨_, rfl⟩
  rw [← hr]
  by_cases hN : N < 0 ∨ 128 < N
  · have e : r = 6 := by rw [hr]; unfold thCheck; rw [if_pos hN]
    subst e
    clear hr
    rcases hN with hN | hN
    all_goals
      go_enter Try.func33, Try.ntmps33
      go_wp2
      go_ret
      exact ⟨rfl, by go_grown⟩
  · have hN0 : 0 ≤ N := by omega
    have hN1 : N ≤ 128 := by omega
    by_cases hlen : 4096 < L.length
    · have e : r = 2 := by rw [hr]; unfold thCheck; rw [if_neg hN, if_pos hlen]
      subst e
      clear hr hN
      go_enter Try.func33, Try.ntmps33
      go_wp2
      go_ret
      exact ⟨rfl, by go_grown⟩
    · have HR := Lib.hid (show r = rowsCheck N L by rw [hr]; unfold thCheck; rw [if_neg hN, if_neg hlen])
      clear hr hN
      go_enter Try.func33, Try.ntmps33
      go_wp2
      go_loop [22] (fun i => ∃ k : Nat, k ≤ L.length ∧ i = .int .i64 k ∧ (∀ i c, i < k → L[i]? = some c → rowCheck N c = 0)) (fun i => L.length - (intOf i).toNat)
      case atStart => exact ⟨0, Nat.zero_le _, rfl, fun i c hi => by omega⟩
      case round =>
        obtain ⟨k, hk, rfl, hall⟩ := hrel
        have HALL := Lib.hid hall
        clear hall
        by_cases hlt : k < L.length
        · obtain ⟨b, o, A', c', rfl, hbB, h0, hI, hnc, hcm'⟩ := hL.at_ (Below.refl _ _) hlt
          have hbl : b < w.heap.size := by omega
          have step : rowCheck N L[k] = 0 → ∀ i c, i < k + 1 → L[i]? = some c → rowCheck N c = 0 := fun h i c hi hc => by
            by_cases e : i = k
            · subst e; rw [List.getElem?_eq_getElem hlt] at hc; injection hc with hc; rw [← hc]; exact h
            · exact HALL.out i c (by omega) hc
          have stop : rowCheck N L[k] ≠ 0 → r = rowCheck N L[k] := fun h => by rw [HR.out]; exact rowsCheck_at N L k hlt HALL.out h
          generalize L[k] = row at h0 hI hnc step stop
          have hz : row.length ≤ 9223372036854775807 := by unfold maxLen at hcm'; omega
          have STEP := Lib.hid step
          have STOP := Lib.hid stop
          clear step stop
          by_cases hlong : 128 < row.length
          · have e0 : rowCheck N row = 2 := by unfold rowCheck; rw [if_pos hlong]
            have e : r = 2 := by rw [STOP.out (by omega)]; exact e0
            subst e
            clear e0
            go_wp2
            go_ret
            exact ⟨rfl, by go_grown⟩
          · have hrow : rowCheck N row = if row.all (fun l => litOk l N) then 0 else 1 := by unfold rowCheck; rw [if_neg hlong]
            have HROW := Lib.hid hrow
            clear hrow
            go_wp2
            go_loop [31] (fun j => ∃ n : Nat, n ≤ row.length ∧ j = .int .i64 n ∧ (row.take n).all (fun l => litOk l N) = true) (fun j => row.length - (intOf j).toNat)
            case atStart => exact ⟨0, Nat.zero_le _, rfl, rfl⟩
            case round =>
              obtain ⟨n, hn, rfl, hall⟩ := hrel
              have HA := Lib.hid hall
              clear hall
              by_cases hlt2 : n < row.length
              · obtain ⟨b', o', rfl, hbB', hcell⟩ := hI.at_ (Below.refl _ _) hlt2
                have hbl' : b' < w.heap.size := by omega
                have kv := fun w => lit_Valid row[n] N w
                have hs1 : (row.take (n + 1)).all (fun l => litOk l N) = ((row.take n).all (fun l => litOk l N) && litOk row[n] N) := by
                  rw [List.take_succ_eq_append_getElem hlt2, List.all_append]; simp
                have hs2 : litOk row[n] N = false → row.all (fun l => litOk l N) = false := fun h => by
                  rw [List.all_eq_false]; exact ⟨_, List.getElem_mem hlt2, by simp [h]⟩
                generalize row[n] = x at hcell kv hs1 hs2
                generalize litOk x N = y at kv hs1 hs2
                have KV := Lib.hid kv
                have HS1 := Lib.hid hs1
                have HS2 := Lib.hid hs2
                clear kv hs1 hs2
                cases y
                · have e0 : rowCheck N row = 1 := by rw [HROW.out, HS2.out rfl]; rfl
                  have e : r = 1 := by rw [STOP.out (by omega)]; exact e0
                  subst e
                  clear e0
                  go_wp2_with (go_at_call 62; refine (KV.out _).mono ?_; rintro e w' ⟨rfl, rfl⟩)
                  go_ret
                  exact ⟨rfl, by go_grown⟩
                · go_wp2_with (go_at_call 62; refine (KV.out _).mono ?_; rintro e w' ⟨rfl, rfl⟩)
                  go_round
                  case rel => exact ⟨n + 1, by omega, by go_num, by rw [HS1.out, HA.out]; rfl⟩
                  case measure => simp [intOf]; omega
              · have e : n = row.length := by omega
                subst e
                rw [List.take_length] at HA
                go_wp2
                go_round
                case rel => exact ⟨k + 1, by omega, by go_num, STEP.out (by rw [HROW.out, HA.out]; rfl)⟩
                case measure => simp [intOf]; omega
        · have e : k = L.length := by omega
          subst e
          have e : r = 0 := by rw [HR.out]; exact rowsCheck_end N L HALL.out
          subst e
          go_wp2
          go_ret
          exact ⟨rfl, by go_grown⟩
end Go.Proofs.Ytlifakbdgmdafaa
