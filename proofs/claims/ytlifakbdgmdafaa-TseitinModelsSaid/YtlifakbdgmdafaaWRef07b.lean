/-
  The reference's Check of circuits (censusref07).
-/
import Derived.Test.YtlifakbdgmdafaaWRef07
namespace Go.Proofs.Ytlifakbdgmdafaa
open Go Go.RowKit

theorem all_take_succ (l : List Int) (k : Nat) (h : k < l.length) (p : Int → Bool) : (l.take (k + 1)).all p = ((l.take k).all p && p l[k]) := by
  rw [List.take_succ_eq_append_getElem h, List.all_append]; simp
theorem all_false (l : List Int) (k : Nat) (h : k < l.length) (p : Int → Bool) (hp : p l[k] = false) : l.all p = false := by
  rw [List.all_eq_false]
  exact ⟨_, List.getElem_mem h, by simp [hp]⟩

set_option maxRecDepth 100000 in
set_option maxHeartbeats 3200000 in
theorem ref07_check (N : Int) (V : Value) (gs : List Gate) (w : World) (B : Nat) (hB : B ≤ w.heap.size) (hg : GatesV w B V gs) (hs : sizeOf gs ≤ 4611686018427387904) :
    Calls Try.prog 34 #[.agg #[.int .i64 N, V]] w fun e w' => e = .returned (.int .i64 (checkOf N gs)) ∧ Below w.heap.size w w' := by
  obtain ⟨A, c, rfl, hlc, hcm, _⟩ := id hg
  unfold maxLen at hcm
  obtain ⟨r, hr⟩ : ∃ r, r = checkOf N gs := ⟨_, rfl⟩
  rw [← hr]
  by_cases hN : N < 0 ∨ 128 < N
  · have e : r = 6 := by rw [hr]; unfold checkOf; rw [if_pos hN]
    subst e
    clear hr
    rcases hN with hN | hN
    all_goals
      go_enter Try.func34, Try.ntmps34
      go_wp2
      go_ret
      exact ⟨rfl, by go_grown⟩
  · have hN0 : 0 ≤ N := by omega
    have hN1 : N ≤ 128 := by omega
    have a1 : ∀ (w1 : World), Below w.heap.size w w1 → Calls Try.prog 63 #[.agg #[.int .i64 N, .slice A gs.length c]] w1 fun e w' => e = .returned (.int .i64 ((sizeOf gs : Nat) : Int)) ∧ Below w1.heap.size w1 w' :=
      fun w1 hb => ref07_size N _ gs w1 B (Nat.le_trans hB hb.size) (hg.below (hb.mono hB)) hs
    by_cases hlen : 4096 < gs.length
    · have e : r = 2 := by rw [hr]; unfold checkOf; rw [if_neg hN, if_pos (.inl hlen)]
      subst e
      clear hr hN
      go_enter Try.func34, Try.ntmps34
      go_wp2
      go_ret
      exact ⟨rfl, by go_grown⟩
    · by_cases hsz : 65536 < sizeOf gs
      · have e : r = 2 := by rw [hr]; unfold checkOf; rw [if_neg hN, if_pos (.inr hsz)]
        subst e
        clear hr hN
        generalize sizeOf gs = sz at *
        have A1 := Lib.hid a1
        clear a1
        go_enter Try.func34, Try.ntmps34
        go_wp2_with (go_at_call 63; refine (A1.out _ (by go_grown)).mono ?_; rintro e w' ⟨rfl, hbb⟩)
        go_ret
        exact ⟨rfl, Below.trans (by go_grown) (hbb.mono (by simp))⟩
      · have hr1 : goodTo N gs gs.length = false → r = 1 := fun h => by
          rw [hr]; unfold checkOf; rw [if_neg hN, if_neg (by omega), h]; simp
        have hr0 : goodTo N gs gs.length = true → gs.length ≠ 0 → r = 0 := fun h h' => by
          rw [hr]; unfold checkOf; rw [if_neg hN, if_neg (by omega), if_neg h', h]; simp
        have hre : gs.length = 0 → r = 1 := fun h => by
          rw [hr]; unfold checkOf; rw [if_neg hN, if_neg (by omega), if_pos h]
        have HR1 := Lib.hid hr1
        have HR0 := Lib.hid hr0
        have HRE := Lib.hid hre
        clear hr1 hr0 hre hr hN
        generalize sizeOf gs = sz at *
        have A1 := Lib.hid a1
        clear a1
        go_enter Try.func34, Try.ntmps34
        go_wp2_with (go_at_call 63; refine (A1.out _ (by go_grown)).mono ?_; rintro e w' ⟨rfl, hbb⟩; obtain ⟨hc, hf⟩ := bcell hbb; have hsz' := hbb.size)
        go_loopw [3] (fun i wr => ∃ k : Nat, k ≤ gs.length ∧ i = .int .i64 k ∧ goodTo N gs k = true ∧ Blk wr w.heap.size 24 #[.int .i64 N, .slice A gs.length c] ∧ Below w.heap.size w wr) (fun i _ => gs.length - (intOf i).toNat)
        case atStart => exact ⟨0, Nat.zero_le _, rfl, rfl, (Blk.new _ _ _).keep hbb, Below.trans (by go_grown) (hbb.mono (by simp))⟩
        case round =>
          obtain ⟨k, hk, rfl, hgo, hblk, hb⟩ := hrel
          have HGO := Lib.hid hgo
          clear hgo hc hf hsz'
          have c0 := hblk.cell 0
          have c1 := hblk.cell 1
          simp at c0 c1
          have lt0 := hblk.lt
          by_cases hlt : k < gs.length
          · obtain ⟨b, o, A', c', rfl, hbB, h0, h1, h2, hI, hnc, hcm'⟩ := hg.at_ (hb.mono hB) hlt
            have hbl : b < wr.heap.size := by have := hb.size; omega
            have g1 := goodTo_succ N gs k
            rw [HGO.out, goodAt_eq N gs k hlt, Bool.true_and] at g1
            have hfalse := fun h => HR1.out (goodTo_false N gs k gs.length hlt ((goodAt_eq N gs k hlt).trans h))
            generalize gs[k] = g at h0 h1 h2 hI hnc g1 hfalse
            obtain ⟨gk, gl, gi⟩ := g
            simp only at h0 h1 h2 hI hnc
            have hz : gi.length ≤ 9223372036854775807 := by unfold maxLen at hcm'; omega
            have hgg : goodGate N k ⟨gk, gl, gi⟩ = (allowedB gk gi.length && (if gk = 2 then litOk gl N else decide (gl = 0)) && gi.all (inOk k)) := rfl
            rw [hgg] at g1 hfalse
            clear hgg
            have a1 : ∀ w, Calls Try.prog 64 #[(.int .i64 (gk)), .int .i64 (gi.length : Int)] w fun e w' => e = .returned (.bool (allowedB gk gi.length)) ∧ w = w' := ref07_allowed gk gi.length
            have a2 : ∀ w, Calls Try.prog 65 #[(.int .i64 (gl)), (.int .i64 (N))] w fun e w' => e = .returned (.bool (litOk gl N)) ∧ w = w' := fun w => ref07_literal gl N w hN0 hN1
            generalize allowedB gk gi.length = y1 at a1 g1 hfalse
            generalize litOk gl N = y2 at a2 g1 hfalse
            have A1' := Lib.hid a1
            have A2 := Lib.hid a2
            have G1 := Lib.hid g1
            have HFL := Lib.hid hfalse
            clear a1 a2 g1 hfalse
            cases y1
            · have e : r = 1 := HFL.out (by simp)
              subst e
              go_wp2_with (go_at_call 64; refine (A1'.out _).mono ?_; rintro e w' ⟨rfl, rfl⟩)
              go_ret
              exact ⟨rfl, hb.alloc hb.size _⟩
            · have inner : (if gk = 2 then y2 else decide (gl = 0)) = true → True := fun _ => trivial
              clear inner
              by_cases hk2 : gk = 2
              · subst hk2
                cases y2
                · have e : r = 1 := HFL.out (by simp)
                  subst e
                  go_wp2_with (first | (go_at_call 64; refine (A1'.out _).mono ?_; rintro e w' ⟨rfl, rfl⟩) | (go_at_call 65; refine (A2.out _).mono ?_; rintro e w' ⟨rfl, rfl⟩))
                  go_ret
                  exact ⟨rfl, hb.alloc hb.size _⟩
                · go_wp2_with (first | (go_at_call 64; refine (A1'.out _).mono ?_; rintro e w' ⟨rfl, rfl⟩) | (go_at_call 65; refine (A2.out _).mono ?_; rintro e w' ⟨rfl, rfl⟩))
                  go_loop [5] (fun j => ∃ n : Nat, n ≤ gi.length ∧ j = .int .i64 n ∧ (gi.take n).all (inOk k) = true) (fun j => gi.length - (intOf j).toNat)
                  case atStart => exact ⟨0, Nat.zero_le _, rfl, rfl⟩
                  case round =>
                    obtain ⟨n, hn, rfl, hall⟩ := hrel
                    have HALL := Lib.hid hall
                    clear hall
                    by_cases hlt2 : n < gi.length
                    · obtain ⟨b', o', rfl, hbB', hcell⟩ := hI.at_ (Below.refl _ _) hlt2
                      have hbl' : b' < wr.heap.size := by have := hb.size; omega
                      have hs1 := all_take_succ gi n hlt2 (inOk k)
                      have hs2 := all_false gi n hlt2 (inOk k)
                      generalize gi[n] = x at hcell hs1 hs2
                      rw [HALL.out, Bool.true_and] at hs1
                      have HS1 := Lib.hid hs1
                      have HS2 := Lib.hid hs2
                      clear hs1 hs2
                      by_cases hx : 0 ≤ x ∧ x < k
                      · have ho : inOk k x = true := by unfold inOk; simp; exact hx
                        have HO := Lib.hid ho
                        obtain ⟨hx1, hx2⟩ := hx
                        clear ho
                        go_wp2
                        go_round
                        case rel => exact ⟨n + 1, by omega, by go_num, by rw [HS1.out, HO.out]⟩
                        case measure => simp [intOf]; omega
                      · have ho : inOk k x = false := by unfold inOk; simp; omega
                        have e : r = 1 := HFL.out (by rw [HS2.out ho]; simp)
                        subst e
                        clear ho
                        rcases (show x < 0 ∨ (0 ≤ x ∧ (k : Int) ≤ x) from by omega) with h9 | ⟨h9, h9'⟩
                        all_goals
                          go_wp2
                          go_ret
                          exact ⟨rfl, hb.alloc hb.size _⟩
                    · have e : n = gi.length := by omega
                      subst e
                      rw [List.take_length] at HALL
                      go_wp2
                      go_roundw
                      case rel => exact ⟨k + 1, by omega, by go_num, by rw [G1.out, HALL.out]; simp, hblk.alloc _, hb.alloc hb.size _⟩
                      case measure => simp [intOf]; omega
              · have hk2' : (gk == 2) = false := by simp [hk2]
                have hk3 : (gk != 2) = true := by simp [hk2]
                rw [if_neg hk2] at G1 HFL
                by_cases hl : gl = 0
                · have hl2 : decide (gl = 0) = true := by simp [hl]
                  rw [hl2] at G1 HFL
                  subst hl
                  clear hl2 hk2
                  go_wp2_with (go_at_call 64; refine (A1'.out _).mono ?_; rintro e w' ⟨rfl, rfl⟩)
                  go_loop [5] (fun j => ∃ n : Nat, n ≤ gi.length ∧ j = .int .i64 n ∧ (gi.take n).all (inOk k) = true) (fun j => gi.length - (intOf j).toNat)
                  case atStart => exact ⟨0, Nat.zero_le _, rfl, rfl⟩
                  case round =>
                    obtain ⟨n, hn, rfl, hall⟩ := hrel
                    have HALL := Lib.hid hall
                    clear hall
                    by_cases hlt2 : n < gi.length
                    · obtain ⟨b', o', rfl, hbB', hcell⟩ := hI.at_ (Below.refl _ _) hlt2
                      have hbl' : b' < wr.heap.size := by have := hb.size; omega
                      have hs1 := all_take_succ gi n hlt2 (inOk k)
                      have hs2 := all_false gi n hlt2 (inOk k)
                      generalize gi[n] = x at hcell hs1 hs2
                      rw [HALL.out, Bool.true_and] at hs1
                      have HS1 := Lib.hid hs1
                      have HS2 := Lib.hid hs2
                      clear hs1 hs2
                      by_cases hx : 0 ≤ x ∧ x < k
                      · have ho : inOk k x = true := by unfold inOk; simp; exact hx
                        have HO := Lib.hid ho
                        obtain ⟨hx1, hx2⟩ := hx
                        clear ho
                        go_wp2
                        go_round
                        case rel => exact ⟨n + 1, by omega, by go_num, by rw [HS1.out, HO.out]⟩
                        case measure => simp [intOf]; omega
                      · have ho : inOk k x = false := by unfold inOk; simp; omega
                        have e : r = 1 := HFL.out (by rw [HS2.out ho]; simp)
                        subst e
                        clear ho
                        rcases (show x < 0 ∨ (0 ≤ x ∧ (k : Int) ≤ x) from by omega) with h9 | ⟨h9, h9'⟩
                        all_goals
                          go_wp2
                          go_ret
                          exact ⟨rfl, hb.alloc hb.size _⟩
                    · have e : n = gi.length := by omega
                      subst e
                      rw [List.take_length] at HALL
                      go_wp2
                      go_roundw
                      case rel => exact ⟨k + 1, by omega, by go_num, by rw [G1.out, HALL.out]; simp, hblk.alloc _, hb.alloc hb.size _⟩
                      case measure => simp [intOf]; omega
                · have hl' : (gl != 0) = true := by simp [hl]
                  have hl2 : decide (gl = 0) = false := by simp [hl]
                  rw [hl2] at HFL
                  have e : r = 1 := HFL.out (by simp)
                  subst e
                  clear hl2 hk2 hl
                  go_wp2_with (go_at_call 64; refine (A1'.out _).mono ?_; rintro e w' ⟨rfl, rfl⟩)
                  all_goals (go_ret; exact ⟨rfl, hb.alloc hb.size _⟩)
          · have e : k = gs.length := by omega
            subst e
            by_cases h0 : gs.length = 0
            · have e : r = 1 := HRE.out h0
              subst e
              have h0' : ((gs.length : Int) == 0) = true := by simp [h0]
              clear h0
              go_wp2
              go_ret
              exact ⟨rfl, hb⟩
            · have e : r = 0 := HR0.out HGO.out h0
              subst e
              have h0' : ((gs.length : Int) == 0) = false := by simp [h0]
              clear h0
              go_wp2
              go_ret
              exact ⟨rfl, hb⟩
end Go.Proofs.Ytlifakbdgmdafaa
