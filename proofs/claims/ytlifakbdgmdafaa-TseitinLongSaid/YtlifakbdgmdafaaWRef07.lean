/-
  The reference on circuits (censusref07): Size, allowed, literal, Check. The reference's Check of circuits (censusref07). The reference's value and Eval of circuits (censusref07).
-/
import Derived.Test.YtlifakbdgmdafaaWEval2
import Derived.Test.YtlifakbdgmdafaaWSets5
import Derived.Test.YtlifakbdgmdafaaOwn
import Derived.Test.YtlifakbdgmdafaaSem
namespace Go.Proofs.Ytlifakbdgmdafaa
open Go Go.RowKit

set_option maxHeartbeats 400000 in
theorem ref07_size (N : Int) (V : Value) (gs : List Gate) (w : World) (B : Nat) (hB : B ≤ w.heap.size) (hg : GatesV w B V gs) (hs : sizeOf gs ≤ 4611686018427387904) :
    Calls Try.prog 63 #[.agg #[.int .i64 N, V]] w fun e w' => e = .returned (.int .i64 ((sizeOf gs : Nat) : Int)) ∧ Below w.heap.size w w' := by
  obtain ⟨A, c, rfl, hlc, hcm, _⟩ := id hg
  unfold maxLen at hcm
  go_enter Try.func63, Try.ntmps63
  go_wp2
  go_loop [3, 4] (fun s i => ∃ k : Nat, k ≤ gs.length ∧ i = .int .i64 k ∧ s = .int .i64 ((sizeTo gs k : Nat) : Int)) (fun _ i => gs.length - (intOf i).toNat)
  case atStart => exact ⟨0, Nat.zero_le _, rfl, by rw [sizeTo_zero]; rfl⟩
  case round =>
    obtain ⟨k, hk, rfl, rfl⟩ := hrel
    by_cases hlt : k < gs.length
    · obtain ⟨b, o, A', c', rfl, hbB, h0, h1, h2, hI, hnc, hcm'⟩ := hg.at_ (Below.refl _ _) hlt
      have hbl : b < w.heap.size := by omega
      have hsz := Lib.hid (sizeTo_succ gs k hlt)
      have hle1 := sizeTo_le gs (k + 1)
      have hle2 := sizeTo_succ gs k hlt
      have hle : sizeTo gs k + gs[k].inp.length ≤ 4611686018427387904 := by omega
      clear hle1 hle2
      go_wp2
      go_round
      case rel => exact ⟨k + 1, by omega, by go_num, by rw [hsz.out]; simp⟩
      case measure => simp [intOf]; omega
    · go_wp2
      go_ret
      have : k = gs.length := by omega
      subst this
      exact ⟨rfl, by go_grown⟩

set_option maxHeartbeats 800000 in
theorem ref07_allowed (k n : Int) (w : World) :
    Calls Try.prog 64 #[(.int .i64 (k)), (.int .i64 (n))] w fun e w' => e = .returned (.bool (allowedB k n)) ∧ w = w' := by
  by_cases h0 : k = 0
  · subst h0
    go_enter Try.func64, Try.ntmps64
    go_wp2
    go_ret
    exact ⟨ret_bool (by simp [allowedB]), rfl⟩
  by_cases h1 : k = 1
  · subst h1
    go_enter Try.func64, Try.ntmps64
    go_wp2
    go_ret
    exact ⟨ret_bool (by simp [allowedB]), rfl⟩
  by_cases h2 : k = 2
  · subst h2
    go_enter Try.func64, Try.ntmps64
    go_wp2
    go_ret
    exact ⟨ret_bool (by simp [allowedB]), rfl⟩
  by_cases h3 : k = 3
  · subst h3
    go_enter Try.func64, Try.ntmps64
    go_wp2
    go_ret
    exact ⟨ret_bool (by simp [allowedB]), rfl⟩
  by_cases h7 : k = 7
  · subst h7
    go_enter Try.func64, Try.ntmps64
    go_wp2
    go_ret
    exact ⟨ret_bool (by simp [allowedB]), rfl⟩
  by_cases h8 : k = 8
  · subst h8
    go_enter Try.func64, Try.ntmps64
    go_wp2
    go_ret
    exact ⟨ret_bool (by simp [allowedB]), rfl⟩
  have e0 : (k == 0) = false := by simp [h0]
  have e1 : (k == 1) = false := by simp [h1]
  have e2 : (k == 2) = false := by simp [h2]
  have e3 : (k == 3) = false := by simp [h3]
  have e7 : (k == 7) = false := by simp [h7]
  have e8 : (k == 8) = false := by simp [h8]
  have hv : allowedB k n = (k == 4 || k == 5 || k == 6) := by simp [allowedB, h0, h1, h2, h3, h7, h8]
  rw [hv]
  clear hv h0 h1 h2 h3 h7 h8
  by_cases h4 : k = 4
  · subst h4
    go_enter Try.func64, Try.ntmps64
    go_wp2
    go_ret
    exact ⟨rfl, rfl⟩
  by_cases h5 : k = 5
  · subst h5
    go_enter Try.func64, Try.ntmps64
    go_wp2
    go_ret
    exact ⟨rfl, rfl⟩
  have e4 : (k == 4) = false := by simp [h4]
  have e5 : (k == 5) = false := by simp [h5]
  clear h4 h5
  go_enter Try.func64, Try.ntmps64
  go_wp2
  go_ret
  exact ⟨ret_bool (by simp [e4, e5]), rfl⟩

theorem ref07_literal (l n : Int) (w : World) (h0 : 0 ≤ n) (h1 : n ≤ 128) :
    Calls Try.prog 65 #[(.int .i64 (l)), (.int .i64 (n))] w fun e w' => e = .returned (.bool (litOk l n)) ∧ w = w' := by
  have e : litOk l n = (decide (1 ≤ l) && decide (l ≤ n) || decide (l ≤ -1) && decide (-n ≤ l)) := by
    rw [Bool.eq_iff_iff, litOk_iff l n h0 h1]; simp; omega
  rw [e]
  clear e
  by_cases a1 : 1 ≤ l
  · by_cases a2 : l ≤ n
    · go_enter Try.func65, Try.ntmps65
      go_wp2
      go_ret
      exact ⟨ret_bool (by simp [a1, a2]), rfl⟩
    · have a3 : ¬ l ≤ -1 := by omega
      go_enter Try.func65, Try.ntmps65
      go_wp2
      go_ret
      exact ⟨ret_bool (by simp; omega), rfl⟩
  · by_cases a2 : l ≤ -1
    · go_enter Try.func65, Try.ntmps65
      go_wp2
      go_ret
      exact ⟨ret_bool (by simp; try omega), rfl⟩
    · go_enter Try.func65, Try.ntmps65
      go_wp2
      go_ret
      exact ⟨ret_bool (by simp; try omega), rfl⟩
end Go.Proofs.Ytlifakbdgmdafaa

namespace Go.Proofs.Ytlifakbdgmdafaa
open Go Go.RowKit

theorem all_take_succ (l : List Int) (k : Nat) (h : k < l.length) (p : Int → Bool) : (l.take (k + 1)).all p = ((l.take k).all p && p l[k]) := by
  rw [List.take_succ_eq_append_getElem h, List.all_append]; simp
theorem all_false (l : List Int) (k : Nat) (h : k < l.length) (p : Int → Bool) (hp : p l[k] = false) : l.all p = false := by
  rw [List.all_eq_false]
  exact ⟨_, List.getElem_mem h, by simp [hp]⟩

set_option maxRecDepth 100000 in
set_option maxHeartbeats 3200000 in
theorem ref07_check (N : Int) (V : Value) (gs : List Gate) (w : World) (B : Nat) (hB : B ≤ w.heap.size) (hg : GatesV w B V gs) (hs : sizeOf gs ≤ 4611686018427387904) :
    Calls Try.prog 34 #[.agg #[.int .i64 N, V]] w fun e w' => e = .returned (.int .i64 (checkOf N gs)) ∧ Below w.heap.size w w' := by
  obtain ⟨A, c, rfl, hlc, hcm, _⟩ := id hg
  unfold maxLen at hcm
  obtain ⟨r, hr⟩ : ∃ r, r = checkOf N gs := ⟨_, rfl⟩
  rw [← hr]
  by_cases hN : N < 0 ∨ 128 < N
  · have e : r = 6 := by rw [hr]; unfold checkOf; rw [if_pos hN]
    subst e
    clear hr
    rcases hN with hN | hN
    all_goals
      go_enter Try.func34, Try.ntmps34
      go_wp2
      go_ret
      exact ⟨rfl, by go_grown⟩
  · have hN0 : 0 ≤ N := by omega
    have hN1 : N ≤ 128 := by omega
    have a1 : ∀ (w1 : World), Below w.heap.size w w1 → Calls Try.prog 63 #[.agg #[.int .i64 N, .slice A gs.length c]] w1 fun e w' => e = .returned (.int .i64 ((sizeOf gs : Nat) : Int)) ∧ Below w1.heap.size w1 w' :=
      fun w1 hb => ref07_size N _ gs w1 B (Nat.le_trans hB hb.size) (hg.below (hb.mono hB)) hs
    by_cases hlen : 4096 < gs.length
    · have e : r = 2 := by rw [hr]; unfold checkOf; rw [if_neg hN, if_pos (.inl hlen)]
      subst e
      clear hr hN
      go_enter Try.func34, Try.ntmps34
      go_wp2
      go_ret
      exact ⟨rfl, by go_grown⟩
    · by_cases hsz : 65536 < sizeOf gs
      · have e : r = 2 := by rw [hr]; unfold checkOf; rw [if_neg hN, if_pos (.inr hsz)]
        subst e
        clear hr hN
        generalize sizeOf gs = sz at *
        have A1 := Lib.hid a1
        clear a1
        go_enter Try.func34, Try.ntmps34
        go_wp2_with (go_at_call 63; refine (A1.out _ (by go_grown)).mono ?_; rintro e w' ⟨rfl, hbb⟩)
        go_ret
        exact ⟨rfl, Below.trans (by go_grown) (hbb.mono (by simp))⟩
      · have hr1 : goodTo N gs gs.length = false → r = 1 := fun h => by
          rw [hr]; unfold checkOf; rw [if_neg hN, if_neg (by omega), h]; simp
        have hr0 : goodTo N gs gs.length = true → gs.length ≠ 0 → r = 0 := fun h h' => by
          rw [hr]; unfold checkOf; rw [if_neg hN, if_neg (by omega), if_neg h', h]; simp
        have hre : gs.length = 0 → r = 1 := fun h => by
          rw [hr]; unfold checkOf; rw [if_neg hN, if_neg (by omega), if_pos h]
        have HR1 := Lib.hid hr1
        have HR0 := Lib.hid hr0
        have HRE := Lib.hid hre
        clear hr1 hr0 hre hr hN
        generalize sizeOf gs = sz at *
        have A1 := Lib.hid a1
        clear a1
        go_enter Try.func34, Try.ntmps34
        go_wp2_with (go_at_call 63; refine (A1.out _ (by go_grown)).mono ?_; rintro e w' ⟨rfl, hbb⟩; obtain ⟨hc, hf⟩ := bcell hbb; have hsz' := hbb.size)
        go_loopw [3] (fun i wr => ∃ k : Nat, k ≤ gs.length ∧ i = .int .i64 k ∧ goodTo N gs k = true ∧ Blk wr w.heap.size 24 #[.int .i64 N, .slice A gs.length c] ∧ Below w.heap.size w wr) (fun i _ => gs.length - (intOf i).toNat)
        case atStart => exact ⟨0, Nat.zero_le _, rfl, rfl, (Blk.new _ _ _).keep hbb, Below.trans (by go_grown) (hbb.mono (by simp))⟩
        case round =>
          obtain ⟨k, hk, rfl, hgo, hblk, hb⟩ := hrel
          have HGO := Lib.hid hgo
          clear hgo hc hf hsz'
          have c0 := hblk.cell 0
          have c1 := hblk.cell 1
          simp at c0 c1
          have lt0 := hblk.lt
          by_cases hlt : k < gs.length
          · obtain ⟨b, o, A', c', rfl, hbB, h0, h1, h2, hI, hnc, hcm'⟩ := hg.at_ (hb.mono hB) hlt
            have hbl : b < wr.heap.size := by have := hb.size; omega
            have g1 := goodTo_succ N gs k
            rw [HGO.out, goodAt_eq N gs k hlt, Bool.true_and] at g1
            have hfalse := fun h => HR1.out (goodTo_false N gs k gs.length hlt ((goodAt_eq N gs k hlt).trans h))
            generalize gs[k] = g at h0 h1 h2 hI hnc g1 hfalse
            obtain ⟨gk, gl, gi⟩ := g
            simp only at h0 h1 h2 hI hnc
            have hz : gi.length ≤ 9223372036854775807 := by unfold maxLen at hcm'; omega
            have hgg : goodGate N k ⟨gk, gl, gi⟩ = (allowedB gk gi.length && (if gk = 2 then litOk gl N else decide (gl = 0)) && gi.all (inOk k)) := rfl
            rw [hgg] at g1 hfalse
            clear hgg
            have a1 : ∀ w, Calls Try.prog 64 #[(.int .i64 (gk)), .int .i64 (gi.length : Int)] w fun e w' => e = .returned (.bool (allowedB gk gi.length)) ∧ w = w' := ref07_allowed gk gi.length
            have a2 : ∀ w, Calls Try.prog 65 #[(.int .i64 (gl)), (.int .i64 (N))] w fun e w' => e = .returned (.bool (litOk gl N)) ∧ w = w' := fun w => ref07_literal gl N w hN0 hN1
            generalize allowedB gk gi.length = y1 at a1 g1 hfalse
            generalize litOk gl N = y2 at a2 g1 hfalse
            have A1' := Lib.hid a1
            have A2 := Lib.hid a2
            have G1 := Lib.hid g1
            have HFL := Lib.hid hfalse
            clear a1 a2 g1 hfalse
            cases y1
            · have e : r = 1 := HFL.out (by simp)
              subst e
              go_wp2_with (go_at_call 64; refine (A1'.out _).mono ?_; rintro e w' ⟨rfl, rfl⟩)
              go_ret
              exact ⟨rfl, hb.alloc hb.size _⟩
            · have inner : (if gk = 2 then y2 else decide (gl = 0)) = true → True := fun _ => trivial
              clear inner
              by_cases hk2 : gk = 2
              · subst hk2
                cases y2
                · have e : r = 1 := HFL.out (by simp)
                  subst e
                  go_wp2_with (first | (go_at_call 64; refine (A1'.out _).mono ?_; rintro e w' ⟨rfl, rfl⟩) | (go_at_call 65; refine (A2.out _).mono ?_; rintro e w' ⟨rfl, rfl⟩))
                  go_ret
                  exact ⟨rfl, hb.alloc hb.size _⟩
                · go_wp2_with (first | (go_at_call 64; refine (A1'.out _).mono ?_; rintro e w' ⟨rfl, rfl⟩) | (go_at_call 65; refine (A2.out _).mono ?_; rintro e w' ⟨rfl, rfl⟩))
                  go_loop [5] (fun j => ∃ n : Nat, n ≤ gi.length ∧ j = .int .i64 n ∧ (gi.take n).all (inOk k) = true) (fun j => gi.length - (intOf j).toNat)
                  case atStart => exact ⟨0, Nat.zero_le _, rfl, rfl⟩
                  case round =>
                    obtain ⟨n, hn, rfl, hall⟩ := hrel
                    have HALL := Lib.hid hall
                    clear hall
                    by_cases hlt2 : n < gi.length
                    · obtain ⟨b', o', rfl, hbB', hcell⟩ := hI.at_ (Below.refl _ _) hlt2
                      have hbl' : b' < wr.heap.size := by have := hb.size; omega
                      have hs1 := all_take_succ gi n hlt2 (inOk k)
                      have hs2 := all_false gi n hlt2 (inOk k)
                      generalize gi[n] = x at hcell hs1 hs2
                      rw [HALL.out, Bool.true_and] at hs1
                      have HS1 := Lib.hid hs1
                      have HS2 := Lib.hid hs2
                      clear hs1 hs2
                      by_cases hx : 0 ≤ x ∧ x < k
                      · have ho : inOk k x = true := by unfold inOk; simp; exact hx
                        have HO := Lib.hid ho
                        obtain ⟨hx1, hx2⟩ := hx
                        clear ho
                        go_wp2
                        go_round
                        case rel => exact ⟨n + 1, by omega, by go_num, by rw [HS1.out, HO.out]⟩
                        case measure => simp [intOf]; omega
                      · have ho : inOk k x = false := by unfold inOk; simp; omega
                        have e : r = 1 := HFL.out (by rw [HS2.out ho]; simp)
                        subst e
                        clear ho
                        rcases (show x < 0 ∨ (0 ≤ x ∧ (k : Int) ≤ x) from by omega) with h9 | ⟨h9, h9'⟩
                        all_goals
                          go_wp2
                          go_ret
                          exact ⟨rfl, hb.alloc hb.size _⟩
                    · have e : n = gi.length := by omega
                      subst e
                      rw [List.take_length] at HALL
                      go_wp2
                      go_roundw
                      case rel => exact ⟨k + 1, by omega, by go_num, by rw [G1.out, HALL.out]; simp, hblk.alloc _, hb.alloc hb.size _⟩
                      case measure => simp [intOf]; omega
              · have hk2' : (gk == 2) = false := by simp [hk2]
                have hk3 : (gk != 2) = true := by simp [hk2]
                rw [if_neg hk2] at G1 HFL
                by_cases hl : gl = 0
                · have hl2 : decide (gl = 0) = true := by simp [hl]
                  rw [hl2] at G1 HFL
                  subst hl
                  clear hl2 hk2
                  go_wp2_with (go_at_call 64; refine (A1'.out _).mono ?_; rintro e w' ⟨rfl, rfl⟩)
                  go_loop [5] (fun j => ∃ n : Nat, n ≤ gi.length ∧ j = .int .i64 n ∧ (gi.take n).all (inOk k) = true) (fun j => gi.length - (intOf j).toNat)
                  case atStart => exact ⟨0, Nat.zero_le _, rfl, rfl⟩
                  case round =>
                    obtain ⟨n, hn, rfl, hall⟩ := hrel
                    have HALL := Lib.hid hall
                    clear hall
                    by_cases hlt2 : n < gi.length
                    · obtain ⟨b', o', rfl, hbB', hcell⟩ := hI.at_ (Below.refl _ _) hlt2
                      have hbl' : b' < wr.heap.size := by have := hb.size; omega
                      have hs1 := all_take_succ gi n hlt2 (inOk k)
                      have hs2 := all_false gi n hlt2 (inOk k)
                      generalize gi[n] = x at hcell hs1 hs2
                      rw [HALL.out, Bool.true_and] at hs1
                      have HS1 := Lib.hid hs1
                      have HS2 := Lib.hid hs2
                      clear hs1 hs2
                      by_cases hx : 0 ≤ x ∧ x < k
                      · have ho : inOk k x = true := by unfold inOk; simp; exact hx
                        have HO := Lib.hid ho
                        obtain ⟨hx1, hx2⟩ := hx
                        clear ho
                        go_wp2
                        go_round
                        case rel => exact ⟨n + 1, by omega, by go_num, by rw [HS1.out, HO.out]⟩
                        case measure => simp [intOf]; omega
                      · have ho : inOk k x = false := by unfold inOk; simp; omega
                        have e : r = 1 := HFL.out (by rw [HS2.out ho]; simp)
                        subst e
                        clear ho
                        rcases (show x < 0 ∨ (0 ≤ x ∧ (k : Int) ≤ x) from by omega) with h9 | ⟨h9, h9'⟩
                        all_goals
                          go_wp2
                          go_ret
                          exact ⟨rfl, hb.alloc hb.size _⟩
                    · have e : n = gi.length := by omega
                      subst e
                      rw [List.take_length] at HALL
                      go_wp2
                      go_roundw
                      case rel => exact ⟨k + 1, by omega, by go_num, by rw [G1.out, HALL.out]; simp, hblk.alloc _, hb.alloc hb.size _⟩
                      case measure => simp [intOf]; omega
                · have hl' : (gl != 0) = true := by simp [hl]
                  have hl2 : decide (gl = 0) = false := by simp [hl]
                  rw [hl2] at HFL
                  have e : r = 1 := HFL.out (by simp)
                  subst e
                  clear hl2 hk2 hl
                  go_wp2_with (go_at_call 64; refine (A1'.out _).mono ?_; rintro e w' ⟨rfl, rfl⟩)
                  all_goals (go_ret; exact ⟨rfl, hb.alloc hb.size _⟩)
          · have e : k = gs.length := by omega
            subst e
            by_cases h0 : gs.length = 0
            · have e : r = 1 := HRE.out h0
              subst e
              have h0' : ((gs.length : Int) == 0) = true := by simp [h0]
              clear h0
              go_wp2
              go_ret
              exact ⟨rfl, hb⟩
            · have e : r = 0 := HR0.out HGO.out h0
              subst e
              have h0' : ((gs.length : Int) == 0) = false := by simp [h0]
              clear h0
              go_wp2
              go_ret
              exact ⟨rfl, hb⟩
end Go.Proofs.Ytlifakbdgmdafaa

namespace Go.Proofs.Ytlifakbdgmdafaa
open Go Go.RowKit

def refHolds (s : VS) (l : Int) : Bool := if l < 0 then !s.has (-l) else s.has l
theorem refHolds_eq {s : VS} {l : Int} (h : okL 128 l) : refHolds s l = litHolds s l := by
  unfold refHolds
  unfold okL at h
  by_cases hl : l < 0
  · rw [if_pos hl, ← litHolds_var (by omega) (by omega), litHolds_neg (by unfold okL; omega)]; simp
  · rw [if_neg hl, litHolds_var (by omega) (by omega)]

theorem ref07_holds (s : VS) (l : Int) (w : World) (h0 : -9223372036854775807 ≤ l) (h1 : l ≤ 9223372036854775807) :
    Calls Try.prog 69 #[(.agg #[.int .u64 ((s).a.toNat : Int), .int .u64 ((s).b.toNat : Int)]), (.int .i64 (l))] w fun e w' => e = .returned (.bool (refHolds s l)) ∧ Below w.heap.size w w' := by
  unfold refHolds
  by_cases hl : l < 0
  · rw [if_pos hl]
    have k : ∀ W, Calls Try.prog 25 #[(.agg #[.int .u64 ((s).a.toNat : Int), .int .u64 ((s).b.toNat : Int)]), (.int .i64 (-l))] W fun e w' => e = .returned (.bool (s.has (-l))) ∧ Below W.heap.size W w' := fun W => ref03_has s.a s.b (-l) W
    generalize VS.has s (-l) = y at k ⊢
    have K := Lib.hid k
    clear k
    go_enter Try.func69, Try.ntmps69
    go_wp2_with fail
    refine (K.out _).mono ?_
    rintro e w1 ⟨rfl, hb⟩
    go_wp2
    go_ret
    exact ⟨rfl, Below.trans (by go_grown) (hb.mono (by simp))⟩
  · rw [if_neg hl]
    have k : ∀ W, Calls Try.prog 25 #[(.agg #[.int .u64 ((s).a.toNat : Int), .int .u64 ((s).b.toNat : Int)]), (.int .i64 (l))] W fun e w' => e = .returned (.bool (s.has l)) ∧ Below W.heap.size W w' := fun W => ref03_has s.a s.b l W
    generalize VS.has s l = y at k ⊢
    have K := Lib.hid k
    clear k
    have hl' : 0 ≤ l := by omega
    clear hl
    go_enter Try.func69, Try.ntmps69
    go_wp2_with fail
    refine (K.out _).mono ?_
    rintro e w1 ⟨rfl, hb⟩
    go_wp2
    go_ret
    exact ⟨rfl, Below.trans (by go_grown) (hb.mono (by simp))⟩

set_option maxRecDepth 100000 in
set_option maxHeartbeats 6400000 in
theorem ref07_value (g : Gate) (IV : Value) (s : VS) (VV : Value) (v : List Bool) (w : World) (B B2 : Nat) (hB : B ≤ w.heap.size) (hB2 : B2 ≤ w.heap.size) (hi : IntsV w B IV g.inp) (hv : BoolsV w B2 VV v)
    (hin : ∀ (i : Nat) (x : Int), g.inp[i]? = some x → 0 ≤ x ∧ x < v.length) (h8 : g.kind = 8 → g.inp.length = 3) (h7 : g.kind = 7 → g.inp.length = 2) (h2 : g.kind = 2 → okL 128 g.lit) :
    Calls Try.prog 44 #[.agg #[.int .i64 g.kind, .int .i64 g.lit, IV], (.agg #[.int .u64 ((s).a.toNat : Int), .int .u64 ((s).b.toNat : Int)]), VV] w fun e w' => e = .returned (.bool (valueOf g s v)) ∧ Below w.heap.size w w' := by
  obtain ⟨gk, gl, gi⟩ := g
  simp only at hi hin h8 h7 h2 ⊢
  obtain ⟨A, c, rfl, hlc, hcm, _⟩ := id hi
  obtain ⟨A2, c2, rfl, hlc2, hcm2, _⟩ := id hv
  unfold maxLen at hcm hcm2
  have HIN := Lib.hid hin
  have H8 := Lib.hid h8
  have H7 := Lib.hid h7
  clear hin h8 h7
  obtain ⟨r, hr⟩ : ∃ r, r = valueOf ⟨gk, gl, gi⟩ s v := ⟨_, rfl⟩
  rw [← hr]
  have HR := Lib.hid hr
  clear hr
  have hlen : (inVals ⟨gk, gl, gi⟩ v).length = gi.length := by simp [inVals]
  have HLEN := Lib.hid hlen
  clear hlen
  have KH : gk = 2 → Hid (∀ w, Calls Try.prog 69 #[(.agg #[.int .u64 ((s).a.toNat : Int), .int .u64 ((s).b.toNat : Int)]), (.int .i64 (gl))] w fun e w' => e = .returned (.bool (litHolds s gl)) ∧ Below w.heap.size w w') := fun h => by
    have hk := h2 h
    intro w
    rw [← refHolds_eq hk]
    unfold okL at hk
    exact ref07_holds s gl w (by omega) (by omega)
  have HKH := Lib.hid KH
  clear KH h2
  go_enter Try.func44, Try.ntmps44
  go_wp2
  have hb0 := (Blk.new w 44 #[.int .i64 gk, .int .i64 gl, .slice A gi.length c]).alloc (.cells #[.int .u64 (s.a.toNat : Int), .int .u64 (s.b.toNat : Int)] 38)
  have hb1 : Blk ((w.alloc (.cells #[.int .i64 gk, .int .i64 gl, .slice A gi.length c] 44)).alloc (.cells #[.int .u64 (s.a.toNat : Int), .int .u64 (s.b.toNat : Int)] 38)) (w.heap.size + 1) 38 #[.int .u64 (s.a.toNat : Int), .int .u64 (s.b.toNat : Int)] := Blk.new_ (by simp)
  have hb : Below w.heap.size w ((w.alloc (.cells #[.int .i64 gk, .int .i64 gl, .slice A gi.length c] 44)).alloc (.cells #[.int .u64 (s.a.toNat : Int), .int .u64 (s.b.toNat : Int)] 38)) := by go_grown
  generalize (w.alloc (.cells #[.int .i64 gk, .int .i64 gl, .slice A gi.length c] 44)).alloc (.cells #[.int .u64 (s.a.toNat : Int), .int .u64 (s.b.toNat : Int)] 38) = wr at hb0 hb1 hb ⊢
  have c0 := hb0.cell 0
  have c1 := hb0.cell 1
  have c2 := hb0.cell 2
  have d0 := hb1.cell 0
  have d1 := hb1.cell 1
  simp at c0 c1 c2 d0 d1
  have lt0 := hb0.lt
  have lt1 := hb1.lt
  clear hb0 hb1
  go_loop [7, 8, 9, 10] (fun al an od i => ∃ (k : Nat) (pa po pd : Bool), k ≤ gi.length ∧ i = .int .i64 k ∧ al = .bool pa ∧ an = .bool po ∧ od = .bool pd ∧ Hid (pa = decide (onesOf ((inVals ⟨gk, gl, gi⟩ v).take k) = k)) ∧
      Hid (po = decide (0 < onesOf ((inVals ⟨gk, gl, gi⟩ v).take k))) ∧ Hid (pd = decide (onesOf ((inVals ⟨gk, gl, gi⟩ v).take k) % 2 = 1))) (fun _ _ _ i => gi.length - (intOf i).toNat)
  case atStart => exact ⟨0, true, false, false, by omega, rfl, rfl, rfl, rfl, by show _ = _; simp [onesOf_nil], by show _ = _; simp [onesOf_nil], by show _ = _; simp [onesOf_nil]⟩
  case round =>
    obtain ⟨k, pa, po, pd, hk, rfl, rfl, rfl, rfl, HA, HO, HD⟩ := hrel
    by_cases hlt : k < gi.length
    · obtain ⟨b', o', rfl, hbB, hcell⟩ := hi.at_ (hb.mono hB) hlt
      have hx := HIN.out k _ (List.getElem?_eq_getElem hlt)
      have htk := inVals_take ⟨gk, gl, gi⟩ v k hlt
      simp only at htk
      generalize gi[k] = x at hcell hx htk
      obtain ⟨hx0, hx1⟩ := hx
      obtain ⟨n, rfl⟩ := Int.eq_ofNat_of_zero_le hx0
      have hn : n < v.length := by omega
      obtain ⟨b2, o2, rfl, hbB2, hcell2⟩ := hv.at_ (hb.mono hB2) hn
      rw [Int.toNat_natCast, List.getD_eq_getElem?_getD, List.getElem?_eq_getElem hn, Option.getD_some] at htk
      generalize v[n] = y at hcell2 htk
      have hon := onesOf_snoc ((inVals ⟨gk, gl, gi⟩ v).take k) y
      rw [← htk] at hon
      have hle : onesOf ((inVals ⟨gk, gl, gi⟩ v).take k) ≤ k := Nat.le_trans (onesOf_le _) (List.length_take_le _ _)
      have hna : (pa && y) = decide (onesOf ((inVals ⟨gk, gl, gi⟩ v).take (k + 1)) = k + 1) := by
        rw [hon, HA.out]
        cases y
        · simp; omega
        · simp
      have hno : (po || y) = decide (0 < onesOf ((inVals ⟨gk, gl, gi⟩ v).take (k + 1))) := by
        rw [hon, HO.out]
        cases y <;> simp
      have hnd : (pd != y) = decide (onesOf ((inVals ⟨gk, gl, gi⟩ v).take (k + 1)) % 2 = 1) := by
        rw [hon, HD.out]
        generalize onesOf ((inVals ⟨gk, gl, gi⟩ v).take k) = q
        rcases Nat.mod_two_eq_zero_or_one q with hq | hq
        · have : (q + 1) % 2 = 1 := by omega
          cases y <;> simp [hq, this]
        · have : (q + 1) % 2 = 0 := by omega
          cases y <;> simp [hq, this]
      have HNA := Lib.hid hna
      have HNO := Lib.hid hno
      have HND := Lib.hid hnd
      clear hon htk hle hna hno hnd HA HO HD
      cases y
      all_goals
        cases pa
        all_goals
          cases po
          all_goals
            cases pd
            all_goals
              go_wp2
              go_round
              case rel => exact ⟨k + 1, _, _, _, by omega, by go_num, rfl, rfl, rfl, HNA, HNO, HND⟩
              case measure => simp [intOf]; omega
    · have e : k = gi.length := by omega
      subst e
      have ht : (inVals ⟨gk, gl, gi⟩ v).take gi.length = inVals ⟨gk, gl, gi⟩ v := List.take_of_length_le (by rw [HLEN.out]; exact Nat.le_refl _)
      rw [ht] at HA HO HD
      clear ht
      have hon9 := onesOf_le (inVals ⟨gk, gl, gi⟩ v)
      rw [HLEN.out] at hon9
      generalize hon : onesOf (inVals ⟨gk, gl, gi⟩ v) = on at HA HO HD hon9
      have HON := Lib.hid hon
      clear hon
      by_cases k1 : gk = 1
      · subst k1
        go_wp2
        go_ret
        exact ⟨ret_bool (by rw [HR.out]; simp [valueOf]), hb⟩
      by_cases k2 : gk = 2
      · subst k2
        have KH := HKH.out rfl
        clear HKH
        go_wp2_with fail
        refine (KH.out _).mono ?_
        rintro e w' ⟨rfl, hbb⟩
        go_wp2
        go_ret
        exact ⟨ret_bool (by rw [HR.out]; simp [valueOf]), hb.trans (hbb.mono hb.size)⟩
      by_cases k3 : gk = 3
      · subst k3
        go_wp2
        go_ret
        exact ⟨ret_bool (by rw [HR.out]; rw [HO.out, Bool.eq_iff_iff]; simp [valueOf, HON.out]; try omega), hb⟩
      by_cases k4 : gk = 4
      · subst k4
        go_wp2
        go_ret
        exact ⟨ret_bool (by rw [HR.out]; rw [HA.out]; simp [valueOf, HON.out]), hb⟩
      by_cases k5 : gk = 5
      · subst k5
        go_wp2
        go_ret
        exact ⟨ret_bool (by rw [HR.out]; rw [HO.out]; simp [valueOf, HON.out]), hb⟩
      by_cases k6 : gk = 6
      · subst k6
        go_wp2
        go_ret
        exact ⟨ret_bool (by rw [HR.out]; rw [HD.out]; simp [valueOf, HON.out]), hb⟩
      by_cases k7 : gk = 7
      · subst k7
        have h9 : on ≤ 2 := by have := H7.out rfl; omega
        go_wp2
        go_ret
        exact ⟨ret_bool (by rw [HR.out, HD.out]; simp [valueOf, HON.out]; omega), hb⟩
      by_cases k8 : gk = 8
      · subst k8
        have h3 : gi.length = 3 := H8.out rfl
        have el : ∀ j : Nat, j < 3 → ∃ n : Nat, gi[j]? = some (n : Int) ∧ n < v.length := fun j hj => by
          have hj' : j < gi.length := by omega
          have hx := HIN.out j _ (List.getElem?_eq_getElem hj')
          refine ⟨gi[j].toNat, ?_, by omega⟩
          rw [List.getElem?_eq_getElem hj', Int.toNat_of_nonneg hx.1]
        obtain ⟨n0, e0, l0⟩ := el 0 (by omega)
        obtain ⟨n1, e1, l1⟩ := el 1 (by omega)
        obtain ⟨n2, e2, l2⟩ := el 2 (by omega)
        obtain ⟨b', o', rfl, hbB, q0⟩ := hi.at_ (k := 0) (hb.mono hB) (by omega)
        obtain ⟨_, _, ee, _, q1⟩ := hi.at_ (k := 1) (hb.mono hB) (by omega)
        injection ee with ee; injection ee with ee1 ee2; subst ee1 ee2
        obtain ⟨_, _, ee, _, q2⟩ := hi.at_ (k := 2) (hb.mono hB) (by omega)
        injection ee with ee; injection ee with ee1 ee2; subst ee1 ee2
        obtain ⟨b2, o2, rfl, hbB2, r0⟩ := hv.at_ (hb.mono hB2) l0
        obtain ⟨_, _, ee, _, r1⟩ := hv.at_ (hb.mono hB2) l1
        injection ee with ee; injection ee with ee1 ee2; subst ee1 ee2
        obtain ⟨_, _, ee, _, r2⟩ := hv.at_ (hb.mono hB2) l2
        injection ee with ee; injection ee with ee1 ee2; subst ee1 ee2
        have f0 : gi[0] = (n0 : Int) := by rw [List.getElem?_eq_getElem (by omega)] at e0; injection e0
        have f1 : gi[1] = (n1 : Int) := by rw [List.getElem?_eq_getElem (by omega)] at e1; injection e1
        have f2 : gi[2] = (n2 : Int) := by rw [List.getElem?_eq_getElem (by omega)] at e2; injection e2
        rw [f0] at q0
        rw [f1] at q1
        rw [f2] at q2
        simp only [Nat.add_zero] at q0
        have hval : valueOf ⟨8, gl, gi⟩ s v = if v[n0] then v[n1] else v[n2] := by
          simp only [valueOf, pickVal, List.getD_eq_getElem?_getD, e0, e1, e2, Option.getD_some, Int.toNat_natCast, List.getElem?_eq_getElem l0, List.getElem?_eq_getElem l1, List.getElem?_eq_getElem l2]
          rfl
        rw [hval] at HR
        have h3' : 3 ≤ gi.length := by omega
        clear hval e0 e1 e2 f0 f1 f2 el h3
        generalize v[n0] = y0 at *
        generalize v[n1] = y1 at *
        generalize v[n2] = y2 at *
        cases y0
        all_goals
          cases y1
          all_goals
            cases y2
            all_goals
              go_wp2
              go_ret
              exact ⟨ret_bool (by rw [HR.out]; rfl), hb⟩
      · go_wp2
        go_ret
        exact ⟨ret_bool (by rw [HR.out]; simp [valueOf, k1, k2, k3, k4, k5, k6, k7, k8]), hb⟩
end Go.Proofs.Ytlifakbdgmdafaa
