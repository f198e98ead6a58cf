/-
  Lemmas and contracts, joined: WRef07 WRef07d Cworks Claw1 Claw2.
-/
import Derived.Test.YtbemhgojfehnjaaDoorPk1
import Derived.Test.YtbemhgojfehnjaaDoorPk7
import Derived.Test.YtbemhgojfehnjaaDoorPk2
namespace Go.Proofs.YtbemhgojfehnjaaDoor
open Go Go.RowKit

set_option maxHeartbeats 400000 in
theorem ref07_size (N : Int) (V : Value) (gs : List Gate) (w : World) (B : Nat) (hB : B ≤ w.heap.size) (hg : GatesV w B V gs) (hs : sizeOf gs ≤ 4611686018427387904) :
    Calls Tryd.prog 32 #[.agg #[.int .i64 N, V]] w fun e w' => e = .returned (.int .i64 ((sizeOf gs : Nat) : Int)) ∧ Below w.heap.size w w' := by
  obtain ⟨A, c, rfl, hlc, hcm, _⟩ := id hg
  unfold maxLen at hcm
  go_enter Tryd.func32, Tryd.ntmps32
  go_wp2
  go_loop [3, 4] (fun s i => ∃ k : Nat, k ≤ gs.length ∧ i = .int .i64 k ∧ s = .int .i64 ((sizeTo gs k : Nat) : Int)) (fun _ i => gs.length - (intOf i).toNat)
  case atStart => exact ⟨0, Nat.zero_le _, rfl, by rw [sizeTo_zero]; rfl⟩
  case round =>
    obtain ⟨k, hk, rfl, rfl⟩ := hrel
    by_cases hlt : k < gs.length
    · obtain ⟨b, o, A', c', rfl, hbB, h0, h1, h2, hI, hnc, hcm'⟩ := hg.at_ (Below.refl _ _) hlt
      have hbl : b < w.heap.size := by omega
      have hsz := Lib.hid (sizeTo_succ gs k hlt)
      have hle1 := sizeTo_le gs (k + 1)
      have hle2 := sizeTo_succ gs k hlt
      have hle : sizeTo gs k + gs[k].inp.length ≤ 4611686018427387904 := by omega
      clear hle1 hle2
      go_wp2
      go_round
      case rel => exact ⟨k + 1, by omega, by go_num, by rw [hsz.out]; simp⟩
      case measure => simp [intOf]; omega
    · go_wp2
      go_ret
      have : k = gs.length := by omega
      subst this
      exact ⟨rfl, by go_grown⟩

set_option maxHeartbeats 800000 in
theorem ref07_allowed (k n : Int) (w : World) :
    Calls Tryd.prog 49 #[(.int .i64 (k)), (.int .i64 (n))] w fun e w' => e = .returned (.bool (allowedB k n)) ∧ w = w' := by
  by_cases h0 : k = 0
  · subst h0
    go_enter Tryd.func49, Tryd.ntmps49
    go_wp2
    go_ret
    exact ⟨ret_bool (by simp [allowedB]), rfl⟩
  by_cases h1 : k = 1
  · subst h1
    go_enter Tryd.func49, Tryd.ntmps49
    go_wp2
    go_ret
    exact ⟨ret_bool (by simp [allowedB]), rfl⟩
  by_cases h2 : k = 2
  · subst h2
    go_enter Tryd.func49, Tryd.ntmps49
    go_wp2
    go_ret
    exact ⟨ret_bool (by simp [allowedB]), rfl⟩
  by_cases h3 : k = 3
  · subst h3
    go_enter Tryd.func49, Tryd.ntmps49
    go_wp2
    go_ret
    exact ⟨ret_bool (by simp [allowedB]), rfl⟩
  by_cases h7 : k = 7
  · subst h7
    go_enter Tryd.func49, Tryd.ntmps49
    go_wp2
    go_ret
    exact ⟨ret_bool (by simp [allowedB]), rfl⟩
  by_cases h8 : k = 8
  · subst h8
    go_enter Tryd.func49, Tryd.ntmps49
    go_wp2
    go_ret
    exact ⟨ret_bool (by simp [allowedB]), rfl⟩
  have e0 : (k == 0) = false := by simp [h0]
  have e1 : (k == 1) = false := by simp [h1]
  have e2 : (k == 2) = false := by simp [h2]
  have e3 : (k == 3) = false := by simp [h3]
  have e7 : (k == 7) = false := by simp [h7]
  have e8 : (k == 8) = false := by simp [h8]
  have hv : allowedB k n = (k == 4 || k == 5 || k == 6) := by simp [allowedB, h0, h1, h2, h3, h7, h8]
  rw [hv]
  clear hv h0 h1 h2 h3 h7 h8
  by_cases h4 : k = 4
  · subst h4
    go_enter Tryd.func49, Tryd.ntmps49
    go_wp2
    go_ret
    exact ⟨rfl, rfl⟩
  by_cases h5 : k = 5
  · subst h5
    go_enter Tryd.func49, Tryd.ntmps49
    go_wp2
    go_ret
    exact ⟨rfl, rfl⟩
  have e4 : (k == 4) = false := by simp [h4]
  have e5 : (k == 5) = false := by simp [h5]
  clear h4 h5
  go_enter Tryd.func49, Tryd.ntmps49
  go_wp2
  go_ret
  exact ⟨ret_bool (by simp [e4, e5]), rfl⟩

theorem ref07_literal (l n : Int) (w : World) (h0 : 0 ≤ n) (h1 : n ≤ 128) :
    Calls Tryd.prog 50 #[(.int .i64 (l)), (.int .i64 (n))] w fun e w' => e = .returned (.bool (litOk l n)) ∧ w = w' := by
  have e : litOk l n = (decide (1 ≤ l) && decide (l ≤ n) || decide (l ≤ -1) && decide (-n ≤ l)) := by
    rw [Bool.eq_iff_iff, litOk_iff l n h0 h1]; simp; omega
  rw [e]
  clear e
  by_cases a1 : 1 ≤ l
  · by_cases a2 : l ≤ n
    · go_enter Tryd.func50, Tryd.ntmps50
      go_wp2
      go_ret
      exact ⟨ret_bool (by simp [a1, a2]), rfl⟩
    · have a3 : ¬ l ≤ -1 := by omega
      go_enter Tryd.func50, Tryd.ntmps50
      go_wp2
      go_ret
      exact ⟨ret_bool (by simp; omega), rfl⟩
  · by_cases a2 : l ≤ -1
    · go_enter Tryd.func50, Tryd.ntmps50
      go_wp2
      go_ret
      exact ⟨ret_bool (by simp; try omega), rfl⟩
    · go_enter Tryd.func50, Tryd.ntmps50
      go_wp2
      go_ret
      exact ⟨ret_bool (by simp; try omega), rfl⟩
end Go.Proofs.YtbemhgojfehnjaaDoor

namespace Go.Proofs.YtbemhgojfehnjaaDoor
open Go Go.RowKit

theorem all_take_succ (l : List Int) (k : Nat) (h : k < l.length) (p : Int → Bool) : (l.take (k + 1)).all p = ((l.take k).all p && p l[k]) := by
  rw [List.take_succ_eq_append_getElem h, List.all_append]; simp
theorem all_false (l : List Int) (k : Nat) (h : k < l.length) (p : Int → Bool) (hp : p l[k] = false) : l.all p = false := by
  rw [List.all_eq_false]
  exact ⟨_, List.getElem_mem h, by simp [hp]⟩

set_option maxRecDepth 100000 in
set_option maxHeartbeats 3200000 in
theorem ref07_check (N : Int) (V : Value) (gs : List Gate) (w : World) (B : Nat) (hB : B ≤ w.heap.size) (hg : GatesV w B V gs) (hs : sizeOf gs ≤ 4611686018427387904) :
    Calls Tryd.prog 29 #[.agg #[.int .i64 N, V]] w fun e w' => e = .returned (.int .i64 (checkOf N gs)) ∧ Below w.heap.size w w' := by
  obtain ⟨A, c, rfl, hlc, hcm, _⟩ := id hg
  unfold maxLen at hcm
  obtain ⟨r, hr⟩ : ∃ r, r = checkOf N gs := ⟨_, rfl⟩
  rw [← hr]
  by_cases hN : N < 0 ∨ 128 < N
  · have e : r = 6 := by rw [hr]; unfold checkOf; rw [if_pos hN]
    subst e
    clear hr
    rcases hN with hN | hN
    all_goals
      go_enter Tryd.func29, Tryd.ntmps29
      go_wp2
      go_ret
      exact ⟨rfl, by go_grown⟩
  · have hN0 : 0 ≤ N := by omega
    have hN1 : N ≤ 128 := by omega
    have a1 : ∀ (w1 : World), Below w.heap.size w w1 → Calls Tryd.prog 32 #[.agg #[.int .i64 N, .slice A gs.length c]] w1 fun e w' => e = .returned (.int .i64 ((sizeOf gs : Nat) : Int)) ∧ Below w1.heap.size w1 w' :=
      fun w1 hb => ref07_size N _ gs w1 B (Nat.le_trans hB hb.size) (hg.below (hb.mono hB)) hs
    by_cases hlen : 4096 < gs.length
    · have e : r = 2 := by rw [hr]; unfold checkOf; rw [if_neg hN, if_pos (.inl hlen)]
      subst e
      clear hr hN
      go_enter Tryd.func29, Tryd.ntmps29
      go_wp2
      go_ret
      exact ⟨rfl, by go_grown⟩
    · by_cases hsz : 65536 < sizeOf gs
      · have e : r = 2 := by rw [hr]; unfold checkOf; rw [if_neg hN, if_pos (.inr hsz)]
        subst e
        clear hr hN
        generalize sizeOf gs = sz at *
        have A1 := Lib.hid a1
        clear a1
        go_enter Tryd.func29, Tryd.ntmps29
        go_wp2_with (go_at_call 32; refine (A1.out _ (by go_grown)).mono ?_; rintro e w' ⟨rfl, hbb⟩)
        go_ret
        exact ⟨rfl, Below.trans (by go_grown) (hbb.mono (by simp))⟩
      · have hr1 : goodTo N gs gs.length = false → r = 1 := fun h => by
          rw [hr]; unfold checkOf; rw [if_neg hN, if_neg (by omega), h]; simp
        have hr0 : goodTo N gs gs.length = true → gs.length ≠ 0 → r = 0 := fun h h' => by
          rw [hr]; unfold checkOf; rw [if_neg hN, if_neg (by omega), if_neg h', h]; simp
        have hre : gs.length = 0 → r = 1 := fun h => by
          rw [hr]; unfold checkOf; rw [if_neg hN, if_neg (by omega), if_pos h]
        have HR1 := Lib.hid hr1
        have HR0 := Lib.hid hr0
        have HRE := Lib.hid hre
        clear hr1 hr0 hre hr hN
        generalize sizeOf gs = sz at *
        have A1 := Lib.hid a1
        clear a1
        go_enter Tryd.func29, Tryd.ntmps29
        go_wp2_with (go_at_call 32; refine (A1.out _ (by go_grown)).mono ?_; rintro e w' ⟨rfl, hbb⟩; obtain ⟨hc, hf⟩ := bcell hbb; have hsz' := hbb.size)
        go_loopw [3] (fun i wr => ∃ k : Nat, k ≤ gs.length ∧ i = .int .i64 k ∧ goodTo N gs k = true ∧ Blk wr w.heap.size 24 #[.int .i64 N, .slice A gs.length c] ∧ Below w.heap.size w wr) (fun i _ => gs.length - (intOf i).toNat)
        case atStart => exact ⟨0, Nat.zero_le _, rfl, rfl, (Blk.new _ _ _).keep hbb, Below.trans (by go_grown) (hbb.mono (by simp))⟩
        case round =>
          obtain ⟨k, hk, rfl, hgo, hblk, hb⟩ := hrel
          have HGO := Lib.hid hgo
          clear hgo hc hf hsz'
          have c0 := hblk.cell 0
          have c1 := hblk.cell 1
          simp at c0 c1
          have lt0 := hblk.lt
          by_cases hlt : k < gs.length
          · obtain ⟨b, o, A', c', rfl, hbB, h0, h1, h2, hI, hnc, hcm'⟩ := hg.at_ (hb.mono hB) hlt
            have hbl : b < wr.heap.size := by have := hb.size; omega
            have g1 := goodTo_succ N gs k
            rw [HGO.out, goodAt_eq N gs k hlt, Bool.true_and] at g1
            have hfalse := fun h => HR1.out (goodTo_false N gs k gs.length hlt ((goodAt_eq N gs k hlt).trans h))
            generalize gs[k] = g at h0 h1 h2 hI hnc g1 hfalse
            obtain ⟨gk, gl, gi⟩ := g
            simp only at h0 h1 h2 hI hnc
            have hz : gi.length ≤ 9223372036854775807 := by unfold maxLen at hcm'; omega
            have hgg : goodGate N k ⟨gk, gl, gi⟩ = (allowedB gk gi.length && (if gk = 2 then litOk gl N else decide (gl = 0)) && gi.all (inOk k)) := rfl
            rw [hgg] at g1 hfalse
            clear hgg
            have a1 : ∀ w, Calls Tryd.prog 49 #[(.int .i64 (gk)), .int .i64 (gi.length : Int)] w fun e w' => e = .returned (.bool (allowedB gk gi.length)) ∧ w = w' := ref07_allowed gk gi.length
            have a2 : ∀ w, Calls Tryd.prog 50 #[(.int .i64 (gl)), (.int .i64 (N))] w fun e w' => e = .returned (.bool (litOk gl N)) ∧ w = w' := fun w => ref07_literal gl N w hN0 hN1
            generalize allowedB gk gi.length = y1 at a1 g1 hfalse
            generalize litOk gl N = y2 at a2 g1 hfalse
            have A1' := Lib.hid a1
            have A2 := Lib.hid a2
            have G1 := Lib.hid g1
            have HFL := Lib.hid hfalse
            clear a1 a2 g1 hfalse
            cases y1
            · have e : r = 1 := HFL.out (by simp)
              subst e
              go_wp2_with (go_at_call 49; refine (A1'.out _).mono ?_; rintro e w' ⟨rfl, rfl⟩)
              go_ret
              exact ⟨rfl, hb.alloc hb.size _⟩
            · have inner : (if gk = 2 then y2 else decide (gl = 0)) = true → True := fun _ => trivial
              clear inner
              by_cases hk2 : gk = 2
              · subst hk2
                cases y2
                · have e : r = 1 := HFL.out (by simp)
                  subst e
                  go_wp2_with (first | (go_at_call 49; refine (A1'.out _).mono ?_; rintro e w' ⟨rfl, rfl⟩) | (go_at_call 50; refine (A2.out _).mono ?_; rintro e w' ⟨rfl, rfl⟩))
                  go_ret
                  exact ⟨rfl, hb.alloc hb.size _⟩
                · go_wp2_with (first | (go_at_call 49; refine (A1'.out _).mono ?_; rintro e w' ⟨rfl, rfl⟩) | (go_at_call 50; refine (A2.out _).mono ?_; rintro e w' ⟨rfl, rfl⟩))
                  go_loop [5] (fun j => ∃ n : Nat, n ≤ gi.length ∧ j = .int .i64 n ∧ (gi.take n).all (inOk k) = true) (fun j => gi.length - (intOf j).toNat)
                  case atStart => exact ⟨0, Nat.zero_le _, rfl, rfl⟩
                  case round =>
                    obtain ⟨n, hn, rfl, hall⟩ := hrel
                    have HALL := Lib.hid hall
                    clear hall
                    by_cases hlt2 : n < gi.length
                    · obtain ⟨b', o', rfl, hbB', hcell⟩ := hI.at_ (Below.refl _ _) hlt2
                      have hbl' : b' < wr.heap.size := by have := hb.size; omega
                      have hs1 := all_take_succ gi n hlt2 (inOk k)
                      have hs2 := all_false gi n hlt2 (inOk k)
                      generalize gi[n] = x at hcell hs1 hs2
                      rw [HALL.out, Bool.true_and] at hs1
                      have HS1 := Lib.hid hs1
                      have HS2 := Lib.hid hs2
                      clear hs1 hs2
                      by_cases hx : 0 ≤ x ∧ x < k
                      · have ho : inOk k x = true := by unfold inOk; simp; exact hx
                        have HO := Lib.hid ho
                        obtain ⟨hx1, hx2⟩ := hx
                        clear ho
                        go_wp2
                        go_round
                        case rel => exact ⟨n + 1, by omega, by go_num, by rw [HS1.out, HO.out]⟩
                        case measure => simp [intOf]; omega
                      · have ho : inOk k x = false := by unfold inOk; simp; omega
                        have e : r = 1 := HFL.out (by rw [HS2.out ho]; simp)
                        subst e
                        clear ho
                        rcases (show x < 0 ∨ (0 ≤ x ∧ (k : Int) ≤ x) from by omega) with h9 | ⟨h9, h9'⟩
                        all_goals
                          go_wp2
                          go_ret
                          exact ⟨rfl, hb.alloc hb.size _⟩
                    · have e : n = gi.length := by omega
                      subst e
                      rw [List.take_length] at HALL
                      go_wp2
                      go_roundw
                      case rel => exact ⟨k + 1, by omega, by go_num, by rw [G1.out, HALL.out]; simp, hblk.alloc _, hb.alloc hb.size _⟩
                      case measure => simp [intOf]; omega
              · have hk2' : (gk == 2) = false := by simp [hk2]
                have hk3 : (gk != 2) = true := by simp [hk2]
                rw [if_neg hk2] at G1 HFL
                by_cases hl : gl = 0
                · have hl2 : decide (gl = 0) = true := by simp [hl]
                  rw [hl2] at G1 HFL
                  subst hl
                  clear hl2 hk2
                  go_wp2_with (go_at_call 49; refine (A1'.out _).mono ?_; rintro e w' ⟨rfl, rfl⟩)
                  go_loop [5] (fun j => ∃ n : Nat, n ≤ gi.length ∧ j = .int .i64 n ∧ (gi.take n).all (inOk k) = true) (fun j => gi.length - (intOf j).toNat)
                  case atStart => exact ⟨0, Nat.zero_le _, rfl, rfl⟩
                  case round =>
                    obtain ⟨n, hn, rfl, hall⟩ := hrel
                    have HALL := Lib.hid hall
                    clear hall
                    by_cases hlt2 : n < gi.length
                    · obtain ⟨b', o', rfl, hbB', hcell⟩ := hI.at_ (Below.refl _ _) hlt2
                      have hbl' : b' < wr.heap.size := by have := hb.size; omega
                      have hs1 := all_take_succ gi n hlt2 (inOk k)
                      have hs2 := all_false gi n hlt2 (inOk k)
                      generalize gi[n] = x at hcell hs1 hs2
                      rw [HALL.out, Bool.true_and] at hs1
                      have HS1 := Lib.hid hs1
                      have HS2 := Lib.hid hs2
                      clear hs1 hs2
                      by_cases hx : 0 ≤ x ∧ x < k
                      · have ho : inOk k x = true := by unfold inOk; simp; exact hx
                        have HO := Lib.hid ho
                        obtain ⟨hx1, hx2⟩ := hx
                        clear ho
                        go_wp2
                        go_round
                        case rel => exact ⟨n + 1, by omega, by go_num, by rw [HS1.out, HO.out]⟩
                        case measure => simp [intOf]; omega
                      · have ho : inOk k x = false := by unfold inOk; simp; omega
                        have e : r = 1 := HFL.out (by rw [HS2.out ho]; simp)
                        subst e
                        clear ho
                        rcases (show x < 0 ∨ (0 ≤ x ∧ (k : Int) ≤ x) from by omega) with h9 | ⟨h9, h9'⟩
                        all_goals
                          go_wp2
                          go_ret
                          exact ⟨rfl, hb.alloc hb.size _⟩
                    · have e : n = gi.length := by omega
                      subst e
                      rw [List.take_length] at HALL
                      go_wp2
                      go_roundw
                      case rel => exact ⟨k + 1, by omega, by go_num, by rw [G1.out, HALL.out]; simp, hblk.alloc _, hb.alloc hb.size _⟩
                      case measure => simp [intOf]; omega
                · have hl' : (gl != 0) = true := by simp [hl]
                  have hl2 : decide (gl = 0) = false := by simp [hl]
                  rw [hl2] at HFL
                  have e : r = 1 := HFL.out (by simp)
                  subst e
                  clear hl2 hk2 hl
                  go_wp2_with (go_at_call 49; refine (A1'.out _).mono ?_; rintro e w' ⟨rfl, rfl⟩)
                  all_goals (go_ret; exact ⟨rfl, hb.alloc hb.size _⟩)
          · have e : k = gs.length := by omega
            subst e
            by_cases h0 : gs.length = 0
            · have e : r = 1 := HRE.out h0
              subst e
              have h0' : ((gs.length : Int) == 0) = true := by simp [h0]
              clear h0
              go_wp2
              go_ret
              exact ⟨rfl, hb⟩
            · have e : r = 0 := HR0.out HGO.out h0
              subst e
              have h0' : ((gs.length : Int) == 0) = false := by simp [h0]
              clear h0
              go_wp2
              go_ret
              exact ⟨rfl, hb⟩
end Go.Proofs.YtbemhgojfehnjaaDoor

namespace Go.Proofs.YtbemhgojfehnjaaDoor
open Go Go.RowKit

def refHolds (s : VS) (l : Int) : Bool := if l < 0 then !s.has (-l) else s.has l
theorem refHolds_eq {s : VS} {l : Int} (h : okL 128 l) : refHolds s l = litHolds s l := by
  unfold refHolds
  unfold okL at h
  by_cases hl : l < 0
  · rw [if_pos hl, ← litHolds_var (by omega) (by omega), litHolds_neg (by unfold okL; omega)]; simp
  · rw [if_neg hl, litHolds_var (by omega) (by omega)]

theorem ref07_holds (s : VS) (l : Int) (w : World) (h0 : -9223372036854775807 ≤ l) (h1 : l ≤ 9223372036854775807) :
    Calls Tryd.prog 59 #[(.agg #[.int .u64 ((s).a.toNat : Int), .int .u64 ((s).b.toNat : Int)]), (.int .i64 (l))] w fun e w' => e = .returned (.bool (refHolds s l)) ∧ Below w.heap.size w w' := by
  unfold refHolds
  by_cases hl : l < 0
  · rw [if_pos hl]
    have k : ∀ W, Calls Tryd.prog 56 #[(.agg #[.int .u64 ((s).a.toNat : Int), .int .u64 ((s).b.toNat : Int)]), (.int .i64 (-l))] W fun e w' => e = .returned (.bool (s.has (-l))) ∧ Below W.heap.size W w' := fun W => ref03_has s.a s.b (-l) W
    generalize VS.has s (-l) = y at k ⊢
    have K := Lib.hid k
    clear k
    go_enter Tryd.func59, Tryd.ntmps59
    go_wp2_with fail
    refine (K.out _).mono ?_
    rintro e w1 ⟨rfl, hb⟩
    go_wp2
    go_ret
    exact ⟨rfl, Below.trans (by go_grown) (hb.mono (by simp))⟩
  · rw [if_neg hl]
    have k : ∀ W, Calls Tryd.prog 56 #[(.agg #[.int .u64 ((s).a.toNat : Int), .int .u64 ((s).b.toNat : Int)]), (.int .i64 (l))] W fun e w' => e = .returned (.bool (s.has l)) ∧ Below W.heap.size W w' := fun W => ref03_has s.a s.b l W
    generalize VS.has s l = y at k ⊢
    have K := Lib.hid k
    clear k
    have hl' : 0 ≤ l := by omega
    clear hl
    go_enter Tryd.func59, Tryd.ntmps59
    go_wp2_with fail
    refine (K.out _).mono ?_
    rintro e w1 ⟨rfl, hb⟩
    go_wp2
    go_ret
    exact ⟨rfl, Below.trans (by go_grown) (hb.mono (by simp))⟩

set_option maxRecDepth 100000 in
set_option maxHeartbeats 6400000 in
theorem ref07_value (g : Gate) (IV : Value) (s : VS) (VV : Value) (v : List Bool) (w : World) (B B2 : Nat) (hB : B ≤ w.heap.size) (hB2 : B2 ≤ w.heap.size) (hi : IntsV w B IV g.inp) (hv : BoolsV w B2 VV v)
    (hin : ∀ (i : Nat) (x : Int), g.inp[i]? = some x → 0 ≤ x ∧ x < v.length) (h8 : g.kind = 8 → g.inp.length = 3) (h7 : g.kind = 7 → g.inp.length = 2) (h2 : g.kind = 2 → okL 128 g.lit) :
    Calls Tryd.prog 38 #[.agg #[.int .i64 g.kind, .int .i64 g.lit, IV], (.agg #[.int .u64 ((s).a.toNat : Int), .int .u64 ((s).b.toNat : Int)]), VV] w fun e w' => e = .returned (.bool (valueOf g s v)) ∧ Below w.heap.size w w' := by
  obtain ⟨gk, gl, gi⟩ := g
  simp only at hi hin h8 h7 h2 ⊢
  obtain ⟨A, c, rfl, hlc, hcm, _⟩ := id hi
  obtain ⟨A2, c2, rfl, hlc2, hcm2, _⟩ := id hv
  unfold maxLen at hcm hcm2
  have HIN := Lib.hid hin
  have H8 := Lib.hid h8
  have H7 := Lib.hid h7
  clear hin h8 h7
  obtain ⟨r, hr⟩ : ∃ r, r = valueOf ⟨gk, gl, gi⟩ s v := ⟨_, rfl⟩
  rw [← hr]
  have HR := Lib.hid hr
  clear hr
  have hlen : (inVals ⟨gk, gl, gi⟩ v).length = gi.length := by simp [inVals]
  have HLEN := Lib.hid hlen
  clear hlen
  have KH : gk = 2 → Hid (∀ w, Calls Tryd.prog 59 #[(.agg #[.int .u64 ((s).a.toNat : Int), .int .u64 ((s).b.toNat : Int)]), (.int .i64 (gl))] w fun e w' => e = .returned (.bool (litHolds s gl)) ∧ Below w.heap.size w w') := fun h => by
    have hk := h2 h
    intro w
    rw [← refHolds_eq hk]
    unfold okL at hk
    exact ref07_holds s gl w (by omega) (by omega)
  have HKH := Lib.hid KH
  clear KH h2
  go_enter Tryd.func38, Tryd.ntmps38
  go_wp2
  have hb0 := (Blk.new w 38 #[.int .i64 gk, .int .i64 gl, .slice A gi.length c]).alloc (.cells #[.int .u64 (s.a.toNat : Int), .int .u64 (s.b.toNat : Int)] 27)
  have hb1 : Blk ((w.alloc (.cells #[.int .i64 gk, .int .i64 gl, .slice A gi.length c] 38)).alloc (.cells #[.int .u64 (s.a.toNat : Int), .int .u64 (s.b.toNat : Int)] 27)) (w.heap.size + 1) 27 #[.int .u64 (s.a.toNat : Int), .int .u64 (s.b.toNat : Int)] := Blk.new_ (by simp)
  have hb : Below w.heap.size w ((w.alloc (.cells #[.int .i64 gk, .int .i64 gl, .slice A gi.length c] 38)).alloc (.cells #[.int .u64 (s.a.toNat : Int), .int .u64 (s.b.toNat : Int)] 27)) := by go_grown
  generalize (w.alloc (.cells #[.int .i64 gk, .int .i64 gl, .slice A gi.length c] 38)).alloc (.cells #[.int .u64 (s.a.toNat : Int), .int .u64 (s.b.toNat : Int)] 27) = wr at hb0 hb1 hb ⊢
  have c0 := hb0.cell 0
  have c1 := hb0.cell 1
  have c2 := hb0.cell 2
  have d0 := hb1.cell 0
  have d1 := hb1.cell 1
  simp at c0 c1 c2 d0 d1
  have lt0 := hb0.lt
  have lt1 := hb1.lt
  clear hb0 hb1
  go_loop [7, 8, 9, 10] (fun al an od i => ∃ (k : Nat) (pa po pd : Bool), k ≤ gi.length ∧ i = .int .i64 k ∧ al = .bool pa ∧ an = .bool po ∧ od = .bool pd ∧ Hid (pa = decide (onesOf ((inVals ⟨gk, gl, gi⟩ v).take k) = k)) ∧
      Hid (po = decide (0 < onesOf ((inVals ⟨gk, gl, gi⟩ v).take k))) ∧ Hid (pd = decide (onesOf ((inVals ⟨gk, gl, gi⟩ v).take k) % 2 = 1))) (fun _ _ _ i => gi.length - (intOf i).toNat)
  case atStart => exact ⟨0, true, false, false, by omega, rfl, rfl, rfl, rfl, by show _ = _; simp [onesOf_nil], by show _ = _; simp [onesOf_nil], by show _ = _; simp [onesOf_nil]⟩
  case round =>
    obtain ⟨k, pa, po, pd, hk, rfl, rfl, rfl, rfl, HA, HO, HD⟩ := hrel
    by_cases hlt : k < gi.length
    · obtain ⟨b', o', rfl, hbB, hcell⟩ := hi.at_ (hb.mono hB) hlt
      have hx := HIN.out k _ (List.getElem?_eq_getElem hlt)
      have htk := inVals_take ⟨gk, gl, gi⟩ v k hlt
      simp only at htk
      generalize gi[k] = x at hcell hx htk
      obtain ⟨hx0, hx1⟩ := hx
      obtain ⟨n, rfl⟩ := Int.eq_ofNat_of_zero_le hx0
      have hn : n < v.length := by omega
      obtain ⟨b2, o2, rfl, hbB2, hcell2⟩ := hv.at_ (hb.mono hB2) hn
      rw [Int.toNat_natCast, List.getD_eq_getElem?_getD, List.getElem?_eq_getElem hn, Option.getD_some] at htk
      generalize v[n] = y at hcell2 htk
      have hon := onesOf_snoc ((inVals ⟨gk, gl, gi⟩ v).take k) y
      rw [← htk] at hon
      have hle : onesOf ((inVals ⟨gk, gl, gi⟩ v).take k) ≤ k := Nat.le_trans (onesOf_le _) (List.length_take_le _ _)
      have hna : (pa && y) = decide (onesOf ((inVals ⟨gk, gl, gi⟩ v).take (k + 1)) = k + 1) := by
        rw [hon, HA.out]
        cases y
        · simp; omega
        · simp
      have hno : (po || y) = decide (0 < onesOf ((inVals ⟨gk, gl, gi⟩ v).take (k + 1))) := by
        rw [hon, HO.out]
        cases y <;> simp
      have hnd : (pd != y) = decide (onesOf ((inVals ⟨gk, gl, gi⟩ v).take (k + 1)) % 2 = 1) := by
        rw [hon, HD.out]
        generalize onesOf ((inVals ⟨gk, gl, gi⟩ v).take k) = q
        rcases Nat.mod_two_eq_zero_or_one q with hq | hq
        · have : (q + 1) % 2 = 1 := by omega
          cases y <;> simp [hq, this]
        · have : (q + 1) % 2 = 0 := by omega
          cases y <;> simp [hq, this]
      have HNA := Lib.hid hna
      have HNO := Lib.hid hno
      have HND := Lib.hid hnd
      clear hon htk hle hna hno hnd HA HO HD
      cases y
      all_goals
        cases pa
        all_goals
          cases po
          all_goals
            cases pd
            all_goals
              go_wp2
              go_round
              case rel => exact ⟨k + 1, _, _, _, by omega, by go_num, rfl, rfl, rfl, HNA, HNO, HND⟩
              case measure => simp [intOf]; omega
    · have e : k = gi.length := by omega
      subst e
      have ht : (inVals ⟨gk, gl, gi⟩ v).take gi.length = inVals ⟨gk, gl, gi⟩ v := List.take_of_length_le (by rw [HLEN.out]; exact Nat.le_refl _)
      rw [ht] at HA HO HD
      clear ht
      have hon9 := onesOf_le (inVals ⟨gk, gl, gi⟩ v)
      rw [HLEN.out] at hon9
      generalize hon : onesOf (inVals ⟨gk, gl, gi⟩ v) = on at HA HO HD hon9
      have HON := Lib.hid hon
      clear hon
      by_cases k1 : gk = 1
      · subst k1
        go_wp2
        go_ret
        exact ⟨ret_bool (by rw [HR.out]; simp [valueOf]), hb⟩
      by_cases k2 : gk = 2
      · subst k2
        have KH := HKH.out rfl
        clear HKH
        go_wp2_with fail
        refine (KH.out _).mono ?_
        rintro e w' ⟨rfl, hbb⟩
        go_wp2
        go_ret
        exact ⟨ret_bool (by rw [HR.out]; simp [valueOf]), hb.trans (hbb.mono hb.size)⟩
      by_cases k3 : gk = 3
      · subst k3
        go_wp2
        go_ret
        exact ⟨ret_bool (by rw [HR.out]; rw [HO.out, Bool.eq_iff_iff]; simp [valueOf, HON.out]; try omega), hb⟩
      by_cases k4 : gk = 4
      · subst k4
        go_wp2
        go_ret
        exact ⟨ret_bool (by rw [HR.out]; rw [HA.out]; simp [valueOf, HON.out]), hb⟩
      by_cases k5 : gk = 5
      · subst k5
        go_wp2
        go_ret
        exact ⟨ret_bool (by rw [HR.out]; rw [HO.out]; simp [valueOf, HON.out]), hb⟩
      by_cases k6 : gk = 6
      · subst k6
        go_wp2
        go_ret
        exact ⟨ret_bool (by rw [HR.out]; rw [HD.out]; simp [valueOf, HON.out]), hb⟩
      by_cases k7 : gk = 7
      · subst k7
        have h9 : on ≤ 2 := by have := H7.out rfl; omega
        go_wp2
        go_ret
        exact ⟨ret_bool (by rw [HR.out, HD.out]; simp [valueOf, HON.out]; omega), hb⟩
      by_cases k8 : gk = 8
      · subst k8
        have h3 : gi.length = 3 := H8.out rfl
        have el : ∀ j : Nat, j < 3 → ∃ n : Nat, gi[j]? = some (n : Int) ∧ n < v.length := fun j hj => by
          have hj' : j < gi.length := by omega
          have hx := HIN.out j _ (List.getElem?_eq_getElem hj')
          refine ⟨gi[j].toNat, ?_, by omega⟩
          rw [List.getElem?_eq_getElem hj', Int.toNat_of_nonneg hx.1]
        obtain ⟨n0, e0, l0⟩ := el 0 (by omega)
        obtain ⟨n1, e1, l1⟩ := el 1 (by omega)
        obtain ⟨n2, e2, l2⟩ := el 2 (by omega)
        obtain ⟨b', o', rfl, hbB, q0⟩ := hi.at_ (k := 0) (hb.mono hB) (by omega)
        obtain ⟨_, _, ee, _, q1⟩ := hi.at_ (k := 1) (hb.mono hB) (by omega)
        injection ee with ee; injection ee with ee1 ee2; subst ee1 ee2
        obtain ⟨_, _, ee, _, q2⟩ := hi.at_ (k := 2) (hb.mono hB) (by omega)
        injection ee with ee; injection ee with ee1 ee2; subst ee1 ee2
        obtain ⟨b2, o2, rfl, hbB2, r0⟩ := hv.at_ (hb.mono hB2) l0
        obtain ⟨_, _, ee, _, r1⟩ := hv.at_ (hb.mono hB2) l1
        injection ee with ee; injection ee with ee1 ee2; subst ee1 ee2
        obtain ⟨_, _, ee, _, r2⟩ := hv.at_ (hb.mono hB2) l2
        injection ee with ee; injection ee with ee1 ee2; subst ee1 ee2
        have f0 : gi[0] = (n0 : Int) := by rw [List.getElem?_eq_getElem (by omega)] at e0; injection e0
        have f1 : gi[1] = (n1 : Int) := by rw [List.getElem?_eq_getElem (by omega)] at e1; injection e1
        have f2 : gi[2] = (n2 : Int) := by rw [List.getElem?_eq_getElem (by omega)] at e2; injection e2
        rw [f0] at q0
        rw [f1] at q1
        rw [f2] at q2
        simp only [Nat.add_zero] at q0
        have hval : valueOf ⟨8, gl, gi⟩ s v = if v[n0] then v[n1] else v[n2] := by
          simp only [valueOf, pickVal, List.getD_eq_getElem?_getD, e0, e1, e2, Option.getD_some, Int.toNat_natCast, List.getElem?_eq_getElem l0, List.getElem?_eq_getElem l1, List.getElem?_eq_getElem l2]
          rfl
        rw [hval] at HR
        have h3' : 3 ≤ gi.length := by omega
        clear hval e0 e1 e2 f0 f1 f2 el h3
        generalize v[n0] = y0 at *
        generalize v[n1] = y1 at *
        generalize v[n2] = y2 at *
        cases y0
        all_goals
          cases y1
          all_goals
            cases y2
            all_goals
              go_wp2
              go_ret
              exact ⟨ret_bool (by rw [HR.out]; rfl), hb⟩
      · go_wp2
        go_ret
        exact ⟨ret_bool (by rw [HR.out]; simp [valueOf, k1, k2, k3, k4, k5, k6, k7, k8]), hb⟩
end Go.Proofs.YtbemhgojfehnjaaDoor
namespace Go.Proofs.YtbemhgojfehnjaaDoor
open Go Go.RowKit

theorem last_toNat (n : Nat) (h : 0 < n) : ((n : Int) - 1).toNat = n - 1 := by omega

set_option maxRecDepth 100000 in
set_option maxHeartbeats 3200000 in
theorem ref07_eval (N : Int) (V : Value) (gs : List Gate) (s : VS) (w : World) (B : Nat) (hB : B ≤ w.heap.size) (hg : GatesV w B V gs) (hs : sizeOf gs ≤ 4611686018427387904) :
    Calls Tryd.prog 17 #[.agg #[.int .i64 N, V], (.agg #[.int .u64 ((s).a.toNat : Int), .int .u64 ((s).b.toNat : Int)])] w fun e w' => e = .returned (.bool (evalOf N gs s)) ∧ Below w.heap.size w w' := by
  obtain ⟨A, c, rfl, hlc, hcm, _⟩ := id hg
  unfold maxLen at hcm
  obtain ⟨r, hr⟩ : ∃ r, r = evalOf N gs s := ⟨_, rfl⟩
  rw [← hr]
  have k1 : ∀ w1, Below w.heap.size w w1 → Calls Tryd.prog 29 #[.agg #[.int .i64 N, .slice A gs.length c]] w1 fun e w' => e = .returned (.int .i64 (checkOf N gs)) ∧ Below w1.heap.size w1 w' :=
    fun w1 hb => ref07_check N _ gs w1 B (Nat.le_trans hB hb.size) (hg.below (hb.mono hB)) hs
  have k2 : ∀ w1, Calls Tryd.prog 37 #[.int .i64 N] w1 fun e w' => e = .returned (.agg #[.int .u64 ((VS.all N).a.toNat : Int), .int .u64 ((VS.all N).b.toNat : Int)]) ∧ Below w1.heap.size w1 w' := fun w1 => ref03_all N w1
  have k3 : ∀ w1, Calls Tryd.prog 36 #[(.agg #[.int .u64 ((s).a.toNat : Int), .int .u64 ((s).b.toNat : Int)]), (.agg #[.int .u64 ((VS.all N).a.toNat : Int), .int .u64 ((VS.all N).b.toNat : Int)])] w1 fun e w' => e = .returned (.bool (VS.sub s (VS.all N))) ∧ Below w1.heap.size w1 w' := fun w1 => ref03_sub s.a s.b (VS.all N).a (VS.all N).b w1
  obtain ⟨ck, hck⟩ : ∃ ck, ck = checkOf N gs := ⟨_, rfl⟩
  obtain ⟨sb, hsb⟩ : ∃ sb, sb = VS.sub s (VS.all N) := ⟨_, rfl⟩
  have hcc := checkOf_cases N gs
  rw [← hck] at k1 hcc
  rw [← hsb] at k3
  have hr' : r = (decide (ck = 0) && sb && valOf gs s (gs.length - 1)) := by rw [hr, hck, hsb]; rfl
  have hckk := Lib.hid hck
  clear hr hck hsb
  have HR := Lib.hid hr'
  have K1 := Lib.hid k1
  have K2 := Lib.hid k2
  have K3 := Lib.hid k3
  clear hr' k1 k2 k3
  generalize VS.all N = al at K2 K3
  have hck0 : ck = 0 → checkOf N gs = 0 := fun h => by rw [← h, hckk.out]
  have HC0 := Lib.hid hck0
  clear hck0 hckk
  by_cases h0 : ck = 0
  · subst h0
    clear hcc
    go_enter Tryd.func17, Tryd.ntmps17
    go_wp2
    have blk0 : Blk ((w.alloc (.cells #[.int .i64 N, .slice A gs.length c] 24)).alloc (.cells #[.int .u64 (s.a.toNat : Int), .int .u64 (s.b.toNat : Int)] 27)) w.heap.size 24 #[.int .i64 N, .slice A gs.length c] := (Blk.new w _ _).alloc _
    have blk1 : Blk ((w.alloc (.cells #[.int .i64 N, .slice A gs.length c] 24)).alloc (.cells #[.int .u64 (s.a.toNat : Int), .int .u64 (s.b.toNat : Int)] 27)) (w.heap.size + 1) 27 #[.int .u64 (s.a.toNat : Int), .int .u64 (s.b.toNat : Int)] := Blk.new_ (by simp)
    have hw : Below w.heap.size w ((w.alloc (.cells #[.int .i64 N, .slice A gs.length c] 24)).alloc (.cells #[.int .u64 (s.a.toNat : Int), .int .u64 (s.b.toNat : Int)] 27)) := by go_grown
    generalize (w.alloc (.cells #[.int .i64 N, .slice A gs.length c] 24)).alloc (.cells #[.int .u64 (s.a.toNat : Int), .int .u64 (s.b.toNat : Int)] 27) = w1 at *
    have C0 := blk0.later 0 _ rfl
    have C1 := blk0.later 1 _ rfl
    have D0 := blk1.later 0 _ rfl
    have D1 := blk1.later 1 _ rfl
    have hb0 : Below w1.heap.size w1 w1.drew := (Below.refl _ _).drew
    have k1' : ∀ W, Below w1.heap.size w1 W → Calls Tryd.prog 29 #[.agg #[.int .i64 N, .slice A gs.length c]] W fun e w' => e = .returned (.int .i64 0) ∧ Below w1.heap.size w1 w' :=
      fun W hW => kept (K1.out W (hw.trans (hW.mono hw.size))) hW
    have K1' := Lib.hid k1'
    clear k1' K1
    go_region_held3 (fun w' => w'.cell? ⟨w.heap.size, 0, none⟩ = some (.int .i64 N) ∧ w'.cell? ⟨w.heap.size, 1, none⟩ = some (.slice A gs.length c) ∧ w'.cell? ⟨w.heap.size + 1, 0, none⟩ = some (.int .u64 (s.a.toNat : Int)) ∧ w'.cell? ⟨w.heap.size + 1, 1, none⟩ = some (.int .u64 (s.b.toNat : Int)) ∧ Below w1.heap.size w1 w') (go_keep)
      (first | (go_at_call 29; refine (K1'.out _ (by simp [*])).mono ?_; rintro e w' ⟨rfl, hB'⟩) | (go_at_call 37; refine (kept (w1 := w1) (K2.out _) (by simp [*])).mono ?_; rintro e w' ⟨rfl, hB'⟩) | (go_at_call 36; refine (kept (w1 := w1) (K3.out _) (by simp [*])).mono ?_; rintro e w' ⟨rfl, hB'⟩))
    cases sb
    · go_wp2
      go_ret
      exact ⟨ret_bool (by rw [HR.out]; simp), hw.trans (hB'.mono hw.size)⟩
    · simp only [Bool.not_true]
      have b0 := blk0.keep hB'
      have b1 := blk1.keep hB'
      have hB2 := hw.trans (hB'.mono hw.size)
      clear C0 C1 D0 D1 hb0 blk0 blk1
      generalize w' = w2 at *
      have c0 := b0.cell 0
      have c1 := b0.cell 1
      simp at c0 c1
      have l0 := b0.lt
      have l1 := b1.lt
      have B1 := Lib.hid b1
      have B0 := Lib.hid b0
      clear b0 b1
      go_wp2
      go_loopw [5, 6] (fun o i wr => ∃ k : Nat, k ≤ gs.length ∧ i = .int .i64 k ∧ OwnBools wr w2.heap.size o (valsTo gs s k) ∧ Below w2.heap.size w2 wr) (fun _ i _ => gs.length - (intOf i).toNat)
      case atStart => exact ⟨0, by omega, rfl, OwnBools.nil _ _, Below.refl _ _⟩
      case round =>
        obtain ⟨k, hk, rfl, hown, hb⟩ := hrel
        have hlv := valsTo_length gs s k
        have b1 := B1.out.keep hb
        have b0 := B0.out.keep hb
        have c0 := b0.cell 0
        have c1 := b0.cell 1
        simp at c0 c1
        have l2 := b1.lt
        have l3 := b0.lt
        have hb3 := hB2.trans (hb.mono hB2.size)
        clear b1 b0
        have hV := hown.V
        obtain ⟨A9, c9, e9, h91, h92, _⟩ := id hV
        subst e9
        have hown' : wr.ownsRow w2.heap.size 4 1 (.slice A9 k c9) k ((valsTo gs s k).map Value.bool) := by
          have h := hown
          unfold OwnBools at h
          rw [hlv] at h
          exact h
        rw [hlv] at hV h91 ⊢
        have HLV := Lib.hid hlv
        clear hlv hown
        unfold maxLen at h92
        by_cases hlt : k < gs.length
        · obtain ⟨b, o, A', c', rfl, hbB, g0, g1, g2, hI, hnc, hcm'⟩ := hg.at_ (hB2.mono hB) hlt
          have hgood := check_gate (HC0.out trivial) k hlt
          have hbd := check_bounds (HC0.out trivial)
          have hgl := good_len hgood
          have hk4 : gs.length ≤ 4096 := hbd.2.2.2.1
          have kv : ∀ W, Below wr.heap.size wr W → Calls Tryd.prog 38 #[.agg #[.int .i64 gs[k].kind, .int .i64 gs[k].lit, .slice A' gs[k].inp.length c'], (.agg #[.int .u64 ((s).a.toNat : Int), .int .u64 ((s).b.toNat : Int)]), .slice A9 k c9] W fun e w' => e = .returned (.bool (valueOf gs[k] s (valsTo gs s k))) ∧ Below wr.heap.size wr w' :=
            fun W hW => kept (ref07_value gs[k] _ s _ (valsTo gs s k) W B wr.heap.size (by have := hb3.size; have := hW.size; omega) hW.size (hI.below ((hb.trans (hW.mono hb.size)).mono (by have := hB2.size; omega))) (hV.below hW)
              (fun j x hx => by have := good_in' hgood j x hx; rw [HLV.out]; omega) hgl.2.2.2.1 hgl.2.2.1 (fun h => okL.mono (m := N) ((litOk_iff _ _ hbd.1 hbd.2.1).1 (good_lit hgood h)) hbd.2.1)) hW
          have hsucc := valsTo_succ gs s k hlt
          generalize valueOf gs[k] s (valsTo gs s k) = y at kv hsucc
          have hbl : b < w2.heap.size := by have := hB2.size; omega
          generalize gs[k] = g at g0 g1 g2 kv
          obtain ⟨gk, gl, gi⟩ := g
          simp only at g0 g1 g2 kv
          have G0 : ∀ W, Below w2.heap.size w2 W → W.cell? ⟨b, o + k * 3, none⟩ = some (.int .i64 gk) := fun W hW => (hW.cell (p := ⟨b, o + k * 3, none⟩) hbl).trans g0
          have G1 : ∀ W, Below w2.heap.size w2 W → W.cell? ⟨b, o + k * 3 + 1, none⟩ = some (.int .i64 gl) := fun W hW => (hW.cell (p := ⟨b, o + k * 3 + 1, none⟩) hbl).trans g1
          have G2 : ∀ W, Below w2.heap.size w2 W → W.cell? ⟨b, o + k * 3 + 2, none⟩ = some (.slice A' gi.length c') := fun W hW => (hW.cell (p := ⟨b, o + k * 3 + 2, none⟩) hbl).trans g2
          have gg0 := G0 _ hb
          have gg1 := G1 _ hb
          have gg2 := G2 _ hb
          have hblr : b < wr.heap.size := by have := hb.size; omega
          have KV := Lib.hid kv
          have HSU := Lib.hid hsucc
          clear kv hsucc hgood hI hV hgl hbd g0 g1 g2
          go_wp2
          have C0 := B0.out.later 0 _ rfl
          have C1 := B0.out.later 1 _ rfl
          have D0 := B1.out.later 0 _ rfl
          have D1 := B1.out.later 1 _ rfl
          have hbB' : Below wr.heap.size wr wr.drew := (Below.refl _ _).drew
          have hbd : Below w2.heap.size w2 wr.drew := hb.drew
          have sf : ∀ w', Below w2.heap.size w2 w' → w'.cell? ⟨w.heap.size, 0, none⟩ = some (.int .i64 N) ∧ w'.cell? ⟨w.heap.size, 1, none⟩ = some (.slice (some ⟨b, o, none⟩) gs.length c) ∧ w'.cell? ⟨w.heap.size + 1, 0, none⟩ = some (.int .u64 (s.a.toNat : Int)) ∧ w'.cell? ⟨w.heap.size + 1, 1, none⟩ = some (.int .u64 (s.b.toNat : Int)) ∧ w'.cell? ⟨b, o + k * 3, none⟩ = some (.int .i64 gk) ∧ w'.cell? ⟨b, o + k * 3 + 1, none⟩ = some (.int .i64 gl) ∧ w'.cell? ⟨b, o + k * 3 + 2, none⟩ = some (.slice A' gi.length c') ∧ Below w2.heap.size w2 w' := fun w' h => ⟨C0 _ h, C1 _ h, D0 _ h, D1 _ h, G0 _ h, G1 _ h, G2 _ h, h⟩
          have SF := Lib.hid sf
          clear sf C0 C1 D0 D1 G0 G1 G2
          go_region_held_law (fun w' => w'.cell? ⟨w.heap.size, 0, none⟩ = some (.int .i64 N) ∧ w'.cell? ⟨w.heap.size, 1, none⟩ = some (.slice (some ⟨b, o, none⟩) gs.length c) ∧ w'.cell? ⟨w.heap.size + 1, 0, none⟩ = some (.int .u64 (s.a.toNat : Int)) ∧ w'.cell? ⟨w.heap.size + 1, 1, none⟩ = some (.int .u64 (s.b.toNat : Int)) ∧ w'.cell? ⟨b, o + k * 3, none⟩ = some (.int .i64 gk) ∧ w'.cell? ⟨b, o + k * 3 + 1, none⟩ = some (.int .i64 gl) ∧ w'.cell? ⟨b, o + k * 3 + 2, none⟩ = some (.slice A' gi.length c') ∧ Below w2.heap.size w2 w') (first | exact SF.out _ hbd | exact SF.out _ hbw6 | exact SF.out _ (hbw5.alloc hbw5.size _) | exact SF.out _ hbw5)
            (first
              | (refine step_append_cells _ rfl (.tmp 25) (.tmp 34) 41 4 1 1 _ Tryd.underlying41 info_bool' rfl (by decide) rfl w2.heap.size _ _ _ rfl (own_below hown' hb5) [.bool y] rfl (by intro u hu; simp at hu; subst hu; rfl) rfl (by omega) (by omega) (by exact Nat.le_trans hb.size hb5.size) ?_; intro A8 c8 w6 hown6 hg6; have hbw6 : Below w2.heap.size w2 w6 := hbw5.trans (below_of_grown hg6 hbw5.size (fun k' hk' => (own_ge hown' hk').1)))
              | (go_at_call 38; (with_reducible refine (KV.out _ (by first | exact hbB' | assumption)).mono ?_); rintro e w5 ⟨rfl, hb5⟩; have hbw5 : Below w2.heap.size w2 w5 := hb.trans (hb5.mono hb.size)))
          go_wp2
          go_roundw
          case rel => exact ⟨k + 1, by omega, by go_num, by rw [HSU.out]; unfold OwnBools; rw [List.length_append, List.map_append, HLV.out]; exact hown6, hbw6⟩
          case measure => simp [intOf]; omega
        · have e : k = gs.length := by omega
          subst e
          have hbd := check_bounds (HC0.out trivial)
          have hix := last_toNat gs.length hbd.2.2.1
          have hpos := hbd.2.2.1
          have hle := hbd.2.2.2.1
          have hkm : gs.length - 1 < (valsTo gs s gs.length).length := by rw [HLV.out]; omega
          obtain ⟨b9, o9, rfl, hb9, hcell⟩ := BoolsV.at_ (n := gs.length) (c := c9) hV (Below.refl _ _) hkm
          have hres : r = (valsTo gs s gs.length)[gs.length - 1] := by
            rw [HR.out]
            unfold valOf
            rw [List.getD_eq_getElem?_getD, List.getElem?_eq_getElem hkm]
            simp
          have HRES := Lib.hid hres
          clear hres
          generalize (valsTo gs s gs.length)[gs.length - 1] = y at hcell HRES
          clear hbd
          go_wp2
          go_ret
          exact ⟨ret_bool (by rw [HRES.out]), hb3⟩
  · rcases hcc with hc | hc | hc | hc
    · exact absurd hc h0
    all_goals
      have hrf : r = false := by rw [HR.out]; simp [h0]
      subst hrf
      subst hc
      clear h0
      go_enter Tryd.func17, Tryd.ntmps17
      go_wp2
      first | go_region_with (go_at_call 29; refine (K1.out _ (by go_grown)).mono ?_; rintro e w' ⟨rfl, hB'⟩) | fail
      all_goals
        go_wp2
        go_ret
        exact ⟨rfl, Below.trans (by go_grown) (hB'.mono (by simp <;> omega))⟩
end Go.Proofs.YtbemhgojfehnjaaDoor
namespace Go.Proofs.YtbemhgojfehnjaaDoor
open Go Go.RowKit
theorem works_ {W : World} (tab : Tab W) : Calls Tryd.prog 14 #[] W fun e w' => e = .returned (.bool true) ∧ Below W.heap.size W w' := by
  have O0 : Own Z0 W W [] := Own.start W
  refine sx_enter (args := []) Tryd.func14 rfl rfl (by simp) ?_
  refine cw_seq (fun FK1 K1 => ?_)
  refine cw_region ?_
  refine wl_val (v := .bool false) (fun ρ e => ex_assign (e _ _ rfl)) rfl rfl ?_
  refine wl_nil ?_
  refine xw_next K1 ?_
  refine cw_seq (fun FK2 K2 => ?_)
  refine cw_region ?_
  refine wl_call (args := [.int .i64 1]) in_28 rfl rfl rfl ?_
  refine (lit_ _ 1).mono ?_
  rintro _ w3 ⟨rfl, hb4⟩
  have O5 : Own Z0 W w3 [] := O0.below hb4
  refine ⟨_, rfl, ?_⟩
  obtain ⟨g6, w7, r8, O9, hg10, hs11⟩ := own_slice O5 el36 ze3 2 [(0, .int .i64 0), (1, .int .i64 0)] (cs := #[.int .i64 0, .int .i64 0]) (by decide) (by kernel_rfl)
  refine wl_val (v := .slice (some ⟨g6, 0, none⟩) 2 2) (fun ρ e => r8 ρ _ _ _ _ _ _ (e.parts rfl)) rfl rfl ?_
  refine wl_call (args := [.int .i64 4, .slice (some ⟨g6, 0, none⟩) 2 2]) in_26 rfl rfl rfl ?_
  refine (gate_ _ 4).mono ?_
  rintro _ w12 ⟨rfl, hb13⟩
  have O14 : Own Z0 W w12 [.blk g6 3 #[.int .i64 0, .int .i64 0]] := O9.below hb13
  refine ⟨_, rfl, ?_⟩
  obtain ⟨g15, w16, r17, O18, hg19, hs20⟩ := own_slice O14 el36 ze3 1 [(0, .int .i64 1)] (cs := #[.int .i64 1]) (by decide) (by kernel_rfl)
  refine wl_val (v := .slice (some ⟨g15, 0, none⟩) 1 1) (fun ρ e => r17 ρ _ _ _ _ _ _ (e.parts rfl)) rfl rfl ?_
  refine wl_call (args := [.int .i64 3, .slice (some ⟨g15, 0, none⟩) 1 1]) in_26 rfl rfl rfl ?_
  refine (gate_ _ 3).mono ?_
  rintro _ w21 ⟨rfl, hb22⟩
  have O23 : Own Z0 W w21 [.blk g15 3 #[.int .i64 1], .blk g6 3 #[.int .i64 0, .int .i64 0]] := O18.below hb22
  refine ⟨_, rfl, ?_⟩
  obtain ⟨g24, w25, r26, O27, hg28, hs29⟩ := own_slice O23 el36 ze3 1 [(0, .int .i64 2)] (cs := #[.int .i64 2]) (by decide) (by kernel_rfl)
  refine wl_val (v := .slice (some ⟨g24, 0, none⟩) 1 1) (fun ρ e => r26 ρ _ _ _ _ _ _ (e.parts rfl)) rfl rfl ?_
  refine wl_call (args := [.int .i64 3, .slice (some ⟨g24, 0, none⟩) 1 1]) in_26 rfl rfl rfl ?_
  refine (gate_ _ 3).mono ?_
  rintro _ w30 ⟨rfl, hb31⟩
  have O32 : Own Z0 W w30 [.blk g24 3 #[.int .i64 2], .blk g15 3 #[.int .i64 1], .blk g6 3 #[.int .i64 0, .int .i64 0]] := O27.below hb31
  refine ⟨_, rfl, ?_⟩
  obtain ⟨g33, w34, r35, O36, hg37, hs38⟩ := own_slice O32 el22 ze38 4 [(0, .agg #[.int .i64 2, .int .i64 1, .slice none 0 0]), (1, .agg #[.int .i64 4, .int .i64 0, .slice (some ⟨g6, 0, none⟩) 2 2]), (2, .agg #[.int .i64 3, .int .i64 0, .slice (some ⟨g15, 0, none⟩) 1 1]), (3, .agg #[.int .i64 3, .int .i64 0, .slice (some ⟨g24, 0, none⟩) 1 1])] (cs := #[.int .i64 2, .int .i64 1, .slice none 0 0, .int .i64 4, .int .i64 0, .slice (some ⟨g6, 0, none⟩) 2 2, .int .i64 3, .int .i64 0, .slice (some ⟨g15, 0, none⟩) 1 1, .int .i64 3, .int .i64 0, .slice (some ⟨g24, 0, none⟩) 1 1]) (by decide) (by kernel_rfl)
  refine wl_val (v := .slice (some ⟨g33, 0, none⟩) 4 4) (fun ρ e => r35 ρ _ _ _ _ _ _ (e.parts rfl)) rfl rfl ?_
  refine wl_call (args := [.int .i64 1, .slice (some ⟨g33, 0, none⟩) 4 4]) in_25 rfl rfl rfl ?_
  refine (circuit_ _ 1).mono ?_
  rintro _ w39 ⟨rfl, hb40⟩
  have O41 : Own Z0 W w39 [.blk g33 38 #[.int .i64 2, .int .i64 1, .slice none 0 0, .int .i64 4, .int .i64 0, .slice (some ⟨g6, 0, none⟩) 2 2, .int .i64 3, .int .i64 0, .slice (some ⟨g15, 0, none⟩) 1 1, .int .i64 3, .int .i64 0, .slice (some ⟨g24, 0, none⟩) 1 1], .blk g24 3 #[.int .i64 2], .blk g15 3 #[.int .i64 1], .blk g6 3 #[.int .i64 0, .int .i64 0]] := O36.below hb40
  refine ⟨_, rfl, ?_⟩
  obtain ⟨g42, w43, r44, O45, hg46, hs47⟩ := own_alloc O41 24 ze24 rfl
  refine wl_val (v := .pointer (some ⟨g42, 0, none⟩)) (fun ρ e => r44 ρ _ _ _ _ _) rfl rfl ?_
  obtain ⟨w48, r49, O50, hs51⟩ := own_put (o := 0) (n := 2) O45 ty24 (.agg #[.int .i64 1, .slice (some ⟨g33, 0, none⟩) 4 4]) [.int .i64 1, .slice (some ⟨g33, 0, none⟩) 4 4] (cs' := #[.int .i64 1, .slice (some ⟨g33, 0, none⟩) 4 4]) rfl rfl rfl (Nat.le_of_ble_eq_true rfl) rfl
  refine wl_none (fun ρ e => r49 ρ _ _ _ _ _ _ (e _ _ rfl) (e _ _ rfl)) rfl ?_
  refine wl_nil ?_
  refine xw_next K2 ?_
  refine cw_seq (fun FK52 K52 => ?_)
  refine cw_drawn (fun X => Own Z0 W X [.blk g42 24 #[.int .i64 1, .slice (some ⟨g33, 0, none⟩) 4 4], .blk g33 38 #[.int .i64 2, .int .i64 1, .slice none 0 0, .int .i64 4, .int .i64 0, .slice (some ⟨g6, 0, none⟩) 2 2, .int .i64 3, .int .i64 0, .slice (some ⟨g15, 0, none⟩) 1 1, .int .i64 3, .int .i64 0, .slice (some ⟨g24, 0, none⟩) 1 1], .blk g24 3 #[.int .i64 2], .blk g15 3 #[.int .i64 1], .blk g6 3 #[.int .i64 0, .int .i64 0]]) 26 [(0, 0), (1, 2), (2, 2), (3, 2), (4, 2), (5, 1), (6, 0), (7, 1), (8, 2), (9, 1), (10, 1), (11, 0), (12, 1), (13, 2), (14, 1), (15, 1), (16, 1), (17, 0), (18, 2), (19, 1), (20, 1), (21, 1), (22, 2), (23, 2), (24, 1), (25, 1), (26, 3)] (by kernel_rfl) (by kernel_rfl) (PQ.then_ PQ.body) (O50).drew ?_
  have O53 : Own Z0 W w48.drew [.blk g42 24 #[.int .i64 1, .slice (some ⟨g33, 0, none⟩) 4 4], .blk g33 38 #[.int .i64 2, .int .i64 1, .slice none 0 0, .int .i64 4, .int .i64 0, .slice (some ⟨g6, 0, none⟩) 2 2, .int .i64 3, .int .i64 0, .slice (some ⟨g15, 0, none⟩) 1 1, .int .i64 3, .int .i64 0, .slice (some ⟨g24, 0, none⟩) 1 1], .blk g24 3 #[.int .i64 2], .blk g15 3 #[.int .i64 1], .blk g6 3 #[.int .i64 0, .int .i64 0]] := O50.drew
  refine wt0 (v := .agg #[.int .i64 1, .slice (some ⟨g33, 0, none⟩) 4 4]) rfl (fun ρ e W hW => ex_loadN (vs := [.int .i64 1, .slice (some ⟨g33, 0, none⟩) 4 4]) ty24 (e _ _ rfl) rfl (hW.cells 0 0 rfl rfl)) rfl rfl ?_
  refine wt2_call (args := [.int .i64 1]) rfl in_28 rfl rfl rfl ?_
  refine (lit_ _ 1).mono ?_
  rintro _ w54 ⟨rfl, hb55⟩
  have O56 : Own Z0 W w54 [.blk g42 24 #[.int .i64 1, .slice (some ⟨g33, 0, none⟩) 4 4], .blk g33 38 #[.int .i64 2, .int .i64 1, .slice none 0 0, .int .i64 4, .int .i64 0, .slice (some ⟨g6, 0, none⟩) 2 2, .int .i64 3, .int .i64 0, .slice (some ⟨g15, 0, none⟩) 1 1, .int .i64 3, .int .i64 0, .slice (some ⟨g24, 0, none⟩) 1 1], .blk g24 3 #[.int .i64 2], .blk g15 3 #[.int .i64 1], .blk g6 3 #[.int .i64 0, .int .i64 0]] := O53.below hb55
  refine ⟨_, rfl, O56, ?_⟩
  obtain ⟨g57, w58, r59, O60, hg61, hs62⟩ := own_slice O56 el22 ze38 1 [(0, .agg #[.int .i64 2, .int .i64 1, .slice none 0 0])] (cs := #[.int .i64 2, .int .i64 1, .slice none 0 0]) (by decide) (by kernel_rfl)
  refine wt2 (v := .slice (some ⟨g57, 0, none⟩) 1 1) rfl (fun ρ e => r59 ρ _ _ _ _ _ _ (e.parts rfl)) rfl rfl (O60.re [1, 2, 3, 4, 5] rfl : Own Z0 W w58 [.blk g42 24 #[.int .i64 1, .slice (some ⟨g33, 0, none⟩) 4 4], .blk g33 38 #[.int .i64 2, .int .i64 1, .slice none 0 0, .int .i64 4, .int .i64 0, .slice (some ⟨g6, 0, none⟩) 2 2, .int .i64 3, .int .i64 0, .slice (some ⟨g15, 0, none⟩) 1 1, .int .i64 3, .int .i64 0, .slice (some ⟨g24, 0, none⟩) 1 1], .blk g24 3 #[.int .i64 2], .blk g15 3 #[.int .i64 1], .blk g6 3 #[.int .i64 0, .int .i64 0]]) ?_
  refine wt2_call (args := [.int .i64 1, .slice (some ⟨g57, 0, none⟩) 1 1]) rfl in_25 rfl rfl rfl ?_
  refine (circuit_ _ 1).mono ?_
  rintro _ w63 ⟨rfl, hb64⟩
  have O65 : Own Z0 W w63 [.blk g57 38 #[.int .i64 2, .int .i64 1, .slice none 0 0], .blk g42 24 #[.int .i64 1, .slice (some ⟨g33, 0, none⟩) 4 4], .blk g33 38 #[.int .i64 2, .int .i64 1, .slice none 0 0, .int .i64 4, .int .i64 0, .slice (some ⟨g6, 0, none⟩) 2 2, .int .i64 3, .int .i64 0, .slice (some ⟨g15, 0, none⟩) 1 1, .int .i64 3, .int .i64 0, .slice (some ⟨g24, 0, none⟩) 1 1], .blk g24 3 #[.int .i64 2], .blk g15 3 #[.int .i64 1], .blk g6 3 #[.int .i64 0, .int .i64 0]] := O60.below hb64
  refine ⟨_, rfl, (O65.re [1, 2, 3, 4, 5] rfl : Own Z0 W w63 [.blk g42 24 #[.int .i64 1, .slice (some ⟨g33, 0, none⟩) 4 4], .blk g33 38 #[.int .i64 2, .int .i64 1, .slice none 0 0, .int .i64 4, .int .i64 0, .slice (some ⟨g6, 0, none⟩) 2 2, .int .i64 3, .int .i64 0, .slice (some ⟨g15, 0, none⟩) 1 1, .int .i64 3, .int .i64 0, .slice (some ⟨g24, 0, none⟩) 1 1], .blk g24 3 #[.int .i64 2], .blk g15 3 #[.int .i64 1], .blk g6 3 #[.int .i64 0, .int .i64 0]]), ?_⟩
  refine wt2_call (args := [.agg #[.int .i64 1, .slice (some ⟨g33, 0, none⟩) 4 4], .agg #[.int .i64 1, .slice (some ⟨g57, 0, none⟩) 1 1]]) rfl in_27 rfl rfl rfl ?_
  have h69 := folds_ (N := 1) (M := 1) (gatesV_of (n := 4) (c := 4) (gs := ([⟨2, 1, []⟩, ⟨4, 0, [0, 0]⟩, ⟨3, 0, [1]⟩, ⟨3, 0, [2]⟩] : List Gate)) (vs := ([.slice none 0 0, .slice (some ⟨g6, 0, none⟩) 2 2, .slice (some ⟨g15, 0, none⟩) 1 1, .slice (some ⟨g24, 0, none⟩) 1 1] : List Value)) (D := fun k => k < w63.heap.size) (fun j v hj => ((O65.blk 2 rfl : Blk _ g33 38 (gcells ([⟨2, 1, []⟩, ⟨4, 0, [0, 0]⟩, ⟨3, 0, [1]⟩, ⟨3, 0, [2]⟩] : List Gate) ([.slice none 0 0, .slice (some ⟨g6, 0, none⟩) 2 2, .slice (some ⟨g15, 0, none⟩) 1 1, .slice (some ⟨g24, 0, none⟩) 1 1] : List Value)).toArray).cell j).trans (by simpa using hj)) (Ins.cons (IntsD.nil _ _) (Ins.cons ((IntsD.of_blk (n := 2) (l := [0, 0]) (O65.blk 5 rfl) rfl (by unfold maxLen; omega)).mono (fun k hk => hk ▸ (O65.blk 5 rfl).lt)) (Ins.cons ((IntsD.of_blk (n := 1) (l := [1]) (O65.blk 4 rfl) rfl (by unfold maxLen; omega)).mono (fun k hk => hk ▸ (O65.blk 4 rfl).lt)) (Ins.cons ((IntsD.of_blk (n := 1) (l := [2]) (O65.blk 3 rfl) rfl (by unfold maxLen; omega)).mono (fun k hk => hk ▸ (O65.blk 3 rfl).lt)) (Ins.nil _ _))))) (fun _ h => h) (O65.blk 2 rfl).lt rfl (Nat.le_refl _) (by unfold maxLen; omega)) (gatesV_of (n := 1) (c := 1) (gs := ([⟨2, 1, []⟩] : List Gate)) (vs := ([.slice none 0 0] : List Value)) (D := fun k => k < w63.heap.size) (fun j v hj => ((O65.blk 0 rfl : Blk _ g57 38 (gcells ([⟨2, 1, []⟩] : List Gate) ([.slice none 0 0] : List Value)).toArray).cell j).trans (by simpa using hj)) (Ins.cons (IntsD.nil _ _) (Ins.nil _ _)) (fun _ h => h) (O65.blk 0 rfl).lt rfl (Nat.le_refl _) (by unfold maxLen; omega)) (by decide) (tab.below (Nat.le_refl _) O65.old) (by intro g hg; revert g hg; decide) (by decide)
  rw [show decide (checkOf 1 ([⟨2, 1, []⟩, ⟨4, 0, [0, 0]⟩, ⟨3, 0, [1]⟩, ⟨3, 0, [2]⟩] : List Gate) = 0 ∧ (1 : Int) = 1 ∧ foldOf ([⟨2, 1, []⟩, ⟨4, 0, [0, 0]⟩, ⟨3, 0, [1]⟩, ⟨3, 0, [2]⟩] : List Gate) = ([⟨2, 1, []⟩] : List Gate)) = true from by kernel_rfl] at h69
  refine h69.mono ?_
  rintro _ w66 ⟨rfl, hb67⟩
  have O68 : Own Z0 W w66 [.blk g57 38 #[.int .i64 2, .int .i64 1, .slice none 0 0], .blk g42 24 #[.int .i64 1, .slice (some ⟨g33, 0, none⟩) 4 4], .blk g33 38 #[.int .i64 2, .int .i64 1, .slice none 0 0, .int .i64 4, .int .i64 0, .slice (some ⟨g6, 0, none⟩) 2 2, .int .i64 3, .int .i64 0, .slice (some ⟨g15, 0, none⟩) 1 1, .int .i64 3, .int .i64 0, .slice (some ⟨g24, 0, none⟩) 1 1], .blk g24 3 #[.int .i64 2], .blk g15 3 #[.int .i64 1], .blk g6 3 #[.int .i64 0, .int .i64 0]] := O65.below hb67
  refine ⟨_, rfl, (O68.re [1, 2, 3, 4, 5] rfl : Own Z0 W w66 [.blk g42 24 #[.int .i64 1, .slice (some ⟨g33, 0, none⟩) 4 4], .blk g33 38 #[.int .i64 2, .int .i64 1, .slice none 0 0, .int .i64 4, .int .i64 0, .slice (some ⟨g6, 0, none⟩) 2 2, .int .i64 3, .int .i64 0, .slice (some ⟨g15, 0, none⟩) 1 1, .int .i64 3, .int .i64 0, .slice (some ⟨g24, 0, none⟩) 1 1], .blk g24 3 #[.int .i64 2], .blk g15 3 #[.int .i64 1], .blk g6 3 #[.int .i64 0, .int .i64 0]]), ?_⟩
  refine wt1 (v := .bool true) rfl (fun ρ e W => ex_move (e _ _ rfl)) rfl rfl ?_
  refine wt0 (v := .agg #[.int .i64 1, .slice (some ⟨g33, 0, none⟩) 4 4]) rfl (fun ρ e W hW => ex_loadN (vs := [.int .i64 1, .slice (some ⟨g33, 0, none⟩) 4 4]) ty24 (e _ _ rfl) rfl (hW.cells 0 0 rfl rfl)) rfl rfl ?_
  refine wt1 (v := .agg #[.int .u64 1, .int .u64 0]) rfl (fun ρ e W => ex_buildA (cells := #[.int .u64 1, .int .u64 0]) ar27 (e.parts rfl) rfl) rfl rfl ?_
  refine wt2_call (args := [.agg #[.int .i64 1, .slice (some ⟨g33, 0, none⟩) 4 4], .agg #[.int .u64 1, .int .u64 0]]) rfl in_15 rfl rfl rfl ?_
  have h73 := circ_eval 1 _ _ 1#64 0#64 _ _ (Nat.le_refl _) (gatesV_of (n := 4) (c := 4) (gs := ([⟨2, 1, []⟩, ⟨4, 0, [0, 0]⟩, ⟨3, 0, [1]⟩, ⟨3, 0, [2]⟩] : List Gate)) (vs := ([.slice none 0 0, .slice (some ⟨g6, 0, none⟩) 2 2, .slice (some ⟨g15, 0, none⟩) 1 1, .slice (some ⟨g24, 0, none⟩) 1 1] : List Value)) (D := fun k => k < w66.heap.size) (fun j v hj => ((O68.blk 2 rfl : Blk _ g33 38 (gcells ([⟨2, 1, []⟩, ⟨4, 0, [0, 0]⟩, ⟨3, 0, [1]⟩, ⟨3, 0, [2]⟩] : List Gate) ([.slice none 0 0, .slice (some ⟨g6, 0, none⟩) 2 2, .slice (some ⟨g15, 0, none⟩) 1 1, .slice (some ⟨g24, 0, none⟩) 1 1] : List Value)).toArray).cell j).trans (by simpa using hj)) (Ins.cons (IntsD.nil _ _) (Ins.cons ((IntsD.of_blk (n := 2) (l := [0, 0]) (O68.blk 5 rfl) rfl (by unfold maxLen; omega)).mono (fun k hk => hk ▸ (O68.blk 5 rfl).lt)) (Ins.cons ((IntsD.of_blk (n := 1) (l := [1]) (O68.blk 4 rfl) rfl (by unfold maxLen; omega)).mono (fun k hk => hk ▸ (O68.blk 4 rfl).lt)) (Ins.cons ((IntsD.of_blk (n := 1) (l := [2]) (O68.blk 3 rfl) rfl (by unfold maxLen; omega)).mono (fun k hk => hk ▸ (O68.blk 3 rfl).lt)) (Ins.nil _ _))))) (fun _ h => h) (O68.blk 2 rfl).lt rfl (Nat.le_refl _) (by unfold maxLen; omega)) (by decide) (by decide) (by decide)
  rw [show evalOf 1 ([⟨2, 1, []⟩, ⟨4, 0, [0, 0]⟩, ⟨3, 0, [1]⟩, ⟨3, 0, [2]⟩] : List Gate) ⟨1#64, 0#64⟩ = true from by kernel_rfl] at h73
  refine h73.mono ?_
  rintro _ w70 ⟨rfl, hb71⟩
  have O72 : Own Z0 W w70 [.blk g57 38 #[.int .i64 2, .int .i64 1, .slice none 0 0], .blk g42 24 #[.int .i64 1, .slice (some ⟨g33, 0, none⟩) 4 4], .blk g33 38 #[.int .i64 2, .int .i64 1, .slice none 0 0, .int .i64 4, .int .i64 0, .slice (some ⟨g6, 0, none⟩) 2 2, .int .i64 3, .int .i64 0, .slice (some ⟨g15, 0, none⟩) 1 1, .int .i64 3, .int .i64 0, .slice (some ⟨g24, 0, none⟩) 1 1], .blk g24 3 #[.int .i64 2], .blk g15 3 #[.int .i64 1], .blk g6 3 #[.int .i64 0, .int .i64 0]] := O68.below hb71
  refine ⟨_, rfl, (O72.re [1, 2, 3, 4, 5] rfl : Own Z0 W w70 [.blk g42 24 #[.int .i64 1, .slice (some ⟨g33, 0, none⟩) 4 4], .blk g33 38 #[.int .i64 2, .int .i64 1, .slice none 0 0, .int .i64 4, .int .i64 0, .slice (some ⟨g6, 0, none⟩) 2 2, .int .i64 3, .int .i64 0, .slice (some ⟨g15, 0, none⟩) 1 1, .int .i64 3, .int .i64 0, .slice (some ⟨g24, 0, none⟩) 1 1], .blk g24 3 #[.int .i64 2], .blk g15 3 #[.int .i64 1], .blk g6 3 #[.int .i64 0, .int .i64 0]]), ?_⟩
  refine wt1 (v := .bool true) rfl (fun ρ e W => ex_pick1 (e _ _ rfl) (e _ _ rfl)) rfl rfl ?_
  refine wt1 (v := .bool true) rfl (fun ρ e W => ex_move (e _ _ rfl)) rfl rfl ?_
  refine wt0 (v := .agg #[.int .i64 1, .slice (some ⟨g33, 0, none⟩) 4 4]) rfl (fun ρ e W hW => ex_loadN (vs := [.int .i64 1, .slice (some ⟨g33, 0, none⟩) 4 4]) ty24 (e _ _ rfl) rfl (hW.cells 0 0 rfl rfl)) rfl rfl ?_
  refine wt1 (v := .agg #[.int .u64 0, .int .u64 0]) rfl (fun ρ e W => ex_buildA (cells := #[.int .u64 0, .int .u64 0]) ar27 (e.parts rfl) rfl) rfl rfl ?_
  refine wt2_call (args := [.agg #[.int .i64 1, .slice (some ⟨g33, 0, none⟩) 4 4], .agg #[.int .u64 0, .int .u64 0]]) rfl in_15 rfl rfl rfl ?_
  have h77 := circ_eval 1 _ _ 0#64 0#64 _ _ (Nat.le_refl _) (gatesV_of (n := 4) (c := 4) (gs := ([⟨2, 1, []⟩, ⟨4, 0, [0, 0]⟩, ⟨3, 0, [1]⟩, ⟨3, 0, [2]⟩] : List Gate)) (vs := ([.slice none 0 0, .slice (some ⟨g6, 0, none⟩) 2 2, .slice (some ⟨g15, 0, none⟩) 1 1, .slice (some ⟨g24, 0, none⟩) 1 1] : List Value)) (D := fun k => k < w70.heap.size) (fun j v hj => ((O72.blk 2 rfl : Blk _ g33 38 (gcells ([⟨2, 1, []⟩, ⟨4, 0, [0, 0]⟩, ⟨3, 0, [1]⟩, ⟨3, 0, [2]⟩] : List Gate) ([.slice none 0 0, .slice (some ⟨g6, 0, none⟩) 2 2, .slice (some ⟨g15, 0, none⟩) 1 1, .slice (some ⟨g24, 0, none⟩) 1 1] : List Value)).toArray).cell j).trans (by simpa using hj)) (Ins.cons (IntsD.nil _ _) (Ins.cons ((IntsD.of_blk (n := 2) (l := [0, 0]) (O72.blk 5 rfl) rfl (by unfold maxLen; omega)).mono (fun k hk => hk ▸ (O72.blk 5 rfl).lt)) (Ins.cons ((IntsD.of_blk (n := 1) (l := [1]) (O72.blk 4 rfl) rfl (by unfold maxLen; omega)).mono (fun k hk => hk ▸ (O72.blk 4 rfl).lt)) (Ins.cons ((IntsD.of_blk (n := 1) (l := [2]) (O72.blk 3 rfl) rfl (by unfold maxLen; omega)).mono (fun k hk => hk ▸ (O72.blk 3 rfl).lt)) (Ins.nil _ _))))) (fun _ h => h) (O72.blk 2 rfl).lt rfl (Nat.le_refl _) (by unfold maxLen; omega)) (by decide) (by decide) (by decide)
  rw [show evalOf 1 ([⟨2, 1, []⟩, ⟨4, 0, [0, 0]⟩, ⟨3, 0, [1]⟩, ⟨3, 0, [2]⟩] : List Gate) ⟨0#64, 0#64⟩ = false from by kernel_rfl] at h77
  refine h77.mono ?_
  rintro _ w74 ⟨rfl, hb75⟩
  have O76 : Own Z0 W w74 [.blk g57 38 #[.int .i64 2, .int .i64 1, .slice none 0 0], .blk g42 24 #[.int .i64 1, .slice (some ⟨g33, 0, none⟩) 4 4], .blk g33 38 #[.int .i64 2, .int .i64 1, .slice none 0 0, .int .i64 4, .int .i64 0, .slice (some ⟨g6, 0, none⟩) 2 2, .int .i64 3, .int .i64 0, .slice (some ⟨g15, 0, none⟩) 1 1, .int .i64 3, .int .i64 0, .slice (some ⟨g24, 0, none⟩) 1 1], .blk g24 3 #[.int .i64 2], .blk g15 3 #[.int .i64 1], .blk g6 3 #[.int .i64 0, .int .i64 0]] := O72.below hb75
  refine ⟨_, rfl, (O76.re [1, 2, 3, 4, 5] rfl : Own Z0 W w74 [.blk g42 24 #[.int .i64 1, .slice (some ⟨g33, 0, none⟩) 4 4], .blk g33 38 #[.int .i64 2, .int .i64 1, .slice none 0 0, .int .i64 4, .int .i64 0, .slice (some ⟨g6, 0, none⟩) 2 2, .int .i64 3, .int .i64 0, .slice (some ⟨g15, 0, none⟩) 1 1, .int .i64 3, .int .i64 0, .slice (some ⟨g24, 0, none⟩) 1 1], .blk g24 3 #[.int .i64 2], .blk g15 3 #[.int .i64 1], .blk g6 3 #[.int .i64 0, .int .i64 0]]), ?_⟩
  refine wt1 (v := .bool true) rfl (fun ρ e W => ex_lnot (b := false) (e _ _ rfl)) rfl rfl ?_
  refine wt1 (v := .bool true) rfl (fun ρ e W => ex_pick1 (e _ _ rfl) (e _ _ rfl)) rfl rfl ?_
  refine wt1 (v := .bool true) rfl (fun ρ e W => ex_move (e _ _ rfl)) rfl rfl ?_
  refine wt0 (v := .agg #[.int .i64 1, .slice (some ⟨g33, 0, none⟩) 4 4]) rfl (fun ρ e W hW => ex_loadN (vs := [.int .i64 1, .slice (some ⟨g33, 0, none⟩) 4 4]) ty24 (e _ _ rfl) rfl (hW.cells 0 0 rfl rfl)) rfl rfl ?_
  refine wt2_call (args := [.agg #[.int .i64 1, .slice (some ⟨g33, 0, none⟩) 4 4]]) rfl in_23 rfl rfl rfl ?_
  have h81 := circ_size 1 _ _ _ _ (Nat.le_refl _) (gatesV_of (n := 4) (c := 4) (gs := ([⟨2, 1, []⟩, ⟨4, 0, [0, 0]⟩, ⟨3, 0, [1]⟩, ⟨3, 0, [2]⟩] : List Gate)) (vs := ([.slice none 0 0, .slice (some ⟨g6, 0, none⟩) 2 2, .slice (some ⟨g15, 0, none⟩) 1 1, .slice (some ⟨g24, 0, none⟩) 1 1] : List Value)) (D := fun k => k < w74.heap.size) (fun j v hj => ((O76.blk 2 rfl : Blk _ g33 38 (gcells ([⟨2, 1, []⟩, ⟨4, 0, [0, 0]⟩, ⟨3, 0, [1]⟩, ⟨3, 0, [2]⟩] : List Gate) ([.slice none 0 0, .slice (some ⟨g6, 0, none⟩) 2 2, .slice (some ⟨g15, 0, none⟩) 1 1, .slice (some ⟨g24, 0, none⟩) 1 1] : List Value)).toArray).cell j).trans (by simpa using hj)) (Ins.cons (IntsD.nil _ _) (Ins.cons ((IntsD.of_blk (n := 2) (l := [0, 0]) (O76.blk 5 rfl) rfl (by unfold maxLen; omega)).mono (fun k hk => hk ▸ (O76.blk 5 rfl).lt)) (Ins.cons ((IntsD.of_blk (n := 1) (l := [1]) (O76.blk 4 rfl) rfl (by unfold maxLen; omega)).mono (fun k hk => hk ▸ (O76.blk 4 rfl).lt)) (Ins.cons ((IntsD.of_blk (n := 1) (l := [2]) (O76.blk 3 rfl) rfl (by unfold maxLen; omega)).mono (fun k hk => hk ▸ (O76.blk 3 rfl).lt)) (Ins.nil _ _))))) (fun _ h => h) (O76.blk 2 rfl).lt rfl (Nat.le_refl _) (by unfold maxLen; omega)) (by decide)
  rw [show ((sizeOf ([⟨2, 1, []⟩, ⟨4, 0, [0, 0]⟩, ⟨3, 0, [1]⟩, ⟨3, 0, [2]⟩] : List Gate) : Nat) : Int) = 4 from by kernel_rfl] at h81
  refine h81.mono ?_
  rintro _ w78 ⟨rfl, hb79⟩
  have O80 : Own Z0 W w78 [.blk g57 38 #[.int .i64 2, .int .i64 1, .slice none 0 0], .blk g42 24 #[.int .i64 1, .slice (some ⟨g33, 0, none⟩) 4 4], .blk g33 38 #[.int .i64 2, .int .i64 1, .slice none 0 0, .int .i64 4, .int .i64 0, .slice (some ⟨g6, 0, none⟩) 2 2, .int .i64 3, .int .i64 0, .slice (some ⟨g15, 0, none⟩) 1 1, .int .i64 3, .int .i64 0, .slice (some ⟨g24, 0, none⟩) 1 1], .blk g24 3 #[.int .i64 2], .blk g15 3 #[.int .i64 1], .blk g6 3 #[.int .i64 0, .int .i64 0]] := O76.below hb79
  refine ⟨_, rfl, (O80.re [1, 2, 3, 4, 5] rfl : Own Z0 W w78 [.blk g42 24 #[.int .i64 1, .slice (some ⟨g33, 0, none⟩) 4 4], .blk g33 38 #[.int .i64 2, .int .i64 1, .slice none 0 0, .int .i64 4, .int .i64 0, .slice (some ⟨g6, 0, none⟩) 2 2, .int .i64 3, .int .i64 0, .slice (some ⟨g15, 0, none⟩) 1 1, .int .i64 3, .int .i64 0, .slice (some ⟨g24, 0, none⟩) 1 1], .blk g24 3 #[.int .i64 2], .blk g15 3 #[.int .i64 1], .blk g6 3 #[.int .i64 0, .int .i64 0]]), ?_⟩
  refine wt1 (v := .bool true) rfl (fun ρ e W => ex_cmp (u := 4) (v := 4) (e _ _ rfl) (e _ _ rfl) (eql1 (by omega))) rfl rfl ?_
  refine wt1 (v := .bool true) rfl (fun ρ e W => ex_pick1 (e _ _ rfl) (e _ _ rfl)) rfl rfl ?_
  refine wt1 (v := .bool true) rfl (fun ρ e W => ex_move (e _ _ rfl)) rfl rfl ?_
  refine wt2_call (args := [.int .i64 0, .slice none 0 0]) rfl in_25 rfl rfl rfl ?_
  refine (circuit_ _ 0).mono ?_
  rintro _ w82 ⟨rfl, hb83⟩
  have O84 : Own Z0 W w82 [.blk g57 38 #[.int .i64 2, .int .i64 1, .slice none 0 0], .blk g42 24 #[.int .i64 1, .slice (some ⟨g33, 0, none⟩) 4 4], .blk g33 38 #[.int .i64 2, .int .i64 1, .slice none 0 0, .int .i64 4, .int .i64 0, .slice (some ⟨g6, 0, none⟩) 2 2, .int .i64 3, .int .i64 0, .slice (some ⟨g15, 0, none⟩) 1 1, .int .i64 3, .int .i64 0, .slice (some ⟨g24, 0, none⟩) 1 1], .blk g24 3 #[.int .i64 2], .blk g15 3 #[.int .i64 1], .blk g6 3 #[.int .i64 0, .int .i64 0]] := O80.below hb83
  refine ⟨_, rfl, (O84.re [1, 2, 3, 4, 5] rfl : Own Z0 W w82 [.blk g42 24 #[.int .i64 1, .slice (some ⟨g33, 0, none⟩) 4 4], .blk g33 38 #[.int .i64 2, .int .i64 1, .slice none 0 0, .int .i64 4, .int .i64 0, .slice (some ⟨g6, 0, none⟩) 2 2, .int .i64 3, .int .i64 0, .slice (some ⟨g15, 0, none⟩) 1 1, .int .i64 3, .int .i64 0, .slice (some ⟨g24, 0, none⟩) 1 1], .blk g24 3 #[.int .i64 2], .blk g15 3 #[.int .i64 1], .blk g6 3 #[.int .i64 0, .int .i64 0]]), ?_⟩
  refine wt2_call (args := [.agg #[.int .i64 0, .slice none 0 0]]) rfl in_22 rfl rfl rfl ?_
  have h88 := circ_check 0 _ _ _ _ (Nat.le_refl _) (gates_nil w82 w82.heap.size) (by decide)
  rw [show checkOf 0 [] = 1 from by kernel_rfl] at h88
  refine h88.mono ?_
  rintro _ w85 ⟨rfl, hb86⟩
  have O87 : Own Z0 W w85 [.blk g57 38 #[.int .i64 2, .int .i64 1, .slice none 0 0], .blk g42 24 #[.int .i64 1, .slice (some ⟨g33, 0, none⟩) 4 4], .blk g33 38 #[.int .i64 2, .int .i64 1, .slice none 0 0, .int .i64 4, .int .i64 0, .slice (some ⟨g6, 0, none⟩) 2 2, .int .i64 3, .int .i64 0, .slice (some ⟨g15, 0, none⟩) 1 1, .int .i64 3, .int .i64 0, .slice (some ⟨g24, 0, none⟩) 1 1], .blk g24 3 #[.int .i64 2], .blk g15 3 #[.int .i64 1], .blk g6 3 #[.int .i64 0, .int .i64 0]] := O84.below hb86
  refine ⟨_, rfl, (O87.re [1, 2, 3, 4, 5] rfl : Own Z0 W w85 [.blk g42 24 #[.int .i64 1, .slice (some ⟨g33, 0, none⟩) 4 4], .blk g33 38 #[.int .i64 2, .int .i64 1, .slice none 0 0, .int .i64 4, .int .i64 0, .slice (some ⟨g6, 0, none⟩) 2 2, .int .i64 3, .int .i64 0, .slice (some ⟨g15, 0, none⟩) 1 1, .int .i64 3, .int .i64 0, .slice (some ⟨g24, 0, none⟩) 1 1], .blk g24 3 #[.int .i64 2], .blk g15 3 #[.int .i64 1], .blk g6 3 #[.int .i64 0, .int .i64 0]]), ?_⟩
  refine wt1 (v := .bool true) rfl (fun ρ e W => ex_cmp (u := 1) (v := 1) (e _ _ rfl) (e _ _ rfl) (eql1 (by omega))) rfl rfl ?_
  refine wt1 (v := .bool true) rfl (fun ρ e W => ex_pick1 (e _ _ rfl) (e _ _ rfl)) rfl rfl ?_
  refine wt3 (v := .bool true) rfl (fun ρ e => ex_assign (e _ _ rfl)) rfl rfl ?_
  refine wt_nil ?_
  refine xw_next K52 ?_
  refine cw_ret ?_
  refine xw_ret (v := .bool true) (fun T hT => res1 rfl T _ (hT 0 _ rfl)) ?_
  exact ⟨rfl, O87.old⟩
end Go.Proofs.YtbemhgojfehnjaaDoor
namespace Go.Proofs.YtbemhgojfehnjaaDoor
open Go Go.RowKit
/-- What Light answers. -/
def lightOf (N : Int) (gs : List Gate) : Bool := decide (gs.length ≤ 5000) && gs.all (fun g => decide (g.inp.length ≤ 200)) && ((decide ((gs.length : Int) ≤ 60) && gs.all (fun g => decide (g.inp.length ≤ 12))) || checkOf N gs != 0)
theorem light_12 (n : Nat) : cmpB .leq (n : Int) 12 = some (decide (n ≤ 12)) := by
  simp only [cmpB, Option.some.injEq, decide_eq_decide]; omega
theorem light_long {N : Int} {gs : List Gate} (h : 5000 < gs.length) : lightOf N gs = false := by
  unfold lightOf
  rw [decide_eq_false (by omega)]
  rfl
theorem light_wide {N : Int} {gs : List Gate} {i : Nat} (hi : i < gs.length) (h : 200 < gs[i].inp.length) : lightOf N gs = false := by
  unfold lightOf
  have : gs.all (fun g => decide (g.inp.length ≤ 200)) = false := by
    rw [List.all_eq_false]
    exact ⟨gs[i], List.getElem_mem hi, by simp; omega⟩
  rw [this]
  simp
theorem light_end {N : Int} {gs : List Gate} (h1 : gs.length ≤ 5000) (h2 : ∀ g ∈ gs, g.inp.length ≤ 200) : lightOf N gs = ((decide ((gs.length : Int) ≤ 60) && gs.all (fun g => decide (g.inp.length ≤ 12))) || checkOf N gs != 0) := by
  unfold lightOf
  have : gs.all (fun g => decide (g.inp.length ≤ 200)) = true := by
    rw [List.all_eq_true]
    intro g hg
    simpa using h2 g hg
  rw [this, decide_eq_true h1]
  rfl
theorem sizeTo_bound {gs : List Gate} {B : Nat} (h : ∀ g ∈ gs, g.inp.length ≤ B) : ∀ k, k ≤ gs.length → sizeTo gs k ≤ k * B
  | 0, _ => by rw [sizeTo_zero]; omega
  | k + 1, hk => by
    rw [sizeTo_succ gs k (by omega)]
    have h1 := sizeTo_bound h k (by omega)
    have h2 := h gs[k] (List.getElem_mem _)
    rw [Nat.succ_mul]; omega
theorem light_size {N : Int} {gs : List Gate} (h1 : gs.length ≤ 5000) (h2 : ∀ g ∈ gs, g.inp.length ≤ 200) : sizeOf gs ≤ 4611686018427387904 := by
  have := sizeTo_bound h2 gs.length (Nat.le_refl _)
  unfold sizeOf
  have : gs.length * 200 ≤ 5000 * 200 := Nat.mul_le_mul_right _ h1
  omega
theorem light_true {N : Int} {gs : List Gate} (h : lightOf N gs = true) : gs.length ≤ 5000 ∧ ∀ g ∈ gs, g.inp.length ≤ 200 := by
  unfold lightOf at h
  simp only [Bool.and_eq_true, decide_eq_true_eq, List.all_eq_true] at h
  exact ⟨h.1.1, h.1.2⟩
theorem light_ {W : World} {V : Value} {N : Int} {gs : List Gate} (hV : GatesV W W.heap.size V gs) : Calls Tryd.prog 13 #[.agg #[.int .i64 N, V]] W fun e w' => e = .returned (.bool (lightOf N gs)) ∧ Below W.heap.size W w' := by
  have hm : maxLen = 9223372036854775807 := rfl
  obtain ⟨A, c, rfl, hAc, hcm, _⟩ := id hV
  have O0 : Own Z0 W W [] := Own.start W
  refine sx_enter (args := [.agg #[.int .i64 N, .slice A gs.length c]]) Tryd.func13 rfl rfl (by simp) ?_
  refine cw_seq (fun FK1 K1 => ?_)
  refine cw_region ?_
  obtain ⟨g2, w3, r4, O5, hg6, hs7⟩ := own_box O0 24 (.agg #[.int .i64 N, .slice A gs.length c]) rfl
  refine wl_val (v := .pointer (some ⟨g2, 0, none⟩)) (fun ρ e => r4 ρ _ _ _ _ _ _ (e _ _ rfl)) rfl rfl ?_
  refine wl_val (v := .bool false) (fun ρ e => ex_assign (e _ _ rfl)) rfl rfl ?_
  refine wl_nil ?_
  refine xw_next K1 ?_
  refine cw_seq (fun FK8 K8 => ?_)
  refine cw_seq (fun FK9 K9 => ?_)
  refine cw_region ?_
  refine wl_val (v := .pointer (some ⟨g2, 1, none⟩)) (fun ρ e => ex_field (q := 1) fi24_1 (e _ _ rfl) rfl) rfl rfl ?_
  refine wl_val (v := .slice A gs.length c) (fun ρ e => ex_load1 ty22 (e _ _ rfl) (O5.cell 0 1 rfl rfl)) rfl rfl ?_
  refine wl_val (v := .int .i64 ((gs.length : Nat) : Int)) (fun ρ e => ex_len el22 (e _ _ rfl)) rfl rfl ?_
  by_cases c10 : ((gs.length : Nat) : Int) > 5000
  · skip
    refine wl_val (v := .bool true) (fun ρ e => ex_cmp (u := ((gs.length : Nat) : Int)) (v := 5000) (e _ _ rfl) (e _ _ rfl) (gtr1 (by omega))) rfl rfl ?_
    refine wl_nil ?_
    refine xw_next K9 ?_
    refine cw_true rfl ?_
    refine cw_seq (fun FK11 K11 => ?_)
    refine cw_region ?_
    refine wl_val (v := .bool false) (fun ρ e => ex_assign (e _ _ rfl)) rfl rfl ?_
    refine wl_nil ?_
    refine xw_next K11 ?_
    refine cw_ret ?_
    refine xw_past (by intro h; cases h) ?_
    refine xw_ret (v := .bool false) (fun T hT => res1 rfl T _ (hT 2 _ rfl)) ?_
    exact ⟨by rw [light_long (by omega)], O5.old⟩
  · skip
    refine wl_val (v := .bool false) (fun ρ e => ex_cmp (u := ((gs.length : Nat) : Int)) (v := 5000) (e _ _ rfl) (e _ _ rfl) (gtr0 (by omega))) rfl rfl ?_
    refine wl_nil ?_
    refine xw_next K9 ?_
    refine cw_false rfl ?_
    refine cw_skip ?_
    refine xw_next K8 ?_
    refine cw_seq (fun FK12 K12 => ?_)
    refine cw_region ?_
    refine wl_val (v := .pointer (some ⟨g2, 1, none⟩)) (fun ρ e => ex_field (q := 1) fi24_1 (e _ _ rfl) rfl) rfl rfl ?_
    refine wl_val (v := .slice A gs.length c) (fun ρ e => ex_load1 ty22 (e _ _ rfl) (O5.cell 0 1 rfl rfl)) rfl rfl ?_
    refine wl_val (v := .int .i64 ((gs.length : Nat) : Int)) (fun ρ e => ex_len el22 (e _ _ rfl)) rfl rfl ?_
    refine wl_val (v := .bool (decide ((gs.length : Int) ≤ 60))) (fun ρ e => ex_cmp (u := ((gs.length : Nat) : Int)) (v := 60) (r := (decide ((gs.length : Int) ≤ 60))) (e _ _ rfl) (e _ _ rfl) rfl) rfl rfl ?_
    refine wl_val (v := .bool (decide ((gs.length : Int) ≤ 60))) (fun ρ e => ex_assign (e _ _ rfl)) rfl rfl ?_
    refine wl_nil ?_
    refine xw_next K12 ?_
    refine cw_seq (fun FK13 K13 => ?_)
    refine cw_seq (fun FK14 K14 => ?_)
    refine cw_region ?_
    refine wl_val (v := .pointer (some ⟨g2, 1, none⟩)) (fun ρ e => ex_field (q := 1) fi24_1 (e _ _ rfl) rfl) rfl rfl ?_
    refine wl_val (v := .slice A gs.length c) (fun ρ e => ex_load1 ty22 (e _ _ rfl) (O5.cell 0 1 rfl rfl)) rfl rfl ?_
    refine wl_val (v := .int .i64 ((gs.length : Nat) : Int)) (fun ρ e => ex_len el22 (e _ _ rfl)) rfl rfl ?_
    refine wl_val (v := .int .i64 0) (fun ρ e => ex_move (e _ _ rfl)) rfl rfl ?_
    refine wl_nil ?_
    refine xw_next K14 ?_
    refine cw_block ?_
    refine cw_loop (ι := Nat × Bool) (fun q => [(1, .pointer (some ⟨g2, 0, none⟩)), (2, .bool false), (14, .slice A gs.length c), (15, .int .i64 ((gs.length : Nat) : Int)), (3, .bool q.2), (16, .int .i64 (q.1 : Int))]) (fun q X => (q.1 ≤ gs.length) ∧ (q.2 = (decide ((gs.length : Int) ≤ 60) && (gs.take q.1).all (fun g => decide (g.inp.length ≤ 12)))) ∧ (∀ g ∈ gs.take q.1, g.inp.length ≤ 200) ∧ Own Z0 W X [.blk g2 24 #[.int .i64 N, .slice A gs.length c]]) (fun q => gs.length - q.1) (0, (decide ((gs.length : Int) ≤ 60))) ⟨Nat.zero_le _, (by simp), (by simp), O5⟩ ⟨rfl, rfl, rfl, rfl, rfl, rfl, trivial⟩ (fun q w15 hJ F16 K17 => ?_)
    obtain ⟨i, sm⟩ := q
    obtain ⟨hi0, hsm, h200, O18⟩ := hJ
    dsimp only at hi0 hsm h200 O18 ⊢
    by_cases hk : i < gs.length
    · obtain ⟨bG, oG, AI, cI, hbA, hbB, k0, k1, k2, hIV, hIc, hIm⟩ := hV.at_ (Below.refl _ _) hk
      have htk : gs.take (i + 1) = gs.take i ++ [gs[i]] := (List.take_append_getElem hk).symm
      cases sm
      · skip
        refine cw_seq (fun FK19 K19 => ?_)
        refine cw_region ?_
        refine wl_val (v := .bool true) (fun ρ e => ex_cmp (u := (i : Int)) (v := ((gs.length : Nat) : Int)) (e _ _ rfl) (e _ _ rfl) (lss1 (by omega))) rfl rfl ?_
        refine wl_nil ?_
        refine xw_next K19 ?_
        refine cw_seq (fun FK20 K20 => ?_)
        refine cw_true rfl ?_
        refine cw_skip ?_
        refine xw_next K20 ?_
        refine cw_seq (fun FK21 K21 => ?_)
        refine cw_block ?_
        refine cw_seq (fun FK22 K22 => ?_)
        refine cw_region ?_
        refine wl_val (v := .int .i64 (i : Int)) (fun ρ e => ex_move (e _ _ rfl)) rfl rfl ?_
        refine wl_val (v := .int .i64 (i : Int)) (fun ρ e => ex_assign (e _ _ rfl)) rfl rfl ?_
        refine wl_nil ?_
        refine xw_next K22 ?_
        refine cw_seq (fun FK23 K23 => ?_)
        refine cw_seq (fun FK24 K24 => ?_)
        refine cw_region ?_
        refine wl_val (v := .pointer (some ⟨g2, 1, none⟩)) (fun ρ e => ex_field (q := 1) fi24_1 (e _ _ rfl) rfl) rfl rfl ?_
        refine wl_val (v := .slice A gs.length c) (fun ρ e => ex_load1 ty22 (e _ _ rfl) (O18.cell 0 1 rfl rfl)) rfl rfl ?_
        refine wl_val (v := .int .i64 (i : Int)) (fun ρ e => ex_move (e _ _ rfl)) rfl rfl ?_
        refine wl_val (v := .pointer (some ⟨bG, oG + i * 3, none⟩)) (fun ρ e => ex_idx (q := oG + i * 3) (g := bG) (o := oG) (i := i) el22 ((e _ _ rfl).trans (congrArg (fun z => Value.slice z gs.length c) hbA)) (e _ _ rfl) hk (by omega)) rfl rfl ?_
        refine wl_val (v := .pointer (some ⟨bG, oG + i * 3 + 2, none⟩)) (fun ρ e => ex_field (q := oG + i * 3 + 2) fi38_2 (e _ _ rfl) rfl) rfl rfl ?_
        refine wl_val (v := .slice AI (gs[i].inp.length) cI) (fun ρ e => ex_load1 ty36 (e _ _ rfl) ((O18.old.cell (p := ⟨bG, oG + i * 3 + 2, none⟩) hbB).trans k2)) rfl rfl ?_
        refine wl_val (v := .int .i64 ((gs[i].inp.length : Nat) : Int)) (fun ρ e => ex_len el36 (e _ _ rfl)) rfl rfl ?_
        by_cases c25 : ((gs[i].inp.length : Nat) : Int) > 200
        · skip
          refine wl_val (v := .bool true) (fun ρ e => ex_cmp (u := ((gs[i].inp.length : Nat) : Int)) (v := 200) (e _ _ rfl) (e _ _ rfl) (gtr1 (by omega))) rfl rfl ?_
          refine wl_nil ?_
          refine xw_next K24 ?_
          refine cw_true rfl ?_
          refine cw_seq (fun FK26 K26 => ?_)
          refine cw_region ?_
          refine wl_val (v := .bool false) (fun ρ e => ex_assign (e _ _ rfl)) rfl rfl ?_
          refine wl_nil ?_
          refine xw_next K26 ?_
          refine cw_ret ?_
          refine xw_past (by intro h; cases h) ?_
          refine xw_blockret ?_
          refine xw_past (by intro h; cases h) ?_
          refine xw_past (by intro h; cases h) ?_
          refine xw_blockret ?_
          refine xw_past (by intro h; cases h) ?_
          refine xw_ret (v := .bool false) (fun T hT => res1 rfl T _ (hT 2 _ rfl)) ?_
          exact ⟨by rw [light_wide hk (by omega)], O18.old⟩
        · skip
          refine wl_val (v := .bool false) (fun ρ e => ex_cmp (u := ((gs[i].inp.length : Nat) : Int)) (v := 200) (e _ _ rfl) (e _ _ rfl) (gtr0 (by omega))) rfl rfl ?_
          refine wl_nil ?_
          refine xw_next K24 ?_
          refine cw_false rfl ?_
          refine cw_skip ?_
          refine xw_next K23 ?_
          refine cw_region ?_
          refine wl_val (v := .bool false) (fun ρ e => ex_move (e _ _ rfl)) rfl rfl ?_
          refine wl_val (v := .bool false) (fun ρ e => ex_move (e _ _ rfl)) rfl rfl ?_
          refine wl_skip rfl rfl ?_
          refine wl_skip rfl rfl ?_
          refine wl_skip rfl rfl ?_
          refine wl_skip rfl rfl ?_
          refine wl_skip rfl rfl ?_
          refine wl_skip rfl rfl ?_
          refine wl_skip rfl rfl ?_
          refine wl_skip rfl rfl ?_
          refine wl_val (v := .bool false) (fun ρ e => ex_pick0 (e _ _ rfl) (e _ _ rfl)) rfl rfl ?_
          refine wl_val (v := .bool false) (fun ρ e => ex_assign (e _ _ rfl)) rfl rfl ?_
          refine wl_nil ?_
          refine xw_block ?_
          refine xw_next K21 ?_
          refine cw_region ?_
          refine wl_val (v := .int .i64 ((i + 1 : Nat) : Int)) (fun ρ e => ex_arith (k := .i64) (u := (i : Int)) (v := 1) (e _ _ rfl) (e _ _ rfl) (congrArg some ((congrArg _ (by omega)).trans (wrap_in (u := ((i + 1 : Nat) : Int)) (by omega) (by omega))))) rfl rfl ?_
          refine wl_val (v := .int .i64 ((i + 1 : Nat) : Int)) (fun ρ e => ex_move (e _ _ rfl)) rfl rfl ?_
          refine wl_nil ?_
          refine xw_round K17 (i + 1, false) (by show gs.length - (i + 1) < gs.length - i; omega) ⟨(by show i + 1 ≤ _; omega), (by show false = _; rw [htk, List.all_append]; simp only [List.all_cons, List.all_nil, Bool.and_true]; rw [← Bool.and_assoc, ← hsm]; rfl), (by rw [htk]; intro g hg; rcases List.mem_append.1 hg with h | h; exact h200 g h; rw [List.mem_singleton.1 h]; omega), O18⟩ ⟨rfl, rfl, rfl, rfl, rfl, rfl, trivial⟩
      · skip
        refine cw_seq (fun FK27 K27 => ?_)
        refine cw_region ?_
        refine wl_val (v := .bool true) (fun ρ e => ex_cmp (u := (i : Int)) (v := ((gs.length : Nat) : Int)) (e _ _ rfl) (e _ _ rfl) (lss1 (by omega))) rfl rfl ?_
        refine wl_nil ?_
        refine xw_next K27 ?_
        refine cw_seq (fun FK28 K28 => ?_)
        refine cw_true rfl ?_
        refine cw_skip ?_
        refine xw_next K28 ?_
        refine cw_seq (fun FK29 K29 => ?_)
        refine cw_block ?_
        refine cw_seq (fun FK30 K30 => ?_)
        refine cw_region ?_
        refine wl_val (v := .int .i64 (i : Int)) (fun ρ e => ex_move (e _ _ rfl)) rfl rfl ?_
        refine wl_val (v := .int .i64 (i : Int)) (fun ρ e => ex_assign (e _ _ rfl)) rfl rfl ?_
        refine wl_nil ?_
        refine xw_next K30 ?_
        refine cw_seq (fun FK31 K31 => ?_)
        refine cw_seq (fun FK32 K32 => ?_)
        refine cw_region ?_
        refine wl_val (v := .pointer (some ⟨g2, 1, none⟩)) (fun ρ e => ex_field (q := 1) fi24_1 (e _ _ rfl) rfl) rfl rfl ?_
        refine wl_val (v := .slice A gs.length c) (fun ρ e => ex_load1 ty22 (e _ _ rfl) (O18.cell 0 1 rfl rfl)) rfl rfl ?_
        refine wl_val (v := .int .i64 (i : Int)) (fun ρ e => ex_move (e _ _ rfl)) rfl rfl ?_
        refine wl_val (v := .pointer (some ⟨bG, oG + i * 3, none⟩)) (fun ρ e => ex_idx (q := oG + i * 3) (g := bG) (o := oG) (i := i) el22 ((e _ _ rfl).trans (congrArg (fun z => Value.slice z gs.length c) hbA)) (e _ _ rfl) hk (by omega)) rfl rfl ?_
        refine wl_val (v := .pointer (some ⟨bG, oG + i * 3 + 2, none⟩)) (fun ρ e => ex_field (q := oG + i * 3 + 2) fi38_2 (e _ _ rfl) rfl) rfl rfl ?_
        refine wl_val (v := .slice AI (gs[i].inp.length) cI) (fun ρ e => ex_load1 ty36 (e _ _ rfl) ((O18.old.cell (p := ⟨bG, oG + i * 3 + 2, none⟩) hbB).trans k2)) rfl rfl ?_
        refine wl_val (v := .int .i64 ((gs[i].inp.length : Nat) : Int)) (fun ρ e => ex_len el36 (e _ _ rfl)) rfl rfl ?_
        by_cases c33 : ((gs[i].inp.length : Nat) : Int) > 200
        · skip
          refine wl_val (v := .bool true) (fun ρ e => ex_cmp (u := ((gs[i].inp.length : Nat) : Int)) (v := 200) (e _ _ rfl) (e _ _ rfl) (gtr1 (by omega))) rfl rfl ?_
          refine wl_nil ?_
          refine xw_next K32 ?_
          refine cw_true rfl ?_
          refine cw_seq (fun FK34 K34 => ?_)
          refine cw_region ?_
          refine wl_val (v := .bool false) (fun ρ e => ex_assign (e _ _ rfl)) rfl rfl ?_
          refine wl_nil ?_
          refine xw_next K34 ?_
          refine cw_ret ?_
          refine xw_past (by intro h; cases h) ?_
          refine xw_blockret ?_
          refine xw_past (by intro h; cases h) ?_
          refine xw_past (by intro h; cases h) ?_
          refine xw_blockret ?_
          refine xw_past (by intro h; cases h) ?_
          refine xw_ret (v := .bool false) (fun T hT => res1 rfl T _ (hT 2 _ rfl)) ?_
          exact ⟨by rw [light_wide hk (by omega)], O18.old⟩
        · skip
          refine wl_val (v := .bool false) (fun ρ e => ex_cmp (u := ((gs[i].inp.length : Nat) : Int)) (v := 200) (e _ _ rfl) (e _ _ rfl) (gtr0 (by omega))) rfl rfl ?_
          refine wl_nil ?_
          refine xw_next K32 ?_
          refine cw_false rfl ?_
          refine cw_skip ?_
          refine xw_next K31 ?_
          refine cw_region ?_
          refine wl_val (v := .bool true) (fun ρ e => ex_move (e _ _ rfl)) rfl rfl ?_
          refine wl_val (v := .bool true) (fun ρ e => ex_move (e _ _ rfl)) rfl rfl ?_
          refine wl_val (v := .pointer (some ⟨g2, 1, none⟩)) (fun ρ e => ex_field (q := 1) fi24_1 (e _ _ rfl) rfl) rfl rfl ?_
          refine wl_val (v := .slice A gs.length c) (fun ρ e => ex_load1 ty22 (e _ _ rfl) (O18.cell 0 1 rfl rfl)) rfl rfl ?_
          refine wl_val (v := .int .i64 (i : Int)) (fun ρ e => ex_move (e _ _ rfl)) rfl rfl ?_
          refine wl_val (v := .pointer (some ⟨bG, oG + i * 3, none⟩)) (fun ρ e => ex_idx (q := oG + i * 3) (g := bG) (o := oG) (i := i) el22 ((e _ _ rfl).trans (congrArg (fun z => Value.slice z gs.length c) hbA)) (e _ _ rfl) hk (by omega)) rfl rfl ?_
          refine wl_val (v := .pointer (some ⟨bG, oG + i * 3 + 2, none⟩)) (fun ρ e => ex_field (q := oG + i * 3 + 2) fi38_2 (e _ _ rfl) rfl) rfl rfl ?_
          refine wl_val (v := .slice AI (gs[i].inp.length) cI) (fun ρ e => ex_load1 ty36 (e _ _ rfl) ((O18.old.cell (p := ⟨bG, oG + i * 3 + 2, none⟩) hbB).trans k2)) rfl rfl ?_
          refine wl_val (v := .int .i64 ((gs[i].inp.length : Nat) : Int)) (fun ρ e => ex_len el36 (e _ _ rfl)) rfl rfl ?_
          refine wl_val (v := .bool (decide (gs[i].inp.length ≤ 12))) (fun ρ e => ex_cmp (u := ((gs[i].inp.length : Nat) : Int)) (v := 12) (r := (decide (gs[i].inp.length ≤ 12))) (e _ _ rfl) (e _ _ rfl) (light_12 _)) rfl rfl ?_
          refine wl_val (v := .bool (decide (gs[i].inp.length ≤ 12))) (fun ρ e => ex_pick1 (e _ _ rfl) (e _ _ rfl)) rfl rfl ?_
          refine wl_val (v := .bool (decide (gs[i].inp.length ≤ 12))) (fun ρ e => ex_assign (e _ _ rfl)) rfl rfl ?_
          refine wl_nil ?_
          refine xw_block ?_
          refine xw_next K29 ?_
          refine cw_region ?_
          refine wl_val (v := .int .i64 ((i + 1 : Nat) : Int)) (fun ρ e => ex_arith (k := .i64) (u := (i : Int)) (v := 1) (e _ _ rfl) (e _ _ rfl) (congrArg some ((congrArg _ (by omega)).trans (wrap_in (u := ((i + 1 : Nat) : Int)) (by omega) (by omega))))) rfl rfl ?_
          refine wl_val (v := .int .i64 ((i + 1 : Nat) : Int)) (fun ρ e => ex_move (e _ _ rfl)) rfl rfl ?_
          refine wl_nil ?_
          refine xw_round K17 (i + 1, (decide (gs[i].inp.length ≤ 12))) (by show gs.length - (i + 1) < gs.length - i; omega) ⟨(by show i + 1 ≤ _; omega), (by show (decide (gs[i].inp.length ≤ 12)) = _; rw [htk, List.all_append]; simp only [List.all_cons, List.all_nil, Bool.and_true]; rw [← Bool.and_assoc, ← hsm]; rfl), (by rw [htk]; intro g hg; rcases List.mem_append.1 hg with h | h; exact h200 g h; rw [List.mem_singleton.1 h]; omega), O18⟩ ⟨rfl, rfl, rfl, rfl, rfl, rfl, trivial⟩
    · have hie : i = gs.length := by omega
      rw [hie, List.take_length] at hsm h200
      have hend := light_end (N := N) (by omega) h200
      rw [← hsm] at hend
      cases sm
      · skip
        refine cw_seq (fun FK35 K35 => ?_)
        refine cw_region ?_
        refine wl_val (v := .bool false) (fun ρ e => ex_cmp (u := (i : Int)) (v := ((gs.length : Nat) : Int)) (e _ _ rfl) (e _ _ rfl) (lss0 (by omega))) rfl rfl ?_
        refine wl_nil ?_
        refine xw_next K35 ?_
        refine cw_seq (fun FK36 K36 => ?_)
        refine cw_false rfl ?_
        refine cw_exit ?_
        refine xw_past (by intro h; cases h) ?_
        refine xw_past (by intro h; cases h) ?_
        refine xw_here ?_
        refine xw_next K13 ?_
        refine cw_seq (fun FK37 K37 => ?_)
        refine cw_region ?_
        refine wl_val (v := .bool false) (fun ρ e => ex_move (e _ _ rfl)) rfl rfl ?_
        refine wl_val (v := .bool false) (fun ρ e => ex_move (e _ _ rfl)) rfl rfl ?_
        refine wl_val (v := .agg #[.int .i64 N, .slice A gs.length c]) (fun ρ e => ex_loadN (vs := [.int .i64 N, .slice A gs.length c]) ty24 (e _ _ rfl) rfl (O18.cells 0 0 rfl rfl)) rfl rfl ?_
        refine wl_call (args := [.agg #[.int .i64 N, .slice A gs.length c]]) in_29 rfl rfl rfl ?_
        refine (ref07_check N _ gs _ W.heap.size O18.old.size (hV.below O18.old) (light_size (N := N) (by omega) h200)).mono ?_
        rintro _ w38 ⟨rfl, hb39⟩
        have O40 : Own Z0 W w38 [.blk g2 24 #[.int .i64 N, .slice A gs.length c]] := O18.below hb39
        refine ⟨_, rfl, ?_⟩
        by_cases c41 : (checkOf N gs) ≠ 0
        · skip
          refine wl_val (v := .bool true) (fun ρ e => ex_cmp (u := (checkOf N gs)) (v := 0) (e _ _ rfl) (e _ _ rfl) (neq1 (by omega))) rfl rfl ?_
          refine wl_val (v := .bool true) (fun ρ e => ex_pick0 (e _ _ rfl) (e _ _ rfl)) rfl rfl ?_
          refine wl_val (v := .bool true) (fun ρ e => ex_assign (e _ _ rfl)) rfl rfl ?_
          refine wl_nil ?_
          refine xw_next K37 ?_
          refine cw_ret ?_
          refine xw_ret (v := .bool true) (fun T hT => res1 rfl T _ (hT 2 _ rfl)) ?_
          have hz : (checkOf N gs != 0) = true := bne_iff_ne.2 c41
          exact ⟨by rw [hend, hz]; rfl, O40.old⟩
        · skip
          refine wl_val (v := .bool false) (fun ρ e => ex_cmp (u := (checkOf N gs)) (v := 0) (e _ _ rfl) (e _ _ rfl) (neq0 (by omega))) rfl rfl ?_
          refine wl_val (v := .bool false) (fun ρ e => ex_pick0 (e _ _ rfl) (e _ _ rfl)) rfl rfl ?_
          refine wl_val (v := .bool false) (fun ρ e => ex_assign (e _ _ rfl)) rfl rfl ?_
          refine wl_nil ?_
          refine xw_next K37 ?_
          refine cw_ret ?_
          refine xw_ret (v := .bool false) (fun T hT => res1 rfl T _ (hT 2 _ rfl)) ?_
          have hz : (checkOf N gs != 0) = false := by rw [bne_eq_false_iff_eq]; omega
          exact ⟨by rw [hend, hz]; rfl, O40.old⟩
      · skip
        refine cw_seq (fun FK42 K42 => ?_)
        refine cw_region ?_
        refine wl_val (v := .bool false) (fun ρ e => ex_cmp (u := (i : Int)) (v := ((gs.length : Nat) : Int)) (e _ _ rfl) (e _ _ rfl) (lss0 (by omega))) rfl rfl ?_
        refine wl_nil ?_
        refine xw_next K42 ?_
        refine cw_seq (fun FK43 K43 => ?_)
        refine cw_false rfl ?_
        refine cw_exit ?_
        refine xw_past (by intro h; cases h) ?_
        refine xw_past (by intro h; cases h) ?_
        refine xw_here ?_
        refine xw_next K13 ?_
        refine cw_seq (fun FK44 K44 => ?_)
        refine cw_region ?_
        refine wl_val (v := .bool true) (fun ρ e => ex_move (e _ _ rfl)) rfl rfl ?_
        refine wl_val (v := .bool true) (fun ρ e => ex_move (e _ _ rfl)) rfl rfl ?_
        refine wl_skip rfl rfl ?_
        refine wl_skip rfl rfl ?_
        refine wl_skip rfl rfl ?_
        refine wl_val (v := .bool true) (fun ρ e => ex_pick1 (e _ _ rfl) (e _ _ rfl)) rfl rfl ?_
        refine wl_val (v := .bool true) (fun ρ e => ex_assign (e _ _ rfl)) rfl rfl ?_
        refine wl_nil ?_
        refine xw_next K44 ?_
        refine cw_ret ?_
        refine xw_ret (v := .bool true) (fun T hT => res1 rfl T _ (hT 2 _ rfl)) ?_
        exact ⟨by rw [hend]; rfl, O18.old⟩
theorem circEvals_ok {W : World} {V : Value} {N : Int} {gs : List Gate} {a b : BitVec 64} (hV : GatesV W W.heap.size V gs) (hN0 : -9223372036854775808 ≤ N) (hN1 : N ≤ 9223372036854775807) (tab : Tab W) : Calls Tryd.prog 3 #[.agg #[.int .i64 N, V], .agg #[.int .u64 (a.toNat : Int), .int .u64 (b.toNat : Int)]] W fun e w' => e = .returned (.bool true) ∧ Below W.heap.size W w' := by
  cases hl : lightOf N gs
  · skip
    have O0 : Own Z0 W W [] := Own.start W
    refine sx_enter (args := [.agg #[.int .i64 N, V], .agg #[.int .u64 (a.toNat : Int), .int .u64 (b.toNat : Int)]]) Tryd.func3 rfl rfl (by simp) ?_
    refine cw_seq (fun FK1 K1 => ?_)
    refine cw_region ?_
    obtain ⟨g2, w3, r4, O5, hg6, hs7⟩ := own_box O0 24 (.agg #[.int .i64 N, V]) rfl
    refine wl_val (v := .pointer (some ⟨g2, 0, none⟩)) (fun ρ e => r4 ρ _ _ _ _ _ _ (e _ _ rfl)) rfl rfl ?_
    obtain ⟨g8, w9, r10, O11, hg12, hs13⟩ := own_box O5 27 (.agg #[.int .u64 (a.toNat : Int), .int .u64 (b.toNat : Int)]) rfl
    refine wl_val (v := .pointer (some ⟨g8, 0, none⟩)) (fun ρ e => r10 ρ _ _ _ _ _ _ (e _ _ rfl)) rfl rfl ?_
    refine wl_val (v := .bool false) (fun ρ e => ex_assign (e _ _ rfl)) rfl rfl ?_
    refine wl_nil ?_
    refine xw_next K1 ?_
    refine cw_seq (fun FK14 K14 => ?_)
    refine cw_seq (fun FK15 K15 => ?_)
    refine cw_region ?_
    refine wl_val (v := .agg #[.int .i64 N, V]) (fun ρ e => ex_loadN (vs := [.int .i64 N, V]) ty24 (e _ _ rfl) rfl (O11.cells 1 0 rfl rfl)) rfl rfl ?_
    refine wl_call (args := [.agg #[.int .i64 N, V]]) in_13 rfl rfl rfl ?_
    have h19 := light_ (N := N) (gs := gs) ((hV.below O11.old).more O11.old.size)
    rw [hl] at h19
    refine h19.mono ?_
    rintro _ w16 ⟨rfl, hb17⟩
    have O18 : Own Z0 W w16 [.blk g8 27 #[.int .u64 (a.toNat : Int), .int .u64 (b.toNat : Int)], .blk g2 24 #[.int .i64 N, V]] := O11.below hb17
    refine ⟨_, rfl, ?_⟩
    refine wl_val (v := .bool true) (fun ρ e => ex_lnot (b := false) (e _ _ rfl)) rfl rfl ?_
    refine wl_nil ?_
    refine xw_next K15 ?_
    refine cw_true rfl ?_
    refine cw_seq (fun FK20 K20 => ?_)
    refine cw_region ?_
    refine wl_call (args := []) in_14 rfl rfl rfl ?_
    refine (works_ (tab.below (Nat.le_refl _) O18.old)).mono ?_
    rintro _ w21 ⟨rfl, hb22⟩
    have O23 : Own Z0 W w21 [.blk g8 27 #[.int .u64 (a.toNat : Int), .int .u64 (b.toNat : Int)], .blk g2 24 #[.int .i64 N, V]] := O18.below hb22
    refine ⟨_, rfl, ?_⟩
    refine wl_val (v := .bool true) (fun ρ e => ex_assign (e _ _ rfl)) rfl rfl ?_
    refine wl_nil ?_
    refine xw_next K20 ?_
    refine cw_ret ?_
    refine xw_past (by intro h; cases h) ?_
    refine xw_ret (v := .bool true) (fun T hT => res1 rfl T _ (hT 4 _ rfl)) ?_
    exact ⟨rfl, O23.old⟩
  · skip
    have hlt := light_true hl
    have O0 : Own Z0 W W [] := Own.start W
    refine sx_enter (args := [.agg #[.int .i64 N, V], .agg #[.int .u64 (a.toNat : Int), .int .u64 (b.toNat : Int)]]) Tryd.func3 rfl rfl (by simp) ?_
    refine cw_seq (fun FK1 K1 => ?_)
    refine cw_region ?_
    obtain ⟨g2, w3, r4, O5, hg6, hs7⟩ := own_box O0 24 (.agg #[.int .i64 N, V]) rfl
    refine wl_val (v := .pointer (some ⟨g2, 0, none⟩)) (fun ρ e => r4 ρ _ _ _ _ _ _ (e _ _ rfl)) rfl rfl ?_
    obtain ⟨g8, w9, r10, O11, hg12, hs13⟩ := own_box O5 27 (.agg #[.int .u64 (a.toNat : Int), .int .u64 (b.toNat : Int)]) rfl
    refine wl_val (v := .pointer (some ⟨g8, 0, none⟩)) (fun ρ e => r10 ρ _ _ _ _ _ _ (e _ _ rfl)) rfl rfl ?_
    refine wl_val (v := .bool false) (fun ρ e => ex_assign (e _ _ rfl)) rfl rfl ?_
    refine wl_nil ?_
    refine xw_next K1 ?_
    refine cw_seq (fun FK14 K14 => ?_)
    refine cw_seq (fun FK15 K15 => ?_)
    refine cw_region ?_
    refine wl_val (v := .agg #[.int .i64 N, V]) (fun ρ e => ex_loadN (vs := [.int .i64 N, V]) ty24 (e _ _ rfl) rfl (O11.cells 1 0 rfl rfl)) rfl rfl ?_
    refine wl_call (args := [.agg #[.int .i64 N, V]]) in_13 rfl rfl rfl ?_
    have h19 := light_ (N := N) (gs := gs) ((hV.below O11.old).more O11.old.size)
    rw [hl] at h19
    refine h19.mono ?_
    rintro _ w16 ⟨rfl, hb17⟩
    have O18 : Own Z0 W w16 [.blk g8 27 #[.int .u64 (a.toNat : Int), .int .u64 (b.toNat : Int)], .blk g2 24 #[.int .i64 N, V]] := O11.below hb17
    refine ⟨_, rfl, ?_⟩
    refine wl_val (v := .bool false) (fun ρ e => ex_lnot (b := true) (e _ _ rfl)) rfl rfl ?_
    refine wl_nil ?_
    refine xw_next K15 ?_
    refine cw_false rfl ?_
    refine cw_skip ?_
    refine xw_next K14 ?_
    refine cw_seq (fun FK20 K20 => ?_)
    refine cw_drawn (fun X => Own Z0 W X [.blk g8 27 #[.int .u64 (a.toNat : Int), .int .u64 (b.toNat : Int)], .blk g2 24 #[.int .i64 N, V]]) 11 [(0, 0), (2, 0), (4, 0), (5, 0), (1, 2), (3, 2), (6, 2), (7, 1), (8, 1), (9, 2), (10, 1), (11, 3)] (by kernel_rfl) (by kernel_rfl) (PQ.then_ PQ.body) (O18).drew ?_
    have O21 : Own Z0 W w16.drew [.blk g8 27 #[.int .u64 (a.toNat : Int), .int .u64 (b.toNat : Int)], .blk g2 24 #[.int .i64 N, V]] := O18.drew
    refine wt0 (v := .agg #[.int .i64 N, V]) rfl (fun ρ e W hW => ex_loadN (vs := [.int .i64 N, V]) ty24 (e _ _ rfl) rfl (hW.cells 1 0 rfl rfl)) rfl rfl ?_
    refine wt0 (v := .agg #[.int .u64 (a.toNat : Int), .int .u64 (b.toNat : Int)]) rfl (fun ρ e W hW => ex_loadN (vs := [.int .u64 (a.toNat : Int), .int .u64 (b.toNat : Int)]) ty27 (e _ _ rfl) rfl (hW.cells 0 0 rfl rfl)) rfl rfl ?_
    refine wt0 (v := .agg #[.int .i64 N, V]) rfl (fun ρ e W hW => ex_loadN (vs := [.int .i64 N, V]) ty24 (e _ _ rfl) rfl (hW.cells 1 0 rfl rfl)) rfl rfl ?_
    refine wt0 (v := .agg #[.int .u64 (a.toNat : Int), .int .u64 (b.toNat : Int)]) rfl (fun ρ e W hW => ex_loadN (vs := [.int .u64 (a.toNat : Int), .int .u64 (b.toNat : Int)]) ty27 (e _ _ rfl) rfl (hW.cells 0 0 rfl rfl)) rfl rfl ?_
    refine wt2_call (args := [.agg #[.int .i64 N, V]]) rfl in_16 rfl rfl rfl ?_
    refine (copy_ (N := N) (gs := gs) ((hV.below O21.old).more O21.old.size) (fun g hg => by have := hlt.2 g hg; omega) (by omega)).mono ?_
    rintro _ w26 ⟨A22, c23, D24, vs25, rfl, h27, hd28⟩
    have O29 : Own Z0 W w26 [.row (.slice A22 gs.length c23) 38 3 gs.length (gcells gs vs25), .ro D24 (OwnIns D24 gs vs25), .blk g8 27 #[.int .u64 (a.toNat : Int), .int .u64 (b.toNat : Int)], .blk g2 24 #[.int .i64 N, V]] := Own.joinr O21 h27 (fun e he => by rcases List.mem_cons.1 he with rfl | he; exact .inl trivial; exact .inr (by rw [List.mem_singleton.1 he]; exact hd28))
    refine ⟨_, rfl, (O29.re [2, 3] rfl : Own Z0 W w26 [.blk g8 27 #[.int .u64 (a.toNat : Int), .int .u64 (b.toNat : Int)], .blk g2 24 #[.int .i64 N, V]]), ?_⟩
    refine wt2_call (args := [.agg #[.int .i64 N, .slice A22 gs.length c23], .agg #[.int .u64 (a.toNat : Int), .int .u64 (b.toNat : Int)]]) rfl in_15 rfl rfl rfl ?_
    refine (circ_eval N _ gs a b _ _ (Nat.le_refl _) (gates_of_own (O29.row 0 rfl) (O29.ro 1 rfl) (O29.get 1 rfl).2.1) (light_size (N := N) hlt.1 hlt.2) hN0 hN1).mono ?_
    rintro _ w30 ⟨rfl, hb31⟩
    have O32 : Own Z0 W w30 [.row (.slice A22 gs.length c23) 38 3 gs.length (gcells gs vs25), .ro D24 (OwnIns D24 gs vs25), .blk g8 27 #[.int .u64 (a.toNat : Int), .int .u64 (b.toNat : Int)], .blk g2 24 #[.int .i64 N, V]] := O29.below hb31
    refine ⟨_, rfl, (O32.re [2, 3] rfl : Own Z0 W w30 [.blk g8 27 #[.int .u64 (a.toNat : Int), .int .u64 (b.toNat : Int)], .blk g2 24 #[.int .i64 N, V]]), ?_⟩
    refine wt2_call (args := [.agg #[.int .i64 N, V], .agg #[.int .u64 (a.toNat : Int), .int .u64 (b.toNat : Int)]]) rfl in_17 rfl rfl rfl ?_
    refine (ref07_eval N _ gs ⟨a, b⟩ _ W.heap.size O32.old.size (hV.below O32.old) (light_size (N := N) hlt.1 hlt.2)).mono ?_
    rintro _ w33 ⟨rfl, hb34⟩
    have O35 : Own Z0 W w33 [.row (.slice A22 gs.length c23) 38 3 gs.length (gcells gs vs25), .ro D24 (OwnIns D24 gs vs25), .blk g8 27 #[.int .u64 (a.toNat : Int), .int .u64 (b.toNat : Int)], .blk g2 24 #[.int .i64 N, V]] := O32.below hb34
    refine ⟨_, rfl, (O35.re [2, 3] rfl : Own Z0 W w33 [.blk g8 27 #[.int .u64 (a.toNat : Int), .int .u64 (b.toNat : Int)], .blk g2 24 #[.int .i64 N, V]]), ?_⟩
    refine wt1 (v := .bool true) rfl (fun ρ e W => (ex_eqb (b := (evalOf N gs ⟨a, b⟩)) (b' := (evalOf N gs ⟨a, b⟩)) (e _ _ rfl) (e _ _ rfl)).trans (by rw [beq_self_eq_true])) rfl rfl ?_
    refine wt1 (v := .bool true) rfl (fun ρ e W => ex_move (e _ _ rfl)) rfl rfl ?_
    refine wt2_call (args := []) rfl in_14 rfl rfl rfl ?_
    refine (works_ (tab.below (Nat.le_refl _) O35.old)).mono ?_
    rintro _ w36 ⟨rfl, hb37⟩
    have O38 : Own Z0 W w36 [.row (.slice A22 gs.length c23) 38 3 gs.length (gcells gs vs25), .ro D24 (OwnIns D24 gs vs25), .blk g8 27 #[.int .u64 (a.toNat : Int), .int .u64 (b.toNat : Int)], .blk g2 24 #[.int .i64 N, V]] := O35.below hb37
    refine ⟨_, rfl, (O38.re [2, 3] rfl : Own Z0 W w36 [.blk g8 27 #[.int .u64 (a.toNat : Int), .int .u64 (b.toNat : Int)], .blk g2 24 #[.int .i64 N, V]]), ?_⟩
    refine wt1 (v := .bool true) rfl (fun ρ e W => ex_pick1 (e _ _ rfl) (e _ _ rfl)) rfl rfl ?_
    refine wt3 (v := .bool true) rfl (fun ρ e => ex_assign (e _ _ rfl)) rfl rfl ?_
    refine wt_nil ?_
    refine xw_next K20 ?_
    refine cw_ret ?_
    refine xw_ret (v := .bool true) (fun T hT => res1 rfl T _ (hT 4 _ rfl)) ?_
    exact ⟨rfl, O38.old⟩
end Go.Proofs.YtbemhgojfehnjaaDoor
namespace Go.Proofs.YtbemhgojfehnjaaDoor
open Go Go.RowKit
theorem Own.emptyrow {Z : Bool → Nat → Prop} {w0 W : World} {LL : List En} {g T sz : Nat} (h : Own Z w0 W (.blk g T #[] :: LL)) : Own Z w0 W (.row (.slice (some ⟨g, 0, none⟩) 0 0) T sz 0 [] :: LL) := by
  refine h.as (e' := .row (.slice (some ⟨g, 0, none⟩) 0 0) T sz 0 []) ⟨by simp, .inr ⟨g, 0, #[], rfl, Nat.zero_le _, h.blk 0 rfl, Nat.le_refl _, Nat.zero_le _, by simp, by simp⟩⟩ (fun k hk => ?_) (fun _ => trivial)
  have : some g = some k := hk
  injection this with this
  exact this.symm
theorem gcells_append {gs hs : List Gate} {vs us : List Value} (h : gs.length = vs.length) : gcells (gs ++ hs) (vs ++ us) = gcells gs vs ++ gcells hs us := by
  induction gs generalizing vs with
  | nil => cases vs with
    | nil => rfl
    | cons v vs => cases h
  | cons g gs ih => cases vs with
    | nil => cases h
    | cons v vs =>
      show gcell g v ++ gcells (gs ++ hs) (vs ++ us) = (gcell g v ++ gcells gs vs) ++ gcells hs us
      rw [ih (by simpa using h), List.append_assoc]
theorem Ins.append {D : Nat → Prop} {w : World} {gs hs : List Gate} {vs us : List Value} (h1 : Ins D gs vs w) (h2 : Ins D hs us w) : Ins D (gs ++ hs) (vs ++ us) w := by
  refine ⟨by rw [List.length_append, List.length_append, h1.1, h2.1], fun i g v q1 q2 => ?_⟩
  by_cases hi : i < gs.length
  · rw [List.getElem?_append_left hi] at q1
    rw [List.getElem?_append_left (by rw [← h1.1]; exact hi)] at q2
    exact h1.2 i g v q1 q2
  · rw [List.getElem?_append_right (by omega)] at q1
    rw [List.getElem?_append_right (by rw [← h1.1]; omega), ← h1.1] at q2
    exact h2.2 _ g v q1 q2
theorem circSames_ok {W : World} {V1 V2 : Value} {N M : Int} {gs hs : List Gate} (hV1 : GatesV W W.heap.size V1 gs) (hV2 : GatesV W W.heap.size V2 hs) (tab : Tab W) : Calls Tryd.prog 5 #[.agg #[.int .i64 N, V1], .agg #[.int .i64 M, V2]] W fun e w' => e = .returned (.bool true) ∧ Below W.heap.size W w' := by
  obtain ⟨A1, c1, rfl, _, hm1, _⟩ := id hV1
  obtain ⟨A2, c2, rfl, _, hm2, _⟩ := id hV2
  have hmx : maxLen = 9223372036854775807 := rfl
  obtain ⟨vs, hI1, hO1, hS1⟩ := gates_cells hV1
  obtain ⟨us, hI2, hO2, hS2⟩ := gates_cells hV2
  have hI3 := hI1.append hI2
  have O0 : Own Z0 W W [] := Own.start W
  refine sx_enter (args := [.agg #[.int .i64 N, .slice A1 gs.length c1], .agg #[.int .i64 M, .slice A2 hs.length c2]]) Tryd.func5 rfl rfl (by simp) ?_
  refine cw_seq (fun FK1 K1 => ?_)
  refine cw_region ?_
  obtain ⟨g2, w3, r4, O5, hg6, hs7⟩ := own_box O0 24 (.agg #[.int .i64 N, .slice A1 gs.length c1]) rfl
  refine wl_val (v := .pointer (some ⟨g2, 0, none⟩)) (fun ρ e => r4 ρ _ _ _ _ _ _ (e _ _ rfl)) rfl rfl ?_
  obtain ⟨g8, w9, r10, O11, hg12, hs13⟩ := own_box O5 24 (.agg #[.int .i64 M, .slice A2 hs.length c2]) rfl
  refine wl_val (v := .pointer (some ⟨g8, 0, none⟩)) (fun ρ e => r10 ρ _ _ _ _ _ _ (e _ _ rfl)) rfl rfl ?_
  refine wl_val (v := .bool false) (fun ρ e => ex_assign (e _ _ rfl)) rfl rfl ?_
  refine wl_nil ?_
  refine xw_next K1 ?_
  refine cw_seq (fun FK14 K14 => ?_)
  refine cw_seq (fun FK15 K15 => ?_)
  refine cw_region ?_
  refine wl_val (v := .pointer (some ⟨g2, 1, none⟩)) (fun ρ e => ex_field (q := 1) fi24_1 (e _ _ rfl) rfl) rfl rfl ?_
  refine wl_val (v := .slice A1 gs.length c1) (fun ρ e => ex_load1 ty22 (e _ _ rfl) (O11.cell 1 1 rfl rfl)) rfl rfl ?_
  refine wl_val (v := .int .i64 ((gs.length : Nat) : Int)) (fun ρ e => ex_len el22 (e _ _ rfl)) rfl rfl ?_
  by_cases c16 : ((gs.length : Nat) : Int) > 200
  · skip
    refine wl_val (v := .bool true) (fun ρ e => ex_cmp (u := ((gs.length : Nat) : Int)) (v := 200) (e _ _ rfl) (e _ _ rfl) (gtr1 (by omega))) rfl rfl ?_
    refine wl_val (v := .bool true) (fun ρ e => ex_move (e _ _ rfl)) rfl rfl ?_
    refine wl_skip rfl rfl ?_
    refine wl_skip rfl rfl ?_
    refine wl_skip rfl rfl ?_
    refine wl_skip rfl rfl ?_
    refine wl_val (v := .bool true) (fun ρ e => ex_pick1 (e _ _ rfl) (e _ _ rfl)) rfl rfl ?_
    refine wl_nil ?_
    refine xw_next K15 ?_
    refine cw_true rfl ?_
    refine cw_seq (fun FK17 K17 => ?_)
    refine cw_region ?_
    refine wl_call (args := []) in_14 rfl rfl rfl ?_
    refine (works_ (tab.below (Nat.le_refl _) O11.old)).mono ?_
    rintro _ w18 ⟨rfl, hb19⟩
    have O20 : Own Z0 W w18 [.blk g8 24 #[.int .i64 M, .slice A2 hs.length c2], .blk g2 24 #[.int .i64 N, .slice A1 gs.length c1]] := O11.below hb19
    refine ⟨_, rfl, ?_⟩
    refine wl_val (v := .bool true) (fun ρ e => ex_assign (e _ _ rfl)) rfl rfl ?_
    refine wl_nil ?_
    refine xw_next K17 ?_
    refine cw_ret ?_
    refine xw_past (by intro h; cases h) ?_
    refine xw_ret (v := .bool true) (fun T hT => res1 rfl T _ (hT 4 _ rfl)) ?_
    exact ⟨rfl, O20.old⟩
  · skip
    refine wl_val (v := .bool false) (fun ρ e => ex_cmp (u := ((gs.length : Nat) : Int)) (v := 200) (e _ _ rfl) (e _ _ rfl) (gtr0 (by omega))) rfl rfl ?_
    refine wl_val (v := .bool false) (fun ρ e => ex_move (e _ _ rfl)) rfl rfl ?_
    refine wl_val (v := .pointer (some ⟨g8, 1, none⟩)) (fun ρ e => ex_field (q := 1) fi24_1 (e _ _ rfl) rfl) rfl rfl ?_
    refine wl_val (v := .slice A2 hs.length c2) (fun ρ e => ex_load1 ty22 (e _ _ rfl) (O11.cell 0 1 rfl rfl)) rfl rfl ?_
    refine wl_val (v := .int .i64 ((hs.length : Nat) : Int)) (fun ρ e => ex_len el22 (e _ _ rfl)) rfl rfl ?_
    by_cases c21 : ((hs.length : Nat) : Int) > 200
    · skip
      refine wl_val (v := .bool true) (fun ρ e => ex_cmp (u := ((hs.length : Nat) : Int)) (v := 200) (e _ _ rfl) (e _ _ rfl) (gtr1 (by omega))) rfl rfl ?_
      refine wl_val (v := .bool true) (fun ρ e => ex_pick0 (e _ _ rfl) (e _ _ rfl)) rfl rfl ?_
      refine wl_nil ?_
      refine xw_next K15 ?_
      refine cw_true rfl ?_
      refine cw_seq (fun FK22 K22 => ?_)
      refine cw_region ?_
      refine wl_call (args := []) in_14 rfl rfl rfl ?_
      refine (works_ (tab.below (Nat.le_refl _) O11.old)).mono ?_
      rintro _ w23 ⟨rfl, hb24⟩
      have O25 : Own Z0 W w23 [.blk g8 24 #[.int .i64 M, .slice A2 hs.length c2], .blk g2 24 #[.int .i64 N, .slice A1 gs.length c1]] := O11.below hb24
      refine ⟨_, rfl, ?_⟩
      refine wl_val (v := .bool true) (fun ρ e => ex_assign (e _ _ rfl)) rfl rfl ?_
      refine wl_nil ?_
      refine xw_next K22 ?_
      refine cw_ret ?_
      refine xw_past (by intro h; cases h) ?_
      refine xw_ret (v := .bool true) (fun T hT => res1 rfl T _ (hT 4 _ rfl)) ?_
      exact ⟨rfl, O25.old⟩
    · skip
      refine wl_val (v := .bool false) (fun ρ e => ex_cmp (u := ((hs.length : Nat) : Int)) (v := 200) (e _ _ rfl) (e _ _ rfl) (gtr0 (by omega))) rfl rfl ?_
      refine wl_val (v := .bool false) (fun ρ e => ex_pick0 (e _ _ rfl) (e _ _ rfl)) rfl rfl ?_
      refine wl_nil ?_
      refine xw_next K15 ?_
      refine cw_false rfl ?_
      refine cw_skip ?_
      refine xw_next K14 ?_
      refine cw_seq (fun FK26 K26 => ?_)
      refine cw_seq (fun FK27 K27 => ?_)
      refine cw_drawn (fun X => Own Z0 W X [.blk g8 24 #[.int .i64 M, .slice A2 hs.length c2], .blk g2 24 #[.int .i64 N, .slice A1 gs.length c1]]) 9 [(1, 1), (2, 0), (4, 1), (5, 0), (8, 1), (0, 2), (3, 2), (6, 2), (7, 1)] (by kernel_rfl) (by kernel_rfl) (PQ.then_ (PQ.then_ PQ.body)) (O11).drew ?_
      have O28 : Own Z0 W w9.drew [.blk g8 24 #[.int .i64 M, .slice A2 hs.length c2], .blk g2 24 #[.int .i64 N, .slice A1 gs.length c1]] := O11.drew
      refine wt1 (v := .pointer (some ⟨g2, 1, none⟩)) rfl (fun ρ e W => ex_field (q := 1) fi24_1 (e _ _ rfl) rfl) rfl rfl ?_
      refine wt0 (v := .slice A1 gs.length c1) rfl (fun ρ e W hW => ex_load1 ty22 (e _ _ rfl) (hW.cell 1 1 rfl rfl)) rfl rfl ?_
      refine wt1 (v := .pointer (some ⟨g8, 1, none⟩)) rfl (fun ρ e W => ex_field (q := 1) fi24_1 (e _ _ rfl) rfl) rfl rfl ?_
      refine wt0 (v := .slice A2 hs.length c2) rfl (fun ρ e W hW => ex_load1 ty22 (e _ _ rfl) (hW.cell 0 1 rfl rfl)) rfl rfl ?_
      refine wt1 (v := .int .i64 0) rfl (fun ρ e W => ex_move (e _ _ rfl)) rfl rfl ?_
      obtain ⟨g29, w30, r31, O32, hg33, hs34⟩ := own_slice O28 el22 ze38 0 [] (cs := #[]) (by decide) (by kernel_rfl)
      refine wt2 (v := .slice (some ⟨g29, 0, none⟩) 0 0) rfl (fun ρ e => r31 ρ _ _ _ _ _ _ (e.parts rfl)) rfl rfl (O32.re [1, 2] rfl : Own Z0 W w30 [.blk g8 24 #[.int .i64 M, .slice A2 hs.length c2], .blk g2 24 #[.int .i64 N, .slice A1 gs.length c1]]) ?_
      have O35 := Own.emptyrow (sz := 3) O32
      obtain ⟨A36, c37, w38, r39, O40, hz41⟩ := own_appS (m := gs.length) (c := c1) (A := A1) (news := gcells gs vs) O35 ap22 (by rw [gcells_len _ _ hI1.1]) (hS1 _ O35.old) (gcells_one hI1.1 hO1) (by omega) (by omega) (ys := (gcells gs vs)) rfl
      rw [Nat.zero_add] at r39 O40
      refine wt2 (v := .slice A36 gs.length c37) rfl (fun ρ e => r39 ρ _ _ _ _ _ _ _ (e _ _ rfl) (e _ _ rfl)) rfl rfl (O40.re [1, 2] rfl : Own Z0 W w38 [.blk g8 24 #[.int .i64 M, .slice A2 hs.length c2], .blk g2 24 #[.int .i64 N, .slice A1 gs.length c1]]) ?_
      obtain ⟨A42, c43, w44, r45, O46, hz47⟩ := own_appS (m := hs.length) (c := c2) (A := A2) (news := gcells hs us) O40 ap22 (by rw [gcells_len _ _ hI2.1]) (hS2 _ O40.old) (gcells_one hI2.1 hO2) (by omega) (by omega) (ys := (gcells (gs ++ hs) (vs ++ us))) (gcells_append hI1.1).symm
      refine wt2 (v := .slice A42 (gs.length + hs.length) c43) rfl (fun ρ e => r45 ρ _ _ _ _ _ _ _ (e _ _ rfl) (e _ _ rfl)) rfl rfl (O46.re [1, 2] rfl : Own Z0 W w44 [.blk g8 24 #[.int .i64 M, .slice A2 hs.length c2], .blk g2 24 #[.int .i64 N, .slice A1 gs.length c1]]) ?_
      refine wt1 (v := .int .i64 ((gs.length + hs.length : Nat) : Int)) rfl (fun ρ e W => ex_len el22 (e _ _ rfl)) rfl rfl ?_
      refine wt_nil ?_
      refine xw_next K27 ?_
      refine cw_block ?_
      refine cw_loop (ι := Nat) (fun q => [(2, .pointer (some ⟨g2, 0, none⟩)), (3, .pointer (some ⟨g8, 0, none⟩)), (4, .bool false), (24, .slice A42 (gs.length + hs.length) c43), (25, .int .i64 ((gs.length + hs.length : Nat) : Int)), (26, .int .i64 (q : Int))]) (fun q X => (q ≤ gs.length + hs.length) ∧ (∀ g ∈ (gs ++ hs).take q, g.inp.length ≤ 200) ∧ Own Z0 W X [.row (.slice A42 (gs.length + hs.length) c43) 38 3 (gs.length + hs.length) (gcells (gs ++ hs) (vs ++ us)), .blk g8 24 #[.int .i64 M, .slice A2 hs.length c2], .blk g2 24 #[.int .i64 N, .slice A1 gs.length c1]]) (fun q => gs.length + hs.length - q) 0 ⟨Nat.zero_le _, (by simp), O46⟩ ⟨rfl, rfl, rfl, rfl, rfl, rfl, trivial⟩ (fun q w48 hJ F49 K50 => ?_)
      obtain ⟨i, rfl⟩ : ∃ x, x = q := ⟨_, rfl⟩
      obtain ⟨hi0, h2c, O51⟩ := hJ
      try dsimp only at hi0 h2c O51 ⊢
      by_cases hk : i < gs.length + hs.length
      · have hk1 : i < (gs ++ hs).length := by rw [List.length_append]; exact hk
        obtain ⟨rg, hrg⟩ := O51.rowshape 0 rfl (by omega)
        have hk3 : i < (vs ++ us).length := by rw [List.length_append, ← hI1.1, ← hI2.1]; exact hk
        obtain ⟨AI, cI, hAI⟩ := (hI3.2 i _ _ (List.getElem?_eq_getElem hk1) (List.getElem?_eq_getElem hk3)).slice
        obtain ⟨q0, q1, q2⟩ := gcells_get (List.getElem?_eq_getElem hk1) (List.getElem?_eq_getElem hk3)
        rw [hAI] at q2
        have htk : (gs ++ hs).take (i + 1) = (gs ++ hs).take i ++ [(gs ++ hs)[i]] := (List.take_append_getElem hk1).symm
        refine cw_seq (fun FK52 K52 => ?_)
        refine cw_region ?_
        refine wl_val (v := .bool true) (fun ρ e => ex_cmp (u := (i : Int)) (v := ((gs.length + hs.length : Nat) : Int)) (e _ _ rfl) (e _ _ rfl) (lss1 (by omega))) rfl rfl ?_
        refine wl_nil ?_
        refine xw_next K52 ?_
        refine cw_seq (fun FK53 K53 => ?_)
        refine cw_true rfl ?_
        refine cw_skip ?_
        refine xw_next K53 ?_
        refine cw_seq (fun FK54 K54 => ?_)
        refine cw_block ?_
        refine cw_seq (fun FK55 K55 => ?_)
        refine cw_region ?_
        refine wl_val (v := .pointer (some ⟨rg, i * 3, none⟩)) (fun ρ e => ex_idx (q := i * 3) (o := 0) (g := rg) (i := i) el22 ((e _ _ rfl).trans (congrArg (fun z => Value.slice z _ _) hrg)) (e _ _ rfl) hk (by omega)) rfl rfl ?_
        refine wl_val (v := .agg #[.int .i64 ((gs ++ hs)[i].kind), .int .i64 ((gs ++ hs)[i].lit), .slice AI ((gs ++ hs)[i].inp.length) cI]) (fun ρ e => ex_loadN (vs := [.int .i64 ((gs ++ hs)[i].kind), .int .i64 ((gs ++ hs)[i].lit), .slice AI ((gs ++ hs)[i].inp.length) cI]) ty38 (e _ _ rfl) rfl (cells3 (rowcell (hrg ▸ (O51.row 0 rfl) : World.ownsRow _ 0 38 3 (.slice (some ⟨rg, 0, none⟩) _ _) _ _) q0) (rowcell (hrg ▸ (O51.row 0 rfl) : World.ownsRow _ 0 38 3 (.slice (some ⟨rg, 0, none⟩) _ _) _ _) q1) (rowcell (hrg ▸ (O51.row 0 rfl) : World.ownsRow _ 0 38 3 (.slice (some ⟨rg, 0, none⟩) _ _) _ _) q2))) rfl rfl ?_
        obtain ⟨g56, w57, r58, O59, hg60, hs61⟩ := own_alloc O51 38 ze38 rfl
        refine wl_val (v := .pointer (some ⟨g56, 0, none⟩)) (fun ρ e => r58 ρ _ _ _ _ _) rfl rfl ?_
        obtain ⟨w62, r63, O64, hs65⟩ := own_put (o := 0) (n := 3) O59 ty38 (.agg #[.int .i64 ((gs ++ hs)[i].kind), .int .i64 ((gs ++ hs)[i].lit), .slice AI ((gs ++ hs)[i].inp.length) cI]) [.int .i64 ((gs ++ hs)[i].kind), .int .i64 ((gs ++ hs)[i].lit), .slice AI ((gs ++ hs)[i].inp.length) cI] (cs' := #[.int .i64 ((gs ++ hs)[i].kind), .int .i64 ((gs ++ hs)[i].lit), .slice AI ((gs ++ hs)[i].inp.length) cI]) rfl rfl rfl (Nat.le_of_ble_eq_true rfl) rfl
        refine wl_none (fun ρ e => r63 ρ _ _ _ _ _ _ (e _ _ rfl) (e _ _ rfl)) rfl ?_
        refine wl_nil ?_
        refine xw_next K55 ?_
        refine cw_seq (fun FK66 K66 => ?_)
        refine cw_region ?_
        refine wl_val (v := .pointer (some ⟨g56, 2, none⟩)) (fun ρ e => ex_field (q := 2) fi38_2 (e _ _ rfl) rfl) rfl rfl ?_
        refine wl_val (v := .slice AI ((gs ++ hs)[i].inp.length) cI) (fun ρ e => ex_load1 ty36 (e _ _ rfl) (O64.cell 0 2 rfl rfl)) rfl rfl ?_
        refine wl_val (v := .int .i64 (((gs ++ hs)[i].inp.length : Nat) : Int)) (fun ρ e => ex_len el36 (e _ _ rfl)) rfl rfl ?_
        by_cases c67 : (((gs ++ hs)[i].inp.length : Nat) : Int) > 200
        · skip
          refine wl_val (v := .bool true) (fun ρ e => ex_cmp (u := (((gs ++ hs)[i].inp.length : Nat) : Int)) (v := 200) (e _ _ rfl) (e _ _ rfl) (gtr1 (by omega))) rfl rfl ?_
          refine wl_nil ?_
          refine xw_next K66 ?_
          refine cw_true rfl ?_
          refine cw_seq (fun FK68 K68 => ?_)
          refine cw_region ?_
          refine wl_call (args := []) in_14 rfl rfl rfl ?_
          refine (works_ (tab.below (Nat.le_refl _) O64.old)).mono ?_
          rintro _ w69 ⟨rfl, hb70⟩
          have O71 : Own Z0 W w69 [.blk g56 38 #[.int .i64 ((gs ++ hs)[i].kind), .int .i64 ((gs ++ hs)[i].lit), .slice AI ((gs ++ hs)[i].inp.length) cI], .row (.slice A42 (gs.length + hs.length) c43) 38 3 (gs.length + hs.length) (gcells (gs ++ hs) (vs ++ us)), .blk g8 24 #[.int .i64 M, .slice A2 hs.length c2], .blk g2 24 #[.int .i64 N, .slice A1 gs.length c1]] := O64.below hb70
          refine ⟨_, rfl, ?_⟩
          refine wl_val (v := .bool true) (fun ρ e => ex_assign (e _ _ rfl)) rfl rfl ?_
          refine wl_nil ?_
          refine xw_next K68 ?_
          refine cw_ret ?_
          refine xw_blockret ?_
          refine xw_past (by intro h; cases h) ?_
          refine xw_past (by intro h; cases h) ?_
          refine xw_blockret ?_
          refine xw_past (by intro h; cases h) ?_
          refine xw_ret (v := .bool true) (fun T hT => res1 rfl T _ (hT 4 _ rfl)) ?_
          exact ⟨rfl, O71.old⟩
        · skip
          refine wl_val (v := .bool false) (fun ρ e => ex_cmp (u := (((gs ++ hs)[i].inp.length : Nat) : Int)) (v := 200) (e _ _ rfl) (e _ _ rfl) (gtr0 (by omega))) rfl rfl ?_
          refine wl_nil ?_
          refine xw_next K66 ?_
          refine cw_false rfl ?_
          refine cw_skip ?_
          refine xw_block ?_
          refine xw_next K54 ?_
          refine cw_region ?_
          refine wl_val (v := .int .i64 ((i + 1 : Nat) : Int)) (fun ρ e => ex_arith (k := .i64) (u := (i : Int)) (v := 1) (e _ _ rfl) (e _ _ rfl) (congrArg some ((congrArg _ (by omega)).trans (wrap_in (u := ((i + 1 : Nat) : Int)) (by omega) (by omega))))) rfl rfl ?_
          refine wl_val (v := .int .i64 ((i + 1 : Nat) : Int)) (fun ρ e => ex_move (e _ _ rfl)) rfl rfl ?_
          refine wl_nil ?_
          refine xw_round K50 (i + 1) (by show gs.length + hs.length - (i + 1) < gs.length + hs.length - i; omega) ⟨(by show i + 1 ≤ _; omega), (by rw [htk]; intro g hg; rcases List.mem_append.1 hg with h | h; exact h2c g h; rw [List.mem_singleton.1 h]; omega), (O64.re [1, 2, 3] rfl : Own Z0 W w62 [.row (.slice A42 (gs.length + hs.length) c43) 38 3 (gs.length + hs.length) (gcells (gs ++ hs) (vs ++ us)), .blk g8 24 #[.int .i64 M, .slice A2 hs.length c2], .blk g2 24 #[.int .i64 N, .slice A1 gs.length c1]])⟩ ⟨rfl, rfl, rfl, rfl, rfl, rfl, trivial⟩
      · have hie : i = (gs ++ hs).length := by rw [List.length_append]; omega
        rw [hie, List.take_length] at h2c
        have hs1 : shortG gs := fun g hg => by have := h2c g (List.mem_append_left _ hg); omega
        have hs2 : shortG hs := fun g hg => by have := h2c g (List.mem_append_right _ hg); omega
        refine cw_seq (fun FK72 K72 => ?_)
        refine cw_region ?_
        refine wl_val (v := .bool false) (fun ρ e => ex_cmp (u := (i : Int)) (v := ((gs.length + hs.length : Nat) : Int)) (e _ _ rfl) (e _ _ rfl) (lss0 (by rw [List.length_append] at hie; omega))) rfl rfl ?_
        refine wl_nil ?_
        refine xw_next K72 ?_
        refine cw_seq (fun FK73 K73 => ?_)
        refine cw_false rfl ?_
        refine cw_exit ?_
        refine xw_past (by intro h; cases h) ?_
        refine xw_past (by intro h; cases h) ?_
        refine xw_here ?_
        refine xw_next K26 ?_
        refine cw_seq (fun FK74 K74 => ?_)
        refine cw_drawn (fun X => Own Z0 W X [.blk g8 24 #[.int .i64 M, .slice A2 hs.length c2], .blk g2 24 #[.int .i64 N, .slice A1 gs.length c1]]) 16 [(0, 0), (1, 0), (3, 0), (4, 0), (2, 2), (5, 2), (6, 1), (7, 1), (8, 0), (9, 0), (10, 2), (11, 2), (12, 1), (13, 1), (14, 2), (15, 1), (16, 3)] (by kernel_rfl) (by kernel_rfl) (PQ.then_ PQ.body) ((O51.re [1, 2] rfl : Own Z0 W w48 [.blk g8 24 #[.int .i64 M, .slice A2 hs.length c2], .blk g2 24 #[.int .i64 N, .slice A1 gs.length c1]])).drew ?_
        have O75 : Own Z0 W w48.drew [.row (.slice A42 (gs.length + hs.length) c43) 38 3 (gs.length + hs.length) (gcells (gs ++ hs) (vs ++ us)), .blk g8 24 #[.int .i64 M, .slice A2 hs.length c2], .blk g2 24 #[.int .i64 N, .slice A1 gs.length c1]] := O51.drew
        refine wt0 (v := .agg #[.int .i64 N, .slice A1 gs.length c1]) rfl (fun ρ e W hW => ex_loadN (vs := [.int .i64 N, .slice A1 gs.length c1]) ty24 (e _ _ rfl) rfl (hW.cells 1 0 rfl rfl)) rfl rfl ?_
        refine wt0 (v := .agg #[.int .i64 M, .slice A2 hs.length c2]) rfl (fun ρ e W hW => ex_loadN (vs := [.int .i64 M, .slice A2 hs.length c2]) ty24 (e _ _ rfl) rfl (hW.cells 0 0 rfl rfl)) rfl rfl ?_
        refine wt0 (v := .agg #[.int .i64 N, .slice A1 gs.length c1]) rfl (fun ρ e W hW => ex_loadN (vs := [.int .i64 N, .slice A1 gs.length c1]) ty24 (e _ _ rfl) rfl (hW.cells 1 0 rfl rfl)) rfl rfl ?_
        refine wt0 (v := .agg #[.int .i64 M, .slice A2 hs.length c2]) rfl (fun ρ e W hW => ex_loadN (vs := [.int .i64 M, .slice A2 hs.length c2]) ty24 (e _ _ rfl) rfl (hW.cells 0 0 rfl rfl)) rfl rfl ?_
        refine wt2_call (args := [.agg #[.int .i64 N, .slice A1 gs.length c1], .agg #[.int .i64 M, .slice A2 hs.length c2]]) rfl in_21 rfl rfl rfl ?_
        refine (csame_ ((hV1.below O75.old).more O75.old.size) ((hV2.below O75.old).more O75.old.size) hs1 hs2 (by omega) (by omega)).mono ?_
        rintro _ w76 ⟨rfl, hb77⟩
        have O78 : Own Z0 W w76 [.row (.slice A42 (gs.length + hs.length) c43) 38 3 (gs.length + hs.length) (gcells (gs ++ hs) (vs ++ us)), .blk g8 24 #[.int .i64 M, .slice A2 hs.length c2], .blk g2 24 #[.int .i64 N, .slice A1 gs.length c1]] := O75.below hb77
        refine ⟨_, rfl, (O78.re [1, 2] rfl : Own Z0 W w76 [.blk g8 24 #[.int .i64 M, .slice A2 hs.length c2], .blk g2 24 #[.int .i64 N, .slice A1 gs.length c1]]), ?_⟩
        refine wt2_call (args := [.agg #[.int .i64 N, .slice A1 gs.length c1], .agg #[.int .i64 M, .slice A2 hs.length c2]]) rfl in_20 rfl rfl rfl ?_
        refine (rcsame_ ((hV1.below O78.old).more O78.old.size) ((hV2.below O78.old).more O78.old.size) hs1 hs2 (by omega) (by omega)).mono ?_
        rintro _ w79 ⟨rfl, hb80⟩
        have O81 : Own Z0 W w79 [.row (.slice A42 (gs.length + hs.length) c43) 38 3 (gs.length + hs.length) (gcells (gs ++ hs) (vs ++ us)), .blk g8 24 #[.int .i64 M, .slice A2 hs.length c2], .blk g2 24 #[.int .i64 N, .slice A1 gs.length c1]] := O78.below hb80
        refine ⟨_, rfl, (O81.re [1, 2] rfl : Own Z0 W w79 [.blk g8 24 #[.int .i64 M, .slice A2 hs.length c2], .blk g2 24 #[.int .i64 N, .slice A1 gs.length c1]]), ?_⟩
        refine wt1 (v := .bool true) rfl (fun ρ e W => (ex_eqb (b := (decide (N = M ∧ gs = hs))) (b' := (decide (N = M ∧ gs = hs))) (e _ _ rfl) (e _ _ rfl)).trans (by rw [beq_self_eq_true])) rfl rfl ?_
        refine wt1 (v := .bool true) rfl (fun ρ e W => ex_move (e _ _ rfl)) rfl rfl ?_
        refine wt0 (v := .agg #[.int .i64 N, .slice A1 gs.length c1]) rfl (fun ρ e W hW => ex_loadN (vs := [.int .i64 N, .slice A1 gs.length c1]) ty24 (e _ _ rfl) rfl (hW.cells 1 0 rfl rfl)) rfl rfl ?_
        refine wt0 (v := .agg #[.int .i64 N, .slice A1 gs.length c1]) rfl (fun ρ e W hW => ex_loadN (vs := [.int .i64 N, .slice A1 gs.length c1]) ty24 (e _ _ rfl) rfl (hW.cells 1 0 rfl rfl)) rfl rfl ?_
        refine wt2_call (args := [.agg #[.int .i64 N, .slice A1 gs.length c1]]) rfl in_16 rfl rfl rfl ?_
        refine (copy_ (N := N) (gs := gs) ((hV1.below O81.old).more O81.old.size) (fun g hg => by have := h2c g (List.mem_append_left _ hg); omega) (by omega)).mono ?_
        rintro _ w86 ⟨A82, c83, D84, vs85, rfl, h87, hd88⟩
        have O89 : Own Z0 W w86 [.row (.slice A82 gs.length c83) 38 3 gs.length (gcells gs vs85), .ro D84 (OwnIns D84 gs vs85), .row (.slice A42 (gs.length + hs.length) c43) 38 3 (gs.length + hs.length) (gcells (gs ++ hs) (vs ++ us)), .blk g8 24 #[.int .i64 M, .slice A2 hs.length c2], .blk g2 24 #[.int .i64 N, .slice A1 gs.length c1]] := Own.joinr O81 h87 (fun e he => by rcases List.mem_cons.1 he with rfl | he; exact .inl trivial; exact .inr (by rw [List.mem_singleton.1 he]; exact hd88))
        refine ⟨_, rfl, (O89.re [3, 4] rfl : Own Z0 W w86 [.blk g8 24 #[.int .i64 M, .slice A2 hs.length c2], .blk g2 24 #[.int .i64 N, .slice A1 gs.length c1]]), ?_⟩
        refine wt2_call (args := [.agg #[.int .i64 N, .slice A1 gs.length c1], .agg #[.int .i64 N, .slice A82 gs.length c83]]) rfl in_21 rfl rfl rfl ?_
        have h93 := csame_ (N := N) (M := N) ((hV1.below O89.old).more O89.old.size) (gates_of_own (O89.row 0 rfl) (O89.ro 1 rfl) (O89.get 1 rfl).2.1) hs1 hs1 (by omega) (by omega)
        rw [decide_eq_true (show N = N ∧ gs = gs from ⟨rfl, rfl⟩)] at h93
        refine h93.mono ?_
        rintro _ w90 ⟨rfl, hb91⟩
        have O92 : Own Z0 W w90 [.row (.slice A82 gs.length c83) 38 3 gs.length (gcells gs vs85), .ro D84 (OwnIns D84 gs vs85), .row (.slice A42 (gs.length + hs.length) c43) 38 3 (gs.length + hs.length) (gcells (gs ++ hs) (vs ++ us)), .blk g8 24 #[.int .i64 M, .slice A2 hs.length c2], .blk g2 24 #[.int .i64 N, .slice A1 gs.length c1]] := O89.below hb91
        refine ⟨_, rfl, (O92.re [3, 4] rfl : Own Z0 W w90 [.blk g8 24 #[.int .i64 M, .slice A2 hs.length c2], .blk g2 24 #[.int .i64 N, .slice A1 gs.length c1]]), ?_⟩
        refine wt1 (v := .bool true) rfl (fun ρ e W => ex_pick1 (e _ _ rfl) (e _ _ rfl)) rfl rfl ?_
        refine wt1 (v := .bool true) rfl (fun ρ e W => ex_move (e _ _ rfl)) rfl rfl ?_
        refine wt2_call (args := []) rfl in_14 rfl rfl rfl ?_
        refine (works_ (tab.below (Nat.le_refl _) O92.old)).mono ?_
        rintro _ w94 ⟨rfl, hb95⟩
        have O96 : Own Z0 W w94 [.row (.slice A82 gs.length c83) 38 3 gs.length (gcells gs vs85), .ro D84 (OwnIns D84 gs vs85), .row (.slice A42 (gs.length + hs.length) c43) 38 3 (gs.length + hs.length) (gcells (gs ++ hs) (vs ++ us)), .blk g8 24 #[.int .i64 M, .slice A2 hs.length c2], .blk g2 24 #[.int .i64 N, .slice A1 gs.length c1]] := O92.below hb95
        refine ⟨_, rfl, (O96.re [3, 4] rfl : Own Z0 W w94 [.blk g8 24 #[.int .i64 M, .slice A2 hs.length c2], .blk g2 24 #[.int .i64 N, .slice A1 gs.length c1]]), ?_⟩
        refine wt1 (v := .bool true) rfl (fun ρ e W => ex_pick1 (e _ _ rfl) (e _ _ rfl)) rfl rfl ?_
        refine wt3 (v := .bool true) rfl (fun ρ e => ex_assign (e _ _ rfl)) rfl rfl ?_
        refine wt_nil ?_
        refine xw_next K74 ?_
        refine cw_ret ?_
        refine xw_ret (v := .bool true) (fun T hT => res1 rfl T _ (hT 4 _ rfl)) ?_
        exact ⟨rfl, O96.old⟩
end Go.Proofs.YtbemhgojfehnjaaDoor
