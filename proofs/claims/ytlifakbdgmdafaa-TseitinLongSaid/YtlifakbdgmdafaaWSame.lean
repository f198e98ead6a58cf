/-
  SameInts, SameTheory (censusref06); light (censuslaw10); the reference's Check of theories (censusref05).
-/
import Derived.Test.YtlifakbdgmdafaaWTheory
namespace Go.Proofs.Ytlifakbdgmdafaa
open Go Go.RowKit

set_option maxRecDepth 100000 in
set_option maxHeartbeats 1600000 in
theorem same_ints (w : World) (B1 B2 : Nat) (V1 V2 : Value) (l1 l2 : List Int) (h1 : IntsV w B1 V1 l1) (h2 : IntsV w B2 V2 l2) :
    Calls Try.prog 16 #[V1, V2] w fun e w' => e = .returned (.bool (decide (l1 = l2))) ∧ ∃ n, w' = w.drewN n := by
  obtain ⟨A1, c1, rfl, hl1, hm1, _⟩ := id h1
  obtain ⟨A2, c2, rfl, hl2, hm2, _⟩ := id h2
  unfold maxLen at hm1 hm2
  obtain ⟨r, hr⟩ : ∃ r, r = decide (l1 = l2) := ⟨_, rfl⟩
  rw [← hr]
  by_cases hlen : l1.length = l2.length
  · have hlen' : ((l1.length : Int) != (l2.length : Int)) = false := by simp [hlen]
    have HL := Lib.hid hlen
    have HR := Lib.hid hr
    have hle : l1.length ≤ l2.length := by omega
    have hge : l2.length ≤ l1.length := by omega
    clear hlen hr
    go_enter Try.func16, Try.ntmps16
    go_wp2
    go_loopw [5] (fun i wr => ∃ k : Nat, k ≤ l1.length ∧ i = .int .i64 k ∧ l1.take k = l2.take k ∧ ∃ n, wr = w.drewN n) (fun i _ => l1.length - (intOf i).toNat)
    case atStart => exact ⟨0, by omega, rfl, by simp, 0, rfl⟩
    case round =>
      obtain ⟨k, hk, rfl, htk, n, rfl⟩ := hrel
      have HT := Lib.hid htk
      clear htk
      by_cases hlt : k < l1.length
      · obtain ⟨b1, o1, rfl, hb1, hc1⟩ := h1.at_ (Below.refl _ _) hlt
        obtain ⟨b2, o2, rfl, hb2, hc2⟩ := h2.at_ (k := k) (Below.refl _ _) (by omega)
        have hlt2 : k < l2.length := by omega
        have step : l1[k] = l2[k] → l1.take (k + 1) = l2.take (k + 1) := fun h => by
          rw [List.take_succ_eq_append_getElem hlt, List.take_succ_eq_append_getElem hlt2, HT.out, h]
        have stop : l1[k] ≠ l2[k] → r = false := fun h => by
          rw [HR.out, decide_eq_false_iff_not]
          intro e; subst e; exact h rfl
        generalize l1[k] = x at hc1 step stop
        generalize l2[k] = y at hc2 step stop
        have STEP := Lib.hid step
        have STOP := Lib.hid stop
        clear step stop
        have k1 : (k : Int) < (l1.length : Int) := by omega
        have k2 : (k : Int) < (l2.length : Int) := by omega
        by_cases hxy : x = y
        · subst hxy
          go_wp2
          go_quiet (fail)
          go_wp2
          go_roundw
          case rel => exact ⟨k + 1, by omega, by go_num, STEP.out (by simp), _, rfl⟩
          case measure => simp [intOf]; omega
        · have e : r = false := STOP.out hxy
          subst e
          have hxy' : (x != y) = true := by simp [hxy]
          clear hxy
          go_wp2
          go_quiet (fail)
          go_wp2
          go_ret
          exact ⟨rfl, _, World.drewN_drewN _ _ _⟩
      · have e : k = l1.length := by omega
        subst e
        have e : r = true := by
          rw [HR.out, decide_eq_true_eq]
          have := HT.out
          rw [List.take_length, List.take_of_length_le (by omega)] at this
          exact this
        subst e
        go_wp2
        go_ret
        exact ⟨rfl, _, rfl⟩
  · have e : r = false := by
      rw [hr, decide_eq_false_iff_not]
      intro e; exact hlen (by rw [e])
    subst e
    have hlen' : ((l1.length : Int) != (l2.length : Int)) = true := by simp; omega
    clear hlen hr
    go_enter Try.func16, Try.ntmps16
    go_wp2
    go_ret
    exact ⟨rfl, 0, rfl⟩

set_option maxHeartbeats 800000 in
theorem law10_light (N : Int) (V : Value) (gs : List Gate) (w : World) (B : Nat) (hB : B ≤ w.heap.size) (hg : GatesV w B V gs) :
    Calls Try.prog 11 #[.agg #[.int .i64 N, V]] w fun e w' => e = .returned (.bool (decide (gs.length ≤ 60) && gs.all fun g => decide (g.inp.length ≤ 150))) ∧ Below w.heap.size w w' := by
  obtain ⟨A, c, rfl, hlc, hcm, _⟩ := id hg
  unfold maxLen at hcm
  obtain ⟨r, hr⟩ : ∃ r, r = (decide (gs.length ≤ 60) && gs.all fun g => decide (g.inp.length ≤ 150)) := ⟨_, rfl⟩
  rw [← hr]
  by_cases hlen : 60 < gs.length
  · have e : r = false := by rw [hr, show decide (gs.length ≤ 60) = false from by simp; omega]; rfl
    subst e
    clear hr
    go_enter Try.func11, Try.ntmps11
    go_wp2
    go_ret
    exact ⟨rfl, by go_grown⟩
  · have HR := Lib.hid (show r = gs.all fun g => decide (g.inp.length ≤ 150) by rw [hr, show decide (gs.length ≤ 60) = true from by simp; omega]; rfl)
    clear hr
    go_enter Try.func11, Try.ntmps11
    go_wp2
    go_loop [3] (fun i => ∃ k : Nat, k ≤ gs.length ∧ i = .int .i64 k ∧ (gs.take k).all (fun g => decide (g.inp.length ≤ 150)) = true) (fun i => gs.length - (intOf i).toNat)
    case atStart => exact ⟨0, Nat.zero_le _, rfl, rfl⟩
    case round =>
      obtain ⟨k, hk, rfl, hall⟩ := hrel
      have HA := Lib.hid hall
      clear hall
      by_cases hlt : k < gs.length
      · obtain ⟨b, o, A', c', rfl, hbB, h0, h1, h2, hI, hnc, hcm'⟩ := hg.at_ (Below.refl _ _) hlt
        have hbl : b < w.heap.size := by omega
        have step : gs[k].inp.length ≤ 150 → (gs.take (k + 1)).all (fun g => decide (g.inp.length ≤ 150)) = true := fun h => by
          rw [List.take_succ_eq_append_getElem hlt, List.all_append, HA.out]; simp [h]
        have stop : 150 < gs[k].inp.length → r = false := fun h => by
          rw [HR.out, List.all_eq_false]; exact ⟨_, List.getElem_mem hlt, by simp; omega⟩
        generalize gs[k] = g at *
        have STEP := Lib.hid step
        have STOP := Lib.hid stop
        clear step stop
        by_cases hx : 150 < g.inp.length
        · have e : r = false := STOP.out hx
          subst e
          go_wp2
          go_ret
          exact ⟨rfl, by go_grown⟩
        · go_wp2
          go_round
          case rel => exact ⟨k + 1, by omega, by go_num, STEP.out (by omega)⟩
          case measure => simp [intOf]; omega
      · have e : k = gs.length := by omega
        subst e
        have e : r = true := by rw [HR.out]; have := HA.out; rwa [List.take_length] at this
        subst e
        go_wp2
        go_ret
        exact ⟨rfl, by go_grown⟩
theorem quiet_at {P : Program} {f : FuncId} {args : Array Value} {W : World} {n : Nat} {v : Value}
    (h : Calls P f args (W.drewN n) fun e w' => e = .returned v ∧ ∃ m, w' = (W.drewN n).drewN m) : Calls P f args (W.drewN n) fun e w'' => e = .returned v ∧ ∃ m, w'' = W.drewN m :=
  h.mono fun _ _ ⟨he, m, hm⟩ => ⟨he, n + m, by rw [hm, World.drewN_drewN]⟩

set_option maxRecDepth 100000 in
set_option maxHeartbeats 1600000 in
theorem same_theory (N1 N2 : Int) (w : World) (B1 B2 : Nat) (V1 V2 : Value) (l1 l2 : List (List Int)) (hB1 : B1 ≤ w.heap.size) (hB2 : B2 ≤ w.heap.size) (h1 : RowsV w B1 V1 l1) (h2 : RowsV w B2 V2 l2) :
    Calls Try.prog 15 #[.agg #[.int .i64 N1, V1], .agg #[.int .i64 N2, V2]] w fun e w' => e = .returned (.bool (decide (N1 = N2 ∧ l1 = l2))) ∧ Below w.heap.size w w' := by
  obtain ⟨A1, c1, rfl, hl1, hm1, _⟩ := id h1
  obtain ⟨A2, c2, rfl, hl2, hm2, _⟩ := id h2
  unfold maxLen at hm1 hm2
  obtain ⟨r, hr⟩ : ∃ r, r = decide (N1 = N2 ∧ l1 = l2) := ⟨_, rfl⟩
  rw [← hr]
  by_cases hN : N1 = N2
  · by_cases hlen : l1.length = l2.length
    · have hlen' : ((l1.length : Int) != (l2.length : Int)) = false := by simp [hlen]
      have hN' : (N1 != N2) = false := by simp [hN]
      have HR := Lib.hid (show r = decide (l1 = l2) by rw [hr]; simp [hN])
      have hle : l1.length ≤ l2.length := by omega
      have hge : l2.length ≤ l1.length := by omega
      clear hlen hr hN
      go_enter Try.func15, Try.ntmps15
      go_wp2
      have blk1 : Blk ((w.alloc (.cells #[.int .i64 N1, .slice A1 l1.length c1] 29)).alloc (.cells #[.int .i64 N2, .slice A2 l2.length c2] 29)) w.heap.size 29 #[.int .i64 N1, .slice A1 l1.length c1] := (Blk.new w _ _).alloc _
      have blk2 : Blk ((w.alloc (.cells #[.int .i64 N1, .slice A1 l1.length c1] 29)).alloc (.cells #[.int .i64 N2, .slice A2 l2.length c2] 29)) (w.heap.size + 1) 29 #[.int .i64 N2, .slice A2 l2.length c2] := Blk.new_ (by simp)
      have hw : Below w.heap.size w ((w.alloc (.cells #[.int .i64 N1, .slice A1 l1.length c1] 29)).alloc (.cells #[.int .i64 N2, .slice A2 l2.length c2] 29)) := by go_grown
      generalize (w.alloc (.cells #[.int .i64 N1, .slice A1 l1.length c1] 29)).alloc (.cells #[.int .i64 N2, .slice A2 l2.length c2] 29) = w1 at *
      go_loopw [5] (fun i wr => ∃ k : Nat, k ≤ l1.length ∧ i = .int .i64 k ∧ l1.take k = l2.take k ∧ Blk wr w.heap.size 29 #[.int .i64 N1, .slice A1 l1.length c1] ∧ Blk wr (w.heap.size + 1) 29 #[.int .i64 N2, .slice A2 l2.length c2] ∧ Below w.heap.size w wr) (fun i _ => l1.length - (intOf i).toNat)
      case atStart => exact ⟨0, by omega, rfl, by simp, blk1, blk2, hw⟩
      case round =>
        obtain ⟨k, hk, rfl, htk, bk1, bk2, hb⟩ := hrel
        have HT := Lib.hid htk
        clear htk
        have q0 := bk1.cell 0
        have q1 := bk1.cell 1
        have p0 := bk2.cell 0
        have p1 := bk2.cell 1
        simp at q0 q1 p0 p1
        by_cases hlt : k < l1.length
        · have hlt2 : k < l2.length := by omega
          obtain ⟨b1, o1, A3, c3, rfl, hb1, hc1, hI1, hn3, hm3⟩ := h1.at_ (hb.mono hB1) hlt
          obtain ⟨b2, o2, A4, c4, rfl, hb2, hc2, hI2, hn4, hm4⟩ := h2.at_ (k := k) (hb.mono hB2) hlt2
          have step : l1[k] = l2[k] → l1.take (k + 1) = l2.take (k + 1) := fun h => by
            rw [List.take_succ_eq_append_getElem hlt, List.take_succ_eq_append_getElem hlt2, HT.out, h]
          have stop : l1[k] ≠ l2[k] → r = false := fun h => by
            rw [HR.out, decide_eq_false_iff_not]
            intro e; subst e; exact h rfl
          have kk : ∀ m, Calls Try.prog 16 #[.slice A3 l1[k].length c3, .slice A4 l2[k].length c4] (wr.drewN m) fun e w' => e = .returned (.bool (decide (l1[k] = l2[k]))) ∧ ∃ n, w' = (wr.drewN m).drewN n :=
            fun m => same_ints (wr.drewN m) B1 B2 _ _ _ _ (hI1.below (below_drewN (Below.refl _ _) m)) (hI2.below (below_drewN (Below.refl _ _) m))
          generalize hx : l1[k] = x at hc1 step stop kk
          generalize hy : l2[k] = y at hc2 step stop kk
          have STEP := Lib.hid step
          have STOP := Lib.hid stop
          clear step stop hx hy
          have k1 : (k : Int) < (l1.length : Int) := by omega
          have k2 : (k : Int) < (l2.length : Int) := by omega
          obtain ⟨d, hd⟩ : ∃ d, d = decide (x = y) := ⟨_, rfl⟩
          rw [← hd] at kk
          have HD := Lib.hid hd
          have KK := Lib.hid kk
          clear hd kk
          cases d
          · have e : r = false := STOP.out (by have := HD.out; simpa using this.symm)
            subst e
            go_wp2
            go_quiet ((go_at_call 16; exact quiet_at (KK.out _)))
            go_wp2
            go_ret
            exact ⟨rfl, below_drewN hb _⟩
          · have e : x = y := by have := HD.out; simpa using this.symm
            subst e
            go_wp2
            go_quiet ((go_at_call 16; exact quiet_at (KK.out _)))
            go_wp2
            go_roundw
            case rel => exact ⟨k + 1, by omega, by go_num, STEP.out (by simp), bk1, bk2, below_drewN hb _⟩
            case measure => simp [intOf]; omega
        · have e : k = l1.length := by omega
          subst e
          have e : r = true := by
            rw [HR.out, decide_eq_true_eq]
            have := HT.out
            rw [List.take_length, List.take_of_length_le (by omega)] at this
            exact this
          subst e
          go_wp2
          go_ret
          exact ⟨rfl, hb⟩
    · have e : r = false := by
        rw [hr, decide_eq_false_iff_not]
        intro e; exact hlen (by rw [e.2])
      subst e
      have hlen' : ((l1.length : Int) != (l2.length : Int)) = true := by simp; omega
      have hN' : (N1 != N2) = false := by simp [hN]
      clear hlen hr hN
      go_enter Try.func15, Try.ntmps15
      go_wp2
      go_ret
      exact ⟨rfl, by go_grown⟩
  · have e : r = false := by
      rw [hr, decide_eq_false_iff_not]
      intro e; exact hN e.1
    subst e
    have hN' : (N1 != N2) = true := by simp [hN]
    clear hr hN
    go_enter Try.func15, Try.ntmps15
    go_wp2
    all_goals
      go_ret
      exact ⟨rfl, by go_grown⟩
end Go.Proofs.Ytlifakbdgmdafaa
