/-
  circ.Check: which circuits are valid.
-/
import Derived.Test.YtlifakbdgmdafaaWCirc
namespace Go.Proofs.Ytlifakbdgmdafaa
open Go Go.RowKit

theorem good_in (k i : Int) (a : Addr) (w : World) (h : w.cell? a = some (.int .i64 i)) :
    Calls Try.prog 77 #[.int .i64 k, .pointer (some a)] w fun e w' => e = .returned (.bool (!inOk i k)) ∧ Below w.heap.size w w' := by
  have e : (!inOk i k) = (decide (k < 0) || decide (i ≤ k)) := by
    unfold inOk; rw [Bool.eq_iff_iff]; simp
  rw [e]
  clear e
  by_cases h1 : k < 0
  · go_enter Try.func77, Try.ntmps77
    go_wp2
    go_ret
    exact ⟨ret_bool (by simp [h1]), Below.refl _ _⟩
  · go_enter Try.func77, Try.ntmps77
    go_wp2
    go_ret
    exact ⟨ret_bool (by rw [show decide (k < 0) = false from by simp; omega]; simp), Below.refl _ _⟩

theorem call_good_in (args : Array Value) (w : World) : (callFunc 77 args).run Try.prog w = .ok (.enter 77 args) w := by kernel_rfl

set_option maxRecDepth 100000 in
set_option maxHeartbeats 1600000 in
theorem circ_good (N : Int) (V : Value) (gs : List Gate) (k : Nat) (w : World) (B : Nat) (hB : B ≤ w.heap.size) (hg : GatesV w B V gs) (hk : k < gs.length) :
    Calls Try.prog 57 #[.agg #[.int .i64 N, V], .int .i64 (k : Int)] w fun e w' => e = .returned (.bool (goodGate N k gs[k])) ∧ Below w.heap.size w w' := by
  obtain ⟨A, c, rfl, hlc, hcm, _⟩ := id hg
  unfold maxLen at hcm
  obtain ⟨b, o, A', c', rfl, hbB, h0, h1, h2, hI, hnc, hcm'⟩ := hg.at_ (Below.refl _ _) hk
  have hbl : b < w.heap.size := by omega
  generalize gs[k] = g at *
  obtain ⟨gk, gl, gi⟩ := g
  simp only at h0 h1 h2 hI hnc
  have hz : gi.length ≤ 9223372036854775807 := by unfold maxLen at hcm'; omega
  have e : goodGate N k ⟨gk, gl, gi⟩ = (allowedB gk gi.length && (if gk = 2 then litOk gl N else decide (gl = 0)) && !(gi.any fun x => !inOk k x)) := by
    unfold goodGate litGood
    simp only
    congr 1
    rw [List.all_eq_not_any_not]
  rw [e]
  clear e
  have a1 : ∀ w, Calls Try.prog 76 #[(.int .i64 (gk)), .int .i64 (gi.length : Int)] w fun e w' => e = .returned (.bool (allowedB gk gi.length)) ∧ w = w' := circ_inputs gk gi.length
  have a2 : ∀ w, Calls Try.prog 62 #[(.int .i64 (gl)), (.int .i64 (N))] w fun e w' => e = .returned (.bool (litOk gl N)) ∧ w = w' := lit_Valid gl N
  have a3 : ∀ (w1 : World) (a : Addr) (ha : w1.cell? a = some (.int .i64 (k : Int))) (halt : a.block < w1.heap.size) (hab : a.spot = none) (hb : Below w.heap.size w w1),
      Calls Try.prog 74 #[.slice A' gi.length c', .func (.func 77) #[] #[.pointer (some a)]] w1 fun e w' => e = .returned (.bool (gi.any fun x => !inOk k x)) ∧ Below w1.heap.size w1 w' :=
    fun w1 a ha halt hab hb => contains_func _ _ _ w1 B _ gi (Nat.le_trans hB hb.size) (hI.below (hb.mono hB)) call_good_in (fun i x w' _ hb' => good_in x k a w' ((hb'.cell halt).trans ha))
  generalize allowedB gk gi.length = y1 at a1
  generalize litOk gl N = y2 at a2
  generalize (gi.any fun x => !inOk k x) = y3 at a3
  have A1 := Lib.hid a1
  have A2 := Lib.hid a2
  have A3 := Lib.hid a3
  clear a1 a2 a3
  cases y1
  · simp only [Bool.false_and]
    go_enter Try.func57, Try.ntmps57
    go_wp2_with (go_at_call 76; refine (A1.out _).mono ?_; rintro e w' ⟨rfl, rfl⟩)
    go_ret
    exact ⟨rfl, by go_grown⟩
  · by_cases hk2 : gk = 2
    · subst hk2
      cases y2
      · go_enter Try.func57, Try.ntmps57
        go_wp2_with (first | (go_at_call 76; refine (A1.out _).mono ?_; rintro e w' ⟨rfl, rfl⟩) | (go_at_call 62; refine (A2.out _).mono ?_; rintro e w' ⟨rfl, rfl⟩))
        go_ret
        exact ⟨rfl, by go_grown⟩
      · go_enter Try.func57, Try.ntmps57
        go_wp2_with (first | (go_at_call 76; refine (A1.out _).mono ?_; rintro e w' ⟨rfl, rfl⟩) | (go_at_call 62; refine (A2.out _).mono ?_; rintro e w' ⟨rfl, rfl⟩) | (go_at_call 74; refine (A3.out _ _ (by go_simp) (by simp) rfl (by go_grown)).mono ?_; rintro e w' ⟨rfl, hbb⟩))
        go_ret
        exact ⟨ret_bool (by simp), Below.trans (by go_grown) (hbb.mono (by simp; omega))⟩
    · have hk2' : (gk == 2) = false := by simp [hk2]
      have hk3 : (gk != 2) = true := by simp [hk2]
      rw [if_neg hk2]
      by_cases hl : gl = 0
      · have hl' : (gl != 0) = false := by simp [hl]
        have hl2 : decide (gl = 0) = true := by simp [hl]
        rw [hl2]
        clear hl2 hk2 hl
        go_enter Try.func57, Try.ntmps57
        go_wp2_with (first | (go_at_call 76; refine (A1.out _).mono ?_; rintro e w' ⟨rfl, rfl⟩) | (go_at_call 74; refine (A3.out _ _ (by go_simp) (by simp) rfl (by go_grown)).mono ?_; rintro e w' ⟨rfl, hbb⟩))
        go_ret
        exact ⟨ret_bool (by simp), Below.trans (by go_grown) (hbb.mono (by simp; omega))⟩
      · have hl' : (gl != 0) = true := by simp [hl]
        have hl2 : decide (gl = 0) = false := by simp [hl]
        rw [hl2]
        clear hl2 hk2 hl
        go_enter Try.func57, Try.ntmps57
        go_wp2_with (go_at_call 76; refine (A1.out _).mono ?_; rintro e w' ⟨rfl, rfl⟩)
        all_goals (go_ret; exact ⟨rfl, by go_grown⟩)

set_option maxRecDepth 100000 in
set_option maxHeartbeats 1600000 in
theorem circ_check (N : Int) (V : Value) (gs : List Gate) (w : World) (B : Nat) (hB : B ≤ w.heap.size) (hg : GatesV w B V gs) (hs : sizeOf gs ≤ 4611686018427387904) :
    Calls Try.prog 30 #[.agg #[.int .i64 N, V]] w fun e w' => e = .returned (.int .i64 (checkOf N gs)) ∧ Below w.heap.size w w' := by
  obtain ⟨A, c, rfl, hlc, hcm, _⟩ := id hg
  unfold maxLen at hcm
  by_cases hN : N < 0 ∨ 128 < N
  · have e : checkOf N gs = 6 := by unfold checkOf; rw [if_pos hN]
    rw [e]
    clear e
    rcases hN with hN | hN
    all_goals
      go_enter Try.func30, Try.ntmps30
      go_wp2
      go_ret
      exact ⟨rfl, by go_grown⟩
  · have hN0 : 0 ≤ N := by omega
    have hN1 : N ≤ 128 := by omega
    have a1 : ∀ (w1 : World), Below w.heap.size w w1 → Calls Try.prog 56 #[.agg #[.int .i64 N, .slice A gs.length c]] w1 fun e w' => e = .returned (.int .i64 ((sizeOf gs : Nat) : Int)) ∧ Below w1.heap.size w1 w' :=
      fun w1 hb => circ_size N _ gs w1 B (Nat.le_trans hB hb.size) (hg.below (hb.mono hB)) hs
    by_cases hlen : 4096 < gs.length
    · have e : checkOf N gs = 2 := by unfold checkOf; rw [if_neg hN, if_pos (.inl hlen)]
      rw [e]
      clear e hN
      go_enter Try.func30, Try.ntmps30
      go_wp2
      go_ret
      exact ⟨rfl, by go_grown⟩
    · by_cases hsz : 65536 < sizeOf gs
      · have e : checkOf N gs = 2 := by unfold checkOf; rw [if_neg hN, if_pos (.inr hsz)]
        rw [e]
        generalize sizeOf gs = sz at *
        have A1 := Lib.hid a1
        clear e hN a1
        go_enter Try.func30, Try.ntmps30
        go_wp2_with (go_at_call 56; refine (A1.out _ (by go_grown)).mono ?_; rintro e w' ⟨rfl, hbb⟩)
        go_ret
        exact ⟨rfl, Below.trans (by go_grown) (hbb.mono (by simp))⟩
      · by_cases h0 : gs.length = 0
        · have e : checkOf N gs = 1 := by unfold checkOf; rw [if_neg hN, if_neg (by omega), if_pos h0]
          rw [e]
          have h0' : ((gs.length : Int) == 0) = true := by simp [h0]
          generalize sizeOf gs = sz at *
          have A1 := Lib.hid a1
          clear e hN a1
          have h9 : gs.length ≤ 0 := by omega
          clear h0
          go_enter Try.func30, Try.ntmps30
          go_wp2_with (go_at_call 56; refine (A1.out _ (by go_grown)).mono ?_; rintro e w' ⟨rfl, hbb⟩; obtain ⟨hc, hf⟩ := bcell hbb)
          go_ret
          exact ⟨rfl, Below.trans (by go_grown) (hbb.mono (by simp))⟩
        · have e : checkOf N gs = if goodTo N gs gs.length then 0 else 1 := by unfold checkOf; rw [if_neg hN, if_neg (by omega), if_neg h0]
          rw [e]
          obtain ⟨r, hr⟩ : ∃ r, r = if goodTo N gs gs.length then (0 : Int) else 1 := ⟨_, rfl⟩
          rw [← hr]
          have HR := Lib.hid hr
          clear hr
          have h0' : ((gs.length : Int) == 0) = false := by simp [h0]
          have h9 : 0 < gs.length := by omega
          generalize sizeOf gs = sz at *
          have A1 := Lib.hid a1
          clear e hN a1 h0
          go_enter Try.func30, Try.ntmps30
          go_wp2_with (go_at_call 56; refine (A1.out _ (by go_grown)).mono ?_; rintro e w' ⟨rfl, hbb⟩; obtain ⟨hc, hf⟩ := bcell hbb; have hsz' := hbb.size)
          go_loopw [31] (fun i wr => ∃ k : Nat, k ≤ gs.length ∧ i = .int .i64 k ∧ goodTo N gs k = true ∧ Blk wr w.heap.size 24 #[.int .i64 N, .slice A gs.length c] ∧ Below w.heap.size w wr) (fun i _ => gs.length - (intOf i).toNat)
          case atStart => exact ⟨0, Nat.zero_le _, rfl, rfl, (Blk.new _ _ _).keep hbb, Below.trans (by go_grown) (hbb.mono (by simp))⟩
          case round =>
            obtain ⟨k, hk, rfl, hgo, hblk, hb⟩ := hrel
            have HGO := Lib.hid hgo
            clear hgo hc hf hsz'
            have c0 := hblk.cell 0
            have c1 := hblk.cell 1
            simp at c0 c1
            by_cases hlt : k < gs.length
            · have gd := circ_good N _ gs k wr B (Nat.le_trans hB hb.size) (hg.below (hb.mono hB)) hlt
              have g1 := goodTo_succ N gs k
              rw [HGO.out, goodAt_eq N gs k hlt] at g1
              have hfalse := fun h => goodTo_false N gs k gs.length hlt ((goodAt_eq N gs k hlt).trans h)
              generalize goodGate N k gs[k] = y at gd g1 hfalse
              have GD := Lib.hid gd
              have G1 := Lib.hid g1
              have HFL := Lib.hid hfalse
              clear gd g1 hfalse
              cases y
              · go_wp2_with (go_at_call 57; refine GD.out.mono ?_; rintro e w' ⟨rfl, hbb'⟩)
                go_ret
                exact ⟨by rw [HR.out, HFL.out (by simp)]; rfl, hb.trans (hbb'.mono hb.size)⟩
              · go_wp2_with (go_at_call 57; refine GD.out.mono ?_; rintro e w' ⟨rfl, hbb'⟩)
                go_roundw
                case rel => exact ⟨k + 1, by omega, by go_num, by rw [G1.out]; rfl, hblk.keep hbb', hb.trans (hbb'.mono hb.size)⟩
                case measure => simp [intOf]; omega
            · have e : k = gs.length := by omega
              subst e
              go_wp2
              go_ret
              exact ⟨by rw [HR.out, HGO.out]; rfl, hb⟩
end Go.Proofs.Ytlifakbdgmdafaa
