/-
  What TseitinGates computes.
-/
import Derived.Test.YtlifakbdgmdafaaSem3
import Derived.Test.YtlifakbdgmdafaaSizes
import Derived.Test.YtlifakbdgmdafaaWExtend
namespace Go.Proofs.Ytlifakbdgmdafaa
open Go Go.RowKit

/-- A step of the comparison: what holds of a gate's literal x, its truth h, and the gate's value e. -/
theorem step_pos {h : Bool} {x : Int} (hx : 0 < x) : (h == decide (0 < x)) = h := by
  have : decide (0 < x) = true := by simpa using hx
  rw [this]; cases h <;> rfl
theorem step_neg {h : Bool} {x : Int} (hx : x < 0) : (h == decide (0 < x)) = !h := by
  have : decide (0 < x) = false := by simp; omega
  rw [this]; cases h <;> rfl

set_option maxRecDepth 100000 in
set_option maxHeartbeats 3200000 in
theorem gates_ok (hworks : WorksOk) (N : Int) (V : Value) (gs : List Gate) (a : VS) (w : World) (B : Nat) (hB : B ≤ w.heap.size) (hg : GatesV w B V gs) (hN : -9223372036854775808 ≤ N) (hN' : N ≤ 9223372036854775807) :
    Calls Try.prog 7 #[.agg #[.int .i64 N, V], (.agg #[.int .u64 ((a).a.toNat : Int), .int .u64 ((a).b.toNat : Int)])] w fun e w' => e = .returned (.bool true) ∧ Below w.heap.size w w' := by
  obtain ⟨A, c, rfl, hlc, hcm, _⟩ := id hg
  unfold maxLen at hcm
  have a1 : ∀ (w1 : World), Below w.heap.size w w1 → Calls Try.prog 11 #[.agg #[.int .i64 N, .slice A gs.length c]] w1 fun e w' => e = .returned (.bool (decide (gs.length ≤ 60) && gs.all fun g => decide (g.inp.length ≤ 150))) ∧ Below w1.heap.size w1 w' :=
    fun w1 hb => law10_light N _ gs w1 B (Nat.le_trans hB hb.size) (hg.below (hb.mono hB))
  obtain ⟨y, hy⟩ : ∃ y, y = (decide (gs.length ≤ 60) && gs.all fun g => decide (g.inp.length ≤ 150)) := ⟨_, rfl⟩
  rw [← hy] at a1
  cases y
  · have A1 := Lib.hid a1
    have HW := Lib.hid hworks
    clear a1 hworks hy
    go_enter Try.func7, Try.ntmps7
    go_wp2_with fail
    refine (A1.out _ (by go_grown)).mono ?_
    rintro e w1 ⟨rfl, hb1⟩
    go_wp2_with fail
    refine (HW.out _).mono ?_
    rintro e w2 ⟨rfl, hb2⟩
    go_wp2
    go_ret
    exact ⟨rfl, (Below.trans (by go_grown) (hb1.mono (by simp <;> omega))).trans (hb2.mono (Nat.le_trans (by simp <;> omega) hb1.size))⟩
  · have hs := light_size hy.symm
    have k2 : ∀ (w1 : World), Below w.heap.size w w1 → Calls Try.prog 13 #[.agg #[.int .i64 N, .slice A gs.length c]] w1 fun e w' => (∃ LV GV, e = .returned (.tuple #[.agg #[.int .i64 (encodeOf N gs).n, LV], GV, .int .i64 (encodeOf N gs).e]) ∧ RowsV w' w'.heap.size LV (encodeOf N gs).L ∧ IntsV w' w'.heap.size GV (encodeOf N gs).gate) ∧ Below w1.heap.size w1 w' :=
      fun w1 hb => tseitin_encode N _ gs w1 B (Nat.le_trans hB hb.size) (hg.below (hb.mono hB)) (by omega)
    have k3 : ∀ (w1 : World), Below w.heap.size w w1 → Calls Try.prog 17 #[.agg #[.int .i64 N, .slice A gs.length c], (.agg #[.int .u64 ((a).a.toNat : Int), .int .u64 ((a).b.toNat : Int)])] w1 fun e w' => e = .returned (.tuple #[(.agg #[.int .u64 (((extendOf N gs a).1).a.toNat : Int), .int .u64 (((extendOf N gs a).1).b.toNat : Int)]), .bool (extendOf N gs a).2]) ∧ Below w1.heap.size w1 w' :=
      fun w1 hb => tseitin_extend N _ gs a w1 B (Nat.le_trans hB hb.size) (hg.below (hb.mono hB)) (by omega) hN hN'
    have k4 : ∀ (k : Nat), k < gs.length → ∀ (w1 : World), Below w.heap.size w w1 → Calls Try.prog 26 #[.agg #[.int .i64 N, .slice A (k + 1) c], (.agg #[.int .u64 ((a).a.toNat : Int), .int .u64 ((a).b.toNat : Int)])] w1 fun e w' => e = .returned (.bool (evalOf N (gs.take (k + 1)) a)) ∧ Below w1.heap.size w1 w' :=
      fun k hk w1 hb => circ_eval N _ (gs.take (k + 1)) a.a a.b w1 B (Nat.le_trans hB hb.size) ((GatesV.take hg (by omega)).below (hb.mono hB)) (Nat.le_trans (sizeOf_take _ _) (by omega)) hN hN'
    have hgt : (extendOf N gs a).2 = true → (encodeOf N gs).e = 0 ∧ (encodeOf N gs).gate.length = gs.length ∧ ∀ (j : Nat) (h : j < (encodeOf N gs).gate.length), okL 128 (encodeOf N gs).gate[j] ∧ holdsL (extendOf N gs a).1 (encodeOf N gs).gate[j] = evalOf N (gs.take (j + 1)) a := fun h => by
      have he := (extend_ok.1 h).1
      refine ⟨he, gate_len he, fun j hj => ?_⟩
      have := gates_true h j (by rw [← gate_len he]; exact hj)
      rwa [List.getD_eq_getElem?_getD, List.getElem?_eq_getElem hj, Option.getD_some] at this
    obtain ⟨hl1, _⟩ := light_inp hy.symm
    clear hy
    generalize encodeOf N gs = r at k2 hgt
    generalize extendOf N gs a = x at k3 hgt
    have A1 := Lib.hid a1
    have K2 := Lib.hid k2
    have K3 := Lib.hid k3
    have K4 := Lib.hid k4
    have HW := Lib.hid hworks
    clear a1 k2 k3 k4 hworks
    obtain ⟨xb, xo⟩ := x
    obtain ⟨re, rn, rL, rg⟩ := r
    simp only at K2 K3 hgt
    cases xo
    · clear hgt
      go_enter Try.func7, Try.ntmps7
      go_wp2_with fail
      refine (A1.out _ (by go_grown)).mono ?_
      rintro e w1 ⟨rfl, hb1⟩
      have hc1 := ((Blk.new w 24 #[.int .i64 N, .slice A gs.length c]).alloc (.cells #[.int .u64 (a.a.toNat : Int), .int .u64 (a.b.toNat : Int)] 38)).keep hb1
      have ha1 := (Blk.new_ (w := w.alloc (.cells #[.int .i64 N, .slice A gs.length c] 24)) (g := w.heap.size + 1) (t := 38) (cs := #[.int .u64 (a.a.toNat : Int), .int .u64 (a.b.toNat : Int)]) (by simp)).keep hb1
      have hb1' : Below w.heap.size w w1 := Below.trans (by go_grown) (hb1.mono (by simp <;> omega))
      have c0 := hc1.cell 0
      have c1 := hc1.cell 1
      have d0 := ha1.cell 0
      have d1 := ha1.cell 1
      simp at c0 c1 d0 d1
      have lt1 := hc1.lt
      have HC1 := Lib.hid hc1
      have HA1 := Lib.hid ha1
      clear hb1 hc1 ha1
      go_wp2_with fail
      refine (K2.out _ hb1').mono ?_
      rintro e w2 ⟨⟨LV, GV, rfl, hLV, hGV⟩, hb2⟩
      obtain ⟨A2, c2, rfl, hl2, hm2, _⟩ := id hLV
      obtain ⟨A3, c3, rfl, hl3, hm3, _⟩ := id hGV
      unfold maxLen at hm2 hm3
      have hc2 := HC1.out.keep hb2
      have ha2 := HA1.out.keep hb2
      have hb2' : Below w.heap.size w w2 := hb1'.trans (hb2.mono hb1'.size)
      have c0 := hc2.cell 0
      have c1 := hc2.cell 1
      have d0 := ha2.cell 0
      have d1 := ha2.cell 1
      simp at c0 c1 d0 d1
      have lt2 := hc2.lt
      have lt2' := ha2.lt
      have HC2 := Lib.hid hc2
      have HA2 := Lib.hid ha2
      have HG2 := Lib.hid hGV
      clear hb2 hb1' hc2 ha2 HC1 HA1 lt1 hLV hGV
      go_wp2_with fail
      refine (K3.out _ (by first | exact hb2' | go_grown)).mono ?_
      rintro e w3 ⟨rfl, hb3⟩
      have lt9 := hb2'.size
      have hb3' : Below w.heap.size w w3 := Below.trans (hb2'.trans (by go_grown)) (hb3.mono (by simp <;> omega))
      go_wp2_with fail
      refine (HW.out _).mono ?_
      rintro e w4 ⟨rfl, hb4⟩
      go_wp2
      go_ret
      have lt10 := hb3'.size
      exact ⟨rfl, hb3'.trans (Below.trans (by go_grown) (hb4.mono (by simp <;> omega)))⟩
    · obtain ⟨e0, e1, e2⟩ := hgt rfl
      subst e0
      clear hgt
      have e1' : ((rg.length : Int) != (gs.length : Int)) = false := by rw [e1]; simp
      have hrl : rg.length ≤ 60 := by omega
      have E1 := Lib.hid e1
      have E2 := Lib.hid e2
      clear e1 e2
      go_enter Try.func7, Try.ntmps7
      go_wp2_with fail
      refine (A1.out _ (by go_grown)).mono ?_
      rintro e w1 ⟨rfl, hb1⟩
      have hc1 := ((Blk.new w 24 #[.int .i64 N, .slice A gs.length c]).alloc (.cells #[.int .u64 (a.a.toNat : Int), .int .u64 (a.b.toNat : Int)] 38)).keep hb1
      have ha1 := (Blk.new_ (w := w.alloc (.cells #[.int .i64 N, .slice A gs.length c] 24)) (g := w.heap.size + 1) (t := 38) (cs := #[.int .u64 (a.a.toNat : Int), .int .u64 (a.b.toNat : Int)]) (by simp)).keep hb1
      have hb1' : Below w.heap.size w w1 := Below.trans (by go_grown) (hb1.mono (by simp <;> omega))
      have c0 := hc1.cell 0
      have c1 := hc1.cell 1
      have d0 := ha1.cell 0
      have d1 := ha1.cell 1
      simp at c0 c1 d0 d1
      have lt1 := hc1.lt
      have HC1 := Lib.hid hc1
      have HA1 := Lib.hid ha1
      clear hb1 hc1 ha1
      go_wp2_with fail
      refine (K2.out _ hb1').mono ?_
      rintro e w2 ⟨⟨LV, GV, rfl, hLV, hGV⟩, hb2⟩
      obtain ⟨A2, c2, rfl, hl2, hm2, _⟩ := id hLV
      obtain ⟨A3, c3, rfl, hl3, hm3, _⟩ := id hGV
      unfold maxLen at hm2 hm3
      have hc2 := HC1.out.keep hb2
      have ha2 := HA1.out.keep hb2
      have hb2' : Below w.heap.size w w2 := hb1'.trans (hb2.mono hb1'.size)
      have c0 := hc2.cell 0
      have c1 := hc2.cell 1
      have d0 := ha2.cell 0
      have d1 := ha2.cell 1
      simp at c0 c1 d0 d1
      have lt2 := hc2.lt
      have lt2' := ha2.lt
      have HC2 := Lib.hid hc2
      have HA2 := Lib.hid ha2
      have HG2 := Lib.hid hGV
      clear hb2 hb1' hc2 ha2 HC1 HA1 lt1 hLV hGV
      go_wp2_with fail
      refine (K3.out _ (by first | exact hb2' | go_grown)).mono ?_
      rintro e w3 ⟨rfl, hb3⟩
      have lt9 := hb2'.size
      have hb23 : Below w2.heap.size w2 w3 := Below.trans (by go_grown) (hb3.mono (by simp <;> omega))
      have hb3' : Below w.heap.size w w3 := hb2'.trans (hb23.mono lt9)
      have hc3 := HC2.out.keep hb23
      have ha3 := HA2.out.keep hb23
      have hg3 := HG2.out.below hb23
      have c0 := hc3.cell 0
      have c1 := hc3.cell 1
      have d0 := ha3.cell 0
      have d1 := ha3.cell 1
      simp at c0 c1 d0 d1
      have lt3 := hc3.lt
      have lt3' := ha3.lt
      have le3 := hb23.size
      have HC3 := Lib.hid hc3
      have HA3 := Lib.hid ha3
      have HG3 := Lib.hid hg3
      clear hb3 hb23 hc3 ha3 hg3 HC2 HA2 HG2 K2 K3 A1
      go_wp2
      go_loopw [10] (fun i wr => ∃ k : Nat, k ≤ rg.length ∧ i = .int .i64 k ∧ Blk wr w3.heap.size 38 #[.int .u64 (xb.a.toNat : Int), .int .u64 (xb.b.toNat : Int)] ∧ Below w3.heap.size w3 wr) (fun i _ => rg.length - (intOf i).toNat)
      case atStart => exact ⟨0, Nat.zero_le _, rfl, Blk.new _ _ _, by go_grown⟩
      case round =>
        obtain ⟨k, hk, rfl, hxb, hb⟩ := hrel
        have hc4 := HC3.out.keep hb
        have ha4 := HA3.out.keep hb
        have c0 := hc4.cell 0
        have c1 := hc4.cell 1
        have d0 := ha4.cell 0
        have d1 := ha4.cell 1
        have x0 := hxb.cell 0
        have x1 := hxb.cell 1
        simp at c0 c1 d0 d1 x0 x1
        have lt4 := hc4.lt
        have lt4' := ha4.lt
        have lt5 := hxb.lt
        have le4 := hb.size
        have hb4' : Below w.heap.size w wr := hb3'.trans (hb.mono hb3'.size)
        clear hc4 ha4
        by_cases hlt : k < rg.length
        · obtain ⟨b, o, rfl, hbB, hcell3⟩ := HG3.out.at_ (Below.refl _ _) hlt
          have ic : ∀ W, Below w3.heap.size w3 W → W.cell? ⟨b, o + k, none⟩ = some (.int .i64 rg[k]) := fun W hW => (hW.cell (p := ⟨b, o + k, none⟩) (by simp <;> omega)).trans hcell3
          clear hcell3
          have hkg : k < gs.length := by have := E1.out; omega
          obtain ⟨bb, oo, _, _, rfl, _⟩ := hg.at_ (Below.refl _ _) hkg
          have hk2 : k + 1 ≤ c := by omega
          obtain ⟨q1, q2⟩ := E2.out k hlt
          have k4' := K4.out k hkg
          have kh := ref03_has xb.a xb.b (max rg[k] (-rg[k]))
          have kh' : ∀ w1, Calls Try.prog 25 #[(.agg #[.int .u64 ((xb).a.toNat : Int), .int .u64 ((xb).b.toNat : Int)]), .int .i64 (max rg[k] (-rg[k]))] w1 fun e w' => e = .returned (.bool (VS.has xb (max rg[k] (-rg[k])))) ∧ Below w1.heap.size w1 w' := kh
          unfold holdsL at q2
          rw [← q2] at k4'
          clear q2 kh
          have hbl : b < wr.heap.size := by omega
          generalize rg[k] = x at ic q1 k4' kh'
          have hcell := ic wr hb
          have IC := Lib.hid ic
          clear ic
          unfold okL at q1
          generalize hh : VS.has xb (max x (-x)) = h at k4' kh'
          clear hh
          by_cases hx : 0 < x
          · rw [step_pos hx] at k4'
            have e : max x (-x) = x := by omega
            rw [e] at kh'
            clear e
            have K4' := Lib.hid k4'
            have KH := Lib.hid kh'
            clear k4' kh'
            go_wp2
            go_quiet (fail)
            clear c0 c1 d0 d1 x0 x1 lt4 lt4' lt5 le4 hcell hbl
            go_wp2
            generalize hw4 : wr.drewN _ = w4
            have hb4 : Below w3.heap.size w3 w4 := hw4 ▸ below_drewN hb _
            have hx4 : Blk w4 w3.heap.size 38 #[.int .u64 (xb.a.toNat : Int), .int .u64 (xb.b.toNat : Int)] := hw4 ▸ hxb
            clear hw4
            have hc5 := HC3.out.keep hb4
            have ha5 := HA3.out.keep hb4
            have c0 := hc5.cell 0
            have c1 := hc5.cell 1
            simp at c0 c1
            have lt4 := hc5.lt
            have hwr : IntKind.i64.wrap ((k : Int) + 1) = (k : Int) + 1 := by rw [IntKind.wrap_i64]; omega
            have hw0 : 0 ≤ (k : Int) + 1 := by omega
            have hwt : ((k : Int) + 1).toNat = k + 1 := by omega
            have hwc : (k : Int) + 1 ≤ (c : Int) := by omega
            go_region
            go_wp2
            have hb45 : Below w4.heap.size w4 (w4.alloc (.cells #[.int .i64 N, .slice (some ⟨bb, oo, none⟩) (k + 1) c] 24)).drew := by go_grown
            have hp5 : Blk (w4.alloc (.cells #[.int .i64 N, .slice (some ⟨bb, oo, none⟩) (k + 1) c] 24)).drew w4.heap.size 24 #[.int .i64 N, .slice (some ⟨bb, oo, none⟩) (k + 1) c] := Blk.new w4 _ _
            generalize (w4.alloc (.cells #[.int .i64 N, .slice (some ⟨bb, oo, none⟩) (k + 1) c] 24)).drew = w5 at hb45 hp5 ⊢
            have hb5 : Below w3.heap.size w3 w5 := hb4.trans (hb45.mono hb4.size)
            have hx5 := hx4.keep hb45
            have ha6 := ha5.keep hb45
            have hi5 := HG3.out.below (hb5.mono le3)
            have P0 := hp5.later 0 _ rfl
            have P1 := hp5.later 1 _ rfl
            have X0 := hx5.later 0 _ rfl
            have X1 := hx5.later 1 _ rfl
            have S0 := ha6.later 0 _ rfl
            have S1 := ha6.later 1 _ rfl
            have k5 : ∀ W, Below w5.heap.size w5 W → Calls Try.prog 26 #[.agg #[.int .i64 N, .slice (some ⟨bb, oo, none⟩) (k + 1) c], (.agg #[.int .u64 ((a).a.toNat : Int), .int .u64 ((a).b.toNat : Int)])] W fun e w' => e = .returned (.bool h) ∧ Below w5.heap.size w5 w' :=
              fun W hW => kept (K4'.out W (hb3'.trans ((hb5.trans (hW.mono hb5.size)).mono hb3'.size))) hW
            have hb6 : Below w5.heap.size w5 w5.drew := (Below.refl _ _).drew
            have I0 : ∀ W, Below w5.heap.size w5 W → W.cell? ⟨b, o + k, none⟩ = some (.int .i64 x) := fun W hW => IC.out W (hb5.trans (hW.mono hb5.size))
            have K5 := Lib.hid k5
            clear k5 c0 c1 lt4 hwr hw0 hwt hwc hc5 ha5 ha6 hp5 hi5 hx5 hb
            go_region_held3 (fun w' => w'.cell? ⟨w4.heap.size, 0, none⟩ = some (.int .i64 N) ∧ w'.cell? ⟨w4.heap.size, 1, none⟩ = some (.slice (some ⟨bb, oo, none⟩) (k + 1) c) ∧ w'.cell? ⟨w3.heap.size, 0, none⟩ = some (.int .u64 (xb.a.toNat : Int)) ∧ w'.cell? ⟨w3.heap.size, 1, none⟩ = some (.int .u64 (xb.b.toNat : Int)) ∧
                w'.cell? ⟨w.heap.size + 1, 0, none⟩ = some (.int .u64 (a.a.toNat : Int)) ∧ w'.cell? ⟨w.heap.size + 1, 1, none⟩ = some (.int .u64 (a.b.toNat : Int)) ∧ w'.cell? ⟨b, o + k, none⟩ = some (.int .i64 x) ∧ Below w5.heap.size w5 w') (go_keep)
              (first | (go_at_call 25; refine (kept (w1 := w5) (KH.out _) (by simp [*])).mono ?_; rintro e w' ⟨rfl, hB'⟩) | (go_at_call 26; refine (K5.out _ (by simp [*])).mono ?_; rintro e w' ⟨rfl, hB'⟩))
            have hx6 := hx4.keep (hb45.trans (hB'.mono hb45.size))
            have hb7 := hb5.trans (hB'.mono hb5.size)
            clear hB' hb45 hb6 hb5 X0 X1 P0 P1 S0 S1 I0 K5 KH K4' IC
            cases h
            all_goals
              go_wp2
              go_roundw
              case rel => exact ⟨k + 1, by omega, by go_num, hx6, hb7⟩
              case measure => simp [intOf]; omega
          · have hx' : x < 0 := by omega
            have hd : decide (0 < x) = false := by simp; omega
            rw [step_neg hx'] at k4'
            have e : max x (-x) = -x := by omega
            rw [e] at kh'
            clear e
            have K4' := Lib.hid k4'
            have KH := Lib.hid kh'
            clear k4' kh'
            go_wp2
            go_quiet (fail)
            clear c0 c1 d0 d1 x0 x1 lt4 lt4' lt5 le4 hcell hbl
            go_wp2
            generalize hw4 : wr.drewN _ = w4
            have hb4 : Below w3.heap.size w3 w4 := hw4 ▸ below_drewN hb _
            have hx4 : Blk w4 w3.heap.size 38 #[.int .u64 (xb.a.toNat : Int), .int .u64 (xb.b.toNat : Int)] := hw4 ▸ hxb
            clear hw4
            have hc5 := HC3.out.keep hb4
            have ha5 := HA3.out.keep hb4
            have c0 := hc5.cell 0
            have c1 := hc5.cell 1
            simp at c0 c1
            have lt4 := hc5.lt
            have hwr : IntKind.i64.wrap ((k : Int) + 1) = (k : Int) + 1 := by rw [IntKind.wrap_i64]; omega
            have hw0 : 0 ≤ (k : Int) + 1 := by omega
            have hwt : ((k : Int) + 1).toNat = k + 1 := by omega
            have hwc : (k : Int) + 1 ≤ (c : Int) := by omega
            go_region
            go_wp2
            have hb45 : Below w4.heap.size w4 (w4.alloc (.cells #[.int .i64 N, .slice (some ⟨bb, oo, none⟩) (k + 1) c] 24)).drew := by go_grown
            have hp5 : Blk (w4.alloc (.cells #[.int .i64 N, .slice (some ⟨bb, oo, none⟩) (k + 1) c] 24)).drew w4.heap.size 24 #[.int .i64 N, .slice (some ⟨bb, oo, none⟩) (k + 1) c] := Blk.new w4 _ _
            generalize (w4.alloc (.cells #[.int .i64 N, .slice (some ⟨bb, oo, none⟩) (k + 1) c] 24)).drew = w5 at hb45 hp5 ⊢
            have hb5 : Below w3.heap.size w3 w5 := hb4.trans (hb45.mono hb4.size)
            have hx5 := hx4.keep hb45
            have ha6 := ha5.keep hb45
            have hi5 := HG3.out.below (hb5.mono le3)
            have P0 := hp5.later 0 _ rfl
            have P1 := hp5.later 1 _ rfl
            have X0 := hx5.later 0 _ rfl
            have X1 := hx5.later 1 _ rfl
            have S0 := ha6.later 0 _ rfl
            have S1 := ha6.later 1 _ rfl
            have k5 : ∀ W, Below w5.heap.size w5 W → Calls Try.prog 26 #[.agg #[.int .i64 N, .slice (some ⟨bb, oo, none⟩) (k + 1) c], (.agg #[.int .u64 ((a).a.toNat : Int), .int .u64 ((a).b.toNat : Int)])] W fun e w' => e = .returned (.bool (!h)) ∧ Below w5.heap.size w5 w' :=
              fun W hW => kept (K4'.out W (hb3'.trans ((hb5.trans (hW.mono hb5.size)).mono hb3'.size))) hW
            have hb6 : Below w5.heap.size w5 w5.drew := (Below.refl _ _).drew
            have I0 : ∀ W, Below w5.heap.size w5 W → W.cell? ⟨b, o + k, none⟩ = some (.int .i64 x) := fun W hW => IC.out W (hb5.trans (hW.mono hb5.size))
            have K5 := Lib.hid k5
            clear k5 c0 c1 lt4 hwr hw0 hwt hwc hc5 ha5 ha6 hp5 hi5 hx5 hb
            go_region_held3 (fun w' => w'.cell? ⟨w4.heap.size, 0, none⟩ = some (.int .i64 N) ∧ w'.cell? ⟨w4.heap.size, 1, none⟩ = some (.slice (some ⟨bb, oo, none⟩) (k + 1) c) ∧ w'.cell? ⟨w3.heap.size, 0, none⟩ = some (.int .u64 (xb.a.toNat : Int)) ∧ w'.cell? ⟨w3.heap.size, 1, none⟩ = some (.int .u64 (xb.b.toNat : Int)) ∧
                w'.cell? ⟨w.heap.size + 1, 0, none⟩ = some (.int .u64 (a.a.toNat : Int)) ∧ w'.cell? ⟨w.heap.size + 1, 1, none⟩ = some (.int .u64 (a.b.toNat : Int)) ∧ w'.cell? ⟨b, o + k, none⟩ = some (.int .i64 x) ∧ Below w5.heap.size w5 w') (go_keep)
              (first | (go_at_call 25; refine (kept (w1 := w5) (KH.out _) (by simp [*])).mono ?_; rintro e w' ⟨rfl, hB'⟩) | (go_at_call 26; refine (K5.out _ (by simp [*])).mono ?_; rintro e w' ⟨rfl, hB'⟩))
            have hx6 := hx4.keep (hb45.trans (hB'.mono hb45.size))
            have hb7 := hb5.trans (hB'.mono hb5.size)
            clear hB' hb45 hb6 hb5 X0 X1 P0 P1 S0 S1 I0 K5 KH K4' IC
            cases h
            all_goals
              go_wp2
              go_roundw
              case rel => exact ⟨k + 1, by omega, by go_num, hx6, hb7⟩
              case measure => simp [intOf]; omega
        · have e : k = rg.length := by omega
          subst e
          go_wp2_with fail
          refine (HW.out _).mono ?_
          rintro e w4 ⟨rfl, hb4⟩
          go_wp2
          go_ret
          exact ⟨rfl, hb4'.trans (hb4.mono hb4'.size)⟩
end Go.Proofs.Ytlifakbdgmdafaa
