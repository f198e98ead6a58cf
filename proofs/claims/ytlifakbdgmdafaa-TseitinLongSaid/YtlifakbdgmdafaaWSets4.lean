/-
  What the reference's functions on sets compute (censusref03): Has, All, Cut, Minus, Sub, List.
-/
import Derived.Test.YtlifakbdgmdafaaWSets3
namespace Go.Proofs.Ytlifakbdgmdafaa
open Go Go.RowKit

set_option maxHeartbeats 400000 in
theorem ref03_has (a b : BitVec 64) (v : Int) (w : World) :
    Calls Try.prog 25 #[(.agg #[.int .u64 ((a).toNat : Int), .int .u64 ((b).toNat : Int)]), (.int .i64 (v))] w fun e w' => e = .returned (.bool (VS.has ⟨a, b⟩ v)) ∧ Below w.heap.size w w' := by
  by_cases h : v < 1 ∨ 128 < v
  · rw [VS.has_out _ h]
    rcases h with h | h
    all_goals
      go_enter Try.func25, Try.ntmps25
      go_wp2
      go_ret
      exact ⟨rfl, (Below.refl _ _).alloc (Nat.le_refl _) _⟩
  · by_cases h2 : v ≤ 64
    · have h1 : 1 ≤ v := by omega
      rw [has_lo _ v h1 h2]
      clear h
      have hq : (v-1)/64 = 0 := by omega
      have hr : (v-1)%64 = v-1 := by omega
      go_enter Try.func25, Try.ntmps25
      go_wp2
      go_ret
      exact ⟨ret_bool (shr_bv a _), (Below.refl _ _).alloc (Nat.le_refl _) _⟩
    · have h1 : 65 ≤ v := by omega
      have h3 : v ≤ 128 := by omega
      rw [has_hi _ v h1 h3]
      clear h h2
      have hq : (v-1)/64 = 1 := by omega
      have hr : (v-1)%64 = v-65 := by omega
      go_enter Try.func25, Try.ntmps25
      go_wp2
      go_ret
      exact ⟨ret_bool (by rw [← shr_bv b, ← show (v - 65).toNat = v.toNat - 65 from by omega]), (Below.refl _ _).alloc (Nat.le_refl _) _⟩

set_option maxRecDepth 100000 in
set_option maxHeartbeats 1600000 in
theorem ref03_all (n : Int) (w : World) :
    Calls Try.prog 22 #[(.int .i64 (n))] w fun e w' => e = .returned (.agg #[.int .u64 ((VS.all n).a.toNat : Int), .int .u64 ((VS.all n).b.toNat : Int)]) ∧ Below w.heap.size w w' := by
  go_enter Try.func22, Try.ntmps22
  go_wp2_with (go_at_call 45; refine (ref03_none _).mono ?_; rintro e w' ⟨rfl, rfl⟩)
  go_loopw [4] (fun i wr => ∃ (k : Nat) (m : List Bool), 1 ≤ k ∧ k ≤ 129 ∧ ((k : Int) - 1 ≤ max n 0) ∧ i = .int .i64 k ∧ Blk wr w.heap.size 38 #[.int .u64 0, .int .u64 0] ∧ Blk wr (w.heap.size + 1) 4 (boolCells m) ∧
      m.length = 129 ∧ (∀ u : Nat, 1 ≤ u → u < 129 → m.getD u false = decide (u < k)) ∧ Below w.heap.size w wr) (fun i _ => 129 - (intOf i).toNat)
  case atStart =>
    refine ⟨1, List.replicate 129 false, by omega, by omega, by omega, rfl, (Blk.new _ _ _).alloc _, Blk.new_ (by simp), by simp, fun u h1 hu => ?_, by go_grown⟩
    rw [List.getD_eq_getElem?_getD, List.getElem?_replicate]; simp [hu]; omega
  case round =>
    obtain ⟨k, m, hk1, hk, hkn, rfl, hb0, hb1, hm, hmk, hb⟩ := hrel
    have HM := Lib.hid hm
    have hm1 : m.length ≤ 129 := by omega
    have hm2 : 129 ≤ m.length := by omega
    have HK := Lib.hid hmk
    clear hm hmk
    have d0 := hb0.cell 0
    have d1 := hb0.cell 1
    have e0 := hb0.free 0
    have e1 := hb0.free 1
    simp at d0 d1
    have lt1 := hb1.lt
    have lt0 := hb0.lt
    have fin : ((k : Int) > 128 ∨ (k : Int) > n) → markTo m m.length = VS.all n := fun hx => markTo_of m HM.out (VS.all n) (fun u h1 h2 => by
      rw [HK.out u h1 h2, VS.has_all]; rw [Bool.eq_iff_iff]; simp; omega)
    have FIN := Lib.hid fin
    clear fin
    by_cases h1 : k ≤ 128
    · by_cases h2 : (k : Int) ≤ n
      · have xt : k < m.length := by omega
        have cx := hb1.cell k
        have fx := hb1.free k
        rw [boolCells_get m _ xt] at cx
        go_wp2
        go_roundw
        case rel =>
          refine ⟨k + 1, m.set k true, by omega, by omega, by omega, by go_num, hb0.far (by simp <;> omega) _, by rw [← boolCells_set]; exact hb1.put _ _, by simp; exact HM.out, fun u h3 h4 => ?_, hb.setCell (by simp <;> omega) _⟩
          rw [List.getD_eq_getElem?_getD, List.getElem?_set]
          by_cases e : k = u
          · rw [if_pos e, if_pos (by omega)]; simp; omega
          · rw [if_neg e, ← List.getD_eq_getElem?_getD, HK.out u h3 h4]; simp; omega
        case measure => simp [intOf]; omega
      · have hv := boolCells_V hb1 (by unfold maxLen; omega)
        rw [HM.out] at hv
        have h2' : decide ((k : Int) ≤ n) = false := by simp; omega
        go_wp2_with (go_at_call 46; refine (ref03_set _ _ _ m (Nat.le_refl _) hv HM.out).mono ?_; rintro e w' ⟨rfl, hbb⟩; obtain ⟨hc, hf⟩ := bcell hbb; have hsz := hbb.size)
        refine bodyPost_ret (v := (.agg #[.int .u64 ((markTo m m.length).a.toNat : Int), .int .u64 ((markTo m m.length).b.toNat : Int)])) (by simp [results, Try.results22, go_sem, d0, d1, lt0, hc]) rfl ?_
        rw [FIN.out (by omega)]
        exact ⟨rfl, ((hb.trans (hbb.mono hb.size)).setCell (by simp <;> omega) _).setCell (by simp <;> omega) _⟩
    · have hv := boolCells_V hb1 (by unfold maxLen; omega)
      rw [HM.out] at hv
      have h2' : decide ((k : Int) ≤ 128) = false := by simp; omega
      go_wp2_with (go_at_call 46; refine (ref03_set _ _ _ m (Nat.le_refl _) hv HM.out).mono ?_; rintro e w' ⟨rfl, hbb⟩; obtain ⟨hc, hf⟩ := bcell hbb; have hsz := hbb.size)
      refine bodyPost_ret (v := (.agg #[.int .u64 ((markTo m m.length).a.toNat : Int), .int .u64 ((markTo m m.length).b.toNat : Int)])) (by simp [results, Try.results22, go_sem, d0, d1, lt0, hc]) rfl ?_
      rw [FIN.out (by omega)]
      exact ⟨rfl, ((hb.trans (hbb.mono hb.size)).setCell (by simp <;> omega) _).setCell (by simp <;> omega) _⟩

set_option maxRecDepth 100000 in
set_option maxHeartbeats 1600000 in
theorem ref03_cut (a b c d : BitVec 64) (w : World) :
    Calls Try.prog 21 #[(.agg #[.int .u64 ((a).toNat : Int), .int .u64 ((b).toNat : Int)]), (.agg #[.int .u64 ((c).toNat : Int), .int .u64 ((d).toNat : Int)])] w fun e w' => e = .returned (.agg #[.int .u64 ((VS.cut ⟨a, b⟩ ⟨c, d⟩).a.toNat : Int), .int .u64 ((VS.cut ⟨a, b⟩ ⟨c, d⟩).b.toNat : Int)]) ∧ Below w.heap.size w w' := by
  go_enter Try.func21, Try.ntmps21
  go_wp2_with (go_at_call 45; refine (ref03_none _).mono ?_; rintro e w' ⟨rfl, rfl⟩)
  go_loopw [6] (fun i wr => ∃ (k : Nat) (m : List Bool), 1 ≤ k ∧ k ≤ 129 ∧ i = .int .i64 k ∧ Blk wr w.heap.size 38 #[.int .u64 (a.toNat : Int), .int .u64 (b.toNat : Int)] ∧ Blk wr (w.heap.size + 1) 38 #[.int .u64 (c.toNat : Int), .int .u64 (d.toNat : Int)] ∧
      Blk wr (w.heap.size + 2) 38 #[.int .u64 0, .int .u64 0] ∧ Blk wr (w.heap.size + 3) 4 (boolCells m) ∧
      m.length = 129 ∧ (∀ u : Nat, 1 ≤ u → u < k → m.getD u false = (VS.cut ⟨a, b⟩ ⟨c, d⟩).has u) ∧ Below w.heap.size w wr) (fun i _ => 129 - (intOf i).toNat)
  case atStart =>
    exact ⟨1, List.replicate 129 false, by omega, by omega, rfl, (((Blk.new _ _ _).alloc _).alloc _).alloc _, ((Blk.new_ (by simp)).alloc _).alloc _, (Blk.new_ (by simp)).alloc _, Blk.new_ (by simp), by simp, fun u h1 hu => by omega, by go_grown⟩
  case round =>
    obtain ⟨k, m, hk1, hk, rfl, hba, hbc, hb0, hb1, hm, hmk, hb⟩ := hrel
    have HM := Lib.hid hm
    have hm1 : m.length ≤ 129 := by omega
    have hm2 : 129 ≤ m.length := by omega
    have HK := Lib.hid hmk
    clear hm hmk
    have a0 := hba.cell 0
    have a1 := hba.cell 1
    have q0 := hbc.cell 0
    have q1 := hbc.cell 1
    have d0 := hb0.cell 0
    have d1 := hb0.cell 1
    have e0 := hb0.free 0
    have e1 := hb0.free 1
    simp at d0 d1 a0 a1 q0 q1
    have lt1 := hb1.lt
    have lt0 := hb0.lt
    have lta := hba.lt
    have ltc := hbc.lt
    by_cases h1 : k ≤ 128
    · have xt : k < m.length := by omega
      have cx := hb1.cell k
      have fx := hb1.free k
      rw [boolCells_get m _ xt] at cx
      have upd : ∀ y : Bool, y = (VS.cut ⟨a, b⟩ ⟨c, d⟩).has k → ∀ u : Nat, 1 ≤ u → u < k + 1 → (m.set k y).getD u false = (VS.cut ⟨a, b⟩ ⟨c, d⟩).has u := fun y hy u h3 h4 => by
        rw [List.getD_eq_getElem?_getD, List.getElem?_set]
        by_cases e : k = u
        · rw [if_pos e, if_pos (by omega)]; subst e; exact hy
        · rw [if_neg e, ← List.getD_eq_getElem?_getD, HK.out u h3 (by omega)]
      have UPD := Lib.hid upd
      clear upd
      have hval : (VS.cut ⟨a, b⟩ ⟨c, d⟩).has k = (VS.has ⟨a, b⟩ k && VS.has ⟨c, d⟩ k) := VS.has_cut _ _ _
      have HV := Lib.hid hval
      clear hval
      generalize hg1 : VS.has ⟨a, b⟩ k = ga at HV
      generalize hg2 : VS.has ⟨c, d⟩ k = gb at HV
      have G1 := Lib.hid hg1
      have G2 := Lib.hid hg2
      clear hg1 hg2
      have k1 : ∀ w, Calls Try.prog 25 #[(.agg #[.int .u64 ((a).toNat : Int), .int .u64 ((b).toNat : Int)]), .int .i64 (k : Int)] w fun e w' => e = .returned (.bool ga) ∧ Below w.heap.size w w' := fun w => by rw [← G1.out]; exact ref03_has _ _ _ _
      have k2 : ∀ w, Calls Try.prog 25 #[(.agg #[.int .u64 ((c).toNat : Int), .int .u64 ((d).toNat : Int)]), .int .i64 (k : Int)] w fun e w' => e = .returned (.bool gb) ∧ Below w.heap.size w w' := fun w => by rw [← G2.out]; exact ref03_has _ _ _ _
      have K1 := Lib.hid k1
      have K2 := Lib.hid k2
      clear k1 k2
      cases ga
      · go_wp2_with (go_at_call 25; refine (K1.out _).mono ?_; rintro e w' ⟨rfl, hbb⟩; obtain ⟨hc, hf⟩ := bcell hbb; have hsz := hbb.size)
        go_roundw
        case rel =>
          exact ⟨k + 1, m.set k false, by omega, by omega, by go_num, (hba.keep hbb).far (by simp <;> omega) _, (hbc.keep hbb).far (by simp <;> omega) _, (hb0.keep hbb).far (by simp <;> omega) _, by rw [← boolCells_set]; exact (hb1.keep hbb).put _ _, by simp; exact HM.out, UPD.out false (by rw [HV.out]; rfl), (hb.trans (hbb.mono hb.size)).setCell (by simp <;> omega) _⟩
        case measure => simp [intOf]; omega
      · go_wp2_with fail
        refine (K1.out _).mono ?_
        rintro e w1 ⟨rfl, hb1'⟩
        obtain ⟨hc1, hf1⟩ := bcell hb1'
        have hs1 := hb1'.size
        go_wp2_with fail
        refine (K2.out _).mono ?_
        rintro e w2 ⟨rfl, hb2'⟩
        have hbb := hb1'.trans (hb2'.mono hs1)
        clear hc1 hf1
        obtain ⟨hc2, hf2⟩ := bcell hbb
        have hs2 := hbb.size
        go_wp2
        go_roundw
        case rel =>
          exact ⟨k + 1, m.set k (gb), by omega, by omega, by go_num, (hba.keep hbb).far (by simp <;> omega) _, (hbc.keep hbb).far (by simp <;> omega) _, (hb0.keep hbb).far (by simp <;> omega) _, by rw [← boolCells_set]; exact (hb1.keep hbb).put _ _, by simp; exact HM.out, UPD.out _ (by rw [HV.out]; simp), (hb.trans (hbb.mono hb.size)).setCell (by simp <;> omega) _⟩
        case measure => simp [intOf]; omega
    · have hv := boolCells_V hb1 (by unfold maxLen; omega)
      rw [HM.out] at hv
      have hk9 : k = 129 := by omega
      subst hk9
      have fin := markTo_of m HM.out (VS.cut ⟨a, b⟩ ⟨c, d⟩) HK.out
      have FIN := Lib.hid fin
      clear fin
      go_wp2_with (go_at_call 46; refine (ref03_set _ _ _ m (Nat.le_refl _) hv HM.out).mono ?_; rintro e w' ⟨rfl, hbb⟩; obtain ⟨hc, hf⟩ := bcell hbb; have hsz := hbb.size)
      refine bodyPost_ret (v := (.agg #[.int .u64 ((markTo m m.length).a.toNat : Int), .int .u64 ((markTo m m.length).b.toNat : Int)])) (by simp [results, Try.results21, go_sem, d0, d1, lt0, hc]) rfl ?_
      rw [FIN.out]
      exact ⟨rfl, ((hb.trans (hbb.mono hb.size)).setCell (by simp <;> omega) _).setCell (by simp <;> omega) _⟩

set_option maxRecDepth 100000 in
set_option maxHeartbeats 1600000 in
theorem ref03_minus (a b c d : BitVec 64) (w : World) :
    Calls Try.prog 28 #[(.agg #[.int .u64 ((a).toNat : Int), .int .u64 ((b).toNat : Int)]), (.agg #[.int .u64 ((c).toNat : Int), .int .u64 ((d).toNat : Int)])] w fun e w' => e = .returned (.agg #[.int .u64 ((VS.minus ⟨a, b⟩ ⟨c, d⟩).a.toNat : Int), .int .u64 ((VS.minus ⟨a, b⟩ ⟨c, d⟩).b.toNat : Int)]) ∧ Below w.heap.size w w' := by
  go_enter Try.func28, Try.ntmps28
  go_wp2_with (go_at_call 45; refine (ref03_none _).mono ?_; rintro e w' ⟨rfl, rfl⟩)
  go_loopw [6] (fun i wr => ∃ (k : Nat) (m : List Bool), 1 ≤ k ∧ k ≤ 129 ∧ i = .int .i64 k ∧ Blk wr w.heap.size 38 #[.int .u64 (a.toNat : Int), .int .u64 (b.toNat : Int)] ∧ Blk wr (w.heap.size + 1) 38 #[.int .u64 (c.toNat : Int), .int .u64 (d.toNat : Int)] ∧
      Blk wr (w.heap.size + 2) 38 #[.int .u64 0, .int .u64 0] ∧ Blk wr (w.heap.size + 3) 4 (boolCells m) ∧
      m.length = 129 ∧ (∀ u : Nat, 1 ≤ u → u < k → m.getD u false = (VS.minus ⟨a, b⟩ ⟨c, d⟩).has u) ∧ Below w.heap.size w wr) (fun i _ => 129 - (intOf i).toNat)
  case atStart =>
    exact ⟨1, List.replicate 129 false, by omega, by omega, rfl, (((Blk.new _ _ _).alloc _).alloc _).alloc _, ((Blk.new_ (by simp)).alloc _).alloc _, (Blk.new_ (by simp)).alloc _, Blk.new_ (by simp), by simp, fun u h1 hu => by omega, by go_grown⟩
  case round =>
    obtain ⟨k, m, hk1, hk, rfl, hba, hbc, hb0, hb1, hm, hmk, hb⟩ := hrel
    have HM := Lib.hid hm
    have hm1 : m.length ≤ 129 := by omega
    have hm2 : 129 ≤ m.length := by omega
    have HK := Lib.hid hmk
    clear hm hmk
    have a0 := hba.cell 0
    have a1 := hba.cell 1
    have q0 := hbc.cell 0
    have q1 := hbc.cell 1
    have d0 := hb0.cell 0
    have d1 := hb0.cell 1
    have e0 := hb0.free 0
    have e1 := hb0.free 1
    simp at d0 d1 a0 a1 q0 q1
    have lt1 := hb1.lt
    have lt0 := hb0.lt
    have lta := hba.lt
    have ltc := hbc.lt
    by_cases h1 : k ≤ 128
    · have xt : k < m.length := by omega
      have cx := hb1.cell k
      have fx := hb1.free k
      rw [boolCells_get m _ xt] at cx
      have upd : ∀ y : Bool, y = (VS.minus ⟨a, b⟩ ⟨c, d⟩).has k → ∀ u : Nat, 1 ≤ u → u < k + 1 → (m.set k y).getD u false = (VS.minus ⟨a, b⟩ ⟨c, d⟩).has u := fun y hy u h3 h4 => by
        rw [List.getD_eq_getElem?_getD, List.getElem?_set]
        by_cases e : k = u
        · rw [if_pos e, if_pos (by omega)]; subst e; exact hy
        · rw [if_neg e, ← List.getD_eq_getElem?_getD, HK.out u h3 (by omega)]
      have UPD := Lib.hid upd
      clear upd
      have hval : (VS.minus ⟨a, b⟩ ⟨c, d⟩).has k = (VS.has ⟨a, b⟩ k && !VS.has ⟨c, d⟩ k) := VS.has_minus _ _ _
      have HV := Lib.hid hval
      clear hval
      generalize hg1 : VS.has ⟨a, b⟩ k = ga at HV
      generalize hg2 : VS.has ⟨c, d⟩ k = gb at HV
      have G1 := Lib.hid hg1
      have G2 := Lib.hid hg2
      clear hg1 hg2
      have k1 : ∀ w, Calls Try.prog 25 #[(.agg #[.int .u64 ((a).toNat : Int), .int .u64 ((b).toNat : Int)]), .int .i64 (k : Int)] w fun e w' => e = .returned (.bool ga) ∧ Below w.heap.size w w' := fun w => by rw [← G1.out]; exact ref03_has _ _ _ _
      have k2 : ∀ w, Calls Try.prog 25 #[(.agg #[.int .u64 ((c).toNat : Int), .int .u64 ((d).toNat : Int)]), .int .i64 (k : Int)] w fun e w' => e = .returned (.bool gb) ∧ Below w.heap.size w w' := fun w => by rw [← G2.out]; exact ref03_has _ _ _ _
      have K1 := Lib.hid k1
      have K2 := Lib.hid k2
      clear k1 k2
      cases ga
      · go_wp2_with (go_at_call 25; refine (K1.out _).mono ?_; rintro e w' ⟨rfl, hbb⟩; obtain ⟨hc, hf⟩ := bcell hbb; have hsz := hbb.size)
        go_roundw
        case rel =>
          exact ⟨k + 1, m.set k false, by omega, by omega, by go_num, (hba.keep hbb).far (by simp <;> omega) _, (hbc.keep hbb).far (by simp <;> omega) _, (hb0.keep hbb).far (by simp <;> omega) _, by rw [← boolCells_set]; exact (hb1.keep hbb).put _ _, by simp; exact HM.out, UPD.out false (by rw [HV.out]; rfl), (hb.trans (hbb.mono hb.size)).setCell (by simp <;> omega) _⟩
        case measure => simp [intOf]; omega
      · go_wp2_with fail
        refine (K1.out _).mono ?_
        rintro e w1 ⟨rfl, hb1'⟩
        obtain ⟨hc1, hf1⟩ := bcell hb1'
        have hs1 := hb1'.size
        go_wp2_with fail
        refine (K2.out _).mono ?_
        rintro e w2 ⟨rfl, hb2'⟩
        have hbb := hb1'.trans (hb2'.mono hs1)
        clear hc1 hf1
        obtain ⟨hc2, hf2⟩ := bcell hbb
        have hs2 := hbb.size
        go_wp2
        go_roundw
        case rel =>
          exact ⟨k + 1, m.set k (!gb), by omega, by omega, by go_num, (hba.keep hbb).far (by simp <;> omega) _, (hbc.keep hbb).far (by simp <;> omega) _, (hb0.keep hbb).far (by simp <;> omega) _, by rw [← boolCells_set]; exact (hb1.keep hbb).put _ _, by simp; exact HM.out, UPD.out _ (by rw [HV.out]; simp), (hb.trans (hbb.mono hb.size)).setCell (by simp <;> omega) _⟩
        case measure => simp [intOf]; omega
    · have hv := boolCells_V hb1 (by unfold maxLen; omega)
      rw [HM.out] at hv
      have hk9 : k = 129 := by omega
      subst hk9
      have fin := markTo_of m HM.out (VS.minus ⟨a, b⟩ ⟨c, d⟩) HK.out
      have FIN := Lib.hid fin
      clear fin
      go_wp2_with (go_at_call 46; refine (ref03_set _ _ _ m (Nat.le_refl _) hv HM.out).mono ?_; rintro e w' ⟨rfl, hbb⟩; obtain ⟨hc, hf⟩ := bcell hbb; have hsz := hbb.size)
      refine bodyPost_ret (v := (.agg #[.int .u64 ((markTo m m.length).a.toNat : Int), .int .u64 ((markTo m m.length).b.toNat : Int)])) (by simp [results, Try.results28, go_sem, d0, d1, lt0, hc]) rfl ?_
      rw [FIN.out]
      exact ⟨rfl, ((hb.trans (hbb.mono hb.size)).setCell (by simp <;> omega) _).setCell (by simp <;> omega) _⟩
end Go.Proofs.Ytlifakbdgmdafaa
