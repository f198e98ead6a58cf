/-
  What TseitinModels computes.
-/
import Derived.Test.YtlifakbdgmdafaaModels
import Derived.Test.YtlifakbdgmdafaaWModels
import Derived.Test.YtlifakbdgmdafaaWRef07d
import Derived.Test.YtlifakbdgmdafaaSizes
namespace Go.Proofs.Ytlifakbdgmdafaa
open Go Go.RowKit

set_option maxRecDepth 100000 in
set_option maxHeartbeats 3200000 in
theorem models_early (hworks : WorksOk) (N : Int) (V : Value) (gs : List Gate) (w : World) (B : Nat) (hB : B ≤ w.heap.size) (hg : GatesV w B V gs)
    (h : (decide (gs.length ≤ 60) && gs.all fun g => decide (g.inp.length ≤ 150)) = true → (encodeOf N gs).e ≠ 0 ∨ 11 < (encodeOf N gs).n) :
    Calls Try.prog 6 #[.agg #[.int .i64 N, V]] w fun e w' => e = .returned (.bool true) ∧ Below w.heap.size w w' := by
  obtain ⟨A, c, rfl, hlc, hcm, _⟩ := id hg
  unfold maxLen at hcm
  have a1 : ∀ (w1 : World), Below w.heap.size w w1 → Calls Try.prog 11 #[.agg #[.int .i64 N, .slice A gs.length c]] w1 fun e w' => e = .returned (.bool (decide (gs.length ≤ 60) && gs.all fun g => decide (g.inp.length ≤ 150))) ∧ Below w1.heap.size w1 w' :=
    fun w1 hb => law10_light N _ gs w1 B (Nat.le_trans hB hb.size) (hg.below (hb.mono hB))
  obtain ⟨y, hy⟩ : ∃ y, y = (decide (gs.length ≤ 60) && gs.all fun g => decide (g.inp.length ≤ 150)) := ⟨_, rfl⟩
  rw [← hy] at a1 h
  cases y
  · have A1 := Lib.hid a1
    have HW := Lib.hid hworks
    clear a1 hworks hy h
    go_enter Try.func6, Try.ntmps6
    go_wp2_with fail
    refine (A1.out _ (by go_grown)).mono ?_
    rintro e w1 ⟨rfl, hb1⟩
    go_wp2_with fail
    refine (HW.out _).mono ?_
    rintro e w2 ⟨rfl, hb2⟩
    go_wp2
    go_ret
    exact ⟨rfl, (Below.trans (by go_grown) (hb1.mono (by simp <;> omega))).trans (hb2.mono (Nat.le_trans (by simp <;> omega) hb1.size))⟩
  · have hs := light_size hy.symm
    have k2 : ∀ (w1 : World), Below w.heap.size w w1 → Calls Try.prog 13 #[.agg #[.int .i64 N, .slice A gs.length c]] w1 fun e w' => (∃ LV GV, e = .returned (.tuple #[.agg #[.int .i64 (encodeOf N gs).n, LV], GV, .int .i64 (encodeOf N gs).e]) ∧ RowsV w' w'.heap.size LV (encodeOf N gs).L ∧ IntsV w' w'.heap.size GV (encodeOf N gs).gate) ∧ Below w1.heap.size w1 w' :=
      fun w1 hb => tseitin_encode N _ gs w1 B (Nat.le_trans hB hb.size) (hg.below (hb.mono hB)) (by omega)
    have h' := h rfl
    clear hy h
    generalize encodeOf N gs = r at k2 h'
    obtain ⟨re, rn, rL, rg⟩ := r
    simp only at k2 h'
    have A1 := Lib.hid a1
    have K2 := Lib.hid k2
    have HW := Lib.hid hworks
    clear a1 k2 hworks
    by_cases he : re = 0
    · subst he
      have hn : 11 < rn := by omega
      clear h'
      go_enter Try.func6, Try.ntmps6
      go_wp2_with fail
      refine (A1.out _ (by go_grown)).mono ?_
      rintro e w1 ⟨rfl, hb1⟩
      have hc1 := (Blk.new w 24 #[.int .i64 N, .slice A gs.length c]).keep hb1
      have hb1' : Below w.heap.size w w1 := Below.trans (by go_grown) (hb1.mono (by simp <;> omega))
      have c0 := hc1.cell 0
      have c1 := hc1.cell 1
      simp at c0 c1
      have lt1 := hc1.lt
      clear hb1 hc1
      go_wp2_with fail
      refine (K2.out _ hb1').mono ?_
      rintro e w2 ⟨⟨LV, GV, rfl, hLV, hGV⟩, hb2⟩
      obtain ⟨A2, c2, rfl, hl2, hm2, _⟩ := id hLV
      obtain ⟨A3, c3, rfl, hl3, hm3, _⟩ := id hGV
      unfold maxLen at hm2 hm3
      have hb2' : Below w.heap.size w w2 := hb1'.trans (hb2.mono hb1'.size)
      have lt2 := hb2'.size
      clear hLV hGV hb2 hb1'
      go_wp2_with fail
      refine (HW.out _).mono ?_
      rintro e w4 ⟨rfl, hb4⟩
      go_wp2
      go_ret
      exact ⟨rfl, hb2'.trans (Below.trans (by go_grown) (hb4.mono (by simp <;> omega)))⟩
    · clear h'
      have he' : (re != 0) = true := by simpa using he
      clear he
      go_enter Try.func6, Try.ntmps6
      go_wp2_with fail
      refine (A1.out _ (by go_grown)).mono ?_
      rintro e w1 ⟨rfl, hb1⟩
      have hc1 := (Blk.new w 24 #[.int .i64 N, .slice A gs.length c]).keep hb1
      have hb1' : Below w.heap.size w w1 := Below.trans (by go_grown) (hb1.mono (by simp <;> omega))
      have c0 := hc1.cell 0
      have c1 := hc1.cell 1
      simp at c0 c1
      have lt1 := hc1.lt
      clear hb1 hc1
      go_wp2_with fail
      refine (K2.out _ hb1').mono ?_
      rintro e w2 ⟨⟨LV, GV, rfl, hLV, hGV⟩, hb2⟩
      obtain ⟨A2, c2, rfl, hl2, hm2, _⟩ := id hLV
      obtain ⟨A3, c3, rfl, hl3, hm3, _⟩ := id hGV
      unfold maxLen at hm2 hm3
      have hb2' : Below w.heap.size w w2 := hb1'.trans (hb2.mono hb1'.size)
      have lt2 := hb2'.size
      clear hLV hGV hb2 hb1'
      go_wp2_with fail
      refine (HW.out _).mono ?_
      rintro e w4 ⟨rfl, hb4⟩
      go_wp2
      go_ret
      exact ⟨rfl, hb2'.trans (Below.trans (by go_grown) (hb4.mono (by simp <;> omega)))⟩
end Go.Proofs.Ytlifakbdgmdafaa
