/-
  What TseitinSizes computes.
-/
import Derived.Test.YtlifakbdgmdafaaSpec
import Derived.Test.YtlifakbdgmdafaaWEncode
namespace Go.Proofs.Ytlifakbdgmdafaa
open Go Go.RowKit

def WorksOk : Prop := ∀ w : World, Calls Try.prog 12 #[] w fun e w' => e = .returned (.bool true) ∧ Below w.heap.size w w'

theorem light_size {gs : List Gate} (h : (decide (gs.length ≤ 60) && gs.all fun g => decide (g.inp.length ≤ 150)) = true) : sizeOf gs ≤ 9000 := by
  simp only [Bool.and_eq_true, decide_eq_true_eq, List.all_eq_true] at h
  obtain ⟨h1, h2⟩ := h
  have : ∀ (l : List Gate), (∀ g ∈ l, g.inp.length ≤ 150) → (l.map fun g => g.inp.length).sum ≤ l.length * 150 := by
    intro l
    induction l with
    | nil => simp
    | cons g r ih =>
      intro h
      have := ih (fun x hx => h x (List.mem_cons_of_mem _ hx))
      have := h g (List.mem_cons_self)
      simp only [List.map_cons, List.sum_cons, List.length_cons]
      omega
  have := this gs h2
  unfold sizeOf sizeTo
  rw [List.take_length]
  omega
theorem light_inp {gs : List Gate} (h : (decide (gs.length ≤ 60) && gs.all fun g => decide (g.inp.length ≤ 150)) = true) : gs.length ≤ 60 ∧ ∀ g ∈ gs, g.inp.length ≤ 150 := by
  simpa only [Bool.and_eq_true, decide_eq_true_eq, List.all_eq_true] using h
theorem int_eq {k : IntKind} {a b : Int} (h : a = b) : Value.int k a = .int k b := by rw [h]
theorem sum_le (f : Gate → Nat) (b : Nat) (gs : List Gate) (h : ∀ g ∈ gs, f g ≤ b) : (gs.map f).sum ≤ gs.length * b := by
  induction gs with
  | nil => simp
  | cons g r ih =>
    have := ih (fun x hx => h x (List.mem_cons_of_mem _ hx))
    have := h g (List.mem_cons_self)
    simp only [List.map_cons, List.sum_cons, List.length_cons, Nat.add_mul]
    omega

set_option maxRecDepth 100000 in
set_option maxHeartbeats 3200000 in
theorem sizes_ok (hworks : WorksOk) (N : Int) (V : Value) (gs : List Gate) (w : World) (B : Nat) (hB : B ≤ w.heap.size) (hg : GatesV w B V gs) :
    Calls Try.prog 8 #[.agg #[.int .i64 N, V]] w fun e w' => e = .returned (.bool true) ∧ Below w.heap.size w w' := by
  obtain ⟨A, c, rfl, hlc, hcm, _⟩ := id hg
  unfold maxLen at hcm
  have a1 : ∀ (w1 : World), Below w.heap.size w w1 → Calls Try.prog 11 #[.agg #[.int .i64 N, .slice A gs.length c]] w1 fun e w' => e = .returned (.bool (decide (gs.length ≤ 60) && gs.all fun g => decide (g.inp.length ≤ 150))) ∧ Below w1.heap.size w1 w' :=
    fun w1 hb => law10_light N _ gs w1 B (Nat.le_trans hB hb.size) (hg.below (hb.mono hB))
  obtain ⟨y, hy⟩ : ∃ y, y = (decide (gs.length ≤ 60) && gs.all fun g => decide (g.inp.length ≤ 150)) := ⟨_, rfl⟩
  rw [← hy] at a1
  cases y
  · have A1 := Lib.hid a1
    have HW := Lib.hid hworks
    clear a1 hworks hy
    go_enter Try.func8, Try.ntmps8
    go_wp2_with fail
    refine (A1.out _ (by go_grown)).mono ?_
    rintro e w1 ⟨rfl, hb1⟩
    go_wp2_with fail
    refine (HW.out _).mono ?_
    rintro e w2 ⟨rfl, hb2⟩
    go_wp2
    go_ret
    exact ⟨rfl, (Below.trans (by go_grown) (hb1.mono (by simp))).trans (hb2.mono (Nat.le_trans (by simp) hb1.size))⟩
  · have hs := light_size hy.symm
    have k2 : ∀ (w1 : World), Below w.heap.size w w1 → Calls Try.prog 13 #[.agg #[.int .i64 N, .slice A gs.length c]] w1 fun e w' => (∃ LV GV, e = .returned (.tuple #[.agg #[.int .i64 (encodeOf N gs).n, LV], GV, .int .i64 (encodeOf N gs).e]) ∧ RowsV w' w'.heap.size LV (encodeOf N gs).L ∧ IntsV w' w'.heap.size GV (encodeOf N gs).gate) ∧ Below w1.heap.size w1 w' :=
      fun w1 hb => tseitin_encode N _ gs w1 B (Nat.le_trans hB hb.size) (hg.below (hb.mono hB)) (by omega)
    have hr1 : (encodeOf N gs).e = 0 → (∀ g ∈ gs, g.kind ≠ 6) → (encodeOf N gs).n = N + ((gs.map varsOf).sum : Nat) ∧ (encodeOf N gs).L.length = 1 + (gs.map rowsOf).sum := encode_sizes
    have hr2 : (encodeOf N gs).e = 0 → 0 ≤ N ∧ N ≤ 128 ∧ ∀ (k : Nat) (h : k < gs.length), 0 ≤ gs[k].kind ∧ gs[k].kind ≤ 8 := fun h => by
      obtain ⟨h1, _, _⟩ := encodeOf_ok h
      have := check_bounds h1
      exact ⟨this.1, this.2.1, fun k hk => by have := good_len (check_gate h1 k hk); omega⟩
    obtain ⟨hl1, hl2⟩ := light_inp hy.symm
    clear hy
    generalize encodeOf N gs = r at k2 hr1 hr2
    have A1 := Lib.hid a1
    have K2 := Lib.hid k2
    have HW := Lib.hid hworks
    clear a1 k2 hworks
    by_cases he : r.e = 0
    · obtain ⟨re, rn, rL, rg⟩ := r
      simp only at he hr1 hr2 K2
      subst he
      obtain ⟨hN0, hN1, hr2⟩ := hr2 rfl
      have hv : ∀ k, ((gs.take k).map varsOf).sum ≤ 60 := fun k => by
        have := sum_le varsOf 1 (gs.take k) (fun g _ => by unfold varsOf; split <;> omega)
        have := List.length_take_le k gs
        have := List.length_take_le' k gs
        omega
      have hw : ∀ k, ((gs.take k).map rowsOf).sum ≤ 9060 := fun k => by
        have := sum_le rowsOf 151 (gs.take k) (fun g hm => by
          have := hl2 g (List.mem_of_mem_take hm)
          unfold rowsOf; repeat (first | split | omega))
        have := List.length_take_le' k gs
        omega
      have HR1 := Lib.hid (hr1 rfl)
      have HR2 := Lib.hid hr2
      have HL2 := Lib.hid hl2
      have HV := Lib.hid hv
      have HV2 := Lib.hid hw
      clear hr1 hr2 hl2 hv hw
      go_enter Try.func8, Try.ntmps8
      go_wp2_with fail
      refine (A1.out _ (by go_grown)).mono ?_
      rintro e w1 ⟨rfl, hb1⟩
      have hc1 := (Blk.new w 24 #[.int .i64 N, .slice A gs.length c]).keep hb1
      have hb1' : Below w.heap.size w w1 := Below.trans (by go_grown) (hb1.mono (by simp))
      have c0 := hc1.cell 0
      have c1 := hc1.cell 1
      simp at c0 c1
      have lt1 := hc1.lt
      have HC1 := Lib.hid hc1
      clear hb1 hc1
      go_wp2_with fail
      refine (K2.out _ hb1').mono ?_
      rintro e w2 ⟨⟨LV, GV, rfl, hLV, hGV⟩, hb2⟩
      obtain ⟨A2, c2, rfl, hl2, hm2, _⟩ := id hLV
      unfold maxLen at hm2
      have hc2 := HC1.out.keep hb2
      have hb2' : Below w.heap.size w w2 := hb1'.trans (hb2.mono hb1'.size)
      have c0 := hc2.cell 0
      have c1 := hc2.cell 1
      simp at c0 c1
      have lt2 := hc2.lt
      clear hb2 hb1' hc2 HC1 lt1 hLV hGV
      go_wp2
      go_loop [6, 7, 8] (fun n m i => ∃ k : Nat, k ≤ gs.length ∧ i = .int .i64 k ∧ n = .int .i64 (N + (((gs.take k).map varsOf).sum : Nat)) ∧ m = .int .i64 (1 + (((gs.take k).map rowsOf).sum : Nat)) ∧ Hid (∀ g ∈ gs.take k, g.kind ≠ 6)) (fun _ _ i => gs.length - (intOf i).toNat)
      case atStart => exact ⟨0, Nat.zero_le _, rfl, by simp, by simp, by intro g hg; simp at hg⟩
      case round =>
        obtain ⟨k, hk, rfl, rfl, rfl, hno⟩ := hrel
        have v1 := HV.out k
        have v2 := HV2.out k
        by_cases hlt : k < gs.length
        · obtain ⟨b, o, A', c', rfl, hbB, h0, h1, h2, hI, hnc, hcm'⟩ := hg.at_ ((hb2'.mono hB)) hlt
          have hbl : b < w2.heap.size := by have := hb2'.size; omega
          have g1 := map_sum_succ varsOf gs k hlt
          have g2 := map_sum_succ rowsOf gs k hlt
          obtain ⟨q1, q2⟩ := HR2.out k hlt
          have g3 : gs[k].kind ≠ 6 → ∀ g ∈ gs.take (k + 1), g.kind ≠ 6 := fun h g hm => by
            rw [List.take_succ_eq_append_getElem hlt] at hm
            rcases List.mem_append.1 hm with hm | hm
            · exact hno g hm
            · simp at hm; subst hm; exact h
          have g4 := HL2.out gs[k] (List.getElem_mem hlt)
          clear hno
          generalize gs[k] = g at h0 h1 h2 hI hnc g1 g2 g3 g4 q1 q2
          obtain ⟨gk, gl, gi⟩ := g
          simp only at h0 h1 h2 hI hnc g3 g4 q1 q2
          generalize ((gs.take k).map varsOf).sum = sv at g1 v1
          generalize ((gs.take k).map rowsOf).sum = sm at g2 v2
          obtain ⟨sv', hsv⟩ : ∃ s', s' = ((gs.take (k + 1)).map varsOf).sum := ⟨_, rfl⟩
          obtain ⟨sm', hsm⟩ : ∃ s', s' = ((gs.take (k + 1)).map rowsOf).sum := ⟨_, rfl⟩
          rw [← hsv] at g1
          rw [← hsm] at g2
          have HSV := Lib.hid hsv
          have HSM := Lib.hid hsm
          clear hsv hsm
          have G1 := Lib.hid g1
          have G2 := Lib.hid g2
          have G3 := Lib.hid g3
          clear g1 g2 g3
          rcases (show gk = 6 ∨ gk = 2 ∨ gk = 0 ∨ gk = 1 ∨ gk = 3 ∨ gk = 4 ∨ gk = 5 ∨ gk = 7 ∨ gk = 8 from by omega) with e | e | e | e | e | e | e | e | e
          · subst e
            go_wp2_with fail
            refine (HW.out _).mono ?_
            rintro e w3 ⟨rfl, hb3⟩
            go_wp2
            go_ret
            exact ⟨rfl, hb2'.trans (Below.trans (by go_grown) (hb3.mono (by simp; have := hb2'.size; omega)))⟩
          all_goals
            subst e
            go_wp2
            go_round
            case rel => exact ⟨k + 1, by omega, by go_num, by rw [← HSV.out]; exact int_eq (by have e := G1.out; simp [varsOf] at e; omega), by rw [← HSM.out]; exact int_eq (by have e := G2.out; simp [rowsOf] at e; omega), G3.out (by omega)⟩
            case measure => simp [intOf]; omega
        · have e : k = gs.length := by omega
          subst e
          rw [List.take_length] at hno v1 v2
          obtain ⟨z1, z2⟩ := HR1.out hno
          rw [List.take_length] at *
          clear hno HV HV2 HR1
          generalize (gs.map varsOf).sum = sv at *
          generalize (gs.map rowsOf).sum = sm at *
          subst z1
          have z3 : (rL.length : Int) = 1 + (sm : Int) := by omega
          rw [z2]
          clear z2 z3
          go_wp2_with fail
          refine (HW.out _).mono ?_
          rintro e w3 ⟨rfl, hb3⟩
          go_wp2
          go_ret
          exact ⟨rfl, hb2'.trans (Below.trans (by go_grown) (hb3.mono (by simp; have := hb2'.size; omega)))⟩
    · have he' : (r.e != 0) = true := by simpa using he
      obtain ⟨re, rn, rL, rg⟩ := r
      simp only at he he' K2
      clear he hr1 hr2
      go_enter Try.func8, Try.ntmps8
      go_wp2_with fail
      refine (A1.out _ (by go_grown)).mono ?_
      rintro e w1 ⟨rfl, hb1⟩
      have hc1 := (Blk.new w 24 #[.int .i64 N, .slice A gs.length c]).keep hb1
      have hb1' : Below w.heap.size w w1 := Below.trans (by go_grown) (hb1.mono (by simp))
      have c0 := hc1.cell 0
      have c1 := hc1.cell 1
      simp at c0 c1
      have lt1 := hc1.lt
      clear hb1 hc1
      go_wp2_with fail
      refine (K2.out _ hb1').mono ?_
      rintro e w2 ⟨⟨LV, GV, rfl, hLV, hGV⟩, hb2⟩
      have hb2' : Below w.heap.size w w2 := hb1'.trans (hb2.mono hb1'.size)
      obtain ⟨A2, c2, rfl, hl2, hm2, _⟩ := id hLV
      unfold maxLen at hm2
      clear hLV hGV
      go_wp2_with fail
      refine (HW.out _).mono ?_
      rintro e w3 ⟨rfl, hb3⟩
      go_wp2
      go_ret
      have lt9 := hb2'.size
      exact ⟨rfl, hb2'.trans (Below.trans (by go_grown) (hb3.mono (by simp; have := hb2'.size; omega)))⟩
end Go.Proofs.Ytlifakbdgmdafaa
