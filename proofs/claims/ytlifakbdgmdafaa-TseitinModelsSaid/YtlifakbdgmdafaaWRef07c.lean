/-
  The reference's value and Eval of circuits (censusref07).
-/
import Derived.Test.YtlifakbdgmdafaaWRef07b
import Derived.Test.YtlifakbdgmdafaaWSets5
import Derived.Test.YtlifakbdgmdafaaOwn
import Derived.Test.YtlifakbdgmdafaaSem
namespace Go.Proofs.Ytlifakbdgmdafaa
open Go Go.RowKit

def refHolds (s : VS) (l : Int) : Bool := if l < 0 then !s.has (-l) else s.has l
theorem refHolds_eq {s : VS} {l : Int} (h : okL 128 l) : refHolds s l = litHolds s l := by
  unfold refHolds
  unfold okL at h
  by_cases hl : l < 0
  · rw [if_pos hl, ← litHolds_var (by omega) (by omega), litHolds_neg (by unfold okL; omega)]; simp
  · rw [if_neg hl, litHolds_var (by omega) (by omega)]

theorem ref07_holds (s : VS) (l : Int) (w : World) (h0 : -9223372036854775807 ≤ l) (h1 : l ≤ 9223372036854775807) :
    Calls Try.prog 69 #[(.agg #[.int .u64 ((s).a.toNat : Int), .int .u64 ((s).b.toNat : Int)]), (.int .i64 (l))] w fun e w' => e = .returned (.bool (refHolds s l)) ∧ Below w.heap.size w w' := by
  unfold refHolds
  by_cases hl : l < 0
  · rw [if_pos hl]
    have k : ∀ W, Calls Try.prog 25 #[(.agg #[.int .u64 ((s).a.toNat : Int), .int .u64 ((s).b.toNat : Int)]), (.int .i64 (-l))] W fun e w' => e = .returned (.bool (s.has (-l))) ∧ Below W.heap.size W w' := fun W => ref03_has s.a s.b (-l) W
    generalize VS.has s (-l) = y at k ⊢
    have K := Lib.hid k
    clear k
    go_enter Try.func69, Try.ntmps69
    go_wp2_with fail
    refine (K.out _).mono ?_
    rintro e w1 ⟨rfl, hb⟩
    go_wp2
    go_ret
    exact ⟨rfl, Below.trans (by go_grown) (hb.mono (by simp))⟩
  · rw [if_neg hl]
    have k : ∀ W, Calls Try.prog 25 #[(.agg #[.int .u64 ((s).a.toNat : Int), .int .u64 ((s).b.toNat : Int)]), (.int .i64 (l))] W fun e w' => e = .returned (.bool (s.has l)) ∧ Below W.heap.size W w' := fun W => ref03_has s.a s.b l W
    generalize VS.has s l = y at k ⊢
    have K := Lib.hid k
    clear k
    have hl' : 0 ≤ l := by omega
    clear hl
    go_enter Try.func69, Try.ntmps69
    go_wp2_with fail
    refine (K.out _).mono ?_
    rintro e w1 ⟨rfl, hb⟩
    go_wp2
    go_ret
    exact ⟨rfl, Below.trans (by go_grown) (hb.mono (by simp))⟩

set_option maxRecDepth 100000 in
set_option maxHeartbeats 6400000 in
theorem ref07_value (g : Gate) (IV : Value) (s : VS) (VV : Value) (v : List Bool) (w : World) (B B2 : Nat) (hB : B ≤ w.heap.size) (hB2 : B2 ≤ w.heap.size) (hi : IntsV w B IV g.inp) (hv : BoolsV w B2 VV v)
    (hin : ∀ (i : Nat) (x : Int), g.inp[i]? = some x → 0 ≤ x ∧ x < v.length) (h8 : g.kind = 8 → g.inp.length = 3) (h7 : g.kind = 7 → g.inp.length = 2) (h2 : g.kind = 2 → okL 128 g.lit) :
    Calls Try.prog 44 #[.agg #[.int .i64 g.kind, .int .i64 g.lit, IV], (.agg #[.int .u64 ((s).a.toNat : Int), .int .u64 ((s).b.toNat : Int)]), VV] w fun e w' => e = .returned (.bool (valueOf g s v)) ∧ Below w.heap.size w w' := by
  obtain ⟨gk, gl, gi⟩ := g
  simp only at hi hin h8 h7 h2 ⊢
  obtain ⟨A, c, rfl, hlc, hcm, _⟩ := id hi
  obtain ⟨A2, c2, rfl, hlc2, hcm2, _⟩ := id hv
  unfold maxLen at hcm hcm2
  have HIN := Lib.hid hin
  have H8 := Lib.hid h8
  have H7 := Lib.hid h7
  clear hin h8 h7
  obtain ⟨r, hr⟩ : ∃ r, r = valueOf ⟨gk, gl, gi⟩ s v := ⟨_, rfl⟩
  rw [← hr]
  have HR := Lib.hid hr
  clear hr
  have hlen : (inVals ⟨gk, gl, gi⟩ v).length = gi.length := by simp [inVals]
  have HLEN := Lib.hid hlen
  clear hlen
  have KH : gk = 2 → Hid (∀ w, Calls Try.prog 69 #[(.agg #[.int .u64 ((s).a.toNat : Int), .int .u64 ((s).b.toNat : Int)]), (.int .i64 (gl))] w fun e w' => e = .returned (.bool (litHolds s gl)) ∧ Below w.heap.size w w') := fun h => by
    have hk := h2 h
    intro w
    rw [← refHolds_eq hk]
    unfold okL at hk
    exact ref07_holds s gl w (by omega) (by omega)
  have HKH := Lib.hid KH
  clear KH h2
  go_enter Try.func44, Try.ntmps44
  go_wp2
  have hb0 := (Blk.new w 44 #[.int .i64 gk, .int .i64 gl, .slice A gi.length c]).alloc (.cells #[.int .u64 (s.a.toNat : Int), .int .u64 (s.b.toNat : Int)] 38)
  have hb1 : Blk ((w.alloc (.cells #[.int .i64 gk, .int .i64 gl, .slice A gi.length c] 44)).alloc (.cells #[.int .u64 (s.a.toNat : Int), .int .u64 (s.b.toNat : Int)] 38)) (w.heap.size + 1) 38 #[.int .u64 (s.a.toNat : Int), .int .u64 (s.b.toNat : Int)] := Blk.new_ (by simp)
  have hb : Below w.heap.size w ((w.alloc (.cells #[.int .i64 gk, .int .i64 gl, .slice A gi.length c] 44)).alloc (.cells #[.int .u64 (s.a.toNat : Int), .int .u64 (s.b.toNat : Int)] 38)) := by go_grown
  generalize (w.alloc (.cells #[.int .i64 gk, .int .i64 gl, .slice A gi.length c] 44)).alloc (.cells #[.int .u64 (s.a.toNat : Int), .int .u64 (s.b.toNat : Int)] 38) = wr at hb0 hb1 hb ⊢
  have c0 := hb0.cell 0
  have c1 := hb0.cell 1
  have c2 := hb0.cell 2
  have d0 := hb1.cell 0
  have d1 := hb1.cell 1
  simp at c0 c1 c2 d0 d1
  have lt0 := hb0.lt
  have lt1 := hb1.lt
  clear hb0 hb1
  go_loop [7, 8, 9, 10] (fun al an od i => ∃ (k : Nat) (pa po pd : Bool), k ≤ gi.length ∧ i = .int .i64 k ∧ al = .bool pa ∧ an = .bool po ∧ od = .bool pd ∧ Hid (pa = decide (onesOf ((inVals ⟨gk, gl, gi⟩ v).take k) = k)) ∧
      Hid (po = decide (0 < onesOf ((inVals ⟨gk, gl, gi⟩ v).take k))) ∧ Hid (pd = decide (onesOf ((inVals ⟨gk, gl, gi⟩ v).take k) % 2 = 1))) (fun _ _ _ i => gi.length - (intOf i).toNat)
  case atStart => exact ⟨0, true, false, false, by omega, rfl, rfl, rfl, rfl, by show _ = _; simp [onesOf_nil], by show _ = _; simp [onesOf_nil], by show _ = _; simp [onesOf_nil]⟩
  case round =>
    obtain ⟨k, pa, po, pd, hk, rfl, rfl, rfl, rfl, HA, HO, HD⟩ := hrel
    by_cases hlt : k < gi.length
    · obtain ⟨b', o', rfl, hbB, hcell⟩ := hi.at_ (hb.mono hB) hlt
      have hx := HIN.out k _ (List.getElem?_eq_getElem hlt)
      have htk := inVals_take ⟨gk, gl, gi⟩ v k hlt
      simp only at htk
      generalize gi[k] = x at hcell hx htk
      obtain ⟨hx0, hx1⟩ := hx
      obtain ⟨n, rfl⟩ := Int.eq_ofNat_of_zero_le hx0
      have hn : n < v.length := by omega
      obtain ⟨b2, o2, rfl, hbB2, hcell2⟩ := hv.at_ (hb.mono hB2) hn
      rw [Int.toNat_natCast, List.getD_eq_getElem?_getD, List.getElem?_eq_getElem hn, Option.getD_some] at htk
      generalize v[n] = y at hcell2 htk
      have hon := onesOf_snoc ((inVals ⟨gk, gl, gi⟩ v).take k) y
      rw [← htk] at hon
      have hle : onesOf ((inVals ⟨gk, gl, gi⟩ v).take k) ≤ k := Nat.le_trans (onesOf_le _) (List.length_take_le _ _)
      have hna : (pa && y) = decide (onesOf ((inVals ⟨gk, gl, gi⟩ v).take (k + 1)) = k + 1) := by
        rw [hon, HA.out]
        cases y
        · simp; omega
        · simp
      have hno : (po || y) = decide (0 < onesOf ((inVals ⟨gk, gl, gi⟩ v).take (k + 1))) := by
        rw [hon, HO.out]
        cases y <;> simp
      have hnd : (pd != y) = decide (onesOf ((inVals ⟨gk, gl, gi⟩ v).take (k + 1)) % 2 = 1) := by
        rw [hon, HD.out]
        generalize onesOf ((inVals ⟨gk, gl, gi⟩ v).take k) = q
        rcases Nat.mod_two_eq_zero_or_one q with hq | hq
        · have : (q + 1) % 2 = 1 := by omega
          cases y <;> simp [hq, this]
        · have : (q + 1) % 2 = 0 := by omega
          cases y <;> simp [hq, this]
      have HNA := Lib.hid hna
      have HNO := Lib.hid hno
      have HND := Lib.hid hnd
      clear hon htk hle hna hno hnd HA HO HD
      cases y
      all_goals
        cases pa
        all_goals
          cases po
          all_goals
            cases pd
            all_goals
              go_wp2
              go_round
              case rel => exact ⟨k + 1, _, _, _, by omega, by go_num, rfl, rfl, rfl, HNA, HNO, HND⟩
              case measure => simp [intOf]; omega
    · have e : k = gi.length := by omega
      subst e
      have ht : (inVals ⟨gk, gl, gi⟩ v).take gi.length = inVals ⟨gk, gl, gi⟩ v := List.take_of_length_le (by rw [HLEN.out]; exact Nat.le_refl _)
      rw [ht] at HA HO HD
      clear ht
      have hon9 := onesOf_le (inVals ⟨gk, gl, gi⟩ v)
      rw [HLEN.out] at hon9
      generalize hon : onesOf (inVals ⟨gk, gl, gi⟩ v) = on at HA HO HD hon9
      have HON := Lib.hid hon
      clear hon
      by_cases k1 : gk = 1
      · subst k1
        go_wp2
        go_ret
        exact ⟨ret_bool (by rw [HR.out]; simp [valueOf]), hb⟩
      by_cases k2 : gk = 2
      · subst k2
        have KH := HKH.out rfl
        clear HKH
        go_wp2_with fail
        refine (KH.out _).mono ?_
        rintro e w' ⟨rfl, hbb⟩
        go_wp2
        go_ret
        exact ⟨ret_bool (by rw [HR.out]; simp [valueOf]), hb.trans (hbb.mono hb.size)⟩
      by_cases k3 : gk = 3
      · subst k3
        go_wp2
        go_ret
        exact ⟨ret_bool (by rw [HR.out]; rw [HO.out, Bool.eq_iff_iff]; simp [valueOf, HON.out]; try omega), hb⟩
      by_cases k4 : gk = 4
      · subst k4
        go_wp2
        go_ret
        exact ⟨ret_bool (by rw [HR.out]; rw [HA.out]; simp [valueOf, HON.out]), hb⟩
      by_cases k5 : gk = 5
      · subst k5
        go_wp2
        go_ret
        exact ⟨ret_bool (by rw [HR.out]; rw [HO.out]; simp [valueOf, HON.out]), hb⟩
      by_cases k6 : gk = 6
      · subst k6
        go_wp2
        go_ret
        exact ⟨ret_bool (by rw [HR.out]; rw [HD.out]; simp [valueOf, HON.out]), hb⟩
      by_cases k7 : gk = 7
      · subst k7
        have h9 : on ≤ 2 := by have := H7.out rfl; omega
        go_wp2
        go_ret
        exact ⟨ret_bool (by rw [HR.out, HD.out]; simp [valueOf, HON.out]; omega), hb⟩
      by_cases k8 : gk = 8
      · subst k8
        have h3 : gi.length = 3 := H8.out rfl
        have el : ∀ j : Nat, j < 3 → ∃ n : Nat, gi[j]? = some (n : Int) ∧ n < v.length := fun j hj => by
          have hj' : j < gi.length := by omega
          have hx := HIN.out j _ (List.getElem?_eq_getElem hj')
          refine ⟨gi[j].toNat, ?_, by omega⟩
          rw [List.getElem?_eq_getElem hj', Int.toNat_of_nonneg hx.1]
        obtain ⟨n0, e0, l0⟩ := el 0 (by omega)
        obtain ⟨n1, e1, l1⟩ := el 1 (by omega)
        obtain ⟨n2, e2, l2⟩ := el 2 (by omega)
        obtain ⟨b', o', rfl, hbB, q0⟩ := hi.at_ (k := 0) (hb.mono hB) (by omega)
        obtain ⟨_, _, ee, _, q1⟩ := hi.at_ (k := 1) (hb.mono hB) (by omega)
        injection ee with ee; injection ee with ee1 ee2; subst ee1 ee2
        obtain ⟨_, _, ee, _, q2⟩ := hi.at_ (k := 2) (hb.mono hB) (by omega)
        injection ee with ee; injection ee with ee1 ee2; subst ee1 ee2
        obtain ⟨b2, o2, rfl, hbB2, r0⟩ := hv.at_ (hb.mono hB2) l0
        obtain ⟨_, _, ee, _, r1⟩ := hv.at_ (hb.mono hB2) l1
        injection ee with ee; injection ee with ee1 ee2; subst ee1 ee2
        obtain ⟨_, _, ee, _, r2⟩ := hv.at_ (hb.mono hB2) l2
        injection ee with ee; injection ee with ee1 ee2; subst ee1 ee2
        have f0 : gi[0] = (n0 : Int) := by rw [List.getElem?_eq_getElem (by omega)] at e0; injection e0
        have f1 : gi[1] = (n1 : Int) := by rw [List.getElem?_eq_getElem (by omega)] at e1; injection e1
        have f2 : gi[2] = (n2 : Int) := by rw [List.getElem?_eq_getElem (by omega)] at e2; injection e2
        rw [f0] at q0
        rw [f1] at q1
        rw [f2] at q2
        simp only [Nat.add_zero] at q0
        have hval : valueOf ⟨8, gl, gi⟩ s v = if v[n0] then v[n1] else v[n2] := by
          simp only [valueOf, pickVal, List.getD_eq_getElem?_getD, e0, e1, e2, Option.getD_some, Int.toNat_natCast, List.getElem?_eq_getElem l0, List.getElem?_eq_getElem l1, List.getElem?_eq_getElem l2]
          rfl
        rw [hval] at HR
        have h3' : 3 ≤ gi.length := by omega
        clear hval e0 e1 e2 f0 f1 f2 el h3
        generalize v[n0] = y0 at *
        generalize v[n1] = y1 at *
        generalize v[n2] = y2 at *
        cases y0
        all_goals
          cases y1
          all_goals
            cases y2
            all_goals
              go_wp2
              go_ret
              exact ⟨ret_bool (by rw [HR.out]; rfl), hb⟩
      · go_wp2
        go_ret
        exact ⟨ret_bool (by rw [HR.out]; simp [valueOf, k1, k2, k3, k4, k5, k6, k7, k8]), hb⟩
end Go.Proofs.Ytlifakbdgmdafaa
