/-
  What circ.value and circ.Eval compute.
-/
import Derived.Test.YtlifakbdgmdafaaWEval
import Derived.Test.YtlifakbdgmdafaaWSets3
namespace Go.Proofs.Ytlifakbdgmdafaa
open Go Go.RowKit

theorem made_one (v : Value) (n : Nat) : madeCells #[v] (n * 1) = (List.replicate n v).toArray := by
  unfold madeCells
  apply Array.ext
  · simp
  · intro i h1 h2
    simp [Nat.mod_one]
theorem info_bool : (Try.prog.info? 4).map (fun i => (i.zero, i.size, i.bytes)) = some (some (.bool false), 1, 1) := by kernel_rfl
theorem info_int : (Try.prog.info? 3).map (fun i => (i.zero, i.size, i.bytes)) = some (some (.int .i64 0), 1, 8) := by kernel_rfl
theorem mk_bools (n : Nat) (h : n ≤ 1099511627776) (w : World) : (Instr.makeSlice 61 (.int .i64 (n : Int)) (.int .i64 (n : Int))).run Try.prog w =
    .ok (.slice (some ⟨w.heap.size, 0, none⟩) n n) (w.alloc (.cells (boolCells (List.replicate n false)) 4)) := by
  obtain ⟨i, hi, hz, hs, hb⟩ := info_parts info_bool
  have := run_make (P := Try.prog) w 61 4 i _ Try.underlying61 hi hz .i64 .i64 n n (by omega) (by omega) (by rw [hb]; omega) (by omega)
  rw [this, hs, show Value.cells (.bool false) = #[.bool false] from rfl, Int.toNat_natCast, made_one]
  unfold boolCells
  rw [List.map_replicate]
def intCells (m : List Int) : Array Value := (m.map (Value.int .i64)).toArray
theorem mk_ints (n : Nat) (h : n ≤ 1099511627776) (w : World) : (Instr.makeSlice 30 (.int .i64 (n : Int)) (.int .i64 (n : Int))).run Try.prog w =
    .ok (.slice (some ⟨w.heap.size, 0, none⟩) n n) (w.alloc (.cells (intCells (List.replicate n 0)) 3)) := by
  obtain ⟨i, hi, hz, hs, hb⟩ := info_parts info_int
  have := run_make (P := Try.prog) w 30 3 i _ Try.underlying30 hi hz .i64 .i64 n n (by omega) (by omega) (by rw [hb]; omega) (by omega)
  rw [this, hs, show Value.cells (.int .i64 0) = #[.int .i64 0] from rfl, Int.toNat_natCast, made_one]
  unfold intCells
  rw [List.map_replicate]
theorem intCells_get (m : List Int) (i : Nat) (h : i < m.length) : (intCells m)[i]? = some (.int .i64 m[i]) := by
  unfold intCells; simp [h]
theorem intCells_set (m : List Int) (i : Nat) (b : Int) : (intCells m).setIfInBounds i (.int .i64 b) = intCells (m.set i b) := by
  unfold intCells; rw [List.setIfInBounds_toArray, List.map_set]
theorem intCells_V {w : World} {g : Nat} {m : List Int} (h : Blk w g 3 (intCells m)) (hm : m.length ≤ maxLen) : IntsV w w.heap.size (.slice (some ⟨g, 0, none⟩) m.length m.length) m := by
  refine ⟨_, _, rfl, Nat.le_refl _, hm, fun _ => ⟨g, 0, h.lt, rfl, fun i x hx => ?_⟩⟩
  obtain ⟨hi, rfl⟩ := List.getElem?_eq_some_iff.1 hx
  show w.cell? _ = _
  rw [show (0 + i * 1) = i from by omega, h.cell i, intCells_get m i hi]

theorem inVals_take (g : Gate) (v : List Bool) (k : Nat) (hk : k < g.inp.length) : (inVals g v).take (k + 1) = (inVals g v).take k ++ [v.getD g.inp[k].toNat false] := by
  unfold inVals
  rw [List.take_succ_eq_append_getElem (by simpa using hk)]
  simp

set_option maxRecDepth 100000 in
set_option maxHeartbeats 3200000 in
theorem circ_value (g : Gate) (IV : Value) (a b : BitVec 64) (VV : Value) (v : List Bool) (w : World) (B B2 : Nat) (hB : B ≤ w.heap.size) (hB2 : B2 ≤ w.heap.size) (hi : IntsV w B IV g.inp) (hv : BoolsV w B2 VV v)
    (hin : ∀ (i : Nat) (x : Int), g.inp[i]? = some x → 0 ≤ x ∧ x < v.length) (h8 : g.kind = 8 → g.inp.length = 3) :
    Calls Try.prog 52 #[.agg #[.int .i64 g.kind, .int .i64 g.lit, IV], (.agg #[.int .u64 ((a).toNat : Int), .int .u64 ((b).toNat : Int)]), VV] w fun e w' => e = .returned (.bool (valueOf g ⟨a, b⟩ v)) ∧ Below w.heap.size w w' := by
  obtain ⟨gk, gl, gi⟩ := g
  simp only at hi hin h8 ⊢
  obtain ⟨A, c, rfl, hlc, hcm, _⟩ := id hi
  obtain ⟨A2, c2, rfl, hlc2, hcm2, _⟩ := id hv
  unfold maxLen at hcm hcm2
  have HIN := Lib.hid hin
  have H8 := Lib.hid h8
  clear hin h8
  obtain ⟨r, hr⟩ : ∃ r, r = valueOf ⟨gk, gl, gi⟩ ⟨a, b⟩ v := ⟨_, rfl⟩
  rw [← hr]
  have HR := Lib.hid hr
  clear hr
  have hlen : (inVals ⟨gk, gl, gi⟩ v).length = gi.length := by simp [inVals]
  have HLEN := Lib.hid hlen
  clear hlen
  have KH := Lib.hid (lit_Holds a b gl)
  go_enter Try.func52, Try.ntmps52
  go_wp2
  go_loopw [7, 13] (fun o i wr => ∃ k : Nat, k ≤ gi.length ∧ i = .int .i64 k ∧ o = .int .i64 ((onesOf ((inVals ⟨gk, gl, gi⟩ v).take k) : Nat) : Int) ∧ Blk wr w.heap.size 44 #[.int .i64 gk, .int .i64 gl, .slice A gi.length c] ∧
      Blk wr (w.heap.size + 1) 38 #[.int .u64 (a.toNat : Int), .int .u64 (b.toNat : Int)] ∧ Below w.heap.size w wr) (fun _ i _ => gi.length - (intOf i).toNat)
  case atStart => exact ⟨0, by omega, rfl, by simp [onesOf_nil], (Blk.new _ _ _).alloc _, Blk.new_ (by simp), by go_grown⟩
  case round =>
    obtain ⟨k, hk, rfl, rfl, hb0, hb1, hb⟩ := hrel
    have c0 := hb0.cell 0
    have c1 := hb0.cell 1
    have c2 := hb0.cell 2
    have d0 := hb1.cell 0
    have d1 := hb1.cell 1
    simp at c0 c1 c2 d0 d1
    have lt0 := hb0.lt
    have lt1 := hb1.lt
    have hones : onesOf ((inVals ⟨gk, gl, gi⟩ v).take k) ≤ k := Nat.le_trans (onesOf_le _) (List.length_take_le _ _)
    by_cases hlt : k < gi.length
    · obtain ⟨b', o', rfl, hbB, hcell⟩ := hi.at_ (hb.mono hB) hlt
      have hx := HIN.out k _ (List.getElem?_eq_getElem hlt)
      have htk := inVals_take ⟨gk, gl, gi⟩ v k hlt
      simp only at htk
      generalize gi[k] = x at hcell hx htk
      obtain ⟨hx0, hx1⟩ := hx
      obtain ⟨n, rfl⟩ := Int.eq_ofNat_of_zero_le hx0
      have hn : n < v.length := by omega
      obtain ⟨b2, o2, rfl, hbB2, hcell2⟩ := hv.at_ (hb.mono hB2) hn
      rw [Int.toNat_natCast, List.getD_eq_getElem?_getD, List.getElem?_eq_getElem hn, Option.getD_some] at htk
      generalize v[n] = y at hcell2 htk
      have hon := onesOf_snoc ((inVals ⟨gk, gl, gi⟩ v).take k) y
      rw [← htk] at hon
      have HON := Lib.hid hon
      clear hon htk
      cases y
      all_goals
        go_wp2
        go_roundw
        case rel => exact ⟨k + 1, by omega, by go_num, by rw [HON.out]; simp, hb0, hb1, hb⟩
        case measure => simp [intOf]; omega
    · have e : k = gi.length := by omega
      subst e
      have ht : (inVals ⟨gk, gl, gi⟩ v).take gi.length = inVals ⟨gk, gl, gi⟩ v := List.take_of_length_le (by rw [HLEN.out]; exact Nat.le_refl _)
      rw [ht] at hones ⊢
      clear ht
      generalize hon : onesOf (inVals ⟨gk, gl, gi⟩ v) = on at hones ⊢
      have HON := Lib.hid hon
      clear hon
      by_cases k1 : gk = 1
      · subst k1
        go_wp2
        go_ret
        exact ⟨ret_bool (by rw [HR.out]; simp [valueOf]), hb⟩
      by_cases k2 : gk = 2
      · subst k2
        go_wp2_with (go_at_call 73; refine (KH.out _).mono ?_; rintro e w' ⟨rfl, hbb⟩)
        go_ret
        exact ⟨ret_bool (by rw [HR.out]; simp [valueOf]), hb.trans (hbb.mono hb.size)⟩
      by_cases k3 : gk = 3
      · subst k3
        go_wp2
        go_ret
        exact ⟨ret_bool (by rw [HR.out]; simp [valueOf, HON.out] <;> (rw [Bool.eq_iff_iff]; simp <;> omega)), hb⟩
      by_cases k4 : gk = 4
      · subst k4
        go_wp2
        go_ret
        exact ⟨ret_bool (by rw [HR.out]; simp [valueOf, HON.out] <;> (rw [Bool.eq_iff_iff]; simp <;> omega)), hb⟩
      by_cases k5 : gk = 5
      · subst k5
        go_wp2
        go_ret
        exact ⟨ret_bool (by rw [HR.out]; simp [valueOf, HON.out] <;> (rw [Bool.eq_iff_iff]; simp <;> omega)), hb⟩
      by_cases k6 : gk = 6
      · subst k6
        go_wp2
        go_ret
        exact ⟨ret_bool (by rw [HR.out]; simp [valueOf, HON.out] <;> (rw [Bool.eq_iff_iff]; simp <;> omega)), hb⟩
      by_cases k7 : gk = 7
      · subst k7
        go_wp2
        go_ret
        exact ⟨ret_bool (by rw [HR.out]; simp [valueOf, HON.out] <;> (rw [Bool.eq_iff_iff]; simp <;> omega)), hb⟩
      by_cases k8 : gk = 8
      · subst k8
        have h3 : gi.length = 3 := H8.out rfl
        have el : ∀ j : Nat, j < 3 → ∃ n : Nat, gi[j]? = some (n : Int) ∧ n < v.length := fun j hj => by
          have hj' : j < gi.length := by omega
          have hx := HIN.out j _ (List.getElem?_eq_getElem hj')
          refine ⟨gi[j].toNat, ?_, by omega⟩
          rw [List.getElem?_eq_getElem hj', Int.toNat_of_nonneg hx.1]
        obtain ⟨n0, e0, l0⟩ := el 0 (by omega)
        obtain ⟨n1, e1, l1⟩ := el 1 (by omega)
        obtain ⟨n2, e2, l2⟩ := el 2 (by omega)
        obtain ⟨b', o', rfl, hbB, q0⟩ := hi.at_ (k := 0) (hb.mono hB) (by omega)
        obtain ⟨_, _, ee, _, q1⟩ := hi.at_ (k := 1) (hb.mono hB) (by omega)
        injection ee with ee; injection ee with ee1 ee2; subst ee1 ee2
        obtain ⟨_, _, ee, _, q2⟩ := hi.at_ (k := 2) (hb.mono hB) (by omega)
        injection ee with ee; injection ee with ee1 ee2; subst ee1 ee2
        obtain ⟨b2, o2, rfl, hbB2, r0⟩ := hv.at_ (hb.mono hB2) l0
        obtain ⟨_, _, ee, _, r1⟩ := hv.at_ (hb.mono hB2) l1
        injection ee with ee; injection ee with ee1 ee2; subst ee1 ee2
        obtain ⟨_, _, ee, _, r2⟩ := hv.at_ (hb.mono hB2) l2
        injection ee with ee; injection ee with ee1 ee2; subst ee1 ee2
        have f0 : gi[0] = (n0 : Int) := by rw [List.getElem?_eq_getElem (by omega)] at e0; injection e0
        have f1 : gi[1] = (n1 : Int) := by rw [List.getElem?_eq_getElem (by omega)] at e1; injection e1
        have f2 : gi[2] = (n2 : Int) := by rw [List.getElem?_eq_getElem (by omega)] at e2; injection e2
        rw [f0] at q0
        rw [f1] at q1
        rw [f2] at q2
        simp only [Nat.add_zero] at q0
        have hval : valueOf ⟨8, gl, gi⟩ ⟨a, b⟩ v = if v[n0] then v[n1] else v[n2] := by
          simp only [valueOf, pickVal, List.getD_eq_getElem?_getD, e0, e1, e2, Option.getD_some, Int.toNat_natCast, List.getElem?_eq_getElem l0, List.getElem?_eq_getElem l1, List.getElem?_eq_getElem l2]
          rfl
        rw [hval] at HR
        have h3' : 3 ≤ gi.length := by omega
        clear hval e0 e1 e2 f0 f1 f2 el h3
        generalize v[n0] = y0 at *
        generalize v[n1] = y1 at *
        generalize v[n2] = y2 at *
        cases y0
        all_goals
          go_wp2
          go_ret
          exact ⟨ret_bool (by rw [HR.out]; rfl), hb⟩
      · go_wp2
        go_ret
        exact ⟨ret_bool (by rw [HR.out]; simp [valueOf, k1, k2, k3, k4, k5, k6, k7, k8]), hb⟩

set_option maxRecDepth 100000 in
set_option maxHeartbeats 3200000 in
theorem circ_eval (N : Int) (V : Value) (gs : List Gate) (a b : BitVec 64) (w : World) (B : Nat) (hB : B ≤ w.heap.size) (hg : GatesV w B V gs) (hs : sizeOf gs ≤ 4611686018427387904) (hN : -9223372036854775808 ≤ N) (hN' : N ≤ 9223372036854775807) :
    Calls Try.prog 26 #[.agg #[.int .i64 N, V], (.agg #[.int .u64 ((a).toNat : Int), .int .u64 ((b).toNat : Int)])] w fun e w' => e = .returned (.bool (evalOf N gs ⟨a, b⟩)) ∧ Below w.heap.size w w' := by
  obtain ⟨A, c, rfl, hlc, hcm, _⟩ := id hg
  unfold maxLen at hcm
  obtain ⟨r, hr⟩ : ∃ r, r = evalOf N gs ⟨a, b⟩ := ⟨_, rfl⟩
  rw [← hr]
  have HR := Lib.hid hr
  clear hr
  have k1 : ∀ W, Below w.heap.size w W → Calls Try.prog 30 #[.agg #[.int .i64 N, .slice A gs.length c]] W fun e w' => e = .returned (.int .i64 (checkOf N gs)) ∧ Below W.heap.size W w' :=
    fun W hW => circ_check N _ gs W B (Nat.le_trans hB hW.size) (hg.below (hW.mono hB)) hs
  obtain ⟨ck, hck⟩ : ∃ ck, ck = checkOf N gs := ⟨_, rfl⟩
  rw [← hck] at k1
  have HCK := Lib.hid hck
  have K1 := Lib.hid k1
  clear hck k1
  have K2 := Lib.hid (fun W => vars_all N W hN' hN)
  have k3 : ∀ W, Calls Try.prog 51 #[(.agg #[.int .u64 ((a).toNat : Int), .int .u64 ((b).toNat : Int)]), (.agg #[.int .u64 ((VS.all N).a.toNat : Int), .int .u64 ((VS.all N).b.toNat : Int)])] W fun e w' => e = .returned (.bool (VS.sub ⟨a, b⟩ (VS.all N))) ∧ Below W.heap.size W w' := fun W => vars_sub a b _ _ W
  obtain ⟨sb, hsb⟩ : ∃ sb, sb = VS.sub ⟨a, b⟩ (VS.all N) := ⟨_, rfl⟩
  rw [← hsb] at k3
  have HSB := Lib.hid hsb
  have K3 := Lib.hid k3
  clear hsb k3
  by_cases h0 : ck = 0
  · subst h0
    go_enter Try.func26, Try.ntmps26
    go_wp2
    have blk0 : Blk ((w.alloc (.cells #[.int .i64 N, .slice A gs.length c] 24)).alloc (.cells #[.int .u64 (a.toNat : Int), .int .u64 (b.toNat : Int)] 38)) w.heap.size 24 #[.int .i64 N, .slice A gs.length c] := (Blk.new w _ _).alloc _
    have blk1 : Blk ((w.alloc (.cells #[.int .i64 N, .slice A gs.length c] 24)).alloc (.cells #[.int .u64 (a.toNat : Int), .int .u64 (b.toNat : Int)] 38)) (w.heap.size + 1) 38 #[.int .u64 (a.toNat : Int), .int .u64 (b.toNat : Int)] := Blk.new_ (by simp)
    have hw : Below w.heap.size w ((w.alloc (.cells #[.int .i64 N, .slice A gs.length c] 24)).alloc (.cells #[.int .u64 (a.toNat : Int), .int .u64 (b.toNat : Int)] 38)) := by go_grown
    generalize (w.alloc (.cells #[.int .i64 N, .slice A gs.length c] 24)).alloc (.cells #[.int .u64 (a.toNat : Int), .int .u64 (b.toNat : Int)] 38) = w1 at *
    have C0 := blk0.later 0 _ rfl
    have C1 := blk0.later 1 _ rfl
    have D0 := blk1.later 0 _ rfl
    have D1 := blk1.later 1 _ rfl
    have hb0 : Below w1.heap.size w1 w1.drew := (Below.refl _ _).drew
    have k1' : ∀ W, Below w1.heap.size w1 W → Calls Try.prog 30 #[.agg #[.int .i64 N, .slice A gs.length c]] W fun e w' => e = .returned (.int .i64 0) ∧ Below w1.heap.size w1 w' :=
      fun W hW => kept (K1.out W (hw.trans (hW.mono hw.size))) hW
    have K1' := Lib.hid k1'
    clear k1' K1
    go_region_held3 (fun w' => w'.cell? ⟨w.heap.size, 0, none⟩ = some (.int .i64 N) ∧ w'.cell? ⟨w.heap.size, 1, none⟩ = some (.slice A gs.length c) ∧ w'.cell? ⟨w.heap.size + 1, 0, none⟩ = some (.int .u64 (a.toNat : Int)) ∧ w'.cell? ⟨w.heap.size + 1, 1, none⟩ = some (.int .u64 (b.toNat : Int)) ∧ Below w1.heap.size w1 w') (go_keep)
      (first | (go_at_call 30; refine (K1'.out _ (by simp [*])).mono ?_; rintro e w' ⟨rfl, hB'⟩) | (go_at_call 41; refine (kept (w1 := w1) (K2.out _) (by simp [*])).mono ?_; rintro e w' ⟨rfl, hB'⟩) | (go_at_call 51; refine (kept (w1 := w1) (K3.out _) (by simp [*])).mono ?_; rintro e w' ⟨rfl, hB'⟩))
    cases sb
    · go_wp2
      go_ret
      exact ⟨ret_bool (by rw [HR.out]; unfold evalOf; rw [← HSB.out]; simp), hw.trans (hB'.mono hw.size)⟩
    · have b0 := blk0.keep hB'
      have b1 := blk1.keep hB'
      have hB2 := hw.trans (hB'.mono hw.size)
      have hlen : gs.length ≤ 4096 := (check_bounds HCK.out.symm).2.2.2.1
      have hpos : 0 < gs.length := (check_bounds HCK.out.symm).2.2.1
      have hmk := mk_bools gs.length (by omega)
      have s0 := C0 _ hB'
      have s1 := C1 _ hB'
      have s2 := D0 _ hB'
      have s3 := D1 _ hB'
      clear C0 C1 D0 D1 hb0 blk0 blk1
      generalize w' = w2 at *
      have l0 := b0.lt
      have l1 := b1.lt
      go_wp2
      go_loopw [26] (fun i wr => ∃ (k : Nat) (m : List Bool), k ≤ gs.length ∧ i = .int .i64 k ∧ Blk wr w.heap.size 24 #[.int .i64 N, .slice A gs.length c] ∧ Blk wr (w.heap.size + 1) 38 #[.int .u64 (a.toNat : Int), .int .u64 (b.toNat : Int)] ∧
          Blk wr w2.heap.size 4 (boolCells m) ∧ m.length = gs.length ∧ m.take k = valsTo gs ⟨a, b⟩ k ∧ Below w.heap.size w wr) (fun i _ => gs.length - (intOf i).toNat)
      case atStart =>
        exact ⟨0, List.replicate gs.length false, by omega, rfl, b0.alloc _, b1.alloc _, Blk.new _ _ _, by simp, by simp [valsTo], hB2.alloc (by omega) _⟩
      case round =>
        obtain ⟨k, m, hk, rfl, hb0, hb1, hbm, hm, hmk', hb⟩ := hrel
        have HM := Lib.hid hm
        have hm1 : m.length ≤ gs.length := by omega
        have hm2 : gs.length ≤ m.length := by omega
        have HK := Lib.hid hmk'
        clear hm hmk' s0 s1 s2 s3 b0 b1 hB'
        have d0 := hb1.cell 0
        have d1 := hb1.cell 1
        simp at d0 d1
        have lt0 := hb0.lt
        have lt1 := hb1.lt
        have ltm := hbm.lt
        by_cases hlt : k < gs.length
        · have hgood := check_gate HCK.out.symm k hlt
          obtain ⟨bb, oo, A', c', rfl, hbB, h0, h1, h2, hI, hnc, hcm'⟩ := hg.at_ (hb.mono hB) hlt
          have hbl : bb < wr.heap.size := by have := hb.size; omega
          have hV := boolCells_V hbm (by unfold maxLen; omega)
          have hsucc := valsTo_succ gs ⟨a, b⟩ k hlt
          have hval := valueOf_take ⟨a, b⟩ m k (good_in' hgood) (good_len hgood).2.2.2.1
          rw [HK.out] at hval
          have kv : ∀ W, Below wr.heap.size wr W → Calls Try.prog 52 #[.agg #[.int .i64 gs[k].kind, .int .i64 gs[k].lit, .slice A' gs[k].inp.length c'], (.agg #[.int .u64 ((a).toNat : Int), .int .u64 ((b).toNat : Int)]), .slice (some ⟨w2.heap.size, 0, none⟩) gs.length gs.length] W fun e w' => e = .returned (.bool (valueOf gs[k] ⟨a, b⟩ m)) ∧ Below W.heap.size W w' :=
            fun W hW => circ_value gs[k] _ a b _ m W B wr.heap.size (by have := hb.size; have := hW.size; omega) hW.size (hI.below (hW.mono (by have := hb.size; omega))) (by rw [HM.out] at hV; exact hV.below hW)
              (fun j x hx => by have := good_in' hgood j x hx; omega) (good_len hgood).2.2.2.1
          rw [hval] at kv
          generalize valueOf gs[k] ⟨a, b⟩ (valsTo gs ⟨a, b⟩ k) = y at kv hsucc
          generalize gs[k] = g at h0 h1 h2 kv
          have KV := Lib.hid kv
          have HSU := Lib.hid hsucc
          clear kv hsucc hval hgood hI hV
          have hkm : k < m.length := by omega
          have cx := hbm.cell k
          have fx := hbm.free k
          rw [boolCells_get m k hkm] at cx
          go_wp2_with (go_at_call 52; refine (KV.out _ (by go_grown)).mono ?_; rintro e w' ⟨rfl, hbb⟩; obtain ⟨hc, hf⟩ := bcell hbb; have hsz := hbb.size)
          go_roundw
          case rel =>
            have hbb' : Below wr.heap.size wr w' := Below.trans (by go_grown) (hbb.mono (by simp))
            refine ⟨_, _, _, _, _, _, _, _, _, _, _, _, _, _, _, ⟨k + 1, m.set k y, by omega, by go_num, (hb0.keep hbb').far (by simp <;> omega) _, (hb1.keep hbb').far (by simp <;> omega) _, by rw [← boolCells_set]; exact (hbm.keep hbb').put _ _, by simp; exact HM.out, ?_, (hb.trans (hbb'.mono hb.size)).setCell (by simp <;> omega) _⟩, rfl⟩
            rw [HSU.out, ← HK.out, List.take_succ_eq_append_getElem (by simp; omega), List.take_set_of_le (Nat.le_refl _)]
            simp
          case measure => simp [intOf]; omega
        · have e : k = gs.length := by omega
          subst e
          have hkm : gs.length - 1 < m.length := by omega
          have cx := hbm.cell (gs.length - 1)
          rw [boolCells_get m _ hkm] at cx
          have hres : r = m[gs.length - 1] := by
            rw [HR.out]
            unfold evalOf valOf
            rw [← HCK.out, ← HSB.out, ← HK.out, List.take_of_length_le (by omega), List.getD_eq_getElem?_getD, List.getElem?_eq_getElem hkm]
            simp
          have HRES := Lib.hid hres
          clear hres
          generalize m[gs.length - 1] = y at cx HRES
          have hix : ((gs.length : Int) - 1).toNat = gs.length - 1 := by omega
          go_wp2
          go_ret
          exact ⟨ret_bool HRES.out.symm, hb⟩
  · have HF := Lib.hid (evalOf_bad ⟨a, b⟩ (by rw [← HCK.out]; exact h0))
    have hc := checkOf_cases N gs
    rw [← HCK.out] at hc
    clear HCK
    rcases hc with hc | hc | hc | hc
    · exact absurd hc h0
    all_goals
      subst hc
      clear h0
      go_enter Try.func26, Try.ntmps26
      go_wp2
      first | go_region_with (go_at_call 30; refine (K1.out _ (by go_grown)).mono ?_; rintro e w' ⟨rfl, hB'⟩) | fail
      all_goals
        go_wp2
        go_ret
        exact ⟨ret_bool (by rw [HR.out, HF.out]), Below.trans (by go_grown) (hB'.mono (by simp <;> omega))⟩
end Go.Proofs.Ytlifakbdgmdafaa
