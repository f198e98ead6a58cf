/-
  What tseitin's gate does: the kinds GateIf and GateIff, whose statements leave their order open.
-/
import Derived.Test.YtlifakbdgmdafaaWGate
namespace Go.Proofs.Ytlifakbdgmdafaa
open Go Go.RowKit

theorem Fr.drew {base ge : Nat} {a b : World} (h : Fr base ge a b) : Fr base ge a b.drew := ⟨h.os, h.tape, h.output, h.size, h.keep⟩
theorem Enc.drew {w : World} {Av : Nat → Prop} {base ge : Nat} {s : ES} (h : Enc w Av base ge s) : Enc w.drew Av base ge s := h.below (Below.refl _ _).drew

set_option maxRecDepth 100000 in
set_option maxHeartbeats 3200000 in
theorem gate_if (w : World) (Av : Nat → Prop) (hA : ∀ k, w.heap.size ≤ k → Av k) (base ge : Nat) (s : ES) (lt : Int) (IV : Value) (gi : Nat) (a b c : Int) (h : Enc w Av base ge s) (hL : s.L.length ≤ 300000) (hn0 : 0 ≤ s.n) (hn1 : s.n ≤ 128) (hin : Blk w gi 3 (intCells [a, b, c]))
    (hl2 : ∀ x ∈ ([a, b, c] : List Int), -1000000 ≤ x ∧ x ≤ 1000000) :
    Calls Try.prog 31 #[.pointer (some ⟨ge, 0, none⟩), .agg #[.int .i64 8, .int .i64 lt, IV], .slice (some ⟨gi, 0, none⟩) 3 3] w fun e w' => e = .returned (.int .i64 (s.gate 8 lt [a, b, c]).2) ∧ Enc w' Av base ge (s.gate 8 lt [a, b, c]).1 ∧ Fr base ge w w' := by
  have e : s.gate 8 lt [a, b, c] = (s.fresh.adds (choiceRows s.var a b c), s.var) := by unfold ES.gate; rw [if_neg (by decide), if_neg (by simp)]; simp [kindRows]
  rw [e]
  clear e
  have hv := s.var_n hn0 hn1
  have hfL := s.fresh_L
  obtain ⟨ha1, ha2⟩ := hl2 a (by simp)
  obtain ⟨hb1, hb2⟩ := hl2 b (by simp)
  obtain ⟨hc1, hc2⟩ := hl2 c (by simp)
  have H := Lib.hid h
  have hge := h.lt
  have hgi := hin.lt
  have hne : gi ≠ ge := by
    obtain ⟨_, _, _, h2, _⟩ := h
    exact hin.apart h2 (by decide)
  have hF : ∀ w', Fr base ge w w' → Blk w' gi 3 (intCells [a, b, c]) := fun w' hf => hf.blk hin hne (.inl (by decide))
  have HF := Lib.hid hF
  have HA := Lib.hid hA
  have kf := fun cs => fresh_step w Av base ge s cs h hn0 hn1
  generalize s.var = v at hv kf ⊢
  generalize s.fresh = s1 at hfL kf ⊢
  have hL1 : s1.L.length ≤ 300000 := by rw [hfL]; exact hL
  obtain ⟨hv1, hv2⟩ := hv
  have KF := Lib.hid kf
  clear kf hF hA h hin hfL hL hn0 hn1 hl2
  go_enter Try.func31, Try.ntmps31
  go_wp2_with fail
  refine (KF.out _).mono ?_
  rintro e w1 ⟨rfl, hE1, hF1, bg⟩
  have b1 := HF.out w1 hF1
  have g0 := bg.cell 0
  simp at g0
  have q0 := b1.cell 0
  have q1 := b1.cell 1
  have q2 := b1.cell 2
  simp [intCells] at q0 q1 q2
  have hs1 := hF1.size
  have hA1 : ∀ k, w1.heap.size ≤ k → Av k := fun k hk => HA.out k (by omega)
  have HA1 := Lib.hid hA1
  clear hA1
  have k := enc_choice w1.drew Av HA1.out base ge s1 v a b c hE1.drew (by omega) ⟨by omega, by omega⟩ ⟨ha1, ha2⟩ ⟨hb1, hb2⟩ ⟨hc1, hc2⟩
  have K := Lib.hid k
  clear k
  go_wp2_with fail
  go_region_held3 (fun w' => w'.cell? ⟨gi, 0, none⟩ = some (.int .i64 a) ∧ w'.cell? ⟨gi, 1, none⟩ = some (.int .i64 b) ∧ w'.cell? ⟨gi, 2, none⟩ = some (.int .i64 c)) (go_keep)
    (first | (go_at_call 61; refine K.out.mono ?_; rintro e w2 ⟨rfl, hE2, hF2⟩; have b2 := HF.out w2 (hF1.trans (Fr.trans (Fr.refl _ _ _).drew hF2)); have r0 := b2.cell 0; have r1 := b2.cell 1; have r2 := b2.cell 2; simp [intCells] at r0 r1 r2))
  go_wp2
  go_ret
  exact ⟨rfl, hE2, hF1.trans (Fr.trans (Fr.refl _ _ _).drew hF2)⟩

set_option maxRecDepth 100000 in
set_option maxHeartbeats 3200000 in
theorem gate_iff (w : World) (Av : Nat → Prop) (hA : ∀ k, w.heap.size ≤ k → Av k) (base ge : Nat) (s : ES) (lt : Int) (IV : Value) (gi : Nat) (a b : Int) (h : Enc w Av base ge s) (hL : s.L.length ≤ 300000) (hn0 : 0 ≤ s.n) (hn1 : s.n ≤ 128) (hin : Blk w gi 3 (intCells [a, b]))
    (hl2 : ∀ x ∈ ([a, b] : List Int), -1000000 ≤ x ∧ x ≤ 1000000) :
    Calls Try.prog 31 #[.pointer (some ⟨ge, 0, none⟩), .agg #[.int .i64 7, .int .i64 lt, IV], .slice (some ⟨gi, 0, none⟩) 2 2] w fun e w' => e = .returned (.int .i64 (s.gate 7 lt [a, b]).2) ∧ Enc w' Av base ge (s.gate 7 lt [a, b]).1 ∧ Fr base ge w w' := by
  have e : s.gate 7 lt [a, b] = (s.fresh.adds (iffRows s.var a b), s.var) := by unfold ES.gate; rw [if_neg (by decide), if_neg (by simp)]; simp [kindRows]
  rw [e]
  clear e
  have hv := s.var_n hn0 hn1
  have hfL := s.fresh_L
  obtain ⟨ha1, ha2⟩ := hl2 a (by simp)
  obtain ⟨hb1, hb2⟩ := hl2 b (by simp)
  have H := Lib.hid h
  have hge := h.lt
  have hgi := hin.lt
  have hne : gi ≠ ge := by
    obtain ⟨_, _, _, h2, _⟩ := h
    exact hin.apart h2 (by decide)
  have hF : ∀ w', Fr base ge w w' → Blk w' gi 3 (intCells [a, b]) := fun w' hf => hf.blk hin hne (.inl (by decide))
  have HF := Lib.hid hF
  have HA := Lib.hid hA
  have kf := fun cs => fresh_step w Av base ge s cs h hn0 hn1
  generalize s.var = v at hv kf ⊢
  generalize s.fresh = s1 at hfL kf ⊢
  have hL1 : s1.L.length ≤ 300000 := by rw [hfL]; exact hL
  obtain ⟨hv1, hv2⟩ := hv
  have KF := Lib.hid kf
  clear kf hF hA h hin hfL hL hn0 hn1 hl2
  go_enter Try.func31, Try.ntmps31
  go_wp2_with fail
  refine (KF.out _).mono ?_
  rintro e w1 ⟨rfl, hE1, hF1, bg⟩
  have b1 := HF.out w1 hF1
  have g0 := bg.cell 0
  simp at g0
  have q0 := b1.cell 0
  have q1 := b1.cell 1
  simp [intCells] at q0 q1
  have hs1 := hF1.size
  have hA1 : ∀ k, w1.heap.size ≤ k → Av k := fun k hk => HA.out k (by omega)
  have HA1 := Lib.hid hA1
  clear hA1
  have LEN2 : (s1.add [-v, -a, b]).L.length ≤ 1000000 := by have := ES.adds_len s1 [[-v, -a, b]]; simp only [ES.adds, List.length_cons, List.length_nil] at this; omega
  have LEN3 : ((s1.add [-v, -a, b]).add [-v, a, -b]).L.length ≤ 1000000 := by have := ES.adds_len s1 [[-v, -a, b], [-v, a, -b]]; simp only [ES.adds, List.length_cons, List.length_nil] at this; omega
  have LEN4 : (((s1.add [-v, -a, b]).add [-v, a, -b]).add [v, a, b]).L.length ≤ 1000000 := by have := ES.adds_len s1 [[-v, -a, b], [-v, a, -b], [v, a, b]]; simp only [ES.adds, List.length_cons, List.length_nil] at this; omega
  have k1 : Calls Try.prog 32 #[.pointer (some ⟨ge, 0, none⟩), .slice (some ⟨w1.heap.size, 0, none⟩) 3 3] ((w1.alloc (.cells #[.int .i64 (-v), .int .i64 (-a), .int .i64 (b)] 3)).drew) fun e w' => e = .returned (.tuple #[]) ∧ Enc w' Av base ge (s1.add [-v, -a, b]) ∧ Fr base ge w1.drew w' :=
    add_step w1.drew Av HA1.out base ge s1 [-v, -a, b] _ _ rfl rfl hE1.drew (by simp) (by omega)
  have K1 := Lib.hid k1
  clear k1
  go_wp2_with fail
  have wv := IntWalk.i64_in (-v) (by omega)
  have wa := IntWalk.i64_in (-a) (by omega)
  have wb := IntWalk.i64_in (-b) (by omega)
  go_region_held3 (fun w' => w'.cell? ⟨gi, 0, none⟩ = some (.int .i64 a) ∧ w'.cell? ⟨gi, 1, none⟩ = some (.int .i64 b)) (go_keep)
    (first | (go_at_call 32; refine K1.out.mono ?_; rintro e w2 ⟨rfl, hE2, hf2⟩; have hF2 := Fr.trans hF1 (Fr.trans (Fr.refl _ _ _).drew hf2); have b2 := HF.out w2 hF2; have r20 := b2.cell 0; have r21 := b2.cell 1; simp [intCells] at r20 r21))
  clear wv wa wb
  have hs2 := hF2.size
  have hA2 : ∀ k, w2.heap.size ≤ k → Av k := fun k hk => HA.out k (by omega)
  have HA2 := Lib.hid hA2
  clear hA2
  have k2 : Calls Try.prog 32 #[.pointer (some ⟨ge, 0, none⟩), .slice (some ⟨w2.heap.size, 0, none⟩) 3 3] ((w2.alloc (.cells #[.int .i64 (-v), .int .i64 (a), .int .i64 (-b)] 3)).drew) fun e w' => e = .returned (.tuple #[]) ∧ Enc w' Av base ge ((s1.adds [[-v, -a, b]]).add [-v, a, -b]) ∧ Fr base ge w2.drew w' :=
    add_step w2.drew Av HA2.out base ge (s1.adds [[-v, -a, b]]) [-v, a, -b] _ _ rfl rfl hE2.drew (by simp) (by exact LEN2)
  have K2 := Lib.hid k2
  clear k2
  go_wp2_with fail
  have wv := IntWalk.i64_in (-v) (by omega)
  have wa := IntWalk.i64_in (-a) (by omega)
  have wb := IntWalk.i64_in (-b) (by omega)
  go_region_held3 (fun w' => w'.cell? ⟨gi, 0, none⟩ = some (.int .i64 a) ∧ w'.cell? ⟨gi, 1, none⟩ = some (.int .i64 b)) (go_keep)
    (first | (go_at_call 32; refine K2.out.mono ?_; rintro e w3 ⟨rfl, hE3, hf3⟩; have hF3 := Fr.trans hF2 (Fr.trans (Fr.refl _ _ _).drew hf3); have b3 := HF.out w3 hF3; have r30 := b3.cell 0; have r31 := b3.cell 1; simp [intCells] at r30 r31))
  clear wv wa wb
  have hs3 := hF3.size
  have hA3 : ∀ k, w3.heap.size ≤ k → Av k := fun k hk => HA.out k (by omega)
  have HA3 := Lib.hid hA3
  clear hA3
  have k3 : Calls Try.prog 32 #[.pointer (some ⟨ge, 0, none⟩), .slice (some ⟨w3.heap.size, 0, none⟩) 3 3] ((w3.alloc (.cells #[.int .i64 (v), .int .i64 (a), .int .i64 (b)] 3)).drew) fun e w' => e = .returned (.tuple #[]) ∧ Enc w' Av base ge ((s1.adds [[-v, -a, b], [-v, a, -b]]).add [v, a, b]) ∧ Fr base ge w3.drew w' :=
    add_step w3.drew Av HA3.out base ge (s1.adds [[-v, -a, b], [-v, a, -b]]) [v, a, b] _ _ rfl rfl hE3.drew (by simp) (by exact LEN3)
  have K3 := Lib.hid k3
  clear k3
  go_wp2_with fail
  have wv := IntWalk.i64_in (-v) (by omega)
  have wa := IntWalk.i64_in (-a) (by omega)
  have wb := IntWalk.i64_in (-b) (by omega)
  go_region_held3 (fun w' => w'.cell? ⟨gi, 0, none⟩ = some (.int .i64 a) ∧ w'.cell? ⟨gi, 1, none⟩ = some (.int .i64 b)) (go_keep)
    (first | (go_at_call 32; refine K3.out.mono ?_; rintro e w4 ⟨rfl, hE4, hf4⟩; have hF4 := Fr.trans hF3 (Fr.trans (Fr.refl _ _ _).drew hf4); have b4 := HF.out w4 hF4; have r40 := b4.cell 0; have r41 := b4.cell 1; simp [intCells] at r40 r41))
  clear wv wa wb
  have hs4 := hF4.size
  have hA4 : ∀ k, w4.heap.size ≤ k → Av k := fun k hk => HA.out k (by omega)
  have HA4 := Lib.hid hA4
  clear hA4
  have k4 : Calls Try.prog 32 #[.pointer (some ⟨ge, 0, none⟩), .slice (some ⟨w4.heap.size, 0, none⟩) 3 3] ((w4.alloc (.cells #[.int .i64 (v), .int .i64 (-a), .int .i64 (-b)] 3)).drew) fun e w' => e = .returned (.tuple #[]) ∧ Enc w' Av base ge ((s1.adds [[-v, -a, b], [-v, a, -b], [v, a, b]]).add [v, -a, -b]) ∧ Fr base ge w4.drew w' :=
    add_step w4.drew Av HA4.out base ge (s1.adds [[-v, -a, b], [-v, a, -b], [v, a, b]]) [v, -a, -b] _ _ rfl rfl hE4.drew (by simp) (by exact LEN4)
  have K4 := Lib.hid k4
  clear k4
  go_wp2_with fail
  have wv := IntWalk.i64_in (-v) (by omega)
  have wa := IntWalk.i64_in (-a) (by omega)
  have wb := IntWalk.i64_in (-b) (by omega)
  go_region_held3 (fun w' => w'.cell? ⟨gi, 0, none⟩ = some (.int .i64 a) ∧ w'.cell? ⟨gi, 1, none⟩ = some (.int .i64 b)) (go_keep)
    (first | (go_at_call 32; refine K4.out.mono ?_; rintro e w5 ⟨rfl, hE5, hf5⟩; have hF5 := Fr.trans hF4 (Fr.trans (Fr.refl _ _ _).drew hf5); have b5 := HF.out w5 hF5; have r50 := b5.cell 0; have r51 := b5.cell 1; simp [intCells] at r50 r51))
  clear wv wa wb
  have hs5 := hF5.size
  have hA5 : ∀ k, w5.heap.size ≤ k → Av k := fun k hk => HA.out k (by omega)
  have HA5 := Lib.hid hA5
  clear hA5
  go_wp2
  go_ret
  exact ⟨rfl, hE5, hF5⟩
end Go.Proofs.Ytlifakbdgmdafaa
