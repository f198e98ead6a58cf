/-
  What tseitin's gate does, kind by kind.
-/
import Derived.Test.YtlifakbdgmdafaaWEnc4
namespace Go.Proofs.Ytlifakbdgmdafaa
open Go Go.RowKit

def iffRows (g a b : Int) : List (List Int) := [[-g, -a, b], [-g, a, -b], [g, a, b], [g, -a, -b]]
/-- The clauses of a gate other than a literal, or an exclusive or of two inputs or more; v its variable. -/
def kindRows (kind v : Int) (l : List Int) : List (List Int) :=
  if kind = 1 then [[v]] else if kind = 3 then [[-v, -l.getD 0 0], [v, l.getD 0 0]] else if kind = 4 then andRows 1 v l else if kind = 5 then andRows (-1) v l
  else if kind = 7 then iffRows v (l.getD 0 0) (l.getD 1 0) else if kind = 8 then choiceRows v (l.getD 0 0) (l.getD 1 0) (l.getD 2 0)
  else if kind = 6 ∧ l.length = 1 then [[-v, l.getD 0 0], [v, -l.getD 0 0]] else [[-v]]
def ES.gate (s : ES) (kind lit : Int) (l : List Int) : ES × Int :=
  if kind = 2 then (s, lit) else if kind = 6 ∧ 1 < l.length then s.xorGo (l.getD 0 0) l.tail else (s.fresh.adds (kindRows kind s.var l), s.var)

theorem gate_lit (w : World) (Av : Nat → Prop) (base ge : Nat) (s : ES) (lt : Int) (IV : Value) (gi : Nat) (l : List Int) (h : Enc w Av base ge s) :
    Calls Try.prog 31 #[.pointer (some ⟨ge, 0, none⟩), .agg #[.int .i64 2, .int .i64 lt, IV], .slice (some ⟨gi, 0, none⟩) l.length l.length] w fun e w' => e = .returned (.int .i64 (s.gate 2 lt l).2) ∧ Enc w' Av base ge (s.gate 2 lt l).1 ∧ Fr base ge w w' := by
  have e : s.gate 2 lt l = (s, lt) := by unfold ES.gate; rw [if_pos rfl]
  rw [e]
  clear e
  have H := Lib.hid h
  have hge := h.lt
  clear h
  go_enter Try.func31, Try.ntmps31
  go_wp2
  go_ret
  exact ⟨rfl, H.out.below (by go_grown), Fr.of_below (by go_grown)⟩

set_option maxRecDepth 100000 in
set_option maxHeartbeats 3200000 in
theorem gate_xor (w : World) (Av : Nat → Prop) (hA : ∀ k, w.heap.size ≤ k → Av k) (base ge : Nat) (s : ES) (lt : Int) (IV : Value) (gi : Nat) (l0 : Int) (r : List Int) (h : Enc w Av base ge s) (hL : s.L.length ≤ 300000) (hn0 : 0 ≤ s.n) (hn1 : s.n ≤ 128) (hin : Blk w gi 3 (intCells (l0 :: r))) (hl : r.length ≤ 90000)
    (hl2 : ∀ x ∈ l0 :: r, -1000000 ≤ x ∧ x ≤ 1000000) (hr0 : 0 < r.length) :
    Calls Try.prog 31 #[.pointer (some ⟨ge, 0, none⟩), .agg #[.int .i64 6, .int .i64 lt, IV], .slice (some ⟨gi, 0, none⟩) (r.length + 1) (r.length + 1)] w fun e w' => e = .returned (.int .i64 (s.gate 6 lt (l0 :: r)).2) ∧ Enc w' Av base ge (s.gate 6 lt (l0 :: r)).1 ∧ Fr base ge w w' := by
  have e : s.gate 6 lt (l0 :: r) = s.xorGo l0 r := by unfold ES.gate; rw [if_neg (by decide), if_pos ⟨rfl, by simp; omega⟩]; rfl
  rw [e]
  have hb : Below w.heap.size w (w.alloc (.cells #[.int .i64 6, .int .i64 lt, IV] 44)) := by go_grown
  have k := (enc_xor (w.alloc (.cells #[.int .i64 6, .int .i64 lt, IV] 44)) Av (fun k hk => hA k (Nat.le_trans hb.size hk)) base ge s gi l0 r (h.below hb) (by omega) hn0 hn1 (hin.keep hb) hr0 (by omega) hl2).mono
    (R' := fun e w' => e = .returned (.int .i64 (s.xorGo l0 r).2) ∧ Enc w' Av base ge (s.xorGo l0 r).1 ∧ Fr base ge w w') (fun e w' ⟨h1, h2, h3⟩ => ⟨h1, h2, (Fr.of_below hb).trans h3⟩)
  generalize s.xorGo l0 r = post at k ⊢
  have K := Lib.hid k
  have hr1 : 1 < r.length + 1 := by omega
  clear e hA hl2 h hin hb k hn0 hn1
  go_enter Try.func31, Try.ntmps31
  go_wp2_with fail
  refine K.out.mono ?_
  rintro e w1 ⟨rfl, hE1, hF1⟩
  go_wp2
  go_ret
  exact ⟨rfl, hE1, hF1⟩

/-- The kinds that have a variable of their own: what is known behind 'v := x.fresh()'. -/
theorem fresh_step (w : World) (Av : Nat → Prop) (base ge : Nat) (s : ES) (cs : Array Value) (h : Enc w Av base ge s) (hn0 : 0 ≤ s.n) (hn1 : s.n ≤ 128) :
    Calls Try.prog 59 #[.pointer (some ⟨ge, 0, none⟩)] (w.alloc (.cells cs 44)) fun e w' => e = .returned (.int .i64 s.var) ∧ Enc w' Av base ge s.fresh ∧ Fr base ge w w' ∧ Blk w' w.heap.size 44 cs := by
  have hb : Below w.heap.size w (w.alloc (.cells cs 44)) := by go_grown
  have hk : Blk (w.alloc (.cells cs 44)) w.heap.size 44 cs := Blk.new _ _ _
  have hge := h.lt
  exact (enc_fresh _ Av base ge s (h.below hb) hn0 hn1).mono fun e w' ⟨h1, h2, h3⟩ => ⟨h1, h2, (Fr.of_below hb).trans h3, h3.blk hk (by omega) (.inl (by decide))⟩

set_option maxRecDepth 100000 in
set_option maxHeartbeats 3200000 in
theorem gate_true (w : World) (Av : Nat → Prop) (hA : ∀ k, w.heap.size ≤ k → Av k) (base ge : Nat) (s : ES) (lt : Int) (IV : Value) (gi : Nat)  (h : Enc w Av base ge s) (hL : s.L.length ≤ 300000) (hn0 : 0 ≤ s.n) (hn1 : s.n ≤ 128) (hin : Blk w gi 3 (intCells [])) :
    Calls Try.prog 31 #[.pointer (some ⟨ge, 0, none⟩), .agg #[.int .i64 1, .int .i64 lt, IV], .slice (some ⟨gi, 0, none⟩) 0 0] w fun e w' => e = .returned (.int .i64 (s.gate 1 lt []).2) ∧ Enc w' Av base ge (s.gate 1 lt []).1 ∧ Fr base ge w w' := by
  have e : s.gate 1 lt [] = (s.fresh.adds ([[s.var]]), s.var) := by unfold ES.gate; rw [if_neg (by decide), if_neg (by simp)]; simp [kindRows]
  rw [e]
  clear e
  have hv := s.var_n hn0 hn1
  have hfL := s.fresh_L
  have H := Lib.hid h
  have hge := h.lt
  have hgi := hin.lt
  have hne : gi ≠ ge := by
    obtain ⟨_, _, _, h2, _⟩ := h
    exact hin.apart h2 (by decide)
  have hF : ∀ w', Fr base ge w w' → Blk w' gi 3 (intCells []) := fun w' hf => hf.blk hin hne (.inl (by decide))
  have HF := Lib.hid hF
  have HA := Lib.hid hA
  have kf := fun cs => fresh_step w Av base ge s cs h hn0 hn1
  generalize s.var = v at hv kf ⊢
  generalize s.fresh = s1 at hfL kf ⊢
  have hL1 : s1.L.length ≤ 300000 := by rw [hfL]; exact hL
  obtain ⟨hv1, hv2⟩ := hv
  have KF := Lib.hid kf
  clear kf hF hA h hin hfL hL hn0 hn1
  go_enter Try.func31, Try.ntmps31
  go_wp2_with fail
  refine (KF.out _).mono ?_
  rintro e w1 ⟨rfl, hE1, hF1, bg⟩
  have b1 := HF.out w1 hF1
  have g0 := bg.cell 0
  simp at g0
  have hs1 := hF1.size
  have hA1 : ∀ k, w1.heap.size ≤ k → Av k := fun k hk => HA.out k (by omega)
  have HA1 := Lib.hid hA1
  clear hA1
  go_wp2_with fail
  refine (add_step _ Av HA1.out base ge _ [v] _ _ rfl rfl hE1 (by simp) (by omega)).mono ?_
  rintro e w2 ⟨rfl, hE2, hF2⟩
  have hs2 := hF2.size
  have hA2 : ∀ k, w2.heap.size ≤ k → Av k := fun k hk => HA1.out k (by omega)
  have HA2 := Lib.hid hA2
  clear hA2
  go_wp2
  go_ret
  exact ⟨rfl, hE2, hF1.trans hF2⟩

set_option maxRecDepth 100000 in
set_option maxHeartbeats 3200000 in
theorem gate_false (w : World) (Av : Nat → Prop) (hA : ∀ k, w.heap.size ≤ k → Av k) (base ge : Nat) (s : ES) (lt : Int) (IV : Value) (gi : Nat)  (h : Enc w Av base ge s) (hL : s.L.length ≤ 300000) (hn0 : 0 ≤ s.n) (hn1 : s.n ≤ 128) (hin : Blk w gi 3 (intCells [])) :
    Calls Try.prog 31 #[.pointer (some ⟨ge, 0, none⟩), .agg #[.int .i64 0, .int .i64 lt, IV], .slice (some ⟨gi, 0, none⟩) 0 0] w fun e w' => e = .returned (.int .i64 (s.gate 0 lt []).2) ∧ Enc w' Av base ge (s.gate 0 lt []).1 ∧ Fr base ge w w' := by
  have e : s.gate 0 lt [] = (s.fresh.adds ([[-s.var]]), s.var) := by unfold ES.gate; rw [if_neg (by decide), if_neg (by simp)]; simp [kindRows]
  rw [e]
  clear e
  have hv := s.var_n hn0 hn1
  have hfL := s.fresh_L
  have H := Lib.hid h
  have hge := h.lt
  have hgi := hin.lt
  have hne : gi ≠ ge := by
    obtain ⟨_, _, _, h2, _⟩ := h
    exact hin.apart h2 (by decide)
  have hF : ∀ w', Fr base ge w w' → Blk w' gi 3 (intCells []) := fun w' hf => hf.blk hin hne (.inl (by decide))
  have HF := Lib.hid hF
  have HA := Lib.hid hA
  have kf := fun cs => fresh_step w Av base ge s cs h hn0 hn1
  generalize s.var = v at hv kf ⊢
  generalize s.fresh = s1 at hfL kf ⊢
  have hL1 : s1.L.length ≤ 300000 := by rw [hfL]; exact hL
  obtain ⟨hv1, hv2⟩ := hv
  have KF := Lib.hid kf
  clear kf hF hA h hin hfL hL hn0 hn1
  go_enter Try.func31, Try.ntmps31
  go_wp2_with fail
  refine (KF.out _).mono ?_
  rintro e w1 ⟨rfl, hE1, hF1, bg⟩
  have b1 := HF.out w1 hF1
  have g0 := bg.cell 0
  simp at g0
  have hs1 := hF1.size
  have hA1 : ∀ k, w1.heap.size ≤ k → Av k := fun k hk => HA.out k (by omega)
  have HA1 := Lib.hid hA1
  clear hA1
  go_wp2_with fail
  refine (add_step _ Av HA1.out base ge _ [-v] _ _ rfl rfl hE1 (by simp) (by omega)).mono ?_
  rintro e w2 ⟨rfl, hE2, hF2⟩
  have hs2 := hF2.size
  have hA2 : ∀ k, w2.heap.size ≤ k → Av k := fun k hk => HA1.out k (by omega)
  have HA2 := Lib.hid hA2
  clear hA2
  go_wp2
  go_ret
  exact ⟨rfl, hE2, hF1.trans hF2⟩

set_option maxRecDepth 100000 in
set_option maxHeartbeats 3200000 in
theorem gate_none (w : World) (Av : Nat → Prop) (hA : ∀ k, w.heap.size ≤ k → Av k) (base ge : Nat) (s : ES) (lt : Int) (IV : Value) (gi : Nat)  (h : Enc w Av base ge s) (hL : s.L.length ≤ 300000) (hn0 : 0 ≤ s.n) (hn1 : s.n ≤ 128) (hin : Blk w gi 3 (intCells [])) :
    Calls Try.prog 31 #[.pointer (some ⟨ge, 0, none⟩), .agg #[.int .i64 6, .int .i64 lt, IV], .slice (some ⟨gi, 0, none⟩) 0 0] w fun e w' => e = .returned (.int .i64 (s.gate 6 lt []).2) ∧ Enc w' Av base ge (s.gate 6 lt []).1 ∧ Fr base ge w w' := by
  have e : s.gate 6 lt [] = (s.fresh.adds ([[-s.var]]), s.var) := by unfold ES.gate; rw [if_neg (by decide), if_neg (by simp)]; simp [kindRows]
  rw [e]
  clear e
  have hv := s.var_n hn0 hn1
  have hfL := s.fresh_L
  have H := Lib.hid h
  have hge := h.lt
  have hgi := hin.lt
  have hne : gi ≠ ge := by
    obtain ⟨_, _, _, h2, _⟩ := h
    exact hin.apart h2 (by decide)
  have hF : ∀ w', Fr base ge w w' → Blk w' gi 3 (intCells []) := fun w' hf => hf.blk hin hne (.inl (by decide))
  have HF := Lib.hid hF
  have HA := Lib.hid hA
  have kf := fun cs => fresh_step w Av base ge s cs h hn0 hn1
  generalize s.var = v at hv kf ⊢
  generalize s.fresh = s1 at hfL kf ⊢
  have hL1 : s1.L.length ≤ 300000 := by rw [hfL]; exact hL
  obtain ⟨hv1, hv2⟩ := hv
  have KF := Lib.hid kf
  clear kf hF hA h hin hfL hL hn0 hn1
  go_enter Try.func31, Try.ntmps31
  go_wp2_with fail
  refine (KF.out _).mono ?_
  rintro e w1 ⟨rfl, hE1, hF1, bg⟩
  have b1 := HF.out w1 hF1
  have g0 := bg.cell 0
  simp at g0
  have hs1 := hF1.size
  have hA1 : ∀ k, w1.heap.size ≤ k → Av k := fun k hk => HA.out k (by omega)
  have HA1 := Lib.hid hA1
  clear hA1
  go_wp2_with fail
  refine (add_step _ Av HA1.out base ge _ [-v] _ _ rfl rfl hE1 (by simp) (by omega)).mono ?_
  rintro e w2 ⟨rfl, hE2, hF2⟩
  have hs2 := hF2.size
  have hA2 : ∀ k, w2.heap.size ≤ k → Av k := fun k hk => HA1.out k (by omega)
  have HA2 := Lib.hid hA2
  clear hA2
  go_wp2
  go_ret
  exact ⟨rfl, hE2, hF1.trans hF2⟩

set_option maxRecDepth 100000 in
set_option maxHeartbeats 3200000 in
theorem gate_not (w : World) (Av : Nat → Prop) (hA : ∀ k, w.heap.size ≤ k → Av k) (base ge : Nat) (s : ES) (lt : Int) (IV : Value) (gi : Nat) (a : Int) (h : Enc w Av base ge s) (hL : s.L.length ≤ 300000) (hn0 : 0 ≤ s.n) (hn1 : s.n ≤ 128) (hin : Blk w gi 3 (intCells [a]))
    (hl2 : ∀ x ∈ ([a] : List Int), -1000000 ≤ x ∧ x ≤ 1000000) :
    Calls Try.prog 31 #[.pointer (some ⟨ge, 0, none⟩), .agg #[.int .i64 3, .int .i64 lt, IV], .slice (some ⟨gi, 0, none⟩) 1 1] w fun e w' => e = .returned (.int .i64 (s.gate 3 lt [a]).2) ∧ Enc w' Av base ge (s.gate 3 lt [a]).1 ∧ Fr base ge w w' := by
  have e : s.gate 3 lt [a] = (s.fresh.adds ([[-s.var, -a], [s.var, a]]), s.var) := by unfold ES.gate; rw [if_neg (by decide), if_neg (by simp)]; simp [kindRows]
  rw [e]
  clear e
  have hv := s.var_n hn0 hn1
  have hfL := s.fresh_L
  obtain ⟨ha1, ha2⟩ := hl2 a (by simp)
  have H := Lib.hid h
  have hge := h.lt
  have hgi := hin.lt
  have hne : gi ≠ ge := by
    obtain ⟨_, _, _, h2, _⟩ := h
    exact hin.apart h2 (by decide)
  have hF : ∀ w', Fr base ge w w' → Blk w' gi 3 (intCells [a]) := fun w' hf => hf.blk hin hne (.inl (by decide))
  have HF := Lib.hid hF
  have HA := Lib.hid hA
  have kf := fun cs => fresh_step w Av base ge s cs h hn0 hn1
  generalize s.var = v at hv kf ⊢
  generalize s.fresh = s1 at hfL kf ⊢
  have hL1 : s1.L.length ≤ 300000 := by rw [hfL]; exact hL
  obtain ⟨hv1, hv2⟩ := hv
  have KF := Lib.hid kf
  clear kf hF hA h hin hfL hL hn0 hn1 hl2
  go_enter Try.func31, Try.ntmps31
  go_wp2_with fail
  refine (KF.out _).mono ?_
  rintro e w1 ⟨rfl, hE1, hF1, bg⟩
  have b1 := HF.out w1 hF1
  have g0 := bg.cell 0
  simp at g0
  have q0 := b1.cell 0
  simp [intCells] at q0
  have hs1 := hF1.size
  have hA1 : ∀ k, w1.heap.size ≤ k → Av k := fun k hk => HA.out k (by omega)
  have HA1 := Lib.hid hA1
  clear hA1
  have LEN2 : (s1.add [-v, -a]).L.length ≤ 1000000 := by have := ES.adds_len s1 [[-v, -a]]; simp only [ES.adds, List.length_cons, List.length_nil] at this; omega
  go_wp2_with fail
  refine (add_step _ Av HA1.out base ge _ [-v, -a] _ _ rfl rfl hE1 (by simp) (by omega)).mono ?_
  rintro e w2 ⟨rfl, hE2, hF2⟩
  have hs2 := hF2.size
  have hA2 : ∀ k, w2.heap.size ≤ k → Av k := fun k hk => HA1.out k (by omega)
  have HA2 := Lib.hid hA2
  clear hA2
  have q2_0 := (HF.out w2 (hF1.trans hF2)).cell 0
  simp [intCells] at q2_0
  go_wp2_with fail
  refine (add_step _ Av HA2.out base ge _ [v, a] _ _ rfl rfl hE2 (by simp) (by exact LEN2)).mono ?_
  rintro e w3 ⟨rfl, hE3, hF3⟩
  have hs3 := hF3.size
  have hA3 : ∀ k, w3.heap.size ≤ k → Av k := fun k hk => HA2.out k (by omega)
  have HA3 := Lib.hid hA3
  clear hA3
  go_wp2
  go_ret
  exact ⟨rfl, hE3, (hF1.trans hF2).trans hF3⟩

set_option maxRecDepth 100000 in
set_option maxHeartbeats 3200000 in
theorem gate_one (w : World) (Av : Nat → Prop) (hA : ∀ k, w.heap.size ≤ k → Av k) (base ge : Nat) (s : ES) (lt : Int) (IV : Value) (gi : Nat) (a : Int) (h : Enc w Av base ge s) (hL : s.L.length ≤ 300000) (hn0 : 0 ≤ s.n) (hn1 : s.n ≤ 128) (hin : Blk w gi 3 (intCells [a]))
    (hl2 : ∀ x ∈ ([a] : List Int), -1000000 ≤ x ∧ x ≤ 1000000) :
    Calls Try.prog 31 #[.pointer (some ⟨ge, 0, none⟩), .agg #[.int .i64 6, .int .i64 lt, IV], .slice (some ⟨gi, 0, none⟩) 1 1] w fun e w' => e = .returned (.int .i64 (s.gate 6 lt [a]).2) ∧ Enc w' Av base ge (s.gate 6 lt [a]).1 ∧ Fr base ge w w' := by
  have e : s.gate 6 lt [a] = (s.fresh.adds ([[-s.var, a], [s.var, -a]]), s.var) := by unfold ES.gate; rw [if_neg (by decide), if_neg (by simp)]; simp [kindRows]
  rw [e]
  clear e
  have hv := s.var_n hn0 hn1
  have hfL := s.fresh_L
  obtain ⟨ha1, ha2⟩ := hl2 a (by simp)
  have H := Lib.hid h
  have hge := h.lt
  have hgi := hin.lt
  have hne : gi ≠ ge := by
    obtain ⟨_, _, _, h2, _⟩ := h
    exact hin.apart h2 (by decide)
  have hF : ∀ w', Fr base ge w w' → Blk w' gi 3 (intCells [a]) := fun w' hf => hf.blk hin hne (.inl (by decide))
  have HF := Lib.hid hF
  have HA := Lib.hid hA
  have kf := fun cs => fresh_step w Av base ge s cs h hn0 hn1
  generalize s.var = v at hv kf ⊢
  generalize s.fresh = s1 at hfL kf ⊢
  have hL1 : s1.L.length ≤ 300000 := by rw [hfL]; exact hL
  obtain ⟨hv1, hv2⟩ := hv
  have KF := Lib.hid kf
  clear kf hF hA h hin hfL hL hn0 hn1 hl2
  go_enter Try.func31, Try.ntmps31
  go_wp2_with fail
  refine (KF.out _).mono ?_
  rintro e w1 ⟨rfl, hE1, hF1, bg⟩
  have b1 := HF.out w1 hF1
  have g0 := bg.cell 0
  simp at g0
  have q0 := b1.cell 0
  simp [intCells] at q0
  have hs1 := hF1.size
  have hA1 : ∀ k, w1.heap.size ≤ k → Av k := fun k hk => HA.out k (by omega)
  have HA1 := Lib.hid hA1
  clear hA1
  have LEN2 : (s1.add [-v, a]).L.length ≤ 1000000 := by have := ES.adds_len s1 [[-v, a]]; simp only [ES.adds, List.length_cons, List.length_nil] at this; omega
  go_wp2_with fail
  refine (add_step _ Av HA1.out base ge _ [-v, a] _ _ rfl rfl hE1 (by simp) (by omega)).mono ?_
  rintro e w2 ⟨rfl, hE2, hF2⟩
  have hs2 := hF2.size
  have hA2 : ∀ k, w2.heap.size ≤ k → Av k := fun k hk => HA1.out k (by omega)
  have HA2 := Lib.hid hA2
  clear hA2
  have q2_0 := (HF.out w2 (hF1.trans hF2)).cell 0
  simp [intCells] at q2_0
  go_wp2_with fail
  refine (add_step _ Av HA2.out base ge _ [v, -a] _ _ rfl rfl hE2 (by simp) (by exact LEN2)).mono ?_
  rintro e w3 ⟨rfl, hE3, hF3⟩
  have hs3 := hF3.size
  have hA3 : ∀ k, w3.heap.size ≤ k → Av k := fun k hk => HA2.out k (by omega)
  have HA3 := Lib.hid hA3
  clear hA3
  go_wp2
  go_ret
  exact ⟨rfl, hE3, (hF1.trans hF2).trans hF3⟩

set_option maxRecDepth 100000 in
set_option maxHeartbeats 3200000 in
theorem gate_and (w : World) (Av : Nat → Prop) (hA : ∀ k, w.heap.size ≤ k → Av k) (base ge : Nat) (s : ES) (lt : Int) (IV : Value) (gi : Nat) (l : List Int) (h : Enc w Av base ge s) (hL : s.L.length ≤ 300000) (hn0 : 0 ≤ s.n) (hn1 : s.n ≤ 128) (hin : Blk w gi 3 (intCells l)) (hl : (l : List Int).length ≤ 90000)
    (hl2 : ∀ x ∈ (l : List Int), -1000000 ≤ x ∧ x ≤ 1000000) :
    Calls Try.prog 31 #[.pointer (some ⟨ge, 0, none⟩), .agg #[.int .i64 4, .int .i64 lt, IV], .slice (some ⟨gi, 0, none⟩) l.length l.length] w fun e w' => e = .returned (.int .i64 (s.gate 4 lt l).2) ∧ Enc w' Av base ge (s.gate 4 lt l).1 ∧ Fr base ge w w' := by
  have e : s.gate 4 lt l = (s.fresh.adds (andRows (1) s.var l), s.var) := by unfold ES.gate; rw [if_neg (by decide), if_neg (by simp)]; simp [kindRows]
  rw [e]
  clear e
  have hv := s.var_n hn0 hn1
  have hfL := s.fresh_L
  have H := Lib.hid h
  have hge := h.lt
  have hgi := hin.lt
  have hne : gi ≠ ge := by
    obtain ⟨_, _, _, h2, _⟩ := h
    exact hin.apart h2 (by decide)
  have hF : ∀ w', Fr base ge w w' → Blk w' gi 3 (intCells l) := fun w' hf => hf.blk hin hne (.inl (by decide))
  have HF := Lib.hid hF
  have HA := Lib.hid hA
  have kf := fun cs => fresh_step w Av base ge s cs h hn0 hn1
  generalize s.var = v at hv kf ⊢
  generalize s.fresh = s1 at hfL kf ⊢
  have hL1 : s1.L.length ≤ 300000 := by rw [hfL]; exact hL
  obtain ⟨hv1, hv2⟩ := hv
  have KF := Lib.hid kf
  clear kf hF hA h hin hfL hL hn0 hn1
  go_enter Try.func31, Try.ntmps31
  go_wp2_with fail
  refine (KF.out _).mono ?_
  rintro e w1 ⟨rfl, hE1, hF1, bg⟩
  have b1 := HF.out w1 hF1
  have g0 := bg.cell 0
  simp at g0
  have hs1 := hF1.size
  have hA1 : ∀ k, w1.heap.size ≤ k → Av k := fun k hk => HA.out k (by omega)
  have HA1 := Lib.hid hA1
  clear hA1
  go_wp2_with fail
  refine (enc_and_yes w1 Av HA1.out base ge _ v gi l hE1 (by omega) b1 (by omega) ⟨by omega, by omega⟩ hl2).mono ?_
  rintro e w2 ⟨rfl, hE2, hF2⟩
  go_wp2
  go_ret
  exact ⟨rfl, hE2, hF1.trans hF2⟩

set_option maxRecDepth 100000 in
set_option maxHeartbeats 3200000 in
theorem gate_or (w : World) (Av : Nat → Prop) (hA : ∀ k, w.heap.size ≤ k → Av k) (base ge : Nat) (s : ES) (lt : Int) (IV : Value) (gi : Nat) (l : List Int) (h : Enc w Av base ge s) (hL : s.L.length ≤ 300000) (hn0 : 0 ≤ s.n) (hn1 : s.n ≤ 128) (hin : Blk w gi 3 (intCells l)) (hl : (l : List Int).length ≤ 90000)
    (hl2 : ∀ x ∈ (l : List Int), -1000000 ≤ x ∧ x ≤ 1000000) :
    Calls Try.prog 31 #[.pointer (some ⟨ge, 0, none⟩), .agg #[.int .i64 5, .int .i64 lt, IV], .slice (some ⟨gi, 0, none⟩) l.length l.length] w fun e w' => e = .returned (.int .i64 (s.gate 5 lt l).2) ∧ Enc w' Av base ge (s.gate 5 lt l).1 ∧ Fr base ge w w' := by
  have e : s.gate 5 lt l = (s.fresh.adds (andRows (-1) s.var l), s.var) := by unfold ES.gate; rw [if_neg (by decide), if_neg (by simp)]; simp [kindRows]
  rw [e]
  clear e
  have hv := s.var_n hn0 hn1
  have hfL := s.fresh_L
  have H := Lib.hid h
  have hge := h.lt
  have hgi := hin.lt
  have hne : gi ≠ ge := by
    obtain ⟨_, _, _, h2, _⟩ := h
    exact hin.apart h2 (by decide)
  have hF : ∀ w', Fr base ge w w' → Blk w' gi 3 (intCells l) := fun w' hf => hf.blk hin hne (.inl (by decide))
  have HF := Lib.hid hF
  have HA := Lib.hid hA
  have kf := fun cs => fresh_step w Av base ge s cs h hn0 hn1
  generalize s.var = v at hv kf ⊢
  generalize s.fresh = s1 at hfL kf ⊢
  have hL1 : s1.L.length ≤ 300000 := by rw [hfL]; exact hL
  obtain ⟨hv1, hv2⟩ := hv
  have KF := Lib.hid kf
  clear kf hF hA h hin hfL hL hn0 hn1
  go_enter Try.func31, Try.ntmps31
  go_wp2_with fail
  refine (KF.out _).mono ?_
  rintro e w1 ⟨rfl, hE1, hF1, bg⟩
  have b1 := HF.out w1 hF1
  have g0 := bg.cell 0
  simp at g0
  have hs1 := hF1.size
  have hA1 : ∀ k, w1.heap.size ≤ k → Av k := fun k hk => HA.out k (by omega)
  have HA1 := Lib.hid hA1
  clear hA1
  go_wp2_with fail
  refine (enc_and_no w1 Av HA1.out base ge _ v gi l hE1 (by omega) b1 (by omega) ⟨by omega, by omega⟩ hl2).mono ?_
  rintro e w2 ⟨rfl, hE2, hF2⟩
  go_wp2
  go_ret
  exact ⟨rfl, hE2, hF1.trans hF2⟩
end Go.Proofs.Ytlifakbdgmdafaa
