/-
  Sets of the variables 1 to 128: two words of 64 bits. Plain Lean; nothing of the program.
-/
namespace Go.Proofs.Ytlifakbdgmdafaa

structure VS where
  a : BitVec 64
  b : BitVec 64

theorem VS.eta (s : VS) : (⟨s.a, s.b⟩ : VS) = s := rfl
def VS.empty : VS := ⟨0#64, 0#64⟩
def VS.has (s : VS) (v : Int) : Bool :=
  if 1 ≤ v ∧ v ≤ 64 then s.a.getLsbD (v.toNat - 1) else if 65 ≤ v ∧ v ≤ 128 then s.b.getLsbD (v.toNat - 65) else false
/-- The set of the variables for which f says yes. -/
def wordOf (f : Nat → Bool) : Nat → BitVec 64
  | 0 => 0#64
  | n + 1 => if f n then wordOf f n ||| (1#64 <<< n) else wordOf f n
def VS.of (f : Int → Bool) : VS := ⟨wordOf (fun i => f (i + 1)) 64, wordOf (fun i => f (i + 65)) 64⟩
def VS.bit (v : Int) : VS :=
  if 1 ≤ v ∧ v ≤ 64 then ⟨1#64 <<< (v.toNat - 1), 0#64⟩ else if 65 ≤ v ∧ v ≤ 128 then ⟨0#64, 1#64 <<< (v.toNat - 65)⟩ else .empty
def VS.with_ (s : VS) (v : Int) : VS := ⟨s.a ||| (VS.bit v).a, s.b ||| (VS.bit v).b⟩
def VS.cut (s t : VS) : VS := ⟨s.a &&& t.a, s.b &&& t.b⟩
def VS.union (s t : VS) : VS := ⟨s.a ||| t.a, s.b ||| t.b⟩
def VS.minus (s t : VS) : VS := ⟨s.a &&& ~~~t.a, s.b &&& ~~~t.b⟩
def VS.xor (s t : VS) : VS := ⟨s.a ^^^ t.a, s.b ^^^ t.b⟩
def VS.all (n : Int) : VS := VS.of fun v => decide (v ≤ n)
def VS.sub (s t : VS) : Bool := (s.minus t).a == 0#64 && (s.minus t).b == 0#64

theorem wordOf_bit (f : Nat → Bool) (n : Nat) (hn : n ≤ 64) (i : Nat) : (wordOf f n).getLsbD i = (decide (i < n) && f i) := by
  induction n with
  | zero => simp [wordOf]
  | succ n ih =>
    have ih := ih (by omega)
    unfold wordOf
    by_cases hf : f n
    · rw [if_pos hf, BitVec.getLsbD_or, ih, BitVec.getLsbD_shiftLeft]
      by_cases h1 : i < n
      · simp [h1, show i < n + 1 from by omega]
      · by_cases h2 : i = n
        · subst h2; simp [hf]; omega
        · simp [show ¬ i < n + 1 from by omega, h1]
          intro h3 h4
          omega
    · rw [if_neg hf, ih]
      by_cases h1 : i < n
      · simp [h1, show i < n + 1 from by omega]
      · by_cases h2 : i = n
        · subst h2; simp [hf]
        · simp [show ¬ i < n + 1 from by omega, h1]

theorem VS.has_of (f : Int → Bool) (v : Int) : (VS.of f).has v = (decide (1 ≤ v ∧ v ≤ 128) && f v) := by
  unfold VS.has VS.of
  by_cases h1 : 1 ≤ v ∧ v ≤ 64
  · rw [if_pos h1]
    simp only []
    rw [wordOf_bit _ _ (Nat.le_refl _)]
    have e : ((v.toNat - 1 : Nat) : Int) + 1 = v := by omega
    rw [e]
    simp [show v.toNat - 1 < 64 from by omega, h1.1, show v ≤ 128 from by omega]
  · rw [if_neg h1]
    by_cases h2 : 65 ≤ v ∧ v ≤ 128
    · rw [if_pos h2]
      simp only []
      rw [wordOf_bit _ _ (Nat.le_refl _)]
      have e : ((v.toNat - 65 : Nat) : Int) + 65 = v := by omega
      rw [e]
      simp [show v.toNat - 65 < 64 from by omega, h2.2, show 1 ≤ v from by omega]
    · rw [if_neg h2]
      have : ¬ (1 ≤ v ∧ v ≤ 128) := by omega
      simp [this]

theorem VS.ext_has {s t : VS} (h : ∀ v : Int, 1 ≤ v → v ≤ 128 → s.has v = t.has v) : s = t := by
  obtain ⟨a, b⟩ := s
  obtain ⟨c, d⟩ := t
  have ha : a = c := by
    apply BitVec.eq_of_getLsbD_eq
    intro i hi
    have := h (i + 1) (by omega) (by omega)
    unfold VS.has at this
    rw [if_pos (by omega), if_pos (by omega)] at this
    simpa [show ((i : Int) + 1).toNat = i + 1 from by omega] using this
  have hb : b = d := by
    apply BitVec.eq_of_getLsbD_eq
    intro i hi
    have := h (i + 65) (by omega) (by omega)
    unfold VS.has at this
    rw [if_neg (by omega), if_pos (by omega), if_neg (by omega), if_pos (by omega)] at this
    simpa [show ((i : Int) + 65).toNat = i + 65 from by omega] using this
  rw [ha, hb]

theorem VS.has_out (s : VS) {v : Int} (h : v < 1 ∨ 128 < v) : s.has v = false := by
  unfold VS.has
  rw [if_neg (by omega), if_neg (by omega)]
theorem VS.has_in {s : VS} {v : Int} (h : s.has v = true) : 1 ≤ v ∧ v ≤ 128 := by
  rcases Classical.em (v < 1 ∨ 128 < v) with h1 | h1
  · rw [VS.has_out s h1] at h; cases h
  · omega

theorem VS.has_empty (v : Int) : VS.empty.has v = false := by
  unfold VS.has VS.empty
  split
  · simp
  · split <;> simp
theorem VS.has_bit (u v : Int) : (VS.bit u).has v = (decide (1 ≤ u ∧ u ≤ 128) && decide (v = u)) := by
  unfold VS.has VS.bit
  by_cases h1 : 1 ≤ u ∧ u ≤ 64
  · rw [if_pos h1]
    by_cases h2 : 1 ≤ v ∧ v ≤ 64
    · rw [if_pos h2]
      simp only [BitVec.getLsbD_shiftLeft, BitVec.getLsbD_one]
      by_cases e : v = u
      · subst e; simp [show v.toNat - 1 < 64 from by omega, h1.1, show v ≤ 128 from by omega]
      · have : ¬ (v.toNat - 1 - (u.toNat - 1) = 0 ∧ ¬ v.toNat - 1 < u.toNat - 1) := by omega
        simp [e]; omega
    · rw [if_neg h2]
      split
      · simp; omega
      · simp; omega
  · rw [if_neg h1]
    by_cases h3 : 65 ≤ u ∧ u ≤ 128
    · rw [if_pos h3]
      by_cases h2 : 1 ≤ v ∧ v ≤ 64
      · rw [if_pos h2]; simp; omega
      · rw [if_neg h2]
        by_cases h4 : 65 ≤ v ∧ v ≤ 128
        · rw [if_pos h4]
          simp only [BitVec.getLsbD_shiftLeft, BitVec.getLsbD_one]
          by_cases e : v = u
          · subst e; simp [show v.toNat - 65 < 64 from by omega, h3.2, show 1 ≤ v from by omega]
          · simp [e]; omega
        · rw [if_neg h4]; simp; omega
    · rw [if_neg h3]
      have := VS.has_empty v
      unfold VS.has at this
      rw [this]
      have : ¬ (1 ≤ u ∧ u ≤ 128) := by omega
      simp [this]

theorem VS.has_union (s t : VS) (v : Int) : (s.union t).has v = (s.has v || t.has v) := by
  unfold VS.has VS.union
  split
  · simp
  · split <;> simp
theorem VS.has_cut (s t : VS) (v : Int) : (s.cut t).has v = (s.has v && t.has v) := by
  unfold VS.has VS.cut
  split
  · simp
  · split <;> simp
theorem VS.has_minus (s t : VS) (v : Int) : (s.minus t).has v = (s.has v && !t.has v) := by
  unfold VS.has VS.minus
  split
  · simp [show v.toNat - 1 < 64 from by omega]
  · split
    · simp [show v.toNat - 65 < 64 from by omega]
    · rfl
theorem VS.has_xor (s t : VS) (v : Int) : (s.xor t).has v = (s.has v != t.has v) := by
  unfold VS.has VS.xor
  split
  · simp
  · split <;> simp
theorem VS.has_with (s : VS) (u v : Int) : (s.with_ u).has v = (s.has v || (decide (1 ≤ u ∧ u ≤ 128) && decide (v = u))) := by
  rw [← VS.has_bit, ← VS.has_union]; rfl
theorem VS.has_all (n v : Int) : (VS.all n).has v = (decide (1 ≤ v ∧ v ≤ 128) && decide (v ≤ n)) := by
  unfold VS.all; rw [VS.has_of]
theorem VS.sub_iff (s t : VS) : s.sub t = true ↔ ∀ v : Int, 1 ≤ v → v ≤ 128 → s.has v = true → t.has v = true := by
  have e : s.sub t = true ↔ s.minus t = VS.empty := by
    unfold VS.sub VS.empty
    constructor
    · intro h
      simp only [Bool.and_eq_true, beq_iff_eq] at h
      obtain ⟨x, y⟩ := h
      generalize s.minus t = m at x y
      obtain ⟨p, q⟩ := m
      simp only at x y
      rw [x, y]
    · intro h; rw [h]; rfl
  rw [e]
  constructor
  · intro h v _ _ hs
    have := VS.has_minus s t v
    rw [h, VS.has_empty, hs] at this
    simpa using this.symm
  · intro h
    apply VS.ext_has
    intro v h1 h2
    rw [VS.has_empty, VS.has_minus]
    cases hs : s.has v
    · rfl
    · rw [h v h1 h2 hs]; rfl
theorem VS.eq_iff {s t : VS} : s = t ↔ s.a = t.a ∧ s.b = t.b := by
  constructor
  · intro h; rw [h]; exact ⟨rfl, rfl⟩
  · intro ⟨h1, h2⟩; obtain ⟨a, b⟩ := s; obtain ⟨c, d⟩ := t; simp only at h1 h2; rw [h1, h2]

/-- The variables of a set, ascending. -/
def VS.list (s : VS) (n : Nat) : List Int := ((List.range n).map fun i : Nat => (i : Int) + 1).filter s.has
/-- The set of the variables of a list. -/
def VS.ofList : List Int → VS
  | [] => .empty
  | v :: l => (VS.ofList l).with_ v
theorem VS.has_ofList (l : List Int) (v : Int) (h1 : 1 ≤ v) (h2 : v ≤ 128) : (VS.ofList l).has v = l.contains v := by
  induction l with
  | nil => simp [VS.ofList, VS.has_empty]
  | cons u l ih =>
    rw [VS.ofList, VS.has_with, ih]
    by_cases e : v = u
    · subst e; simp [h1, h2]
    · simp [e]
end Go.Proofs.Ytlifakbdgmdafaa
