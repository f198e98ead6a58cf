/-
  Circuits: the values of gates. Plain Lean; nothing of the program.
-/
import Derived.Test.YtlifakbdgmdafaaCirc
import Derived.Test.YtlifakbdgmdafaaSets
namespace Go.Proofs.Ytlifakbdgmdafaa

def inVals (g : Gate) (v : List Bool) : List Bool := g.inp.map fun k => v.getD k.toNat false
def onesOf (l : List Bool) : Nat := l.countP fun b => b
def litHolds (s : VS) (l : Int) : Bool := decide (litVar l ≠ 0) && (s.has (litVar l) == decide (0 < l))
def pickVal (v : List Bool) (l : List Int) : Bool := if v.getD (l.getD 0 0).toNat false then v.getD (l.getD 1 0).toNat false else v.getD (l.getD 2 0).toNat false
def valueOf (g : Gate) (s : VS) (v : List Bool) : Bool :=
  if g.kind = 1 then true else if g.kind = 2 then litHolds s g.lit else if g.kind = 3 then decide (onesOf (inVals g v) = 0)
  else if g.kind = 4 then decide (onesOf (inVals g v) = g.inp.length) else if g.kind = 5 then decide (0 < onesOf (inVals g v))
  else if g.kind = 6 then decide (onesOf (inVals g v) % 2 = 1) else if g.kind = 7 then decide (onesOf (inVals g v) ≠ 1)
  else if g.kind = 8 then pickVal v g.inp else false
/-- The values of the first k gates. -/
def valsTo (gs : List Gate) (s : VS) : Nat → List Bool
  | 0 => []
  | k + 1 => valsTo gs s k ++ [match gs[k]? with | some g => valueOf g s (valsTo gs s k) | none => false]
def valOf (gs : List Gate) (s : VS) (i : Nat) : Bool := (valsTo gs s gs.length).getD i false
def evalOf (n : Int) (gs : List Gate) (s : VS) : Bool :=
  decide (checkOf n gs = 0) && s.sub (VS.all n) && valOf gs s (gs.length - 1)

theorem valsTo_length (gs : List Gate) (s : VS) (k : Nat) : (valsTo gs s k).length = k := by
  induction k with
  | zero => rfl
  | succ k ih => unfold valsTo; simp [ih]
theorem valsTo_take (gs : List Gate) (s : VS) (j k : Nat) (h : j ≤ k) : (valsTo gs s k).take j = valsTo gs s j := by
  induction k with
  | zero => have : j = 0 := by omega
            subst this; rfl
  | succ k ih =>
    by_cases e : j = k + 1
    · subst e; rw [List.take_of_length_le]; rw [valsTo_length]; omega
    · have := ih (by omega)
      rw [← this]
      conv => lhs; unfold valsTo
      rw [List.take_append_of_le_length (by rw [valsTo_length]; omega)]
theorem valsTo_getD (gs : List Gate) (s : VS) (i j k : Nat) (hj : i < j) (hk : j ≤ k) : (valsTo gs s k).getD i false = (valsTo gs s j).getD i false := by
  rw [← valsTo_take gs s j k hk, List.getD_eq_getElem?_getD, List.getD_eq_getElem?_getD, List.getElem?_take_of_lt hj]
theorem valsTo_last (gs : List Gate) (s : VS) (k : Nat) (h : k < gs.length) : (valsTo gs s (k + 1)).getD k false = valueOf gs[k] s (valsTo gs s k) := by
  conv => lhs; unfold valsTo
  rw [List.getD_eq_getElem?_getD, List.getElem?_append_right (by rw [valsTo_length]; omega), valsTo_length]
  simp [h]
theorem valsTo_succ (gs : List Gate) (s : VS) (k : Nat) (h : k < gs.length) : valsTo gs s (k + 1) = valsTo gs s k ++ [valueOf gs[k] s (valsTo gs s k)] := by
  conv => lhs; unfold valsTo
  simp [h]
theorem onesOf_nil : onesOf [] = 0 := rfl
theorem onesOf_snoc (l : List Bool) (b : Bool) : onesOf (l ++ [b]) = onesOf l + (if b then 1 else 0) := by
  unfold onesOf; rw [List.countP_append]; cases b <;> simp
theorem onesOf_le (l : List Bool) : onesOf l ≤ l.length := List.countP_le_length
theorem onesOf_all (l : List Bool) : l.all (fun b => b) = decide (onesOf l = l.length) := by
  rw [Bool.eq_iff_iff]
  simp [onesOf, List.countP_eq_length]
theorem onesOf_any (l : List Bool) : l.any (fun b => b) = decide (0 < onesOf l) := by
  rw [Bool.eq_iff_iff]
  simp [onesOf, List.countP_pos_iff]
/-- What checkOf's yes says of a gate. -/
theorem check_gate {n : Int} {gs : List Gate} (h : checkOf n gs = 0) (k : Nat) (hk : k < gs.length) : goodGate n k gs[k] = true := by
  unfold checkOf at h
  split at h
  · omega
  · split at h
    · omega
    · split at h
      · omega
      · split at h
        · rename_i hg
          rw [← goodAt_eq n gs k hk]
          exact (goodTo_iff _ _ _).1 hg k hk
        · omega
theorem check_bounds {n : Int} {gs : List Gate} (h : checkOf n gs = 0) : 0 ≤ n ∧ n ≤ 128 ∧ 0 < gs.length ∧ gs.length ≤ 4096 ∧ sizeOf gs ≤ 65536 := by
  unfold checkOf at h
  split at h
  · omega
  · split at h
    · omega
    · split at h <;> omega
theorem good_in' {n i : Int} {g : Gate} (h : goodGate n i g = true) (j : Nat) (x : Int) (hx : g.inp[j]? = some x) : 0 ≤ x ∧ x < i := by
  unfold goodGate at h
  simp only [Bool.and_eq_true, List.all_eq_true] at h
  have := h.2 x (List.mem_of_getElem? hx)
  unfold inOk at this
  simpa using this
theorem good_len {n i : Int} {g : Gate} (h : goodGate n i g = true) : (g.kind = 0 ∨ g.kind = 1 ∨ g.kind = 2 → g.inp.length = 0) ∧ (g.kind = 3 → g.inp.length = 1) ∧ (g.kind = 7 → g.inp.length = 2) ∧ (g.kind = 8 → g.inp.length = 3) ∧ 0 ≤ g.kind ∧ g.kind ≤ 8 := by
  unfold goodGate at h
  simp only [Bool.and_eq_true] at h
  have h := h.1.1
  unfold allowedB at h
  split at h
  · simp at h; simp [h]; omega
  · split at h
    · simp at h; omega
    · split at h
      · simp at h; omega
      · split at h
        · simp at h; omega
        · simp at h; omega
theorem good_lit {n i : Int} {g : Gate} (h : goodGate n i g = true) (h2 : g.kind = 2) : litOk g.lit n = true := by
  unfold goodGate litGood at h
  simp only [Bool.and_eq_true] at h
  have h := h.1.2
  rwa [if_pos h2] at h
theorem getD_take (m : List Bool) (k i : Nat) (h : i < k) : m.getD i false = (m.take k).getD i false := by
  rw [List.getD_eq_getElem?_getD, List.getD_eq_getElem?_getD, List.getElem?_take_of_lt h]
/-- A gate's value hangs on the values of the gates before it alone. -/
theorem valueOf_take {g : Gate} (s : VS) (m : List Bool) (k : Nat) (hin : ∀ (j : Nat) (x : Int), g.inp[j]? = some x → 0 ≤ x ∧ x < k) (h8 : g.kind = 8 → g.inp.length = 3) : valueOf g s m = valueOf g s (m.take k) := by
  have h1 : inVals g m = inVals g (m.take k) := by
    unfold inVals
    apply List.map_congr_left
    intro x hx
    obtain ⟨j, hj⟩ := List.getElem?_of_mem hx
    have := hin j x hj
    exact getD_take m k _ (by omega)
  have h2 : g.kind = 8 → pickVal m g.inp = pickVal (m.take k) g.inp := by
    intro h
    have h3 := h8 h
    have el : ∀ j, j < 3 → m.getD (g.inp.getD j 0).toNat false = (m.take k).getD (g.inp.getD j 0).toNat false := by
      intro j hj
      have hj' : j < g.inp.length := by omega
      have := hin j _ (List.getElem?_eq_getElem hj')
      rw [List.getD_eq_getElem?_getD (l := g.inp), List.getElem?_eq_getElem hj', Option.getD_some]
      exact getD_take m k _ (by omega)
    unfold pickVal
    rw [← el 0 (by omega), ← el 1 (by omega), ← el 2 (by omega)]
  unfold valueOf
  rw [h1]
  by_cases h : g.kind = 8
  · rw [h2 h]
  · simp only [if_neg h]
theorem evalOf_bad {n : Int} {gs : List Gate} (s : VS) (h : checkOf n gs ≠ 0) : evalOf n gs s = false := by
  unfold evalOf; simp [h]
theorem checkOf_cases (n : Int) (gs : List Gate) : checkOf n gs = 0 ∨ checkOf n gs = 1 ∨ checkOf n gs = 2 ∨ checkOf n gs = 6 := by
  unfold checkOf
  split
  · simp
  · split
    · simp
    · split
      · simp
      · split <;> simp
end Go.Proofs.Ytlifakbdgmdafaa
