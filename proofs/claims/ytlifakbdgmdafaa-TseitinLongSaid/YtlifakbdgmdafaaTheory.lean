/-
  Theories: what is valid, and their models. Plain Lean; nothing of the program.
-/
import Derived.Test.YtlifakbdgmdafaaEval
namespace Go.Proofs.Ytlifakbdgmdafaa

def rowCheck (n : Int) (c : List Int) : Int := if 128 < c.length then 2 else if c.all (fun l => litOk l n) then 0 else 1
def rowsCheck (n : Int) : List (List Int) → Int
  | [] => 0
  | c :: r => if rowCheck n c = 0 then rowsCheck n r else rowCheck n c
def thCheck (n : Int) (L : List (List Int)) : Int := if n < 0 ∨ 128 < n then 6 else if 4096 < L.length then 2 else rowsCheck n L

theorem rowsCheck_skip (n : Int) (L : List (List Int)) (k : Nat) (h : ∀ i c, i < k → L[i]? = some c → rowCheck n c = 0) : rowsCheck n L = rowsCheck n (L.drop k) := by
  induction k generalizing L with
  | zero => simp
  | succ k ih =>
    cases L with
    | nil => simp
    | cons c r =>
      rw [rowsCheck, if_pos (h 0 c (by omega) rfl), List.drop_succ_cons]
      exact ih r (fun i c' hi hc => h (i + 1) c' (by omega) (by simpa using hc))
theorem rowsCheck_at (n : Int) (L : List (List Int)) (k : Nat) (hk : k < L.length) (h : ∀ i c, i < k → L[i]? = some c → rowCheck n c = 0) (hb : rowCheck n L[k] ≠ 0) : rowsCheck n L = rowCheck n L[k] := by
  rw [rowsCheck_skip n L k h, List.drop_eq_getElem_cons hk, rowsCheck, if_neg hb]
theorem rowsCheck_end (n : Int) (L : List (List Int)) (h : ∀ i c, i < L.length → L[i]? = some c → rowCheck n c = 0) : rowsCheck n L = 0 := by
  rw [rowsCheck_skip n L L.length h, List.drop_length]; rfl
theorem rowsCheck_zero (n : Int) (L : List (List Int)) : rowsCheck n L = 0 ↔ ∀ c ∈ L, rowCheck n c = 0 := by
  induction L with
  | nil => simp [rowsCheck]
  | cons c r ih =>
    rw [rowsCheck]
    by_cases h : rowCheck n c = 0
    · rw [if_pos h, ih]; simp [h]
    · rw [if_neg h]; simp [h]
theorem rowCheck_zero (n : Int) (c : List Int) : rowCheck n c = 0 ↔ c.length ≤ 128 ∧ ∀ l ∈ c, litOk l n = true := by
  unfold rowCheck
  by_cases h : 128 < c.length
  · rw [if_pos h]; omega
  · rw [if_neg h]
    by_cases h2 : c.all (fun l => litOk l n) = true
    · rw [if_pos h2]; simp at h2; simp; exact ⟨by omega, h2⟩
    · rw [if_neg h2]
      constructor
      · intro h3; omega
      · intro ⟨_, h3⟩; exact absurd (List.all_eq_true.2 h3) h2
theorem thCheck_zero (n : Int) (L : List (List Int)) : thCheck n L = 0 ↔ 0 ≤ n ∧ n ≤ 128 ∧ L.length ≤ 4096 ∧ ∀ c ∈ L, c.length ≤ 128 ∧ ∀ l ∈ c, litOk l n = true := by
  unfold thCheck
  by_cases h : n < 0 ∨ 128 < n
  · rw [if_pos h]; omega
  · rw [if_neg h]
    by_cases h2 : 4096 < L.length
    · rw [if_pos h2]; omega
    · rw [if_neg h2, rowsCheck_zero]
      constructor
      · intro h3; exact ⟨by omega, by omega, by omega, fun c hc => (rowCheck_zero n c).1 (h3 c hc)⟩
      · intro ⟨_, _, _, h3⟩ c hc; exact (rowCheck_zero n c).2 (h3 c hc)
theorem rowCheck_cases (n : Int) (c : List Int) : rowCheck n c = 0 ∨ rowCheck n c = 1 ∨ rowCheck n c = 2 := by
  unfold rowCheck
  split
  · simp
  · split <;> simp
theorem rowsCheck_cases (n : Int) (L : List (List Int)) : rowsCheck n L = 0 ∨ rowsCheck n L = 1 ∨ rowsCheck n L = 2 := by
  induction L with
  | nil => simp [rowsCheck]
  | cons c r ih =>
    rw [rowsCheck]
    split
    · exact ih
    · exact rowCheck_cases n c
theorem thCheck_cases (n : Int) (L : List (List Int)) : thCheck n L = 0 ∨ thCheck n L = 1 ∨ thCheck n L = 2 ∨ thCheck n L = 6 := by
  unfold thCheck
  split
  · simp
  · split
    · simp
    · rcases rowsCheck_cases n L with h | h | h <;> simp [h]
/-- Whether a clause is true. -/
def rowTrue (s : VS) (c : List Int) : Bool := c.any (litHolds s)
def thEval (n : Int) (L : List (List Int)) (s : VS) : Bool := decide (thCheck n L = 0) && s.sub (VS.all n) && L.all (rowTrue s)
end Go.Proofs.Ytlifakbdgmdafaa
