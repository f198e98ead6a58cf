/-
  Circuits: what is valid. Plain Lean; nothing of the program.
-/
namespace Go.Proofs.Ytlifakbdgmdafaa

/-- A gate of a circuit, as the document has it. -/
structure Gate where
  kind : Int
  lit : Int
  inp : List Int

def allowedB (kind n : Int) : Bool :=
  if kind = 0 ∨ kind = 1 ∨ kind = 2 then n == 0 else if kind = 3 then n == 1 else if kind = 7 then n == 2 else if kind = 8 then n == 3
  else kind == 4 || kind == 5 || kind == 6
def litVar (l : Int) : Int := if 1 ≤ l ∧ l ≤ 128 then l else if -128 ≤ l ∧ l ≤ -1 then -l else 0
def litOk (l n : Int) : Bool := decide (litVar l ≠ 0 ∧ litVar l ≤ n)
def inOk (i : Int) (k : Int) : Bool := decide (0 ≤ k ∧ k < i)
def litGood (n : Int) (g : Gate) : Bool := if g.kind = 2 then litOk g.lit n else decide (g.lit = 0)
def goodGate (n i : Int) (g : Gate) : Bool := allowedB g.kind g.inp.length && litGood n g && g.inp.all (inOk i)
def sizeTo (gs : List Gate) (k : Nat) : Nat := ((gs.take k).map fun g => g.inp.length).sum
def sizeOf (gs : List Gate) : Nat := sizeTo gs gs.length
def goodAt (n : Int) (gs : List Gate) (i : Nat) : Bool := match gs[i]? with
  | some g => goodGate n i g
  | none => false
def goodTo (n : Int) (gs : List Gate) (k : Nat) : Bool := (List.range k).all (goodAt n gs)
def checkOf (n : Int) (gs : List Gate) : Int :=
  if n < 0 ∨ 128 < n then 6 else if 4096 < gs.length ∨ 65536 < sizeOf gs then 2 else if gs.length = 0 then 1 else if goodTo n gs gs.length then 0 else 1

theorem sizeTo_succ (gs : List Gate) (k : Nat) (h : k < gs.length) : sizeTo gs (k + 1) = sizeTo gs k + gs[k].inp.length := by
  unfold sizeTo
  rw [List.take_succ_eq_append_getElem h, List.map_append, List.sum_append_nat]
  simp only [List.map_cons, List.map_nil, List.sum_cons, List.sum_nil, Nat.add_zero]
theorem sizeTo_le (gs : List Gate) (k : Nat) : sizeTo gs k ≤ sizeOf gs := by
  unfold sizeOf sizeTo
  rw [List.take_length]
  conv => rhs; rw [← List.take_append_drop k gs]
  rw [List.map_append, List.sum_append_nat]; omega
theorem sizeTo_zero (gs : List Gate) : sizeTo gs 0 = 0 := by simp [sizeTo]
theorem sizeTo_mono (gs : List Gate) (j k : Nat) (h : j ≤ k) : sizeTo gs j ≤ sizeTo gs k := by
  unfold sizeTo
  have : gs.take k = gs.take j ++ (gs.drop j).take (k - j) := by
    rw [← List.take_add]; congr 1; omega
  rw [this, List.map_append, List.sum_append_nat]; omega
theorem goodAt_eq (n : Int) (gs : List Gate) (i : Nat) (h : i < gs.length) : goodAt n gs i = goodGate n i gs[i] := by
  unfold goodAt; rw [List.getElem?_eq_getElem h]
theorem goodTo_succ (n : Int) (gs : List Gate) (k : Nat) : goodTo n gs (k + 1) = (goodTo n gs k && goodAt n gs k) := by
  unfold goodTo; rw [List.range_succ]; simp
theorem goodTo_zero (n : Int) (gs : List Gate) : goodTo n gs 0 = true := rfl
theorem goodTo_iff (n : Int) (gs : List Gate) (k : Nat) : goodTo n gs k = true ↔ ∀ i, i < k → goodAt n gs i = true := by
  unfold goodTo; simp
theorem goodTo_false (n : Int) (gs : List Gate) (i k : Nat) (h : i < k) (hg : goodAt n gs i = false) : goodTo n gs k = false := by
  cases e : goodTo n gs k with
  | false => rfl
  | true =>
    have := (goodTo_iff n gs k).1 e i h
    rw [hg] at this; cases this
theorem litVar_range (l : Int) : 0 ≤ litVar l ∧ litVar l ≤ 128 := by unfold litVar; split <;> (try split) <;> omega
theorem litOk_iff (l n : Int) (h0 : 0 ≤ n) (h : n ≤ 128) : litOk l n = true ↔ (1 ≤ l ∧ l ≤ n) ∨ (-n ≤ l ∧ l ≤ -1) := by
  unfold litOk litVar
  split
  · simp; omega
  · split
    · simp; omega
    · simp; omega
end Go.Proofs.Ytlifakbdgmdafaa
