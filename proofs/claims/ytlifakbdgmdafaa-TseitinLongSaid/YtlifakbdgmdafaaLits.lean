/-
  Slices that lie in one block, as lists; and what the examples are.
-/
import Derived.Test.YtlifakbdgmdafaaExtend
namespace Go.Proofs.Ytlifakbdgmdafaa
open Go Go.RowKit

theorem ints_nil (w : World) (B : Nat) : IntsV w B (.slice none 0 0) [] := ⟨none, 0, rfl, Nat.le_refl _, by decide, fun h => absurd h (by simp)⟩
theorem ints_blk {w : World} {B g : Nat} {t : TypeId} {xs : List Int} (h : Blk w g t (intCells xs)) (hg : g < B) (hl : xs.length ≤ maxLen) : IntsV w B (.slice (some ⟨g, 0, none⟩) xs.length xs.length) xs := by
  refine ⟨_, _, rfl, Nat.le_refl _, hl, fun _ => ⟨g, 0, hg, rfl, fun i x hx => ?_⟩⟩
  obtain ⟨hi, rfl⟩ := List.getElem?_eq_some_iff.1 hx
  have := h.cell i
  rw [intCells_get _ _ hi] at this
  rw [Nat.mul_one, Nat.zero_add]
  exact this
theorem rows_blk {w : World} {B g : Nat} {t : TypeId} {cs : Array Value} {rs : List (List Int)} (h : Blk w g t cs) (hg : g < B) (hl : rs.length ≤ maxLen) (hr : ∀ (i : Nat) (xs : List Int), rs[i]? = some xs → ∃ v, cs[i]? = some v ∧ IntsV w B v xs) : RowsV w B (.slice (some ⟨g, 0, none⟩) rs.length rs.length) rs := by
  refine ⟨_, _, rfl, Nat.le_refl _, hl, fun _ => ⟨g, 0, hg, rfl, fun i xs hx => ?_⟩⟩
  obtain ⟨v, hv, hi⟩ := hr i xs hx
  rw [Nat.mul_one, Nat.zero_add]
  exact ⟨v, (h.cell i).trans hv, hi⟩
theorem gates_blk {w : World} {B g : Nat} {t : TypeId} {cs : Array Value} {gs : List Gate} (h : Blk w g t cs) (hg : g < B) (hl : gs.length ≤ maxLen)
    (hr : ∀ (i : Nat) (x : Gate), gs[i]? = some x → cs[i * 3]? = some (.int .i64 x.kind) ∧ cs[i * 3 + 1]? = some (.int .i64 x.lit) ∧ ∃ v, cs[i * 3 + 2]? = some v ∧ IntsV w B v x.inp) : GatesV w B (.slice (some ⟨g, 0, none⟩) gs.length gs.length) gs := by
  refine ⟨_, _, rfl, Nat.le_refl _, hl, fun _ => ⟨g, 0, hg, rfl, fun i x hx => ?_⟩⟩
  obtain ⟨h0, h1, v, h2, hi⟩ := hr i x hx
  rw [Nat.zero_add]
  exact ⟨(h.cell _).trans h0, (h.cell _).trans h1, v, (h.cell _).trans h2, hi⟩

/-- Rows written out one behind the other, then the array of their slices. -/
def rowsAlloc (w : World) : List (List Int) → World
  | [] => w
  | r :: rs => rowsAlloc (w.alloc (.cells (intCells r) 3)) rs
def rowSlices (n : Nat) : List (List Int) → List Value
  | [] => []
  | r :: rs => .slice (some ⟨n, 0, none⟩) r.length r.length :: rowSlices (n + 1) rs
theorem rowsAlloc_size (rs : List (List Int)) (w : World) : (rowsAlloc w rs).heap.size = w.heap.size + rs.length := by
  induction rs generalizing w with
  | nil => rfl
  | cons r rs ih => rw [rowsAlloc, ih]; simp; omega
theorem rowsAlloc_below (rs : List (List Int)) (w : World) (B : Nat) (hB : B ≤ w.heap.size) : Below B w (rowsAlloc w rs) := by
  induction rs generalizing w with
  | nil => exact Below.refl _ _
  | cons r rs ih => exact ((Below.refl B w).alloc hB _).trans (ih _ (by simp; omega))
theorem rowSlices_get (w' : World) (B : Nat) (rs : List (List Int)) (w : World) (n : Nat) (hn : w.heap.size = n) (hl : ∀ r ∈ rs, r.length ≤ maxLen) (hB : n + rs.length ≤ B) (hw : Below (n + rs.length) (rowsAlloc w rs) w') :
    ∀ (i : Nat) (xs : List Int), rs[i]? = some xs → ∃ v, (rowSlices n rs)[i]? = some v ∧ IntsV w' B v xs := by
  induction rs generalizing w n with
  | nil => intro i xs h; simp at h
  | cons r rs ih =>
    intro i xs h
    cases i with
    | zero =>
      injection h with h
      subst h
      refine ⟨_, rfl, ?_⟩
      have hb : Blk (w.alloc (.cells (intCells r) 3)) n 3 (intCells r) := by rw [← hn]; exact Blk.new w _ _
      have h1 := rowsAlloc_below rs (w.alloc (.cells (intCells r) 3)) (n + 1) (by simp; omega)
      have h2 : Below (n + 1) (w.alloc (.cells (intCells r) 3)) w' := h1.trans (hw.mono (by simp))
      have h3 : Blk w' n 3 (intCells r) := (h2.block n (by omega)).trans hb
      exact ints_blk h3 (by simp at hB; omega) (hl r (by simp))
    | succ i =>
      exact ih (w.alloc (.cells (intCells r) 3)) (n + 1) (by simp; omega) (fun x hx => hl x (by simp [hx])) (by simp at hB; omega) (by rw [show n + 1 + rs.length = n + (r :: rs).length from by simp; omega]; exact hw) i xs h
theorem rows_lit (w : World) (n : Nat) (hn : w.heap.size = n) (rs : List (List Int)) (hl : ∀ r ∈ rs, r.length ≤ maxLen) (hl2 : rs.length ≤ maxLen) :
    RowsV ((rowsAlloc w rs).alloc (.cells (rowSlices n rs).toArray 30)) (n + rs.length + 1) (.slice (some ⟨n + rs.length, 0, none⟩) rs.length rs.length) rs := by
  refine rows_blk (cs := (rowSlices n rs).toArray) (t := 30) (Blk.new_ (by rw [rowsAlloc_size]; omega)) (by omega) hl2 (fun i xs h => ?_)
  obtain ⟨v, hv, hi⟩ := rowSlices_get ((rowsAlloc w rs).alloc (.cells (rowSlices n rs).toArray 30)) (n + rs.length + 1) rs w n hn hl (by omega) ((Below.refl _ _).alloc (by rw [rowsAlloc_size]; omega) _) i xs h
  exact ⟨v, by simpa using hv, hi⟩

theorem same_lit (w : World) (n : Nat) (hn : w.heap.size = n) (N1 N2 : Int) (B : Nat) (V : Value) (l rs : List (List Int)) (hB : B ≤ w.heap.size) (h1 : RowsV w B V l) (hl : ∀ r ∈ rs, r.length ≤ maxLen) (hl2 : rs.length ≤ maxLen) (b : Bool) (hb : decide (N1 = N2 ∧ l = rs) = b) :
    Calls Try.prog 15 #[.agg #[.int .i64 N1, V], .agg #[.int .i64 N2, .slice (some ⟨n + rs.length, 0, none⟩) rs.length rs.length]] ((rowsAlloc w rs).alloc (.cells (rowSlices n rs).toArray 30))
      fun e w' => e = .returned (.bool b) ∧ Below w.heap.size w w' := by
  have hs : ((rowsAlloc w rs).alloc (.cells (rowSlices n rs).toArray 30)).heap.size = n + rs.length + 1 := by simp [rowsAlloc_size]; omega
  have hw : Below w.heap.size w ((rowsAlloc w rs).alloc (.cells (rowSlices n rs).toArray 30)) := (rowsAlloc_below rs w _ (Nat.le_refl _)).alloc (by rw [rowsAlloc_size]; omega) _
  refine (same_theory N1 N2 _ w.heap.size (n + rs.length + 1) V _ l rs hw.size (by omega) ((h1.more hB).below hw) (rows_lit w n hn rs hl hl2)).mono ?_
  rintro e w' ⟨rfl, hb'⟩
  rw [hb]
  exact ⟨rfl, hw.trans (hb'.mono (by omega))⟩
theorem same_ints_lit (w : World) (n : Nat) (hn : w.heap.size = n) (B : Nat) (V : Value) (l xs : List Int) (hB : B ≤ w.heap.size) (h1 : IntsV w B V l) (hl : xs.length ≤ maxLen) (b : Bool) (hb : decide (l = xs) = b) :
    Calls Try.prog 16 #[V, .slice (some ⟨n, 0, none⟩) xs.length xs.length] (w.alloc (.cells (intCells xs) 3)) fun e w' => e = .returned (.bool b) ∧ Below w.heap.size w w' := by
  have hw : Below w.heap.size w (w.alloc (.cells (intCells xs) 3)) := (Below.refl _ _).alloc (Nat.le_refl _) _
  refine (same_ints _ B (n + 1) V _ l xs (h1.below (hw.mono hB)) (ints_blk (t := 3) (Blk.new_ hn.symm) (by omega) hl)).mono ?_
  rintro e w' ⟨rfl, k, rfl⟩
  rw [hb]
  exact ⟨rfl, below_drewN hw k⟩

/-- Go's == of two sets. -/
theorem sets_eq (a b c d : Nat) (w : World) : (Op.equalIn 10000 38 (.agg #[.int .u64 (a : Int), .int .u64 (b : Int)]) (.agg #[.int .u64 (c : Int), .int .u64 (d : Int)])).run Try.prog w = .ok (decide (a = c ∧ b = d)) w := by
  have h2 : List.range' 0 2 = [0, 1] := rfl
  unfold Op.equalIn
  simp [go_sem, h2]
  by_cases h : a = c
  · subst h
    by_cases h' : b = d
    · subst h'; simp
    · have h3 : ¬ (b : Int) = d := by omega
      simp [h', h3]
  · have h3 : ¬ (a : Int) = c := by omega
    simp [h, h3]

def gsW : List Gate := [⟨2, 1, []⟩, ⟨2, 2, []⟩, ⟨4, 0, [0, 1]⟩]
theorem encW : encodeOf 2 gsW = ⟨0, 3, [[-3, 1], [-3, 2], [3, -1, -2], [3]], [1, 2, 3]⟩ := by rfl
theorem extW : extendOf 2 gsW ⟨3, 0⟩ = (⟨7, 0⟩, true) := by rfl
theorem extW' : (extendOf 2 gsW ⟨1, 0⟩).2 = false := by rfl
end Go.Proofs.Ytlifakbdgmdafaa
