/-
  Circuits written out, and the call of Encode on one.
-/
import Derived.Test.YtlifakbdgmdafaaLits
namespace Go.Proofs.Ytlifakbdgmdafaa
open Go Go.RowKit

def gateCells : List (Gate × Value) → List Value
  | [] => []
  | p :: r => .int .i64 p.1.kind :: .int .i64 p.1.lit :: p.2 :: gateCells r
theorem gateCells_get (gvs : List (Gate × Value)) : ∀ (i : Nat) (p : Gate × Value), gvs[i]? = some p → (gateCells gvs)[i * 3]? = some (.int .i64 p.1.kind) ∧ (gateCells gvs)[i * 3 + 1]? = some (.int .i64 p.1.lit) ∧ (gateCells gvs)[i * 3 + 2]? = some p.2 := by
  induction gvs with
  | nil => intro i p h; simp at h
  | cons q r ih =>
    intro i p h
    cases i with
    | zero => injection h with h; subst h; exact ⟨rfl, rfl, rfl⟩
    | succ i =>
      have := ih i p h
      rw [show (i + 1) * 3 = i * 3 + 3 from by omega]
      exact this
theorem gates_lit (w : World) (n : Nat) (hn : w.heap.size = n) (gvs : List (Gate × Value)) (h : ∀ p ∈ gvs, IntsV w n p.2 p.1.inp) (hl : gvs.length ≤ maxLen) :
    GatesV (w.alloc (.cells (gateCells gvs).toArray 44)) (n + 1) (.slice (some ⟨n, 0, none⟩) gvs.length gvs.length) (gvs.map (·.1)) := by
  have hw : Below n w (w.alloc (.cells (gateCells gvs).toArray 44)) := (Below.refl _ _).alloc (by omega) _
  have := gates_blk (w := w.alloc (.cells (gateCells gvs).toArray 44)) (B := n + 1) (g := n) (t := 44) (cs := (gateCells gvs).toArray) (gs := gvs.map (·.1)) (Blk.new_ hn.symm) (by omega) (by simpa using hl) (fun i x hx => by
    rw [List.getElem?_map] at hx
    cases hp : gvs[i]? with
    | none => rw [hp] at hx; cases hx
    | some p =>
      rw [hp] at hx
      injection hx with hx
      subst hx
      obtain ⟨h0, h1, h2⟩ := gateCells_get gvs i p hp
      exact ⟨by simpa using h0, by simpa using h1, p.2, by simpa using h2, (IntsV.below (h p (List.mem_of_getElem? hp)) hw).more (by omega)⟩)
  rw [List.length_map] at this
  exact this
/-- Encode on a circuit that is written out. -/
theorem enc_lit (w : World) (n : Nat) (hn : w.heap.size = n) (N : Int) (gvs : List (Gate × Value)) (h : ∀ p ∈ gvs, IntsV w n p.2 p.1.inp) (hl : gvs.length ≤ maxLen) (r : EncR) (hr : encodeOf N (gvs.map (·.1)) = r) (hs : sizeOf (gvs.map (·.1)) ≤ 4611686018427387904) :
    Calls Try.prog 13 #[.agg #[.int .i64 N, .slice (some ⟨n, 0, none⟩) gvs.length gvs.length]] (w.alloc (.cells (gateCells gvs).toArray 44)) fun e w' =>
      ∃ A2 c2 A3 c3, e = .returned (.tuple #[.agg #[.int .i64 r.n, .slice A2 r.L.length c2], .slice A3 r.gate.length c3, .int .i64 r.e]) ∧ RowsV w' w'.heap.size (.slice A2 r.L.length c2) r.L ∧ IntsV w' w'.heap.size (.slice A3 r.gate.length c3) r.gate ∧ Below w.heap.size w w' := by
  subst hr
  refine (tseitin_encode N _ (gvs.map (·.1)) (w.alloc (.cells (gateCells gvs).toArray 44)) (n + 1) (by simp; omega) (gates_lit w n hn gvs h hl) hs).mono ?_
  rintro e w' ⟨⟨LV, GV, rfl, hL, hG⟩, hb⟩
  obtain ⟨A2, c2, rfl, _⟩ := id hL
  obtain ⟨A3, c3, rfl, _⟩ := id hG
  exact ⟨A2, c2, A3, c3, rfl, hL, hG, ((Below.refl _ _).alloc (Nat.le_refl _) _).trans (hb.mono (by simp))⟩

def enc1 : EncR := ⟨0, 3, [[-2, 1, 1], [-2, -1, -1], [2, -1, 1], [2, 1, -1], [-3, 2, 1], [-3, -2, -1], [3, -2, 1], [3, 2, -1], [3]], [1, 3]⟩
theorem known1 : encodeOf 1 [⟨2, 1, []⟩, ⟨6, 0, [0, 0, 0]⟩] = enc1 := by rfl
theorem known2 : encodeOf 1 [⟨2, -1, []⟩] = ⟨0, 1, [[-1]], [-1]⟩ := by rfl
theorem known3 : encodeOf 0 [⟨1, 0, []⟩] = ⟨0, 1, [[1], [1]], [1]⟩ := by rfl
theorem known4 : encodeOf 0 [] = ⟨1, 0, [], []⟩ := by rfl
theorem known5 : encodeOf 128 [⟨2, 1, []⟩, ⟨3, 0, [0]⟩] = ⟨2, 0, [], []⟩ := by rfl
theorem known6 : encodeOf 1 [⟨2, 1, []⟩, ⟨3, 0, [0]⟩, ⟨8, 0, [0, 1, 0]⟩] = ⟨0, 3, [[-2, -1], [2, 1], [-3, -1, 2], [-3, 1, 1], [3, -1, -2], [3, 1, -1], [3]], [1, 2, 3]⟩ := by rfl
end Go.Proofs.Ytlifakbdgmdafaa
