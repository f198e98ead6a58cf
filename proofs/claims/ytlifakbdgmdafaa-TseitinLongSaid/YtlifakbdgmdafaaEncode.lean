/-
  tseitin.Encode as a plain function; what stays within bounds.
-/
import Derived.Test.YtlifakbdgmdafaaWGate2
namespace Go.Proofs.Ytlifakbdgmdafaa
open Go Go.RowKit

def inputsOf (gate : List Int) (g : Gate) : List Int := g.inp.map fun k => gate.getD k.toNat 0
def encGo (s : ES) (gate : List Int) : List Gate → Option (ES × List Int)
  | [] => some (s, gate)
  | g :: r => if (s.gate g.kind g.lit (inputsOf gate g)).1.full then none else encGo (s.gate g.kind g.lit (inputsOf gate g)).1 (gate ++ [(s.gate g.kind g.lit (inputsOf gate g)).2]) r
/-- What Encode returns: the error; the theory; the literals. -/
structure EncR where
  e : Int
  n : Int
  L : List (List Int)
  gate : List Int
def EncR.err (e : Int) : EncR := ⟨e, 0, [], []⟩
def encFin (s : ES) (gate : List Int) : EncR :=
  if (s.add [gate.getLastD 0]).full = true ∨ thCheck (s.add [gate.getLastD 0]).n (s.add [gate.getLastD 0]).L ≠ 0 then EncR.err 2 else ⟨0, (s.add [gate.getLastD 0]).n, (s.add [gate.getLastD 0]).L, gate⟩
def encodeOf (n : Int) (gs : List Gate) : EncR :=
  if checkOf n gs ≠ 0 then EncR.err (checkOf n gs) else match encGo ⟨n, [], false⟩ [] gs with
    | none => EncR.err 2
    | some (s, gate) => encFin s gate

def ES.ok (s : ES) : Prop := s.L.length ≤ 4097 ∧ 0 ≤ s.n ∧ s.n ≤ 128
theorem ES.add_ok {s : ES} (h : s.ok) (l : List Int) : (s.add l).ok := by
  obtain ⟨h1, h2, h3⟩ := h
  unfold ES.add
  split
  · exact ⟨h1, h2, h3⟩
  · exact ⟨by simp; omega, h2, h3⟩
theorem ES.adds_ok {s : ES} (h : s.ok) (r : List (List Int)) : (s.adds r).ok := by
  induction r generalizing s with
  | nil => exact h
  | cons l r ih => exact ih (ES.add_ok h l)
theorem ES.fresh_ok {s : ES} (h : s.ok) : s.fresh.ok := ⟨by rw [s.fresh_L]; exact h.1, (s.fresh_n h.2.1 h.2.2).1, (s.fresh_n h.2.1 h.2.2).2⟩
theorem ES.xor_ok {s : ES} (h : s.ok) (last : Int) (hl : -1000000 ≤ last ∧ last ≤ 1000000) (r : List Int) : (s.xorGo last r).1.ok ∧ -1000000 ≤ (s.xorGo last r).2 ∧ (s.xorGo last r).2 ≤ 1000000 := by
  induction r generalizing s last with
  | nil => exact ⟨h, hl⟩
  | cons a r ih =>
    have hv := s.var_n h.2.1 h.2.2
    rw [ES.xorGo]
    split
    · exact ⟨ES.fresh_ok h, by simp only []; omega, by simp only []; omega⟩
    · exact ih (ES.adds_ok (ES.fresh_ok h) _) s.var ⟨by omega, by omega⟩
theorem ES.gate_ok {s : ES} (h : s.ok) (kd lt : Int) (l : List Int) (hl : ∀ x ∈ l, -1000000 ≤ x ∧ x ≤ 1000000) (hlt : -1000000 ≤ lt ∧ lt ≤ 1000000) : (s.gate kd lt l).1.ok ∧ -1000000 ≤ (s.gate kd lt l).2 ∧ (s.gate kd lt l).2 ≤ 1000000 := by
  have hv := s.var_n h.2.1 h.2.2
  unfold ES.gate
  split
  · exact ⟨h, hlt⟩
  · split
    · refine ES.xor_ok h _ ?_ _
      cases l with
      | nil => simp
      | cons a r => exact hl a (List.mem_cons_self)
    · exact ⟨ES.adds_ok (ES.fresh_ok h) _, by simp only []; omega, by simp only []; omega⟩

theorem Blk.cast {w : World} {g : Nat} {l l' : List Int} (h : Blk w g 3 (intCells l)) (e : l = l') : Blk w g 3 (intCells l') := e ▸ h
/-- gate, of any kind. -/
theorem enc_gate (w : World) (Av : Nat → Prop) (hA : ∀ k, w.heap.size ≤ k → Av k) (base ge : Nat) (s : ES) (kd lt : Int) (IV : Value) (gi : Nat) (l : List Int) (h : Enc w Av base ge s) (hs : s.ok) (hin : Blk w gi 3 (intCells l)) (hl : l.length ≤ 80000)
    (hl2 : ∀ x ∈ l, -1000000 ≤ x ∧ x ≤ 1000000) (hk : allowedB kd l.length = true) :
    Calls Try.prog 31 #[.pointer (some ⟨ge, 0, none⟩), .agg #[.int .i64 kd, .int .i64 lt, IV], .slice (some ⟨gi, 0, none⟩) l.length l.length] w fun e w' => e = .returned (.int .i64 (s.gate kd lt l).2) ∧ Enc w' Av base ge (s.gate kd lt l).1 ∧ Fr base ge w w' := by
  obtain ⟨hs1, hs2, hs3⟩ := hs
  by_cases k2 : kd = 2
  · subst k2; exact gate_lit w Av base ge s lt IV gi l h
  by_cases k0 : kd = 0
  · subst k0
    have : l = [] := by simpa [allowedB] using hk
    subst this
    exact gate_false w Av hA base ge s lt IV gi h (by omega) hs2 hs3 hin
  by_cases k1 : kd = 1
  · subst k1
    have : l = [] := by simpa [allowedB] using hk
    subst this
    exact gate_true w Av hA base ge s lt IV gi h (by omega) hs2 hs3 hin
  by_cases k3 : kd = 3
  · subst k3
    have hlen : l.length = 1 := by simp [allowedB] at hk; omega
    match l, hlen with
    | [a], _ => exact gate_not w Av hA base ge s lt IV gi a h (by omega) hs2 hs3 hin hl2
  by_cases k4 : kd = 4
  · subst k4; exact gate_and w Av hA base ge s lt IV gi l h (by omega) hs2 hs3 hin (by omega) hl2
  by_cases k5 : kd = 5
  · subst k5; exact gate_or w Av hA base ge s lt IV gi l h (by omega) hs2 hs3 hin (by omega) hl2
  by_cases k7 : kd = 7
  · subst k7
    have hlen : l.length = 2 := by simp [allowedB] at hk; omega
    match l, hlen with
    | [a, b], _ => exact gate_iff w Av hA base ge s lt IV gi a b h (by omega) hs2 hs3 hin hl2
  by_cases k8 : kd = 8
  · subst k8
    have hlen : l.length = 3 := by simp [allowedB] at hk; omega
    match l, hlen with
    | [a, b, c], _ => exact gate_if w Av hA base ge s lt IV gi a b c h (by omega) hs2 hs3 hin hl2
  have k6 : kd = 6 := by simp [allowedB, k0, k1, k2, k3, k4, k5, k7, k8] at hk; exact hk
  subst k6
  match l, hl, hl2, hin with
  | [], _, _, hin => exact gate_none w Av hA base ge s lt IV gi h (by omega) hs2 hs3 hin
  | [a], _, hl2, hin => exact gate_one w Av hA base ge s lt IV gi a h (by omega) hs2 hs3 hin hl2
  | a :: b :: r, hl, hl2, hin => exact gate_xor w Av hA base ge s lt IV gi a (b :: r) h (by omega) hs2 hs3 hin (by simp at hl ⊢; omega) hl2 (by simp)
end Go.Proofs.Ytlifakbdgmdafaa
