/-
  What censusref10's encode keeps from gate to gate. Plain lemmas. censusref10's encode, by single steps: what the world holds.
-/
import Derived.Test.YtlifakbdgmdafaaRefLaw
import Derived.Test.YtlifakbdgmdafaaG10
import Derived.Test.YtlifakbdgmdafaaExM
namespace Go.Proofs.Ytlifakbdgmdafaa
open Go Go.RowKit

theorem kindOk_of {kind : Int} {n : Nat} (h : allowedB kind n = true) : kindOk kind n := by
  unfold allowedB at h
  unfold kindOk
  split at h
  · simp at h; omega
  · split at h
    · simp at h; omega
    · split at h
      · simp at h; omega
      · split at h
        · simp at h; omega
        · simp at h; omega
theorem RS.var_in (s : RS) (h : 0 ≤ s.n) : 1 ≤ s.var ∧ s.var ≤ 128 := by
  unfold RS.var
  split <;> omega
theorem RS.xor_lit (r : List Int) : ∀ (s : RS) (last : Int), 0 ≤ s.n → -1000000 ≤ last ∧ last ≤ 1000000 ∧ last ≠ 0 →
    (-1000000 ≤ (s.xorGo last r).2 ∧ (s.xorGo last r).2 ≤ 1000000 ∧ (s.xorGo last r).2 ≠ 0) ∧ 0 ≤ (s.xorGo last r).1.n := by
  induction r with
  | nil => intro s last hn hl; exact ⟨hl, hn⟩
  | cons a r ih =>
    intro s last hn hl
    rw [RS.xorGo]
    split
    · exact ⟨hl, hn⟩
    · have hv := s.var_in hn
      exact ih _ _ (by simp only [RS.adds, RS.fresh]; omega) ⟨by omega, by omega, by omega⟩
theorem RS.gate_lit (s : RS) (kind lit : Int) (l : List Int) (hn : 0 ≤ s.n) (hl : ∀ x ∈ l, -1000000 ≤ x ∧ x ≤ 1000000 ∧ x ≠ 0) (hlit : kind = 2 → -1000000 ≤ lit ∧ lit ≤ 1000000 ∧ lit ≠ 0) :
    (-1000000 ≤ (s.gate kind lit l).2 ∧ (s.gate kind lit l).2 ≤ 1000000 ∧ (s.gate kind lit l).2 ≠ 0) ∧ 0 ≤ (s.gate kind lit l).1.n := by
  unfold RS.gate
  split
  · rename_i h2; exact ⟨hlit h2, hn⟩
  · split
    · rename_i h6
      match l, h6 with
      | a :: r, _ => exact RS.xor_lit _ s _ hn (by simpa using hl a (by simp))
    · have hv := s.var_in hn
      exact ⟨⟨by simp only []; omega, by simp only []; omega, by simp only []; omega⟩, by simp only [RS.adds, RS.fresh]; omega⟩
/-- At the head of the loop. -/
structure EncOk (cur : RS) (gate : List Int) (k : Nat) : Prop where
  closed : cur.closed = false
  n0 : 0 ≤ cur.n
  n1 : cur.n ≤ 128
  L : cur.L.length ≤ 4096
  len : gate.length = k
  lits : ∀ x ∈ gate, -1000000 ≤ x ∧ x ≤ 1000000 ∧ x ≠ 0
theorem EncOk.inputs {cur : RS} {gate : List Int} {k : Nat} (h : EncOk cur gate k) {N : Int} {g : Gate} (hg : goodGate N k g = true) : ∀ x ∈ inputsOf gate g, -1000000 ≤ x ∧ x ≤ 1000000 ∧ x ≠ 0 := by
  intro x hx
  unfold inputsOf at hx
  obtain ⟨q, hq, rfl⟩ := List.mem_map.1 hx
  obtain ⟨j, hj⟩ := List.mem_iff_getElem?.1 hq
  have := good_in' hg j q hj
  have hl : q.toNat < gate.length := by rw [h.len]; omega
  rw [List.getD_eq_getElem?_getD, List.getElem?_eq_getElem hl]
  exact h.lits _ (List.getElem_mem hl)
theorem good_lit3 {N i : Int} {g : Gate} (h0 : 0 ≤ N) (h1 : N ≤ 128) (hg : goodGate N i g = true) (h2 : g.kind = 2) : -1000000 ≤ g.lit ∧ g.lit ≤ 1000000 ∧ g.lit ≠ 0 := by
  have := (litOk_iff _ _ h0 h1).1 (good_lit hg h2)
  omega
theorem EncOk.next {cur s' : RS} {v : Int} {gate : List Int} {k : Nat} (h : EncOk cur gate k) {N : Int} {g : Gate} (hN0 : 0 ≤ N) (hN1 : N ≤ 128) (hg : goodGate N k g = true) (he : cur.gate g.kind g.lit (inputsOf gate g) = (s', v)) :
    (-1000000 ≤ v ∧ v ≤ 1000000 ∧ v ≠ 0) ∧ (s'.closed = false → s'.L.length ≤ 4096 → EncOk s' (gate ++ [v]) (k + 1)) := by
  have h1 := cur.gate_lit g.kind g.lit (inputsOf gate g) h.n0 (h.inputs hg) (good_lit3 hN0 hN1 hg)
  have h2 := cur.gate_spec g.kind g.lit (inputsOf gate g) h.closed h.n1
  rw [he] at h1 h2
  simp only at h1 h2
  refine ⟨h1.1, fun hc hL => ⟨hc, h1.2, ?_, hL, by simp [h.len], fun x hx => ?_⟩⟩
  · rcases h2 with ⟨h3, a', h4⟩ | ⟨_, h4⟩
    · injection h4 with h4 _
      rw [h4]
      exact h3
    · rw [hc] at h4; cases h4
  · rcases List.mem_append.1 hx with hx | hx
    · exact h.lits x hx
    · rw [List.mem_singleton.1 hx]; exact h1.1
theorem encR_stop {cur s' : RS} {v : Int} {gate : List Int} {g : Gate} {r : List Gate} (he : cur.gate g.kind g.lit (inputsOf gate g) = (s', v)) (h : s'.closed = true ∨ 4096 < s'.L.length) : encR cur gate (g :: r) = none := by
  rw [encR, he]
  exact if_pos h
theorem encR_go {cur s' : RS} {v : Int} {gate : List Int} {g : Gate} {r : List Gate} (he : cur.gate g.kind g.lit (inputsOf gate g) = (s', v)) (h : s'.closed = false) (h2 : s'.L.length ≤ 4096) : encR cur gate (g :: r) = encR s' (gate ++ [v]) r := by
  rw [encR, he]
  exact if_neg (by simp only [h]; simp; omega)
end Go.Proofs.Ytlifakbdgmdafaa

namespace Go.Proofs.Ytlifakbdgmdafaa
open Go Go.RowKit
theorem OwnRows.nil (w : World) (Av : Nat → Prop) (base : Nat) : OwnRows w Av base (.slice none 0 0) [] := ⟨[], World.ownsRow_nil w base _ _, fun i c h => by simp at h⟩
section
variable {Av : Nat → Prop} {base g g6 nG cG bi c : Nat} {w W W' : World} {AG A : Option Addr} {IV ev : Value} {l el : List Int} {s : RS}
def GT (base : Nat) (w : World) (g g6 : Nat) (AG : Option Addr) (nG cG : Nat) (s : RS) (A : Option Addr) (c : Nat) (gate : List Int) (W : World) : Prop :=
  GE (fun _ => True) base w g g6 AG nG cG 0 (.slice none 0 0) [] s A c (.slice AG nG cG) gate W
theorem GT.init {N : Int} {a : VS} (hb : Below w.heap.size w W) (h4 : Blk W g 63 #[.int .i64 0, .slice none 0 0, .slice none 0 0, .int .u64 0, .int .u64 0, .slice none 0 0, .bool false]) (h3 : Blk W g6 63 #[.int .i64 0, .slice none 0 0, .slice none 0 0, .int .u64 0, .int .u64 0, .slice none 0 0, .bool false]) (hne : g6 ≠ g) (hg : w.heap.size ≤ g) :
    GT w.heap.size w g g6 none 0 0 ⟨N, [], a, false⟩ none 0 [] (put7 W g none 0 0 ⟨N, [], a, false⟩ none 0) :=
  ⟨⟨put7_blk h4, put7_far h3 hne, OwnRows.nil _ _ _, OwnInts.nil _ _, put7_fr (FrR.of_below hb) hg⟩, OwnInts.nil _ _⟩
theorem GT.below (h : GT base w g g6 AG nG cG s A c el W) (hb : Below W.heap.size W W') : GT base w g g6 AG nG cG s A c el W' := GE.below h hb
theorem GT.drew (h : GT base w g g6 AG nG cG s A c el W) : GT base w g g6 AG nG cG s A c el W.drew := GE.drew h
/-- Behind a call that gave another theory, and the store of its state. -/
theorem GT.after {s' : RS} {A' : Option Addr} {c' : Nat} (h : GT base w g g6 AG nG cG s A c el W) (fr : FrR base W W') (o : OwnRows W' (fun k => True ∧ (Value.slice AG nG cG).ownBlock ≠ some k) base (.slice A' s'.L.length c') s'.L) (hne : g6 ≠ g) (hg : w.heap.size ≤ g) :
    GT base w g g6 AG nG cG s' A' c' el (put7 W' g AG nG cG s' A' c') :=
  ⟨(h.1.mid fr o).put hne hg, (put7_keeps (TyAt.of (h.1.mid fr o).1)).ints (fr.ints h.2)⟩
theorem GT.append {A' : Option Addr} {n' c' : Nat} {y : Int} (h : GT base w g g6 AG nG cG s A c el W) (hv : OwnInts W' w.heap.size (.slice A' n' c') (el ++ [y])) (hg : W.grownBy W' (Value.slice AG nG cG).ownBlock) (hw : (Value.slice A' n' c').ownBlock = (Value.slice AG nG cG).ownBlock ∨ (Value.slice A' n' c').ownBlock = some W.heap.size) (hne : g6 ≠ g) (hgw : w.heap.size ≤ g) :
    (∃ u, W'.cell? ⟨g, 2, none⟩ = some u) ∧ W'.frozen? ⟨g, 2, none⟩ = false ∧ GT base w g g6 A' n' c' s A c (el ++ [y]) (W'.setCell ⟨g, 2, none⟩ (.slice A' n' c')) := by
  have h2 := GE.append0 h (OwnInts.nil _ _) hv hg hw
  obtain ⟨⟨a1, a2, a3, a4, a5⟩, a6⟩ := h2
  refine ⟨⟨_, by have := a1.cell 2; simpa using this⟩, a1.free 2, ⟨by have := a1.put 2 (.slice A' n' c'); simpa using this, a2.far (by simpa using hne) _, ?_, OwnInts.nil _ _, a5.setCell_new hgw _⟩, ?_⟩
  · exact OwnRows.setCell a3 a1 (by decide) (by decide) 2 _
  · exact own_setCell a6 (p := ⟨g, 2, none⟩) (by exact own_blk_ne a6 a1 (by decide)) _
end
/-- What encode's result holds: too long, or the state of all gates. -/
def EncRes (base : Nat) (N : Int) (gs : List Gate) (a : VS) (s : RS) (A : Option Addr) (c : Nat) (AG : Option Addr) (nG cG : Nat) (E : Int) (W : World) : Prop :=
  (encRAll N gs a = none ∧ E = 2) ∨ ∃ gate, encRAll N gs a = some (s, gate) ∧ E = 0 ∧ OwnRows W (fun _ => True) base (.slice A s.L.length c) s.L ∧ OwnInts W base (.slice AG nG cG) gate
theorem EncRes.below {base : Nat} {N : Int} {gs : List Gate} {a : VS} {s : RS} {A : Option Addr} {c : Nat} {AG : Option Addr} {nG cG : Nat} {E : Int} {W W' : World} (h : EncRes base N gs a s A c AG nG cG E W) (hb : Below W.heap.size W W') : EncRes base N gs a s A c AG nG cG E W' :=
  Or.imp_right (fun ⟨q, q1, q2, q3, q4⟩ => ⟨q, q1, q2, q3.below hb, q4.below hb⟩) h
/-- What encode gives back. -/
def EncPost (base : Nat) (N : Int) (gs : List Gate) (a : VS) (e : Ending) (w' : World) : Prop :=
  ∃ (s : RS) (A : Option Addr) (c : Nat) (AG : Option Addr) (nG cG : Nat) (E : Int), e = .returned (.tuple #[(.agg #[.int .i64 s.n, .slice A s.L.length c, .slice AG nG cG, .int .u64 (s.a.a.toNat : Int), .int .u64 (s.a.b.toNat : Int), .slice none 0 0, .bool s.closed]), .int .i64 E]) ∧ EncRes base N gs a s A c AG nG cG E w'
theorem encRAll_none {N : Int} {gs : List Gate} {a : VS} (h : encR ⟨N, [], a, false⟩ [] gs = none) : encRAll N gs a = none := by
  unfold encRAll
  rw [h]
theorem encRAll_bad {N : Int} {gs : List Gate} {a : VS} {s s' : RS} {gate : List Int} (h : encR ⟨N, [], a, false⟩ [] gs = some (s, gate)) (hs : s' = s.add [gate.getLastD 0]) (ht : thCheck s'.n s'.L ≠ 0) : encRAll N gs a = none := by
  unfold encRAll
  rw [h]
  subst hs
  exact if_neg ht
theorem encRAll_good {N : Int} {gs : List Gate} {a : VS} {s s' : RS} {gate : List Int} (h : encR ⟨N, [], a, false⟩ [] gs = some (s, gate)) (hs : s' = s.add [gate.getLastD 0]) (ht : thCheck s'.n s'.L = 0) : encRAll N gs a = some (s', gate) := by
  unfold encRAll
  rw [h]
  subst hs
  exact if_pos ht
theorem in_05Check : Enters Try.prog 47 := enters_of Try.func47 (by kernel_rfl) rfl
end Go.Proofs.Ytlifakbdgmdafaa
