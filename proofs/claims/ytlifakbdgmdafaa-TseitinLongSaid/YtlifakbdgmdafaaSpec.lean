/-
  The theory of a circuit, without limits; what Encode computes is that, or an error. Plain lemmas.
-/
import Derived.Test.YtlifakbdgmdafaaEncode
namespace Go.Proofs.Ytlifakbdgmdafaa
open Go Go.RowKit

/-- A gate: how many variables there are then; its clauses; its literal. -/
def xorS (n last : Int) : List Int → Int × List (List Int) × Int
  | [] => (n, [], last)
  | a :: r => ((xorS (n + 1) (n + 1) r).1, sumRows (n + 1) last a ++ (xorS (n + 1) (n + 1) r).2.1, (xorS (n + 1) (n + 1) r).2.2)
def gateS (n kind lit : Int) (l : List Int) : Int × List (List Int) × Int :=
  if kind = 2 then (n, [], lit) else if kind = 6 ∧ 1 < l.length then xorS n (l.getD 0 0) l.tail else (n + 1, kindRows kind (n + 1) l, n + 1)
def runS (n : Int) (L : List (List Int)) (gate : List Int) : List Gate → Int × List (List Int) × List Int
  | [] => (n, L, gate)
  | g :: r => runS (gateS n g.kind g.lit (inputsOf gate g)).1 (L ++ (gateS n g.kind g.lit (inputsOf gate g)).2.1) (gate ++ [(gateS n g.kind g.lit (inputsOf gate g)).2.2]) r
/-- The theory, and the literals, of a circuit. -/
def fullS (N : Int) (gs : List Gate) : EncR := ⟨0, (runS N [] [] gs).1, (runS N [] [] gs).2.1 ++ [[(runS N [] [] gs).2.2.getLastD 0]], (runS N [] [] gs).2.2⟩

theorem xorS_le (n last : Int) (r : List Int) : n ≤ (xorS n last r).1 := by
  induction r generalizing n last with
  | nil => simp [xorS]
  | cons a r ih => have := ih (n + 1) (n + 1); simp only [xorS]; omega
theorem gateS_le (n kind lit : Int) (l : List Int) : n ≤ (gateS n kind lit l).1 := by
  unfold gateS
  split
  · simp
  · split
    · exact xorS_le _ _ _
    · simp only []; omega
theorem runS_le (n : Int) (L : List (List Int)) (gate : List Int) (gs : List Gate) : n ≤ (runS n L gate gs).1 ∧ L.length ≤ (runS n L gate gs).2.1.length := by
  induction gs generalizing n L gate with
  | nil => simp [runS]
  | cons g r ih =>
    have h1 := gateS_le n g.kind g.lit (inputsOf gate g)
    have h2 := ih (gateS n g.kind g.lit (inputsOf gate g)).1 (L ++ (gateS n g.kind g.lit (inputsOf gate g)).2.1) (gate ++ [(gateS n g.kind g.lit (inputsOf gate g)).2.2])
    rw [List.length_append] at h2
    simp only [runS]
    omega

theorem ES.add_full {s : ES} (h : s.full = true) (l : List Int) : (s.add l).full = true := by unfold ES.add; split <;> simp [h]
theorem ES.adds_full {s : ES} (h : s.full = true) (rows : List (List Int)) : (s.adds rows).full = true := by
  induction rows generalizing s with
  | nil => exact h
  | cons l r ih => exact ih (ES.add_full h l)
theorem ES.adds_spec (s : ES) (h : s.full = false) (rows : List (List Int)) : s.adds rows = ⟨s.n, s.L ++ rows, false⟩ ∨ ((s.adds rows).full = true ∧ 4096 < (s.L ++ rows).length) := by
  induction rows generalizing s with
  | nil => left; obtain ⟨a, b, c⟩ := s; simp only at h; subst h; simp [ES.adds]
  | cons l r ih =>
    rw [ES.adds]
    by_cases hl : 4096 < s.L.length
    · right
      refine ⟨ES.adds_full (by unfold ES.add; rw [if_pos hl]) r, by simp; omega⟩
    · have e : s.add l = ⟨s.n, s.L ++ [l], s.full⟩ := by unfold ES.add; rw [if_neg hl]
      rw [e]
      rcases ih ⟨s.n, s.L ++ [l], s.full⟩ h with h1 | h1
      · left; rw [h1]; simp
      · right; refine ⟨h1.1, ?_⟩
        have := h1.2
        simp at this ⊢
        omega
theorem ES.fresh_spec (s : ES) (h : s.full = false) (hn : s.n ≤ 128) : (s.fresh = ⟨s.n + 1, s.L, false⟩ ∧ s.var = s.n + 1 ∧ s.n + 1 ≤ 128) ∨ (s.fresh.full = true ∧ s.n = 128) := by
  unfold ES.fresh ES.var
  by_cases e : s.n = 128
  · right; rw [if_pos e]; exact ⟨rfl, e⟩
  · left; rw [if_neg e, if_neg e, h]; exact ⟨rfl, rfl, by omega⟩
theorem ES.xor_spec (s : ES) (h : s.full = false) (hn : s.n ≤ 128) (last : Int) (r : List Int) :
    (s.xorGo last r = (⟨(xorS s.n last r).1, s.L ++ (xorS s.n last r).2.1, false⟩, (xorS s.n last r).2.2) ∧ (xorS s.n last r).1 ≤ 128) ∨ ((s.xorGo last r).1.full = true ∧ (128 < (xorS s.n last r).1 ∨ 4096 < (s.L ++ (xorS s.n last r).2.1).length)) := by
  induction r generalizing s last with
  | nil => left; obtain ⟨a, b, c⟩ := s; simp only at h; subst h; simp [ES.xorGo, xorS]; exact hn
  | cons a r ih =>
    have hle := xorS_le (s.n + 1) (s.n + 1) r
    rw [ES.xorGo]
    rcases s.fresh_spec h hn with ⟨h1, h2, h3⟩ | ⟨h1, h2⟩
    · rw [h1, h2]
      simp only [Bool.false_eq_true, if_false]
      rcases ES.adds_spec ⟨s.n + 1, s.L, false⟩ rfl (sumRows (s.n + 1) last a) with h4 | ⟨h4, h5⟩
      · rw [h4]
        rcases ih ⟨s.n + 1, s.L ++ sumRows (s.n + 1) last a, false⟩ rfl h3 (s.n + 1) with ⟨h5, h6⟩ | ⟨h5, h6⟩
        · left; simp only at h5 h6; rw [h5]; simp only [xorS]; exact ⟨by simp, h6⟩
        · right; simp only at h5 h6; refine ⟨h5, ?_⟩; simp only [xorS]; simp at h6 ⊢; omega
      · right
        refine ⟨?_, ?_⟩
        · have : ∀ (s : ES) (last : Int) (r : List Int), s.full = true → (s.xorGo last r).1.full = true := by
            intro s last r
            induction r generalizing s last with
            | nil => exact fun h => h
            | cons a r ih =>
              intro h
              rw [ES.xorGo]
              have hf : s.fresh.full = true := by unfold ES.fresh; split <;> simp [h]
              rw [if_pos hf]; exact hf
          exact this _ _ _ h4
        · simp only [xorS]; simp at h5 ⊢; omega
    · right
      rw [if_pos h1]
      simp only [xorS]
      exact ⟨h1, .inl (by omega)⟩
theorem ES.gate_spec (s : ES) (h : s.full = false) (hn : s.n ≤ 128) (kind lit : Int) (l : List Int) :
    (s.gate kind lit l = (⟨(gateS s.n kind lit l).1, s.L ++ (gateS s.n kind lit l).2.1, false⟩, (gateS s.n kind lit l).2.2) ∧ (gateS s.n kind lit l).1 ≤ 128) ∨
      ((s.gate kind lit l).1.full = true ∧ (128 < (gateS s.n kind lit l).1 ∨ 4096 < (s.L ++ (gateS s.n kind lit l).2.1).length)) := by
  unfold ES.gate gateS
  by_cases h2 : kind = 2
  · rw [if_pos h2, if_pos h2]
    left; obtain ⟨a, b, c⟩ := s; simp only at h; subst h; simp; exact hn
  · rw [if_neg h2, if_neg h2]
    by_cases h6 : kind = 6 ∧ 1 < l.length
    · rw [if_pos h6, if_pos h6]; exact ES.xor_spec s h hn _ _
    · rw [if_neg h6, if_neg h6]
      rcases s.fresh_spec h hn with ⟨h3, h4, h5⟩ | ⟨h3, h4⟩
      · rw [h3, h4]
        rcases ES.adds_spec ⟨s.n + 1, s.L, false⟩ rfl (kindRows kind (s.n + 1) l) with h6 | h6
        · left; rw [h6]; exact ⟨rfl, h5⟩
        · right; exact ⟨h6.1, .inr h6.2⟩
      · right; exact ⟨ES.adds_full h3 _, .inl (by simp only []; omega)⟩
theorem encGo_spec (s : ES) (h : s.full = false) (hn : s.n ≤ 128) (gate : List Int) (gs : List Gate) :
    (encGo s gate gs = some (⟨(runS s.n s.L gate gs).1, (runS s.n s.L gate gs).2.1, false⟩, (runS s.n s.L gate gs).2.2) ∧ (runS s.n s.L gate gs).1 ≤ 128) ∨
      (encGo s gate gs = none ∧ (128 < (runS s.n s.L gate gs).1 ∨ 4096 < (runS s.n s.L gate gs).2.1.length)) := by
  induction gs generalizing s gate with
  | nil => left; obtain ⟨a, b, c⟩ := s; simp only at h; subst h; simp [encGo, runS]; exact hn
  | cons g r ih =>
    rw [encGo]
    rcases s.gate_spec h hn g.kind g.lit (inputsOf gate g) with ⟨h1, h2⟩ | ⟨h1, h2⟩
    · rw [h1]
      simp only [Bool.false_eq_true, if_false, runS]
      exact ih ⟨_, _, false⟩ rfl h2 _
    · right
      rw [if_pos h1]
      refine ⟨rfl, ?_⟩
      simp only [runS]
      have h3 := runS_le (gateS s.n g.kind g.lit (inputsOf gate g)).1 (s.L ++ (gateS s.n g.kind g.lit (inputsOf gate g)).2.1) (gate ++ [(gateS s.n g.kind g.lit (inputsOf gate g)).2.2]) r
      omega
/-- What Encode returns. -/
theorem encodeOf_eq (N : Int) (gs : List Gate) : encodeOf N gs = if checkOf N gs ≠ 0 then EncR.err (checkOf N gs) else if thCheck (fullS N gs).n (fullS N gs).L = 0 then fullS N gs else EncR.err 2 := by
  unfold encodeOf
  by_cases hc : checkOf N gs = 0
  · rw [if_neg (by simp [hc]), if_neg (by simp [hc])]
    have hb := check_bounds hc
    rcases encGo_spec ⟨N, [], false⟩ rfl (by simp only []; omega) [] gs with ⟨h1, h2⟩ | ⟨h1, h2⟩
    · rw [h1]
      simp only
      unfold encFin
      simp only at h2
      by_cases hl : 4096 < (runS N [] [] gs).2.1.length
      · rw [if_pos (.inl (by unfold ES.add; rw [if_pos hl])), if_neg]
        intro h
        have := (thCheck_zero _ _).1 h
        unfold fullS at this
        simp at this
        omega
      · have e : (⟨(runS N [] [] gs).1, (runS N [] [] gs).2.1, false⟩ : ES).add [(runS N [] [] gs).2.2.getLastD 0] = ⟨(runS N [] [] gs).1, (runS N [] [] gs).2.1 ++ [[(runS N [] [] gs).2.2.getLastD 0]], false⟩ := by
          unfold ES.add; rw [if_neg hl]
        rw [e]
        simp only [Bool.false_eq_true, false_or]
        by_cases ht : thCheck (fullS N gs).n (fullS N gs).L = 0
        · rw [if_pos ht, if_neg (by intro h; exact h ht)]; rfl
        · rw [if_neg ht]; exact if_pos ht
    · rw [h1]
      simp only
      rw [if_neg]
      intro h
      have := (thCheck_zero _ _).1 h
      unfold fullS at this
      simp only [List.length_append, List.length_cons, List.length_nil] at this
      simp only at h2
      omega
  · rw [if_pos hc, if_pos hc]
theorem encodeOf_ok {N : Int} {gs : List Gate} (h : (encodeOf N gs).e = 0) : checkOf N gs = 0 ∧ encodeOf N gs = fullS N gs ∧ thCheck (fullS N gs).n (fullS N gs).L = 0 := by
  rw [encodeOf_eq] at h ⊢
  split at h
  · rename_i hc; exact absurd h hc
  · rename_i hc
    split at h
    · rename_i ht; rw [if_neg hc, if_pos ht]; exact ⟨by simpa using hc, rfl, ht⟩
    · simp [EncR.err] at h

/-! Sizes. -/
def varsOf (g : Gate) : Nat := if g.kind = 2 then 0 else 1
def rowsOf (g : Gate) : Nat := if g.kind = 2 then 0 else if g.kind = 0 ∨ g.kind = 1 then 1 else if g.kind = 3 then 2 else if g.kind = 4 ∨ g.kind = 5 then g.inp.length + 1 else 4
theorem inputsOf_len (gate : List Int) (g : Gate) : (inputsOf gate g).length = g.inp.length := by unfold inputsOf; simp
theorem gateS_sizes (n : Int) (gate : List Int) (g : Gate) (h6 : g.kind ≠ 6) (h0 : 0 ≤ g.kind) (h8 : g.kind ≤ 8) :
    (gateS n g.kind g.lit (inputsOf gate g)).1 = n + (varsOf g : Nat) ∧ (gateS n g.kind g.lit (inputsOf gate g)).2.1.length = rowsOf g := by
  have hl := inputsOf_len gate g
  unfold gateS varsOf rowsOf
  by_cases h2 : g.kind = 2
  · rw [if_pos h2, if_pos h2, if_pos h2]; simp
  · rw [if_neg h2, if_neg h2, if_neg h2, if_neg (fun h => h6 h.1)]
    refine ⟨by simp, ?_⟩
    simp only
    unfold kindRows
    rcases (show g.kind = 0 ∨ g.kind = 1 ∨ g.kind = 3 ∨ g.kind = 4 ∨ g.kind = 5 ∨ g.kind = 7 ∨ g.kind = 8 from by omega) with h | h | h | h | h | h | h <;> rw [h] <;> simp [andRows, iffRows, choiceRows, hl]
theorem runS_sizes (n : Int) (L : List (List Int)) (gate : List Int) (gs : List Gate) (h : ∀ g ∈ gs, g.kind ≠ 6 ∧ 0 ≤ g.kind ∧ g.kind ≤ 8) :
    (runS n L gate gs).1 = n + ((gs.map varsOf).sum : Nat) ∧ (runS n L gate gs).2.1.length = L.length + (gs.map rowsOf).sum := by
  induction gs generalizing n L gate with
  | nil => simp [runS]
  | cons g r ih =>
    obtain ⟨h1, h2, h3⟩ := h g (List.mem_cons_self)
    obtain ⟨h4, h5⟩ := gateS_sizes n gate g h1 h2 h3
    simp only [runS]
    obtain ⟨h6, h7⟩ := ih (gateS n g.kind g.lit (inputsOf gate g)).1 (L ++ (gateS n g.kind g.lit (inputsOf gate g)).2.1) (gate ++ [(gateS n g.kind g.lit (inputsOf gate g)).2.2]) (fun g' hg => h g' (List.mem_cons_of_mem _ hg))
    refine ⟨?_, ?_⟩
    · rw [h6, h4]; simp only [List.map_cons, List.sum_cons]; omega
    · rw [h7, List.length_append, h5]; simp only [List.map_cons, List.sum_cons]; omega
theorem encode_sizes {N : Int} {gs : List Gate} (h : (encodeOf N gs).e = 0) (h6 : ∀ g ∈ gs, g.kind ≠ 6) :
    (encodeOf N gs).n = N + ((gs.map varsOf).sum : Nat) ∧ (encodeOf N gs).L.length = 1 + (gs.map rowsOf).sum := by
  obtain ⟨h1, h2, h3⟩ := encodeOf_ok h
  have hg : ∀ g ∈ gs, g.kind ≠ 6 ∧ 0 ≤ g.kind ∧ g.kind ≤ 8 := fun g hm => by
    obtain ⟨k, hk, rfl⟩ := List.getElem_of_mem hm
    have := good_len (check_gate h1 k hk)
    exact ⟨h6 _ hm, this.2.2.2.2.1, this.2.2.2.2.2⟩
  obtain ⟨h4, h5⟩ := runS_sizes N [] [] gs hg
  rw [h2]
  unfold fullS
  simp only [List.length_append, List.length_cons, List.length_nil]
  exact ⟨h4, by rw [h5]; simp; omega⟩
theorem map_sum_succ (f : Gate → Nat) (gs : List Gate) (k : Nat) (h : k < gs.length) : ((gs.take (k + 1)).map f).sum = ((gs.take k).map f).sum + f gs[k] := by
  rw [List.take_succ_eq_append_getElem h, List.map_append, List.sum_append_nat]; simp
end Go.Proofs.Ytlifakbdgmdafaa
