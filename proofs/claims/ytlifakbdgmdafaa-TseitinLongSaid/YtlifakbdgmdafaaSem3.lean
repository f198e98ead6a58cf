/-
  The models of the theory of a circuit are what Extend returns. Plain lemmas.
-/
import Derived.Test.YtlifakbdgmdafaaSem2
namespace Go.Proofs.Ytlifakbdgmdafaa
open Go Go.RowKit

theorem getLastD_getD (l : List Int) : l.getLastD 0 = l.getD (l.length - 1) 0 := by
  rw [List.getLastD_eq_getLast?, List.getLast?_eq_getElem?, List.getD_eq_getElem?_getD]
theorem cut_none {N : Int} (s : VS) : noneOver N (s.cut (VS.all N)) := by
  intro v hv
  rw [VS.has_cut, VS.has_all]
  simp; intro _ _ _; omega
theorem cut_agree {N : Int} (h : N ≤ 128) (s : VS) : agree N s (s.cut (VS.all N)) := by
  intro v h1 h2
  rw [VS.has_cut, VS.has_all]
  simp [h1, h2, show v ≤ 128 from by omega]
theorem eq_of_agree {m : Int} {s t : VS} (h : agree m s t) (hs : noneOver m s) (ht : noneOver m t) : s = t := by
  apply VS.ext_has
  intro v h1 _
  by_cases hv : v ≤ m
  · exact h v h1 hv
  · rw [hs v (by omega), ht v (by omega)]
theorem cut_self {m : Int} {s : VS} (hs : noneOver m s) : s.cut (VS.all m) = s := cut_eq (agree.refl m s) hs
theorem eval_none {N : Int} {gs : List Gate} {a : VS} (h : evalOf N gs a = true) : checkOf N gs = 0 ∧ noneOver N a := by
  unfold evalOf at h
  simp only [Bool.and_eq_true, decide_eq_true_eq] at h
  exact ⟨h.1.1, sub_none h.1.2⟩
theorem eval_last {N : Int} {gs : List Gate} {a : VS} (hc : checkOf N gs = 0) (ha : noneOver N a) : evalOf N gs a = (valsTo gs a gs.length).getD (gs.length - 1) false := by
  unfold evalOf valOf
  rw [hc, none_sub ha]; simp

section
variable {N : Int} {gs : List Gate}
theorem ext_facts {a : VS} (he : (encodeOf N gs).e = 0) (ha : noneOver N a) :
    ∃ b : VS, b = (extTo N gs (encodeOf N gs).gate a gs.length).2 ∧ agree N b a ∧ noneOver (encodeOf N gs).n b ∧ (encodeOf N gs).gate.length = gs.length ∧ 0 < gs.length ∧ N ≤ (encodeOf N gs).n ∧ (encodeOf N gs).n ≤ 128 ∧
      (∀ j, j < gs.length → okL (encodeOf N gs).n ((encodeOf N gs).gate.getD j 0) ∧ litHolds b ((encodeOf N gs).gate.getD j 0) = (valsTo gs a gs.length).getD j false) ∧
      (∀ t, agree N t a → noneOver (encodeOf N gs).n t → ((encodeOf N gs).L.all (rowTrue t) = true ↔ t = b ∧ evalOf N gs a = true)) := by
  obtain ⟨hc, hf, ht⟩ := encodeOf_ok he
  have hb := check_bounds hc
  have htz := (thCheck_zero _ _).1 ht
  rw [hf]
  unfold fullS at htz ⊢
  simp only at htz ⊢
  have hn := htz.2.1
  obtain ⟨i1, i2, i3, i3', i4, i5⟩ := inv_all hc hn ha gs.length (Nat.le_refl _)
  rw [runTo_all] at i1 i3 i3' i4 i5
  have hlen := runTo_len N gs gs.length (Nat.le_refl _)
  rw [runTo_all] at hlen
  refine ⟨_, rfl, i2, i3, hlen, hb.2.2.1, i3', hn, i4, fun t h1 h2 => ?_⟩
  rw [List.all_append, Bool.and_eq_true, i5 t h1, eval_last hc ha]
  have hl := i4 (gs.length - 1) (by omega)
  rw [getLastD_getD, hlen]
  simp only [List.all_cons, List.all_nil, Bool.and_true, rowTrue, List.any_cons, List.any_nil, Bool.or_false]
  constructor
  · intro ⟨q1, q2⟩
    have e := eq_of_agree q1 h2 i3
    refine ⟨e, ?_⟩
    rw [← hl.2, ← e]
    exact q2
  · intro ⟨q1, q2⟩
    rw [q1]
    exact ⟨agree.refl _ _, by rw [hl.2]; exact q2⟩

theorem extend_eq {a : VS} (he : (encodeOf N gs).e = 0) (hv : evalOf N gs a = true) : extendOf N gs a = ((extTo N gs (encodeOf N gs).gate a gs.length).2, true) := by
  obtain ⟨hc, ha⟩ := eval_none hv
  obtain ⟨b, rfl, _, h2, _⟩ := ext_facts he ha
  unfold extendOf
  rw [if_neg (by simp [he, hv])]
  have e : extGo N gs (encodeOf N gs).gate 0 gs (N, a) = extTo N gs (encodeOf N gs).gate a gs.length := extGo_to N gs (encodeOf N gs).gate a gs 0 (by simp) (by omega)
  rw [e, cut_self h2]
theorem extend_no {a : VS} (h : (encodeOf N gs).e ≠ 0 ∨ evalOf N gs a = false) : extendOf N gs a = (VS.empty, false) := by
  unfold extendOf; rw [if_pos h]
theorem extend_ok {a : VS} : (extendOf N gs a).2 = true ↔ (encodeOf N gs).e = 0 ∧ evalOf N gs a = true := by
  by_cases h : (encodeOf N gs).e ≠ 0 ∨ evalOf N gs a = false
  · rw [extend_no h]
    constructor
    · intro h; cases h
    · intro ⟨h1, h2⟩
      rcases h with h | h
      · exact absurd h1 h
      · rw [h] at h2; cases h2
  · have h1 : (encodeOf N gs).e = 0 := by
      apply Classical.byContradiction; intro hh; exact h (.inl hh)
    have h2 : evalOf N gs a = true := by
      cases hh : evalOf N gs a with
      | true => rfl
      | false => exact absurd (.inr hh) h
    rw [extend_eq h1 h2]
    simp [h1, h2]
/-- The literal of each gate is true exactly if the gate is. -/
theorem gates_true {a : VS} (h : (extendOf N gs a).2 = true) (j : Nat) (hj : j < gs.length) :
    okL 128 ((encodeOf N gs).gate.getD j 0) ∧ holdsL (extendOf N gs a).1 ((encodeOf N gs).gate.getD j 0) = evalOf N (gs.take (j + 1)) a := by
  obtain ⟨he, hv⟩ := extend_ok.1 h
  obtain ⟨hc, ha⟩ := eval_none hv
  obtain ⟨b, hb, _, _, _, _, _, h7, h8, _⟩ := ext_facts he ha
  obtain ⟨q1, q2⟩ := h8 j hj
  rw [extend_eq he hv, ← hb]
  refine ⟨q1.mono h7, ?_⟩
  rw [holdsL_in (q1.mono h7), q2, eval_take hc ha j hj, valsTo_getD gs a j (j + 1) gs.length (by omega) (by omega), valsTo_last gs a j hj]
theorem gate_len (he : (encodeOf N gs).e = 0) : (encodeOf N gs).gate.length = gs.length := by
  obtain ⟨hc, hf, ht⟩ := encodeOf_ok he
  have hlen := runTo_len N gs gs.length (Nat.le_refl _)
  rw [runTo_all] at hlen
  rw [hf]; exact hlen
/-- An assignment is a model of the theory exactly if it is what Extend returns for its part about the circuit's variables. -/
theorem models_iff (he : (encodeOf N gs).e = 0) (t : VS) : thEval (encodeOf N gs).n (encodeOf N gs).L t = true ↔ evalOf N gs (t.cut (VS.all N)) = true ∧ t = (extendOf N gs (t.cut (VS.all N))).1 := by
  obtain ⟨hc, hf, ht⟩ := encodeOf_ok he
  have hb := check_bounds hc
  obtain ⟨b, hbb, h1, h2, _, _, h5, h6, _, h8⟩ := ext_facts he (cut_none (N := N) t)
  have ht' : thCheck (encodeOf N gs).n (encodeOf N gs).L = 0 := by rw [hf]; exact ht
  unfold thEval
  rw [ht']
  simp only [decide_true, Bool.true_and, Bool.and_eq_true]
  constructor
  · intro ⟨q1, q2⟩
    obtain ⟨r1, r2⟩ := (h8 t (cut_agree hb.2.1 t) (sub_none q1)).1 q2
    exact ⟨r2, by rw [extend_eq he r2, ← hbb]; exact r1⟩
  · intro ⟨q1, q2⟩
    rw [extend_eq he q1, ← hbb] at q2
    have q3 : noneOver (encodeOf N gs).n t := by rw [q2]; exact h2
    exact ⟨none_sub q3, (h8 t (cut_agree hb.2.1 t) q3).2 ⟨q2, q1⟩⟩
theorem extend_base {a : VS} (h : (extendOf N gs a).2 = true) : (extendOf N gs a).1.cut (VS.all N) = a ∧ noneOver (encodeOf N gs).n (extendOf N gs a).1 ∧ noneOver N a ∧ thEval (encodeOf N gs).n (encodeOf N gs).L (extendOf N gs a).1 = true := by
  obtain ⟨he, hv⟩ := extend_ok.1 h
  obtain ⟨hc, ha⟩ := eval_none hv
  obtain ⟨b, hb, h1, h2, _⟩ := ext_facts he ha
  have e : (extendOf N gs a).1 = b := by rw [extend_eq he hv, hb]
  have e2 : b.cut (VS.all N) = a := cut_eq h1 ha
  rw [e]
  refine ⟨e2, h2, ha, (models_iff he b).2 ?_⟩
  rw [e2]
  exact ⟨hv, e.symm⟩
end
end Go.Proofs.Ytlifakbdgmdafaa
