/-
  What Extend returns: the only model of the theory that extends a model of the circuit. Plain lemmas.
-/
import Derived.Test.YtlifakbdgmdafaaSem
namespace Go.Proofs.Ytlifakbdgmdafaa
open Go Go.RowKit

def runTo (N : Int) (gs : List Gate) (k : Nat) : Int × List (List Int) × List Int := runS N [] [] (gs.take k)
def extTo (n : Int) (gs : List Gate) (gate : List Int) (a : VS) : Nat → Int × VS
  | 0 => (n, a)
  | k + 1 => match gs[k]? with | some g => extStep n gs gate k g (extTo n gs gate a k) | none => extTo n gs gate a k
theorem extTo_succ (n : Int) (gs : List Gate) (gate : List Int) (a : VS) (k : Nat) (h : k < gs.length) : extTo n gs gate a (k + 1) = extStep n gs gate k gs[k] (extTo n gs gate a k) := by
  rw [extTo, List.getElem?_eq_getElem h]
theorem extGo_to (n : Int) (gs : List Gate) (gate : List Int) (a : VS) (r : List Gate) : ∀ k, r = gs.drop k → k ≤ gs.length → extGo n gs gate k r (extTo n gs gate a k) = extTo n gs gate a gs.length := by
  induction r with
  | nil =>
    intro k hr hk
    have : gs.length ≤ k := by
      have := congrArg List.length hr; simp at this; omega
    rw [extGo, show k = gs.length from by omega]
  | cons g r ih =>
    intro k hr hk
    have hlt : k < gs.length := by
      have := congrArg List.length hr; simp at this; omega
    rw [List.drop_eq_getElem_cons hlt] at hr
    injection hr with h1 h2
    rw [extGo, h1, ← extTo_succ n gs gate a k hlt]
    exact ih (k + 1) h2 (by omega)
theorem runS_append (n : Int) (L : List (List Int)) (gate : List Int) (a b : List Gate) : runS n L gate (a ++ b) = runS (runS n L gate a).1 (runS n L gate a).2.1 (runS n L gate a).2.2 b := by
  induction a generalizing n L gate with
  | nil => rfl
  | cons g r ih => rw [List.cons_append, runS, ih]; rfl
theorem runTo_succ (N : Int) (gs : List Gate) (k : Nat) (h : k < gs.length) : runTo N gs (k + 1) = ((gateS (runTo N gs k).1 gs[k].kind gs[k].lit (inputsOf (runTo N gs k).2.2 gs[k])).1,
    (runTo N gs k).2.1 ++ (gateS (runTo N gs k).1 gs[k].kind gs[k].lit (inputsOf (runTo N gs k).2.2 gs[k])).2.1, (runTo N gs k).2.2 ++ [(gateS (runTo N gs k).1 gs[k].kind gs[k].lit (inputsOf (runTo N gs k).2.2 gs[k])).2.2]) := by
  unfold runTo
  rw [List.take_succ_eq_append_getElem h, runS_append]
  rfl
theorem runTo_len (N : Int) (gs : List Gate) (k : Nat) (h : k ≤ gs.length) : (runTo N gs k).2.2.length = k := by
  induction k with
  | zero => rfl
  | succ k ih => rw [runTo_succ N gs k (by omega)]; simp [ih (by omega)]
theorem runTo_mono (N : Int) (gs : List Gate) (j k : Nat) (hj : j ≤ k) (h : k ≤ gs.length) : (runTo N gs j).2.2 = (runTo N gs k).2.2.take j ∧ (runTo N gs j).1 ≤ (runTo N gs k).1 := by
  induction k with
  | zero => have : j = 0 := by omega
            subst this; exact ⟨rfl, Int.le_refl _⟩
  | succ k ih =>
    by_cases e : j = k + 1
    · subst e; exact ⟨by rw [List.take_of_length_le]; rw [runTo_len N gs _ h]; omega, Int.le_refl _⟩
    · obtain ⟨h1, h2⟩ := ih (by omega) (by omega)
      have hl := runTo_len N gs k (by omega)
      have hm := gateS_le (runTo N gs k).1 gs[k].kind gs[k].lit (inputsOf (runTo N gs k).2.2 gs[k])
      rw [runTo_succ N gs k (by omega)]
      refine ⟨?_, by simp only; omega⟩
      simp only
      rw [List.take_append_of_le_length (by omega)]
      exact h1
theorem runTo_all (N : Int) (gs : List Gate) : runTo N gs gs.length = runS N [] [] gs := by unfold runTo; rw [List.take_length]

/-! Prefixes of a valid circuit. -/
theorem check_take {N : Int} {gs : List Gate} (h : checkOf N gs = 0) (k : Nat) (hk : k < gs.length) : checkOf N (gs.take (k + 1)) = 0 := by
  have hb := check_bounds h
  have hl : (gs.take (k + 1)).length = k + 1 := by rw [List.length_take]; omega
  have hs : sizeOf (gs.take (k + 1)) ≤ sizeOf gs := by
    have := sizeTo_le gs (k + 1)
    have e : sizeOf (gs.take (k + 1)) = sizeTo gs (k + 1) := by
      unfold sizeOf sizeTo; rw [List.take_length]
    omega
  unfold checkOf
  rw [if_neg (by omega), if_neg (by omega), if_neg (by omega), if_pos]
  rw [goodTo_iff]
  intro i hi
  rw [goodAt_eq _ _ i hi, List.getElem_take]
  exact check_gate h i (by omega)
theorem valsTo_prefix (gs : List Gate) (s : VS) (m : Nat) : ∀ j, j ≤ m → j ≤ gs.length → valsTo (gs.take m) s j = valsTo gs s j := by
  intro j
  induction j with
  | zero => intro _ _; rfl
  | succ j ih =>
    intro h1 h2
    rw [valsTo_succ gs s j (by omega), valsTo_succ (gs.take m) s j (by rw [List.length_take]; omega), ih (by omega) (by omega), List.getElem_take]
theorem sub_none {N : Int} {s : VS} (h : s.sub (VS.all N) = true) : noneOver N s := by
  intro v hv
  by_cases h1 : 1 ≤ v ∧ v ≤ 128
  · cases hs : s.has v with
    | false => rfl
    | true =>
      have := (VS.sub_iff s _).1 h v h1.1 h1.2 hs
      rw [VS.has_all] at this
      simp at this
      omega
  · exact VS.has_out s (by omega)
theorem none_sub {N : Int} {s : VS} (h : noneOver N s) : s.sub (VS.all N) = true := by
  rw [VS.sub_iff]
  intro v h1 h2 hs
  rw [VS.has_all]
  simp only [Bool.and_eq_true, decide_eq_true_eq]
  refine ⟨⟨h1, h2⟩, ?_⟩
  apply Classical.byContradiction
  intro hv
  rw [h v (by omega)] at hs
  cases hs
theorem cut_eq {N : Int} {s a : VS} (h : agree N s a) (ha : noneOver N a) : s.cut (VS.all N) = a := by
  apply VS.ext_has
  intro v h1 h2
  rw [VS.has_cut, VS.has_all]
  by_cases hv : v ≤ N
  · rw [h v h1 hv]; simp [h1, h2, hv]
  · rw [ha v (by omega)]; simp [hv]
theorem eval_take {N : Int} {gs : List Gate} {a : VS} (h : checkOf N gs = 0) (ha : noneOver N a) (k : Nat) (hk : k < gs.length) : evalOf N (gs.take (k + 1)) a = valueOf gs[k] a (valsTo gs a k) := by
  have hl : (gs.take (k + 1)).length = k + 1 := by rw [List.length_take]; omega
  unfold evalOf valOf
  rw [check_take h k hk, none_sub ha, hl, show k + 1 - 1 = k from rfl, valsTo_prefix gs a (k + 1) (k + 1) (Nat.le_refl _) (by omega), valsTo_last gs a k hk]
  simp
theorem valsTo_old (gs : List Gate) (s : VS) (k j : Nat) (hj : j < k) : (valsTo gs s (k + 1)).getD j false = (valsTo gs s k).getD j false := valsTo_getD gs s j k (k + 1) hj (by omega)

/-- What Extend has set after k gates. -/
structure Inv (N : Int) (gs : List Gate) (gate : List Int) (a : VS) (k : Nat) : Prop where
  n_eq : (extTo N gs gate a k).1 = (runTo N gs k).1
  base : agree N (extTo N gs gate a k).2 a
  none : noneOver (runTo N gs k).1 (extTo N gs gate a k).2
  le : N ≤ (runTo N gs k).1
  lits : ∀ j, j < k → okL (runTo N gs k).1 (gate.getD j 0) ∧ litHolds (extTo N gs gate a k).2 (gate.getD j 0) = (valsTo gs a k).getD j false
  rows : ∀ t, agree N t a → ((runTo N gs k).2.1.all (rowTrue t) = true ↔ agree (runTo N gs k).1 t (extTo N gs gate a k).2)

theorem inv_all {N : Int} {gs : List Gate} {a : VS} (hc : checkOf N gs = 0) (hn : (runS N [] [] gs).1 ≤ 128) (ha : noneOver N a) : ∀ k, k ≤ gs.length → Inv N gs (runS N [] [] gs).2.2 a k := by
  obtain ⟨gate, hgate⟩ : ∃ gate, gate = (runS N [] [] gs).2.2 := ⟨_, rfl⟩
  rw [← hgate]
  have hb := check_bounds hc
  intro k
  induction k with
  | zero => exact fun _ => ⟨rfl, agree.refl _ _, ha, Int.le_refl _, fun j hj => by omega, fun t ht => by simp [runTo, runS]; exact ht⟩
  | succ k ih =>
    intro hk
    have hlt : k < gs.length := by omega
    obtain ⟨i1, i2, i3, i3', i4, i5⟩ := ih (by omega)
    have hg := check_gate hc k hlt
    have hgl := good_len hg
    have hgt : (runTo N gs k).2.2 = gate.take k := by rw [hgate, ← runTo_all]; exact (runTo_mono N gs k gs.length (by omega) (Nat.le_refl _)).1
    have hn1 : (runTo N gs (k + 1)).1 ≤ 128 := Int.le_trans (runTo_mono N gs (k + 1) gs.length hk (Nat.le_refl _)).2 (by rw [runTo_all]; exact hn)
    have hgk : gate.getD k 0 = (runTo N gs (k + 1)).2.2.getD k 0 := by
      rw [(runTo_mono N gs (k + 1) gs.length hk (Nat.le_refl _)).1, runTo_all, ← hgate, List.getD_eq_getElem?_getD, List.getD_eq_getElem?_getD, List.getElem?_take_of_lt (by omega)]
    have hin : inputsOf (runTo N gs k).2.2 gs[k] = gs[k].inp.map fun j => gate.getD j.toNat 0 := by
      unfold inputsOf
      apply List.map_congr_left
      intro j hj
      obtain ⟨m, hm⟩ := List.getElem?_of_mem hj
      have := good_in' hg m j hm
      rw [hgt, List.getD_eq_getElem?_getD, List.getD_eq_getElem?_getD, List.getElem?_take_of_lt (by omega)]
    have hlen := runTo_len N gs k (by omega)
    have hrun := runTo_succ N gs k hlt
    have hext := extTo_succ N gs gate a k hlt
    rw [hin] at hrun
    have hlast : gate.getD k 0 = (gateS (runTo N gs k).1 gs[k].kind gs[k].lit (gs[k].inp.map fun j => gate.getD j.toNat 0)).2.2 := by
      rw [hgk, hrun, List.getD_eq_getElem?_getD, List.getElem?_append_right (by omega), hlen]
      simp
    have hjs : ∀ j ∈ gs[k].inp, okL (runTo N gs k).1 (gate.getD j.toNat 0) ∧ litHolds (extTo N gs gate a k).2 (gate.getD j.toNat 0) = (valsTo gs a k).getD j.toNat false := by
      intro j hj
      obtain ⟨m, hm⟩ := List.getElem?_of_mem hj
      have := good_in' hg m j hm
      exact i4 j.toNat (by omega)
    have hvals : (gs[k].inp.map fun j => litHolds (extTo N gs gate a k).2 (gate.getD j.toNat 0)) = inVals gs[k] (valsTo gs a k) := by
      unfold inVals
      apply List.map_congr_left
      exact fun j hj => (hjs j hj).2
    have hval := valsTo_last gs a k hlt
    have hle1 : (runTo N gs k).1 ≤ (runTo N gs (k + 1)).1 := (runTo_mono N gs k (k + 1) (by omega) hk).2
    -- it is enough to know the step
    suffices hstep : (extTo N gs gate a (k + 1)).1 = (runTo N gs (k + 1)).1 ∧ agree (runTo N gs k).1 (extTo N gs gate a (k + 1)).2 (extTo N gs gate a k).2 ∧ noneOver (runTo N gs (k + 1)).1 (extTo N gs gate a (k + 1)).2 ∧
        okL (runTo N gs (k + 1)).1 (gate.getD k 0) ∧ litHolds (extTo N gs gate a (k + 1)).2 (gate.getD k 0) = valueOf gs[k] a (valsTo gs a k) ∧
        ∀ t, agree (runTo N gs k).1 t (extTo N gs gate a k).2 → ((gateS (runTo N gs k).1 gs[k].kind gs[k].lit (gs[k].inp.map fun j => gate.getD j.toNat 0)).2.1.all (rowTrue t) = true ↔ agree (runTo N gs (k + 1)).1 t (extTo N gs gate a (k + 1)).2) by
      obtain ⟨s1, s2, s3, s4, s5, s6⟩ := hstep
      refine ⟨s1, (s2.mono i3').trans i2, s3, by omega, fun j hj => ?_, fun t ht => ?_⟩
      · by_cases e : j = k
        · subst e; exact ⟨s4, by rw [s5, hval]⟩
        · obtain ⟨q1, q2⟩ := i4 j (by omega)
          exact ⟨q1.mono hle1, by rw [litHolds_agree q1 (by omega) s2, q2, valsTo_old gs a k j (by omega)]⟩
      · rw [hrun, List.all_append, Bool.and_eq_true]
        simp only
        constructor
        · intro ⟨q1, q2⟩
          have := (s6 t ((i5 t ht).1 q1)).1 q2
          rw [hrun] at this
          exact this
        · intro q
          have q' : agree (runTo N gs (k + 1)).1 t (extTo N gs gate a (k + 1)).2 := by rw [hrun]; exact q
          have q1 := (q'.mono hle1).trans s2
          exact ⟨(i5 t ht).2 q1, (s6 t q1).2 q'⟩
    obtain ⟨st, hst⟩ : ∃ st, st = extTo N gs gate a k := ⟨_, rfl⟩
    rw [← hst] at i1 i2 i3 hjs hvals hext ⊢
    obtain ⟨n, s⟩ := st
    simp only at i1 i2 i3 hjs hvals ⊢
    subst i1
    have hr1 : (runTo N gs (k + 1)).1 = (gateS (runTo N gs k).1 gs[k].kind gs[k].lit (gs[k].inp.map fun j => gate.getD j.toNat 0)).1 := by rw [hrun]
    rw [hext, hlast, hr1]
    rw [hr1] at hn1
    have hev := eval_take hc ha k hlt
    have hcut := cut_eq i2 ha
    clear hrun hext hlast hr1 hgk hin i4 i5 hst hval hle1 hgt hlen ih
    generalize (runTo N gs k).1 = n at *
    generalize valsTo gs a k = vs at *
    have hlen2 : (gs[k].inp.map fun j => gate.getD j.toNat 0).length = gs[k].inp.length := by simp
    generalize hgk : gs[k] = g at *
    by_cases k2 : g.kind = 2
    · have e1 : extStep N gs gate k g (n, s) = (n, s) := by
        unfold extStep; rw [if_neg (by omega), if_pos k2]
      have e2 : gateS n g.kind g.lit (g.inp.map fun j => gate.getD j.toNat 0) = (n, [], g.lit) := by unfold gateS; rw [if_pos k2]
      rw [e1, e2]
      have hl := (litOk_iff _ _ hb.1 hb.2.1).1 (good_lit hg k2)
      refine ⟨rfl, agree.refl _ _, i3, okL.mono (m := N) hl i3', ?_, fun t ht => by simp; exact ht⟩
      simp only
      rw [litHolds_agree (m := N) hl hb.2.1 i2]
      unfold valueOf; rw [if_neg (by omega), if_pos k2]
    · by_cases k6 : g.kind = 6 ∧ 1 < g.inp.length
      · have e1 : extStep N gs gate k g (n, s) = xorExt gate (n, s) (holdsL s (gate.getD (g.inp.getD 0 0).toNat 0)) g.inp.tail := by
          unfold extStep; rw [if_pos k6]
        have e2 : gateS n g.kind g.lit (g.inp.map fun j => gate.getD j.toNat 0) = xorS n ((g.inp.map fun j => gate.getD j.toNat 0).getD 0 0) (g.inp.map fun j => gate.getD j.toNat 0).tail := by
          unfold gateS; rw [if_neg k2, if_pos ⟨k6.1, by omega⟩]
        rw [e2] at hn1
        rw [e1, e2]
        have ev := valueOf_kind a vs k2 (fun h => by omega)
        rw [ev, ← hvals]
        unfold kindVal
        rw [k6.1]
        simp only [show ¬ (6 : Int) = 1 from by omega, show ¬ (6 : Int) = 3 from by omega, show ¬ (6 : Int) = 4 from by omega, show ¬ (6 : Int) = 5 from by omega, if_false, if_true]
        obtain ⟨gk, gl, gi⟩ := g
        simp only at k6 hjs hvals hn1 ⊢
        match gi, k6.2, hjs, hn1 with
        | j0 :: js, _, hjs, hn1 =>
          simp only [List.map_cons, List.getD_cons_zero, List.tail_cons] at hn1 ⊢
          have hnn : n ≤ 128 := by have := xorS_le n (gate.getD j0.toNat 0) (js.map fun j => gate.getD j.toNat 0); omega
          have hj0 := (hjs j0 List.mem_cons_self).1
          rw [holdsL_in (hj0.mono hnn)]
          obtain ⟨x1, x2, x3, x4, x5, x6⟩ := xorExt_spec gate js n s (gate.getD j0.toNat 0) _ (by omega) i3 hj0 rfl (fun j hj => (hjs j (List.mem_cons_of_mem _ hj)).1) hn1
          refine ⟨x1, x2, x3, x4, ?_, x6⟩
          rw [x5]
          have e3 : onesOf (litHolds s (gate.getD j0.toNat 0) :: js.map fun j => litHolds s (gate.getD j.toNat 0)) = onesOf (js.map fun j => litHolds s (gate.getD j.toNat 0)) + (if litHolds s (gate.getD j0.toNat 0) then 1 else 0) := by
            unfold onesOf; rw [List.countP_cons]
          rw [e3]
          generalize onesOf (js.map fun j => litHolds s (gate.getD j.toNat 0)) = q
          rcases Nat.mod_two_eq_zero_or_one q with hq | hq
          · cases litHolds s (gate.getD j0.toNat 0)
            · simp [hq]
            · have : (q + 1) % 2 = 1 := by omega
              simp [hq, this]
          · cases litHolds s (gate.getD j0.toNat 0)
            · simp [hq]
            · have : (q + 1) % 2 = 0 := by omega
              simp [hq, this]
      · have e1 : extStep N gs gate k g (n, s) = setV (n, s) (valueOf g a vs) := by
          unfold extStep; rw [if_neg k6, if_neg k2]
          simp only
          rw [hcut, hev]
        have k6' : ¬ (g.kind = 6 ∧ 1 < (g.inp.map fun j => gate.getD j.toNat 0).length) := by rw [hlen2]; exact k6
        have e2 : gateS n g.kind g.lit (g.inp.map fun j => gate.getD j.toNat 0) = (n + 1, kindRows g.kind (n + 1) (g.inp.map fun j => gate.getD j.toNat 0), n + 1) := by
          unfold gateS; rw [if_neg k2, if_neg k6']
        rw [e2] at hn1
        rw [e1, e2]
        simp only at hn1 ⊢
        generalize hb' : valueOf g a vs = b
        have hs1 := set_none (b := b) i3
        have hh1 := set_has (b := b) (by omega) hn1 i3
        have ha1 := set_agree (n := n) (s := s) (b := b)
        have hfst : (setV (n, s) b).1 = n + 1 := rfl
        generalize (setV (n, s) b) = st1 at hs1 hh1 ha1 hfst
        refine ⟨hfst, ha1, hs1, .inl ⟨by omega, by omega⟩, by rw [litHolds_var (by omega) hn1]; exact hh1, fun t ht => ?_⟩
        have hal : allowedB g.kind (g.inp.map fun j => gate.getD j.toNat 0).length = true := by
          rw [hlen2]
          unfold goodGate at hg
          simp only [Bool.and_eq_true] at hg
          exact hg.1.1
        rw [kind_true (.inl ⟨by omega, hn1⟩) (fun x hx => by
          obtain ⟨j, hj, rfl⟩ := List.mem_map.1 hx
          exact (hjs j hj).1.mono (by omega)) k2 k6' hal]
        have e3 : (g.inp.map fun j => gate.getD j.toNat 0).map (litHolds t) = inVals g vs := by
          rw [← hvals, List.map_map]
          apply List.map_congr_left
          intro j hj
          exact litHolds_agree (hjs j hj).1 (by omega) ht
        rw [e3, ← valueOf_kind a vs k2 hgl.2.2.2.1, hb', litHolds_var (by omega) hn1, beq_iff_eq, agree_succ]
        constructor
        · intro q; exact ⟨ht.trans ha1.symm, fun _ => q.trans hh1.symm⟩
        · intro q; exact (q.2 (by omega)).trans hh1
end Go.Proofs.Ytlifakbdgmdafaa
