/-
  What the clauses of a gate say; what Extend sets. Plain lemmas.
-/
import Derived.Test.YtlifakbdgmdafaaSpec
import Derived.Test.YtlifakbdgmdafaaExtend
namespace Go.Proofs.Ytlifakbdgmdafaa
open Go Go.RowKit

def agree (m : Int) (s t : VS) : Prop := ∀ v, 1 ≤ v → v ≤ m → s.has v = t.has v
def noneOver (m : Int) (s : VS) : Prop := ∀ v, m < v → s.has v = false
def okL (m l : Int) : Prop := (1 ≤ l ∧ l ≤ m) ∨ (-m ≤ l ∧ l ≤ -1)

theorem agree.refl (m : Int) (s : VS) : agree m s s := fun _ _ _ => rfl
theorem agree.symm {m : Int} {s t : VS} (h : agree m s t) : agree m t s := fun v h1 h2 => (h v h1 h2).symm
theorem agree.trans {m : Int} {s t u : VS} (h : agree m s t) (k : agree m t u) : agree m s u := fun v h1 h2 => (h v h1 h2).trans (k v h1 h2)
theorem agree.mono {m m' : Int} {s t : VS} (h : agree m s t) (hm : m' ≤ m) : agree m' s t := fun v h1 h2 => h v h1 (by omega)
theorem okL.mono {m m' l : Int} (h : okL m l) (hm : m ≤ m') : okL m' l := by unfold okL at *; omega
theorem okL.neg {m l : Int} (h : okL m l) : okL m (-l) := by unfold okL at *; omega
theorem litHolds_in {s : VS} {l : Int} (h : okL 128 l) : litHolds s l = (s.has (max l (-l)) == decide (0 < l)) := by
  unfold litHolds
  have : litVar l = max l (-l) ∧ litVar l ≠ 0 := by
    unfold litVar; unfold okL at h
    split
    · omega
    · rw [if_pos (by omega)]; omega
  rw [← this.1]
  simp [this.2]
theorem holdsL_in {s : VS} {l : Int} (h : okL 128 l) : holdsL s l = litHolds s l := (litHolds_in h).symm
theorem litHolds_agree {m : Int} {s t : VS} {l : Int} (h : okL m l) (hm : m ≤ 128) (ha : agree m s t) : litHolds s l = litHolds t l := by
  rw [litHolds_in (h.mono hm), litHolds_in (h.mono hm)]
  unfold okL at h
  rw [ha (max l (-l)) (by omega) (by omega)]
theorem litHolds_neg {s : VS} {l : Int} (h : okL 128 l) : litHolds s (-l) = !litHolds s l := by
  rw [litHolds_in h, litHolds_in h.neg]
  have e : max (-l) (- -l) = max l (-l) := by omega
  rw [e]
  unfold okL at h
  by_cases hl : 0 < l
  · have h1 : decide (0 < l) = true := by simpa using hl
    have h2 : decide (0 < -l) = false := by simp; omega
    rw [h1, h2]; cases s.has (max l (-l)) <;> rfl
  · have h1 : decide (0 < l) = false := by simpa using hl
    have h2 : decide (0 < -l) = true := by simp; omega
    rw [h1, h2]; cases s.has (max l (-l)) <;> rfl
theorem litHolds_var {s : VS} {v : Int} (h1 : 1 ≤ v) (h2 : v ≤ 128) : litHolds s v = s.has v := by
  rw [litHolds_in (.inl ⟨h1, h2⟩), show max v (-v) = v from by omega]
  have : decide (0 < v) = true := by simp; omega
  rw [this]; cases s.has v <;> rfl

/-! setV -/
theorem set_has {n : Int} {s : VS} {b : Bool} (h0 : 0 ≤ n) (hn : n + 1 ≤ 128) (hs : noneOver n s) : (setV (n, s) b).2.has (n + 1) = b := by
  unfold setV
  cases b
  · simp only [Bool.false_eq_true, if_false]; exact hs _ (by omega)
  · simp only [if_true]; rw [VS.has_with]; simp; right; omega
theorem set_agree {n : Int} {s : VS} {b : Bool} : agree n (setV (n, s) b).2 s := by
  intro v h1 h2
  unfold setV
  cases b
  · rfl
  · simp only [if_true]; rw [VS.has_with]
    have : decide (v = n + 1) = false := by simp; omega
    rw [this]; simp
theorem set_none {n : Int} {s : VS} {b : Bool} (hs : noneOver n s) : noneOver (n + 1) (setV (n, s) b).2 := by
  intro v hv
  unfold setV
  cases b
  · exact hs _ (by omega)
  · simp only [if_true]; rw [VS.has_with, hs v (by omega)]
    have : decide (v = n + 1) = false := by simp; omega
    rw [this]; simp
/-- One new variable: who agrees below it and has it so agrees up to it. -/
theorem agree_succ {n : Int} {s t : VS} : agree (n + 1) s t ↔ agree n s t ∧ (1 ≤ n + 1 → s.has (n + 1) = t.has (n + 1)) := by
  constructor
  · intro h; exact ⟨h.mono (by omega), fun h1 => h _ h1 (by omega)⟩
  · intro ⟨h1, h2⟩ v h3 h4
    by_cases e : v = n + 1
    · subst e; exact h2 h3
    · exact h1 v h3 (by omega)

/-! The clauses of a kind. -/
def kindVal (kind : Int) (bs : List Bool) : Bool :=
  if kind = 1 then true else if kind = 3 then decide (onesOf bs = 0) else if kind = 4 then decide (onesOf bs = bs.length) else if kind = 5 then decide (0 < onesOf bs)
  else if kind = 6 then decide (onesOf bs % 2 = 1) else if kind = 7 then decide (onesOf bs ≠ 1) else if kind = 8 then (if bs.getD 0 false then bs.getD 1 false else bs.getD 2 false) else false
theorem valueOf_kind {g : Gate} (s : VS) (v : List Bool) (h2 : g.kind ≠ 2) (h8 : g.kind = 8 → g.inp.length = 3) : valueOf g s v = kindVal g.kind (inVals g v) := by
  have hl : (inVals g v).length = g.inp.length := by unfold inVals; simp
  unfold valueOf kindVal
  rw [if_neg h2, hl]
  by_cases h : g.kind = 8
  · rw [h]
    simp only [if_true]
    have h3 := h8 h
    obtain ⟨k, l, i⟩ := g
    simp only at h3
    match i, h3 with
    | [a, b, c], _ => simp [pickVal, inVals]
  · simp only [if_neg h]

theorem sum_true {s : VS} {p a b : Int} (hp : okL 128 p) (ha : okL 128 a) (hb : okL 128 b) : (sumRows p a b).all (rowTrue s) = (litHolds s p == (litHolds s a != litHolds s b)) := by
  simp only [sumRows, List.all_cons, List.all_nil, rowTrue, List.any_cons, List.any_nil, litHolds_neg hp, litHolds_neg ha, litHolds_neg hb]
  cases litHolds s p <;> cases litHolds s a <;> cases litHolds s b <;> rfl
theorem and_rows {s : VS} {v : Int} {l : List Int} (hv : okL 128 v) : (l.map (andRow 1 v)).all (rowTrue s) = (!litHolds s v || l.all (litHolds s)) := by
  induction l with
  | nil => simp
  | cons x r ih =>
    rw [List.map_cons, List.all_cons, ih, List.all_cons]
    simp only [andRow, rowTrue, show (0 : Int) < 1 from by omega, if_true, List.any_cons, List.any_nil, litHolds_neg hv]
    cases litHolds s v <;> cases litHolds s x <;> simp
theorem and_end {s : VS} {l : List Int} (hl : ∀ x ∈ l, okL 128 x) : (l.map (fun a => -1 * a)).any (litHolds s) = !l.all (litHolds s) := by
  induction l with
  | nil => rfl
  | cons x r ih =>
    rw [List.map_cons, List.any_cons, ih (fun y hy => hl y (List.mem_cons_of_mem _ hy)), List.all_cons, show -1 * x = -x from by omega, litHolds_neg (hl x List.mem_cons_self)]
    cases litHolds s x <;> simp
theorem and_true {s : VS} {v : Int} {l : List Int} (hv : okL 128 v) (hl : ∀ x ∈ l, okL 128 x) : (andRows 1 v l).all (rowTrue s) = (litHolds s v == l.all (litHolds s)) := by
  unfold andRows
  rw [List.all_append, and_rows hv, List.all_cons, List.all_nil, rowTrue, List.any_cons, and_end hl, show 1 * v = v from by omega]
  cases litHolds s v <;> cases l.all (litHolds s) <;> rfl
theorem or_rows {s : VS} {v : Int} {l : List Int} (hl : ∀ x ∈ l, okL 128 x) : (l.map (andRow (-1) v)).all (rowTrue s) = (litHolds s v || !l.any (litHolds s)) := by
  induction l with
  | nil => simp
  | cons x r ih =>
    rw [List.map_cons, List.all_cons, ih (fun y hy => hl y (List.mem_cons_of_mem _ hy)), List.any_cons]
    simp only [andRow, rowTrue, show ¬ (0 : Int) < -1 from by omega, if_false, List.any_cons, List.any_nil, litHolds_neg (hl x List.mem_cons_self)]
    cases litHolds s v <;> cases litHolds s x <;> simp
theorem or_end {s : VS} {l : List Int} : (l.map (fun a => - -1 * a)).any (litHolds s) = l.any (litHolds s) := by
  induction l with
  | nil => rfl
  | cons x r ih => rw [List.map_cons, List.any_cons, ih, List.any_cons, show - -1 * x = x from by omega]
theorem or_true {s : VS} {v : Int} {l : List Int} (hv : okL 128 v) (hl : ∀ x ∈ l, okL 128 x) : (andRows (-1) v l).all (rowTrue s) = (litHolds s v == l.any (litHolds s)) := by
  unfold andRows
  rw [List.all_append, or_rows hl, List.all_cons, List.all_nil, rowTrue, List.any_cons, or_end, show -1 * v = -v from by omega, litHolds_neg hv]
  cases litHolds s v <;> cases l.any (litHolds s) <;> rfl
theorem onesOf_map (s : VS) (l : List Int) : l.all (litHolds s) = decide (onesOf (l.map (litHolds s)) = (l.map (litHolds s)).length) := by
  rw [← onesOf_all, List.all_map]; rfl
theorem onesOf_map_any (s : VS) (l : List Int) : l.any (litHolds s) = decide (0 < onesOf (l.map (litHolds s))) := by
  rw [← onesOf_any, List.any_map]; rfl
/-- The clauses of a gate (no literal, no exclusive or of two or more) say that its variable is its value. -/
theorem kind_true {s : VS} {kind v : Int} {l : List Int} (hv : okL 128 v) (hl : ∀ x ∈ l, okL 128 x) (h2 : kind ≠ 2) (h6 : ¬ (kind = 6 ∧ 1 < l.length)) (ha : allowedB kind l.length = true) :
    (kindRows kind v l).all (rowTrue s) = (litHolds s v == kindVal kind (l.map (litHolds s))) := by
  unfold kindRows kindVal
  by_cases k1 : kind = 1
  · subst k1; simp [rowTrue]
  by_cases k3 : kind = 3
  · subst k3
    have hlen : l.length = 1 := by simp [allowedB] at ha; omega
    match l, hlen, hl with
    | [a], _, hl =>
      have h1 := litHolds_neg (s := s) hv
      have h3 := litHolds_neg (s := s) (hl a (by simp))
      simp [rowTrue, h1, h3, onesOf]
      cases litHolds s v <;> cases litHolds s a <;> rfl
  by_cases k4 : kind = 4
  · subst k4; simp only [show ¬ (4 : Int) = 1 from by omega, show ¬ (4 : Int) = 3 from by omega, if_false, if_true]; rw [and_true hv hl, onesOf_map]
  by_cases k5 : kind = 5
  · subst k5; simp only [show ¬ (5 : Int) = 1 from by omega, show ¬ (5 : Int) = 3 from by omega, show ¬ (5 : Int) = 4 from by omega, if_false, if_true]; rw [or_true hv hl, onesOf_map_any]
  by_cases k7 : kind = 7
  · subst k7
    have hlen : l.length = 2 := by simp [allowedB] at ha; omega
    match l, hlen, hl with
    | [a, b], _, hl =>
      have h1 := litHolds_neg (s := s) hv
      have h3 := litHolds_neg (s := s) (hl a (by simp))
      have h4 := litHolds_neg (s := s) (hl b (by simp))
      simp [rowTrue, h1, h3, h4, onesOf, iffRows]
      cases litHolds s v <;> cases litHolds s a <;> cases litHolds s b <;> rfl
  by_cases k8 : kind = 8
  · subst k8
    have hlen : l.length = 3 := by simp [allowedB] at ha; omega
    match l, hlen, hl with
    | [a, b, c], _, hl =>
      have h1 := litHolds_neg (s := s) hv
      have h3 := litHolds_neg (s := s) (hl a (by simp))
      have h4 := litHolds_neg (s := s) (hl b (by simp))
      have h5 := litHolds_neg (s := s) (hl c (by simp))
      simp [rowTrue, h1, h3, h4, h5, choiceRows]
      cases litHolds s v <;> cases litHolds s a <;> cases litHolds s b <;> cases litHolds s c <;> rfl
  simp only [if_neg k1, if_neg k3, if_neg k4, if_neg k5, if_neg k7, if_neg k8]
  by_cases k6 : kind = 6
  · subst k6
    match l, h6, hl with
    | [], _, _ => simp [rowTrue, litHolds_neg hv, onesOf]
    | [a], _, hl =>
      have h1 := litHolds_neg (s := s) hv
      have h3 := litHolds_neg (s := s) (hl a (by simp))
      simp [rowTrue, h1, h3, onesOf]
      cases litHolds s v <;> cases litHolds s a <;> rfl
    | a :: b :: r, h6, _ => simp at h6
  · rw [if_neg (fun h => k6 h.1), if_neg k6]
    simp [rowTrue, litHolds_neg hv]

/-! Exclusive or, partial sum by partial sum. -/
theorem xorExt_spec (gate : List Int) (js : List Int) : ∀ (n : Int) (s : VS) (last : Int) (odd : Bool), 0 ≤ n → noneOver n s → okL n last → litHolds s last = odd → (∀ j ∈ js, okL n (gate.getD j.toNat 0)) →
    (xorS n last (js.map fun j => gate.getD j.toNat 0)).1 ≤ 128 →
    (xorExt gate (n, s) odd js).1 = (xorS n last (js.map fun j => gate.getD j.toNat 0)).1 ∧ agree n (xorExt gate (n, s) odd js).2 s ∧
    noneOver (xorS n last (js.map fun j => gate.getD j.toNat 0)).1 (xorExt gate (n, s) odd js).2 ∧
    okL (xorS n last (js.map fun j => gate.getD j.toNat 0)).1 (xorS n last (js.map fun j => gate.getD j.toNat 0)).2.2 ∧
    litHolds (xorExt gate (n, s) odd js).2 (xorS n last (js.map fun j => gate.getD j.toNat 0)).2.2 = (odd != decide (onesOf (js.map fun j => litHolds s (gate.getD j.toNat 0)) % 2 = 1)) ∧
    ∀ t : VS, agree n t s → ((xorS n last (js.map fun j => gate.getD j.toNat 0)).2.1.all (rowTrue t) = true ↔ agree (xorS n last (js.map fun j => gate.getD j.toNat 0)).1 t (xorExt gate (n, s) odd js).2) := by
  induction js with
  | nil =>
    intro n s last odd h0 hs hl ho _ hn
    refine ⟨rfl, agree.refl _ _, hs, hl, ?_, fun t ht => ?_⟩
    · simpa [xorExt, xorS, onesOf] using ho
    · simp [xorS, xorExt]; exact ht
  | cons j r ih =>
    intro n s last odd h0 hs hl ho hin hn
    have hj := hin j List.mem_cons_self
    simp only [List.map_cons, xorS] at hn ⊢
    have hle := xorS_le (n + 1) (n + 1) (r.map fun j => gate.getD j.toNat 0)
    have hn1 : n + 1 ≤ 128 := by omega
    rw [xorExt, holdsL_in (hj.mono (by omega))]
    generalize hb : (odd != litHolds s (gate.getD j.toNat 0)) = b
    have hs1 := set_none (b := b) hs
    have hh1 := set_has (b := b) h0 hn1 hs
    have ha1 := set_agree (n := n) (s := s) (b := b)
    have e1 : (setV (n, s) b).1 = n + 1 := rfl
    have hst : setV (n, s) b = (n + 1, (setV (n, s) b).2) := rfl
    rw [hst]
    generalize (setV (n, s) b).2 = s1 at hs1 hh1 ha1
    have hlv : litHolds s1 (n + 1) = b := by rw [litHolds_var (by omega) hn1]; exact hh1
    obtain ⟨i1, i2, i3, i4, i5, i6⟩ := ih (n + 1) s1 (n + 1) b (by omega) hs1 (.inl ⟨by omega, by omega⟩) hlv (fun j' hj' => (hin j' (List.mem_cons_of_mem _ hj')).mono (by omega)) hn
    refine ⟨i1, (i2.mono (by omega)).trans ha1, i3, i4, ?_, fun t ht => ?_⟩
    · rw [i5, ← hb]
      have e2 : (r.map fun j => litHolds s1 (gate.getD j.toNat 0)) = r.map fun j => litHolds s (gate.getD j.toNat 0) := by
        apply List.map_congr_left
        intro x hx
        exact litHolds_agree (hin x (List.mem_cons_of_mem _ hx)) (by omega) ha1
      rw [e2]
      have e3 : onesOf (litHolds s (gate.getD j.toNat 0) :: r.map fun j => litHolds s (gate.getD j.toNat 0)) = onesOf (r.map fun j => litHolds s (gate.getD j.toNat 0)) + (if litHolds s (gate.getD j.toNat 0) then 1 else 0) := by
        unfold onesOf; rw [List.countP_cons]
      rw [e3]
      generalize onesOf (r.map fun j => litHolds s (gate.getD j.toNat 0)) = q
      rcases Nat.mod_two_eq_zero_or_one q with hq | hq
      · cases litHolds s (gate.getD j.toNat 0)
        · simp [hq]
        · have : (q + 1) % 2 = 1 := by omega
          simp [hq, this]
      · cases litHolds s (gate.getD j.toNat 0)
        · simp [hq]
        · have : (q + 1) % 2 = 0 := by omega
          simp [hq, this]
    · rw [List.all_append, Bool.and_eq_true, sum_true (.inl ⟨by omega, hn1⟩) (hl.mono (by omega)) (hj.mono (by omega))]
      have e4 : litHolds t last = odd := (litHolds_agree hl (by omega) ht).trans ho
      have e5 : litHolds t (gate.getD j.toNat 0) = litHolds s (gate.getD j.toNat 0) := litHolds_agree hj (by omega) ht
      rw [e4, e5, hb, litHolds_var (by omega) hn1, beq_iff_eq]
      constructor
      · intro ⟨q1, q2⟩
        exact (i6 t (agree_succ.2 ⟨ht.trans ha1.symm, fun _ => q1.trans hh1.symm⟩)).1 q2
      · intro q
        have q1 : agree (n + 1) t s1 := (q.mono hle).trans i2
        exact ⟨(q1 _ (by omega) (by omega)).trans hh1, (i6 t q1).2 q⟩
end Go.Proofs.Ytlifakbdgmdafaa
