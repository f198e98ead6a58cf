/-
  Lemmas and contracts, joined: FoldSem FoldSem2 FoldSem3 Claw8 FoldNf FoldTw FoldTw2.
-/
import Derived.Test.YtbemhgojfehnjaaDoorPk4
import Derived.Test.YtbemhgojfehnjaaDoorPk1
import Derived.Test.YtbemhgojfehnjaaDoorPk5
import Derived.Test.YtbemhgojfehnjaaDoorPk6
import Derived.Test.YtbemhgojfehnjaaDoorPk8
namespace Go.Proofs.YtbemhgojfehnjaaDoor
open Go
def vals (L : List Gate) (s : VS) : List Bool := valsTo L s L.length
def vg (v : List Bool) (i : Int) : Bool := v.getD i.toNat false
theorem vals_len (L : List Gate) (s : VS) : (vals L s).length = L.length := valsTo_length _ _ _
theorem valsTo_pre {L : List Gate} (M : List Gate) (s : VS) : ∀ k, k ≤ L.length → valsTo (L ++ M) s k = valsTo L s k
  | 0, _ => rfl
  | k + 1, h => by
    rw [valsTo_succ _ _ _ (by rw [List.length_append]; omega), valsTo_succ _ _ _ (by omega), valsTo_pre M s k (by omega), List.getElem_append_left]
theorem vals_snoc (L : List Gate) (g : Gate) (s : VS) : vals (L ++ [g]) s = vals L s ++ [valueOf g s (vals L s)] := by
  unfold vals
  rw [List.length_append, List.length_singleton, valsTo_succ _ _ _ (by simp), valsTo_pre [g] s L.length (Nat.le_refl _), List.getElem_append_right (Nat.le_refl _)]
  simp
theorem vals_nil (s : VS) : vals [] s = [] := rfl
theorem vg_app (v u : List Bool) {i : Int} (h : i < (v.length : Int)) (h0 : 0 ≤ i) : vg (v ++ u) i = vg v i := by
  unfold vg
  rw [List.getD_eq_getElem?_getD, List.getD_eq_getElem?_getD, List.getElem?_append_left (by omega)]
section
variable {N : Int} {B : Nat} {L : List Gate}
theorem vals_at (hw : wfL N B L) (s : VS) {i : Nat} (hi : i < L.length) : (vals L s).getD i false = valueOf L[i] s (vals L s) := by
  obtain ⟨hg, _⟩ := hw i L[i] (List.getElem?_eq_getElem hi)
  have h1 := valsTo_last L s i hi
  have h2 := valsTo_getD L s i (i + 1) L.length (by omega) (by omega)
  have h3 := valueOf_take (g := L[i]) s (vals L s) i (fun j x hx => good_in' hg j x hx) (fun h8 => (good_len hg).2.2.2.1 h8)
  unfold vals at h3 ⊢
  rw [valsTo_take L s i L.length (by omega)] at h3
  rw [h2, h1, h3]
theorem vg_at (hw : wfL N B L) (s : VS) {i : Int} (hi : inR L i) : vg (vals L s) i = valueOf (gateAt L i) s (vals L s) := by
  obtain ⟨k, rfl, hk, h1, _⟩ := gateAt_get hi
  unfold vg
  rw [h1]
  exact vals_at hw s hk
theorem value0 (s : VS) (v : List Bool) (l : Int) (q : List Int) : valueOf ⟨0, l, q⟩ s v = false := by simp [valueOf]
theorem value1 (s : VS) (v : List Bool) (l : Int) (q : List Int) : valueOf ⟨1, l, q⟩ s v = true := by simp [valueOf]
theorem value2 (s : VS) (v : List Bool) (l : Int) (q : List Int) : valueOf ⟨2, l, q⟩ s v = litHolds s l := by simp [valueOf]
theorem inVals_mk (k l : Int) (q : List Int) (v : List Bool) : inVals ⟨k, l, q⟩ v = q.map (vg v) := rfl
theorem onesOf_cons (b : Bool) (l : List Bool) : onesOf (b :: l) = onesOf l + (if b then 1 else 0) := by
  unfold onesOf; rw [List.countP_cons]
theorem value3 (s : VS) (v : List Bool) (l a : Int) : valueOf ⟨3, l, [a]⟩ s v = !(vg v a) := by
  have : valueOf ⟨3, l, [a]⟩ s v = decide (onesOf [vg v a] = 0) := by simp [valueOf, inVals_mk]
  rw [this, onesOf_cons]
  cases vg v a <;> rfl
theorem value4 (s : VS) (v : List Bool) (l : Int) (q : List Int) : valueOf ⟨4, l, q⟩ s v = q.all (vg v) := by
  have : valueOf ⟨4, l, q⟩ s v = decide (onesOf (q.map (vg v)) = (q.map (vg v)).length) := by rw [Bool.eq_iff_iff]; simp [valueOf, inVals_mk]; exact decide_eq_true_iff
  rw [this, ← onesOf_all, List.all_map]; rfl
theorem value5 (s : VS) (v : List Bool) (l : Int) (q : List Int) : valueOf ⟨5, l, q⟩ s v = q.any (vg v) := by
  have : valueOf ⟨5, l, q⟩ s v = decide (0 < onesOf (q.map (vg v))) := by rw [Bool.eq_iff_iff]; simp [valueOf, inVals_mk]; exact decide_eq_true_iff
  rw [this, ← onesOf_any, List.any_map]; rfl
/-- Parity. -/
def par (v : List Bool) : List Int → Bool
  | [] => false
  | i :: r => vg v i != par v r
theorem par_ones (v : List Bool) : ∀ q : List Int, decide (onesOf (q.map (vg v)) % 2 = 1) = par v q
  | [] => rfl
  | i :: r => by
    rw [List.map_cons, onesOf_cons, par, ← par_ones v r]
    cases vg v i
    · simp
    · generalize onesOf (r.map (vg v)) = n
      rcases Nat.mod_two_eq_zero_or_one n with h | h
      · have h2 : (n + 1) % 2 = 1 := by omega
        simp [h, h2]
      · have h2 : (n + 1) % 2 = 0 := by omega
        simp [h, h2]
theorem value6 (s : VS) (v : List Bool) (l : Int) (q : List Int) : valueOf ⟨6, l, q⟩ s v = par v q := by
  have : valueOf ⟨6, l, q⟩ s v = decide (onesOf (q.map (vg v)) % 2 = 1) := by rw [Bool.eq_iff_iff]; simp [valueOf, inVals_mk]; exact decide_eq_true_iff
  rw [this, par_ones]
theorem value7 (s : VS) (v : List Bool) (l a b : Int) : valueOf ⟨7, l, [a, b]⟩ s v = (vg v a == vg v b) := by
  have : valueOf ⟨7, l, [a, b]⟩ s v = decide (onesOf [vg v a, vg v b] ≠ 1) := by simp [valueOf, inVals_mk]
  rw [this, onesOf_cons, onesOf_cons]
  cases vg v a <;> cases vg v b <;> rfl
theorem value8 (s : VS) (v : List Bool) (l a b c : Int) : valueOf ⟨8, l, [a, b, c]⟩ s v = if vg v a then vg v b else vg v c := by
  have : valueOf ⟨8, l, [a, b, c]⟩ s v = pickVal v [a, b, c] := by simp [valueOf]
  rw [this]; rfl
theorem kind_val (hw : wfL N B L) (s : VS) {i : Int} (hi : inR L i) : (kindAt L i = 0 → vg (vals L s) i = false) ∧ (kindAt L i = 1 → vg (vals L s) i = true) := by
  rw [vg_at hw s hi]
  unfold kindAt
  generalize gateAt L i = g
  obtain ⟨k, l, q⟩ := g
  exact ⟨fun h => by simp only at h; subst h; exact value0 _ _ _ _, fun h => by simp only at h; subst h; exact value1 _ _ _ _⟩
theorem lit_neg {s : VS} {l : Int} (h : litVar l ≠ 0) : litHolds s (-l) = !litHolds s l := by
  have h1 : litVar (-l) = litVar l := by
    unfold litVar at h ⊢
    split at h
    · rw [if_neg (by omega), if_pos (by omega), if_pos (by omega)]; omega
    · split at h
      · rw [if_pos (by omega), if_neg (by omega), if_pos (by omega)]
      · omega
  have h2 : l ≠ 0 := by
    intro e
    subst e
    exact h (by decide)
  unfold litHolds
  rw [h1]
  have h3 : decide (litVar l ≠ 0) = true := decide_eq_true h
  rw [h3]
  by_cases hp : 0 < l
  · rw [decide_eq_true hp, decide_eq_false (show ¬ 0 < -l by omega)]
    cases s.has (litVar l) <;> rfl
  · rw [decide_eq_false hp, decide_eq_true (show 0 < -l by omega)]
    cases s.has (litVar l) <;> rfl
/-- What a step makes: at most one gate, a new one, of at most m inputs; the number stands for b. -/
structure Sm (m : Nat) (L : List Gate) (q : List Gate × Int) (b : VS → Bool) : Prop where
  add : q.1 = L ∨ ∃ g, q.1 = L ++ [g] ∧ g ∉ L ∧ g.inp.length ≤ m
  val : ∀ s, vg (vals q.1 s) q.2 = b s
theorem Sm.mono {m m' : Nat} {q : List Gate × Int} {b : VS → Bool} (h : Sm m L q b) (hm : m ≤ m') : Sm m' L q b :=
  ⟨h.add.imp id (fun ⟨g, h1, h2, h3⟩ => ⟨g, h1, h2, Nat.le_trans h3 hm⟩), h.val⟩
theorem Sm.to {m : Nat} {q : List Gate × Int} {b b' : VS → Bool} (h : Sm m L q b) (hb : ∀ s, b s = b' s) : Sm m L q b' := ⟨h.add, fun s => by rw [h.val, hb]⟩
theorem keep_sm (i : Int) : Sm 0 L (L, i) (fun s => vg (vals L s) i) := ⟨.inl rfl, fun _ => rfl⟩
theorem gidx_none {g : Gate} : ∀ {L : List Gate} {i : Nat}, gidx g L i = none → g ∉ L
  | [], _, _ => by simp
  | h :: l, i, e => by
    unfold gidx at e
    split at e
    · cases e
    · rename_i hn
      intro hm
      rcases List.mem_cons.1 hm with h1 | h1
      · exact hn h1
      · exact gidx_none e h1
theorem find_sm (hw : wfL N B L) (g : Gate) : Sm g.inp.length L (findG L g) (fun s => valueOf g s (vals L s)) := by
  unfold findG
  cases hx : gidx g L 0 with
  | some k =>
    obtain ⟨_, h2, h3⟩ := gidx_lt hx
    refine ⟨.inl rfl, fun s => ?_⟩
    have hk : k < L.length := by omega
    have he : L[k] = g := by
      rw [Nat.sub_zero, List.getElem?_eq_getElem hk] at h3
      exact Option.some.inj h3
    show (vals L s).getD k false = _
    rw [vals_at hw s hk, he]
  | none =>
    refine ⟨.inr ⟨g, rfl, gidx_none hx, Nat.le_refl _⟩, fun s => ?_⟩
    show (vals (L ++ [g]) s).getD L.length false = _
    rw [vals_snoc, List.getD_eq_getElem?_getD, List.getElem?_append_right (by rw [vals_len]; omega), vals_len]
    simp
theorem not_sm (hw : wfL N B L) {i : Int} (hi : inR L i) : Sm 1 L (notG L i) (fun s => !(vg (vals L s) i)) := by
  have hv : ∀ s, vg (vals L s) i = valueOf (gateAt L i) s (vals L s) := fun s => vg_at hw s hi
  obtain ⟨k, rfl, hk, h1, h2⟩ := gateAt_get hi
  obtain ⟨hg, _⟩ := hw k _ h2
  rw [notG_eq hk]
  rw [h1] at hv
  obtain ⟨p1, p2, p3⟩ := good_parts hg
  generalize L[k] = g at hv p1 p2 p3
  obtain ⟨kd, lt, ins⟩ := g
  simp only at hv p1 p2 p3 ⊢
  split
  · rename_i h; subst h
    exact ((find_sm hw ⟨1, 0, []⟩).mono (Nat.zero_le _)).to (fun s => by rw [hv, value0, value1]; rfl)
  · split
    · rename_i h; subst h
      exact ((find_sm hw ⟨0, 0, []⟩).mono (Nat.zero_le _)).to (fun s => by rw [hv, value0, value1]; rfl)
    · split
      · rename_i h; subst h
        refine ((find_sm hw ⟨2, -lt, []⟩).mono (Nat.zero_le _)).to (fun s => ?_)
        rw [hv, value2, value2, lit_neg]
        unfold litGood at p2
        rw [if_pos rfl] at p2
        unfold litOk at p2
        simp only [decide_eq_true_eq] at p2
        exact p2.1
      · split
        · rename_i h; subst h
          have := allowed3 p1
          match ins, (show ins.length = 1 by omega) with
          | [a], _ => exact ((keep_sm a).mono (Nat.zero_le _)).to (fun s => by rw [hv, value3, Bool.not_not])
        · exact (find_sm hw ⟨3, 0, [(k : Int)]⟩).to (fun s => value3 _ _ _ _)
/-! Many. -/
theorem sem4 (hw : wfL N B L) (s : VS) : ∀ (r left : List Int), (∀ x ∈ r, inR L x) →
    match manyGo L 1 0 r left with
    | .inl i => vg (vals L s) i = false ∧ (left.all (vg (vals L s)) && r.all (vg (vals L s))) = false
    | .inr l => l.all (vg (vals L s)) = (left.all (vg (vals L s)) && r.all (vg (vals L s)))
  | [], left, _ => by simp [manyGo]
  | i :: r, left, h => by
    have hk := kind_val hw s (h i (by simp))
    have h' : ∀ x ∈ r, inR L x := fun x hx => h x (by simp [hx])
    unfold manyGo
    by_cases h0 : kindAt L i = 0
    · rw [if_pos h0]
      exact ⟨hk.1 h0, by simp [hk.1 h0]⟩
    · rw [if_neg h0]
      by_cases h1 : kindAt L i ≠ 1 ∧ i ∉ left
      · rw [if_pos h1]
        have := sem4 hw s r (left ++ [i]) h'
        simp only [List.all_append, List.all_cons, List.all_nil, Bool.and_true, Bool.and_assoc] at this ⊢
        exact this
      · rw [if_neg h1]
        have := sem4 hw s r left h'
        have hv : left.all (vg (vals L s)) = (left.all (vg (vals L s)) && vg (vals L s) i) := by
          by_cases h2 : kindAt L i = 1
          · rw [hk.2 h2, Bool.and_true]
          · have hm : i ∈ left := Classical.byContradiction fun hc => h1 ⟨h2, hc⟩
            cases e : left.all (vg (vals L s)) with
            | false => rfl
            | true => rw [List.all_eq_true.1 e i hm]; rfl
        simp only [List.all_cons]
        rw [← Bool.and_assoc, ← hv]
        exact this
theorem sem5 (hw : wfL N B L) (s : VS) : ∀ (r left : List Int), (∀ x ∈ r, inR L x) →
    match manyGo L 0 1 r left with
    | .inl i => vg (vals L s) i = true ∧ (left.any (vg (vals L s)) || r.any (vg (vals L s))) = true
    | .inr l => l.any (vg (vals L s)) = (left.any (vg (vals L s)) || r.any (vg (vals L s)))
  | [], left, _ => by simp [manyGo]
  | i :: r, left, h => by
    have hk := kind_val hw s (h i (by simp))
    have h' : ∀ x ∈ r, inR L x := fun x hx => h x (by simp [hx])
    unfold manyGo
    by_cases h0 : kindAt L i = 1
    · rw [if_pos h0]
      exact ⟨hk.2 h0, by simp [hk.2 h0]⟩
    · rw [if_neg h0]
      by_cases h1 : kindAt L i ≠ 0 ∧ i ∉ left
      · rw [if_pos h1]
        have := sem5 hw s r (left ++ [i]) h'
        simp only [List.any_append, List.any_cons, List.any_nil, Bool.or_false, Bool.or_assoc] at this ⊢
        exact this
      · rw [if_neg h1]
        have := sem5 hw s r left h'
        have hv : left.any (vg (vals L s)) = (left.any (vg (vals L s)) || vg (vals L s) i) := by
          by_cases h2 : kindAt L i = 0
          · rw [hk.1 h2, Bool.or_false]
          · have hm : i ∈ left := Classical.byContradiction fun hc => h1 ⟨h2, hc⟩
            cases e : vg (vals L s) i with
            | false => rw [Bool.or_false]
            | true => rw [Bool.or_true]; exact List.any_eq_true.2 ⟨i, hm, e⟩
        simp only [List.any_cons]
        rw [← Bool.or_assoc, ← hv]
        exact this
theorem many_sm (hw : wfL N B L) {kind : Int} (hk : kind = 4 ∨ kind = 5) {ins : List Int} (hi : ∀ x ∈ ins, inR L x) : Sm ins.length L (manyG L kind ins) (fun s => valueOf ⟨kind, 0, ins⟩ s (vals L s)) := by
  have hlen := manyGo_ok (L := L) (if kind = 5 then 0 else 1) (if kind = 5 then 1 else 0) (P := inR L) ins [] ins.length (by simp) hi (by simp)
  unfold manyG
  rcases hk with rfl | rfl
  · have hs := fun s => sem4 hw s ins [] hi
    simp only [show ¬ ((4 : Int) = 5) from by decide, if_false] at hlen ⊢
    generalize manyGo L 1 0 ins [] = q at hs hlen
    simp only [List.all_nil, Bool.true_and] at hs
    match q, hs, hlen with
    | .inl i, hs, _ => exact ((keep_sm i).mono (Nat.zero_le _)).to (fun s => by rw [value4, (hs s).1, (hs s).2])
    | .inr [], hs, _ => exact ((find_sm hw ⟨1, 0, []⟩).mono (Nat.zero_le _)).to (fun s => by rw [value4, value1, ← hs s]; rfl)
    | .inr [x], hs, _ => exact ((keep_sm x).mono (Nat.zero_le _)).to (fun s => by rw [value4, ← hs s]; simp)
    | .inr (x :: y :: l), hs, hl => exact ((find_sm hw ⟨4, 0, x :: y :: l⟩).mono hl.2).to (fun s => by rw [value4, value4, ← hs s])
  · have hs := fun s => sem5 hw s ins [] hi
    simp only [if_true] at hlen ⊢
    generalize manyGo L 0 1 ins [] = q at hs hlen
    simp only [List.any_nil, Bool.false_or] at hs
    match q, hs, hlen with
    | .inl i, hs, _ => exact ((keep_sm i).mono (Nat.zero_le _)).to (fun s => by rw [value5, (hs s).1, (hs s).2])
    | .inr [], hs, _ => exact ((find_sm hw ⟨0, 0, []⟩).mono (Nat.zero_le _)).to (fun s => by rw [value5, value0, ← hs s]; rfl)
    | .inr [x], hs, _ => exact ((keep_sm x).mono (Nat.zero_le _)).to (fun s => by rw [value5, ← hs s]; simp)
    | .inr (x :: y :: l), hs, hl => exact ((find_sm hw ⟨5, 0, x :: y :: l⟩).mono hl.2).to (fun s => by rw [value5, value5, ← hs s])
/-! Two and three. -/
theorem iff_sm (hw : wfL N B L) {a b : Int} (ha : inR L a) (hb : inR L b) : Sm 2 L (iffG L a b) (fun s => valueOf ⟨7, 0, [a, b]⟩ s (vals L s)) := by
  have ka := fun s => kind_val hw s ha
  have kb := fun s => kind_val hw s hb
  unfold iffG
  split
  · rename_i h; subst h
    exact ((find_sm hw ⟨1, 0, []⟩).mono (Nat.zero_le _)).to (fun s => by rw [value1, value7]; simp)
  · split
    · rename_i h
      exact ((keep_sm b).mono (Nat.zero_le _)).to (fun s => by rw [value7, (ka s).2 h]; simp)
    · split
      · rename_i h
        exact ((keep_sm a).mono (Nat.zero_le _)).to (fun s => by rw [value7, (kb s).2 h]; simp)
      · split
        · rename_i h
          exact ((not_sm hw hb).mono (by omega)).to (fun s => by rw [value7, (ka s).1 h]; simp)
        · split
          · rename_i h
            exact ((not_sm hw ha).mono (by omega)).to (fun s => by rw [value7, (kb s).1 h]; simp)
          · exact (find_sm hw ⟨7, 0, [a, b]⟩)
theorem choose_sm (hw : wfL N B L) {a b c : Int} (ha : inR L a) (hb : inR L b) (hc : inR L c) : Sm 3 L (chooseG L a b c) (fun s => valueOf ⟨8, 0, [a, b, c]⟩ s (vals L s)) := by
  have ka := fun s => kind_val hw s ha
  have kb := fun s => kind_val hw s hb
  have kc := fun s => kind_val hw s hc
  unfold chooseG
  split
  · rename_i h
    exact ((keep_sm b).mono (Nat.zero_le _)).to (fun s => by rw [value8, (ka s).2 h]; rfl)
  · split
    · rename_i h
      refine ((keep_sm c).mono (Nat.zero_le _)).to (fun s => ?_)
      rw [value8]
      rcases h with h | h
      · rw [(ka s).1 h]; rfl
      · rw [h]; simp
    · split
      · rename_i h
        exact ((keep_sm a).mono (Nat.zero_le _)).to (fun s => by rw [value8, (kb s).2 h.1, (kc s).1 h.2]; simp)
      · split
        · rename_i h
          exact ((not_sm hw ha).mono (by omega)).to (fun s => by rw [value8, (kb s).1 h.1, (kc s).2 h.2]; cases vg (vals L s) a <;> rfl)
        · exact (find_sm hw ⟨8, 0, [a, b, c]⟩)
end
end Go.Proofs.YtbemhgojfehnjaaDoor
namespace Go.Proofs.YtbemhgojfehnjaaDoor
open Go
/-- No gate stands twice. -/
def ND (L : List Gate) : Prop := ∀ (i j : Nat) (g : Gate), L[i]? = some g → L[j]? = some g → i = j
theorem ND.nil : ND [] := fun i j g h => by simp at h
theorem get_snoc {α : Type} {L : List α} {x y : α} {i : Nat} (h : (L ++ [x])[i]? = some y) : L[i]? = some y ∧ i < L.length ∨ i = L.length ∧ y = x := by
  by_cases hi : i < L.length
  · rw [List.getElem?_append_left hi] at h; exact .inl ⟨h, hi⟩
  · rw [List.getElem?_append_right (by omega)] at h
    have e : i - L.length = 0 := by
      rcases Nat.eq_zero_or_pos (i - L.length) with q | q
      · exact q
      · rw [List.getElem?_eq_none (by simp; omega)] at h; cases h
    rw [e] at h
    simp at h
    exact .inr ⟨by omega, h.symm⟩
theorem ND.snoc {L : List Gate} {g : Gate} (h : ND L) (hg : g ∉ L) : ND (L ++ [g]) := by
  intro i j x hi hj
  rcases get_snoc hi with ⟨a, _⟩ | ⟨a, rfl⟩ <;> rcases get_snoc hj with ⟨b, _⟩ | ⟨b, e⟩
  · exact h i j x a b
  · exact absurd (List.mem_of_getElem? a) (by rw [e]; exact hg)
  · exact absurd (List.mem_of_getElem? b) hg
  · omega
def off (odd : Int → Bool) (i : Int) : Int → Bool := fun x => if x = i then false else odd x
theorem off_comm (odd : Int → Bool) (i j : Int) : off (off odd i) j = off (off odd j) i := by
  funext x
  unfold off
  split <;> split <;> rfl
theorem off_same {odd : Int → Bool} {i : Int} (h : odd i = false) : off odd i = odd := by
  funext x
  unfold off
  split
  · rename_i e; rw [e, h]
  · rfl
theorem off_off (odd : Int → Bool) (i : Int) : off (off odd i) i = off odd i := off_same (by simp [off])
def dsum (v : List Bool) : (Int → Bool) → List Int → Bool
  | _, [] => false
  | odd, i :: r => if odd i = true then (vg v i != dsum v (off odd i) r) else dsum v odd r
theorem dsum_dead {v : List Bool} {i : Int} (hv : vg v i = false) : ∀ (r : List Int) (odd : Int → Bool), dsum v (off odd i) r = dsum v odd r
  | [], _ => rfl
  | j :: r, odd => by
    by_cases e : j = i
    · subst e
      have h1 : ¬ (off odd j j = true) := by simp [off]
      rw [dsum, dsum, if_neg h1]
      split
      · rw [hv]; cases dsum v (off odd j) r <;> rfl
      · exact dsum_dead hv r odd
    · have h1 : off odd i j = odd j := by simp [off, e]
      rw [dsum, dsum, h1]
      split
      · rw [off_comm, dsum_dead hv r (off odd j)]
      · exact dsum_dead hv r odd
theorem dsum_take {v : List Bool} {i : Int} : ∀ (r : List Int) (odd : Int → Bool), odd i = true → i ∈ r → dsum v odd r = (vg v i != dsum v (off odd i) r)
  | [], _, _, h => by cases h
  | j :: r, odd, ho, hm => by
    by_cases e : j = i
    · subst e
      have h1 : ¬ (off odd j j = true) := by simp [off]
      rw [dsum, if_pos ho, dsum, if_neg h1]
    · have hm' : i ∈ r := by
        rcases List.mem_cons.1 hm with h | h
        · exact absurd h.symm e
        · exact h
      have h1 : off odd i j = odd j := by simp [off, e]
      rw [dsum, dsum, h1]
      split
      · rw [dsum_take r (off odd j) (by simp [off, Ne.symm e, ho]) hm', off_comm odd j i]
        cases vg v i <;> cases vg v j <;> cases dsum v (off (off odd i) j) r <;> rfl
      · exact dsum_take r odd ho hm'
theorem odd_mem {x : Int} : ∀ {l : List Int}, oddIn x l = true → x ∈ l
  | [], h => by cases h
  | y :: l, h => by
    by_cases e : x = y
    · rw [e]; exact List.mem_cons_self ..
    · rw [oddIn, decide_eq_false e] at h
      exact List.mem_cons_of_mem _ (odd_mem (by simpa using h))
theorem dsum_par (v : List Bool) : ∀ ins : List Int, dsum v (fun x => oddIn x ins) ins = par v ins
  | [] => rfl
  | i :: r => by
    have ih := dsum_par v r
    have ho : off (fun x => oddIn x (i :: r)) i = off (fun x => oddIn x r) i := by
      funext x
      unfold off
      split
      · rfl
      · rename_i h; simp [oddIn, h]
    rw [dsum, par]
    cases h : oddIn i r with
    | false =>
      have h1 : oddIn i (i :: r) = true := by simp [oddIn, h]
      rw [if_pos h1, ho, off_same h, ih]
    | true =>
      have h1 : ¬ (oddIn i (i :: r) = true) := by simp [oddIn, h]
      have h2 : (fun x => oddIn x (i :: r)) = off (fun x => oddIn x r) i := by
        rw [← ho, off_same (by simpa using h1)]
      rw [if_neg h1, h2]
      have := dsum_take (v := v) r (fun x => oddIn x r) h (odd_mem h)
      rw [ih] at this
      rw [this]
      cases vg v i <;> cases dsum v (off (fun x => oddIn x r) i) r <;> rfl
theorem par_snoc (v : List Bool) (i : Int) : ∀ l : List Int, par v (l ++ [i]) = (par v l != vg v i)
  | [] => by simp [par]
  | x :: l => by
    rw [List.cons_append, par, par, par_snoc v i l]
    cases vg v x <;> cases par v l <;> cases vg v i <;> rfl
section
variable {N : Int} {B : Nat} {L : List Gate}
theorem true_gate (hw : wfL N B L) {i : Int} (hi : inR L i) (h : kindAt L i = 1) : L[i.toNat]? = some ⟨1, 0, []⟩ := by
  obtain ⟨k, rfl, hk, h1, h2⟩ := gateAt_get hi
  obtain ⟨hg, _⟩ := hw k _ h2
  obtain ⟨p1, p2, p3⟩ := good_parts hg
  unfold kindAt at h
  rw [h1] at h
  rw [Int.toNat_natCast, h2]
  generalize L[k] = g at h p1 p2
  obtain ⟨kd, lt, ins⟩ := g
  simp only at h p1 p2
  subst h
  have e1 : ins.length = 0 := by simpa [allowedB] using p1
  have e2 : lt = 0 := by simpa [litGood] using p2
  rw [List.length_eq_zero_iff.1 e1, e2]
theorem true_one (hw : wfL N B L) (hn : ND L) {i j : Int} (hi : inR L i) (hj : inR L j) (h1 : kindAt L i = 1) (h2 : kindAt L j = 1) : i = j := by
  have := hn _ _ _ (true_gate hw hi h1) (true_gate hw hj h2)
  have a := hi.1
  have b := hj.1
  omega
def one (last : Int) : Nat := if 0 ≤ last then 1 else 0
theorem xorGo_val (hw : wfL N B L) (hn : ND L) : ∀ (r : List Int) (odd : Int → Bool) (left : List Int) (last : Int), (∀ x ∈ r, inR L x) → (last < 0 ∨ inR L last ∧ kindAt L last = 1 ∧ odd last = false) →
    (∀ s, (par (vals L s) (xorGo L odd r left last).1 != decide (0 ≤ (xorGo L odd r left last).2)) = (par (vals L s) left != (decide (0 ≤ last) != dsum (vals L s) odd r))) ∧
    ((xorGo L odd r left last).2 < 0 ∨ inR L (xorGo L odd r left last).2 ∧ kindAt L (xorGo L odd r left last).2 = 1) ∧ (xorGo L odd r left last).1.length + one (xorGo L odd r left last).2 ≤ left.length + one last + r.length
  | [], odd, left, last, _, hl => ⟨fun s => by show (par (vals L s) left != decide (0 ≤ last)) = (par (vals L s) left != (decide (0 ≤ last) != false)); rw [Bool.bne_false], hl.imp id (fun h => ⟨h.1, h.2.1⟩), by simp [xorGo]⟩
  | i :: r, odd, left, last, hr, hl => by
    have hi := hr i (by simp)
    have hr' : ∀ x ∈ r, inR L x := fun x hx => hr x (by simp [hx])
    have hk := fun s => kind_val hw s hi
    unfold xorGo
    by_cases h0 : odd i = false ∨ kindAt L i = 0
    · rw [if_pos h0]
      obtain ⟨a, b, c⟩ := xorGo_val hw hn r odd left last hr' hl
      refine ⟨fun s => ?_, b, Nat.le_trans c (by simp only [List.length_cons]; omega)⟩
      rw [a s, dsum]
      by_cases ho : odd i = true
      · rw [if_pos ho]
        have hz := (hk s).1 (h0.resolve_left (by simp [ho]))
        rw [hz, dsum_dead hz]
        cases dsum (vals L s) odd r <;> rfl
      · rw [if_neg ho]
    · rw [if_neg h0]
      have ho : odd i = true := by
        cases e : odd i with
        | true => rfl
        | false => exact absurd (.inl e) h0
      by_cases h1 : kindAt L i = 1
      · rw [if_pos h1]
        have hneg : last < 0 := by
          rcases hl with h | ⟨h2, h3, h4⟩
          · exact h
          · have := true_one hw hn h2 hi h3 h1
            rw [this, ho] at h4
            cases h4
        obtain ⟨a, b, c⟩ := xorGo_val hw hn r (off odd i) left i hr' (.inr ⟨hi, h1, by simp [off]⟩)
        refine ⟨fun s => ?_, b, Nat.le_trans c ?_⟩
        · show _ = _
          have := a s
          unfold off at this
          rw [this, dsum, if_pos ho, (hk s).2 h1, decide_eq_true hi.1, decide_eq_false (show ¬ 0 ≤ last by omega)]
          show _ = (par (vals L s) left != (false != (true != dsum (vals L s) (off odd i) r)))
          unfold off
          generalize dsum (vals L s) (fun x => if x = i then false else odd x) r = d
          cases d <;> cases par (vals L s) left <;> rfl
        · have e1 : one i = 1 := if_pos hi.1
          have e2 : one last = 0 := if_neg (by omega)
          simp only [List.length_cons]; omega
      · rw [if_neg h1]
        obtain ⟨a, b, c⟩ := xorGo_val hw hn r (off odd i) (left ++ [i]) last hr' (hl.imp id (fun ⟨h2, h3, h4⟩ => ⟨h2, h3, by unfold off; split; rfl; exact h4⟩))
        refine ⟨fun s => ?_, b, Nat.le_trans c (by simp only [List.length_cons, List.length_append, List.length_nil]; omega)⟩
        have := a s
        unfold off at this
        rw [this, dsum, if_pos ho, par_snoc]
        show _ = (par (vals L s) left != (decide (0 ≤ last) != (vg (vals L s) i != dsum (vals L s) (off odd i) r)))
        unfold off
        generalize dsum (vals L s) (fun x => if x = i then false else odd x) r = d
        generalize decide (0 ≤ last) = e
        cases d <;> cases e <;> cases par (vals L s) left <;> cases vg (vals L s) i <;> rfl
theorem xor_sm (hw : wfL N B L) (hn : ND L) {ins : List Int} (hi : ∀ x ∈ ins, inR L x) : Sm ins.length L (xorG L ins) (fun s => valueOf ⟨6, 0, ins⟩ s (vals L s)) := by
  have h := xorGo_val hw hn ins (fun x => oddIn x ins) [] (-1) hi (.inl (by decide))
  have hr := xorGo_ok (L := L) (P := inR L) (fun x => oddIn x ins) ins [] (-1) hi (by simp) (.inl (by decide))
  unfold xorG
  generalize xorGo L (fun x => oddIn x ins) ins [] (-1) = q at h hr
  obtain ⟨left, last⟩ := q
  obtain ⟨ha, hb, hc⟩ := h
  simp only [List.length_nil, Nat.zero_add] at ha hb hc hr
  have hv : ∀ s, valueOf ⟨6, 0, ins⟩ s (vals L s) = (par (vals L s) left != decide (0 ≤ last)) := by
    intro s
    rw [value6, ha s, dsum_par]
    simp [par]
  have e1 : one (-1) = 0 := rfl
  rw [e1] at hc
  match left with
  | [] =>
    dsimp only
    split
    · exact ((find_sm hw ⟨0, 0, []⟩).mono (Nat.zero_le _)).to (fun s => by rw [hv, value0, decide_eq_false (show ¬ 0 ≤ last by omega)]; rfl)
    · rename_i hl
      exact ((keep_sm last).mono (Nat.zero_le _)).to (fun s => by rw [hv, decide_eq_true (show 0 ≤ last by omega), (kind_val hw s (hb.resolve_left hl).1).2 (hb.resolve_left hl).2]; rfl)
  | [x] =>
    dsimp only
    split
    · exact ((keep_sm x).mono (Nat.zero_le _)).to (fun s => by rw [hv, decide_eq_false (show ¬ 0 ≤ last by omega)]; simp [par])
    · refine ((not_sm hw (hr.1 x (by simp))).mono (by simp at hc; omega)).to (fun s => ?_)
      rw [hv, decide_eq_true (show 0 ≤ last by omega)]; simp [par]
  | x :: y :: l =>
    dsimp only
    split
    · rename_i hl
      have e2 : one last = 1 := if_pos hl
      refine ((find_sm hw ⟨6, 0, x :: y :: l ++ [last]⟩).mono (by rw [e2] at hc; simp at hc ⊢; omega)).to (fun s => ?_)
      rw [hv, value6, par_snoc, (kind_val hw s (hb.resolve_left (by omega)).1).2 (hb.resolve_left (by omega)).2, decide_eq_true hl]
    · rename_i hl
      refine ((find_sm hw ⟨6, 0, x :: y :: l⟩).mono (by simp at hc ⊢; omega)).to (fun s => ?_)
      rw [hv, value6, decide_eq_false hl]; simp
theorem step_sm (hw : wfL N B L) (hn : ND L) {i : Int} {g : Gate} (hg : goodGate N i g = true) {ins : List Int} (hl : ins.length = g.inp.length) (hi : ∀ x ∈ ins, inR L x) :
    Sm g.inp.length L (stepG L g ins) (fun s => valueOf ⟨g.kind, g.lit, ins⟩ s (vals L s)) := by
  obtain ⟨p1, p2, _⟩ := good_parts hg
  have hk := allowed_kind p1
  rw [← hl] at p1 ⊢
  obtain ⟨kd, lt, gi⟩ := g
  simp only at p1 p2 hk ⊢
  have hlit : kd ≠ 2 → lt = 0 := fun h => by simpa [litGood, h] using p2
  unfold stepG
  dsimp only
  split
  · rename_i h; subst h
    have := allowed3 p1
    match ins, hi, (show ins.length = 1 by omega) with
    | [a], hi, _ => exact (not_sm hw (hi a (by simp))).to (fun s => (value3 _ _ _ _).symm)
  · split
    · rename_i h
      rw [hlit (by omega)]
      exact many_sm hw h hi
    · split
      · rename_i h; subst h
        rw [hlit (by omega)]
        exact xor_sm hw hn hi
      · split
        · rename_i h; subst h
          rw [hlit (by omega)]
          have := allowed7 p1
          match ins, hi, (show ins.length = 2 by omega) with
          | [a, b], hi, _ => exact iff_sm hw (hi a (by simp)) (hi b (by simp))
        · split
          · rename_i h; subst h
            rw [hlit (by omega)]
            have := allowed8 p1
            match ins, hi, (show ins.length = 3 by omega) with
            | [a, b, c], hi, _ => exact choose_sm hw (hi a (by simp)) (hi b (by simp)) (hi c (by simp))
          · have h0 : kd = 0 ∨ kd = 1 ∨ kd = 2 := by omega
            have hz : ins.length = 0 := by
              unfold allowedB at p1
              rw [if_pos h0] at p1
              simpa using p1
            rw [List.length_eq_zero_iff.1 hz]
            exact find_sm hw ⟨kd, lt, []⟩
end
end Go.Proofs.YtbemhgojfehnjaaDoor
namespace Go.Proofs.YtbemhgojfehnjaaDoor
open Go
def total (l : List Gate) : Nat := (l.map fun g => g.inp.length).sum
theorem total_size (gs : List Gate) : sizeOf gs = total gs := by unfold sizeOf sizeTo total; rw [List.take_length]
theorem total_snoc (l : List Gate) (g : Gate) : total (l ++ [g]) = total l + g.inp.length := by simp [total]
theorem value_map {g : Gate} {v u : List Bool} (s : VS) (f : Int → Int) (h : ∀ x ∈ g.inp, vg v (f x) = vg u x) (h8 : g.kind = 8 → g.inp.length = 3) : valueOf ⟨g.kind, g.lit, g.inp.map f⟩ s v = valueOf g s u := by
  have h1 : inVals ⟨g.kind, g.lit, g.inp.map f⟩ v = inVals g u := by
    show (g.inp.map f).map (vg v) = g.inp.map (vg u)
    rw [List.map_map]
    exact List.map_congr_left h
  have h2 : g.kind = 8 → pickVal v (g.inp.map f) = pickVal u g.inp := by
    intro e
    have := h8 e
    match hi : g.inp, this with
    | [a, b, c], _ =>
      rw [hi] at h
      have ha := h a (by simp)
      have hb := h b (by simp)
      have hc := h c (by simp)
      show (if vg v (f a) then vg v (f b) else vg v (f c)) = (if vg u a then vg u b else vg u c)
      rw [ha, hb, hc]
  unfold valueOf
  simp only [h1, List.length_map]
  by_cases e : g.kind = 8
  · simp only [e, h2 e]
  · simp only [if_neg e]
/-- What holds when the gates of pre have been folded. -/
structure FI (N : Int) (B : Nat) (pre L : List Gate) (found : List Int) : Prop where
  wf : wfL N B L
  nd : ND L
  len : found.length = pre.length
  at_ : ∀ j, j < pre.length → inR L (found.getD j 0) ∧ ∀ s, vg (vals L s) (found.getD j 0) = (vals pre s).getD j false
  le : L.length ≤ pre.length
  sz : total L ≤ total pre
theorem getD_app {α : Type} (l : List α) (x d : α) (j : Nat) : (l ++ [x]).getD j d = if j = l.length then x else l.getD j d := by
  rw [List.getD_eq_getElem?_getD, List.getD_eq_getElem?_getD]
  split
  · rename_i h; subst h; simp
  · rename_i h
    by_cases h1 : j < l.length
    · rw [List.getElem?_append_left h1]
    · rw [List.getElem?_eq_none (by simp; omega), List.getElem?_eq_none (by omega)]
theorem fold_one {N : Int} {B : Nat} (hB : 3 ≤ B) {pre L : List Gate} {found : List Int} (h : FI N B pre L found) {g : Gate} (hg : goodGate N (pre.length : Int) g = true) (hb : g.inp.length + 1 ≤ B) :
    FI N B (pre ++ [g]) (stepG L g (g.inp.map fun k => found.getD k.toNat 0)).1 (found ++ [(stepG L g (g.inp.map fun k => found.getD k.toNat 0)).2]) := by
  obtain ⟨p1, p2, p3⟩ := good_parts hg
  have hin : ∀ x ∈ (g.inp.map fun k => found.getD k.toNat 0), inR L x := by
    intro x hx
    obtain ⟨k, hk, rfl⟩ := List.mem_map.1 hx
    have := p3 k hk
    exact (h.at_ k.toNat (by omega)).1
  have ok := stepG_ok h.wf hB hg (ins := g.inp.map fun k => found.getD k.toNat 0) (by simp) hin (by simpa using hb)
  have sm := step_sm h.wf h.nd hg (ins := g.inp.map fun k => found.getD k.toNat 0) (by simp) hin
  generalize stepG L g (g.inp.map fun k => found.getD k.toNat 0) = q at ok sm
  obtain ⟨L', i⟩ := q
  have hpre : ∀ (s : VS) (x : Int), inR L x → inR L' x ∧ vg (vals L' s) x = vg (vals L s) x := by
    intro s x hx
    rcases sm.add with e | ⟨g', e, _, _⟩
    · simp only at e; subst e; exact ⟨hx, rfl⟩
    · simp only at e; subst e
      refine ⟨⟨hx.1, by have := hx.2; simp; omega⟩, ?_⟩
      rw [vals_snoc, vg_app _ _ (by rw [vals_len]; exact hx.2) hx.1]
  have hval : ∀ s, vg (vals L' s) i = valueOf g s (vals pre s) := by
    intro s
    rw [sm.val s]
    refine value_map s (fun k => found.getD k.toNat 0) (fun x hx => ?_) (fun h8 => (good_len hg).2.2.2.1 h8)
    have := p3 x hx
    exact (h.at_ x.toNat (by omega)).2 s
  refine ⟨ok.wf, ?_, by simp [h.len], fun j hj => ?_, ?_, ?_⟩
  · rcases sm.add with e | ⟨g', e, hn, _⟩
    · simp only at e ⊢; rw [e]; exact h.nd
    · simp only at e ⊢; rw [e]; exact h.nd.snoc hn
  · rw [getD_app, h.len]
    split
    · rename_i e
      subst e
      refine ⟨ok.at_, fun s => ?_⟩
      rw [hval s, vals_snoc, getD_app, vals_len, if_pos rfl]
    · rename_i e
      rw [List.length_append, List.length_singleton] at hj
      obtain ⟨a, b⟩ := h.at_ j (by omega)
      refine ⟨(hpre VS.empty _ a).1, fun s => ?_⟩
      rw [(hpre s _ a).2, b s, vals_snoc, getD_app, vals_len, if_neg e]
  · rcases sm.add with e | ⟨g', e, _, _⟩
    · simp only at e ⊢; rw [e]; have := h.le; simp; omega
    · simp only at e ⊢; rw [e]; have := h.le; simp; omega
  · rw [total_snoc]
    rcases sm.add with e | ⟨g', e, _, hm⟩
    · simp only at e ⊢; rw [e]; have := h.sz; omega
    · simp only at e ⊢; rw [e, total_snoc]; have := h.sz; omega
theorem fold_all {N : Int} {B : Nat} (hB : 3 ≤ B) : ∀ (r pre L : List Gate) (found : List Int), FI N B pre L found → (∀ (k : Nat) (g : Gate), r[k]? = some g → goodGate N ((pre.length + k : Nat) : Int) g = true ∧ g.inp.length + 1 ≤ B) →
    FI N B (pre ++ r) (foldGo r (L, found)).1 (foldGo r (L, found)).2
  | [], pre, L, found, h, _ => by simpa [foldGo] using h
  | g :: r, pre, L, found, h, hr => by
    have h0 := hr 0 g rfl
    have h1 := fold_one hB h h0.1 h0.2
    have := fold_all hB r (pre ++ [g]) _ _ h1 (fun k x hk => by
      have := hr (k + 1) x (by simpa using hk)
      rw [List.length_append, List.length_singleton, show pre.length + 1 + k = pre.length + (k + 1) from by omega]
      exact this)
    rw [List.append_assoc] at this
    exact this
/-! Marks. -/
theorem getD_set (u : List Bool) (i j : Nat) : (u.set i true).getD j false = (u.getD j false || (decide (i = j) && decide (j < u.length))) := by
  rw [List.getD_eq_getElem?_getD, List.getD_eq_getElem?_getD, List.getElem?_set]
  by_cases e : i = j
  · subst e
    by_cases h : i < u.length
    · simp [h]
    · rw [if_pos rfl, if_neg h, List.getElem?_eq_none (by omega)]; simp [h]
  · simp [e]
theorem mark_keep : ∀ (l : List Int) (u : List Bool) (j : Nat), u.getD j false = true → (markIn u l).getD j false = true
  | [], _, _, h => h
  | x :: l, u, j, h => by rw [markIn_cons]; exact mark_keep l _ j (by rw [getD_set, h]; rfl)
theorem mark_hit : ∀ (l : List Int) (u : List Bool) (x : Int), x ∈ l → x.toNat < u.length → (markIn u l).getD x.toNat false = true
  | [], _, _, h, _ => by cases h
  | y :: l, u, x, h, hx => by
    rw [markIn_cons]
    rcases List.mem_cons.1 h with rfl | h
    · exact mark_keep l _ _ (by rw [getD_set]; simp [hx])
    · exact mark_hit l _ x h (by simpa using hx)
theorem mark_other : ∀ (l : List Int) (u : List Bool) (j : Nat), (∀ x ∈ l, x.toNat ≠ j) → (markIn u l).getD j false = u.getD j false
  | [], _, _, _ => rfl
  | y :: l, u, j, h => by
    rw [markIn_cons, mark_other l _ j (fun x hx => h x (by simp [hx])), getD_set]
    simp [h y (by simp)]
theorem use_all {N : Int} {B : Nat} {L : List Gate} (hw : wfL N B L) : ∀ (n : Nat) (u : List Bool), n ≤ u.length → n ≤ L.length →
    (useGo L n u).length = u.length ∧ (∀ j, u.getD j false = true → (useGo L n u).getD j false = true) ∧ (∀ j, n ≤ j + 1 → (useGo L n u).getD j false = u.getD j false) ∧
    (∀ i (hi : i < L.length), i < n → (useGo L n u).getD i false = true → ∀ x ∈ L[i].inp, (useGo L n u).getD x.toNat false = true)
  | 0, u, _, _ => ⟨rfl, fun _ h => h, fun _ _ => rfl, fun _ _ h => by omega⟩
  | n + 1, u, hu, hL => by
    rw [useGo_succ L u (by omega : n < L.length)]
    have hg := good_parts (hw n L[n] (List.getElem?_eq_getElem (by omega))).1
    obtain ⟨u', hu'⟩ : ∃ u', u' = (if u.getD n false then markIn u L[n].inp else u) := ⟨_, rfl⟩
    have hlen : u'.length = u.length := by
      rw [hu']
      split
      · exact markIn_len _ _
      · rfl
    have hk : ∀ j, u.getD j false = true → u'.getD j false = true := by
      intro j h
      rw [hu']
      split
      · exact mark_keep _ _ _ h
      · exact h
    have ho : ∀ j, n ≤ j → u'.getD j false = u.getD j false := by
      intro j h
      rw [hu']
      split
      · exact mark_other _ _ _ (fun x hx => by have := hg.2.2 x hx; omega)
      · rfl
    rw [← hu']
    obtain ⟨a, b, c, d⟩ := use_all hw n u' (by omega) (by omega)
    refine ⟨by rw [a, hlen], fun j h => b j (hk j h), fun j h => by rw [c j (by omega), ho j (by omega)], fun i hi hin hv x hx => ?_⟩
    by_cases e : i < n
    · exact d i hi e hv x hx
    · have e2 : i = n := by omega
      subst e2
      rw [c i (by omega), ho i (Nat.le_refl _)] at hv
      refine b _ ?_
      rw [hu', if_pos hv]
      have := hg.2.2 x hx
      exact mark_hit _ _ x hx (by omega)
/-! Places. -/
structure PI (N : Int) (B : Nat) (L : List Gate) (use : List Bool) (n i : Nat) (out : List Gate) (place : List Int) : Prop where
  wf : wfL N B out
  len : place.length = n
  at_ : ∀ j, j < i → use.getD j false = true → inR out (place.getD j 0) ∧ ∀ s, vg (vals out s) (place.getD j 0) = (vals L s).getD j false
  le : out.length ≤ i
  sz : total out ≤ total (L.take i)
  last : ∀ j, i = j + 1 → use.getD j false = true → 0 < out.length ∧ place.getD j 0 = ((out.length - 1 : Nat) : Int)
theorem getD_setI (p : List Int) (i j : Nat) (x : Int) (h : i < p.length) : (p.set i x).getD j 0 = if i = j then x else p.getD j 0 := by
  rw [List.getD_eq_getElem?_getD, List.getD_eq_getElem?_getD, List.getElem?_set]
  split
  · rfl
  · rfl
theorem wf_snoc {N : Int} {B : Nat} {L : List Gate} (hw : wfL N B L) {g : Gate} (hg : goodGate N (L.length : Int) g = true) (hb : g.inp.length ≤ B) : wfL N B (L ++ [g]) := by
  intro i x hx
  rcases get_snoc hx with ⟨a, _⟩ | ⟨rfl, rfl⟩
  · exact hw i x a
  · exact ⟨hg, hb⟩
theorem take_get {α : Type} {L : List α} {i : Nat} (h : i < L.length) : L.take (i + 1) = L.take i ++ [L[i]] := (List.take_append_getElem h).symm
theorem place_one {N : Int} {B : Nat} {L : List Gate} (hw : wfL N B L) {use : List Bool} {n i : Nat} {out : List Gate} {place : List Int} (h : PI N B L use n i out place) (hi : i < L.length) (hn : i < n)
    (hc : use.getD i false = true → ∀ x ∈ L[i].inp, use.getD x.toNat false = true) :
    if use.getD i false = true then PI N B L use n (i + 1) (out ++ [⟨L[i].kind, L[i].lit, L[i].inp.map fun k => place.getD k.toNat 0⟩]) (place.set i (out.length : Int)) else PI N B L use n (i + 1) out place := by
  have htk := take_get hi
  obtain ⟨hg, hb⟩ := hw i L[i] (List.getElem?_eq_getElem hi)
  obtain ⟨p1, p2, p3⟩ := good_parts hg
  by_cases hu : use.getD i false = true
  · rw [if_pos hu]
    have hin : ∀ x ∈ L[i].inp, inR out (place.getD x.toNat 0) ∧ ∀ s, vg (vals out s) (place.getD x.toNat 0) = vg (vals L s) x := by
      intro x hx
      have := p3 x hx
      exact h.at_ x.toNat (by omega) (hc hu x hx)
    obtain ⟨g', hg'⟩ : ∃ g' : Gate, g' = ⟨L[i].kind, L[i].lit, L[i].inp.map fun k => place.getD k.toNat 0⟩ := ⟨_, rfl⟩
    have hlen : g'.inp.length = L[i].inp.length := by rw [hg']; simp
    have hgood : goodGate N (out.length : Int) g' = true := by
      refine good_of (by rw [hlen, hg']; exact p1) (by rw [hg']; exact p2) (fun x hx => ?_)
      rw [hg'] at hx
      obtain ⟨k, hk, rfl⟩ := List.mem_map.1 hx
      exact (hin k hk).1
    have hval : ∀ s, valueOf g' s (vals out s) = (vals L s).getD i false := by
      intro s
      rw [vals_at hw s hi, hg']
      exact value_map s (fun k => place.getD k.toNat 0) (fun x hx => (hin x hx).2 s) (fun h8 => (good_len hg).2.2.2.1 h8)
    rw [← hg']
    refine ⟨wf_snoc h.wf hgood (by omega), by simp [h.len], fun j hj hju => ?_, by have := h.le; simp; omega, by rw [htk, total_snoc, total_snoc, hlen]; have := h.sz; omega, fun j hj _ => ?_⟩
    · rw [getD_setI _ _ _ _ (by rw [h.len]; exact hn)]
      split
      · rename_i e
        subst e
        refine ⟨⟨by omega, by simp only [List.length_append, List.length_singleton]; omega⟩, fun s => ?_⟩
        rw [← hval s, vals_snoc]
        show (vals out s ++ [valueOf g' s (vals out s)]).getD out.length false = _
        rw [getD_app, vals_len, if_pos rfl]
      · rename_i e
        obtain ⟨a, b⟩ := h.at_ j (by omega) hju
        refine ⟨⟨a.1, by have := a.2; simp only [List.length_append, List.length_singleton]; omega⟩, fun s => ?_⟩
        rw [vals_snoc, vg_app _ _ (by rw [vals_len]; exact a.2) a.1, b s]
    · have e : i = j := by omega
      subst e
      rw [getD_setI _ _ _ _ (by rw [h.len]; exact hn), if_pos rfl]
      simp
  · rw [if_neg hu]
    refine ⟨h.wf, h.len, fun j hj hju => ?_, by have := h.le; omega, by rw [htk, total_snoc]; have := h.sz; omega, fun j hj hju => ?_⟩
    · by_cases e : j = i
      · subst e; exact absurd hju hu
      · exact h.at_ j (by omega) hju
    · have e : i = j := by omega
      subst e
      exact absurd hju hu
theorem place_all {N : Int} {B : Nat} {L : List Gate} (hw : wfL N B L) {use : List Bool} {n : Nat} (hn : n ≤ L.length) (hc : ∀ i (hi : i < L.length), i < n → use.getD i false = true → ∀ x ∈ L[i].inp, use.getD x.toNat false = true) :
    ∀ (m i : Nat) (r : List Gate) (out : List Gate) (place : List Int), i + m = n → r = (L.take n).drop i → PI N B L use n i out place → PI N B L use n n (placeGo use r i (out, place)).1 (placeGo use r i (out, place)).2
  | 0, i, r, out, place, hm, hr, h => by
    have : r = [] := by rw [hr]; simp; omega
    rw [this]
    have e : i = n := by omega
    subst e
    exact h
  | m + 1, i, r, out, place, hm, hr, h => by
    have hi : i < L.length := by omega
    have h1 := place_one hw h hi (by omega) (hc i hi (by omega))
    have hr2 : r = L[i] :: (L.take n).drop (i + 1) := by
      rw [hr, List.drop_eq_getElem_cons (by simp; omega)]
      simp
    rw [hr2, placeGo]
    split
    · rename_i hu
      rw [if_pos hu] at h1
      exact place_all hw hn hc m (i + 1) _ _ _ (by omega) rfl h1
    · rename_i hu
      rw [if_neg hu] at h1
      exact place_all hw hn hc m (i + 1) _ _ _ (by omega) rfl h1
theorem need_all {N : Int} {B : Nat} {L : List Gate} (hw : wfL N B L) {root : Int} (hr : inR L root) :
    wfL N B (neededG L root) ∧ 0 < (neededG L root).length ∧ (neededG L root).length ≤ L.length ∧ total (neededG L root) ≤ total L ∧ ∀ s, (vals (neededG L root) s).getD ((neededG L root).length - 1) false = vg (vals L s) root := by
  obtain ⟨n, hn⟩ : ∃ n, root.toNat = n := ⟨_, rfl⟩
  have h0 := hr.1
  have h1 := hr.2
  have hnl : n < L.length := by omega
  unfold neededG
  rw [hn]
  have hu := use_all hw (n + 1) ((List.replicate (n + 1) false).set n true) (by simp) (by omega)
  have hroot : (useOf L n).getD n false = true := by
    unfold useOf
    rw [hu.2.2.1 n (Nat.le_refl _), getD_set]
    simp
  have hp := place_all hw (use := useOf L n) (n := n + 1) (by omega) (fun i hi hin hv => hu.2.2.2 i hi hin hv) (n + 1) 0 (L.take (n + 1)) [] (List.replicate (n + 1) 0) (by omega) rfl
    ⟨fun i g h => by simp at h, by simp, fun j hj => by omega, Nat.le_refl _, Nat.le_refl _, fun j hj => by omega⟩
  generalize placeGo (useOf L n) (L.take (n + 1)) 0 ([], List.replicate (n + 1) 0) = q at hp
  obtain ⟨out, place⟩ := q
  obtain ⟨l1, l2⟩ := hp.last n rfl hroot
  refine ⟨hp.wf, l1, by have := hp.le; simp only at this ⊢; omega, ?_, fun s => ?_⟩
  · have h3 := hp.sz
    have h4 : total (L.take (n + 1)) ≤ total L := by
      have := sizeTo_le L (n + 1)
      rw [total_size] at this
      exact this
    simp only at h3 ⊢
    omega
  · have := (hp.at_ n (by omega) hroot).2 s
    rw [l2] at this
    unfold vg at this ⊢
    rw [hn, ← this]
    simp
theorem fold_sem {N : Int} {gs : List Gate} (hc : checkOf N gs = 0) : checkOf N (foldOf gs) = 0 ∧ (∀ s, evalOf N (foldOf gs) s = evalOf N gs s) ∧ (foldOf gs).length ≤ gs.length ∧ sizeOf (foldOf gs) ≤ sizeOf gs := by
  obtain ⟨b0, b1, b2, b3, b4⟩ := check_bounds hc
  have hf := fold_all (N := N) (B := 100000) (by decide) gs [] [] [] ⟨fun i g h => by simp at h, ND.nil, rfl, fun j hj => by simp at hj, Nat.le_refl _, Nat.le_refl _⟩ (fun k g hk => by
    obtain ⟨hk', rfl⟩ := List.getElem?_eq_some_iff.1 hk
    have h2 := sizeTo_le gs (k + 1)
    rw [sizeTo_succ gs k hk'] at h2
    rw [List.length_nil, Nat.zero_add]
    exact ⟨check_gate hc k hk', by omega⟩)
  rw [List.nil_append] at hf
  unfold foldOf
  dsimp only
  generalize foldGo gs ([], []) = q at hf
  obtain ⟨L, found⟩ := q
  simp only at hf ⊢
  obtain ⟨ha, hv⟩ := hf.at_ (gs.length - 1) (by omega)
  rw [hf.len]
  generalize found.getD (gs.length - 1) 0 = root at ha hv
  obtain ⟨c1, c2, c3, c4, c5⟩ := need_all hf.wf ha
  generalize neededG L root = out at c1 c2 c3 c4 c5
  have hle := hf.le
  have hsz := hf.sz
  have hchk : checkOf N out = 0 := by
    unfold checkOf
    rw [if_neg (by omega), total_size, if_neg (by rw [total_size] at b4; omega), if_neg (by omega), if_pos]
    rw [goodTo_iff]
    intro i hi
    rw [goodAt_eq _ _ _ hi]
    exact (c1 i out[i] (List.getElem?_eq_getElem hi)).1
  refine ⟨hchk, fun s => ?_, by omega, by rw [total_size, total_size]; omega⟩
  unfold evalOf valOf
  rw [hchk, hc]
  have := c5 s
  rw [hv s] at this
  unfold vals at this
  rw [this]
end Go.Proofs.YtbemhgojfehnjaaDoor
namespace Go.Proofs.YtbemhgojfehnjaaDoor
open Go Go.RowKit
theorem circKeeps_ok {W : World} {V : Value} {N : Int} {gs : List Gate} {a b : BitVec 64} (hV : GatesV W W.heap.size V gs) (hN0 : -9223372036854775808 ≤ N) (hN1 : N ≤ 9223372036854775807) (tab : Tab W) : Calls Tryd.prog 6 #[.agg #[.int .i64 N, V], .agg #[.int .u64 (a.toNat : Int), .int .u64 (b.toNat : Int)]] W fun e w' => e = .returned (.bool true) ∧ Below W.heap.size W w' := by
  obtain ⟨A, c, rfl, hAc, hcm, _⟩ := id hV
  have hmx : maxLen = 9223372036854775807 := rfl
  cases hl : lightOf N gs
  · skip
    have O0 : Own Z0 W W [] := Own.start W
    refine sx_enter (args := [.agg #[.int .i64 N, .slice A gs.length c], .agg #[.int .u64 (a.toNat : Int), .int .u64 (b.toNat : Int)]]) Tryd.func6 rfl rfl (by simp) ?_
    refine cw_seq (fun FK1 K1 => ?_)
    refine cw_region ?_
    obtain ⟨g2, w3, r4, O5, hg6, hs7⟩ := own_box O0 24 (.agg #[.int .i64 N, .slice A gs.length c]) rfl
    refine wl_val (v := .pointer (some ⟨g2, 0, none⟩)) (fun ρ e => r4 ρ _ _ _ _ _ _ (e _ _ rfl)) rfl rfl ?_
    obtain ⟨g8, w9, r10, O11, hg12, hs13⟩ := own_box O5 27 (.agg #[.int .u64 (a.toNat : Int), .int .u64 (b.toNat : Int)]) rfl
    refine wl_val (v := .pointer (some ⟨g8, 0, none⟩)) (fun ρ e => r10 ρ _ _ _ _ _ _ (e _ _ rfl)) rfl rfl ?_
    refine wl_val (v := .bool false) (fun ρ e => ex_assign (e _ _ rfl)) rfl rfl ?_
    refine wl_nil ?_
    refine xw_next K1 ?_
    refine cw_seq (fun FK14 K14 => ?_)
    refine cw_seq (fun FK15 K15 => ?_)
    refine cw_region ?_
    refine wl_val (v := .agg #[.int .i64 N, .slice A gs.length c]) (fun ρ e => ex_loadN (vs := [.int .i64 N, .slice A gs.length c]) ty24 (e _ _ rfl) rfl (O11.cells 1 0 rfl rfl)) rfl rfl ?_
    refine wl_call (args := [.agg #[.int .i64 N, .slice A gs.length c]]) in_13 rfl rfl rfl ?_
    have h19 := light_ (N := N) (gs := gs) ((hV.below O11.old).more O11.old.size)
    rw [hl] at h19
    refine h19.mono ?_
    rintro _ w16 ⟨rfl, hb17⟩
    have O18 : Own Z0 W w16 [.blk g8 27 #[.int .u64 (a.toNat : Int), .int .u64 (b.toNat : Int)], .blk g2 24 #[.int .i64 N, .slice A gs.length c]] := O11.below hb17
    refine ⟨_, rfl, ?_⟩
    refine wl_val (v := .bool true) (fun ρ e => ex_lnot (b := false) (e _ _ rfl)) rfl rfl ?_
    refine wl_nil ?_
    refine xw_next K15 ?_
    refine cw_true rfl ?_
    refine cw_seq (fun FK20 K20 => ?_)
    refine cw_region ?_
    refine wl_call (args := []) in_14 rfl rfl rfl ?_
    refine (works_ (tab.below (Nat.le_refl _) O18.old)).mono ?_
    rintro _ w21 ⟨rfl, hb22⟩
    have O23 : Own Z0 W w21 [.blk g8 27 #[.int .u64 (a.toNat : Int), .int .u64 (b.toNat : Int)], .blk g2 24 #[.int .i64 N, .slice A gs.length c]] := O18.below hb22
    refine ⟨_, rfl, ?_⟩
    refine wl_val (v := .bool true) (fun ρ e => ex_assign (e _ _ rfl)) rfl rfl ?_
    refine wl_nil ?_
    refine xw_next K20 ?_
    refine cw_ret ?_
    refine xw_past (by intro h; cases h) ?_
    refine xw_ret (v := .bool true) (fun T hT => res1 rfl T _ (hT 4 _ rfl)) ?_
    exact ⟨rfl, O23.old⟩
  · skip
    have hlt := light_true hl
    have hsz := light_size (N := N) hlt.1 hlt.2
    have O0 : Own Z0 W W [] := Own.start W
    refine sx_enter (args := [.agg #[.int .i64 N, .slice A gs.length c], .agg #[.int .u64 (a.toNat : Int), .int .u64 (b.toNat : Int)]]) Tryd.func6 rfl rfl (by simp) ?_
    refine cw_seq (fun FK1 K1 => ?_)
    refine cw_region ?_
    obtain ⟨g2, w3, r4, O5, hg6, hs7⟩ := own_box O0 24 (.agg #[.int .i64 N, .slice A gs.length c]) rfl
    refine wl_val (v := .pointer (some ⟨g2, 0, none⟩)) (fun ρ e => r4 ρ _ _ _ _ _ _ (e _ _ rfl)) rfl rfl ?_
    obtain ⟨g8, w9, r10, O11, hg12, hs13⟩ := own_box O5 27 (.agg #[.int .u64 (a.toNat : Int), .int .u64 (b.toNat : Int)]) rfl
    refine wl_val (v := .pointer (some ⟨g8, 0, none⟩)) (fun ρ e => r10 ρ _ _ _ _ _ _ (e _ _ rfl)) rfl rfl ?_
    refine wl_val (v := .bool false) (fun ρ e => ex_assign (e _ _ rfl)) rfl rfl ?_
    refine wl_nil ?_
    refine xw_next K1 ?_
    refine cw_seq (fun FK14 K14 => ?_)
    refine cw_seq (fun FK15 K15 => ?_)
    refine cw_region ?_
    refine wl_val (v := .agg #[.int .i64 N, .slice A gs.length c]) (fun ρ e => ex_loadN (vs := [.int .i64 N, .slice A gs.length c]) ty24 (e _ _ rfl) rfl (O11.cells 1 0 rfl rfl)) rfl rfl ?_
    refine wl_call (args := [.agg #[.int .i64 N, .slice A gs.length c]]) in_13 rfl rfl rfl ?_
    have h19 := light_ (N := N) (gs := gs) ((hV.below O11.old).more O11.old.size)
    rw [hl] at h19
    refine h19.mono ?_
    rintro _ w16 ⟨rfl, hb17⟩
    have O18 : Own Z0 W w16 [.blk g8 27 #[.int .u64 (a.toNat : Int), .int .u64 (b.toNat : Int)], .blk g2 24 #[.int .i64 N, .slice A gs.length c]] := O11.below hb17
    refine ⟨_, rfl, ?_⟩
    refine wl_val (v := .bool false) (fun ρ e => ex_lnot (b := true) (e _ _ rfl)) rfl rfl ?_
    refine wl_nil ?_
    refine xw_next K15 ?_
    refine cw_false rfl ?_
    refine cw_skip ?_
    refine xw_next K14 ?_
    refine cw_seq (fun FK20 K20 => ?_)
    refine cw_region ?_
    refine wl_val (v := .agg #[.int .i64 N, .slice A gs.length c]) (fun ρ e => ex_loadN (vs := [.int .i64 N, .slice A gs.length c]) ty24 (e _ _ rfl) rfl (O18.cells 1 0 rfl rfl)) rfl rfl ?_
    have h21 := fold_ (N := N) ((hV.below O18.old).more O18.old.size) hsz (tab.below (Nat.le_refl _) O18.old)
    by_cases c22 : checkOf N gs = 0
    · skip
      have hc := c22
      obtain ⟨hc2, hev, hle, hsl⟩ := fold_sem hc
      have hsz2 : sizeOf (foldOf gs) ≤ 4611686018427387904 := by omega
      refine wl_call (args := [.agg #[.int .i64 N, .slice A gs.length c]]) in_18 rfl rfl rfl ?_
      refine h21.mono ?_
      intro _ w23 hq
      obtain ⟨_, A24, c25, D26, vo27, rfl, ho28, hd29⟩ := hq.resolve_left (fun z => z.1 hc)
      have O30 : Own Z0 W w23 [.row (.slice A24 ((foldOf gs).length) c25) 38 3 ((foldOf gs).length) (gcells (foldOf gs) vo27), .ro D26 (OwnIns D26 (foldOf gs) vo27), .blk g8 27 #[.int .u64 (a.toNat : Int), .int .u64 (b.toNat : Int)], .blk g2 24 #[.int .i64 N, .slice A gs.length c]] := Own.joinr O18 ho28 (fun e he => by rcases List.mem_cons.1 he with rfl | he; exact .inl trivial; exact .inr (by rw [List.mem_singleton.1 he]; exact hd29))
      refine ⟨_, rfl, ?_⟩
      refine wl_val (v := .tuple #[.agg #[.int .i64 N, .slice A24 ((foldOf gs).length) c25], .int .i64 0]) (fun ρ e => ex_move (e _ _ rfl)) rfl rfl ?_
      refine wl_val (v := .agg #[.int .i64 N, .slice A24 ((foldOf gs).length) c25]) (fun ρ e => ex_extract (vs := #[.agg #[.int .i64 N, .slice A24 ((foldOf gs).length) c25], .int .i64 0]) (e _ _ rfl) rfl) rfl rfl ?_
      refine wl_val (v := .int .i64 0) (fun ρ e => ex_extract (vs := #[.agg #[.int .i64 N, .slice A24 ((foldOf gs).length) c25], .int .i64 0]) (e _ _ rfl) rfl) rfl rfl ?_
      obtain ⟨g31, w32, r33, O34, hg35, hs36⟩ := own_alloc O30 24 ze24 rfl
      refine wl_val (v := .pointer (some ⟨g31, 0, none⟩)) (fun ρ e => r33 ρ _ _ _ _ _) rfl rfl ?_
      obtain ⟨w37, r38, O39, hs40⟩ := own_put (o := 0) (n := 2) O34 ty24 (.agg #[.int .i64 N, .slice A24 ((foldOf gs).length) c25]) [.int .i64 N, .slice A24 ((foldOf gs).length) c25] (cs' := #[.int .i64 N, .slice A24 ((foldOf gs).length) c25]) rfl rfl rfl (Nat.le_of_ble_eq_true rfl) rfl
      refine wl_none (fun ρ e => r38 ρ _ _ _ _ _ _ (e _ _ rfl) (e _ _ rfl)) rfl ?_
      refine wl_val (v := .int .i64 0) (fun ρ e => ex_assign (e _ _ rfl)) rfl rfl ?_
      refine wl_nil ?_
      refine xw_next K20 ?_
      refine cw_seq (fun FK41 K41 => ?_)
      refine cw_seq (fun FK42 K42 => ?_)
      refine cw_region ?_
      refine wl_val (v := .int .i64 0) (fun ρ e => ex_move (e _ _ rfl)) rfl rfl ?_
      refine wl_val (v := .bool false) (fun ρ e => ex_cmp (u := 0) (v := 0) (e _ _ rfl) (e _ _ rfl) (neq0 (by omega))) rfl rfl ?_
      refine wl_nil ?_
      refine xw_next K42 ?_
      refine cw_false rfl ?_
      refine cw_skip ?_
      refine xw_next K41 ?_
      refine cw_seq (fun FK43 K43 => ?_)
      refine cw_seq (fun FK44 K44 => ?_)
      refine cw_drawn (fun X => Own Z0 W X [.blk g31 24 #[.int .i64 N, .slice A24 ((foldOf gs).length) c25], .ro D26 (OwnIns D26 (foldOf gs) vo27), .blk g8 27 #[.int .u64 (a.toNat : Int), .int .u64 (b.toNat : Int)], .blk g2 24 #[.int .i64 N, .slice A gs.length c]]) 19 [(0, 0), (1, 2), (2, 1), (3, 1), (4, 1), (5, 0), (6, 1), (7, 0), (8, 1), (9, 1), (10, 1), (11, 0), (12, 0), (14, 0), (15, 0), (13, 2), (16, 2), (17, 1), (18, 1)] (by kernel_rfl) (by kernel_rfl) (PQ.then_ (PQ.then_ PQ.body)) ((O39.re [0, 2, 3, 4] rfl : Own Z0 W w37 [.blk g31 24 #[.int .i64 N, .slice A24 ((foldOf gs).length) c25], .ro D26 (OwnIns D26 (foldOf gs) vo27), .blk g8 27 #[.int .u64 (a.toNat : Int), .int .u64 (b.toNat : Int)], .blk g2 24 #[.int .i64 N, .slice A gs.length c]])).drew ?_
      have O45 : Own Z0 W w37.drew [.blk g31 24 #[.int .i64 N, .slice A24 ((foldOf gs).length) c25], .row (.slice A24 ((foldOf gs).length) c25) 38 3 ((foldOf gs).length) (gcells (foldOf gs) vo27), .ro D26 (OwnIns D26 (foldOf gs) vo27), .blk g8 27 #[.int .u64 (a.toNat : Int), .int .u64 (b.toNat : Int)], .blk g2 24 #[.int .i64 N, .slice A gs.length c]] := O39.drew
      refine wt0 (v := .agg #[.int .i64 N, .slice A24 ((foldOf gs).length) c25]) rfl (fun ρ e W hW => ex_loadN (vs := [.int .i64 N, .slice A24 ((foldOf gs).length) c25]) ty24 (e _ _ rfl) rfl (hW.cells 0 0 rfl rfl)) rfl rfl ?_
      refine wt2_call (args := [.agg #[.int .i64 N, .slice A24 ((foldOf gs).length) c25]]) rfl in_22 rfl rfl rfl ?_
      refine (circ_check N _ (foldOf gs) _ _ (Nat.le_refl _) (gates_of_own (O45.row 1 rfl) (O45.ro 2 rfl) (O45.get 2 rfl).2.1) hsz2).mono ?_
      rintro _ w46 ⟨rfl, hb47⟩
      have O48 : Own Z0 W w46 [.blk g31 24 #[.int .i64 N, .slice A24 ((foldOf gs).length) c25], .row (.slice A24 ((foldOf gs).length) c25) 38 3 ((foldOf gs).length) (gcells (foldOf gs) vo27), .ro D26 (OwnIns D26 (foldOf gs) vo27), .blk g8 27 #[.int .u64 (a.toNat : Int), .int .u64 (b.toNat : Int)], .blk g2 24 #[.int .i64 N, .slice A gs.length c]] := O45.below hb47
      refine ⟨_, rfl, (O48.re [0, 2, 3, 4] rfl : Own Z0 W w46 [.blk g31 24 #[.int .i64 N, .slice A24 ((foldOf gs).length) c25], .ro D26 (OwnIns D26 (foldOf gs) vo27), .blk g8 27 #[.int .u64 (a.toNat : Int), .int .u64 (b.toNat : Int)], .blk g2 24 #[.int .i64 N, .slice A gs.length c]]), ?_⟩
      refine wt1 (v := .bool false) rfl (fun ρ e W => ex_cmp (u := (checkOf N (foldOf gs))) (v := 0) (e _ _ rfl) (e _ _ rfl) (neq0 (by omega))) rfl rfl ?_
      refine wt1 (v := .bool false) rfl (fun ρ e W => ex_move (e _ _ rfl)) rfl rfl ?_
      refine wt1 (v := .pointer (some ⟨g31, 0, none⟩)) rfl (fun ρ e W => ex_field (q := 0) fi24_0 (e _ _ rfl) rfl) rfl rfl ?_
      refine wt0 (v := .int .i64 N) rfl (fun ρ e W hW => ex_load1 ty3 (e _ _ rfl) (hW.cell 0 0 rfl rfl)) rfl rfl ?_
      refine wt1 (v := .pointer (some ⟨g2, 0, none⟩)) rfl (fun ρ e W => ex_field (q := 0) fi24_0 (e _ _ rfl) rfl) rfl rfl ?_
      refine wt0 (v := .int .i64 N) rfl (fun ρ e W hW => ex_load1 ty3 (e _ _ rfl) (hW.cell 3 0 rfl rfl)) rfl rfl ?_
      refine wt1 (v := .bool false) rfl (fun ρ e W => ex_cmp (u := N) (v := N) (e _ _ rfl) (e _ _ rfl) (neq0 (by omega))) rfl rfl ?_
      refine wt1 (v := .bool false) rfl (fun ρ e W => ex_pick0 (e _ _ rfl) (e _ _ rfl)) rfl rfl ?_
      refine wt1 (v := .bool false) rfl (fun ρ e W => ex_move (e _ _ rfl)) rfl rfl ?_
      refine wt0 (v := .agg #[.int .i64 N, .slice A24 ((foldOf gs).length) c25]) rfl (fun ρ e W hW => ex_loadN (vs := [.int .i64 N, .slice A24 ((foldOf gs).length) c25]) ty24 (e _ _ rfl) rfl (hW.cells 0 0 rfl rfl)) rfl rfl ?_
      refine wt0 (v := .agg #[.int .u64 (a.toNat : Int), .int .u64 (b.toNat : Int)]) rfl (fun ρ e W hW => ex_loadN (vs := [.int .u64 (a.toNat : Int), .int .u64 (b.toNat : Int)]) ty27 (e _ _ rfl) rfl (hW.cells 2 0 rfl rfl)) rfl rfl ?_
      refine wt0 (v := .agg #[.int .i64 N, .slice A gs.length c]) rfl (fun ρ e W hW => ex_loadN (vs := [.int .i64 N, .slice A gs.length c]) ty24 (e _ _ rfl) rfl (hW.cells 3 0 rfl rfl)) rfl rfl ?_
      refine wt0 (v := .agg #[.int .u64 (a.toNat : Int), .int .u64 (b.toNat : Int)]) rfl (fun ρ e W hW => ex_loadN (vs := [.int .u64 (a.toNat : Int), .int .u64 (b.toNat : Int)]) ty27 (e _ _ rfl) rfl (hW.cells 2 0 rfl rfl)) rfl rfl ?_
      refine wt2_call (args := [.agg #[.int .i64 N, .slice A24 ((foldOf gs).length) c25], .agg #[.int .u64 (a.toNat : Int), .int .u64 (b.toNat : Int)]]) rfl in_15 rfl rfl rfl ?_
      refine (circ_eval N _ (foldOf gs) a b _ _ (Nat.le_refl _) (gates_of_own (O48.row 1 rfl) (O48.ro 2 rfl) (O48.get 2 rfl).2.1) hsz2 hN0 hN1).mono ?_
      rintro _ w49 ⟨rfl, hb50⟩
      have O51 : Own Z0 W w49 [.blk g31 24 #[.int .i64 N, .slice A24 ((foldOf gs).length) c25], .row (.slice A24 ((foldOf gs).length) c25) 38 3 ((foldOf gs).length) (gcells (foldOf gs) vo27), .ro D26 (OwnIns D26 (foldOf gs) vo27), .blk g8 27 #[.int .u64 (a.toNat : Int), .int .u64 (b.toNat : Int)], .blk g2 24 #[.int .i64 N, .slice A gs.length c]] := O48.below hb50
      refine ⟨_, rfl, (O51.re [0, 2, 3, 4] rfl : Own Z0 W w49 [.blk g31 24 #[.int .i64 N, .slice A24 ((foldOf gs).length) c25], .ro D26 (OwnIns D26 (foldOf gs) vo27), .blk g8 27 #[.int .u64 (a.toNat : Int), .int .u64 (b.toNat : Int)], .blk g2 24 #[.int .i64 N, .slice A gs.length c]]), ?_⟩
      refine wt2_call (args := [.agg #[.int .i64 N, .slice A gs.length c], .agg #[.int .u64 (a.toNat : Int), .int .u64 (b.toNat : Int)]]) rfl in_15 rfl rfl rfl ?_
      refine (circ_eval N _ gs a b _ _ (Nat.le_refl _) ((hV.below O51.old).more O51.old.size) hsz hN0 hN1).mono ?_
      rintro _ w52 ⟨rfl, hb53⟩
      have O54 : Own Z0 W w52 [.blk g31 24 #[.int .i64 N, .slice A24 ((foldOf gs).length) c25], .row (.slice A24 ((foldOf gs).length) c25) 38 3 ((foldOf gs).length) (gcells (foldOf gs) vo27), .ro D26 (OwnIns D26 (foldOf gs) vo27), .blk g8 27 #[.int .u64 (a.toNat : Int), .int .u64 (b.toNat : Int)], .blk g2 24 #[.int .i64 N, .slice A gs.length c]] := O51.below hb53
      refine ⟨_, rfl, (O54.re [0, 2, 3, 4] rfl : Own Z0 W w52 [.blk g31 24 #[.int .i64 N, .slice A24 ((foldOf gs).length) c25], .ro D26 (OwnIns D26 (foldOf gs) vo27), .blk g8 27 #[.int .u64 (a.toNat : Int), .int .u64 (b.toNat : Int)], .blk g2 24 #[.int .i64 N, .slice A gs.length c]]), ?_⟩
      refine wt1 (v := .bool false) rfl (fun ρ e W => (ex_neb (b := (evalOf N (foldOf gs) ⟨a, b⟩)) (b' := (evalOf N gs ⟨a, b⟩)) (e _ _ rfl) (e _ _ rfl)).trans (by rw [hev, bne_self_eq_false])) rfl rfl ?_
      refine wt1 (v := .bool false) rfl (fun ρ e W => ex_pick0 (e _ _ rfl) (e _ _ rfl)) rfl rfl ?_
      refine wt_nil ?_
      refine xw_next K44 ?_
      refine cw_false rfl ?_
      refine cw_skip ?_
      refine xw_next K43 ?_
      refine cw_seq (fun FK55 K55 => ?_)
      refine cw_drawn (fun X => Own Z0 W X [.blk g31 24 #[.int .i64 N, .slice A24 ((foldOf gs).length) c25], .ro D26 (OwnIns D26 (foldOf gs) vo27), .blk g8 27 #[.int .u64 (a.toNat : Int), .int .u64 (b.toNat : Int)], .blk g2 24 #[.int .i64 N, .slice A gs.length c]]) 17 [(0, 1), (1, 0), (2, 1), (3, 1), (4, 0), (5, 1), (6, 1), (7, 1), (8, 0), (10, 0), (9, 2), (11, 2), (12, 1), (13, 1), (14, 1), (15, 2), (16, 1), (17, 3)] (by kernel_rfl) (by kernel_rfl) (PQ.then_ PQ.body) ((O54.re [0, 2, 3, 4] rfl : Own Z0 W w52 [.blk g31 24 #[.int .i64 N, .slice A24 ((foldOf gs).length) c25], .ro D26 (OwnIns D26 (foldOf gs) vo27), .blk g8 27 #[.int .u64 (a.toNat : Int), .int .u64 (b.toNat : Int)], .blk g2 24 #[.int .i64 N, .slice A gs.length c]])).drew ?_
      have O56 : Own Z0 W w52.drew [.blk g31 24 #[.int .i64 N, .slice A24 ((foldOf gs).length) c25], .row (.slice A24 ((foldOf gs).length) c25) 38 3 ((foldOf gs).length) (gcells (foldOf gs) vo27), .ro D26 (OwnIns D26 (foldOf gs) vo27), .blk g8 27 #[.int .u64 (a.toNat : Int), .int .u64 (b.toNat : Int)], .blk g2 24 #[.int .i64 N, .slice A gs.length c]] := O54.drew
      refine wt1 (v := .pointer (some ⟨g31, 1, none⟩)) rfl (fun ρ e W => ex_field (q := 1) fi24_1 (e _ _ rfl) rfl) rfl rfl ?_
      refine wt0 (v := .slice A24 ((foldOf gs).length) c25) rfl (fun ρ e W hW => ex_load1 ty22 (e _ _ rfl) (hW.cell 0 1 rfl rfl)) rfl rfl ?_
      refine wt1 (v := .int .i64 (((foldOf gs).length : Nat) : Int)) rfl (fun ρ e W => ex_len el22 (e _ _ rfl)) rfl rfl ?_
      refine wt1 (v := .pointer (some ⟨g2, 1, none⟩)) rfl (fun ρ e W => ex_field (q := 1) fi24_1 (e _ _ rfl) rfl) rfl rfl ?_
      refine wt0 (v := .slice A gs.length c) rfl (fun ρ e W hW => ex_load1 ty22 (e _ _ rfl) (hW.cell 3 1 rfl rfl)) rfl rfl ?_
      refine wt1 (v := .int .i64 ((gs.length : Nat) : Int)) rfl (fun ρ e W => ex_len el22 (e _ _ rfl)) rfl rfl ?_
      refine wt1 (v := .bool true) rfl (fun ρ e W => ex_cmp (u := (((foldOf gs).length : Nat) : Int)) (v := ((gs.length : Nat) : Int)) (e _ _ rfl) (e _ _ rfl) (leq1 (by omega))) rfl rfl ?_
      refine wt1 (v := .bool true) rfl (fun ρ e W => ex_move (e _ _ rfl)) rfl rfl ?_
      refine wt0 (v := .agg #[.int .i64 N, .slice A24 ((foldOf gs).length) c25]) rfl (fun ρ e W hW => ex_loadN (vs := [.int .i64 N, .slice A24 ((foldOf gs).length) c25]) ty24 (e _ _ rfl) rfl (hW.cells 0 0 rfl rfl)) rfl rfl ?_
      refine wt0 (v := .agg #[.int .i64 N, .slice A gs.length c]) rfl (fun ρ e W hW => ex_loadN (vs := [.int .i64 N, .slice A gs.length c]) ty24 (e _ _ rfl) rfl (hW.cells 3 0 rfl rfl)) rfl rfl ?_
      refine wt2_call (args := [.agg #[.int .i64 N, .slice A24 ((foldOf gs).length) c25]]) rfl in_23 rfl rfl rfl ?_
      refine (circ_size N _ (foldOf gs) _ _ (Nat.le_refl _) (gates_of_own (O56.row 1 rfl) (O56.ro 2 rfl) (O56.get 2 rfl).2.1) hsz2).mono ?_
      rintro _ w57 ⟨rfl, hb58⟩
      have O59 : Own Z0 W w57 [.blk g31 24 #[.int .i64 N, .slice A24 ((foldOf gs).length) c25], .row (.slice A24 ((foldOf gs).length) c25) 38 3 ((foldOf gs).length) (gcells (foldOf gs) vo27), .ro D26 (OwnIns D26 (foldOf gs) vo27), .blk g8 27 #[.int .u64 (a.toNat : Int), .int .u64 (b.toNat : Int)], .blk g2 24 #[.int .i64 N, .slice A gs.length c]] := O56.below hb58
      refine ⟨_, rfl, (O59.re [0, 2, 3, 4] rfl : Own Z0 W w57 [.blk g31 24 #[.int .i64 N, .slice A24 ((foldOf gs).length) c25], .ro D26 (OwnIns D26 (foldOf gs) vo27), .blk g8 27 #[.int .u64 (a.toNat : Int), .int .u64 (b.toNat : Int)], .blk g2 24 #[.int .i64 N, .slice A gs.length c]]), ?_⟩
      refine wt2_call (args := [.agg #[.int .i64 N, .slice A gs.length c]]) rfl in_23 rfl rfl rfl ?_
      refine (circ_size N _ gs _ _ (Nat.le_refl _) ((hV.below O59.old).more O59.old.size) hsz).mono ?_
      rintro _ w60 ⟨rfl, hb61⟩
      have O62 : Own Z0 W w60 [.blk g31 24 #[.int .i64 N, .slice A24 ((foldOf gs).length) c25], .row (.slice A24 ((foldOf gs).length) c25) 38 3 ((foldOf gs).length) (gcells (foldOf gs) vo27), .ro D26 (OwnIns D26 (foldOf gs) vo27), .blk g8 27 #[.int .u64 (a.toNat : Int), .int .u64 (b.toNat : Int)], .blk g2 24 #[.int .i64 N, .slice A gs.length c]] := O59.below hb61
      refine ⟨_, rfl, (O62.re [0, 2, 3, 4] rfl : Own Z0 W w60 [.blk g31 24 #[.int .i64 N, .slice A24 ((foldOf gs).length) c25], .ro D26 (OwnIns D26 (foldOf gs) vo27), .blk g8 27 #[.int .u64 (a.toNat : Int), .int .u64 (b.toNat : Int)], .blk g2 24 #[.int .i64 N, .slice A gs.length c]]), ?_⟩
      refine wt1 (v := .bool true) rfl (fun ρ e W => ex_cmp (u := ((sizeOf (foldOf gs) : Nat) : Int)) (v := ((sizeOf gs : Nat) : Int)) (e _ _ rfl) (e _ _ rfl) (leq1 (by omega))) rfl rfl ?_
      refine wt1 (v := .bool true) rfl (fun ρ e W => ex_pick1 (e _ _ rfl) (e _ _ rfl)) rfl rfl ?_
      refine wt1 (v := .bool true) rfl (fun ρ e W => ex_move (e _ _ rfl)) rfl rfl ?_
      refine wt2_call (args := []) rfl in_14 rfl rfl rfl ?_
      refine (works_ (tab.below (Nat.le_refl _) O62.old)).mono ?_
      rintro _ w63 ⟨rfl, hb64⟩
      have O65 : Own Z0 W w63 [.blk g31 24 #[.int .i64 N, .slice A24 ((foldOf gs).length) c25], .row (.slice A24 ((foldOf gs).length) c25) 38 3 ((foldOf gs).length) (gcells (foldOf gs) vo27), .ro D26 (OwnIns D26 (foldOf gs) vo27), .blk g8 27 #[.int .u64 (a.toNat : Int), .int .u64 (b.toNat : Int)], .blk g2 24 #[.int .i64 N, .slice A gs.length c]] := O62.below hb64
      refine ⟨_, rfl, (O65.re [0, 2, 3, 4] rfl : Own Z0 W w63 [.blk g31 24 #[.int .i64 N, .slice A24 ((foldOf gs).length) c25], .ro D26 (OwnIns D26 (foldOf gs) vo27), .blk g8 27 #[.int .u64 (a.toNat : Int), .int .u64 (b.toNat : Int)], .blk g2 24 #[.int .i64 N, .slice A gs.length c]]), ?_⟩
      refine wt1 (v := .bool true) rfl (fun ρ e W => ex_pick1 (e _ _ rfl) (e _ _ rfl)) rfl rfl ?_
      refine wt3 (v := .bool true) rfl (fun ρ e => ex_assign (e _ _ rfl)) rfl rfl ?_
      refine wt_nil ?_
      refine xw_next K55 ?_
      refine cw_ret ?_
      refine xw_ret (v := .bool true) (fun T hT => res1 rfl T _ (hT 4 _ rfl)) ?_
      exact ⟨rfl, O65.old⟩
    · skip
      have hc := c22
      refine wl_call (args := [.agg #[.int .i64 N, .slice A gs.length c]]) in_18 rfl rfl rfl ?_
      refine h21.mono ?_
      intro _ w66 hq
      obtain ⟨_, rfl, hb67⟩ := hq.resolve_right (fun z => hc z.1)
      have O68 : Own Z0 W w66 [.blk g8 27 #[.int .u64 (a.toNat : Int), .int .u64 (b.toNat : Int)], .blk g2 24 #[.int .i64 N, .slice A gs.length c]] := O18.below hb67
      refine ⟨_, rfl, ?_⟩
      refine wl_val (v := .tuple #[.agg #[.int .i64 0, .slice none 0 0], .int .i64 (checkOf N gs)]) (fun ρ e => ex_move (e _ _ rfl)) rfl rfl ?_
      refine wl_val (v := .agg #[.int .i64 0, .slice none 0 0]) (fun ρ e => ex_extract (vs := #[.agg #[.int .i64 0, .slice none 0 0], .int .i64 (checkOf N gs)]) (e _ _ rfl) rfl) rfl rfl ?_
      refine wl_val (v := .int .i64 (checkOf N gs)) (fun ρ e => ex_extract (vs := #[.agg #[.int .i64 0, .slice none 0 0], .int .i64 (checkOf N gs)]) (e _ _ rfl) rfl) rfl rfl ?_
      obtain ⟨g69, w70, r71, O72, hg73, hs74⟩ := own_alloc O68 24 ze24 rfl
      refine wl_val (v := .pointer (some ⟨g69, 0, none⟩)) (fun ρ e => r71 ρ _ _ _ _ _) rfl rfl ?_
      obtain ⟨w75, r76, O77, hs78⟩ := own_put (o := 0) (n := 2) O72 ty24 (.agg #[.int .i64 0, .slice none 0 0]) [.int .i64 0, .slice none 0 0] (cs' := #[.int .i64 0, .slice none 0 0]) rfl rfl rfl (Nat.le_of_ble_eq_true rfl) rfl
      refine wl_none (fun ρ e => r76 ρ _ _ _ _ _ _ (e _ _ rfl) (e _ _ rfl)) rfl ?_
      refine wl_val (v := .int .i64 (checkOf N gs)) (fun ρ e => ex_assign (e _ _ rfl)) rfl rfl ?_
      refine wl_nil ?_
      refine xw_next K20 ?_
      refine cw_seq (fun FK79 K79 => ?_)
      refine cw_seq (fun FK80 K80 => ?_)
      refine cw_region ?_
      refine wl_val (v := .int .i64 (checkOf N gs)) (fun ρ e => ex_move (e _ _ rfl)) rfl rfl ?_
      refine wl_val (v := .bool true) (fun ρ e => ex_cmp (u := (checkOf N gs)) (v := 0) (e _ _ rfl) (e _ _ rfl) (neq1 (by omega))) rfl rfl ?_
      refine wl_nil ?_
      refine xw_next K80 ?_
      refine cw_true rfl ?_
      refine cw_seq (fun FK81 K81 => ?_)
      refine cw_region ?_
      refine wl_val (v := .int .i64 (checkOf N gs)) (fun ρ e => ex_move (e _ _ rfl)) rfl rfl ?_
      refine wl_val (v := .agg #[.int .i64 N, .slice A gs.length c]) (fun ρ e => ex_loadN (vs := [.int .i64 N, .slice A gs.length c]) ty24 (e _ _ rfl) rfl (O77.cells 2 0 rfl rfl)) rfl rfl ?_
      refine wl_call (args := [.agg #[.int .i64 N, .slice A gs.length c]]) in_22 rfl rfl rfl ?_
      refine (circ_check N _ gs _ _ (Nat.le_refl _) ((hV.below O77.old).more O77.old.size) hsz).mono ?_
      rintro _ w82 ⟨rfl, hb83⟩
      have O84 : Own Z0 W w82 [.blk g69 24 #[.int .i64 0, .slice none 0 0], .blk g8 27 #[.int .u64 (a.toNat : Int), .int .u64 (b.toNat : Int)], .blk g2 24 #[.int .i64 N, .slice A gs.length c]] := O77.below hb83
      refine ⟨_, rfl, ?_⟩
      refine wl_val (v := .bool true) (fun ρ e => ex_cmp (u := (checkOf N gs)) (v := (checkOf N gs)) (e _ _ rfl) (e _ _ rfl) (eql1 (by omega))) rfl rfl ?_
      refine wl_val (v := .bool true) (fun ρ e => ex_move (e _ _ rfl)) rfl rfl ?_
      refine wl_val (v := .pointer (some ⟨g69, 1, none⟩)) (fun ρ e => ex_field (q := 1) fi24_1 (e _ _ rfl) rfl) rfl rfl ?_
      refine wl_val (v := .slice none 0 0) (fun ρ e => ex_load1 ty22 (e _ _ rfl) (O84.cell 0 1 rfl rfl)) rfl rfl ?_
      refine wl_val (v := .int .i64 (0 : Int)) (fun ρ e => ex_len el22 (e _ _ rfl)) rfl rfl ?_
      refine wl_val (v := .bool true) (fun ρ e => ex_cmp (u := (0 : Int)) (v := 0) (e _ _ rfl) (e _ _ rfl) (eql1 (by omega))) rfl rfl ?_
      refine wl_val (v := .bool true) (fun ρ e => ex_pick1 (e _ _ rfl) (e _ _ rfl)) rfl rfl ?_
      refine wl_val (v := .bool true) (fun ρ e => ex_move (e _ _ rfl)) rfl rfl ?_
      refine wl_val (v := .pointer (some ⟨g69, 0, none⟩)) (fun ρ e => ex_field (q := 0) fi24_0 (e _ _ rfl) rfl) rfl rfl ?_
      refine wl_val (v := .int .i64 0) (fun ρ e => ex_load1 ty3 (e _ _ rfl) (O84.cell 0 0 rfl rfl)) rfl rfl ?_
      refine wl_val (v := .bool true) (fun ρ e => ex_cmp (u := 0) (v := 0) (e _ _ rfl) (e _ _ rfl) (eql1 (by omega))) rfl rfl ?_
      refine wl_val (v := .bool true) (fun ρ e => ex_pick1 (e _ _ rfl) (e _ _ rfl)) rfl rfl ?_
      refine wl_val (v := .bool true) (fun ρ e => ex_move (e _ _ rfl)) rfl rfl ?_
      refine wl_call (args := []) in_14 rfl rfl rfl ?_
      refine (works_ (tab.below (Nat.le_refl _) O84.old)).mono ?_
      rintro _ w85 ⟨rfl, hb86⟩
      have O87 : Own Z0 W w85 [.blk g69 24 #[.int .i64 0, .slice none 0 0], .blk g8 27 #[.int .u64 (a.toNat : Int), .int .u64 (b.toNat : Int)], .blk g2 24 #[.int .i64 N, .slice A gs.length c]] := O84.below hb86
      refine ⟨_, rfl, ?_⟩
      refine wl_val (v := .bool true) (fun ρ e => ex_pick1 (e _ _ rfl) (e _ _ rfl)) rfl rfl ?_
      refine wl_val (v := .bool true) (fun ρ e => ex_assign (e _ _ rfl)) rfl rfl ?_
      refine wl_nil ?_
      refine xw_next K81 ?_
      refine cw_ret ?_
      refine xw_past (by intro h; cases h) ?_
      refine xw_ret (v := .bool true) (fun T hT => res1 rfl T _ (hT 4 _ rfl)) ?_
      exact ⟨rfl, O87.old⟩
end Go.Proofs.YtbemhgojfehnjaaDoor
namespace Go.Proofs.YtbemhgojfehnjaaDoor
open Go
/-- Neither false nor true. -/
def livK (L : List Gate) (x : Int) : Prop := kindAt L x ≠ 0 ∧ kindAt L x ≠ 1
structure NfG (L : List Gate) (g : Gate) : Prop where
  k3 : g.kind = 3 → ∀ a, g.inp = [a] → 3 < kindAt L a
  k45 : g.kind = 4 ∨ g.kind = 5 → 2 ≤ g.inp.length ∧ g.inp.Nodup ∧ ∀ x ∈ g.inp, livK L x
  k6 : g.kind = 6 → ∃ l t, g.inp = l ++ t ∧ 2 ≤ l.length ∧ l.Nodup ∧ (∀ x ∈ l, livK L x) ∧ (t = [] ∨ ∃ y, t = [y] ∧ kindAt L y = 1)
  k7 : g.kind = 7 → ∀ a b, g.inp = [a, b] → a ≠ b ∧ livK L a ∧ livK L b
  k8 : g.kind = 8 → ∀ a b c, g.inp = [a, b, c] → livK L a ∧ b ≠ c ∧ ¬ (kindAt L b = 1 ∧ kindAt L c = 0) ∧ ¬ (kindAt L b = 0 ∧ kindAt L c = 1)
theorem NfG.low {L : List Gate} {g : Gate} (h : g.kind = 0 ∨ g.kind = 1 ∨ g.kind = 2) : NfG L g :=
  ⟨fun e => by omega, fun e => by omega, fun e => by omega, fun e => by omega, fun e => by omega⟩
/-- A gate that a step adds is in that form. -/
def Nf (L : List Gate) (q : List Gate × Int) : Prop := ∀ g, q.1 = L ++ [g] → NfG L g
theorem find_nf {L : List Gate} {g : Gate} (h : NfG L g) : Nf L (findG L g) := by
  intro g' e
  unfold findG at e
  split at e
  · exact absurd (congrArg List.length e) (by simp)
  · have := List.append_cancel_left e
    injection this with this
    rw [← this]; exact h
theorem keep_nf (L : List Gate) (i : Int) : Nf L (L, i) := fun g e => absurd (congrArg List.length e) (by simp)
section
variable {N : Int} {B : Nat} {L : List Gate}
theorem not_nf (hw : wfL N B L) {i : Int} (hi : inR L i) : Nf L (notG L i) := by
  obtain ⟨k, rfl, hk, h1, h2⟩ := gateAt_get hi
  obtain ⟨hg, _⟩ := hw k _ h2
  obtain ⟨p1, p2, p3⟩ := good_parts hg
  have hkd := allowed_kind p1
  rw [notG_eq hk]
  split
  · exact find_nf (NfG.low (by simp))
  · split
    · exact find_nf (NfG.low (by simp))
    · split
      · exact find_nf (NfG.low (by simp))
      · split
        · exact keep_nf _ _
        · refine find_nf ⟨fun _ a e => ?_, fun e => by simp at e, fun e => by simp at e, fun e => by simp at e, fun e => by simp at e⟩
          injection e with e
          rw [← e]
          unfold kindAt
          rw [h1]
          omega
theorem manyGo_nf (nt dc : Int) : ∀ (r left : List Int), left.Nodup → (∀ x ∈ left, kindAt L x ≠ nt ∧ kindAt L x ≠ dc) → ∀ l, manyGo L nt dc r left = .inr l → l.Nodup ∧ ∀ x ∈ l, kindAt L x ≠ nt ∧ kindAt L x ≠ dc
  | [], left, h1, h2, l, e => by injection e with e; rw [← e]; exact ⟨h1, h2⟩
  | i :: r, left, h1, h2, l, e => by
    unfold manyGo at e
    split at e
    · cases e
    · rename_i hd
      split at e
      · rename_i hn
        refine manyGo_nf nt dc r (left ++ [i]) ?_ (fun x hx => ?_) l e
        · rw [List.nodup_append]
          exact ⟨h1, by simp, fun a ha b hb => by rw [List.mem_singleton.1 hb]; intro e2; rw [e2] at ha; exact hn.2 ha⟩
        · rcases List.mem_append.1 hx with h | h
          · exact h2 x h
          · rw [List.mem_singleton.1 h]; exact ⟨hn.1, hd⟩
      · exact manyGo_nf nt dc r left h1 h2 l e
theorem many_nf {kind : Int} (hk : kind = 4 ∨ kind = 5) {ins : List Int} : Nf L (manyG L kind ins) := by
  have h := manyGo_nf (L := L) (if kind = 5 then 0 else 1) (if kind = 5 then 1 else 0) ins [] (by simp) (by simp)
  unfold manyG
  dsimp only
  generalize manyGo L (if kind = 5 then 0 else 1) (if kind = 5 then 1 else 0) ins [] = q at h
  match q, h with
  | .inl i, _ => exact keep_nf _ _
  | .inr [], _ => exact find_nf (NfG.low (by rcases hk with rfl | rfl <;> simp))
  | .inr [x], _ => exact keep_nf _ _
  | .inr (x :: y :: l), h =>
    have h' := h _ rfl
    refine find_nf ⟨fun e => by simp at e; omega, fun _ => ⟨by simp, h'.1, fun z hz => ?_⟩, fun e => by simp at e; omega, fun e => by simp at e; omega, fun e => by simp at e; omega⟩
    have := h'.2 z hz
    unfold livK
    rcases hk with rfl | rfl
    · simp at this; exact ⟨this.2, this.1⟩
    · simp at this; exact this
theorem xorGo_nf : ∀ (r : List Int) (odd : Int → Bool) (left : List Int) (last : Int), left.Nodup → (∀ x ∈ left, livK L x ∧ odd x = false) → (last < 0 ∨ kindAt L last = 1) →
    (xorGo L odd r left last).1.Nodup ∧ (∀ x ∈ (xorGo L odd r left last).1, livK L x) ∧ ((xorGo L odd r left last).2 < 0 ∨ kindAt L (xorGo L odd r left last).2 = 1)
  | [], _, left, last, h1, h2, h3 => ⟨h1, fun x hx => (h2 x hx).1, h3⟩
  | i :: r, odd, left, last, h1, h2, h3 => by
    unfold xorGo
    split
    · exact xorGo_nf r odd left last h1 h2 h3
    · rename_i h0
      have ho : odd i = true := by
        cases e : odd i with
        | true => rfl
        | false => exact absurd (.inl e) h0
      have hni : i ∉ left := fun h => by rw [(h2 i h).2] at ho; cases ho
      split
      · rename_i hk
        exact xorGo_nf r (off odd i) left i h1 (fun x hx => ⟨(h2 x hx).1, by unfold off; split; rfl; exact (h2 x hx).2⟩) (.inr hk)
      · rename_i hk
        refine xorGo_nf r (off odd i) (left ++ [i]) last ?_ (fun x hx => ?_) h3
        · rw [List.nodup_append]
          exact ⟨h1, by simp, fun a ha b hb => by rw [List.mem_singleton.1 hb]; intro e2; rw [e2] at ha; exact hni ha⟩
        · rcases List.mem_append.1 hx with h | h
          · exact ⟨(h2 x h).1, by unfold off; split; rfl; exact (h2 x h).2⟩
          · rw [List.mem_singleton.1 h]; exact ⟨⟨fun e => h0 (.inr e), hk⟩, by simp [off]⟩
theorem xor_nf (hw : wfL N B L) {ins : List Int} (hi : ∀ x ∈ ins, inR L x) : Nf L (xorG L ins) := by
  have h := xorGo_nf (L := L) ins (fun x => oddIn x ins) [] (-1) (by simp) (by simp) (.inl (by decide))
  have hr := xorGo_ok (L := L) (P := inR L) (fun x => oddIn x ins) ins [] (-1) hi (by simp) (.inl (by decide))
  unfold xorG
  generalize xorGo L (fun x => oddIn x ins) ins [] (-1) = q at h hr
  obtain ⟨left, last⟩ := q
  obtain ⟨h1, h2, h3⟩ := h
  simp only at h1 h2 h3
  match left with
  | [] =>
    dsimp only
    split
    · exact find_nf (NfG.low (by simp))
    · exact keep_nf _ _
  | [x] =>
    dsimp only
    split
    · exact keep_nf _ _
    · exact not_nf hw (hr.1 x (by simp))
  | x :: y :: l =>
    dsimp only
    split
    · rename_i hl
      exact find_nf ⟨fun e => by simp at e, fun e => by simp at e, fun _ => ⟨x :: y :: l, [last], rfl, by simp, h1, h2, .inr ⟨last, rfl, h3.resolve_left (by omega)⟩⟩, fun e => by simp at e, fun e => by simp at e⟩
    · exact find_nf ⟨fun e => by simp at e, fun e => by simp at e, fun _ => ⟨x :: y :: l, [], by simp, by simp, h1, h2, .inl rfl⟩, fun e => by simp at e, fun e => by simp at e⟩
theorem iff_nf (hw : wfL N B L) {a b : Int} (ha : inR L a) (hb : inR L b) : Nf L (iffG L a b) := by
  unfold iffG
  split
  · exact find_nf (NfG.low (by simp))
  · split
    · exact keep_nf _ _
    · split
      · exact keep_nf _ _
      · split
        · exact not_nf hw hb
        · split
          · exact not_nf hw ha
          · rename_i h1 h2 h3 h4 h5
            exact find_nf ⟨fun e => by simp at e, fun e => by simp at e, fun e => by simp at e, fun _ x y e => by injection e with e1 e2; injection e2 with e2; subst e1 e2; exact ⟨h1, ⟨h4, h2⟩, ⟨h5, h3⟩⟩, fun e => by simp at e⟩
theorem choose_nf (hw : wfL N B L) {a b c : Int} (ha : inR L a) : Nf L (chooseG L a b c) := by
  unfold chooseG
  split
  · exact keep_nf _ _
  · split
    · exact keep_nf _ _
    · split
      · exact keep_nf _ _
      · split
        · exact not_nf hw ha
        · rename_i h1 h2 h3 h4
          exact find_nf ⟨fun e => by simp at e, fun e => by simp at e, fun e => by simp at e, fun e => by simp at e, fun _ x y z e => by
            injection e with e1 e2; injection e2 with e2 e3; injection e3 with e3; subst e1 e2 e3
            exact ⟨⟨fun h => h2 (.inl h), h1⟩, fun h => h2 (.inr h), h3, h4⟩⟩
theorem step_nf (hw : wfL N B L) {i : Int} {g : Gate} (hg : goodGate N i g = true) {ins : List Int} (hl : ins.length = g.inp.length) (hi : ∀ x ∈ ins, inR L x) : Nf L (stepG L g ins) := by
  obtain ⟨p1, p2, _⟩ := good_parts hg
  have hk := allowed_kind p1
  rw [← hl] at p1
  unfold stepG
  split
  · rename_i h
    rw [h] at p1
    have := allowed3 p1
    match ins, hi, (show ins.length = 1 by omega) with
    | [a], hi, _ => exact not_nf hw (hi a (by simp))
  · split
    · rename_i h; exact many_nf h
    · split
      · exact xor_nf hw hi
      · split
        · rename_i h
          rw [h] at p1
          have := allowed7 p1
          match ins, hi, (show ins.length = 2 by omega) with
          | [a, b], hi, _ => exact iff_nf hw (hi a (by simp)) (hi b (by simp))
        · split
          · rename_i h
            rw [h] at p1
            have := allowed8 p1
            match ins, hi, (show ins.length = 3 by omega) with
            | [a, b, c], hi, _ => exact choose_nf hw (hi a (by simp))
          · exact find_nf (NfG.low (by show g.kind = 0 ∨ g.kind = 1 ∨ g.kind = 2; omega))
/-! Such gates are kept. -/
theorem manyGo_keep (nt dc : Int) : ∀ (r left : List Int), (left ++ r).Nodup → (∀ x ∈ r, kindAt L x ≠ nt ∧ kindAt L x ≠ dc) → manyGo L nt dc r left = .inr (left ++ r)
  | [], left, _, _ => by simp [manyGo]
  | i :: r, left, h1, h2 => by
    have hi := h2 i (by simp)
    have hm : i ∉ left := fun hm => by rw [List.nodup_append] at h1; exact h1.2.2 i hm i (by simp) rfl
    unfold manyGo
    rw [if_neg hi.2, if_pos ⟨hi.1, hm⟩, manyGo_keep nt dc r (left ++ [i]) (by simpa using h1) (fun x hx => h2 x (by simp [hx])), List.append_assoc]
    rfl
theorem xorGo_keep : ∀ (r left t : List Int) (odd : Int → Bool) (last : Int), (left ++ r).Nodup → (∀ x ∈ r, livK L x ∧ odd x = true) → ∃ odd', xorGo L odd (r ++ t) left last = xorGo L odd' t (left ++ r) last ∧ ∀ x, x ∉ r → odd' x = odd x
  | [], left, t, odd, last, _, _ => ⟨odd, by simp, fun _ _ => rfl⟩
  | i :: r, left, t, odd, last, h1, h2 => by
    obtain ⟨⟨k0, k1⟩, ho⟩ := h2 i (by simp)
    have hnd : (left ++ [i] ++ r).Nodup := by simpa using h1
    have hir : i ∉ r := by
      rw [List.nodup_append] at h1
      have := h1.2.1
      rw [List.nodup_cons] at this
      exact this.1
    obtain ⟨odd', e, hx⟩ := xorGo_keep r (left ++ [i]) t (off odd i) last hnd (fun x hx => ⟨(h2 x (by simp [hx])).1, by
      unfold off; rw [if_neg (fun e => hir (by rw [← e]; exact hx))]; exact (h2 x (by simp [hx])).2⟩)
    refine ⟨odd', ?_, fun x hn => ?_⟩
    · rw [List.cons_append, xorGo, if_neg (by intro h; rcases h with h | h; rw [ho] at h; cases h; exact k0 h), if_neg k1]
      unfold off at e
      rw [e]; simp
    · rw [hx x (fun h => hn (by simp [h]))]
      unfold off
      rw [if_neg (fun e => hn (by simp [e]))]
theorem oddIn_not {x : Int} : ∀ {l : List Int}, x ∉ l → oddIn x l = false
  | [], _ => rfl
  | y :: l, h => by
    rw [oddIn, oddIn_not (fun e => h (by simp [e])), decide_eq_false (fun e => h (by simp [e]))]; rfl
theorem oddIn_app {x : Int} : ∀ {l t : List Int}, l.Nodup → x ∈ l → x ∉ t → oddIn x (l ++ t) = true
  | [], _, _, h, _ => by cases h
  | y :: l, t, hn, h, ht => by
    rw [List.nodup_cons] at hn
    rw [List.cons_append, oddIn]
    by_cases e : x = y
    · subst e
      rw [decide_eq_true rfl, oddIn_not (by simp [hn.1, ht])]; rfl
    · rw [decide_eq_false e, oddIn_app hn.2 (by rcases List.mem_cons.1 h with h | h; exact absurd h e; exact h) ht]; rfl
theorem step_keep (hw : wfL N B L) {g : Gate} (hg : goodGate N (L.length : Int) g = true) (hn : NfG L g) : stepG L g g.inp = findG L g := by
  obtain ⟨p1, p2, p3⟩ := good_parts hg
  have hk := allowed_kind p1
  obtain ⟨kd, lt, ins⟩ := g
  simp only at p1 p2 p3 hk
  have hlit : kd ≠ 2 → lt = 0 := fun h => by simpa [litGood, h] using p2
  obtain ⟨n3, n45, n6, n7, n8⟩ := hn
  simp only at n3 n45 n6 n7 n8
  unfold stepG
  dsimp only
  split
  · rename_i h; subst h
    have := allowed3 p1
    rw [hlit (by omega)]
    match ins, n3, p3, (show ins.length = 1 by omega) with
    | [a], n3, p3, _ =>
      have ha : inR L a := p3 a (by simp)
      obtain ⟨k, rfl, hk, h1, _⟩ := gateAt_get ha
      have h3 := n3 rfl _ rfl
      unfold kindAt at h3
      rw [h1] at h3
      show notG L (k : Int) = _
      rw [notG_eq hk, if_neg (by omega), if_neg (by omega), if_neg (by omega), if_neg (by omega)]
  · split
    · rename_i h
      rw [hlit (by omega)]
      obtain ⟨l1, l2, l3⟩ := n45 h
      unfold manyG
      rcases h with rfl | rfl
      · simp only [show ¬ ((4 : Int) = 5) from by decide, if_false]
        rw [manyGo_keep 1 0 ins [] (by simpa using l2) (fun x hx => ⟨(l3 x hx).2, (l3 x hx).1⟩), List.nil_append]
        match ins, l1 with
        | x :: y :: l, _ => rfl
      · simp only [if_true]
        rw [manyGo_keep 0 1 ins [] (by simpa using l2) (fun x hx => l3 x hx), List.nil_append]
        match ins, l1 with
        | x :: y :: l, _ => rfl
    · split
      · rename_i h; subst h
        rw [hlit (by omega)]
        obtain ⟨l, t, rfl, l1, l2, l3, ht⟩ := n6 rfl
        have hdis : ∀ x ∈ l, x ∉ t := by
          intro x hx hxt
          rcases ht with rfl | ⟨y, rfl, hy⟩
          · cases hxt
          · rw [List.mem_singleton.1 hxt] at hx
            exact (l3 y hx).2 hy
        obtain ⟨odd', e, ho⟩ := xorGo_keep (L := L) l [] t (fun x => oddIn x (l ++ t)) (-1) (by simpa using l2) (fun x hx => ⟨l3 x hx, oddIn_app l2 hx (hdis x hx)⟩)
        unfold xorG
        rw [e, List.nil_append]
        rcases ht with rfl | ⟨y, rfl, hy⟩
        · rw [xorGo]
          match l, l1 with
          | x :: y :: l, _ => simp
        · have hyl : y ∉ l := fun h => (l3 y h).2 hy
          have hoy : odd' y = true := by
            rw [ho y hyl]
            have : ∀ l : List Int, y ∉ l → oddIn y (l ++ [y]) = true := by
              intro l
              induction l with
              | nil => intro _; simp [oddIn]
              | cons z l ih =>
                intro h
                rw [List.cons_append, oddIn, ih (fun e => h (by simp [e])), decide_eq_false (fun e => h (by simp [e]))]; rfl
            exact this l hyl
          have hy0 : 0 ≤ y := (p3 y (by simp)).1
          rw [xorGo, if_neg (by intro h; rcases h with h | h; rw [hoy] at h; cases h; omega), if_pos hy, xorGo]
          match l, l1 with
          | x :: z :: l, _ =>
            dsimp only
            rw [if_pos hy0]
      · split
        · rename_i h; subst h
          rw [hlit (by omega)]
          have := allowed7 p1
          match ins, n7, (show ins.length = 2 by omega) with
          | [a, b], n7, _ =>
            obtain ⟨a1, ⟨a2, a3⟩, ⟨a4, a5⟩⟩ := n7 rfl a b rfl
            show iffG L a b = _
            unfold iffG
            rw [if_neg a1, if_neg a3, if_neg a5, if_neg a2, if_neg a4]
        · split
          · rename_i h; subst h
            rw [hlit (by omega)]
            have := allowed8 p1
            match ins, n8, (show ins.length = 3 by omega) with
            | [a, b, c], n8, _ =>
              obtain ⟨⟨a1, a2⟩, a3, a4, a5⟩ := n8 rfl a b c rfl
              show chooseG L a b c = _
              unfold chooseG
              rw [if_neg a2, if_neg (by intro h; rcases h with h | h; exact a1 h; exact a3 h), if_neg a4, if_neg a5]
          · have h0 : kd = 0 ∨ kd = 1 ∨ kd = 2 := by omega
            have hz : ins.length = 0 := by
              unfold allowedB at p1
              rw [if_pos h0] at p1
              simpa using p1
            rw [List.length_eq_zero_iff.1 hz]
end
end Go.Proofs.YtbemhgojfehnjaaDoor
namespace Go.Proofs.YtbemhgojfehnjaaDoor
open Go
def NFL (L : List Gate) : Prop := ∀ (i : Nat) (g : Gate), L[i]? = some g → NfG L g
theorem kind_app {L : List Gate} (M : List Gate) {x : Int} (h : inR L x) : kindAt (L ++ M) x = kindAt L x := by
  unfold kindAt gateAt
  have := h.1
  have := h.2
  rw [List.getD_eq_getElem?_getD, List.getD_eq_getElem?_getD, List.getElem?_append_left (by omega)]
theorem inR_app {L : List Gate} (M : List Gate) {x : Int} (h : inR L x) : inR (L ++ M) x := ⟨h.1, by have := h.2; rw [List.length_append]; omega⟩
theorem NfG.app {L : List Gate} (M : List Gate) {g : Gate} (h : NfG L g) (hi : ∀ x ∈ g.inp, inR L x) : NfG (L ++ M) g := by
  have hk : ∀ x ∈ g.inp, kindAt (L ++ M) x = kindAt L x := fun x hx => kind_app M (hi x hx)
  refine ⟨fun e a ea => ?_, fun e => ?_, fun e => ?_, fun e a b ea => ?_, fun e a b c ea => ?_⟩
  · rw [hk a (by rw [ea]; simp)]; exact h.k3 e a ea
  · obtain ⟨a, b, c⟩ := h.k45 e
    exact ⟨a, b, fun x hx => by unfold livK; rw [hk x hx]; exact c x hx⟩
  · obtain ⟨l, t, e1, e2, e3, e4, e5⟩ := h.k6 e
    refine ⟨l, t, e1, e2, e3, fun x hx => by unfold livK; rw [hk x (by rw [e1]; simp [hx])]; exact e4 x hx, e5.imp id (fun ⟨y, h1, h2⟩ => ⟨y, h1, by rw [hk y (by rw [e1, h1]; simp)]; exact h2⟩)⟩
  · unfold livK
    rw [hk a (by rw [ea]; simp), hk b (by rw [ea]; simp)]
    exact h.k7 e a b ea
  · unfold livK
    rw [hk a (by rw [ea]; simp), hk b (by rw [ea]; simp), hk c (by rw [ea]; simp)]
    exact h.k8 e a b c ea
section
variable {N : Int} {B : Nat} {L : List Gate}
theorem wf_in (hw : wfL N B L) {i : Nat} {g : Gate} (h : L[i]? = some g) : ∀ x ∈ g.inp, inR L x := by
  intro x hx
  have := (good_parts (hw i g h).1).2.2 x hx
  have := (List.getElem?_eq_some_iff.1 h).1
  exact ⟨by omega, by omega⟩
theorem NFL.step (hw : wfL N B L) (hn : NFL L) {q : List Gate × Int} (ok : StepOk N B L q) (nf : Nf L q) : NFL q.1 := by
  rcases ok.ext with e | ⟨g', e⟩
  · rw [e]; exact hn
  · have hw' := ok.wf
    rw [e] at hw' ⊢
    intro i g hg
    rcases get_snoc hg with ⟨a, _⟩ | ⟨a, b⟩
    · exact (hn i g a).app _ (wf_in hw a)
    · subst b
      refine (nf g e).app _ (fun x hx => ?_)
      have := (good_parts (hw' i g hg).1).2.2 x hx
      exact ⟨by omega, by omega⟩
theorem fold_nf (hB : 3 ≤ B) : ∀ (r pre L : List Gate) (found : List Int), FI N B pre L found → NFL L → (∀ (k : Nat) (g : Gate), r[k]? = some g → goodGate N ((pre.length + k : Nat) : Int) g = true ∧ g.inp.length + 1 ≤ B) → NFL (foldGo r (L, found)).1
  | [], pre, L, found, _, hn, _ => by simpa [foldGo] using hn
  | g :: r, pre, L, found, h, hn, hr => by
    have h0 := hr 0 g rfl
    obtain ⟨p1, p2, p3⟩ := good_parts h0.1
    have hin : ∀ x ∈ (g.inp.map fun k => found.getD k.toNat 0), inR L x := by
      intro x hx
      obtain ⟨k, hk, rfl⟩ := List.mem_map.1 hx
      have := p3 k hk
      exact (h.at_ k.toNat (by omega)).1
    have ok := stepG_ok h.wf hB h0.1 (ins := g.inp.map fun k => found.getD k.toNat 0) (by simp) hin (by simpa using h0.2)
    have nf := step_nf h.wf h0.1 (ins := g.inp.map fun k => found.getD k.toNat 0) (by simp) hin
    exact fold_nf hB r (pre ++ [g]) _ _ (fold_one hB h h0.1 h0.2) (hn.step h.wf ok nf) (fun k x hk => by
      have := hr (k + 1) x (by simpa using hk)
      rw [List.length_append, List.length_singleton, show pre.length + 1 + k = pre.length + (k + 1) from by omega]
      exact this)
/-- Where a gate stands, it is found. -/
theorem find_at (hd : ND L) {i : Nat} {g : Gate} (h : L[i]? = some g) : findG L g = (L, (i : Int)) := by
  unfold findG
  cases e : gidx g L 0 with
  | none => exact absurd (List.mem_of_getElem? h) (gidx_none e)
  | some k =>
    obtain ⟨_, _, h3⟩ := gidx_lt e
    rw [Nat.sub_zero] at h3
    rw [hd k i g h3 h]
theorem find_atI (hd : ND L) {i : Int} (hi : inR L i) {g : Gate} (h : L[i.toNat]? = some g) : findG L g = (L, i) := by
  rw [find_at hd h]
  have := hi.1
  rw [Int.toNat_of_nonneg this]
theorem false_gate (hw : wfL N B L) {i : Int} (hi : inR L i) (h : kindAt L i = 0) : L[i.toNat]? = some ⟨0, 0, []⟩ := by
  obtain ⟨k, rfl, hk, h1, h2⟩ := gateAt_get hi
  obtain ⟨hg, _⟩ := hw k _ h2
  obtain ⟨p1, p2, p3⟩ := good_parts hg
  unfold kindAt at h
  rw [h1] at h
  rw [Int.toNat_natCast, h2]
  generalize L[k] = g at h p1 p2
  obtain ⟨kd, lt, ins⟩ := g
  simp only at h p1 p2
  subst h
  have e1 : ins.length = 0 := by simpa [allowedB] using p1
  have e2 : lt = 0 := by simpa [litGood] using p2
  rw [List.length_eq_zero_iff.1 e1, e2]
theorem and_self (hw : wfL N B L) (hd : ND L) {r : Int} (hr : inR L r) : manyG L 4 [r, r] = (L, r) := by
  unfold manyG
  simp only [show ¬ ((4 : Int) = 5) from by decide, if_false, manyGo]
  by_cases h0 : kindAt L r = 0
  · rw [if_pos h0]
  · rw [if_neg h0]
    by_cases h1 : kindAt L r = 1
    · rw [if_neg (by intro h; exact h.1 h1), if_neg h0, if_neg (by intro h; exact h.1 h1)]
      exact find_atI hd hr (true_gate hw hr h1)
    · rw [if_pos ⟨h1, by simp⟩, if_neg h0, if_neg (by intro h; exact h.2 (by simp))]
      rfl
theorem or_self (hw : wfL N B L) (hd : ND L) {r : Int} (hr : inR L r) : manyG L 5 [r] = (L, r) := by
  unfold manyG
  simp only [if_true, manyGo]
  by_cases h0 : kindAt L r = 1
  · rw [if_pos h0]
  · rw [if_neg h0]
    by_cases h1 : kindAt L r = 0
    · rw [if_neg (by intro h; exact h.1 h1)]
      exact find_atI hd hr (false_gate hw hr h1)
    · rw [if_pos ⟨h1, by simp⟩]
      rfl
theorem or_false (hw : wfL N B L) (hd : ND L) {f r : Int} (hr : inR L r) (hf : kindAt L f = 0) : manyG L 5 [f, r, f] = (L, r) := by
  unfold manyG
  have n1 : ¬ kindAt L f = 1 := by omega
  have n2 : ∀ l : List Int, ¬ (kindAt L f ≠ 0 ∧ f ∉ l) := fun l h => h.1 hf
  simp only [if_true, manyGo]
  rw [if_neg n1, if_neg (n2 _)]
  by_cases h0 : kindAt L r = 1
  · rw [if_pos h0]
  · rw [if_neg h0]
    by_cases h1 : kindAt L r = 0
    · rw [if_neg (by intro h; exact h.1 h1), if_neg n1, if_neg (n2 _)]
      exact find_atI hd hr (false_gate hw hr h1)
    · rw [if_pos ⟨h1, by simp⟩, if_neg n1, if_neg (n2 _)]
      rfl
theorem xorGo3 {r : Int} {odd : Int → Bool} (ho : odd r = true) : xorGo L odd [r, r, r] [] (-1) = if kindAt L r = 0 then ([], -1) else if kindAt L r = 1 then ([], r) else ([r], -1) := by
  by_cases h0 : kindAt L r = 0
  · simp [xorGo, h0]
  · by_cases h1 : kindAt L r = 1
    · simp [xorGo, ho, h1]
    · simp [xorGo, ho, h0, h1]
theorem xor_self (hw : wfL N B L) (hd : ND L) {r : Int} (hr : inR L r) : xorG L [r, r, r] = (L, r) := by
  have h := xorGo3 (L := L) (r := r) (odd := fun x => oddIn x [r, r, r]) (by simp [oddIn])
  unfold xorG
  rw [h]
  by_cases h0 : kindAt L r = 0
  · rw [if_pos h0]
    exact find_atI hd hr (false_gate hw hr h0)
  · rw [if_neg h0]
    by_cases h1 : kindAt L r = 1
    · rw [if_pos h1]
      dsimp only
      rw [if_neg (by have := hr.1; omega)]
    · rw [if_neg h1]
      rfl
theorem iff_true {t r : Int} (hd : ND L) (hw : wfL N B L) (hr : inR L r) (ht : kindAt L t = 1) : iffG L t r = (L, r) := by
  unfold iffG
  split
  · rename_i h
    subst h
    exact find_atI hd hr (true_gate hw hr ht)
  · rfl
theorem choose_false {f r : Int} (hf : kindAt L f = 0) : chooseG L f f r = (L, r) := by
  unfold chooseG
  rw [if_neg (by omega), if_pos (.inl hf)]
/-- A gate that has been looked for stands where it was found. -/
theorem find_get (hd : ND L) (g : Gate) : (findG L g).1[(findG L g).2.toNat]? = some g ∧ 0 ≤ (findG L g).2 ∧ (∃ M, (findG L g).1 = L ++ M) ∧ ND (findG L g).1 := by
  unfold findG
  cases e : gidx g L 0 with
  | none => exact ⟨by simp, by simp, ⟨[g], rfl⟩, hd.snoc (gidx_none e)⟩
  | some k =>
    obtain ⟨_, _, h3⟩ := gidx_lt e
    exact ⟨by simpa using h3, by simp, ⟨[], by simp⟩, hd⟩
theorem kind_get {i : Int} {g : Gate} (h0 : 0 ≤ i) (h : L[i.toNat]? = some g) : kindAt L i = g.kind ∧ gateAt L i = g ∧ inR L i := by
  have h1 : gateAt L i = g := by
    unfold gateAt
    rw [List.getD_eq_getElem?_getD, h]; rfl
  have := (List.getElem?_eq_some_iff.1 h).1
  exact ⟨by unfold kindAt; rw [h1], h1, h0, by omega⟩
theorem not_get {i : Int} {g : Gate} (h0 : 0 ≤ i) (h : L[i.toNat]? = some g) : notG L i = if g.kind = 0 then findG L ⟨1, 0, []⟩ else if g.kind = 1 then findG L ⟨0, 0, []⟩ else if g.kind = 2 then findG L ⟨2, -g.lit, []⟩
    else if g.kind = 3 then (L, g.inp.getD 0 0) else findG L ⟨3, 0, [i]⟩ := by
  unfold notG
  rw [(kind_get h0 h).2.1]
/-- Not of not. -/
theorem not_not (hw : wfL N B L) (hd : ND L) (hn : NFL L) {r : Int} (hr : inR L r) : ∃ M, notG (notG L r).1 (notG L r).2 = (L ++ M, r) := by
  obtain ⟨k, rfl, hk, _, h2⟩ := gateAt_get hr
  have hnf := hn k _ h2
  obtain ⟨p1, p2, p3⟩ := good_parts (hw k _ h2).1
  have hkd := allowed_kind p1
  generalize hg : L[k] = g at h2 hnf p1 p2 p3 hkd
  have e0 := not_get (L := L) (i := (k : Int)) (g := g) (by omega) (by simpa using h2)
  have back : ∀ g1 : Gate, ∃ M, (findG L g1).1 = L ++ M ∧ findG (findG L g1).1 g = (L ++ M, (k : Int)) := by
    intro g1
    obtain ⟨_, _, ⟨M, hM⟩, hnd⟩ := find_get hd g1
    refine ⟨M, hM, ?_⟩
    rw [hM] at hnd ⊢
    exact find_at hnd (by rw [List.getElem?_append_left hk]; exact h2)
  obtain ⟨kd, lt, ins⟩ := g
  simp only at e0 p1 p2 p3 hkd hnf back
  have hlit : kd ≠ 2 → lt = 0 := fun h => by simpa [litGood, h] using p2
  have hins : kd = 0 ∨ kd = 1 ∨ kd = 2 → ins = [] := by
    intro h
    unfold allowedB at p1
    rw [if_pos h] at p1
    exact List.length_eq_zero_iff.1 (by simpa using p1)
  rw [e0]
  by_cases h0 : kd = 0
  · subst h0
    rw [if_pos rfl]
    obtain ⟨a, b, _, _⟩ := find_get hd ⟨1, 0, []⟩
    obtain ⟨M, _, hb⟩ := back ⟨1, 0, []⟩
    rw [not_get b a]
    rw [hlit (by omega), hins (.inl rfl)] at hb
    exact ⟨M, hb⟩
  · rw [if_neg h0]
    by_cases h1 : kd = 1
    · subst h1
      rw [if_pos rfl]
      obtain ⟨a, b, _, _⟩ := find_get hd ⟨0, 0, []⟩
      obtain ⟨M, _, hb⟩ := back ⟨0, 0, []⟩
      rw [not_get b a]
      rw [hlit (by omega), hins (.inr (.inl rfl))] at hb
      exact ⟨M, hb⟩
    · rw [if_neg h1]
      by_cases h3 : kd = 2
      · subst h3
        rw [if_pos rfl]
        obtain ⟨a, b, _, _⟩ := find_get hd ⟨2, -lt, []⟩
        obtain ⟨M, _, hb⟩ := back ⟨2, -lt, []⟩
        rw [not_get b a]
        rw [hins (.inr (.inr rfl))] at hb
        refine ⟨M, ?_⟩
        show findG (findG L ⟨2, -lt, []⟩).1 ⟨2, - -lt, []⟩ = _
        rw [Int.neg_neg]
        exact hb
      · rw [if_neg h3]
        by_cases h4 : kd = 3
        · subst h4
          rw [if_pos rfl]
          have hl := allowed3 p1
          match ins, p3, hnf, h2, (show ins.length = 1 by omega) with
          | [a], p3, hnf, h2, _ =>
            have ha : inR L a := by
              have := p3 a (by simp)
              exact ⟨this.1, by omega⟩
            have h5 := hnf.k3 rfl a rfl
            obtain ⟨j, rfl, hj, q1, q2⟩ := gateAt_get ha
            unfold kindAt at h5
            rw [q1] at h5
            have e2 := not_get (L := L) (i := (j : Int)) (g := L[j]) (by omega) (by rw [Int.toNat_natCast]; exact q2)
            rw [if_neg (by omega), if_neg (by omega), if_neg (by omega), if_neg (by omega)] at e2
            refine ⟨[], ?_⟩
            show notG L (j : Int) = _
            rw [e2, List.append_nil]
            rw [hlit (by omega)] at h2
            exact find_at hd h2
        · rw [if_neg h4]
          obtain ⟨a, b, ⟨M, hM⟩, _⟩ := find_get hd ⟨3, 0, [(k : Int)]⟩
          refine ⟨M, ?_⟩
          rw [not_get b a, if_neg (by show ¬ (3 : Int) = 0; decide), if_neg (by show ¬ (3 : Int) = 1; decide), if_neg (by show ¬ (3 : Int) = 2; decide), if_pos rfl, hM]
          rfl
end
/-! What is needed stands before the root. -/
theorem useGo_app {L M : List Gate} : ∀ (n : Nat) (u : List Bool), n ≤ L.length → useGo (L ++ M) n u = useGo L n u
  | 0, _, _ => rfl
  | n + 1, u, h => by
    rw [useGo_succ (L ++ M) u (by rw [List.length_append]; omega), useGo_succ L u (by omega), useGo_app n _ (by omega), List.getElem_append_left]
theorem needed_app {L M : List Gate} {r : Int} (hr : inR L r) : neededG (L ++ M) r = neededG L r := by
  have h0 := hr.1
  have h1 := hr.2
  unfold neededG useOf
  rw [useGo_app _ _ (by omega), List.take_append_of_le_length (by omega)]
theorem foldGo_app : ∀ (a b : List Gate) (s : List Gate × List Int), foldGo (a ++ b) s = foldGo b (foldGo a s)
  | [], _, _ => rfl
  | g :: a, b, (L, found) => by rw [List.cons_append, foldGo, foldGo, foldGo_app a b]
end Go.Proofs.YtbemhgojfehnjaaDoor
namespace Go.Proofs.YtbemhgojfehnjaaDoor
open Go
def extra (n : Int) : Nat → List Gate
  | 0 => [⟨3, 0, [n - 1]⟩, ⟨3, 0, [n]⟩]
  | 1 => [⟨4, 0, [n - 1, n - 1]⟩]
  | 2 => [⟨5, 0, [n - 1]⟩]
  | 3 => [⟨6, 0, [n - 1, n - 1, n - 1]⟩]
  | 4 => [⟨0, 0, []⟩, ⟨5, 0, [n, n - 1, n]⟩]
  | 5 => [⟨1, 0, []⟩, ⟨7, 0, [n, n - 1]⟩]
  | _ => [⟨0, 0, []⟩, ⟨8, 0, [n, n, n - 1]⟩]
theorem total_app (a b : List Gate) : total (a ++ b) = total a + total b := by simp [total]
theorem check_app {N : Int} {gs e : List Gate} (hc : checkOf N gs = 0) (h1 : gs.length + e.length ≤ 4096) (h2 : total gs + total e ≤ 65536) (h3 : ∀ (j : Nat) (g : Gate), e[j]? = some g → goodGate N ((gs.length + j : Nat) : Int) g = true) : checkOf N (gs ++ e) = 0 := by
  obtain ⟨b0, b1, b2, _, _⟩ := check_bounds hc
  unfold checkOf
  rw [total_size, total_app, List.length_append, if_neg (by omega), if_neg (by omega), if_neg (by omega), if_pos]
  rw [goodTo_iff]
  intro i hi
  rw [goodAt_eq _ _ _ (by rw [List.length_append]; exact hi)]
  by_cases h : i < gs.length
  · rw [List.getElem_append_left h]
    exact check_gate hc i h
  · rw [List.getElem_append_right (by omega)]
    have := h3 (i - gs.length) (e[i - gs.length]'(by omega)) (List.getElem?_eq_getElem _)
    rwa [show gs.length + (i - gs.length) = i from by omega] at this
theorem extra_good {N : Int} {n : Nat} (hn : 0 < n) (k : Nat) : ∀ (j : Nat) (g : Gate), (extra n k)[j]? = some g → goodGate N ((n + j : Nat) : Int) g = true := by
  intro j g h
  have hr : ∀ l : List Int, (∀ x ∈ l, 0 ≤ x ∧ x < ((n + j : Nat) : Int)) → l.all (inOk ((n + j : Nat) : Int)) = true := by
    intro l hl
    rw [List.all_eq_true]
    intro x hx
    simpa [inOk] using hl x hx
  have ok : ∀ (kd : Int) (l : List Int), allowedB kd l.length = true → kd ≠ 2 → (∀ x ∈ l, 0 ≤ x ∧ x < ((n + j : Nat) : Int)) → goodGate N ((n + j : Nat) : Int) ⟨kd, 0, l⟩ = true := by
    intro kd l h1 h2 h3
    exact good_of h1 (by unfold litGood; rw [if_neg h2]; rfl) h3
  have two : ∀ (a b : Gate), [a, b][j]? = some g → (j = 0 ∧ g = a) ∨ (j = 1 ∧ g = b) := by
    intro a b e
    match j, e with
    | 0, e => injection e with e; exact .inl ⟨rfl, e.symm⟩
    | 1, e => injection e with e; exact .inr ⟨rfl, e.symm⟩
  have one' : ∀ (a : Gate), [a][j]? = some g → j = 0 ∧ g = a := by
    intro a e
    match j, e with
    | 0, e => injection e with e; exact ⟨rfl, e.symm⟩
  match k, h with
  | 0, h =>
    rcases two _ _ h with ⟨rfl, rfl⟩ | ⟨rfl, rfl⟩
    · exact ok 3 _ rfl (by decide) (by simp; omega)
    · exact ok 3 _ rfl (by decide) (by simp; omega)
  | 1, h => obtain ⟨rfl, rfl⟩ := one' _ h; exact ok 4 _ rfl (by decide) (by simp; omega)
  | 2, h => obtain ⟨rfl, rfl⟩ := one' _ h; exact ok 5 _ rfl (by decide) (by simp; omega)
  | 3, h => obtain ⟨rfl, rfl⟩ := one' _ h; exact ok 6 _ rfl (by decide) (by simp; omega)
  | 4, h =>
    rcases two _ _ h with ⟨rfl, rfl⟩ | ⟨rfl, rfl⟩
    · exact ok 0 _ rfl (by decide) (by simp)
    · exact ok 5 _ rfl (by decide) (by simp; omega)
  | 5, h =>
    rcases two _ _ h with ⟨rfl, rfl⟩ | ⟨rfl, rfl⟩
    · exact ok 1 _ rfl (by decide) (by simp)
    · exact ok 7 _ rfl (by decide) (by simp; omega)
  | k + 6, h =>
    rcases two _ _ h with ⟨rfl, rfl⟩ | ⟨rfl, rfl⟩
    · exact ok 0 _ rfl (by decide) (by simp)
    · exact ok 8 _ rfl (by decide) (by simp; omega)
theorem last_one (f : List Int) (x : Int) : (f ++ [x]).getD ((f ++ [x]).length - 1) 0 = x := by
  rw [getD_app, if_pos (by simp)]
theorem fold_extra {N : Int} {B : Nat} {L : List Gate} (hw : wfL N B L) (hd : ND L) (hn : NFL L) {found : List Int} {n : Nat} (hl : found.length = n) (hp : 0 < n) {r : Int} (hr : inR L r) (hf : found.getD (n - 1) 0 = r) (k : Nat) :
    ∃ M F, foldGo (extra n k) (L, found) = (L ++ M, F) ∧ F.getD (F.length - 1) 0 = r := by
  have e1 : found.getD ((n : Int) - 1).toNat 0 = r := by rw [show ((n : Int) - 1).toNat = n - 1 from by omega]; exact hf
  have e2 : ∀ x : Int, (found ++ [x]).getD ((n : Int)).toNat 0 = x := fun x => by rw [getD_app, if_pos (by rw [hl]; omega)]
  have e3 : ∀ x : Int, (found ++ [x]).getD ((n : Int) - 1).toNat 0 = r := fun x => by rw [getD_app, if_neg (by rw [hl]; omega)]; exact e1
  have s3 : ∀ (K : List Gate) (a b : Int), stepG K ⟨3, 0, [a]⟩ [b] = notG K b := fun _ _ _ => rfl
  have s4 : ∀ (K : List Gate) (a b : List Int), stepG K ⟨4, 0, a⟩ b = manyG K 4 b := fun _ _ _ => rfl
  have s5 : ∀ (K : List Gate) (a b : List Int), stepG K ⟨5, 0, a⟩ b = manyG K 5 b := fun _ _ _ => rfl
  have s6 : ∀ (K : List Gate) (a b : List Int), stepG K ⟨6, 0, a⟩ b = xorG K b := fun _ _ _ => rfl
  have s7 : ∀ (K : List Gate) (a : List Int) (b c : Int), stepG K ⟨7, 0, a⟩ [b, c] = iffG K b c := fun _ _ _ _ => rfl
  have s8 : ∀ (K : List Gate) (a : List Int) (b c d : Int), stepG K ⟨8, 0, a⟩ [b, c, d] = chooseG K b c d := fun _ _ _ _ _ => rfl
  have s0 : ∀ (K : List Gate) (b : List Int), stepG K ⟨0, 0, []⟩ b = findG K ⟨0, 0, []⟩ := fun _ _ => rfl
  have s1 : ∀ (K : List Gate) (b : List Int), stepG K ⟨1, 0, []⟩ b = findG K ⟨1, 0, []⟩ := fun _ _ => rfl
  have two : ∀ k : Int, k = 0 ∨ k = 1 → ∃ M f, findG L ⟨k, 0, []⟩ = (L ++ M, f) ∧ kindAt (L ++ M) f = k ∧ wfL N B (L ++ M) ∧ ND (L ++ M) ∧ inR (L ++ M) r := by
    intro k hk
    obtain ⟨a, b, ⟨M, hM⟩, c⟩ := find_get hd ⟨k, 0, []⟩
    have hwf := (find_c hw hk).wf
    refine ⟨M, (findG L ⟨k, 0, []⟩).2, by rw [← hM], ?_, ?_, ?_, inR_app M hr⟩
    · rw [← hM]; exact (kind_get b a).1
    · rw [← hM]; exact hwf
    · rw [← hM]; exact c
  match k with
  | 0 =>
    obtain ⟨M, hM⟩ := not_not hw hd hn hr
    generalize hq : notG L r = q at hM
    refine ⟨M, found ++ [q.2] ++ [r], ?_, last_one _ _⟩
    show foldGo [⟨3, 0, [(n : Int) - 1]⟩, ⟨3, 0, [(n : Int)]⟩] (L, found) = _
    rw [foldGo]
    simp only [List.map_cons, List.map_nil, e1, s3, hq]
    rw [foldGo]
    simp only [List.map_cons, List.map_nil, e2, s3, hM]
    rfl
  | 1 =>
    refine ⟨[], found ++ [r], ?_, last_one _ _⟩
    show foldGo [⟨4, 0, [(n : Int) - 1, (n : Int) - 1]⟩] (L, found) = _
    rw [foldGo]
    simp only [List.map_cons, List.map_nil, e1, s4, and_self hw hd hr]
    rw [foldGo, List.append_nil]
  | 2 =>
    refine ⟨[], found ++ [r], ?_, last_one _ _⟩
    show foldGo [⟨5, 0, [(n : Int) - 1]⟩] (L, found) = _
    rw [foldGo]
    simp only [List.map_cons, List.map_nil, e1, s5, or_self hw hd hr]
    rw [foldGo, List.append_nil]
  | 3 =>
    refine ⟨[], found ++ [r], ?_, last_one _ _⟩
    show foldGo [⟨6, 0, [(n : Int) - 1, (n : Int) - 1, (n : Int) - 1]⟩] (L, found) = _
    rw [foldGo]
    simp only [List.map_cons, List.map_nil, e1, s6, xor_self hw hd hr]
    rw [foldGo, List.append_nil]
  | 4 =>
    obtain ⟨M, f, h1, h2, h3, h4, h5⟩ := two 0 (.inl rfl)
    refine ⟨M, found ++ [f] ++ [r], ?_, last_one _ _⟩
    show foldGo [⟨0, 0, []⟩, ⟨5, 0, [(n : Int), (n : Int) - 1, (n : Int)]⟩] (L, found) = _
    rw [foldGo]
    simp only [s0, h1]
    rw [foldGo]
    simp only [List.map_cons, List.map_nil, e2, e3, s5, or_false h3 h4 h5 h2]
    rfl
  | 5 =>
    obtain ⟨M, f, h1, h2, h3, h4, h5⟩ := two 1 (.inr rfl)
    refine ⟨M, found ++ [f] ++ [r], ?_, last_one _ _⟩
    show foldGo [⟨1, 0, []⟩, ⟨7, 0, [(n : Int), (n : Int) - 1]⟩] (L, found) = _
    rw [foldGo]
    simp only [s1, h1]
    rw [foldGo]
    simp only [List.map_cons, List.map_nil, e2, e3, s7, iff_true h4 h3 h5 h2]
    rfl
  | k + 6 =>
    obtain ⟨M, f, h1, h2, h3, h4, h5⟩ := two 0 (.inl rfl)
    refine ⟨M, found ++ [f] ++ [r], ?_, last_one _ _⟩
    show foldGo [⟨0, 0, []⟩, ⟨8, 0, [(n : Int), (n : Int), (n : Int) - 1]⟩] (L, found) = _
    rw [foldGo]
    simp only [s0, h1]
    rw [foldGo]
    simp only [List.map_cons, List.map_nil, e2, e3, s8, choose_false h2]
    rfl
theorem fold_state {N : Int} {gs : List Gate} (hc : checkOf N gs = 0) : FI N 100000 gs (foldGo gs ([], [])).1 (foldGo gs ([], [])).2 ∧ NFL (foldGo gs ([], [])).1 := by
  obtain ⟨b0, b1, b2, b3, b4⟩ := check_bounds hc
  have h0 : FI N 100000 [] [] [] := ⟨fun i g h => by simp at h, ND.nil, rfl, fun j hj => by simp at hj, Nat.le_refl _, Nat.le_refl _⟩
  have hg : ∀ (k : Nat) (g : Gate), gs[k]? = some g → goodGate N ((([] : List Gate).length + k : Nat) : Int) g = true ∧ g.inp.length + 1 ≤ 100000 := fun k g hk => by
    obtain ⟨hk', rfl⟩ := List.getElem?_eq_some_iff.1 hk
    have h2 := sizeTo_le gs (k + 1)
    rw [sizeTo_succ gs k hk'] at h2
    rw [List.length_nil, Nat.zero_add]
    exact ⟨check_gate hc k hk', by omega⟩
  exact ⟨by have := fold_all (N := N) (B := 100000) (by decide) gs [] [] [] h0 hg; simpa using this, fold_nf (N := N) (B := 100000) (by decide) gs [] [] [] h0 (fun i g h => by simp at h) hg⟩
theorem twice_fold {N : Int} {gs : List Gate} (hc : checkOf N gs = 0) (k : Nat) : foldOf (gs ++ extra gs.length k) = foldOf gs := by
  obtain ⟨hf, hn⟩ := fold_state hc
  obtain ⟨b0, b1, b2, b3, b4⟩ := check_bounds hc
  unfold foldOf
  dsimp only
  rw [foldGo_app]
  generalize foldGo gs ([], []) = q at hf hn
  obtain ⟨L, found⟩ := q
  obtain ⟨ha, _⟩ := hf.at_ (gs.length - 1) (by omega)
  obtain ⟨M, F, h1, h2⟩ := fold_extra hf.wf hf.nd hn hf.len b2 ha rfl k
  rw [h1]
  dsimp only at ha h2 ⊢
  rw [h2, needed_app ha]
  have := hf.len
  dsimp only at this
  rw [this]
theorem twice_check {N : Int} {gs : List Gate} (hc : checkOf N gs = 0) (h1 : gs.length ≤ 60) (h2 : ∀ g ∈ gs, g.inp.length ≤ 12) (k : Nat) : checkOf N (gs ++ extra gs.length k) = 0 := by
  obtain ⟨b0, b1, b2, b3, b4⟩ := check_bounds hc
  have ht := sizeTo_bound h2 gs.length (Nat.le_refl _)
  have h3 : gs.length * 12 ≤ 60 * 12 := Nat.mul_le_mul_right _ h1
  have h4 : total gs = sizeTo gs gs.length := (total_size gs).symm
  have h5 : (extra gs.length k).length ≤ 2 ∧ total (extra gs.length k) ≤ 3 := by
    match k with
    | 0 => exact ⟨by simp [extra], by simp [extra, total]⟩
    | 1 => exact ⟨by simp [extra], by simp [extra, total]⟩
    | 2 => exact ⟨by simp [extra], by simp [extra, total]⟩
    | 3 => exact ⟨by simp [extra], by simp [extra, total]⟩
    | 4 => exact ⟨by simp [extra], by simp [extra, total]⟩
    | 5 => exact ⟨by simp [extra], by simp [extra, total]⟩
    | k + 6 => exact ⟨by simp [extra], by simp [extra, total]⟩
  exact check_app hc (by omega) (by omega) (extra_good b2 k)
theorem light_small {N : Int} {gs : List Gate} (h : lightOf N gs = true) (hc : checkOf N gs = 0) : gs.length ≤ 60 ∧ ∀ g ∈ gs, g.inp.length ≤ 12 := by
  unfold lightOf at h
  simp only [hc, Bool.and_eq_true, decide_eq_true_eq, List.all_eq_true, Bool.or_eq_true] at h
  rcases h.2 with h | h
  · exact ⟨by omega, h.2⟩
  · simp at h
end Go.Proofs.YtbemhgojfehnjaaDoor
