/-
  Lemmas and contracts, joined: Vot VlTexts.
-/
import Derived.Test.YtpeoodkepjhhiaaDoorPf4
import Derived.Test.YtpeoodkepjhhiaaDoorPf2
namespace Go.Proofs.YtpeoodkepjhhiaaDoor
def leafAt (ts : List VN) (k : Nat) : Bool := match ts[k]? with
  | some x => lf x
  | none => false
def nlf (x : VN) : Bool := !lf x
def numA (ts : List VN) (i : Nat) : Nat := ((ts.take i).filter lf).length
def numB (ts : List VN) (i : Nat) : Nat := ((ts.take i).filter nlf).length
/-- The number that node k gets. -/
def posN (ts : List VN) (k : Nat) : Nat := if leafAt ts k then numA ts k else numA ts ts.length + numB ts k
def ren (ts : List VN) (x : VN) : VN := ⟨(posN ts x.l.toNat : Int), (posN ts x.r.toNat : Int), 0⟩
/-- The new list: pass p stands before node i. -/
def OC (ts : List VN) (p i : Nat) : List VN := if p = 0 then (ts.take i).filter lf else ts.filter lf ++ ((ts.take (if p = 1 then i else ts.length)).filter nlf).map (ren ts)
def toL (ts : List VN) (p i : Nat) : List Int := (List.range ts.length).map fun k => if (if leafAt ts k then (k < i ∨ 1 ≤ p) else ((p = 1 ∧ k < i) ∨ 2 ≤ p)) then (posN ts k : Int) else 0
section
variable {ts : List VN}
theorem toL_len (p i : Nat) : (toL ts p i).length = ts.length := by simp [toL]
theorem OC_zero : OC ts 0 0 = [] := by simp [OC]
theorem OC_next : OC ts 0 ts.length = OC ts 1 0 := by simp [OC]
theorem OC_last : OC ts 1 ts.length = OC ts 2 0 := by simp [OC]
theorem toL_zero : toL ts 0 0 = List.replicate ts.length 0 := by
  apply List.ext_getElem?
  intro k
  by_cases h : k < ts.length
  · cases hl : leafAt ts k <;> simp [toL, h, hl]
  · simp [toL, h]
theorem toL_next : toL ts 0 ts.length = toL ts 1 0 := by
  apply List.ext_getElem?
  intro k
  by_cases h : k < ts.length
  · cases hl : leafAt ts k <;> simp [toL, h, hl]
  · simp [toL, h]
theorem toL_last : toL ts 1 ts.length = toL ts 2 0 := by
  apply List.ext_getElem?
  intro k
  by_cases h : k < ts.length
  · cases hl : leafAt ts k <;> simp [toL, h, hl]
  · simp [toL, h]
theorem tk_snoc {i : Nat} {x : VN} (h : ts[i]? = some x) : ts.take (i + 1) = ts.take i ++ [x] := by
  rw [List.take_add_one, h]; rfl
theorem leafAt_of {i : Nat} {x : VN} (h : ts[i]? = some x) : leafAt ts i = lf x := by unfold leafAt; rw [h]
theorem OC_leaf0 {i : Nat} {x : VN} (h : ts[i]? = some x) (hl : lf x = true) : OC ts 0 (i + 1) = OC ts 0 i ++ [x] := by
  simp [OC, tk_snoc h, hl]
theorem OC_leaf1 {i : Nat} {x : VN} (h : ts[i]? = some x) (hl : lf x = true) : OC ts 1 (i + 1) = OC ts 1 i := by
  simp [OC, tk_snoc h, hl, nlf]
theorem OC_node0 {i : Nat} {x : VN} (h : ts[i]? = some x) (hl : lf x = false) : OC ts 0 (i + 1) = OC ts 0 i := by
  simp [OC, tk_snoc h, hl]
theorem OC_node1 {i : Nat} {x : VN} (h : ts[i]? = some x) (hl : lf x = false) : OC ts 1 (i + 1) = OC ts 1 i ++ [ren ts x] := by
  simp [OC, tk_snoc h, hl, nlf]
theorem pos_leaf {i : Nat} {x : VN} (h : ts[i]? = some x) (hl : lf x = true) : posN ts i = (OC ts 0 i).length := by
  unfold posN
  rw [leafAt_of h, if_pos hl]
  simp [OC, numA]
theorem pos_node {i : Nat} {x : VN} (h : ts[i]? = some x) (hl : lf x = false) : posN ts i = (OC ts 1 i).length := by
  unfold posN
  rw [leafAt_of h, if_neg (by rw [hl]; decide)]
  simp [OC, numA, numB]
theorem toL_leaf0 {i : Nat} {x : VN} (h : ts[i]? = some x) (hl : lf x = true) : (toL ts 0 i).set i (posN ts i : Int) = toL ts 0 (i + 1) := by
  have hi := (List.getElem?_eq_some_iff.1 h).1
  have hla := (leafAt_of h).trans hl
  apply List.ext_getElem?
  intro k
  rw [List.getElem?_set]
  by_cases hk : k < ts.length
  · by_cases e : i = k
    · subst e; simp [toL, hk, hla]
    · cases hlk : leafAt ts k
      · simp [toL, hk, e, hlk]
      · by_cases hlt : k < i
        · simp [toL, hk, e, hlk, hlt, show k < i + 1 by omega]
        · simp [toL, hk, e, hlk, hlt, show ¬ k < i + 1 by omega]
  · have e : ¬ i = k := by omega
    simp [toL, hk, e]
theorem toL_leaf1 {i : Nat} {x : VN} (h : ts[i]? = some x) (hl : lf x = true) : toL ts 1 (i + 1) = toL ts 1 i := by
  have hla := (leafAt_of h).trans hl
  apply List.ext_getElem?
  intro k
  by_cases hk : k < ts.length
  · cases hlk : leafAt ts k
    · have e : ¬ i = k := by rintro rfl; rw [hla] at hlk; cases hlk
      by_cases hlt : k < i
      · simp [toL, hk, hlk, hlt, show k < i + 1 by omega]
      · simp [toL, hk, hlk, hlt, show ¬ k < i + 1 by omega]
    · simp [toL, hk, hlk]
  · simp [toL, hk]
theorem toL_node0 {i : Nat} {x : VN} (h : ts[i]? = some x) (hl : lf x = false) : toL ts 0 (i + 1) = toL ts 0 i := by
  have hla := (leafAt_of h).trans hl
  apply List.ext_getElem?
  intro k
  by_cases hk : k < ts.length
  · cases hlk : leafAt ts k
    · simp [toL, hk, hlk]
    · have e : ¬ i = k := by rintro rfl; rw [hla] at hlk; cases hlk
      by_cases hlt : k < i
      · simp [toL, hk, hlk, hlt, show k < i + 1 by omega]
      · simp [toL, hk, hlk, hlt, show ¬ k < i + 1 by omega]
  · simp [toL, hk]
theorem toL_node1 {i : Nat} {x : VN} (h : ts[i]? = some x) (hl : lf x = false) : (toL ts 1 i).set i (posN ts i : Int) = toL ts 1 (i + 1) := by
  have hi := (List.getElem?_eq_some_iff.1 h).1
  have hla := (leafAt_of h).trans hl
  apply List.ext_getElem?
  intro k
  rw [List.getElem?_set]
  by_cases hk : k < ts.length
  · by_cases e : i = k
    · subst e; simp [toL, hk, hla]
    · cases hlk : leafAt ts k
      · by_cases hlt : k < i
        · simp [toL, hk, e, hlk, hlt, show k < i + 1 by omega]
        · simp [toL, hk, e, hlk, hlt, show ¬ k < i + 1 by omega]
      · simp [toL, hk, e, hlk]
  · have e : ¬ i = k := by omega
    simp [toL, hk, e]
theorem toL_get {i a : Nat} (ha : a < i) (hi : i < ts.length) : (toL ts 1 (i + 1))[a]? = some (posN ts a : Int) := by
  have hk : a < ts.length := by omega
  cases hlk : leafAt ts a <;> simp [toL, hk, hlk, show a < i + 1 by omega]
theorem filter_get {p : VN → Bool} {i : Nat} {x : VN} (h : ts[i]? = some x) (hp : p x = true) : (ts.filter p)[((ts.take i).filter p).length]? = some x := by
  have e : ts = ts.take i ++ x :: ts.drop (i + 1) := by
    obtain ⟨hi, rfl⟩ := List.getElem?_eq_some_iff.1 h
    rw [← List.drop_eq_getElem_cons hi, List.take_append_drop]
  have e2 : ts.filter p = (ts.take i).filter p ++ x :: (ts.drop (i + 1)).filter p := by
    conv => lhs; rw [e]
    rw [List.filter_append, List.filter_cons_of_pos hp]
  rw [e2, List.getElem?_append_right (Nat.le_refl _), Nat.sub_self]
  rfl
theorem num_all : ∀ l : List VN, (l.filter lf).length + (l.filter nlf).length = l.length
  | [] => rfl
  | x :: r => by
    have ih := num_all r
    cases h : lf x
    · simp [h, nlf] at ih ⊢; omega
    · simp [h, nlf] at ih ⊢; omega
theorem num_lt {p : VN → Bool} {i j : Nat} {x : VN} (h : ts[i]? = some x) (hp : p x = true) (hij : i < j) : ((ts.take i).filter p).length < ((ts.take j).filter p).length := by
  have e : ts.take (i + 1) = (ts.take j).take (i + 1) := by rw [List.take_take, Nat.min_eq_left (by omega)]
  have h1 : ((ts.take (i + 1)).filter p).length ≤ ((ts.take j).filter p).length := by
    rw [e]
    exact ((List.take_sublist _ _).filter p).length_le
  rw [tk_snoc h, List.filter_append, List.length_append] at h1
  have h2 : ([x].filter p).length = 1 := by simp [hp]
  omega
theorem numA_all : numA ts ts.length = (ts.filter lf).length := by unfold numA; rw [List.take_length]
theorem oc_len : (OC ts 2 0).length = ts.length := by
  have := num_all ts
  simp [OC]
  omega
theorem oc_leaf {i : Nat} {x : VN} (h : ts[i]? = some x) (hl : lf x = true) : (OC ts 2 0)[posN ts i]? = some x := by
  have hg := filter_get h hl
  unfold posN
  rw [leafAt_of h, if_pos hl]
  simp only [OC, if_neg (show ¬ (2 : Nat) = 0 by omega)]
  rw [List.getElem?_append_left (by unfold numA; exact (List.getElem?_eq_some_iff.1 hg).1)]
  exact hg
theorem oc_node {i : Nat} {x : VN} (h : ts[i]? = some x) (hl : lf x = false) : (OC ts 2 0)[posN ts i]? = some (ren ts x) := by
  have hg := filter_get (p := nlf) h (by simp [nlf, hl])
  unfold posN
  rw [leafAt_of h, if_neg (by rw [hl]; decide)]
  simp only [OC, if_neg (show ¬ (2 : Nat) = 0 by omega), if_neg (show ¬ (2 : Nat) = 1 by omega), List.take_length]
  rw [List.getElem?_append_right (by rw [numA_all]; omega), numA_all, Nat.add_sub_cancel_left, List.getElem?_map]
  unfold numB
  rw [hg]
  rfl
theorem pos_lt {i : Nat} (hi : i < ts.length) : posN ts i < ts.length := by
  have hx := List.getElem?_eq_getElem hi
  have : ∃ y, (OC ts 2 0)[posN ts i]? = some y := by
    cases hl : lf ts[i]
    · exact ⟨_, oc_node hx hl⟩
    · exact ⟨_, oc_leaf hx hl⟩
  obtain ⟨y, hy⟩ := this
  have := (List.getElem?_eq_some_iff.1 hy).1
  rwa [oc_len] at this
theorem pos_low {i : Nat} (hi : i < ts.length) (h : leafAt ts i = true) : posN ts i < numA ts ts.length := by
  have hx := List.getElem?_eq_getElem hi
  rw [leafAt_of hx] at h
  have := num_lt (p := lf) hx h hi
  unfold posN
  rw [leafAt_of hx, if_pos h]
  exact this
theorem pos_up {i j : Nat} (hj : j < ts.length) (hij : i < j) (h : leafAt ts i = leafAt ts j ∨ leafAt ts j = false) : posN ts i < posN ts j := by
  have hx := List.getElem?_eq_getElem (show i < ts.length by omega)
  cases hli : leafAt ts i
  · have hlj : leafAt ts j = false := by
      rcases h with h | h
      · rw [← h]; exact hli
      · exact h
    have := num_lt (p := nlf) hx (by rw [leafAt_of hx] at hli; simp [nlf, hli]) hij
    unfold posN
    rw [hli, hlj]
    simp only [Bool.false_eq_true, if_false]
    unfold numB
    omega
  · cases hlj : leafAt ts j
    · have := pos_low (show i < ts.length by omega) hli
      conv => rhs; unfold posN
      rw [hlj]
      simp only [Bool.false_eq_true, if_false]
      omega
    · have := num_lt (p := lf) hx (by rw [← leafAt_of hx]; exact hli) hij
      unfold posN
      rw [hli, hlj]
      exact this
theorem pos_inj {i j : Nat} (hi : i < ts.length) (hj : j < ts.length) (h : posN ts i = posN ts j) : i = j := by
  rcases Nat.lt_trichotomy i j with hlt | rfl | hlt
  · exfalso
    by_cases hc : leafAt ts i = leafAt ts j ∨ leafAt ts j = false
    · have := pos_up hj hlt hc; omega
    · have h1 : leafAt ts j = true := by cases hh : leafAt ts j <;> simp_all
      have h2 : leafAt ts i = false := by cases hh : leafAt ts i <;> simp_all
      have := pos_low hj h1
      rw [← h] at this
      unfold posN at this
      rw [h2] at this
      simp only [Bool.false_eq_true, if_false] at this
      omega
  · rfl
  · exfalso
    by_cases hc : leafAt ts j = leafAt ts i ∨ leafAt ts i = false
    · have := pos_up hi hlt hc; omega
    · have h1 : leafAt ts i = true := by cases hh : leafAt ts i <;> simp_all
      have h2 : leafAt ts j = false := by cases hh : leafAt ts j <;> simp_all
      have := pos_low hi h1
      rw [h] at this
      unfold posN at this
      rw [h2] at this
      simp only [Bool.false_eq_true, if_false] at this
      omega
theorem pos_surj {j : Nat} (hj : j < ts.length) : ∃ i, i < ts.length ∧ posN ts i = j := by
  have hn : ((List.range ts.length).map fun i : Nat => (posN ts i : Int)).Nodup := by
    rw [List.nodup_iff_pairwise_ne, List.pairwise_map]
    refine List.Pairwise.imp_of_mem ?_ (List.nodup_iff_pairwise_ne.1 List.nodup_range)
    intro a b ha hb hne h
    exact hne (pos_inj (List.mem_range.1 ha) (List.mem_range.1 hb) (by omega))
  by_cases hm : (j : Int) ∈ (List.range ts.length).map fun i : Nat => (posN ts i : Int)
  · obtain ⟨i, hi, h⟩ := List.mem_map.1 hm
    exact ⟨i, List.mem_range.1 hi, by omega⟩
  · exfalso
    have := range_len (n := ts.length) (List.nodup_cons.2 ⟨hm, hn⟩) (fun x hx => by
      rcases List.mem_cons.1 hx with rfl | hx
      · omega
      · obtain ⟨i, hi, rfl⟩ := List.mem_map.1 hx
        have := pos_lt (ts := ts) (List.mem_range.1 hi)
        omega)
    simp at this
    omega
theorem oc_vars : varsL (OC ts 2 0) = varsL ts := by
  have h1 : ∀ l : List VN, varsL (l.filter lf) = varsL l := fun l => by
    induction l with
    | nil => rfl
    | cons x r ih =>
      unfold varsL at ih ⊢
      cases h : lf x
      · simp [h, varOf] at ih ⊢; exact ih
      · simp [h, varOf] at ih ⊢; exact ih
  have h2 : ∀ l : List VN, varsL (l.map (ren ts)) = [] := fun l => by
    induction l with
    | nil => rfl
    | cons x r ih =>
      unfold varsL at ih ⊢
      simp only [List.map_cons, List.flatMap_cons, ih]
      simp [varOf, ren, lf_inner]
  have e : varsL (OC ts 2 0) = varsL (ts.filter lf) ++ varsL ((ts.filter nlf).map (ren ts)) := by simp [OC, varsL]
  rw [e, h1, h2, List.append_nil]
theorem oc_kids : kidsL (OC ts 2 0) = (kidsL ts).map fun k => (posN ts k.toNat : Int) := by
  have h1 : ∀ l : List VN, kidsL (l.filter lf) = [] := fun l => by
    induction l with
    | nil => rfl
    | cons x r ih =>
      unfold kidsL at ih ⊢
      cases h : lf x
      · simp [h] at ih ⊢; exact ih
      · simp [h, kidsOf] at ih ⊢
        first | done | exact ih
  have h2 : ∀ l : List VN, kidsL ((l.filter nlf).map (ren ts)) = (kidsL l).map fun k => (posN ts k.toNat : Int) := fun l => by
    induction l with
    | nil => rfl
    | cons x r ih =>
      unfold kidsL at ih ⊢
      cases h : lf x
      · have hr : kidsOf (ren ts x) = [(posN ts x.l.toNat : Int), (posN ts x.r.toNat : Int)] := by simp [kidsOf, ren, lf_inner]
        have hk : kidsOf x = [x.l, x.r] := by simp [kidsOf, h]
        rw [List.filter_cons_of_pos (by simp [nlf, h]), List.map_cons, List.flatMap_cons, List.flatMap_cons, ih, hr, hk]
        simp
      · have hk : kidsOf x = [] := by simp [kidsOf, h]
        rw [List.filter_cons_of_neg (by simp [nlf, h]), List.flatMap_cons, ih, hk]
        simp
  have e : kidsL (OC ts 2 0) = kidsL (ts.filter lf) ++ kidsL ((ts.filter nlf).map (ren ts)) := by simp [OC, kidsL]
  rw [e, h1, h2, List.nil_append]
theorem nodeB_mk {p a b : Nat} (h1 : a < p) (h2 : b < p) : nodeB p ⟨(a : Int), (b : Int), 0⟩ = true := by
  simp only [nodeB, Bool.or_eq_true, Bool.and_eq_true, decide_eq_true_eq]
  right
  refine ⟨⟨⟨⟨trivial, ?_⟩, ?_⟩, ?_⟩, ?_⟩ <;> omega
theorem oc_ok (hok : okT ts = true) (hroot : posN ts (ts.length - 1) = ts.length - 1) : okT (OC ts 2 0) = true := by
  have hV := okT_val hok
  obtain ⟨h0, h1, hp, hc⟩ := okT_parts.1 hok
  unfold preB at hp
  simp only [Bool.and_eq_true, decide_eq_true_eq] at hp
  obtain ⟨⟨hn, hv⟩, hk⟩ := hp
  have hcv : ∀ k, k < ts.length - 1 → (k : Int) ∈ kidsL ts := by unfold coverB at hc; simpa using hc
  have hkl := kids_lt hn
  refine okT_parts.2 ⟨by rw [oc_len]; exact h0, by rw [oc_len]; exact h1, ?_, ?_⟩
  · unfold preB
    simp only [Bool.and_eq_true, decide_eq_true_eq]
    refine ⟨⟨(nodesB_iff _).2 fun p x hx => ?_, by rw [oc_vars]; exact hv⟩, ?_⟩
    · have hpl := (List.getElem?_eq_some_iff.1 hx).1
      rw [oc_len] at hpl
      obtain ⟨i, hi, rfl⟩ := pos_surj hpl
      rcases hV.kind i _ (List.getElem?_eq_getElem hi) with ⟨v, hxi, q1, q2⟩ | ⟨a, b, hxi, ha, hb, _⟩
      · have hg : ts[i]? = some ⟨-1, -1, v⟩ := by rw [List.getElem?_eq_getElem hi, hxi]
        rw [oc_leaf hg (lf_leaf q1 q2)] at hx
        injection hx with hx
        subst hx
        simp [nodeB, lf_leaf q1 q2]
      · have hg : ts[i]? = some ⟨(a : Int), (b : Int), 0⟩ := by rw [List.getElem?_eq_getElem hi, hxi]
        have hla : leafAt ts i = false := by rw [leafAt_of hg, lf_inner]
        have r1 := pos_up hi ha (.inr hla)
        have r2 := pos_up hi hb (.inr hla)
        rw [oc_node hg (lf_inner a b)] at hx
        injection hx with hx
        subst hx
        exact nodeB_mk r1 r2
    · rw [oc_kids, List.nodup_iff_pairwise_ne, List.pairwise_map]
      refine List.Pairwise.imp_of_mem ?_ (List.nodup_iff_pairwise_ne.1 hk)
      intro a b ha hb hne h
      have q1 := hkl a ha
      have q2 := hkl b hb
      have := pos_inj (ts := ts) (i := a.toNat) (j := b.toNat) (by omega) (by omega) (by omega)
      omega
  · unfold coverB
    simp only [List.all_eq_true, decide_eq_true_eq, List.mem_range, oc_len]
    intro k hk2
    obtain ⟨i, hi, rfl⟩ := pos_surj (ts := ts) (j := k) (by omega)
    have hne : i ≠ ts.length - 1 := by rintro rfl; omega
    rw [oc_kids]
    exact List.mem_map.2 ⟨_, hcv i (by omega), by rw [Int.toNat_natCast]⟩
theorem oc_at {f : Nat → Nat → Nat → Nat × Nat} (hf : f = idF) {i : Nat} {T : Tr} {vs : List Nat} (h : At ts f i T vs) : At (OC ts 2 0) idF (posN ts i) T (vs.map (posN ts)) := by
  induction h with
  | leaf h h1 h2 => exact .leaf (oc_leaf h (lf_leaf h1 h2)) h1 h2
  | @node i a b a' b' A B va vb h he hA hB h1 h2 =>
    subst hf
    injection he with e1 e2
    subst e1 e2
    have hg := oc_node h (lf_inner a b)
    unfold ren at hg
    simp only [Int.toNat_natCast] at hg
    rw [List.map_cons, List.map_append]
    exact .node hg rfl (h1) (h2)
theorem oc_tree (hok : okT ts = true) (hroot : posN ts (ts.length - 1) = ts.length - 1) : treeOf (OC ts 2 0) = treeOf ts := by
  have hV2 := okT_val (oc_ok hok hroot)
  have hp := (okT_val hok).pos
  obtain ⟨vs, h⟩ := tree_at hok
  have h2 := oc_at rfl h
  rw [hroot] at h2
  have := h2.tr hV2 ts.length (by omega)
  conv => lhs; unfold treeOf
  rw [oc_len]
  exact this
theorem oc_print (hok : okT ts = true) (hroot : posN ts (ts.length - 1) = ts.length - 1) : printOf (OC ts 2 0) = printOf ts := by
  unfold printOf
  rw [hok, oc_ok hok hroot, oc_tree hok hroot]
end
theorem pos_root (T : Tr) (h : GoodT T) : posN (post T 0) ((post T 0).length - 1) = (post T 0).length - 1 := by
  cases T with
  | leaf v =>
    obtain ⟨h1, h2⟩ := h.leaf_in
    simp [post, posN, leafAt, lf_leaf h1 h2, numA]
  | node a b =>
    have hr := (Lies.all (.node a b)).root
    rw [Nat.zero_add] at hr
    have hl : (post (.node a b) 0).length = a.size + b.size + 1 := post_len _ _
    have e : (post (.node a b) 0).length - 1 = a.size + b.size := by omega
    rw [e]
    have hn := num_all (post (.node a b) 0)
    have hx := tk_snoc hr
    rw [List.take_of_length_le (by omega)] at hx
    have hB : ((post (.node a b) 0).filter nlf).length = numB (post (.node a b) 0) (a.size + b.size) + 1 := by
      conv => lhs; rw [hx]
      rw [List.filter_append, List.length_append]
      have : ([(⟨((0 + a.size - 1 : Nat) : Int), ((0 + a.size + b.size - 1 : Nat) : Int), 0⟩ : VN)].filter nlf).length = 1 := by simp [nlf, lf_inner]
      unfold numB
      simp only [Nat.zero_add] at this ⊢
      rw [this]
    unfold posN
    rw [leafAt_of hr, lf_inner, if_neg (by decide), numA_all]
    omega
/-! ### The text read back -/
theorem parse_text {T : Tr} (h : GoodT T) (hs : (textT T).length ≤ 1024) : parseOf (textT T) = (post T 0, 0) := by
  have h1 := scan_text T h.2 [] [] [] rfl
  rw [List.append_nil] at h1
  have h2 : scanP (textT T) [] [] 0 = some (post T 0) := by rw [h1]; simp [scanP]
  unfold parseOf
  rw [if_neg (by omega), h2]
  simp [post_ok h, print_post h]
end Go.Proofs.YtpeoodkepjhhiaaDoor
namespace Go.Proofs.YtpeoodkepjhhiaaDoor
open Go Go.RowKit
theorem ex_neB {ρ : Operand → Value} {d : Option Tmp} {x0 y0 : Operand} {t : TypeId} {pos0 : String} {aft : Array Edge} {gd : Option (Nat × Bool)} {w : World} {a b r : Bool} (hx : ρ x0 = .bool a) (hy : ρ y0 = .bool b) (hr : (!(a == b)) = r) : (execOp ρ ⟨d, .binOp .neq 4 x0 y0 4, t, pos0, aft, gd⟩).run Tryd.prog w = .ok (.value (.bool r)) w := by
  subst hr
  simp [go_sem, hx, hy]
theorem shown_ok {ts : List VN} (h : okT ts = true) : shownOf ts 0 = ⟨(printOf ts).toArray⟩ := by
  unfold shownOf
  rw [if_neg]
  rw [chk_val h]
  simp
theorem shown_post {T : Tr} (h : GoodT T) : shownOf (post T 0) 0 = ⟨(textT T).toArray⟩ := by rw [shown_ok (post_ok h), print_post h]
theorem shown_oc {T : Tr} (h : GoodT T) : shownOf (OC (post T 0) 2 0) 0 = ⟨(textT T).toArray⟩ := by
  rw [shown_ok (oc_ok (post_ok h) (pos_root T h)), oc_print (post_ok h) (pos_root T h), print_post h]
theorem shown_read {t : List VN} {s : ByteArray} (h : okT t = true) (hp : printOf t = s.data.toList) : shownOf t 0 = s := by
  rw [shown_ok h]
  exact ba_of hp
theorem parse_bad {s : ByteArray} (h : (parseOf s.data.toList).2 = 5) : parseOf s.data.toList = ([], 5) := by
  unfold parseOf at h ⊢
  split
  · rfl
  · rename_i h0
    rw [if_neg h0] at h
    cases hc : scanP s.data.toList [] [] 0 with
    | none => rfl
    | some t =>
      rw [hc] at h
      dsimp only at h ⊢
      split
      · rename_i h1
        rw [if_pos h1] at h
        simp at h
      · rfl
theorem parse_good {s : ByteArray} (h : ¬ (parseOf s.data.toList).2 = 5) : ∃ t, parseOf s.data.toList = (t, 0) ∧ okT t = true ∧ printOf t = s.data.toList := by
  unfold parseOf at h ⊢
  split
  · rename_i h0
    rw [if_pos h0] at h
    exact absurd rfl h
  · rename_i h0
    rw [if_neg h0] at h
    cases hc : scanP s.data.toList [] [] 0 with
    | none => rw [hc] at h; exact absurd rfl h
    | some t =>
      rw [hc] at h
      dsimp only at h ⊢
      split
      · rename_i h1
        simp only [Bool.and_eq_true, decide_eq_true_eq] at h1
        exact ⟨t, rfl, h1.1, h1.2⟩
      · rename_i h1
        rw [if_neg h1] at h
        exact absurd rfl h
theorem oc_node_ {ts : List VN} {i a b : Nat} (h : ts[i]? = some ⟨(a : Int), (b : Int), 0⟩) (hl : lf ⟨(a : Int), (b : Int), 0⟩ = false) : OC ts 1 (i + 1) = OC ts 1 i ++ [⟨(posN ts a : Int), (posN ts b : Int), 0⟩] := OC_node1 h hl
theorem oc_le (ts : List VN) (p i : Nat) : (OC ts p i).length ≤ 2 * ts.length := by
  unfold OC
  split
  · refine Nat.le_trans (List.length_filter_le _ _) ?_
    rw [List.length_take]
    omega
  · rw [List.length_append, List.length_map]
    have h1 := List.length_filter_le lf ts
    have h2 := List.length_filter_le nlf (ts.take (if p = 1 then i else ts.length))
    rw [List.length_take] at h2
    omega
set_option maxHeartbeats 4000000 in
theorem vtreeTexts_ok {W : World} {V : Value} {bs : List Nat} (hB : BytesD (fun k => k < W.heap.size) W V bs) (s : ByteArray) {x0 : Int} (hx0 : (Lit.int .u8 x0).wf = true) (tab : Tab W) : Calls Tryd.prog 5 #[.int .u8 x0, V, .string s] W fun e w' => e = .returned (.bool true) ∧ Below W.heap.size W w' := by
  obtain ⟨x, hx, rfl⟩ := byte_nat hx0
  obtain ⟨B, bc, rfl⟩ := hB.slice
  have hD : ∀ k, (fun k => k < W.heap.size) k → k < W.heap.size := fun _ h => h
  have O0 : Own Z0 W W [] := Own.start W
  refine sx_enter (args := [.int .u8 (x : Int), .slice B bs.length bc, .string s]) Tryd.func5 rfl rfl (by simp) ?_
  refine cw_seq (fun FK1 K1 => ?_)
  refine cw_region ?_
  refine wl_val (v := .bool false) (fun ρ e => ex_assign (e _ _ rfl)) rfl rfl ?_
  refine wl_nil ?_
  refine xw_next K1 ?_
  refine cw_seq (fun FK2 K2 => ?_)
  refine cw_seq (fun FK3 K3 => ?_)
  refine cw_region ?_
  refine wl_val (v := .slice B bs.length bc) (fun ρ e => ex_move (e _ _ rfl)) rfl rfl ?_
  refine wl_val (v := .int .i64 ((bs.length : Nat) : Int)) (fun ρ e => ex_len el32 (e _ _ rfl)) rfl rfl ?_
  by_cases c4 : ((bs.length : Nat) : Int) > 200
  · skip
    refine wl_val (v := .bool true) (fun ρ e => ex_cmp (u := ((bs.length : Nat) : Int)) (v := 200) (e _ _ rfl) (e _ _ rfl) (gtr1 (by omega))) rfl rfl ?_
    refine wl_val (v := .bool true) (fun ρ e => ex_move (e _ _ rfl)) rfl rfl ?_
    refine wl_skip rfl rfl ?_
    refine wl_skip rfl rfl ?_
    refine wl_skip rfl rfl ?_
    refine wl_val (v := .bool true) (fun ρ e => ex_pick1 (e _ _ rfl) (e _ _ rfl)) rfl rfl ?_
    refine wl_nil ?_
    refine xw_next K3 ?_
    refine cw_true rfl ?_
    refine cw_seq (fun FK5 K5 => ?_)
    refine cw_region ?_
    refine wl_call (args := []) in_14 rfl rfl rfl ?_
    refine (works_ (tab.below (Nat.le_refl _) O0.old)).mono ?_
    rintro _ w6 ⟨rfl, hb7⟩
    have O8 : Own Z0 W w6 [] := O0.below hb7
    refine ⟨_, rfl, ?_⟩
    refine wl_val (v := .bool true) (fun ρ e => ex_assign (e _ _ rfl)) rfl rfl ?_
    refine wl_nil ?_
    refine xw_next K5 ?_
    refine cw_ret ?_
    refine xw_past (by intro h; cases h) ?_
    refine xw_ret (v := .bool true) (fun T hT => res1 rfl T _ (hT 6 _ rfl)) ?_
    exact ⟨rfl, O8.old⟩
  · skip
    refine wl_val (v := .bool false) (fun ρ e => ex_cmp (u := ((bs.length : Nat) : Int)) (v := 200) (e _ _ rfl) (e _ _ rfl) (gtr0 (by omega))) rfl rfl ?_
    refine wl_val (v := .bool false) (fun ρ e => ex_move (e _ _ rfl)) rfl rfl ?_
    refine wl_val (v := .string s) (fun ρ e => ex_move (e _ _ rfl)) rfl rfl ?_
    refine wl_val (v := .int .i64 ((s.size : Nat) : Int)) (fun ρ e => ex_lenstr (e _ _ rfl)) rfl rfl ?_
    by_cases c9 : ((s.size : Nat) : Int) > 2000
    · skip
      refine wl_val (v := .bool true) (fun ρ e => ex_cmp (u := ((s.size : Nat) : Int)) (v := 2000) (e _ _ rfl) (e _ _ rfl) (gtr1 (by omega))) rfl rfl ?_
      refine wl_val (v := .bool true) (fun ρ e => ex_pick0 (e _ _ rfl) (e _ _ rfl)) rfl rfl ?_
      refine wl_nil ?_
      refine xw_next K3 ?_
      refine cw_true rfl ?_
      refine cw_seq (fun FK10 K10 => ?_)
      refine cw_region ?_
      refine wl_call (args := []) in_14 rfl rfl rfl ?_
      refine (works_ (tab.below (Nat.le_refl _) O0.old)).mono ?_
      rintro _ w11 ⟨rfl, hb12⟩
      have O13 : Own Z0 W w11 [] := O0.below hb12
      refine ⟨_, rfl, ?_⟩
      refine wl_val (v := .bool true) (fun ρ e => ex_assign (e _ _ rfl)) rfl rfl ?_
      refine wl_nil ?_
      refine xw_next K10 ?_
      refine cw_ret ?_
      refine xw_past (by intro h; cases h) ?_
      refine xw_ret (v := .bool true) (fun T hT => res1 rfl T _ (hT 6 _ rfl)) ?_
      exact ⟨rfl, O13.old⟩
    · skip
      refine wl_val (v := .bool false) (fun ρ e => ex_cmp (u := ((s.size : Nat) : Int)) (v := 2000) (e _ _ rfl) (e _ _ rfl) (gtr0 (by omega))) rfl rfl ?_
      refine wl_val (v := .bool false) (fun ρ e => ex_pick0 (e _ _ rfl) (e _ _ rfl)) rfl rfl ?_
      refine wl_nil ?_
      refine xw_next K3 ?_
      refine cw_false rfl ?_
      refine cw_skip ?_
      refine xw_next K2 ?_
      refine cw_seq (fun FK14 K14 => ?_)
      refine cw_region ?_
      refine wl_val (v := .int .u8 (x : Int)) (fun ρ e => ex_move (e _ _ rfl)) rfl rfl ?_
      refine wl_val (v := .slice B bs.length bc) (fun ρ e => ex_move (e _ _ rfl)) rfl rfl ?_
      refine wl_call (args := [.int .u8 (x : Int), .slice B bs.length bc]) in_20 rfl rfl rfl ?_
      refine (grown_ (hB.move (fun k hk => (O0.old).block k (hD k hk))) (fun k hk => Nat.lt_of_lt_of_le (hD k hk) (O0.old).size) (by omega) hx).mono ?_
      rintro _ w17 ⟨T, A15, c16, hgd, hl, rfl, h18⟩
      have O19 := O0.join1 h18 trivial
      have hpos := T.size_pos
      have hsm := hgd.small
      have hsl := T.size_leaves
      have htl := textT_len T
      have hshown := shown_post hgd
      have hparse := parse_text hgd (by omega)
      rw [← post_len T 0] at O19 hpos hsm
      obtain ⟨g20, hg20⟩ := rowaddr (O19.row 0 rfl) hpos
      subst hg20
      have hok := post_ok hgd
      have hV := okT_val hok
      have hroot := pos_root T hgd
      have hshown2 := shown_oc hgd
      rw [← post_len T 0]
      refine ⟨_, rfl, ?_⟩
      refine wl_val (v := .slice (some ⟨g20, 0, none⟩) ((post T 0).length) c16) (fun ρ e => ex_assign (e _ _ rfl)) rfl rfl ?_
      refine wl_nil ?_
      refine xw_next K14 ?_
      refine cw_seq (fun FK21 K21 => ?_)
      refine cw_region ?_
      refine wl_val (v := .slice (some ⟨g20, 0, none⟩) ((post T 0).length) c16) (fun ρ e => ex_move (e _ _ rfl)) rfl rfl ?_
      refine wl_call (args := [.slice (some ⟨g20, 0, none⟩) ((post T 0).length) c16, .int .i64 0]) in_21 rfl rfl rfl ?_
      have hc22 := shown_ (NodesD.of_row (O19.row 0 rfl)) (fun k hk => (World.ownsRow.lt (O19.row 0 rfl) k hk).2) (tab.below (Nat.le_refl _) O19.old) 0
      rw [hshown] at hc22
      refine hc22.mono ?_
      rintro _ w23 ⟨rfl, hb24⟩
      have O25 : Own Z0 W w23 [.row (.slice (some ⟨g20, 0, none⟩) ((post T 0).length) c16) 38 3 ((post T 0).length) (ncells (post T 0))] := O19.below hb24
      refine ⟨_, rfl, ?_⟩
      refine wl_call (args := [.string (⟨(textT T).toArray⟩)]) in_17 rfl rfl rfl ?_
      have hc31 := parse_ ⟨(textT T).toArray⟩ (tab.below (Nat.le_refl _) O25.old)
      rw [show parseOf (⟨(textT T).toArray⟩ : ByteArray).data.toList = ((post T 0), 0) from hparse] at hc31
      refine hc31.mono ?_
      rintro _ w28 ⟨A26, c27, rfl, h29⟩
      have O30 := O25.join1 h29 trivial
      refine ⟨_, rfl, ?_⟩
      refine wl_val (v := .tuple #[.slice A26 ((post T 0).length) c27, .int .i64 0]) (fun ρ e => ex_move (e _ _ rfl)) rfl rfl ?_
      refine wl_val (v := .slice A26 ((post T 0).length) c27) (fun ρ e => ex_extract (vs := #[.slice A26 ((post T 0).length) c27, .int .i64 0]) (e _ _ rfl) rfl) rfl rfl ?_
      refine wl_val (v := .int .i64 0) (fun ρ e => ex_extract (vs := #[.slice A26 ((post T 0).length) c27, .int .i64 0]) (e _ _ rfl) rfl) rfl rfl ?_
      refine wl_val (v := .slice A26 ((post T 0).length) c27) (fun ρ e => ex_assign (e _ _ rfl)) rfl rfl ?_
      refine wl_val (v := .int .i64 0) (fun ρ e => ex_assign (e _ _ rfl)) rfl rfl ?_
      refine wl_nil ?_
      refine xw_next K21 ?_
      refine cw_seq (fun FK32 K32 => ?_)
      refine cw_seq (fun FK33 K33 => ?_)
      refine cw_region ?_
      refine wl_val (v := .int .i64 0) (fun ρ e => ex_move (e _ _ rfl)) rfl rfl ?_
      refine wl_val (v := .bool false) (fun ρ e => ex_cmp (u := 0) (v := 0) (e _ _ rfl) (e _ _ rfl) (neq0 rfl)) rfl rfl ?_
      refine wl_val (v := .bool false) (fun ρ e => ex_move (e _ _ rfl)) rfl rfl ?_
      refine wl_val (v := .slice (some ⟨g20, 0, none⟩) ((post T 0).length) c16) (fun ρ e => ex_move (e _ _ rfl)) rfl rfl ?_
      refine wl_val (v := .slice A26 ((post T 0).length) c27) (fun ρ e => ex_move (e _ _ rfl)) rfl rfl ?_
      refine wl_call (args := [.slice (some ⟨g20, 0, none⟩) ((post T 0).length) c16, .slice A26 ((post T 0).length) c27]) in_22 rfl rfl rfl ?_
      refine (lsame_ (NodesD.of_row (O30.row 1 rfl)) (fun k hk => (World.ownsRow.lt (O30.row 1 rfl) k hk).2) (NodesD.of_row (O30.row 0 rfl)) (fun k hk => (World.ownsRow.lt (O30.row 0 rfl) k hk).2)).mono ?_
      rintro _ w34 ⟨rfl, hb35⟩
      have O36 : Own Z0 W w34 [.row (.slice A26 ((post T 0).length) c27) 38 3 ((post T 0).length) (ncells (post T 0)), .row (.slice (some ⟨g20, 0, none⟩) ((post T 0).length) c16) 38 3 ((post T 0).length) (ncells (post T 0))] := O30.below hb35
      refine ⟨_, rfl, ?_⟩
      refine wl_val (v := .bool false) (fun ρ e => ex_lnot (b := true) (e _ _ rfl)) rfl rfl ?_
      refine wl_val (v := .bool false) (fun ρ e => ex_pick0 (e _ _ rfl) (e _ _ rfl)) rfl rfl ?_
      refine wl_nil ?_
      refine xw_next K33 ?_
      refine cw_false rfl ?_
      refine cw_skip ?_
      refine xw_next K32 ?_
      refine cw_seq (fun FK37 K37 => ?_)
      refine cw_region ?_
      refine wl_val (v := .slice (some ⟨g20, 0, none⟩) ((post T 0).length) c16) (fun ρ e => ex_move (e _ _ rfl)) rfl rfl ?_
      refine wl_val (v := .int .i64 (((post T 0).length : Nat) : Int)) (fun ρ e => ex_len el23 (e _ _ rfl)) rfl rfl ?_
      obtain ⟨g38, w39, r40, O41, hg42, hs43⟩ := own_make1 O36 ap36 rfl (post T 0).length (by decide) (by omega) (cs := (intCs (toL (post T 0) 0 0)).toArray) (by rw [toL_zero]; simp [intCs])
      refine wl_val (v := .slice (some ⟨g38, 0, none⟩) ((post T 0).length) ((post T 0).length)) (fun ρ e => r40 ρ _ _ _ _ _ _ _ (e _ _ rfl) (e _ _ rfl)) rfl rfl ?_
      refine wl_val (v := .slice (some ⟨g38, 0, none⟩) ((post T 0).length) ((post T 0).length)) (fun ρ e => ex_assign (e _ _ rfl)) rfl rfl ?_
      refine wl_nil ?_
      refine xw_next K37 ?_
      refine cw_seq (fun FK44 K44 => ?_)
      refine cw_region ?_
      refine wl_val (v := .slice none 0 0) (fun ρ e => ex_assign (e _ _ rfl)) rfl rfl ?_
      refine wl_nil ?_
      refine xw_next K44 ?_
      refine cw_seq (fun FK45 K45 => ?_)
      refine cw_seq (fun FK46 K46 => ?_)
      refine cw_region ?_
      refine wl_val (v := .int .i64 0) (fun ρ e => ex_move (e _ _ rfl)) rfl rfl ?_
      refine wl_nil ?_
      refine xw_next K46 ?_
      refine cw_block ?_
      have O47 : Own Z0 W w39 [.row (.slice none 0 0) 38 3 0 (ncells (OC (post T 0) 0 0)), .row (.slice (some ⟨g20, 0, none⟩) ((post T 0).length) c16) 38 3 ((post T 0).length) (ncells (post T 0)), .blk g38 3 ((intCs (toL (post T 0) 0 0)).toArray)] := by rw [OC_zero]; exact ((O41.re [2, 0] rfl : Own Z0 W w39 [.row (.slice (some ⟨g20, 0, none⟩) ((post T 0).length) c16) 38 3 ((post T 0).length) (ncells (post T 0)), .blk g38 3 ((intCs (toL (post T 0) 0 0)).toArray)])).nilrow 38 3
      have O48 : Own Z0 W w39 [.row (.slice (some ⟨g20, 0, none⟩) ((post T 0).length) c16) 38 3 ((post T 0).length) (ncells (post T 0)), .blk g38 3 ((intCs (toL (post T 0) 0 0)).toArray), .row (.slice none 0 0) 38 3 0 (ncells (OC (post T 0) 0 0))] := (O47.re [1, 2, 0] rfl : Own Z0 W w39 [.row (.slice (some ⟨g20, 0, none⟩) ((post T 0).length) c16) 38 3 ((post T 0).length) (ncells (post T 0)), .blk g38 3 ((intCs (toL (post T 0) 0 0)).toArray), .row (.slice none 0 0) 38 3 0 (ncells (OC (post T 0) 0 0))])
      refine cw_loop (ι := Nat × Nat × Option Addr × Nat) (fun q => [(2, .string s), (7, .slice (some ⟨g20, 0, none⟩) ((post T 0).length) c16), (10, .slice (some ⟨g38, 0, none⟩) ((post T 0).length) ((post T 0).length)), (11, .slice q.2.2.1 q.2.1 q.2.2.2), (46, .int .i64 (q.1 : Int))]) (fun q X => (q.1 ≤ 2) ∧ (q.2.1 = (OC (post T 0) q.1 0).length) ∧ Own Z0 W X [.row (.slice (some ⟨g20, 0, none⟩) ((post T 0).length) c16) 38 3 ((post T 0).length) (ncells (post T 0)), .blk g38 3 ((intCs (toL (post T 0) q.1 0)).toArray), .row (.slice q.2.2.1 q.2.1 q.2.2.2) 38 3 q.2.1 (ncells (OC (post T 0) q.1 0))]) (fun q => 2 - q.1) (0, 0, none, 0) ⟨Nat.zero_le _, (by rw [OC_zero]; rfl), O48⟩ ⟨rfl, rfl, rfl, rfl, rfl, trivial⟩ (fun q w49 hJ F50 K51 => ?_)
      obtain ⟨p, n, R, rc⟩ := q
      obtain ⟨hp0, hn, O52⟩ := hJ
      dsimp only at hp0 hn O52 ⊢
      rcases (show p = 0 ∨ p = 1 ∨ p = 2 by omega) with rfl | rfl | rfl
      · skip
        refine cw_seq (fun FK53 K53 => ?_)
        refine cw_region ?_
        refine wl_val (v := .bool true) (fun ρ e => ex_cmp (u := ((0 : Nat) : Int)) (v := 2) (e _ _ rfl) (e _ _ rfl) (lss1 (by omega))) rfl rfl ?_
        refine wl_nil ?_
        refine xw_next K53 ?_
        refine cw_seq (fun FK54 K54 => ?_)
        refine cw_true rfl ?_
        refine cw_skip ?_
        refine xw_next K54 ?_
        refine cw_seq (fun FK55 K55 => ?_)
        refine cw_block ?_
        refine cw_seq (fun FK56 K56 => ?_)
        refine cw_region ?_
        refine wl_val (v := .int .i64 ((0 : Nat) : Int)) (fun ρ e => ex_move (e _ _ rfl)) rfl rfl ?_
        refine wl_val (v := .int .i64 ((0 : Nat) : Int)) (fun ρ e => ex_assign (e _ _ rfl)) rfl rfl ?_
        refine wl_nil ?_
        refine xw_next K56 ?_
        refine cw_seq (fun FK57 K57 => ?_)
        refine cw_region ?_
        refine wl_val (v := .slice (some ⟨g20, 0, none⟩) ((post T 0).length) c16) (fun ρ e => ex_move (e _ _ rfl)) rfl rfl ?_
        refine wl_val (v := .int .i64 (((post T 0).length : Nat) : Int)) (fun ρ e => ex_len el23 (e _ _ rfl)) rfl rfl ?_
        refine wl_val (v := .int .i64 0) (fun ρ e => ex_move (e _ _ rfl)) rfl rfl ?_
        refine wl_nil ?_
        refine xw_next K57 ?_
        refine cw_block ?_
        refine cw_loop (ι := Nat × Nat × Option Addr × Nat) (fun q => [(2, .string s), (7, .slice (some ⟨g20, 0, none⟩) ((post T 0).length) c16), (10, .slice (some ⟨g38, 0, none⟩) ((post T 0).length) ((post T 0).length)), (12, .int .i64 ((0 : Nat) : Int)), (46, .int .i64 ((0 : Nat) : Int)), (49, .slice (some ⟨g20, 0, none⟩) ((post T 0).length) c16), (50, .int .i64 (((post T 0).length : Nat) : Int)), (11, .slice q.2.2.1 q.2.1 q.2.2.2), (51, .int .i64 (q.1 : Int))]) (fun q X => (q.1 ≤ (post T 0).length) ∧ (q.2.1 = (OC (post T 0) 0 q.1).length) ∧ Own Z0 W X [.row (.slice (some ⟨g20, 0, none⟩) ((post T 0).length) c16) 38 3 ((post T 0).length) (ncells (post T 0)), .blk g38 3 ((intCs (toL (post T 0) 0 q.1)).toArray), .row (.slice q.2.2.1 q.2.1 q.2.2.2) 38 3 q.2.1 (ncells (OC (post T 0) 0 q.1))]) (fun q => (post T 0).length - q.1) (0, n, R, rc) ⟨Nat.zero_le _, hn, O52⟩ ⟨rfl, rfl, rfl, rfl, rfl, rfl, rfl, rfl, rfl, trivial⟩ (fun q w58 hJ F59 K60 => ?_)
        obtain ⟨i, n, R, rc⟩ := q
        obtain ⟨hi0, hn, O61⟩ := hJ
        dsimp only at hi0 hn O61 ⊢
        by_cases hi : i < (post T 0).length
        · skip
          have hoc := oc_le (post T 0) 0 i
          rcases hV.kind i _ (List.getElem?_eq_getElem hi) with ⟨v, hx0, hv1, hv2⟩ | ⟨a, b, hx0, ha, hb, hab⟩
          · skip
            have hx : (post T 0)[i]? = some ⟨-1, -1, v⟩ := by rw [List.getElem?_eq_getElem hi, hx0]
            have hlf := lf_leaf hv1 hv2
            refine cw_seq (fun FK62 K62 => ?_)
            refine cw_region ?_
            refine wl_val (v := .bool true) (fun ρ e => ex_cmp (u := (i : Int)) (v := (((post T 0).length : Nat) : Int)) (e _ _ rfl) (e _ _ rfl) (lss1 (by omega))) rfl rfl ?_
            refine wl_nil ?_
            refine xw_next K62 ?_
            refine cw_seq (fun FK63 K63 => ?_)
            refine cw_true rfl ?_
            refine cw_skip ?_
            refine xw_next K63 ?_
            refine cw_seq (fun FK64 K64 => ?_)
            refine cw_block ?_
            refine cw_seq (fun FK65 K65 => ?_)
            refine cw_region ?_
            refine wl_val (v := .int .i64 (i : Int)) (fun ρ e => ex_move (e _ _ rfl)) rfl rfl ?_
            refine wl_val (v := .pointer (some ⟨g20, i * 3, none⟩)) (fun ρ e => ex_idx (q := i * 3) (i := i) el23 (e _ _ rfl) (e _ _ rfl) (by omega) (by omega)) rfl rfl ?_
            refine wl_val (v := .agg #[.int .i64 (-1), .int .i64 (-1), .int .i64 v]) (fun ρ e => ex_loadN (vs := [.int .i64 (-1), .int .i64 (-1), .int .i64 v]) ty38 (e _ _ rfl) rfl (cells3 (rowcell (O61.row 0 rfl) (ncells_get hx).1) (rowcell (O61.row 0 rfl) (ncells_get hx).2.1) (rowcell (O61.row 0 rfl) (ncells_get hx).2.2))) rfl rfl ?_
            obtain ⟨g66, w67, r68, O69, hg70, hs71⟩ := own_alloc O61 38 ze38 rfl
            refine wl_val (v := .pointer (some ⟨g66, 0, none⟩)) (fun ρ e => r68 ρ _ _ _ _ _) rfl rfl ?_
            refine wl_val (v := .int .i64 (i : Int)) (fun ρ e => ex_assign (e _ _ rfl)) rfl rfl ?_
            obtain ⟨w72, r73, O74, hs75⟩ := own_put (o := 0) (n := 3) O69 ty38 (.agg #[.int .i64 (-1), .int .i64 (-1), .int .i64 v]) [.int .i64 (-1), .int .i64 (-1), .int .i64 v] (cs' := #[.int .i64 (-1), .int .i64 (-1), .int .i64 v]) rfl rfl rfl (Nat.le_of_ble_eq_true rfl) rfl
            refine wl_none (fun ρ e => r73 ρ _ _ _ _ _ _ (e _ _ rfl) (e _ _ rfl)) rfl ?_
            refine wl_nil ?_
            refine xw_next K65 ?_
            refine cw_seq (fun FK76 K76 => ?_)
            refine cw_seq (fun FK77 K77 => ?_)
            refine cw_region ?_
            refine wl_val (v := .pointer (some ⟨g66, 2, none⟩)) (fun ρ e => ex_field (q := 2) fi38_2 (e _ _ rfl) rfl) rfl rfl ?_
            refine wl_val (v := .int .i64 v) (fun ρ e => ex_load1 ty3 (e _ _ rfl) (O74.cell 0 2 rfl rfl)) rfl rfl ?_
            refine wl_val (v := .bool false) (fun ρ e => ex_cmp (u := v) (v := 0) (e _ _ rfl) (e _ _ rfl) (eql0 (by omega))) rfl rfl ?_
            refine wl_val (v := .int .i64 ((0 : Nat) : Int)) (fun ρ e => ex_move (e _ _ rfl)) rfl rfl ?_
            refine wl_val (v := .bool false) (fun ρ e => ex_cmp (u := ((0 : Nat) : Int)) (v := 1) (e _ _ rfl) (e _ _ rfl) (eql0 (by omega))) rfl rfl ?_
            refine wl_val (v := .bool false) (fun ρ e => ex_neB (a := false) (b := false) (e _ _ rfl) (e _ _ rfl) rfl) rfl rfl ?_
            refine wl_nil ?_
            refine xw_next K77 ?_
            refine cw_false rfl ?_
            refine cw_skip ?_
            refine xw_next K76 ?_
            refine cw_seq (fun FK78 K78 => ?_)
            refine cw_region ?_
            refine wl_val (v := .slice (some ⟨g38, 0, none⟩) ((post T 0).length) ((post T 0).length)) (fun ρ e => ex_move (e _ _ rfl)) rfl rfl ?_
            refine wl_val (v := .int .i64 (i : Int)) (fun ρ e => ex_move (e _ _ rfl)) rfl rfl ?_
            refine wl_val (v := .slice R n rc) (fun ρ e => ex_move (e _ _ rfl)) rfl rfl ?_
            refine wl_val (v := .int .i64 (n : Int)) (fun ρ e => ex_len el23 (e _ _ rfl)) rfl rfl ?_
            refine wl_val (v := .pointer (some ⟨g38, i, none⟩)) (fun ρ e => ex_idx (q := i) (i := i) el36 (e _ _ rfl) (e _ _ rfl) (by omega) (by omega)) rfl rfl ?_
            have hpos2 : posN (post T 0) i = n := by rw [hn]; exact pos_leaf hx hlf
            have hset : (toL (post T 0) 0 i).set i (n : Int) = toL (post T 0) 0 (i + 1) := by rw [← hpos2]; exact toL_leaf0 hx hlf
            obtain ⟨w79, r80, O81, hs82⟩ := own_put (o := i) (n := 1) (O74.re [2, 0, 1, 3] rfl : Own Z0 W w72 [.blk g38 3 ((intCs (toL (post T 0) 0 i)).toArray), .blk g66 38 #[.int .i64 (-1), .int .i64 (-1), .int .i64 v], .row (.slice (some ⟨g20, 0, none⟩) ((post T 0).length) c16) 38 3 ((post T 0).length) (ncells (post T 0)), .row (.slice R n rc) 38 3 n (ncells (OC (post T 0) 0 i))]) ty3 (.int .i64 (n : Int)) [.int .i64 (n : Int)] (cs' := (intCs (toL (post T 0) 0 (i + 1))).toArray) rfl rfl rfl (by simp [intCs, toL_len] <;> omega) ((setI _ i (n : Int)).trans (congrArg (fun z => (intCs z).toArray) hset))
            refine wl_none (fun ρ e => r80 ρ _ _ _ _ _ _ (e _ _ rfl) (e _ _ rfl)) rfl ?_
            refine wl_nil ?_
            refine xw_next K78 ?_
            refine cw_seq (fun FK83 K83 => ?_)
            refine cw_seq (fun FK84 K84 => ?_)
            refine cw_region ?_
            refine wl_val (v := .int .i64 ((0 : Nat) : Int)) (fun ρ e => ex_move (e _ _ rfl)) rfl rfl ?_
            refine wl_val (v := .bool false) (fun ρ e => ex_cmp (u := ((0 : Nat) : Int)) (v := 1) (e _ _ rfl) (e _ _ rfl) (eql0 (by omega))) rfl rfl ?_
            refine wl_nil ?_
            refine xw_next K84 ?_
            refine cw_false rfl ?_
            refine cw_skip ?_
            refine xw_next K83 ?_
            refine cw_region ?_
            refine wl_val (v := .slice R n rc) (fun ρ e => ex_move (e _ _ rfl)) rfl rfl ?_
            refine wl_val (v := .agg #[.int .i64 (-1), .int .i64 (-1), .int .i64 v]) (fun ρ e => ex_loadN (vs := [.int .i64 (-1), .int .i64 (-1), .int .i64 v]) ty38 (e _ _ rfl) rfl (O81.cells 1 0 rfl rfl)) rfl rfl ?_
            obtain ⟨g85, w86, r87, O88, hg89, hs90⟩ := own_slice O81 el23 ze38 1 [(0, .agg #[.int .i64 (-1), .int .i64 (-1), .int .i64 v])] (cs := #[.int .i64 (-1), .int .i64 (-1), .int .i64 v]) (by decide) (by kernel_rfl)
            refine wl_val (v := .slice (some ⟨g85, 0, none⟩) 1 1) (fun ρ e => r87 ρ _ _ _ _ _ _ (e.parts rfl)) rfl rfl ?_
            obtain ⟨A91, c92, w93, r94, O95, hz96, hc97⟩ := own_app1 (O88.re [4, 0, 1, 2, 3] rfl : Own Z0 W w86 [.row (.slice R n rc) 38 3 n (ncells (OC (post T 0) 0 i)), .blk g85 38 #[.int .i64 (-1), .int .i64 (-1), .int .i64 v], .blk g38 3 ((intCs (toL (post T 0) 0 (i + 1))).toArray), .blk g66 38 #[.int .i64 (-1), .int .i64 (-1), .int .i64 v], .row (.slice (some ⟨g20, 0, none⟩) ((post T 0).length) c16) 38 3 ((post T 0).length) (ncells (post T 0))]) ap23 ((O88.re [4, 0, 1, 2, 3] rfl : Own Z0 W w86 [.row (.slice R n rc) 38 3 n (ncells (OC (post T 0) 0 i)), .blk g85 38 #[.int .i64 (-1), .int .i64 (-1), .int .i64 v], .blk g38 3 ((intCs (toL (post T 0) 0 (i + 1))).toArray), .blk g66 38 #[.int .i64 (-1), .int .i64 (-1), .int .i64 v], .row (.slice (some ⟨g20, 0, none⟩) ((post T 0).length) c16) 38 3 ((post T 0).length) (ncells (post T 0))]).blk 1 rfl) (cells := [.int .i64 (-1), .int .i64 (-1), .int .i64 v]) rfl rfl (by omega) (by omega) (ys := (ncells (OC (post T 0) 0 (i + 1)))) ((ncells_snoc (OC (post T 0) 0 i) ⟨-1, -1, v⟩).trans (congrArg ncells (OC_leaf0 hx hlf).symm))
            refine wl_val (v := .slice A91 (n + 1) c92) (fun ρ e => r94 ρ _ _ _ _ _ _ _ (e _ _ rfl) (e _ _ rfl)) rfl rfl ?_
            refine wl_val (v := .slice A91 (n + 1) c92) (fun ρ e => ex_assign (e _ _ rfl)) rfl rfl ?_
            refine wl_nil ?_
            refine xw_block ?_
            refine xw_next K64 ?_
            refine cw_region ?_
            refine wl_val (v := .int .i64 ((i + 1 : Nat) : Int)) (fun ρ e => ex_arith (k := .i64) (u := (i : Int)) (v := 1) (e _ _ rfl) (e _ _ rfl) (congrArg some ((congrArg _ (by omega)).trans (wrap_in (u := ((i + 1 : Nat) : Int)) (by omega) (by omega))))) rfl rfl ?_
            refine wl_val (v := .int .i64 ((i + 1 : Nat) : Int)) (fun ρ e => ex_move (e _ _ rfl)) rfl rfl ?_
            refine wl_nil ?_
            have O98 : Own Z0 W w93 [.row (.slice (some ⟨g20, 0, none⟩) ((post T 0).length) c16) 38 3 ((post T 0).length) (ncells (post T 0)), .blk g38 3 ((intCs (toL (post T 0) 0 (i + 1))).toArray), .row (.slice A91 (n + 1) c92) 38 3 (n + 1) (ncells (OC (post T 0) 0 (i + 1)))] := (O95.re [4, 2, 0] rfl : Own Z0 W w93 [.row (.slice (some ⟨g20, 0, none⟩) ((post T 0).length) c16) 38 3 ((post T 0).length) (ncells (post T 0)), .blk g38 3 ((intCs (toL (post T 0) 0 (i + 1))).toArray), .row (.slice A91 (n + 1) c92) 38 3 (n + 1) (ncells (OC (post T 0) 0 (i + 1)))])
            have hn2 : n + 1 = (OC (post T 0) 0 (i + 1)).length := by rw [OC_leaf0 hx hlf, List.length_append, ← hn]; rfl
            refine xw_round K60 (i + 1, n + 1, A91, c92) (by show (post T 0).length - (i + 1) < (post T 0).length - i; omega) ⟨(by show i + 1 ≤ (post T 0).length; omega), hn2, O98⟩ ⟨rfl, rfl, rfl, rfl, rfl, rfl, rfl, rfl, rfl, trivial⟩
          · skip
            have hx : (post T 0)[i]? = some ⟨(a : Int), (b : Int), 0⟩ := by rw [List.getElem?_eq_getElem hi, hx0]
            have hlf := lf_inner a b
            refine cw_seq (fun FK99 K99 => ?_)
            refine cw_region ?_
            refine wl_val (v := .bool true) (fun ρ e => ex_cmp (u := (i : Int)) (v := (((post T 0).length : Nat) : Int)) (e _ _ rfl) (e _ _ rfl) (lss1 (by omega))) rfl rfl ?_
            refine wl_nil ?_
            refine xw_next K99 ?_
            refine cw_seq (fun FK100 K100 => ?_)
            refine cw_true rfl ?_
            refine cw_skip ?_
            refine xw_next K100 ?_
            refine cw_seq (fun FK101 K101 => ?_)
            refine cw_block ?_
            refine cw_seq (fun FK102 K102 => ?_)
            refine cw_region ?_
            refine wl_val (v := .int .i64 (i : Int)) (fun ρ e => ex_move (e _ _ rfl)) rfl rfl ?_
            refine wl_val (v := .pointer (some ⟨g20, i * 3, none⟩)) (fun ρ e => ex_idx (q := i * 3) (i := i) el23 (e _ _ rfl) (e _ _ rfl) (by omega) (by omega)) rfl rfl ?_
            refine wl_val (v := .agg #[.int .i64 (a : Int), .int .i64 (b : Int), .int .i64 0]) (fun ρ e => ex_loadN (vs := [.int .i64 (a : Int), .int .i64 (b : Int), .int .i64 0]) ty38 (e _ _ rfl) rfl (cells3 (rowcell (O61.row 0 rfl) (ncells_get hx).1) (rowcell (O61.row 0 rfl) (ncells_get hx).2.1) (rowcell (O61.row 0 rfl) (ncells_get hx).2.2))) rfl rfl ?_
            obtain ⟨g103, w104, r105, O106, hg107, hs108⟩ := own_alloc O61 38 ze38 rfl
            refine wl_val (v := .pointer (some ⟨g103, 0, none⟩)) (fun ρ e => r105 ρ _ _ _ _ _) rfl rfl ?_
            refine wl_val (v := .int .i64 (i : Int)) (fun ρ e => ex_assign (e _ _ rfl)) rfl rfl ?_
            obtain ⟨w109, r110, O111, hs112⟩ := own_put (o := 0) (n := 3) O106 ty38 (.agg #[.int .i64 (a : Int), .int .i64 (b : Int), .int .i64 0]) [.int .i64 (a : Int), .int .i64 (b : Int), .int .i64 0] (cs' := #[.int .i64 (a : Int), .int .i64 (b : Int), .int .i64 0]) rfl rfl rfl (Nat.le_of_ble_eq_true rfl) rfl
            refine wl_none (fun ρ e => r110 ρ _ _ _ _ _ _ (e _ _ rfl) (e _ _ rfl)) rfl ?_
            refine wl_nil ?_
            refine xw_next K102 ?_
            refine cw_seq (fun FK113 K113 => ?_)
            refine cw_seq (fun FK114 K114 => ?_)
            refine cw_region ?_
            refine wl_val (v := .pointer (some ⟨g103, 2, none⟩)) (fun ρ e => ex_field (q := 2) fi38_2 (e _ _ rfl) rfl) rfl rfl ?_
            refine wl_val (v := .int .i64 0) (fun ρ e => ex_load1 ty3 (e _ _ rfl) (O111.cell 0 2 rfl rfl)) rfl rfl ?_
            refine wl_val (v := .bool true) (fun ρ e => ex_cmp (u := 0) (v := 0) (e _ _ rfl) (e _ _ rfl) (eql1 rfl)) rfl rfl ?_
            refine wl_val (v := .int .i64 ((0 : Nat) : Int)) (fun ρ e => ex_move (e _ _ rfl)) rfl rfl ?_
            refine wl_val (v := .bool false) (fun ρ e => ex_cmp (u := ((0 : Nat) : Int)) (v := 1) (e _ _ rfl) (e _ _ rfl) (eql0 (by omega))) rfl rfl ?_
            refine wl_val (v := .bool true) (fun ρ e => ex_neB (a := true) (b := false) (e _ _ rfl) (e _ _ rfl) rfl) rfl rfl ?_
            refine wl_nil ?_
            refine xw_next K114 ?_
            refine cw_true rfl ?_
            refine cw_exit ?_
            refine xw_past (by intro h; cases h) ?_
            refine xw_here ?_
            refine xw_next K101 ?_
            refine cw_region ?_
            refine wl_val (v := .int .i64 ((i + 1 : Nat) : Int)) (fun ρ e => ex_arith (k := .i64) (u := (i : Int)) (v := 1) (e _ _ rfl) (e _ _ rfl) (congrArg some ((congrArg _ (by omega)).trans (wrap_in (u := ((i + 1 : Nat) : Int)) (by omega) (by omega))))) rfl rfl ?_
            refine wl_val (v := .int .i64 ((i + 1 : Nat) : Int)) (fun ρ e => ex_move (e _ _ rfl)) rfl rfl ?_
            refine wl_nil ?_
            have O115 : Own Z0 W w109 [.row (.slice (some ⟨g20, 0, none⟩) ((post T 0).length) c16) 38 3 ((post T 0).length) (ncells (post T 0)), .blk g38 3 ((intCs (toL (post T 0) 0 (i + 1))).toArray), .row (.slice R n rc) 38 3 n (ncells (OC (post T 0) 0 (i + 1)))] := by rw [OC_node0 hx hlf, toL_node0 hx hlf]; exact (O111.re [1, 2, 3] rfl : Own Z0 W w109 [.row (.slice (some ⟨g20, 0, none⟩) ((post T 0).length) c16) 38 3 ((post T 0).length) (ncells (post T 0)), .blk g38 3 ((intCs (toL (post T 0) 0 i)).toArray), .row (.slice R n rc) 38 3 n (ncells (OC (post T 0) 0 i))])
            have hn2 : n = (OC (post T 0) 0 (i + 1)).length := by rw [OC_node0 hx hlf]; exact hn
            refine xw_round K60 (i + 1, n, R, rc) (by show (post T 0).length - (i + 1) < (post T 0).length - i; omega) ⟨(by show i + 1 ≤ (post T 0).length; omega), hn2, O115⟩ ⟨rfl, rfl, rfl, rfl, rfl, rfl, rfl, rfl, rfl, trivial⟩
        · have hie : i = (post T 0).length := by omega
          subst hie
          refine cw_seq (fun FK116 K116 => ?_)
          refine cw_region ?_
          refine wl_val (v := .bool false) (fun ρ e => ex_cmp (u := (((post T 0).length : Nat) : Int)) (v := (((post T 0).length : Nat) : Int)) (e _ _ rfl) (e _ _ rfl) (lss0 (by omega))) rfl rfl ?_
          refine wl_nil ?_
          refine xw_next K116 ?_
          refine cw_seq (fun FK117 K117 => ?_)
          refine cw_false rfl ?_
          refine cw_exit ?_
          refine xw_past (by intro h; cases h) ?_
          refine xw_past (by intro h; cases h) ?_
          refine xw_here ?_
          refine xw_block ?_
          refine xw_next K55 ?_
          refine cw_region ?_
          refine wl_val (v := .int .i64 ((0 + 1 : Nat) : Int)) (fun ρ e => ex_arith (k := .i64) (u := ((0 : Nat) : Int)) (v := 1) (e _ _ rfl) (e _ _ rfl) (congrArg some ((congrArg _ (by omega)).trans (wrap_in (u := ((0 + 1 : Nat) : Int)) (by omega) (by omega))))) rfl rfl ?_
          refine wl_val (v := .int .i64 ((0 + 1 : Nat) : Int)) (fun ρ e => ex_move (e _ _ rfl)) rfl rfl ?_
          refine wl_nil ?_
          have O118 : Own Z0 W w58 [.row (.slice (some ⟨g20, 0, none⟩) ((post T 0).length) c16) 38 3 ((post T 0).length) (ncells (post T 0)), .blk g38 3 ((intCs (toL (post T 0) 1 0)).toArray), .row (.slice R n rc) 38 3 n (ncells (OC (post T 0) 1 0))] := by rw [← OC_next, ← toL_next]; exact O61
          refine xw_round K51 (0 + 1, n, R, rc) (by show 2 - (0 + 1) < 2 - 0; omega) ⟨(by show 0 + 1 ≤ 2; omega), (by show n = (OC (post T 0) (0 + 1) 0).length; rw [show 0 + 1 = 1 from rfl, ← OC_next]; exact hn), O118⟩ ⟨rfl, rfl, rfl, rfl, rfl, trivial⟩
      · skip
        refine cw_seq (fun FK119 K119 => ?_)
        refine cw_region ?_
        refine wl_val (v := .bool true) (fun ρ e => ex_cmp (u := ((1 : Nat) : Int)) (v := 2) (e _ _ rfl) (e _ _ rfl) (lss1 (by omega))) rfl rfl ?_
        refine wl_nil ?_
        refine xw_next K119 ?_
        refine cw_seq (fun FK120 K120 => ?_)
        refine cw_true rfl ?_
        refine cw_skip ?_
        refine xw_next K120 ?_
        refine cw_seq (fun FK121 K121 => ?_)
        refine cw_block ?_
        refine cw_seq (fun FK122 K122 => ?_)
        refine cw_region ?_
        refine wl_val (v := .int .i64 ((1 : Nat) : Int)) (fun ρ e => ex_move (e _ _ rfl)) rfl rfl ?_
        refine wl_val (v := .int .i64 ((1 : Nat) : Int)) (fun ρ e => ex_assign (e _ _ rfl)) rfl rfl ?_
        refine wl_nil ?_
        refine xw_next K122 ?_
        refine cw_seq (fun FK123 K123 => ?_)
        refine cw_region ?_
        refine wl_val (v := .slice (some ⟨g20, 0, none⟩) ((post T 0).length) c16) (fun ρ e => ex_move (e _ _ rfl)) rfl rfl ?_
        refine wl_val (v := .int .i64 (((post T 0).length : Nat) : Int)) (fun ρ e => ex_len el23 (e _ _ rfl)) rfl rfl ?_
        refine wl_val (v := .int .i64 0) (fun ρ e => ex_move (e _ _ rfl)) rfl rfl ?_
        refine wl_nil ?_
        refine xw_next K123 ?_
        refine cw_block ?_
        refine cw_loop (ι := Nat × Nat × Option Addr × Nat) (fun q => [(2, .string s), (7, .slice (some ⟨g20, 0, none⟩) ((post T 0).length) c16), (10, .slice (some ⟨g38, 0, none⟩) ((post T 0).length) ((post T 0).length)), (12, .int .i64 ((1 : Nat) : Int)), (46, .int .i64 ((1 : Nat) : Int)), (49, .slice (some ⟨g20, 0, none⟩) ((post T 0).length) c16), (50, .int .i64 (((post T 0).length : Nat) : Int)), (11, .slice q.2.2.1 q.2.1 q.2.2.2), (51, .int .i64 (q.1 : Int))]) (fun q X => (q.1 ≤ (post T 0).length) ∧ (q.2.1 = (OC (post T 0) 1 q.1).length) ∧ Own Z0 W X [.row (.slice (some ⟨g20, 0, none⟩) ((post T 0).length) c16) 38 3 ((post T 0).length) (ncells (post T 0)), .blk g38 3 ((intCs (toL (post T 0) 1 q.1)).toArray), .row (.slice q.2.2.1 q.2.1 q.2.2.2) 38 3 q.2.1 (ncells (OC (post T 0) 1 q.1))]) (fun q => (post T 0).length - q.1) (0, n, R, rc) ⟨Nat.zero_le _, hn, O52⟩ ⟨rfl, rfl, rfl, rfl, rfl, rfl, rfl, rfl, rfl, trivial⟩ (fun q w124 hJ F125 K126 => ?_)
        obtain ⟨i, n, R, rc⟩ := q
        obtain ⟨hi0, hn, O127⟩ := hJ
        dsimp only at hi0 hn O127 ⊢
        by_cases hi : i < (post T 0).length
        · skip
          have hoc := oc_le (post T 0) 1 i
          rcases hV.kind i _ (List.getElem?_eq_getElem hi) with ⟨v, hx0, hv1, hv2⟩ | ⟨a, b, hx0, ha, hb, hab⟩
          · skip
            have hx : (post T 0)[i]? = some ⟨-1, -1, v⟩ := by rw [List.getElem?_eq_getElem hi, hx0]
            have hlf := lf_leaf hv1 hv2
            refine cw_seq (fun FK128 K128 => ?_)
            refine cw_region ?_
            refine wl_val (v := .bool true) (fun ρ e => ex_cmp (u := (i : Int)) (v := (((post T 0).length : Nat) : Int)) (e _ _ rfl) (e _ _ rfl) (lss1 (by omega))) rfl rfl ?_
            refine wl_nil ?_
            refine xw_next K128 ?_
            refine cw_seq (fun FK129 K129 => ?_)
            refine cw_true rfl ?_
            refine cw_skip ?_
            refine xw_next K129 ?_
            refine cw_seq (fun FK130 K130 => ?_)
            refine cw_block ?_
            refine cw_seq (fun FK131 K131 => ?_)
            refine cw_region ?_
            refine wl_val (v := .int .i64 (i : Int)) (fun ρ e => ex_move (e _ _ rfl)) rfl rfl ?_
            refine wl_val (v := .pointer (some ⟨g20, i * 3, none⟩)) (fun ρ e => ex_idx (q := i * 3) (i := i) el23 (e _ _ rfl) (e _ _ rfl) (by omega) (by omega)) rfl rfl ?_
            refine wl_val (v := .agg #[.int .i64 (-1), .int .i64 (-1), .int .i64 v]) (fun ρ e => ex_loadN (vs := [.int .i64 (-1), .int .i64 (-1), .int .i64 v]) ty38 (e _ _ rfl) rfl (cells3 (rowcell (O127.row 0 rfl) (ncells_get hx).1) (rowcell (O127.row 0 rfl) (ncells_get hx).2.1) (rowcell (O127.row 0 rfl) (ncells_get hx).2.2))) rfl rfl ?_
            obtain ⟨g132, w133, r134, O135, hg136, hs137⟩ := own_alloc O127 38 ze38 rfl
            refine wl_val (v := .pointer (some ⟨g132, 0, none⟩)) (fun ρ e => r134 ρ _ _ _ _ _) rfl rfl ?_
            refine wl_val (v := .int .i64 (i : Int)) (fun ρ e => ex_assign (e _ _ rfl)) rfl rfl ?_
            obtain ⟨w138, r139, O140, hs141⟩ := own_put (o := 0) (n := 3) O135 ty38 (.agg #[.int .i64 (-1), .int .i64 (-1), .int .i64 v]) [.int .i64 (-1), .int .i64 (-1), .int .i64 v] (cs' := #[.int .i64 (-1), .int .i64 (-1), .int .i64 v]) rfl rfl rfl (Nat.le_of_ble_eq_true rfl) rfl
            refine wl_none (fun ρ e => r139 ρ _ _ _ _ _ _ (e _ _ rfl) (e _ _ rfl)) rfl ?_
            refine wl_nil ?_
            refine xw_next K131 ?_
            refine cw_seq (fun FK142 K142 => ?_)
            refine cw_seq (fun FK143 K143 => ?_)
            refine cw_region ?_
            refine wl_val (v := .pointer (some ⟨g132, 2, none⟩)) (fun ρ e => ex_field (q := 2) fi38_2 (e _ _ rfl) rfl) rfl rfl ?_
            refine wl_val (v := .int .i64 v) (fun ρ e => ex_load1 ty3 (e _ _ rfl) (O140.cell 0 2 rfl rfl)) rfl rfl ?_
            refine wl_val (v := .bool false) (fun ρ e => ex_cmp (u := v) (v := 0) (e _ _ rfl) (e _ _ rfl) (eql0 (by omega))) rfl rfl ?_
            refine wl_val (v := .int .i64 ((1 : Nat) : Int)) (fun ρ e => ex_move (e _ _ rfl)) rfl rfl ?_
            refine wl_val (v := .bool true) (fun ρ e => ex_cmp (u := ((1 : Nat) : Int)) (v := 1) (e _ _ rfl) (e _ _ rfl) (eql1 (by omega))) rfl rfl ?_
            refine wl_val (v := .bool true) (fun ρ e => ex_neB (a := false) (b := true) (e _ _ rfl) (e _ _ rfl) rfl) rfl rfl ?_
            refine wl_nil ?_
            refine xw_next K143 ?_
            refine cw_true rfl ?_
            refine cw_exit ?_
            refine xw_past (by intro h; cases h) ?_
            refine xw_here ?_
            refine xw_next K130 ?_
            refine cw_region ?_
            refine wl_val (v := .int .i64 ((i + 1 : Nat) : Int)) (fun ρ e => ex_arith (k := .i64) (u := (i : Int)) (v := 1) (e _ _ rfl) (e _ _ rfl) (congrArg some ((congrArg _ (by omega)).trans (wrap_in (u := ((i + 1 : Nat) : Int)) (by omega) (by omega))))) rfl rfl ?_
            refine wl_val (v := .int .i64 ((i + 1 : Nat) : Int)) (fun ρ e => ex_move (e _ _ rfl)) rfl rfl ?_
            refine wl_nil ?_
            have O144 : Own Z0 W w138 [.row (.slice (some ⟨g20, 0, none⟩) ((post T 0).length) c16) 38 3 ((post T 0).length) (ncells (post T 0)), .blk g38 3 ((intCs (toL (post T 0) 1 (i + 1))).toArray), .row (.slice R n rc) 38 3 n (ncells (OC (post T 0) 1 (i + 1)))] := by rw [OC_leaf1 hx hlf, toL_leaf1 hx hlf]; exact (O140.re [1, 2, 3] rfl : Own Z0 W w138 [.row (.slice (some ⟨g20, 0, none⟩) ((post T 0).length) c16) 38 3 ((post T 0).length) (ncells (post T 0)), .blk g38 3 ((intCs (toL (post T 0) 1 i)).toArray), .row (.slice R n rc) 38 3 n (ncells (OC (post T 0) 1 i))])
            have hn2 : n = (OC (post T 0) 1 (i + 1)).length := by rw [OC_leaf1 hx hlf]; exact hn
            refine xw_round K126 (i + 1, n, R, rc) (by show (post T 0).length - (i + 1) < (post T 0).length - i; omega) ⟨(by show i + 1 ≤ (post T 0).length; omega), hn2, O144⟩ ⟨rfl, rfl, rfl, rfl, rfl, rfl, rfl, rfl, rfl, trivial⟩
          · skip
            have hx : (post T 0)[i]? = some ⟨(a : Int), (b : Int), 0⟩ := by rw [List.getElem?_eq_getElem hi, hx0]
            have hlf := lf_inner a b
            refine cw_seq (fun FK145 K145 => ?_)
            refine cw_region ?_
            refine wl_val (v := .bool true) (fun ρ e => ex_cmp (u := (i : Int)) (v := (((post T 0).length : Nat) : Int)) (e _ _ rfl) (e _ _ rfl) (lss1 (by omega))) rfl rfl ?_
            refine wl_nil ?_
            refine xw_next K145 ?_
            refine cw_seq (fun FK146 K146 => ?_)
            refine cw_true rfl ?_
            refine cw_skip ?_
            refine xw_next K146 ?_
            refine cw_seq (fun FK147 K147 => ?_)
            refine cw_block ?_
            refine cw_seq (fun FK148 K148 => ?_)
            refine cw_region ?_
            refine wl_val (v := .int .i64 (i : Int)) (fun ρ e => ex_move (e _ _ rfl)) rfl rfl ?_
            refine wl_val (v := .pointer (some ⟨g20, i * 3, none⟩)) (fun ρ e => ex_idx (q := i * 3) (i := i) el23 (e _ _ rfl) (e _ _ rfl) (by omega) (by omega)) rfl rfl ?_
            refine wl_val (v := .agg #[.int .i64 (a : Int), .int .i64 (b : Int), .int .i64 0]) (fun ρ e => ex_loadN (vs := [.int .i64 (a : Int), .int .i64 (b : Int), .int .i64 0]) ty38 (e _ _ rfl) rfl (cells3 (rowcell (O127.row 0 rfl) (ncells_get hx).1) (rowcell (O127.row 0 rfl) (ncells_get hx).2.1) (rowcell (O127.row 0 rfl) (ncells_get hx).2.2))) rfl rfl ?_
            obtain ⟨g149, w150, r151, O152, hg153, hs154⟩ := own_alloc O127 38 ze38 rfl
            refine wl_val (v := .pointer (some ⟨g149, 0, none⟩)) (fun ρ e => r151 ρ _ _ _ _ _) rfl rfl ?_
            refine wl_val (v := .int .i64 (i : Int)) (fun ρ e => ex_assign (e _ _ rfl)) rfl rfl ?_
            obtain ⟨w155, r156, O157, hs158⟩ := own_put (o := 0) (n := 3) O152 ty38 (.agg #[.int .i64 (a : Int), .int .i64 (b : Int), .int .i64 0]) [.int .i64 (a : Int), .int .i64 (b : Int), .int .i64 0] (cs' := #[.int .i64 (a : Int), .int .i64 (b : Int), .int .i64 0]) rfl rfl rfl (Nat.le_of_ble_eq_true rfl) rfl
            refine wl_none (fun ρ e => r156 ρ _ _ _ _ _ _ (e _ _ rfl) (e _ _ rfl)) rfl ?_
            refine wl_nil ?_
            refine xw_next K148 ?_
            refine cw_seq (fun FK159 K159 => ?_)
            refine cw_seq (fun FK160 K160 => ?_)
            refine cw_region ?_
            refine wl_val (v := .pointer (some ⟨g149, 2, none⟩)) (fun ρ e => ex_field (q := 2) fi38_2 (e _ _ rfl) rfl) rfl rfl ?_
            refine wl_val (v := .int .i64 0) (fun ρ e => ex_load1 ty3 (e _ _ rfl) (O157.cell 0 2 rfl rfl)) rfl rfl ?_
            refine wl_val (v := .bool true) (fun ρ e => ex_cmp (u := 0) (v := 0) (e _ _ rfl) (e _ _ rfl) (eql1 rfl)) rfl rfl ?_
            refine wl_val (v := .int .i64 ((1 : Nat) : Int)) (fun ρ e => ex_move (e _ _ rfl)) rfl rfl ?_
            refine wl_val (v := .bool true) (fun ρ e => ex_cmp (u := ((1 : Nat) : Int)) (v := 1) (e _ _ rfl) (e _ _ rfl) (eql1 (by omega))) rfl rfl ?_
            refine wl_val (v := .bool false) (fun ρ e => ex_neB (a := true) (b := true) (e _ _ rfl) (e _ _ rfl) rfl) rfl rfl ?_
            refine wl_nil ?_
            refine xw_next K160 ?_
            refine cw_false rfl ?_
            refine cw_skip ?_
            refine xw_next K159 ?_
            refine cw_seq (fun FK161 K161 => ?_)
            refine cw_region ?_
            refine wl_val (v := .slice (some ⟨g38, 0, none⟩) ((post T 0).length) ((post T 0).length)) (fun ρ e => ex_move (e _ _ rfl)) rfl rfl ?_
            refine wl_val (v := .int .i64 (i : Int)) (fun ρ e => ex_move (e _ _ rfl)) rfl rfl ?_
            refine wl_val (v := .slice R n rc) (fun ρ e => ex_move (e _ _ rfl)) rfl rfl ?_
            refine wl_val (v := .int .i64 (n : Int)) (fun ρ e => ex_len el23 (e _ _ rfl)) rfl rfl ?_
            refine wl_val (v := .pointer (some ⟨g38, i, none⟩)) (fun ρ e => ex_idx (q := i) (i := i) el36 (e _ _ rfl) (e _ _ rfl) (by omega) (by omega)) rfl rfl ?_
            have hpos2 : posN (post T 0) i = n := by rw [hn]; exact pos_node hx hlf
            have hset : (toL (post T 0) 1 i).set i (n : Int) = toL (post T 0) 1 (i + 1) := by rw [← hpos2]; exact toL_node1 hx hlf
            obtain ⟨w162, r163, O164, hs165⟩ := own_put (o := i) (n := 1) (O157.re [2, 0, 1, 3] rfl : Own Z0 W w155 [.blk g38 3 ((intCs (toL (post T 0) 1 i)).toArray), .blk g149 38 #[.int .i64 (a : Int), .int .i64 (b : Int), .int .i64 0], .row (.slice (some ⟨g20, 0, none⟩) ((post T 0).length) c16) 38 3 ((post T 0).length) (ncells (post T 0)), .row (.slice R n rc) 38 3 n (ncells (OC (post T 0) 1 i))]) ty3 (.int .i64 (n : Int)) [.int .i64 (n : Int)] (cs' := (intCs (toL (post T 0) 1 (i + 1))).toArray) rfl rfl rfl (by simp [intCs, toL_len] <;> omega) ((setI _ i (n : Int)).trans (congrArg (fun z => (intCs z).toArray) hset))
            refine wl_none (fun ρ e => r163 ρ _ _ _ _ _ _ (e _ _ rfl) (e _ _ rfl)) rfl ?_
            refine wl_nil ?_
            refine xw_next K161 ?_
            refine cw_seq (fun FK166 K166 => ?_)
            refine cw_seq (fun FK167 K167 => ?_)
            refine cw_region ?_
            refine wl_val (v := .int .i64 ((1 : Nat) : Int)) (fun ρ e => ex_move (e _ _ rfl)) rfl rfl ?_
            refine wl_val (v := .bool true) (fun ρ e => ex_cmp (u := ((1 : Nat) : Int)) (v := 1) (e _ _ rfl) (e _ _ rfl) (eql1 (by omega))) rfl rfl ?_
            refine wl_nil ?_
            refine xw_next K167 ?_
            refine cw_true rfl ?_
            refine at_start (fuel := 14) (listed := #[false, false, false, false, false, false, false, false, false, false, false, false, false, false]) (fun X => Own Z0 W X [.blk g38 3 ((intCs (toL (post T 0) 1 (i + 1))).toArray), .blk g149 38 #[.int .i64 (a : Int), .int .i64 (b : Int), .int .i64 0]]) 11 (by kernel_rfl) rfl (by kernel_rfl) ((O164.re [0, 1] rfl : Own Z0 W w162 [.blk g38 3 ((intCs (toL (post T 0) 1 (i + 1))).toArray), .blk g149 38 #[.int .i64 (a : Int), .int .i64 (b : Int), .int .i64 0]])).drew ?_
            have O168 : Own Z0 W w162.drew [.blk g38 3 ((intCs (toL (post T 0) 1 (i + 1))).toArray), .blk g149 38 #[.int .i64 (a : Int), .int .i64 (b : Int), .int .i64 0], .row (.slice (some ⟨g20, 0, none⟩) ((post T 0).length) c16) 38 3 ((post T 0).length) (ncells (post T 0)), .row (.slice R n rc) 38 3 n (ncells (OC (post T 0) 1 i))] := O164.drew
            refine at_name (fun AT169 hin170 hout171 => ?_)
            have N184 : ∀  (w185 : World), Own Z0 W w185 [.blk g149 38 #[.int .i64 (posN (post T 0) a : Int), .int .i64 (posN (post T 0) b : Int), .int .i64 0], .blk g38 3 ((intCs (toL (post T 0) 1 (i + 1))).toArray), .row (.slice (some ⟨g20, 0, none⟩) ((post T 0).length) c16) 38 3 ((post T 0).length) (ncells (post T 0)), .row (.slice R n rc) 38 3 n (ncells (OC (post T 0) 1 i))] → AT169 0 #[true, true, true, true, true, true, true, true, true, true, true, true, true, true] 120 [(2, .string s), (7, .slice (some ⟨g20, 0, none⟩) ((post T 0).length) c16), (10, .slice (some ⟨g38, 0, none⟩) ((post T 0).length) ((post T 0).length)), (12, .int .i64 ((1 : Nat) : Int)), (46, .int .i64 ((1 : Nat) : Int)), (49, .slice (some ⟨g20, 0, none⟩) ((post T 0).length) c16), (50, .int .i64 (((post T 0).length : Nat) : Int)), (11, .slice R n rc), (51, .int .i64 (i : Int)), (52, .bool true), (53, .int .i64 (i : Int)), (54, .pointer (some ⟨g20, i * 3, none⟩)), (55, .agg #[.int .i64 (a : Int), .int .i64 (b : Int), .int .i64 0]), (14, .pointer (some ⟨g149, 0, none⟩)), (13, .int .i64 (i : Int)), (56, .pointer (some ⟨g149, 2, none⟩)), (57, .int .i64 0), (58, .bool true), (59, .int .i64 ((1 : Nat) : Int)), (60, .bool true), (61, .bool false), (62, .slice (some ⟨g38, 0, none⟩) ((post T 0).length) ((post T 0).length)), (63, .int .i64 (i : Int)), (64, .slice R n rc), (65, .int .i64 (n : Int)), (66, .pointer (some ⟨g38, i, none⟩)), (67, .int .i64 ((1 : Nat) : Int)), (68, .bool true)] w185 := by
              intro  w185 O186
              refine hin170 _ _ _ _ _ ?_
              refine at_done rfl ?_
              refine xw_next K166 ?_
              refine cw_region ?_
              refine wl_val (v := .slice R n rc) (fun ρ e => ex_move (e _ _ rfl)) rfl rfl ?_
              refine wl_val (v := .agg #[.int .i64 (posN (post T 0) a : Int), .int .i64 (posN (post T 0) b : Int), .int .i64 0]) (fun ρ e => ex_loadN (vs := [.int .i64 (posN (post T 0) a : Int), .int .i64 (posN (post T 0) b : Int), .int .i64 0]) ty38 (e _ _ rfl) rfl (O186.cells 0 0 rfl rfl)) rfl rfl ?_
              obtain ⟨g187, w188, r189, O190, hg191, hs192⟩ := own_slice O186 el23 ze38 1 [(0, .agg #[.int .i64 (posN (post T 0) a : Int), .int .i64 (posN (post T 0) b : Int), .int .i64 0])] (cs := #[.int .i64 (posN (post T 0) a : Int), .int .i64 (posN (post T 0) b : Int), .int .i64 0]) (by decide) (by kernel_rfl)
              refine wl_val (v := .slice (some ⟨g187, 0, none⟩) 1 1) (fun ρ e => r189 ρ _ _ _ _ _ _ (e.parts rfl)) rfl rfl ?_
              obtain ⟨A193, c194, w195, r196, O197, hz198, hc199⟩ := own_app1 (O190.re [4, 0, 1, 2, 3] rfl : Own Z0 W w188 [.row (.slice R n rc) 38 3 n (ncells (OC (post T 0) 1 i)), .blk g187 38 #[.int .i64 (posN (post T 0) a : Int), .int .i64 (posN (post T 0) b : Int), .int .i64 0], .blk g149 38 #[.int .i64 (posN (post T 0) a : Int), .int .i64 (posN (post T 0) b : Int), .int .i64 0], .blk g38 3 ((intCs (toL (post T 0) 1 (i + 1))).toArray), .row (.slice (some ⟨g20, 0, none⟩) ((post T 0).length) c16) 38 3 ((post T 0).length) (ncells (post T 0))]) ap23 ((O190.re [4, 0, 1, 2, 3] rfl : Own Z0 W w188 [.row (.slice R n rc) 38 3 n (ncells (OC (post T 0) 1 i)), .blk g187 38 #[.int .i64 (posN (post T 0) a : Int), .int .i64 (posN (post T 0) b : Int), .int .i64 0], .blk g149 38 #[.int .i64 (posN (post T 0) a : Int), .int .i64 (posN (post T 0) b : Int), .int .i64 0], .blk g38 3 ((intCs (toL (post T 0) 1 (i + 1))).toArray), .row (.slice (some ⟨g20, 0, none⟩) ((post T 0).length) c16) 38 3 ((post T 0).length) (ncells (post T 0))]).blk 1 rfl) (cells := [.int .i64 (posN (post T 0) a : Int), .int .i64 (posN (post T 0) b : Int), .int .i64 0]) rfl rfl (by omega) (by omega) (ys := (ncells (OC (post T 0) 1 (i + 1)))) ((ncells_snoc (OC (post T 0) 1 i) ⟨(posN (post T 0) a : Int), (posN (post T 0) b : Int), 0⟩).trans (congrArg ncells (oc_node_ hx hlf).symm))
              refine wl_val (v := .slice A193 (n + 1) c194) (fun ρ e => r196 ρ _ _ _ _ _ _ _ (e _ _ rfl) (e _ _ rfl)) rfl rfl ?_
              refine wl_val (v := .slice A193 (n + 1) c194) (fun ρ e => ex_assign (e _ _ rfl)) rfl rfl ?_
              refine wl_nil ?_
              refine xw_block ?_
              refine xw_next K147 ?_
              refine cw_region ?_
              refine wl_val (v := .int .i64 ((i + 1 : Nat) : Int)) (fun ρ e => ex_arith (k := .i64) (u := (i : Int)) (v := 1) (e _ _ rfl) (e _ _ rfl) (congrArg some ((congrArg _ (by omega)).trans (wrap_in (u := ((i + 1 : Nat) : Int)) (by omega) (by omega))))) rfl rfl ?_
              refine wl_val (v := .int .i64 ((i + 1 : Nat) : Int)) (fun ρ e => ex_move (e _ _ rfl)) rfl rfl ?_
              refine wl_nil ?_
              have O200 : Own Z0 W w195 [.row (.slice (some ⟨g20, 0, none⟩) ((post T 0).length) c16) 38 3 ((post T 0).length) (ncells (post T 0)), .blk g38 3 ((intCs (toL (post T 0) 1 (i + 1))).toArray), .row (.slice A193 (n + 1) c194) 38 3 (n + 1) (ncells (OC (post T 0) 1 (i + 1)))] := (O197.re [4, 3, 0] rfl : Own Z0 W w195 [.row (.slice (some ⟨g20, 0, none⟩) ((post T 0).length) c16) 38 3 ((post T 0).length) (ncells (post T 0)), .blk g38 3 ((intCs (toL (post T 0) 1 (i + 1))).toArray), .row (.slice A193 (n + 1) c194) 38 3 (n + 1) (ncells (OC (post T 0) 1 (i + 1)))])
              have hn2 : n + 1 = (OC (post T 0) 1 (i + 1)).length := by rw [oc_node_ hx hlf, List.length_append, ← hn]; rfl
              refine xw_round K126 (i + 1, n + 1, A193, c194) (by show (post T 0).length - (i + 1) < (post T 0).length - i; omega) ⟨(by show i + 1 ≤ (post T 0).length; omega), hn2, O200⟩ ⟨rfl, rfl, rfl, rfl, rfl, rfl, rfl, rfl, rfl, trivial⟩
            have N201 : ∀  (w202 : World), Own Z0 W w202 [.blk g149 38 #[.int .i64 (posN (post T 0) a : Int), .int .i64 (b : Int), .int .i64 0], .blk g38 3 ((intCs (toL (post T 0) 1 (i + 1))).toArray), .row (.slice (some ⟨g20, 0, none⟩) ((post T 0).length) c16) 38 3 ((post T 0).length) (ncells (post T 0)), .row (.slice R n rc) 38 3 n (ncells (OC (post T 0) 1 i))] → AT169 1 #[true, true, true, true, true, true, true, true, true, true, true, true, true, false] 120 [(2, .string s), (7, .slice (some ⟨g20, 0, none⟩) ((post T 0).length) c16), (10, .slice (some ⟨g38, 0, none⟩) ((post T 0).length) ((post T 0).length)), (12, .int .i64 ((1 : Nat) : Int)), (46, .int .i64 ((1 : Nat) : Int)), (49, .slice (some ⟨g20, 0, none⟩) ((post T 0).length) c16), (50, .int .i64 (((post T 0).length : Nat) : Int)), (11, .slice R n rc), (51, .int .i64 (i : Int)), (52, .bool true), (53, .int .i64 (i : Int)), (54, .pointer (some ⟨g20, i * 3, none⟩)), (55, .agg #[.int .i64 (a : Int), .int .i64 (b : Int), .int .i64 0]), (14, .pointer (some ⟨g149, 0, none⟩)), (13, .int .i64 (i : Int)), (56, .pointer (some ⟨g149, 2, none⟩)), (57, .int .i64 0), (58, .bool true), (59, .int .i64 ((1 : Nat) : Int)), (60, .bool true), (61, .bool false), (62, .slice (some ⟨g38, 0, none⟩) ((post T 0).length) ((post T 0).length)), (63, .int .i64 (i : Int)), (64, .slice R n rc), (65, .int .i64 (n : Int)), (66, .pointer (some ⟨g38, i, none⟩)), (67, .int .i64 ((1 : Nat) : Int)), (68, .bool true), (78, .int .i64 (posN (post T 0) b : Int)), (80, .pointer (some ⟨g149, 1, none⟩))] w202 := by
              intro  w202 O203
              refine hin170 _ _ _ _ _ ?_
              refine at_branch [13] (by kernel_rfl) ⟨?_, trivial⟩
              · skip
                obtain ⟨w204, r205, O206, hs207⟩ := own_put (o := 1) (n := 1) O203 ty3 (.int .i64 (posN (post T 0) b : Int)) [.int .i64 (posN (post T 0) b : Int)] (cs' := #[.int .i64 (posN (post T 0) a : Int), .int .i64 (posN (post T 0) b : Int), .int .i64 0]) rfl rfl rfl (Nat.le_of_ble_eq_true rfl) rfl
                refine stp_none (listed' := #[true, true, true, true, true, true, true, true, true, true, true, true, true, true]) rfl rfl (fun ρ e => r205 ρ _ _ _ _ _ _ (e _ _ rfl) (e _ _ rfl)) rfl (fun h => absurd (show true = false from h) (by decide)) ?_
                exact at_sub2 (hout171 _ _ _ _ _ (N184  w204 O206)) ⟨rfl, rfl, rfl, rfl, rfl, rfl, rfl, rfl, rfl, rfl, rfl, rfl, rfl, rfl, rfl, rfl, rfl, rfl, rfl, rfl, rfl, rfl, rfl, rfl, rfl, rfl, rfl, rfl, trivial⟩
            have N208 : ∀  (w209 : World), Own Z0 W w209 [.blk g149 38 #[.int .i64 (posN (post T 0) a : Int), .int .i64 (b : Int), .int .i64 0], .blk g38 3 ((intCs (toL (post T 0) 1 (i + 1))).toArray), .row (.slice (some ⟨g20, 0, none⟩) ((post T 0).length) c16) 38 3 ((post T 0).length) (ncells (post T 0)), .row (.slice R n rc) 38 3 n (ncells (OC (post T 0) 1 i))] → AT169 3 #[true, true, true, true, true, true, true, true, true, false, true, true, false, false] 120 [(2, .string s), (7, .slice (some ⟨g20, 0, none⟩) ((post T 0).length) c16), (10, .slice (some ⟨g38, 0, none⟩) ((post T 0).length) ((post T 0).length)), (12, .int .i64 ((1 : Nat) : Int)), (46, .int .i64 ((1 : Nat) : Int)), (49, .slice (some ⟨g20, 0, none⟩) ((post T 0).length) c16), (50, .int .i64 (((post T 0).length : Nat) : Int)), (11, .slice R n rc), (51, .int .i64 (i : Int)), (52, .bool true), (53, .int .i64 (i : Int)), (54, .pointer (some ⟨g20, i * 3, none⟩)), (55, .agg #[.int .i64 (a : Int), .int .i64 (b : Int), .int .i64 0]), (14, .pointer (some ⟨g149, 0, none⟩)), (13, .int .i64 (i : Int)), (56, .pointer (some ⟨g149, 2, none⟩)), (57, .int .i64 0), (58, .bool true), (59, .int .i64 ((1 : Nat) : Int)), (60, .bool true), (61, .bool false), (62, .slice (some ⟨g38, 0, none⟩) ((post T 0).length) ((post T 0).length)), (63, .int .i64 (i : Int)), (64, .slice R n rc), (65, .int .i64 (n : Int)), (66, .pointer (some ⟨g38, i, none⟩)), (67, .int .i64 ((1 : Nat) : Int)), (68, .bool true), (77, .pointer (some ⟨g38, b, none⟩))] w209 := by
              intro  w209 O210
              refine hin170 _ _ _ _ _ ?_
              refine at_branch [9] (by kernel_rfl) ⟨?_, trivial⟩
              · skip
                refine stp_val (v := .int .i64 (posN (post T 0) b : Int)) (listed' := #[true, true, true, true, true, true, true, true, true, true, true, true, false, false]) rfl rfl (fun ρ e => ex_load1 ty3 (e _ _ rfl) (((O210.blk 1 rfl).cell _).trans (getI (toL_get hb hi)))) rfl rfl (fun h => absurd (show true = false from h) (by decide)) ?_
                refine at_take1 (v := .pointer (some ⟨g149, 1, none⟩)) (i := 12) (listed' := #[true, true, true, true, true, true, true, true, true, true, true, true, true, false]) rfl (by kernel_rfl) (PQ.then_ (PQ.block (PQ.then_ (PQ.then_ (PQ.block (PQ.block (PQ.then_ (PQ.then_ (PQ.block (PQ.then_ PQ.body)))))))))) (fun h => absurd (show true = false from h) (by decide)) (fun ρ e W => ex_field (q := 1) fi38_1 (e _ _ rfl) rfl) rfl rfl ?_
                exact at_sub2 (hout171 _ _ _ _ _ (N201  w209 O210)) ⟨rfl, rfl, rfl, rfl, rfl, rfl, rfl, rfl, rfl, rfl, rfl, rfl, rfl, rfl, rfl, rfl, rfl, rfl, rfl, rfl, rfl, rfl, rfl, rfl, rfl, rfl, rfl, rfl, rfl, rfl, trivial⟩
            have N211 : ∀  (w212 : World), Own Z0 W w212 [.blk g38 3 ((intCs (toL (post T 0) 1 (i + 1))).toArray), .blk g149 38 #[.int .i64 (a : Int), .int .i64 (b : Int), .int .i64 0], .row (.slice (some ⟨g20, 0, none⟩) ((post T 0).length) c16) 38 3 ((post T 0).length) (ncells (post T 0)), .row (.slice R n rc) 38 3 n (ncells (OC (post T 0) 1 i))] → AT169 3 #[true, true, true, true, true, true, true, true, true, true, true, false, false, false] 120 [(2, .string s), (7, .slice (some ⟨g20, 0, none⟩) ((post T 0).length) c16), (10, .slice (some ⟨g38, 0, none⟩) ((post T 0).length) ((post T 0).length)), (12, .int .i64 ((1 : Nat) : Int)), (46, .int .i64 ((1 : Nat) : Int)), (49, .slice (some ⟨g20, 0, none⟩) ((post T 0).length) c16), (50, .int .i64 (((post T 0).length : Nat) : Int)), (11, .slice R n rc), (51, .int .i64 (i : Int)), (52, .bool true), (53, .int .i64 (i : Int)), (54, .pointer (some ⟨g20, i * 3, none⟩)), (55, .agg #[.int .i64 (a : Int), .int .i64 (b : Int), .int .i64 0]), (14, .pointer (some ⟨g149, 0, none⟩)), (13, .int .i64 (i : Int)), (56, .pointer (some ⟨g149, 2, none⟩)), (57, .int .i64 0), (58, .bool true), (59, .int .i64 ((1 : Nat) : Int)), (60, .bool true), (61, .bool false), (62, .slice (some ⟨g38, 0, none⟩) ((post T 0).length) ((post T 0).length)), (63, .int .i64 (i : Int)), (64, .slice R n rc), (65, .int .i64 (n : Int)), (66, .pointer (some ⟨g38, i, none⟩)), (67, .int .i64 ((1 : Nat) : Int)), (68, .bool true), (73, .int .i64 (posN (post T 0) a : Int)), (79, .pointer (some ⟨g149, 0, none⟩)), (78, .int .i64 (posN (post T 0) b : Int))] w212 := by
              intro  w212 O213
              refine hin170 _ _ _ _ _ ?_
              refine at_branch [11] (by kernel_rfl) ⟨?_, trivial⟩
              · skip
                obtain ⟨w214, r215, O216, hs217⟩ := own_put (o := 0) (n := 1) (O213.re [1, 0, 2, 3] rfl : Own Z0 W w212 [.blk g149 38 #[.int .i64 (a : Int), .int .i64 (b : Int), .int .i64 0], .blk g38 3 ((intCs (toL (post T 0) 1 (i + 1))).toArray), .row (.slice (some ⟨g20, 0, none⟩) ((post T 0).length) c16) 38 3 ((post T 0).length) (ncells (post T 0)), .row (.slice R n rc) 38 3 n (ncells (OC (post T 0) 1 i))]) ty3 (.int .i64 (posN (post T 0) a : Int)) [.int .i64 (posN (post T 0) a : Int)] (cs' := #[.int .i64 (posN (post T 0) a : Int), .int .i64 (b : Int), .int .i64 0]) rfl rfl rfl (Nat.le_of_ble_eq_true rfl) rfl
                refine stp_none (listed' := #[true, true, true, true, true, true, true, true, true, true, true, true, false, false]) rfl rfl (fun ρ e => r215 ρ _ _ _ _ _ _ (e _ _ rfl) (e _ _ rfl)) rfl (fun h => absurd (show true = false from h) (by decide)) ?_
                refine at_take1 (v := .pointer (some ⟨g149, 1, none⟩)) (i := 12) (listed' := #[true, true, true, true, true, true, true, true, true, true, true, true, true, false]) rfl (by kernel_rfl) (PQ.then_ (PQ.block (PQ.then_ (PQ.then_ (PQ.block (PQ.block (PQ.then_ (PQ.then_ (PQ.block (PQ.then_ PQ.body)))))))))) (fun h => absurd (show true = false from h) (by decide)) (fun ρ e W => ex_field (q := 1) fi38_1 (e _ _ rfl) rfl) rfl rfl ?_
                exact at_sub2 (hout171 _ _ _ _ _ (N201  w214 O216)) ⟨rfl, rfl, rfl, rfl, rfl, rfl, rfl, rfl, rfl, rfl, rfl, rfl, rfl, rfl, rfl, rfl, rfl, rfl, rfl, rfl, rfl, rfl, rfl, rfl, rfl, rfl, rfl, rfl, rfl, rfl, trivial⟩
            refine hin170 _ _ _ _ _ ?_
            refine at_take1 (v := .slice (some ⟨g38, 0, none⟩) ((post T 0).length) ((post T 0).length)) (i := 0) (listed' := #[true, false, false, false, false, false, false, false, false, false, false, false, false, false]) rfl (by kernel_rfl) (PQ.then_ (PQ.block (PQ.then_ (PQ.then_ (PQ.block (PQ.block (PQ.then_ (PQ.then_ (PQ.block (PQ.then_ PQ.body)))))))))) (fun _ => (O168.re [0, 1] rfl : Own Z0 W w162.drew [.blk g38 3 ((intCs (toL (post T 0) 1 (i + 1))).toArray), .blk g149 38 #[.int .i64 (a : Int), .int .i64 (b : Int), .int .i64 0]])) (fun ρ e W => ex_move (e _ _ rfl)) rfl rfl ?_
            refine at_take1 (v := .pointer (some ⟨g149, 0, none⟩)) (i := 1) (listed' := #[true, true, false, false, false, false, false, false, false, false, false, false, false, false]) rfl (by kernel_rfl) (PQ.then_ (PQ.block (PQ.then_ (PQ.then_ (PQ.block (PQ.block (PQ.then_ (PQ.then_ (PQ.block (PQ.then_ PQ.body)))))))))) (fun _ => (O168.re [0, 1] rfl : Own Z0 W w162.drew [.blk g38 3 ((intCs (toL (post T 0) 1 (i + 1))).toArray), .blk g149 38 #[.int .i64 (a : Int), .int .i64 (b : Int), .int .i64 0]])) (fun ρ e W => ex_field (q := 0) fi38_0 (e _ _ rfl) rfl) rfl rfl ?_
            refine at_take0 (v := .int .i64 (a : Int)) (i := 2) (listed' := #[true, true, true, false, false, false, false, false, false, false, false, false, false, false]) rfl (by kernel_rfl) (PQ.then_ (PQ.block (PQ.then_ (PQ.then_ (PQ.block (PQ.block (PQ.then_ (PQ.then_ (PQ.block (PQ.then_ PQ.body)))))))))) (O168.re [0, 1] rfl : Own Z0 W w162.drew [.blk g38 3 ((intCs (toL (post T 0) 1 (i + 1))).toArray), .blk g149 38 #[.int .i64 (a : Int), .int .i64 (b : Int), .int .i64 0]]) (fun ρ e W hW => ex_load1 ty3 (e _ _ rfl) (hW.cell 1 0 rfl rfl)) rfl rfl ?_
            refine at_take1 (v := .pointer (some ⟨g38, a, none⟩)) (i := 3) (listed' := #[true, true, true, true, false, false, false, false, false, false, false, false, false, false]) rfl (by kernel_rfl) (PQ.then_ (PQ.block (PQ.then_ (PQ.then_ (PQ.block (PQ.block (PQ.then_ (PQ.then_ (PQ.block (PQ.then_ PQ.body)))))))))) (fun _ => (O168.re [0, 1] rfl : Own Z0 W w162.drew [.blk g38 3 ((intCs (toL (post T 0) 1 (i + 1))).toArray), .blk g149 38 #[.int .i64 (a : Int), .int .i64 (b : Int), .int .i64 0]])) (fun ρ e W => ex_idx (q := a) (i := a) el36 (e _ _ rfl) (e _ _ rfl) (by omega) (by omega)) rfl rfl ?_
            refine at_take0 (v := .int .i64 (posN (post T 0) a : Int)) (i := 4) (listed' := #[true, true, true, true, true, false, false, false, false, false, false, false, false, false]) rfl (by kernel_rfl) (PQ.then_ (PQ.block (PQ.then_ (PQ.then_ (PQ.block (PQ.block (PQ.then_ (PQ.then_ (PQ.block (PQ.then_ PQ.body)))))))))) (O168.re [0, 1] rfl : Own Z0 W w162.drew [.blk g38 3 ((intCs (toL (post T 0) 1 (i + 1))).toArray), .blk g149 38 #[.int .i64 (a : Int), .int .i64 (b : Int), .int .i64 0]]) (fun ρ e W hW => ex_load1 ty3 (e _ _ rfl) (((hW.blk 0 rfl).cell _).trans (getI (toL_get ha hi)))) rfl rfl ?_
            refine at_take1 (v := .slice (some ⟨g38, 0, none⟩) ((post T 0).length) ((post T 0).length)) (i := 5) (listed' := #[true, true, true, true, true, true, false, false, false, false, false, false, false, false]) rfl (by kernel_rfl) (PQ.then_ (PQ.block (PQ.then_ (PQ.then_ (PQ.block (PQ.block (PQ.then_ (PQ.then_ (PQ.block (PQ.then_ PQ.body)))))))))) (fun _ => (O168.re [0, 1] rfl : Own Z0 W w162.drew [.blk g38 3 ((intCs (toL (post T 0) 1 (i + 1))).toArray), .blk g149 38 #[.int .i64 (a : Int), .int .i64 (b : Int), .int .i64 0]])) (fun ρ e W => ex_move (e _ _ rfl)) rfl rfl ?_
            refine at_take1 (v := .pointer (some ⟨g149, 1, none⟩)) (i := 6) (listed' := #[true, true, true, true, true, true, true, false, false, false, false, false, false, false]) rfl (by kernel_rfl) (PQ.then_ (PQ.block (PQ.then_ (PQ.then_ (PQ.block (PQ.block (PQ.then_ (PQ.then_ (PQ.block (PQ.then_ PQ.body)))))))))) (fun _ => (O168.re [0, 1] rfl : Own Z0 W w162.drew [.blk g38 3 ((intCs (toL (post T 0) 1 (i + 1))).toArray), .blk g149 38 #[.int .i64 (a : Int), .int .i64 (b : Int), .int .i64 0]])) (fun ρ e W => ex_field (q := 1) fi38_1 (e _ _ rfl) rfl) rfl rfl ?_
            refine at_take0 (v := .int .i64 (b : Int)) (i := 7) (listed' := #[true, true, true, true, true, true, true, true, false, false, false, false, false, false]) rfl (by kernel_rfl) (PQ.then_ (PQ.block (PQ.then_ (PQ.then_ (PQ.block (PQ.block (PQ.then_ (PQ.then_ (PQ.block (PQ.then_ PQ.body)))))))))) (O168.re [0, 1] rfl : Own Z0 W w162.drew [.blk g38 3 ((intCs (toL (post T 0) 1 (i + 1))).toArray), .blk g149 38 #[.int .i64 (a : Int), .int .i64 (b : Int), .int .i64 0]]) (fun ρ e W hW => ex_load1 ty3 (e _ _ rfl) (hW.cell 1 1 rfl rfl)) rfl rfl ?_
            refine at_take1 (v := .pointer (some ⟨g38, b, none⟩)) (i := 8) (listed' := #[true, true, true, true, true, true, true, true, true, false, false, false, false, false]) rfl (by kernel_rfl) (PQ.then_ (PQ.block (PQ.then_ (PQ.then_ (PQ.block (PQ.block (PQ.then_ (PQ.then_ (PQ.block (PQ.then_ PQ.body)))))))))) (fun _ => (O168.re [0, 1] rfl : Own Z0 W w162.drew [.blk g38 3 ((intCs (toL (post T 0) 1 (i + 1))).toArray), .blk g149 38 #[.int .i64 (a : Int), .int .i64 (b : Int), .int .i64 0]])) (fun ρ e W => ex_idx (q := b) (i := b) el36 (e _ _ rfl) (e _ _ rfl) (by omega) (by omega)) rfl rfl ?_
            refine at_take1 (v := .pointer (some ⟨g149, 0, none⟩)) (i := 10) (listed' := #[true, true, true, true, true, true, true, true, true, false, true, false, false, false]) rfl (by kernel_rfl) (PQ.then_ (PQ.block (PQ.then_ (PQ.then_ (PQ.block (PQ.block (PQ.then_ (PQ.then_ (PQ.block (PQ.then_ PQ.body)))))))))) (fun _ => (O168.re [0, 1] rfl : Own Z0 W w162.drew [.blk g38 3 ((intCs (toL (post T 0) 1 (i + 1))).toArray), .blk g149 38 #[.int .i64 (a : Int), .int .i64 (b : Int), .int .i64 0]])) (fun ρ e W => ex_field (q := 0) fi38_0 (e _ _ rfl) rfl) rfl rfl ?_
            refine at_branch [9, 11] (by kernel_rfl) ⟨?_, ?_, trivial⟩
            · skip
              refine stp_val (v := .int .i64 (posN (post T 0) b : Int)) (listed' := #[true, true, true, true, true, true, true, true, true, true, true, false, false, false]) rfl rfl (fun ρ e => ex_load1 ty3 (e _ _ rfl) (((O168.blk 0 rfl).cell _).trans (getI (toL_get hb hi)))) rfl rfl (fun _ => (O168.re [0, 1] rfl : Own Z0 W w162.drew [.blk g38 3 ((intCs (toL (post T 0) 1 (i + 1))).toArray), .blk g149 38 #[.int .i64 (a : Int), .int .i64 (b : Int), .int .i64 0]])) ?_
              exact at_sub2 (hout171 _ _ _ _ _ (N211  w162.drew O168)) ⟨rfl, rfl, rfl, rfl, rfl, rfl, rfl, rfl, rfl, rfl, rfl, rfl, rfl, rfl, rfl, rfl, rfl, rfl, rfl, rfl, rfl, rfl, rfl, rfl, rfl, rfl, rfl, rfl, rfl, rfl, rfl, trivial⟩
            · skip
              obtain ⟨w218, r219, O220, hs221⟩ := own_put (o := 0) (n := 1) (O168.re [1, 0, 2, 3] rfl : Own Z0 W w162.drew [.blk g149 38 #[.int .i64 (a : Int), .int .i64 (b : Int), .int .i64 0], .blk g38 3 ((intCs (toL (post T 0) 1 (i + 1))).toArray), .row (.slice (some ⟨g20, 0, none⟩) ((post T 0).length) c16) 38 3 ((post T 0).length) (ncells (post T 0)), .row (.slice R n rc) 38 3 n (ncells (OC (post T 0) 1 i))]) ty3 (.int .i64 (posN (post T 0) a : Int)) [.int .i64 (posN (post T 0) a : Int)] (cs' := #[.int .i64 (posN (post T 0) a : Int), .int .i64 (b : Int), .int .i64 0]) rfl rfl rfl (Nat.le_of_ble_eq_true rfl) rfl
              refine stp_none (listed' := #[true, true, true, true, true, true, true, true, true, false, true, true, false, false]) rfl rfl (fun ρ e => r219 ρ _ _ _ _ _ _ (e _ _ rfl) (e _ _ rfl)) rfl (fun h => absurd (show true = false from h) (by decide)) ?_
              exact at_sub2 (hout171 _ _ _ _ _ (N208  w218 O220)) ⟨rfl, rfl, rfl, rfl, rfl, rfl, rfl, rfl, rfl, rfl, rfl, rfl, rfl, rfl, rfl, rfl, rfl, rfl, rfl, rfl, rfl, rfl, rfl, rfl, rfl, rfl, rfl, rfl, rfl, trivial⟩
        · have hie : i = (post T 0).length := by omega
          subst hie
          refine cw_seq (fun FK222 K222 => ?_)
          refine cw_region ?_
          refine wl_val (v := .bool false) (fun ρ e => ex_cmp (u := (((post T 0).length : Nat) : Int)) (v := (((post T 0).length : Nat) : Int)) (e _ _ rfl) (e _ _ rfl) (lss0 (by omega))) rfl rfl ?_
          refine wl_nil ?_
          refine xw_next K222 ?_
          refine cw_seq (fun FK223 K223 => ?_)
          refine cw_false rfl ?_
          refine cw_exit ?_
          refine xw_past (by intro h; cases h) ?_
          refine xw_past (by intro h; cases h) ?_
          refine xw_here ?_
          refine xw_block ?_
          refine xw_next K121 ?_
          refine cw_region ?_
          refine wl_val (v := .int .i64 ((1 + 1 : Nat) : Int)) (fun ρ e => ex_arith (k := .i64) (u := ((1 : Nat) : Int)) (v := 1) (e _ _ rfl) (e _ _ rfl) (congrArg some ((congrArg _ (by omega)).trans (wrap_in (u := ((1 + 1 : Nat) : Int)) (by omega) (by omega))))) rfl rfl ?_
          refine wl_val (v := .int .i64 ((1 + 1 : Nat) : Int)) (fun ρ e => ex_move (e _ _ rfl)) rfl rfl ?_
          refine wl_nil ?_
          have O224 : Own Z0 W w124 [.row (.slice (some ⟨g20, 0, none⟩) ((post T 0).length) c16) 38 3 ((post T 0).length) (ncells (post T 0)), .blk g38 3 ((intCs (toL (post T 0) 2 0)).toArray), .row (.slice R n rc) 38 3 n (ncells (OC (post T 0) 2 0))] := by rw [← OC_last, ← toL_last]; exact O127
          refine xw_round K51 (1 + 1, n, R, rc) (by show 2 - (1 + 1) < 2 - 1; omega) ⟨(by show 1 + 1 ≤ 2; omega), (by show n = (OC (post T 0) (1 + 1) 0).length; rw [show 1 + 1 = 2 from rfl, ← OC_last]; exact hn), O224⟩ ⟨rfl, rfl, rfl, rfl, rfl, trivial⟩
      · skip
        refine cw_seq (fun FK225 K225 => ?_)
        refine cw_region ?_
        refine wl_val (v := .bool false) (fun ρ e => ex_cmp (u := ((2 : Nat) : Int)) (v := 2) (e _ _ rfl) (e _ _ rfl) (lss0 (by omega))) rfl rfl ?_
        refine wl_nil ?_
        refine xw_next K225 ?_
        refine cw_seq (fun FK226 K226 => ?_)
        refine cw_false rfl ?_
        refine cw_exit ?_
        refine xw_past (by intro h; cases h) ?_
        refine xw_past (by intro h; cases h) ?_
        refine xw_here ?_
        refine xw_next K45 ?_
        refine cw_seq (fun FK227 K227 => ?_)
        refine cw_seq (fun FK228 K228 => ?_)
        refine cw_region ?_
        refine wl_val (v := .slice R n rc) (fun ρ e => ex_move (e _ _ rfl)) rfl rfl ?_
        refine wl_val (v := .slice R n rc) (fun ρ e => ex_move (e _ _ rfl)) rfl rfl ?_
        refine wl_call (args := [.slice R n rc]) in_23 rfl rfl rfl ?_
        refine (checkb_ (NodesD.of_row (O52.row 2 rfl)) (fun k hk => (World.ownsRow.lt (O52.row 2 rfl) k hk).2) (chk_val (oc_ok hok hroot))).mono ?_
        rintro _ w229 ⟨rfl, hb230⟩
        have O231 : Own Z0 W w229 [.row (.slice (some ⟨g20, 0, none⟩) ((post T 0).length) c16) 38 3 ((post T 0).length) (ncells (post T 0)), .blk g38 3 ((intCs (toL (post T 0) 2 0)).toArray), .row (.slice R n rc) 38 3 n (ncells (OC (post T 0) 2 0))] := O52.below hb230
        refine ⟨_, rfl, ?_⟩
        refine wl_call (args := [.slice R n rc, .int .i64 0]) in_21 rfl rfl rfl ?_
        have hc232 := shown_ (NodesD.of_row (O231.row 2 rfl)) (fun k hk => (World.ownsRow.lt (O231.row 2 rfl) k hk).2) (tab.below (Nat.le_refl _) O231.old) 0
        rw [hshown2] at hc232
        refine hc232.mono ?_
        rintro _ w233 ⟨rfl, hb234⟩
        have O235 : Own Z0 W w233 [.row (.slice (some ⟨g20, 0, none⟩) ((post T 0).length) c16) 38 3 ((post T 0).length) (ncells (post T 0)), .blk g38 3 ((intCs (toL (post T 0) 2 0)).toArray), .row (.slice R n rc) 38 3 n (ncells (OC (post T 0) 2 0))] := O231.below hb234
        refine ⟨_, rfl, ?_⟩
        refine wl_val (v := .slice (some ⟨g20, 0, none⟩) ((post T 0).length) c16) (fun ρ e => ex_move (e _ _ rfl)) rfl rfl ?_
        refine wl_call (args := [.slice (some ⟨g20, 0, none⟩) ((post T 0).length) c16, .int .i64 0]) in_21 rfl rfl rfl ?_
        have hc236 := shown_ (NodesD.of_row (O235.row 0 rfl)) (fun k hk => (World.ownsRow.lt (O235.row 0 rfl) k hk).2) (tab.below (Nat.le_refl _) O235.old) 0
        rw [hshown] at hc236
        refine hc236.mono ?_
        rintro _ w237 ⟨rfl, hb238⟩
        have O239 : Own Z0 W w237 [.row (.slice (some ⟨g20, 0, none⟩) ((post T 0).length) c16) 38 3 ((post T 0).length) (ncells (post T 0)), .blk g38 3 ((intCs (toL (post T 0) 2 0)).toArray), .row (.slice R n rc) 38 3 n (ncells (OC (post T 0) 2 0))] := O235.below hb238
        refine ⟨_, rfl, ?_⟩
        refine wl_val (v := .bool false) (fun ρ e => ex_neS (a := ⟨(textT T).toArray⟩) (b := ⟨(textT T).toArray⟩) (e _ _ rfl) (e _ _ rfl) (by rw [decide_eq_true rfl]; rfl)) rfl rfl ?_
        refine wl_nil ?_
        refine xw_next K228 ?_
        refine cw_false rfl ?_
        refine cw_skip ?_
        refine xw_next K227 ?_
        refine cw_seq (fun FK240 K240 => ?_)
        refine cw_region ?_
        refine wl_val (v := .string s) (fun ρ e => ex_move (e _ _ rfl)) rfl rfl ?_
        by_cases c241 : (parseOf s.data.toList).2 = 5
        · skip
          have hq1 := parse_bad c241
          refine wl_call (args := [.string s]) in_17 rfl rfl rfl ?_
          have hc247 := parse_ s (tab.below (Nat.le_refl _) O239.old)
          rw [hq1] at hc247
          refine hc247.mono ?_
          rintro _ w244 ⟨A242, c243, rfl, h245⟩
          have O246 := O239.join1 h245 trivial
          refine ⟨_, rfl, ?_⟩
          refine wl_val (v := .tuple #[.slice A242 (([] : List VN).length) c243, .int .i64 5]) (fun ρ e => ex_move (e _ _ rfl)) rfl rfl ?_
          refine wl_val (v := .slice A242 (([] : List VN).length) c243) (fun ρ e => ex_extract (vs := #[.slice A242 (([] : List VN).length) c243, .int .i64 5]) (e _ _ rfl) rfl) rfl rfl ?_
          refine wl_val (v := .int .i64 5) (fun ρ e => ex_extract (vs := #[.slice A242 (([] : List VN).length) c243, .int .i64 5]) (e _ _ rfl) rfl) rfl rfl ?_
          refine wl_val (v := .slice A242 (([] : List VN).length) c243) (fun ρ e => ex_assign (e _ _ rfl)) rfl rfl ?_
          refine wl_val (v := .int .i64 5) (fun ρ e => ex_assign (e _ _ rfl)) rfl rfl ?_
          refine wl_nil ?_
          refine xw_next K240 ?_
          refine cw_seq (fun FK248 K248 => ?_)
          refine cw_region ?_
          refine wl_val (v := .int .i64 5) (fun ρ e => ex_move (e _ _ rfl)) rfl rfl ?_
          refine wl_val (v := .bool true) (fun ρ e => ex_cmp (u := 5) (v := 5) (e _ _ rfl) (e _ _ rfl) (eql1 rfl)) rfl rfl ?_
          refine wl_val (v := .bool true) (fun ρ e => ex_move (e _ _ rfl)) rfl rfl ?_
          refine wl_val (v := .slice A242 (([] : List VN).length) c243) (fun ρ e => ex_move (e _ _ rfl)) rfl rfl ?_
          refine wl_val (v := .int .i64 ((([] : List VN).length : Nat) : Int)) (fun ρ e => ex_len el23 (e _ _ rfl)) rfl rfl ?_
          refine wl_val (v := .bool true) (fun ρ e => ex_cmp (u := ((([] : List VN).length : Nat) : Int)) (v := 0) (e _ _ rfl) (e _ _ rfl) (eql1 rfl)) rfl rfl ?_
          refine wl_val (v := .bool true) (fun ρ e => ex_pick1 (e _ _ rfl) (e _ _ rfl)) rfl rfl ?_
          refine wl_val (v := .bool true) (fun ρ e => ex_move (e _ _ rfl)) rfl rfl ?_
          refine wl_skip rfl rfl ?_
          refine wl_skip rfl rfl ?_
          refine wl_skip rfl rfl ?_
          refine wl_skip rfl rfl ?_
          refine wl_skip rfl rfl ?_
          refine wl_skip rfl rfl ?_
          refine wl_skip rfl rfl ?_
          refine wl_skip rfl rfl ?_
          refine wl_skip rfl rfl ?_
          refine wl_val (v := .bool true) (fun ρ e => ex_pick1 (e _ _ rfl) (e _ _ rfl)) rfl rfl ?_
          refine wl_val (v := .bool true) (fun ρ e => ex_move (e _ _ rfl)) rfl rfl ?_
          refine wl_call (args := []) in_14 rfl rfl rfl ?_
          refine (works_ (tab.below (Nat.le_refl _) O246.old)).mono ?_
          rintro _ w249 ⟨rfl, hb250⟩
          have O251 : Own Z0 W w249 [.row (.slice A242 (([] : List VN).length) c243) 38 3 (([] : List VN).length) (ncells ([] : List VN)), .row (.slice (some ⟨g20, 0, none⟩) ((post T 0).length) c16) 38 3 ((post T 0).length) (ncells (post T 0)), .blk g38 3 ((intCs (toL (post T 0) 2 0)).toArray), .row (.slice R n rc) 38 3 n (ncells (OC (post T 0) 2 0))] := O246.below hb250
          refine ⟨_, rfl, ?_⟩
          refine wl_val (v := .bool true) (fun ρ e => ex_pick1 (e _ _ rfl) (e _ _ rfl)) rfl rfl ?_
          refine wl_val (v := .bool true) (fun ρ e => ex_assign (e _ _ rfl)) rfl rfl ?_
          refine wl_nil ?_
          refine xw_next K248 ?_
          refine cw_ret ?_
          refine xw_ret (v := .bool true) (fun T hT => res1 rfl T _ (hT 6 _ rfl)) ?_
          exact ⟨rfl, O251.old⟩
        · skip
          obtain ⟨t, hq1, hq2, hq3⟩ := parse_good c241
          refine wl_call (args := [.string s]) in_17 rfl rfl rfl ?_
          have hc257 := parse_ s (tab.below (Nat.le_refl _) O239.old)
          rw [hq1] at hc257
          refine hc257.mono ?_
          rintro _ w254 ⟨A252, c253, rfl, h255⟩
          have O256 := O239.join1 h255 trivial
          refine ⟨_, rfl, ?_⟩
          refine wl_val (v := .tuple #[.slice A252 t.length c253, .int .i64 0]) (fun ρ e => ex_move (e _ _ rfl)) rfl rfl ?_
          refine wl_val (v := .slice A252 t.length c253) (fun ρ e => ex_extract (vs := #[.slice A252 t.length c253, .int .i64 0]) (e _ _ rfl) rfl) rfl rfl ?_
          refine wl_val (v := .int .i64 0) (fun ρ e => ex_extract (vs := #[.slice A252 t.length c253, .int .i64 0]) (e _ _ rfl) rfl) rfl rfl ?_
          refine wl_val (v := .slice A252 t.length c253) (fun ρ e => ex_assign (e _ _ rfl)) rfl rfl ?_
          refine wl_val (v := .int .i64 0) (fun ρ e => ex_assign (e _ _ rfl)) rfl rfl ?_
          refine wl_nil ?_
          refine xw_next K240 ?_
          refine cw_seq (fun FK258 K258 => ?_)
          refine cw_region ?_
          refine wl_val (v := .int .i64 0) (fun ρ e => ex_move (e _ _ rfl)) rfl rfl ?_
          refine wl_val (v := .bool false) (fun ρ e => ex_cmp (u := 0) (v := 5) (e _ _ rfl) (e _ _ rfl) (eql0 (by omega))) rfl rfl ?_
          refine wl_val (v := .bool false) (fun ρ e => ex_move (e _ _ rfl)) rfl rfl ?_
          refine wl_skip rfl rfl ?_
          refine wl_skip rfl rfl ?_
          refine wl_skip rfl rfl ?_
          refine wl_val (v := .bool false) (fun ρ e => ex_pick0 (e _ _ rfl) (e _ _ rfl)) rfl rfl ?_
          refine wl_val (v := .bool false) (fun ρ e => ex_move (e _ _ rfl)) rfl rfl ?_
          refine wl_val (v := .int .i64 0) (fun ρ e => ex_move (e _ _ rfl)) rfl rfl ?_
          refine wl_val (v := .bool true) (fun ρ e => ex_cmp (u := 0) (v := 0) (e _ _ rfl) (e _ _ rfl) (eql1 rfl)) rfl rfl ?_
          refine wl_val (v := .bool true) (fun ρ e => ex_move (e _ _ rfl)) rfl rfl ?_
          refine wl_val (v := .slice A252 t.length c253) (fun ρ e => ex_move (e _ _ rfl)) rfl rfl ?_
          refine wl_val (v := .int .i64 0) (fun ρ e => ex_move (e _ _ rfl)) rfl rfl ?_
          refine wl_call (args := [.slice A252 t.length c253, .int .i64 0]) in_21 rfl rfl rfl ?_
          have hc259 := shown_ (NodesD.of_row (O256.row 0 rfl)) (fun k hk => (World.ownsRow.lt (O256.row 0 rfl) k hk).2) (tab.below (Nat.le_refl _) O256.old) 0
          rw [(shown_read hq2 hq3)] at hc259
          refine hc259.mono ?_
          rintro _ w260 ⟨rfl, hb261⟩
          have O262 : Own Z0 W w260 [.row (.slice A252 t.length c253) 38 3 t.length (ncells t), .row (.slice (some ⟨g20, 0, none⟩) ((post T 0).length) c16) 38 3 ((post T 0).length) (ncells (post T 0)), .blk g38 3 ((intCs (toL (post T 0) 2 0)).toArray), .row (.slice R n rc) 38 3 n (ncells (OC (post T 0) 2 0))] := O256.below hb261
          refine ⟨_, rfl, ?_⟩
          refine wl_val (v := .string s) (fun ρ e => ex_move (e _ _ rfl)) rfl rfl ?_
          refine wl_val (v := .bool true) (fun ρ e => ex_eqS (a := s) (b := s) (e _ _ rfl) (e _ _ rfl) (by rw [decide_eq_true rfl])) rfl rfl ?_
          refine wl_val (v := .bool true) (fun ρ e => ex_pick1 (e _ _ rfl) (e _ _ rfl)) rfl rfl ?_
          refine wl_val (v := .bool true) (fun ρ e => ex_pick0 (e _ _ rfl) (e _ _ rfl)) rfl rfl ?_
          refine wl_val (v := .bool true) (fun ρ e => ex_move (e _ _ rfl)) rfl rfl ?_
          refine wl_call (args := []) in_14 rfl rfl rfl ?_
          refine (works_ (tab.below (Nat.le_refl _) O262.old)).mono ?_
          rintro _ w263 ⟨rfl, hb264⟩
          have O265 : Own Z0 W w263 [.row (.slice A252 t.length c253) 38 3 t.length (ncells t), .row (.slice (some ⟨g20, 0, none⟩) ((post T 0).length) c16) 38 3 ((post T 0).length) (ncells (post T 0)), .blk g38 3 ((intCs (toL (post T 0) 2 0)).toArray), .row (.slice R n rc) 38 3 n (ncells (OC (post T 0) 2 0))] := O262.below hb264
          refine ⟨_, rfl, ?_⟩
          refine wl_val (v := .bool true) (fun ρ e => ex_pick1 (e _ _ rfl) (e _ _ rfl)) rfl rfl ?_
          refine wl_val (v := .bool true) (fun ρ e => ex_assign (e _ _ rfl)) rfl rfl ?_
          refine wl_nil ?_
          refine xw_next K258 ?_
          refine cw_ret ?_
          refine xw_ret (v := .bool true) (fun T hT => res1 rfl T _ (hT 6 _ rfl)) ?_
          exact ⟨rfl, O265.old⟩

end Go.Proofs.YtpeoodkepjhhiaaDoor
