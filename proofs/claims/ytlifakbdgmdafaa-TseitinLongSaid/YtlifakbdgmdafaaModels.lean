/-
  Counting models: the assignments in order, the subsets. Plain Lean. The models of the theory are as many as the circuit's. Plain Lean. The facts that the walk of TseitinModels wants. Plain Lean.
-/
import Derived.Test.YtlifakbdgmdafaaSem3
namespace Go.Proofs.Ytlifakbdgmdafaa

/-- The assignment of n variables with a number. -/
def assignGo : Nat → Nat → VS → VS
  | _, 0, a => a
  | k, v + 1, a => assignGo (k / 2) v (if k % 2 = 1 then a.with_ ((v : Int) + 1) else a)
def assignOf (k n : Nat) : VS := assignGo k n VS.empty
theorem assignGo_has (n : Nat) (hn : n ≤ 128) : ∀ (k : Nat) (a : VS) (u : Int), (assignGo k n a).has u = (a.has u || (decide (1 ≤ u ∧ u ≤ n) && (k / 2 ^ (n - u.toNat)) % 2 == 1)) := by
  induction n with
  | zero =>
    intro k a u
    have : ¬ (1 ≤ u ∧ u ≤ ((0 : Nat) : Int)) := by omega
    rw [assignGo, decide_eq_false this]; simp
  | succ n ih =>
    intro k a u
    rw [assignGo, ih (by omega)]
    by_cases hu : 1 ≤ u ∧ u ≤ (n : Int)
    · have h1 : 1 ≤ u ∧ u ≤ ((n + 1 : Nat) : Int) := by omega
      have e : n + 1 - u.toNat = (n - u.toNat) + 1 := by omega
      have e2 : k / 2 / 2 ^ (n - u.toNat) = k / 2 ^ (n + 1 - u.toNat) := by rw [e, Nat.pow_succ', Nat.div_div_eq_div_mul]
      have e3 : (if k % 2 = 1 then a.with_ ((n : Int) + 1) else a).has u = a.has u := by
        split
        · rw [VS.has_with]
          have : decide (u = (n : Int) + 1) = false := by simp; omega
          rw [this]; simp
        · rfl
      rw [e2, e3, decide_eq_true hu, decide_eq_true h1]
    · by_cases hu2 : u = (n : Int) + 1
      · subst hu2
        have h1 : 1 ≤ (n : Int) + 1 ∧ (n : Int) + 1 ≤ ((n + 1 : Nat) : Int) := by omega
        have e : n + 1 - ((n : Int) + 1).toNat = 0 := by omega
        have h1' : 1 ≤ (n : Int) + 1 ∧ (n : Int) + 1 ≤ ((n + 1 : Nat) : Int) := h1
        rw [e, decide_eq_true h1', decide_eq_false hu]
        by_cases hk : k % 2 = 1
        · rw [if_pos hk, VS.has_with, decide_eq_true (show 1 ≤ (n : Int) + 1 ∧ (n : Int) + 1 ≤ 128 from by omega)]
          simp [hk]
        · rw [if_neg hk]
          have hk0 : k % 2 = 0 := by omega
          simp [hk0]
      · have h1 : ¬ (1 ≤ u ∧ u ≤ ((n + 1 : Nat) : Int)) := by omega
        have e3 : (if k % 2 = 1 then a.with_ ((n : Int) + 1) else a).has u = a.has u := by
          split
          · rw [VS.has_with]
            have : decide (u = (n : Int) + 1) = false := by simpa using hu2
            rw [this]; simp
          · rfl
        rw [e3, decide_eq_false hu, decide_eq_false h1]; simp
theorem assignOf_has {k n : Nat} (hn : n ≤ 128) (u : Int) : (assignOf k n).has u = (decide (1 ≤ u ∧ u ≤ n) && (k / 2 ^ (n - u.toNat)) % 2 == 1) := by
  unfold assignOf
  rw [assignGo_has n hn, VS.has_empty, Bool.false_or]
theorem assignOf_none {k n : Nat} (hn : n ≤ 128) : noneOver (n : Int) (assignOf k n) := by
  intro v hv
  rw [assignOf_has hn]
  have : ¬ (1 ≤ v ∧ v ≤ (n : Int)) := by omega
  simp [this]
theorem bits_eq (n : Nat) : ∀ (j k : Nat), j < 2 ^ n → k < 2 ^ n → (∀ i, i < n → j / 2 ^ i % 2 = k / 2 ^ i % 2) → j = k := by
  induction n with
  | zero => intro j k hj hk _; simp at hj hk; omega
  | succ n ih =>
    intro j k hj hk h
    have h0 := h 0 (by omega)
    simp at h0
    have := ih (j / 2) (k / 2) (by rw [Nat.pow_succ] at hj; omega) (by rw [Nat.pow_succ] at hk; omega) (fun i hi => by
      have := h (i + 1) (by omega)
      rwa [Nat.pow_succ', ← Nat.div_div_eq_div_mul, ← Nat.div_div_eq_div_mul] at this)
    omega
theorem assignOf_inj {n : Nat} (hn : n ≤ 128) {j k : Nat} (hj : j < 2 ^ n) (hk : k < 2 ^ n) (h : assignOf j n = assignOf k n) : j = k := by
  apply bits_eq n j k hj hk
  intro i hi
  have h1 : (assignOf j n).has ((n - i : Nat) : Int) = (assignOf k n).has ((n - i : Nat) : Int) := by rw [h]
  rw [assignOf_has hn, assignOf_has hn] at h1
  have e : n - ((n - i : Nat) : Int).toNat = i := by omega
  have h2 : 1 ≤ ((n - i : Nat) : Int) ∧ ((n - i : Nat) : Int) ≤ (n : Int) := by omega
  rw [e] at h1
  simp only [h2, and_self, decide_true, Bool.true_and] at h1
  have := congrArg (fun b : Bool => b) h1
  rcases Nat.mod_two_eq_zero_or_one (j / 2 ^ i) with a | a <;> rcases Nat.mod_two_eq_zero_or_one (k / 2 ^ i) with b | b <;> simp_all
/-- A number for each assignment. -/
theorem bits_of (n : Nat) : ∀ f : Nat → Bool, ∃ k, k < 2 ^ n ∧ ∀ i, i < n → (k / 2 ^ i % 2 == 1) = f i := by
  induction n with
  | zero => intro f; exact ⟨0, by simp, fun i hi => by omega⟩
  | succ n ih =>
    intro f
    obtain ⟨k, hk, hf⟩ := ih (fun i => f (i + 1))
    refine ⟨2 * k + (if f 0 then 1 else 0), by rw [Nat.pow_succ]; split <;> omega, fun i hi => ?_⟩
    cases i with
    | zero => simp; cases f 0 <;> simp <;> omega
    | succ i =>
      have e : (2 * k + (if f 0 then 1 else 0)) / 2 = k := by split <;> omega
      rw [Nat.pow_succ', ← Nat.div_div_eq_div_mul, e]
      exact hf i (by omega)
theorem assignOf_onto {n : Nat} (hn : n ≤ 128) {s : VS} (hs : noneOver (n : Int) s) : ∃ k, k < 2 ^ n ∧ assignOf k n = s := by
  obtain ⟨k, hk, hf⟩ := bits_of n (fun i => s.has ((n - i : Nat) : Int))
  refine ⟨k, hk, ?_⟩
  apply VS.ext_has
  intro u h1 h2
  rw [assignOf_has hn]
  by_cases hu : u ≤ (n : Int)
  · have := hf (n - u.toNat) (by omega)
    rw [this]
    have e : ((n - (n - u.toNat) : Nat) : Int) = u := by omega
    simp only [e]
    simp [h1, hu]
  · rw [hs u (by omega)]
    have : ¬ (1 ≤ u ∧ u ≤ (n : Int)) := by omega
    simp [this]

/-! Lists without repetition that have the same elements. -/
theorem nodup_le {α : Type} [DecidableEq α] : ∀ (l m : List α), l.Nodup → (∀ x ∈ l, x ∈ m) → l.length ≤ m.length := by
  intro l
  induction l with
  | nil => intro m _ _; simp
  | cons x r ih =>
    intro m hl hm
    rw [List.nodup_cons] at hl
    have hx := hm x List.mem_cons_self
    have := ih (m.erase x) hl.2 (fun y hy => (List.mem_erase_of_ne (fun e => hl.1 (by rw [← e]; exact hy))).2 (hm y (List.mem_cons_of_mem _ hy)))
    rw [List.length_erase_of_mem hx] at this
    have h2 : 0 < m.length := List.length_pos_of_mem hx
    simp only [List.length_cons]
    omega
theorem nodup_same {α : Type} {l m : List α} (hl : l.Nodup) (hm : m.Nodup) (h : ∀ x, x ∈ l ↔ x ∈ m) : l.length = m.length := by
  classical
  exact Nat.le_antisymm (nodup_le l m hl (fun x hx => (h x).1 hx)) (nodup_le m l hm (fun x hx => (h x).2 hx))
end Go.Proofs.Ytlifakbdgmdafaa

namespace Go.Proofs.Ytlifakbdgmdafaa

/-- The subsets of the variables 1 to v, put to each set of a list. -/
def subs : Nat → List VS → List VS
  | 0, l => l
  | v + 1, l => subs v (l ++ l.map fun s => s.with_ ((v : Int) + 1))
def noneTo (v : Int) (s : VS) : Prop := ∀ u, u ≤ v → s.has u = false
theorem with_noneTo {v : Int} {s : VS} (h : noneTo (v + 1) s) : noneTo v (s.with_ (v + 1)) := by
  intro u hu
  rw [VS.has_with, h u (by omega)]
  have : decide (u = v + 1) = false := by simp; omega
  rw [this]; simp
theorem subs_mem : ∀ (v : Nat) (l : List VS), v ≤ 128 → (∀ s ∈ l, noneTo v s) → ∀ s, s ∈ subs v l ↔ ∃ t ∈ l, ∀ u : Int, (v : Int) < u → s.has u = t.has u := by
  intro v
  induction v with
  | zero =>
    intro l _ hl s
    rw [subs]
    constructor
    · intro h; exact ⟨s, h, fun _ _ => rfl⟩
    · intro ⟨t, ht, h⟩
      have : s = t := VS.ext_has (fun u h1 _ => h u (by omega))
      rw [this]; exact ht
  | succ v ih =>
    intro l hv hl s
    rw [subs, ih _ (by omega)]
    · constructor
      · intro ⟨t, ht, h⟩
        rcases List.mem_append.1 ht with ht | ht
        · exact ⟨t, ht, fun u hu => h u (by omega)⟩
        · obtain ⟨t0, ht0, rfl⟩ := List.mem_map.1 ht
          refine ⟨t0, ht0, fun u hu => ?_⟩
          rw [h u (by omega), VS.has_with]
          have : decide (u = (v : Int) + 1) = false := by simp; omega
          rw [this]; simp
      · intro ⟨t, ht, h⟩
        have hn := hl t ht
        by_cases hs : s.has ((v : Int) + 1) = true
        · refine ⟨t.with_ ((v : Int) + 1), List.mem_append_right _ (List.mem_map.2 ⟨t, ht, rfl⟩), fun u hu => ?_⟩
          rw [VS.has_with]
          by_cases e : u = (v : Int) + 1
          · subst e
            rw [hs]
            have : decide (1 ≤ (v : Int) + 1 ∧ (v : Int) + 1 ≤ 128) = true := decide_eq_true (by omega)
            rw [this]; simp
          · rw [h u (by omega)]; simp [e]
        · refine ⟨t, List.mem_append_left _ ht, fun u hu => ?_⟩
          by_cases e : u = (v : Int) + 1
          · subst e
            rw [hn _ (by omega)]
            simpa using hs
          · exact h u (by omega)
    · intro s hs
      rcases List.mem_append.1 hs with hs | hs
      · intro u hu; exact hl s hs u (by omega)
      · obtain ⟨t0, ht0, rfl⟩ := List.mem_map.1 hs
        exact with_noneTo (hl t0 ht0)
theorem subs_nodup : ∀ (v : Nat) (l : List VS), v ≤ 128 → (∀ s ∈ l, noneTo v s) → l.Nodup → (subs v l).Nodup := by
  intro v
  induction v with
  | zero => intro l _ _ h; exact h
  | succ v ih =>
    intro l hv hl h
    rw [subs]
    apply ih _ (by omega)
    · intro s hs
      rcases List.mem_append.1 hs with hs | hs
      · intro u hu; exact hl s hs u (by omega)
      · obtain ⟨t0, ht0, rfl⟩ := List.mem_map.1 hs
        exact with_noneTo (hl t0 ht0)
    · have hin : decide (1 ≤ (v : Int) + 1 ∧ (v : Int) + 1 ≤ 128) = true := decide_eq_true (by omega)
      rw [List.nodup_append]
      refine ⟨h, ?_, ?_⟩
      · unfold List.Nodup at h ⊢
        rw [List.pairwise_map]
        refine List.Pairwise.imp_of_mem ?_ h
        intro a b ha hb hab e
        apply hab
        apply VS.ext_has
        intro u h1 h2
        by_cases e2 : u = (v : Int) + 1
        · subst e2; rw [hl a ha _ (by omega), hl b hb _ (by omega)]
        · have := congrArg (fun s => VS.has s u) e
          simp only [VS.has_with] at this
          simpa [e2] using this
      · intro a ha b hb e
        obtain ⟨t0, ht0, rfl⟩ := List.mem_map.1 hb
        have h1 := hl a ha ((v : Int) + 1) (by omega)
        rw [e, VS.has_with, hin] at h1
        simp at h1
theorem empty_noneTo (v : Int) : noneTo v VS.empty := fun u _ => VS.has_empty u
/-- All assignments of n variables, as the reference lists them. -/
def subsets (n : Nat) : List VS := subs n [VS.empty]
theorem subsets_mem {n : Nat} (hn : n ≤ 128) (s : VS) : s ∈ subsets n ↔ noneOver (n : Int) s := by
  unfold subsets
  rw [subs_mem n _ hn (by intro s hs; simp at hs; subst hs; exact empty_noneTo _)]
  simp only [List.mem_singleton, exists_eq_left, VS.has_empty]
  rfl
theorem subsets_nodup {n : Nat} (hn : n ≤ 128) : (subsets n).Nodup := subs_nodup n _ hn (by intro s hs; simp at hs; subst hs; exact empty_noneTo _) (by simp)
/-- The models of a theory, in order. -/
def modelsOf (n : Nat) (L : List (List Int)) : List VS := ((List.range (2 ^ n)).map fun k => assignOf k n).filter (thEval n L)
/-- The extended models of a circuit. -/
def wantOf (N : Nat) (gs : List Gate) : List VS := ((subsets N).filter fun a => (extendOf N gs a).2).map fun a => (extendOf N gs a).1
theorem models_len {N n : Nat} {gs : List Gate} (he : (encodeOf N gs).e = 0) (hN : N ≤ 128) (hn : n ≤ 128) (hn' : (encodeOf N gs).n = n) : (modelsOf n (encodeOf N gs).L).length = (wantOf N gs).length := by
  apply nodup_same
  · unfold modelsOf
    unfold List.Nodup
    apply List.Pairwise.filter
    rw [List.pairwise_map]
    refine List.Pairwise.imp_of_mem ?_ (List.nodup_range (n := 2 ^ n))
    intro a b ha hb hab e
    exact hab (assignOf_inj hn (List.mem_range.1 ha) (List.mem_range.1 hb) e)
  · unfold wantOf
    unfold List.Nodup
    rw [List.pairwise_map]
    refine List.Pairwise.imp_of_mem ?_ (List.Pairwise.filter _ (subsets_nodup hN))
    intro a b ha hb hab e
    have h1 := (List.mem_filter.1 ha).2
    have h2 := (List.mem_filter.1 hb).2
    exact hab (by rw [← (extend_base h1).1, ← (extend_base h2).1, e])
  · intro t
    unfold modelsOf wantOf
    rw [List.mem_filter, List.mem_map, List.mem_map]
    have hm := models_iff he t
    rw [hn'] at hm
    constructor
    · intro ⟨_, h2⟩
      obtain ⟨h3, h4⟩ := hm.1 h2
      refine ⟨t.cut (VS.all N), List.mem_filter.2 ⟨(subsets_mem hN _).2 (cut_none t), extend_ok.2 ⟨he, h3⟩⟩, h4.symm⟩
    · intro ⟨a, ha, h⟩
      have h1 := (List.mem_filter.1 ha).2
      obtain ⟨q1, q2, _, q4⟩ := extend_base h1
      rw [h, hn'] at q4
      rw [h, hn'] at q2
      refine ⟨?_, q4⟩
      obtain ⟨k, hk, hkt⟩ := assignOf_onto hn q2
      exact ⟨k, List.mem_range.2 hk, hkt⟩
end Go.Proofs.Ytlifakbdgmdafaa

namespace Go.Proofs.Ytlifakbdgmdafaa

/-- What the law's first loop has gathered. -/
def wantTo (S : List VS) (x : VS → VS × Bool) (i : Nat) : List VS := ((S.take i).filter fun a => (x a).2).map fun a => (x a).1
theorem wantTo_succ {S : List VS} {i : Nat} (h : i < S.length) (x : VS → VS × Bool) : wantTo S x (i + 1) = if (x S[i]).2 then wantTo S x i ++ [(x S[i]).1] else wantTo S x i := by
  unfold wantTo
  rw [List.take_succ_eq_append_getElem h, List.filter_append, List.map_append]
  simp only [List.filter_cons, List.filter_nil]
  split <;> simp
theorem wantTo_len (S : List VS) (x : VS → VS × Bool) (i : Nat) : (wantTo S x i).length ≤ i := by
  unfold wantTo
  rw [List.length_map]
  refine Nat.le_trans (List.length_filter_le _ _) ?_
  rw [List.length_take]
  omega
theorem wantTo_all (S : List VS) (x : VS → VS × Bool) : wantTo S x S.length = (S.filter fun a => (x a).2).map fun a => (x a).1 := by
  unfold wantTo
  rw [List.take_length]
theorem wantTo_mem {S : List VS} {x : VS → VS × Bool} {s : VS} {i : Nat} (h : s ∈ wantTo S x i) : ∃ a ∈ S, (x a).2 = true ∧ s = (x a).1 := by
  unfold wantTo at h
  obtain ⟨a, ha, rfl⟩ := List.mem_map.1 h
  obtain ⟨h1, h2⟩ := List.mem_filter.1 ha
  exact ⟨a, List.mem_of_mem_take h1, by simpa using h2, rfl⟩
theorem subs_len : ∀ (v : Nat) (l : List VS), (subs v l).length = l.length * 2 ^ v := by
  intro v
  induction v with
  | zero => intro l; simp [subs]
  | succ v ih =>
    intro l
    rw [subs, ih, List.length_append, List.length_map, Nat.pow_succ, Nat.mul_comm (2 ^ v), ← Nat.mul_assoc]
    congr 1
    omega
theorem subsets_len (n : Nat) : (subsets n).length = 2 ^ n := by unfold subsets; rw [subs_len]; simp

theorem model_facts {N : Int} {gs : List Gate} (he : (encodeOf N gs).e = 0) :
    (∀ a, (extendOf N gs a).2 = evalOf N gs a) ∧ (∀ a, (extendOf N gs a).2 = true → (extendOf N gs a).1.cut (VS.all N) = a) ∧
    (∀ a, (extendOf N gs a).2 = true → thEval (encodeOf N gs).n (encodeOf N gs).L (extendOf N gs a).1 = true) := by
  refine ⟨fun a => ?_, fun a h => (extend_base h).1, fun a h => (extend_base h).2.2.2⟩
  cases h : (extendOf N gs a).2 with
  | true => exact (extend_ok.1 h).2.symm
  | false =>
    cases h2 : evalOf N gs a with
    | false => rfl
    | true =>
      have := extend_ok.2 ⟨he, h2⟩
      rw [h] at this
      cases this
theorem enc_bounds {N : Int} {gs : List Gate} (he : (encodeOf N gs).e = 0) : 0 ≤ N ∧ N ≤ (encodeOf N gs).n ∧ (encodeOf N gs).n ≤ 128 ∧ thCheck (encodeOf N gs).n (encodeOf N gs).L = 0 := by
  obtain ⟨hc, hf, ht⟩ := encodeOf_ok he
  have hb := check_bounds hc
  obtain ⟨b, _, _, _, _, _, h1, h2, _⟩ := ext_facts (a := VS.empty) he (fun v _ => VS.has_empty v)
  exact ⟨hb.1, h1, h2, by rw [hf]; exact ht⟩
end Go.Proofs.Ytlifakbdgmdafaa
