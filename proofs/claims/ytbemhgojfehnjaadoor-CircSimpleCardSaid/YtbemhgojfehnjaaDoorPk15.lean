/-
  Lemmas and contracts, joined: FoldSi Cplace Claw9 Rl.
-/
import Derived.Test.YtbemhgojfehnjaaDoorPk13
import Derived.Test.YtbemhgojfehnjaaDoorPk9
import Derived.Test.YtbemhgojfehnjaaDoorPk7
namespace Go.Proofs.YtbemhgojfehnjaaDoor
open Go
theorem NfG.map {L M : List Gate} {g : Gate} (f : Int → Int) (h : NfG L g) (hk : ∀ x ∈ g.inp, kindAt M (f x) = kindAt L x) (hi : ∀ x ∈ g.inp, ∀ y ∈ g.inp, f x = f y → x = y) : NfG M ⟨g.kind, g.lit, g.inp.map f⟩ := by
  have nd : ∀ l : List Int, (∀ x ∈ l, x ∈ g.inp) → l.Nodup → (l.map f).Nodup := by
    intro l
    induction l with
    | nil => intro _ _; simp
    | cons x l ih =>
      intro h1 h2
      rw [List.nodup_cons] at h2
      rw [List.map_cons, List.nodup_cons]
      refine ⟨fun hm => ?_, ih (fun y hy => h1 y (by simp [hy])) h2.2⟩
      obtain ⟨y, hy, e⟩ := List.mem_map.1 hm
      have := hi y (h1 y (by simp [hy])) x (h1 x (by simp)) e
      rw [this] at hy
      exact h2.1 hy
  refine ⟨fun e a ea => ?_, fun e => ?_, fun e => ?_, fun e a b ea => ?_, fun e a b c ea => ?_⟩
  · simp only at ea e
    match hg : g.inp, ea with
    | [x], ea =>
      injection ea with ea
      rw [← ea, hk x (by rw [hg]; simp)]
      exact h.k3 e x hg
  · obtain ⟨a, b, c⟩ := h.k45 e
    refine ⟨by simpa using a, nd _ (fun _ h => h) b, fun y hy => ?_⟩
    obtain ⟨x, hx, rfl⟩ := List.mem_map.1 hy
    unfold livK
    rw [hk x hx]
    exact c x hx
  · obtain ⟨l, t, e1, e2, e3, e4, e5⟩ := h.k6 e
    have hl : ∀ x ∈ l, x ∈ g.inp := fun x hx => by rw [e1]; simp [hx]
    refine ⟨l.map f, t.map f, by show g.inp.map f = _; rw [e1, List.map_append], by simpa using e2, nd l hl e3, fun y hy => ?_, ?_⟩
    · obtain ⟨x, hx, rfl⟩ := List.mem_map.1 hy
      unfold livK
      rw [hk x (hl x hx)]
      exact e4 x hx
    · rcases e5 with rfl | ⟨y, rfl, hy⟩
      · exact .inl rfl
      · exact .inr ⟨f y, rfl, by rw [hk y (by rw [e1]; simp)]; exact hy⟩
  · simp only at ea e
    match hg : g.inp, ea with
    | [x, y], ea =>
      injection ea with e1 e2
      injection e2 with e2
      obtain ⟨p, q, r⟩ := h.k7 e x y hg
      subst e1 e2
      unfold livK
      rw [hk x (by rw [hg]; simp), hk y (by rw [hg]; simp)]
      exact ⟨fun e => p (hi x (by rw [hg]; simp) y (by rw [hg]; simp) e), q, r⟩
  · simp only at ea e
    match hg : g.inp, ea with
    | [x, y, z], ea =>
      injection ea with e1 e2
      injection e2 with e2 e3
      injection e3 with e3
      obtain ⟨p, q, r⟩ := h.k8 e x y z hg
      subst e1 e2 e3
      unfold livK
      rw [hk x (by rw [hg]; simp), hk y (by rw [hg]; simp), hk z (by rw [hg]; simp)]
      exact ⟨p, fun e => q (hi y (by rw [hg]; simp) z (by rw [hg]; simp) e), r⟩
/-- Places, once more. -/
structure PJ (L : List Gate) (use : List Bool) (n i : Nat) (out : List Gate) (place : List Int) : Prop where
  len : place.length = n
  get : ∀ j (hj : j < L.length), j < i → use.getD j false = true → 0 ≤ place.getD j 0 ∧ out[(place.getD j 0).toNat]? = some ⟨L[j].kind, L[j].lit, L[j].inp.map fun k => place.getD k.toNat 0⟩
  inj : ∀ j k, j < i → k < i → use.getD j false = true → use.getD k false = true → place.getD j 0 = place.getD k 0 → j = k
  sur : ∀ p, p < out.length → ∃ j, j < i ∧ use.getD j false = true ∧ place.getD j 0 = (p : Int)
  nf : NFL out
  nd : ND out
theorem map_inj {f : Int → Int} : ∀ {a b : List Int}, (∀ x ∈ a, ∀ y ∈ b, f x = f y → x = y) → a.map f = b.map f → a = b
  | [], [], _, _ => rfl
  | [], _ :: _, _, h => by cases h
  | _ :: _, [], _, h => by cases h
  | x :: a, y :: b, hi, h => by
    injection h with h1 h2
    rw [hi x (by simp) y (by simp) h1, map_inj (fun x hx y hy => hi x (by simp [hx]) y (by simp [hy])) h2]
theorem PJ.one {N : Int} {B : Nat} {L : List Gate} (hw : wfL N B L) (hd : ND L) (hn : NFL L) {use : List Bool} {n i : Nat} {out : List Gate} {place : List Int} (h : PJ L use n i out place) (hi : i < L.length) (hin : i < n)
    (hc : ∀ i (hi : i < L.length), i < n → use.getD i false = true → ∀ x ∈ L[i].inp, use.getD x.toNat false = true) :
    if use.getD i false = true then PJ L use n (i + 1) (out ++ [⟨L[i].kind, L[i].lit, L[i].inp.map fun k => place.getD k.toNat 0⟩]) (place.set i (out.length : Int)) else PJ L use n (i + 1) out place := by
  by_cases hu : use.getD i false = true
  · rw [if_pos hu]
    have p3 : ∀ j (hj : j < L.length), ∀ x ∈ L[j].inp, 0 ≤ x ∧ x < (j : Int) := fun j hj => (good_parts (hw j L[j] (List.getElem?_eq_getElem hj)).1).2.2
    have hset : ∀ j, (place.set i (out.length : Int)).getD j 0 = if i = j then (out.length : Int) else place.getD j 0 := fun j => getD_setI _ _ _ _ (by rw [h.len]; exact hin)
    have hmap : ∀ j (hj : j < L.length), j ≤ i → (L[j].inp.map fun k => (place.set i (out.length : Int)).getD k.toNat 0) = L[j].inp.map fun k => place.getD k.toNat 0 := by
      intro j hj hji
      refine List.map_congr_left (fun x hx => ?_)
      have := p3 j hj x hx
      rw [hset, if_neg (by omega)]
    have hlt : ∀ j (hj : j < L.length), j < i → use.getD j false = true → place.getD j 0 < (out.length : Int) := by
      intro j hj hji hju
      obtain ⟨a, b⟩ := h.get j hj hji hju
      have := (List.getElem?_eq_some_iff.1 b).1
      omega
    have hkind : ∀ j (hj : j < L.length), j < i → use.getD j false = true → kindAt out (place.getD j 0) = L[j].kind := by
      intro j hj hji hju
      obtain ⟨a, b⟩ := h.get j hj hji hju
      exact (kind_get a b).1
    have hinp : ∀ x ∈ L[i].inp, ∃ hj : x.toNat < L.length, x.toNat < i ∧ use.getD x.toNat false = true ∧ kindAt L x = L[x.toNat].kind := by
      intro x hx
      have := p3 i hi x hx
      have hj : x.toNat < L.length := by omega
      refine ⟨hj, by omega, hc i hi hin hu x hx, ?_⟩
      unfold kindAt gateAt
      rw [List.getD_eq_getElem?_getD, List.getElem?_eq_getElem hj]; rfl
    have hinj : ∀ x ∈ L[i].inp, ∀ y ∈ L[i].inp, place.getD x.toNat 0 = place.getD y.toNat 0 → x = y := by
      intro x hx y hy e
      obtain ⟨_, x1, x2, _⟩ := hinp x hx
      obtain ⟨_, y1, y2, _⟩ := hinp y hy
      have := h.inj _ _ x1 y1 x2 y2 e
      have := p3 i hi x hx
      have := p3 i hi y hy
      omega
    obtain ⟨g', hg'⟩ : ∃ g' : Gate, g' = ⟨L[i].kind, L[i].lit, L[i].inp.map fun k => place.getD k.toNat 0⟩ := ⟨_, rfl⟩
    have hnew : g' ∉ out := by
      intro hm
      obtain ⟨p, hp⟩ := List.mem_iff_getElem?.1 hm
      have hpl := (List.getElem?_eq_some_iff.1 hp).1
      obtain ⟨j, hji, hju, hjp⟩ := h.sur p hpl
      have hj : j < L.length := by omega
      obtain ⟨_, b⟩ := h.get j hj hji hju
      rw [hjp, Int.toNat_natCast, hp, hg'] at b
      injection b with b
      injection b with b1 b2 b3
      have e3 : L[i].inp = L[j].inp := map_inj (f := fun k => place.getD k.toNat 0) (fun x hx y hy e => by
        obtain ⟨_, x1, x2, _⟩ := hinp x hx
        have hy2 := p3 j hj y hy
        have := h.inj _ _ x1 (show y.toNat < i by omega) x2 (hc j hj (by omega) hju y hy) e
        have := p3 i hi x hx
        omega) b3
      have : L[i] = L[j] := by
        cases h1 : L[i]
        cases h2 : L[j]
        rw [h1, h2] at b1 b2 e3
        simp only at b1 b2 e3
        rw [b1, b2, e3]
      have := hd i j L[i] (List.getElem?_eq_getElem hi) (by rw [this]; exact List.getElem?_eq_getElem hj)
      omega
    have hnf : NfG out g' := by
      rw [hg']
      refine (hn i L[i] (List.getElem?_eq_getElem hi)).map (fun k => place.getD k.toNat 0) (fun x hx => ?_) hinj
      obtain ⟨hj, x1, x2, x3⟩ := hinp x hx
      rw [hkind x.toNat hj x1 x2, x3]
    have hg'in : ∀ x ∈ g'.inp, inR out x := by
      intro y hy
      rw [hg'] at hy
      obtain ⟨x, hx, rfl⟩ := List.mem_map.1 hy
      obtain ⟨hj, x1, x2, _⟩ := hinp x hx
      exact ⟨(h.get _ hj x1 x2).1, hlt _ hj x1 x2⟩
    have hold : ∀ (p : Nat) (g : Gate), out[p]? = some g → ∀ x ∈ g.inp, inR out x := by
      intro p g hp x hx
      have hpl := (List.getElem?_eq_some_iff.1 hp).1
      obtain ⟨j, hji, hju, hjp⟩ := h.sur p hpl
      have hj : j < L.length := by omega
      obtain ⟨_, b⟩ := h.get j hj hji hju
      rw [hjp, Int.toNat_natCast, hp] at b
      injection b with b
      rw [b] at hx
      obtain ⟨y, hy, rfl⟩ := List.mem_map.1 hx
      have hy2 := p3 j hj y hy
      have hyj : y.toNat < L.length := by omega
      exact ⟨(h.get _ hyj (by omega) (hc j hj (by omega) hju y hy)).1, hlt _ hyj (by omega) (hc j hj (by omega) hju y hy)⟩
    rw [← hg']
    refine ⟨by simp [h.len], fun j hj hji hju => ?_, fun j k hji hki hju hku e => ?_, fun p hp => ?_, fun p g hp => ?_, h.nd.snoc hnew⟩
    · rw [hset, hmap j hj (by omega)]
      split
      · rename_i e; subst e
        refine ⟨by omega, ?_⟩
        rw [Int.toNat_natCast, hg']; simp
      · obtain ⟨a, b⟩ := h.get j hj (by omega) hju
        exact ⟨a, by rw [List.getElem?_append_left (List.getElem?_eq_some_iff.1 b).1]; exact b⟩
    · rw [hset, hset] at e
      split at e
      · rename_i e1
        split at e
        · omega
        · have := hlt k (by omega) (by omega) hku; omega
      · split at e
        · have := hlt j (by omega) (by omega) hju; omega
        · exact h.inj j k (by omega) (by omega) hju hku e
    · rw [List.length_append, List.length_singleton] at hp
      by_cases e : p < out.length
      · obtain ⟨j, h1, h2, h3⟩ := h.sur p e
        exact ⟨j, by omega, h2, by rw [hset, if_neg (by omega)]; exact h3⟩
      · exact ⟨i, by omega, hu, by rw [hset, if_pos rfl]; omega⟩
    · rcases get_snoc hp with ⟨a, _⟩ | ⟨_, rfl⟩
      · exact (h.nf p g a).app _ (hold p g a)
      · exact hnf.app _ hg'in
  · rw [if_neg hu]
    have hne : ∀ j, j < i + 1 → use.getD j false = true → j < i := fun j h1 h2 => by
      by_cases e : j = i
      · subst e; exact absurd h2 hu
      · omega
    refine ⟨h.len, fun j hj hji hju => h.get j hj (hne j hji hju) hju, fun j k hji hki hju hku e => h.inj j k (hne j hji hju) (hne k hki hku) hju hku e, fun p hp => ?_, h.nf, h.nd⟩
    obtain ⟨j, h1, h2, h3⟩ := h.sur p hp
    exact ⟨j, by omega, h2, h3⟩
theorem PJ.all {N : Int} {B : Nat} {L : List Gate} (hw : wfL N B L) (hd : ND L) (hnf : NFL L) {use : List Bool} {n : Nat} (hn : n ≤ L.length) (hc : ∀ i (hi : i < L.length), i < n → use.getD i false = true → ∀ x ∈ L[i].inp, use.getD x.toNat false = true) :
    ∀ (m i : Nat) (r : List Gate) (out : List Gate) (place : List Int), i + m = n → r = (L.take n).drop i → PJ L use n i out place → PJ L use n n (placeGo use r i (out, place)).1 (placeGo use r i (out, place)).2
  | 0, i, r, out, place, hm, hr, h => by
    have : r = [] := by rw [hr]; simp; omega
    rw [this]
    have e : i = n := by omega
    subst e
    exact h
  | m + 1, i, r, out, place, hm, hr, h => by
    have hi : i < L.length := by omega
    have h1 := h.one hw hd hnf hi (by omega) hc
    have hr2 : r = L[i] :: (L.take n).drop (i + 1) := by
      rw [hr, List.drop_eq_getElem_cons (by simp; omega)]
      simp
    rw [hr2, placeGo]
    split
    · rename_i hu
      rw [if_pos hu] at h1
      exact PJ.all hw hd hnf hn hc m (i + 1) _ _ _ (by omega) rfl h1
    · rename_i hu
      rw [if_neg hu] at h1
      exact PJ.all hw hd hnf hn hc m (i + 1) _ _ _ (by omega) rfl h1
theorem mark_src : ∀ (l : List Int) (u : List Bool) (j : Nat), (markIn u l).getD j false = true → u.getD j false = true ∨ ∃ x ∈ l, x.toNat = j
  | [], _, _, h => .inl h
  | y :: l, u, j, h => by
    rw [markIn_cons] at h
    rcases mark_src l _ j h with h | ⟨x, hx, e⟩
    · rw [getD_set] at h
      simp only [Bool.or_eq_true, Bool.and_eq_true, decide_eq_true_eq] at h
      rcases h with h | h
      · exact .inl h
      · exact .inr ⟨y, by simp, h.1⟩
    · exact .inr ⟨x, by simp [hx], e⟩
theorem use_src {N : Int} {B : Nat} {L : List Gate} (hw : wfL N B L) : ∀ (n : Nat) (u : List Bool), n ≤ u.length → n ≤ L.length → ∀ j, (useGo L n u).getD j false = true →
    u.getD j false = true ∨ ∃ i, ∃ hi : i < L.length, i < n ∧ (useGo L n u).getD i false = true ∧ ∃ x ∈ L[i].inp, x.toNat = j
  | 0, u, _, _, j, h => .inl h
  | n + 1, u, hu, hL, j, h => by
    have hnl : n < L.length := by omega
    rw [useGo_succ L u hnl] at h ⊢
    have hg := good_parts (hw n L[n] (List.getElem?_eq_getElem hnl)).1
    obtain ⟨u', hu'⟩ : ∃ u', u' = (if u.getD n false then markIn u L[n].inp else u) := ⟨_, rfl⟩
    rw [← hu'] at h ⊢
    have hlen : u'.length = u.length := by
      rw [hu']
      split
      · exact markIn_len _ _
      · rfl
    have hun : u'.getD n false = u.getD n false := by
      rw [hu']
      split
      · exact mark_other _ _ _ (fun x hx => by have := hg.2.2 x hx; omega)
      · rfl
    rcases use_src hw n u' (by omega) (by omega) j h with h1 | ⟨i, hi, h2, h3, h4⟩
    · rw [hu'] at h1
      split at h1
      · rename_i hn
        rcases mark_src _ _ _ h1 with h5 | ⟨x, hx, e⟩
        · exact .inl h5
        · refine .inr ⟨n, hnl, by omega, ?_, x, hx, e⟩
          rw [(use_all hw n u' (by omega) (by omega)).2.2.1 n (by omega), hun]
          exact hn
      · exact .inl h1
    · exact .inr ⟨i, hi, by omega, h3, h4⟩
/-- What the gates of a folded circuit are like. -/
structure Norm (N : Int) (B : Nat) (out : List Gate) : Prop where
  wf : wfL N B out
  nf : NFL out
  nd : ND out
  pos : 0 < out.length
  used : ∀ p, p < out.length → (useOf out (out.length - 1)).getD p false = true
theorem need_norm {N : Int} {B : Nat} {L : List Gate} (hw : wfL N B L) (hd : ND L) (hnf : NFL L) {root : Int} (hr : inR L root) : Norm N B (neededG L root) := by
  obtain ⟨c1, c2, _, _, _⟩ := need_all hw hr
  obtain ⟨n, hn⟩ : ∃ n, root.toNat = n := ⟨_, rfl⟩
  have h0 := hr.1
  have h1 := hr.2
  have hnl : n < L.length := by omega
  unfold neededG at c1 c2 ⊢
  rw [hn] at c1 c2 ⊢
  have hu := use_all hw (n + 1) ((List.replicate (n + 1) false).set n true) (by simp) (by omega)
  have hs := use_src hw (n + 1) ((List.replicate (n + 1) false).set n true) (by simp) (by omega)
  have hroot : (useOf L n).getD n false = true := by
    unfold useOf
    rw [hu.2.2.1 n (Nat.le_refl _), getD_set]
    simp
  have hcl : ∀ i (hi : i < L.length), i < n + 1 → (useOf L n).getD i false = true → ∀ x ∈ L[i].inp, (useOf L n).getD x.toNat false = true := fun i hi hin hv => hu.2.2.2 i hi hin hv
  have hp := PJ.all hw hd hnf (use := useOf L n) (n := n + 1) (by omega) hcl (n + 1) 0 (L.take (n + 1)) [] (List.replicate (n + 1) 0) (by omega) rfl
    ⟨by simp, fun j _ hj => by omega, fun j k hj => by omega, fun p hp => by simp at hp, fun i g h => by simp at h, ND.nil⟩
  have hq := place_all hw (use := useOf L n) (n := n + 1) (by omega) hcl (n + 1) 0 (L.take (n + 1)) [] (List.replicate (n + 1) 0) (by omega) rfl
    ⟨fun i g h => by simp at h, by simp, fun j hj => by omega, Nat.le_refl _, Nat.le_refl _, fun j hj => by omega⟩
  generalize placeGo (useOf L n) (L.take (n + 1)) 0 ([], List.replicate (n + 1) 0) = q at hp hq c1 c2
  obtain ⟨out, place⟩ := q
  obtain ⟨l1, l2⟩ := hq.last n rfl hroot
  simp only at hp c1 c2 l1 l2 ⊢
  refine ⟨c1, hp.nf, hp.nd, c2, ?_⟩
  have hv := use_all c1 out.length ((List.replicate (out.length - 1 + 1) false).set (out.length - 1) true) (by simp; omega) (Nat.le_refl _)
  have e1 : out.length - 1 + 1 = out.length := by omega
  have huo : useOf out (out.length - 1) = useGo out out.length ((List.replicate (out.length - 1 + 1) false).set (out.length - 1) true) := by unfold useOf; rw [e1]
  have main : ∀ d j, n - j = d → j ≤ n → (useOf L n).getD j false = true → (useOf out (out.length - 1)).getD (place.getD j 0).toNat false = true := by
    intro d
    induction d using Nat.strongRecOn with
    | _ d ih =>
      intro j hd hj hju
      by_cases e : j = n
      · subst e
        rw [l2, Int.toNat_natCast, huo, hv.2.2.1 _ (by omega), getD_set]
        simp
      · rcases hs j hju with h5 | ⟨i, hi, hin, hiu, x, hx, hxj⟩
        · rw [getD_set] at h5
          simp only [Bool.or_eq_true, Bool.and_eq_true, decide_eq_true_eq] at h5
          rcases h5 with h5 | h5
          · rw [List.getD_eq_getElem?_getD, List.getElem?_replicate] at h5
            split at h5 <;> cases h5
          · omega
        · have hx2 := (good_parts (hw i L[i] (List.getElem?_eq_getElem hi)).1).2.2 x hx
          have hi2 := ih (n - i) (by omega) i rfl (by omega) hiu
          obtain ⟨a, b⟩ := hp.get i hi hin hiu
          have hpl := (List.getElem?_eq_some_iff.1 b).1
          have hb := (List.getElem?_eq_some_iff.1 b).2
          rw [huo] at hi2 ⊢
          have := hv.2.2.2 _ hpl hpl hi2 (place.getD x.toNat 0) (by rw [hb]; exact List.mem_map.2 ⟨x, hx, rfl⟩)
          rw [← hxj]
          exact this
  intro p hpo
  obtain ⟨j, hj, hju, hjp⟩ := hp.sur p hpo
  have := main _ j rfl (by omega) hju
  rw [hjp, Int.toNat_natCast] at this
  exact this
theorem fold_norm {N : Int} {gs : List Gate} (hc : checkOf N gs = 0) : Norm N 100000 (foldOf gs) := by
  obtain ⟨hf, hn⟩ := fold_state hc
  obtain ⟨b0, b1, b2, b3, b4⟩ := check_bounds hc
  unfold foldOf
  dsimp only
  generalize foldGo gs ([], []) = q at hf hn
  obtain ⟨L, found⟩ := q
  obtain ⟨ha, _⟩ := hf.at_ (gs.length - 1) (by omega)
  have := hf.len
  dsimp only at this ha ⊢
  rw [this]
  exact need_norm hf.wf hf.nd hn ha
def idxs (n : Nat) : List Int := (List.range n).map Int.ofNat
theorem idxs_succ (n : Nat) : idxs (n + 1) = idxs n ++ [(n : Int)] := by simp [idxs, List.range_succ]
theorem idxs_get {n k : Nat} (h : k < n) : (idxs n).getD k 0 = (k : Int) := by
  simp [idxs, List.getD_eq_getElem?_getD, h]
theorem again_go {N : Int} {B : Nat} {out : List Gate} (h : Norm N B out) : ∀ (r pre : List Gate), out = pre ++ r → foldGo r (pre, idxs pre.length) = (out, idxs out.length)
  | [], pre, e => by rw [List.append_nil] at e; rw [e]; rfl
  | g :: r, pre, e => by
    have hi : out[pre.length]? = some g := by rw [e]; simp
    obtain ⟨hg, hb⟩ := h.wf _ _ hi
    obtain ⟨p1, p2, p3⟩ := good_parts hg
    have hpre : wfL N B pre := fun i x hx => h.wf i x (by rw [e, List.getElem?_append_left (List.getElem?_eq_some_iff.1 hx).1]; exact hx)
    have hmap : (g.inp.map fun k => (idxs pre.length).getD k.toNat 0) = g.inp := by
      conv => rhs; rw [← List.map_id g.inp]
      refine List.map_congr_left (fun x hx => ?_)
      have := p3 x hx
      rw [idxs_get (by omega)]
      show ((x.toNat : Nat) : Int) = x
      omega
    have hnf : NfG pre g := by
      have := (h.nf _ _ hi).map (M := pre) id (fun x hx => by
        rw [e]
        exact (kind_app _ ⟨(p3 x hx).1, (p3 x hx).2⟩).symm) (fun x _ y _ q => q)
      rw [List.map_id] at this
      exact this
    have hni : g ∉ pre := by
      intro hm
      obtain ⟨k, hk⟩ := List.mem_iff_getElem?.1 hm
      have hkl := (List.getElem?_eq_some_iff.1 hk).1
      have := h.nd k pre.length g (by rw [e, List.getElem?_append_left hkl]; exact hk) hi
      omega
    rw [foldGo]
    rw [hmap, step_keep hpre hg hnf]
    have hf : findG pre g = (pre ++ [g], (pre.length : Int)) := by
      unfold findG
      cases q : gidx g pre 0 with
      | none => rfl
      | some k =>
        obtain ⟨_, _, h3⟩ := gidx_lt q
        exact absurd (List.mem_of_getElem? h3) hni
    rw [hf]
    have := again_go h r (pre ++ [g]) (by rw [List.append_assoc]; exact e)
    rw [List.length_append, List.length_singleton, idxs_succ] at this
    exact this
theorem place_id {out : List Gate} {N : Int} {B : Nat} (hw : wfL N B out) {use : List Bool} (hu : ∀ p, p < out.length → use.getD p false = true) : ∀ (r pre : List Gate) (place : List Int), out = pre ++ r → place.length = out.length → (∀ k, k < pre.length → place.getD k 0 = (k : Int)) → (placeGo use r pre.length (pre, place)).1 = out
  | [], pre, place, e, _, _ => by rw [List.append_nil] at e; rw [e]; rfl
  | g :: r, pre, place, e, hl, hp => by
    have hi : out[pre.length]? = some g := by rw [e]; simp
    have hlt := (List.getElem?_eq_some_iff.1 hi).1
    obtain ⟨hg, hb⟩ := hw _ _ hi
    obtain ⟨p1, p2, p3⟩ := good_parts hg
    have hmap : (g.inp.map fun k => place.getD k.toNat 0) = g.inp := by
      conv => rhs; rw [← List.map_id g.inp]
      refine List.map_congr_left (fun x hx => ?_)
      have := p3 x hx
      rw [hp _ (by omega)]
      show ((x.toNat : Nat) : Int) = x
      omega
    rw [placeGo, if_pos (hu _ hlt), hmap]
    have := place_id hw hu r (pre ++ [g]) (place.set pre.length (pre.length : Int)) (by rw [List.append_assoc]; exact e) (by simpa using hl) (fun k hk => by
      rw [getD_setI _ _ _ _ (by omega)]
      split
      · rename_i q; rw [q]
      · rw [List.length_append, List.length_singleton] at hk
        exact hp k (by omega))
    rw [List.length_append, List.length_singleton] at this
    exact this
theorem fold_again {N : Int} {gs : List Gate} (hc : checkOf N gs = 0) : foldOf (foldOf gs) = foldOf gs := by
  have h := fold_norm hc
  generalize foldOf gs = out at h
  have hp := h.pos
  unfold foldOf
  dsimp only
  have h1 := again_go h out [] rfl
  rw [show idxs ([] : List Gate).length = [] from rfl] at h1
  rw [h1]
  dsimp only
  have h2 : (idxs out.length).getD ((idxs out.length).length - 1) 0 = ((out.length - 1 : Nat) : Int) := by
    rw [show (idxs out.length).length = out.length from by simp [idxs], idxs_get (by omega)]
  rw [h2]
  unfold neededG
  rw [Int.toNat_natCast, show out.length - 1 + 1 = out.length from by omega, List.take_length]
  exact place_id h.wf h.used out [] _ rfl (by simp) (fun k hk => by simp at hk)
end Go.Proofs.YtbemhgojfehnjaaDoor
namespace Go.Proofs.YtbemhgojfehnjaaDoor
open Go Go.RowKit
theorem constant_ {W : World} {V : Value} {N : Int} {gs : List Gate} {i : Int} (hV : GatesV W W.heap.size V gs) (hi : inR gs i) : Calls Tryd.prog 48 #[.agg #[.int .i64 N, V], .int .i64 i] W fun e w' => e = .returned (.bool (decide (kindAt gs i ≤ 1))) ∧ Below W.heap.size W w' := by
  obtain ⟨A, c, rfl, hAc, hcm, _⟩ := id hV
  obtain ⟨k, rfl, hk, h1, _⟩ := gateAt_get hi
  have hkd : kindAt gs (k : Int) = gs[k].kind := by unfold kindAt; rw [h1]
  rw [hkd]
  obtain ⟨bG, oG, AI, cI, hbA, hbB, k0, k1, k2, hIV, hIc, hIm⟩ := hV.at_ (Below.refl _ _) hk
  have O0 : Own Z0 W W [] := Own.start W
  refine sx_enter (args := [.agg #[.int .i64 N, .slice A gs.length c], .int .i64 (k : Int)]) Tryd.func48 rfl rfl (by simp) ?_
  refine cw_seq (fun FK1 K1 => ?_)
  refine cw_region ?_
  obtain ⟨g2, w3, r4, O5, hg6, hs7⟩ := own_box O0 24 (.agg #[.int .i64 N, .slice A gs.length c]) rfl
  refine wl_val (v := .pointer (some ⟨g2, 0, none⟩)) (fun ρ e => r4 ρ _ _ _ _ _ _ (e _ _ rfl)) rfl rfl ?_
  refine wl_val (v := .bool false) (fun ρ e => ex_assign (e _ _ rfl)) rfl rfl ?_
  refine wl_nil ?_
  refine xw_next K1 ?_
  refine cw_seq (fun FK8 K8 => ?_)
  refine cw_region ?_
  refine wl_val (v := .pointer (some ⟨g2, 1, none⟩)) (fun ρ e => ex_field (q := 1) fi24_1 (e _ _ rfl) rfl) rfl rfl ?_
  refine wl_val (v := .slice A gs.length c) (fun ρ e => ex_load1 ty22 (e _ _ rfl) (O5.cell 0 1 rfl rfl)) rfl rfl ?_
  refine wl_val (v := .int .i64 (k : Int)) (fun ρ e => ex_move (e _ _ rfl)) rfl rfl ?_
  refine wl_val (v := .pointer (some ⟨bG, oG + k * 3, none⟩)) (fun ρ e => ex_idx (q := oG + k * 3) (g := bG) (o := oG) (i := k) el22 ((e _ _ rfl).trans (congrArg (fun z => Value.slice z gs.length c) hbA)) (e _ _ rfl) hk (by omega)) rfl rfl ?_
  refine wl_val (v := .pointer (some ⟨bG, oG + k * 3, none⟩)) (fun ρ e => ex_field (q := oG + k * 3) fi38_0 (e _ _ rfl) rfl) rfl rfl ?_
  refine wl_val (v := .int .i64 (gs[k].kind)) (fun ρ e => ex_load1 ty3 (e _ _ rfl) ((O5.old.cell (p := ⟨bG, oG + k * 3, none⟩) hbB).trans k0)) rfl rfl ?_
  refine wl_val (v := .bool (decide (gs[k].kind ≤ 1))) (fun ρ e => ex_cmp (u := gs[k].kind) (v := 1) (r := (decide (gs[k].kind ≤ 1))) (e _ _ rfl) (e _ _ rfl) rfl) rfl rfl ?_
  refine wl_val (v := .bool (decide (gs[k].kind ≤ 1))) (fun ρ e => ex_assign (e _ _ rfl)) rfl rfl ?_
  refine wl_nil ?_
  refine xw_next K8 ?_
  refine cw_ret ?_
  refine xw_ret (v := .bool (decide (gs[k].kind ≤ 1))) (fun T hT => res1 rfl T _ (hT 4 _ rfl)) ?_
  exact ⟨rfl, O5.old⟩
theorem kind_nat {gs : List Gate} {x : Nat} (h : x < gs.length) : kindAt gs (x : Int) = gs[x].kind := by
  unfold kindAt gateAt
  rw [Int.toNat_natCast, List.getD_eq_getElem?_getD, List.getElem?_eq_getElem h]; rfl
theorem place_case {N M : Int} {B i0 : Nat} {gs : List Gate} {g : Gate} (hw : wfL N B gs) (hg : goodGate M (i0 : Int) g = true) (hnf : NfG gs g) {i : Nat} {x : Int} (hx : g.inp[i]? = some x) (hr : inR gs x) (hq : kindAt gs x ≤ 1) :
    (g.kind = 6 ∧ i + 1 = g.inp.length ∧ kindAt gs x = 1 ∧ 1 < i) ∨ (g.kind = 8 ∧ 0 < i) := by
  obtain ⟨p1, p2, p3⟩ := good_parts hg
  have hk := allowed_kind p1
  have hm := List.mem_of_getElem? hx
  have hil := (List.getElem?_eq_some_iff.1 hx).1
  have h0 : 0 ≤ kindAt gs x := by
    obtain ⟨k, rfl, hk, h1, h2⟩ := gateAt_get hr
    unfold kindAt
    rw [h1]
    exact (allowed_kind (good_parts (hw k _ h2).1).1).1
  have nl : ¬ livK gs x := fun h => by have := h.1; have := h.2; omega
  by_cases h3 : g.kind = 3
  · rw [h3] at p1
    have := allowed3 p1
    match hgi : g.inp, (show g.inp.length = 1 by omega) with
    | [a], _ =>
      rw [hgi] at hm
      have := hnf.k3 h3 a hgi
      rw [List.mem_singleton.1 hm] at hq
      omega
  · by_cases h4 : g.kind = 4 ∨ g.kind = 5
    · exact absurd ((hnf.k45 h4).2.2 x hm) nl
    · by_cases h6 : g.kind = 6
      · obtain ⟨l, t, e1, e2, e3, e4, e5⟩ := hnf.k6 h6
        rw [e1] at hx hil
        have hli : l.length ≤ i := by
          rcases Nat.lt_or_ge i l.length with h | h
          · rw [List.getElem?_append_left h] at hx
            exact absurd (e4 x (List.mem_of_getElem? hx)) nl
          · exact h
        rw [List.getElem?_append_right hli] at hx
        rcases e5 with rfl | ⟨y, rfl, hy⟩
        · simp at hx
        · rw [List.length_append, List.length_singleton] at hil
          have : i = l.length := by omega
          subst this
          rw [Nat.sub_self] at hx
          injection hx with hx
          subst hx
          exact .inl ⟨h6, by rw [e1]; simp, hy, by omega⟩
      · by_cases h7 : g.kind = 7
        · rw [h7] at p1
          have := allowed7 p1
          match hgi : g.inp, (show g.inp.length = 2 by omega) with
          | [a, b], _ =>
            obtain ⟨_, q1, q2⟩ := hnf.k7 h7 a b hgi
            rw [hgi] at hm
            rcases List.mem_cons.1 hm with e | e
            · subst e; exact absurd q1 nl
            · rw [List.mem_singleton.1 e] at nl; exact absurd q2 nl
        · by_cases h8 : g.kind = 8
          · rw [h8] at p1
            have := allowed8 p1
            refine .inr ⟨h8, ?_⟩
            match hgi : g.inp, (show g.inp.length = 3 by omega) with
            | [a, b, d], _ =>
              obtain ⟨q1, _⟩ := hnf.k8 h8 a b d hgi
              rw [hgi] at hx
              rcases Nat.eq_zero_or_pos i with e | e
              · subst e
                injection hx with hx
                subst hx
                exact absurd q1 nl
              · exact e
          · unfold allowedB at p1
            rw [if_pos (by omega)] at p1
            have : g.inp.length = 0 := by simpa using p1
            omega
theorem place_ {W : World} {V VI : Value} {N M : Int} {B i0 : Nat} {gs : List Gate} {g : Gate} (hV : GatesV W W.heap.size V gs) (hI : IntsV W W.heap.size VI g.inp) (hw : wfL M B gs) (hg : goodGate M (i0 : Int) g = true) (hnf : NfG gs g) (hin : ∀ x ∈ g.inp, inR gs x) : Calls Tryd.prog 24 #[.agg #[.int .i64 N, V], .agg #[.int .i64 g.kind, .int .i64 g.lit, VI]] W fun e w' => e = .returned (.bool true) ∧ Below W.heap.size W w' := by
  obtain ⟨A, c, rfl, hAc, hcm, _⟩ := id hV
  obtain ⟨AI, cI, rfl, hIc, hIm, _⟩ := id hI
  have hmx : maxLen = 9223372036854775807 := rfl
  have O0 : Own Z0 W W [] := Own.start W
  refine sx_enter (args := [.agg #[.int .i64 N, .slice A gs.length c], .agg #[.int .i64 g.kind, .int .i64 g.lit, .slice AI g.inp.length cI]]) Tryd.func24 rfl rfl (by simp) ?_
  refine cw_seq (fun FK1 K1 => ?_)
  refine cw_region ?_
  obtain ⟨g2, w3, r4, O5, hg6, hs7⟩ := own_box O0 24 (.agg #[.int .i64 N, .slice A gs.length c]) rfl
  refine wl_val (v := .pointer (some ⟨g2, 0, none⟩)) (fun ρ e => r4 ρ _ _ _ _ _ _ (e _ _ rfl)) rfl rfl ?_
  obtain ⟨g8, w9, r10, O11, hg12, hs13⟩ := own_box O5 38 (.agg #[.int .i64 g.kind, .int .i64 g.lit, .slice AI g.inp.length cI]) rfl
  refine wl_val (v := .pointer (some ⟨g8, 0, none⟩)) (fun ρ e => r10 ρ _ _ _ _ _ _ (e _ _ rfl)) rfl rfl ?_
  refine wl_val (v := .bool false) (fun ρ e => ex_assign (e _ _ rfl)) rfl rfl ?_
  refine wl_nil ?_
  refine xw_next K1 ?_
  refine cw_seq (fun FK14 K14 => ?_)
  refine cw_seq (fun FK15 K15 => ?_)
  refine cw_region ?_
  refine wl_val (v := .pointer (some ⟨g8, 2, none⟩)) (fun ρ e => ex_field (q := 2) fi38_2 (e _ _ rfl) rfl) rfl rfl ?_
  refine wl_val (v := .slice AI g.inp.length cI) (fun ρ e => ex_load1 ty36 (e _ _ rfl) (O11.cell 0 2 rfl rfl)) rfl rfl ?_
  refine wl_val (v := .int .i64 ((g.inp.length : Nat) : Int)) (fun ρ e => ex_len el36 (e _ _ rfl)) rfl rfl ?_
  refine wl_val (v := .int .i64 0) (fun ρ e => ex_move (e _ _ rfl)) rfl rfl ?_
  refine wl_nil ?_
  refine xw_next K15 ?_
  refine cw_block ?_
  refine cw_loop (ι := Nat) (fun q => [(2, .pointer (some ⟨g2, 0, none⟩)), (3, .pointer (some ⟨g8, 0, none⟩)), (9, .slice AI g.inp.length cI), (10, .int .i64 ((g.inp.length : Nat) : Int)), (11, .int .i64 (q : Int))]) (fun q X => (q ≤ g.inp.length) ∧ Own Z0 W X [.blk g8 38 #[.int .i64 g.kind, .int .i64 g.lit, .slice AI g.inp.length cI], .blk g2 24 #[.int .i64 N, .slice A gs.length c]]) (fun q => g.inp.length - q) 0 ⟨(Nat.zero_le _), O11⟩ ⟨rfl, rfl, rfl, rfl, rfl, trivial⟩ (fun q w16 hJ F17 K18 => ?_)
  obtain ⟨i, rfl⟩ : ∃ x, x = q := ⟨_, rfl⟩
  obtain ⟨hi0, O19⟩ := hJ
  try dsimp only at hi0 O19 ⊢
  by_cases hk : i < g.inp.length
  · obtain ⟨bI, oI, hAI, hbI, kI⟩ := hI.at_ (Below.refl _ _) hk
    have hxr := hin g.inp[i] (List.getElem_mem hk)
    obtain ⟨x, hx⟩ : ∃ x : Nat, g.inp[i] = (x : Int) := ⟨g.inp[i].toNat, by have := hxr.1; omega⟩
    rw [hx] at hxr
    have hxl : x < gs.length := by have := hxr.2; omega
    by_cases hq : kindAt gs (x : Int) ≤ 1
    · skip
      obtain ⟨bG, oG, AI', cI', hbA, hbB, k0, k1, k2, _, _, _⟩ := hV.at_ (Below.refl _ _) hxl
      have hkx : kindAt gs (x : Int) = gs[x].kind := kind_nat hxl
      rcases place_case hw hg hnf (i := i) (x := (x : Int)) (by rw [List.getElem?_eq_getElem hk, hx]) hxr hq with ⟨h6, hl6, hk6, hp6⟩ | ⟨h8, hp8⟩
      · skip
        refine cw_seq (fun FK20 K20 => ?_)
        refine cw_region ?_
        refine wl_val (v := .bool true) (fun ρ e => ex_cmp (u := (i : Int)) (v := ((g.inp.length : Nat) : Int)) (e _ _ rfl) (e _ _ rfl) (lss1 (by omega))) rfl rfl ?_
        refine wl_nil ?_
        refine xw_next K20 ?_
        refine cw_seq (fun FK21 K21 => ?_)
        refine cw_true rfl ?_
        refine cw_skip ?_
        refine xw_next K21 ?_
        refine cw_seq (fun FK22 K22 => ?_)
        refine cw_block ?_
        refine cw_seq (fun FK23 K23 => ?_)
        refine cw_region ?_
        refine wl_val (v := .int .i64 (i : Int)) (fun ρ e => ex_move (e _ _ rfl)) rfl rfl ?_
        refine wl_val (v := .pointer (some ⟨bI, oI + i, none⟩)) (fun ρ e => ex_idx (q := oI + i) (g := bI) (o := oI) (i := i) el36 ((e _ _ rfl).trans (congrArg (fun z => Value.slice z g.inp.length cI) hAI)) (e _ _ rfl) hk (by omega)) rfl rfl ?_
        refine wl_val (v := .int .i64 (x : Int)) (fun ρ e => ex_load1 ty3 (e _ _ rfl) (((O19.old.cell (p := ⟨bI, oI + i, none⟩) hbI).trans kI).trans (congrArg (fun z => some (Value.int .i64 z)) hx))) rfl rfl ?_
        refine wl_val (v := .int .i64 (i : Int)) (fun ρ e => ex_assign (e _ _ rfl)) rfl rfl ?_
        refine wl_val (v := .int .i64 (x : Int)) (fun ρ e => ex_assign (e _ _ rfl)) rfl rfl ?_
        refine wl_nil ?_
        refine xw_next K23 ?_
        refine cw_seq (fun FK24 K24 => ?_)
        refine cw_seq (fun FK25 K25 => ?_)
        refine cw_region ?_
        refine wl_val (v := .agg #[.int .i64 N, .slice A gs.length c]) (fun ρ e => ex_loadN (vs := [.int .i64 N, .slice A gs.length c]) ty24 (e _ _ rfl) rfl (O19.cells 1 0 rfl rfl)) rfl rfl ?_
        refine wl_val (v := .int .i64 (x : Int)) (fun ρ e => ex_move (e _ _ rfl)) rfl rfl ?_
        refine wl_call (args := [.agg #[.int .i64 N, .slice A gs.length c], .int .i64 (x : Int)]) in_48 rfl rfl rfl ?_
        have h29 := constant_ (N := N) ((hV.below O19.old).more O19.old.size) hxr
        rw [decide_eq_true hq] at h29
        refine h29.mono ?_
        rintro _ w26 ⟨rfl, hb27⟩
        have O28 : Own Z0 W w26 [.blk g8 38 #[.int .i64 g.kind, .int .i64 g.lit, .slice AI g.inp.length cI], .blk g2 24 #[.int .i64 N, .slice A gs.length c]] := O19.below hb27
        refine ⟨_, rfl, ?_⟩
        refine wl_val (v := .bool false) (fun ρ e => ex_lnot (b := true) (e _ _ rfl)) rfl rfl ?_
        refine wl_nil ?_
        refine xw_next K25 ?_
        refine cw_false rfl ?_
        refine cw_skip ?_
        refine xw_next K24 ?_
        refine cw_seq (fun FK30 K30 => ?_)
        refine cw_region ?_
        refine wl_val (v := .pointer (some ⟨g8, 0, none⟩)) (fun ρ e => ex_field (q := 0) fi38_0 (e _ _ rfl) rfl) rfl rfl ?_
        refine wl_val (v := .int .i64 g.kind) (fun ρ e => ex_load1 ty3 (e _ _ rfl) (O28.cell 0 0 rfl rfl)) rfl rfl ?_
        refine wl_val (v := .bool true) (fun ρ e => ex_cmp (u := g.kind) (v := 6) (e _ _ rfl) (e _ _ rfl) (eql1 (by omega))) rfl rfl ?_
        refine wl_val (v := .bool true) (fun ρ e => ex_move (e _ _ rfl)) rfl rfl ?_
        refine wl_val (v := .int .i64 (i : Int)) (fun ρ e => ex_move (e _ _ rfl)) rfl rfl ?_
        refine wl_val (v := .pointer (some ⟨g8, 2, none⟩)) (fun ρ e => ex_field (q := 2) fi38_2 (e _ _ rfl) rfl) rfl rfl ?_
        refine wl_val (v := .slice AI g.inp.length cI) (fun ρ e => ex_load1 ty36 (e _ _ rfl) (O28.cell 0 2 rfl rfl)) rfl rfl ?_
        refine wl_val (v := .int .i64 ((g.inp.length : Nat) : Int)) (fun ρ e => ex_len el36 (e _ _ rfl)) rfl rfl ?_
        refine wl_val (v := .int .i64 (((g.inp.length : Nat) : Int) - 1)) (fun ρ e => ex_arith (k := .i64) (u := ((g.inp.length : Nat) : Int)) (v := 1) (e _ _ rfl) (e _ _ rfl) (congrArg some (wrap_in (by omega) (by omega)))) rfl rfl ?_
        refine wl_val (v := .bool true) (fun ρ e => ex_cmp (u := (i : Int)) (v := (((g.inp.length : Nat) : Int) - 1)) (e _ _ rfl) (e _ _ rfl) (eql1 (by omega))) rfl rfl ?_
        refine wl_val (v := .bool true) (fun ρ e => ex_pick1 (e _ _ rfl) (e _ _ rfl)) rfl rfl ?_
        refine wl_val (v := .bool true) (fun ρ e => ex_move (e _ _ rfl)) rfl rfl ?_
        refine wl_val (v := .pointer (some ⟨g2, 1, none⟩)) (fun ρ e => ex_field (q := 1) fi24_1 (e _ _ rfl) rfl) rfl rfl ?_
        refine wl_val (v := .slice A gs.length c) (fun ρ e => ex_load1 ty22 (e _ _ rfl) (O28.cell 1 1 rfl rfl)) rfl rfl ?_
        refine wl_val (v := .int .i64 (x : Int)) (fun ρ e => ex_move (e _ _ rfl)) rfl rfl ?_
        refine wl_val (v := .pointer (some ⟨bG, oG + x * 3, none⟩)) (fun ρ e => ex_idx (q := oG + x * 3) (g := bG) (o := oG) (i := x) el22 ((e _ _ rfl).trans (congrArg (fun z => Value.slice z gs.length c) hbA)) (e _ _ rfl) hxl (by omega)) rfl rfl ?_
        refine wl_val (v := .pointer (some ⟨bG, oG + x * 3, none⟩)) (fun ρ e => ex_field (q := oG + x * 3) fi38_0 (e _ _ rfl) rfl) rfl rfl ?_
        refine wl_val (v := .int .i64 (gs[x].kind)) (fun ρ e => ex_load1 ty3 (e _ _ rfl) ((O28.old.cell (p := ⟨bG, oG + x * 3, none⟩) hbB).trans k0)) rfl rfl ?_
        refine wl_val (v := .bool true) (fun ρ e => ex_cmp (u := gs[x].kind) (v := 1) (e _ _ rfl) (e _ _ rfl) (eql1 (by omega))) rfl rfl ?_
        refine wl_val (v := .bool true) (fun ρ e => ex_pick1 (e _ _ rfl) (e _ _ rfl)) rfl rfl ?_
        refine wl_val (v := .bool true) (fun ρ e => ex_move (e _ _ rfl)) rfl rfl ?_
        refine wl_val (v := .int .i64 (i : Int)) (fun ρ e => ex_move (e _ _ rfl)) rfl rfl ?_
        refine wl_val (v := .bool true) (fun ρ e => ex_cmp (u := (i : Int)) (v := 1) (e _ _ rfl) (e _ _ rfl) (gtr1 (by omega))) rfl rfl ?_
        refine wl_val (v := .bool true) (fun ρ e => ex_pick1 (e _ _ rfl) (e _ _ rfl)) rfl rfl ?_
        refine wl_val (v := .bool true) (fun ρ e => ex_assign (e _ _ rfl)) rfl rfl ?_
        refine wl_nil ?_
        refine xw_next K30 ?_
        refine cw_seq (fun FK31 K31 => ?_)
        refine cw_region ?_
        refine wl_val (v := .bool true) (fun ρ e => ex_move (e _ _ rfl)) rfl rfl ?_
        refine wl_val (v := .bool false) (fun ρ e => ex_lnot (b := true) (e _ _ rfl)) rfl rfl ?_
        refine wl_val (v := .bool false) (fun ρ e => ex_move (e _ _ rfl)) rfl rfl ?_
        refine wl_skip rfl rfl ?_
        refine wl_skip rfl rfl ?_
        refine wl_skip rfl rfl ?_
        refine wl_skip rfl rfl ?_
        refine wl_skip rfl rfl ?_
        refine wl_skip rfl rfl ?_
        refine wl_skip rfl rfl ?_
        refine wl_val (v := .bool false) (fun ρ e => ex_pick0 (e _ _ rfl) (e _ _ rfl)) rfl rfl ?_
        refine wl_nil ?_
        refine xw_next K31 ?_
        refine cw_false rfl ?_
        refine cw_skip ?_
        refine xw_block ?_
        refine xw_next K22 ?_
        refine cw_region ?_
        refine wl_val (v := .int .i64 ((i + 1 : Nat) : Int)) (fun ρ e => ex_arith (k := .i64) (u := (i : Int)) (v := 1) (e _ _ rfl) (e _ _ rfl) (congrArg some ((congrArg _ (by omega)).trans (wrap_in (u := ((i + 1 : Nat) : Int)) (by omega) (by omega))))) rfl rfl ?_
        refine wl_val (v := .int .i64 ((i + 1 : Nat) : Int)) (fun ρ e => ex_move (e _ _ rfl)) rfl rfl ?_
        refine wl_nil ?_
        refine xw_round K18 (i + 1) (by show g.inp.length - (i + 1) < g.inp.length - i; omega) ⟨(by show i + 1 ≤ _; omega), O28⟩ ⟨rfl, rfl, rfl, rfl, rfl, trivial⟩
      · skip
        refine cw_seq (fun FK32 K32 => ?_)
        refine cw_region ?_
        refine wl_val (v := .bool true) (fun ρ e => ex_cmp (u := (i : Int)) (v := ((g.inp.length : Nat) : Int)) (e _ _ rfl) (e _ _ rfl) (lss1 (by omega))) rfl rfl ?_
        refine wl_nil ?_
        refine xw_next K32 ?_
        refine cw_seq (fun FK33 K33 => ?_)
        refine cw_true rfl ?_
        refine cw_skip ?_
        refine xw_next K33 ?_
        refine cw_seq (fun FK34 K34 => ?_)
        refine cw_block ?_
        refine cw_seq (fun FK35 K35 => ?_)
        refine cw_region ?_
        refine wl_val (v := .int .i64 (i : Int)) (fun ρ e => ex_move (e _ _ rfl)) rfl rfl ?_
        refine wl_val (v := .pointer (some ⟨bI, oI + i, none⟩)) (fun ρ e => ex_idx (q := oI + i) (g := bI) (o := oI) (i := i) el36 ((e _ _ rfl).trans (congrArg (fun z => Value.slice z g.inp.length cI) hAI)) (e _ _ rfl) hk (by omega)) rfl rfl ?_
        refine wl_val (v := .int .i64 (x : Int)) (fun ρ e => ex_load1 ty3 (e _ _ rfl) (((O19.old.cell (p := ⟨bI, oI + i, none⟩) hbI).trans kI).trans (congrArg (fun z => some (Value.int .i64 z)) hx))) rfl rfl ?_
        refine wl_val (v := .int .i64 (i : Int)) (fun ρ e => ex_assign (e _ _ rfl)) rfl rfl ?_
        refine wl_val (v := .int .i64 (x : Int)) (fun ρ e => ex_assign (e _ _ rfl)) rfl rfl ?_
        refine wl_nil ?_
        refine xw_next K35 ?_
        refine cw_seq (fun FK36 K36 => ?_)
        refine cw_seq (fun FK37 K37 => ?_)
        refine cw_region ?_
        refine wl_val (v := .agg #[.int .i64 N, .slice A gs.length c]) (fun ρ e => ex_loadN (vs := [.int .i64 N, .slice A gs.length c]) ty24 (e _ _ rfl) rfl (O19.cells 1 0 rfl rfl)) rfl rfl ?_
        refine wl_val (v := .int .i64 (x : Int)) (fun ρ e => ex_move (e _ _ rfl)) rfl rfl ?_
        refine wl_call (args := [.agg #[.int .i64 N, .slice A gs.length c], .int .i64 (x : Int)]) in_48 rfl rfl rfl ?_
        have h41 := constant_ (N := N) ((hV.below O19.old).more O19.old.size) hxr
        rw [decide_eq_true hq] at h41
        refine h41.mono ?_
        rintro _ w38 ⟨rfl, hb39⟩
        have O40 : Own Z0 W w38 [.blk g8 38 #[.int .i64 g.kind, .int .i64 g.lit, .slice AI g.inp.length cI], .blk g2 24 #[.int .i64 N, .slice A gs.length c]] := O19.below hb39
        refine ⟨_, rfl, ?_⟩
        refine wl_val (v := .bool false) (fun ρ e => ex_lnot (b := true) (e _ _ rfl)) rfl rfl ?_
        refine wl_nil ?_
        refine xw_next K37 ?_
        refine cw_false rfl ?_
        refine cw_skip ?_
        refine xw_next K36 ?_
        refine cw_seq (fun FK42 K42 => ?_)
        refine cw_region ?_
        refine wl_val (v := .pointer (some ⟨g8, 0, none⟩)) (fun ρ e => ex_field (q := 0) fi38_0 (e _ _ rfl) rfl) rfl rfl ?_
        refine wl_val (v := .int .i64 g.kind) (fun ρ e => ex_load1 ty3 (e _ _ rfl) (O40.cell 0 0 rfl rfl)) rfl rfl ?_
        refine wl_val (v := .bool false) (fun ρ e => ex_cmp (u := g.kind) (v := 6) (e _ _ rfl) (e _ _ rfl) (eql0 (by omega))) rfl rfl ?_
        refine wl_val (v := .bool false) (fun ρ e => ex_move (e _ _ rfl)) rfl rfl ?_
        refine wl_skip rfl rfl ?_
        refine wl_skip rfl rfl ?_
        refine wl_skip rfl rfl ?_
        refine wl_skip rfl rfl ?_
        refine wl_skip rfl rfl ?_
        refine wl_skip rfl rfl ?_
        refine wl_val (v := .bool false) (fun ρ e => ex_pick0 (e _ _ rfl) (e _ _ rfl)) rfl rfl ?_
        refine wl_val (v := .bool false) (fun ρ e => ex_move (e _ _ rfl)) rfl rfl ?_
        refine wl_skip rfl rfl ?_
        refine wl_skip rfl rfl ?_
        refine wl_skip rfl rfl ?_
        refine wl_skip rfl rfl ?_
        refine wl_skip rfl rfl ?_
        refine wl_skip rfl rfl ?_
        refine wl_skip rfl rfl ?_
        refine wl_val (v := .bool false) (fun ρ e => ex_pick0 (e _ _ rfl) (e _ _ rfl)) rfl rfl ?_
        refine wl_val (v := .bool false) (fun ρ e => ex_move (e _ _ rfl)) rfl rfl ?_
        refine wl_skip rfl rfl ?_
        refine wl_skip rfl rfl ?_
        refine wl_val (v := .bool false) (fun ρ e => ex_pick0 (e _ _ rfl) (e _ _ rfl)) rfl rfl ?_
        refine wl_val (v := .bool false) (fun ρ e => ex_assign (e _ _ rfl)) rfl rfl ?_
        refine wl_nil ?_
        refine xw_next K42 ?_
        refine cw_seq (fun FK43 K43 => ?_)
        refine cw_region ?_
        refine wl_val (v := .bool false) (fun ρ e => ex_move (e _ _ rfl)) rfl rfl ?_
        refine wl_val (v := .bool true) (fun ρ e => ex_lnot (b := false) (e _ _ rfl)) rfl rfl ?_
        refine wl_val (v := .bool true) (fun ρ e => ex_move (e _ _ rfl)) rfl rfl ?_
        refine wl_val (v := .pointer (some ⟨g8, 0, none⟩)) (fun ρ e => ex_field (q := 0) fi38_0 (e _ _ rfl) rfl) rfl rfl ?_
        refine wl_val (v := .int .i64 g.kind) (fun ρ e => ex_load1 ty3 (e _ _ rfl) (O40.cell 0 0 rfl rfl)) rfl rfl ?_
        refine wl_val (v := .bool false) (fun ρ e => ex_cmp (u := g.kind) (v := 8) (e _ _ rfl) (e _ _ rfl) (neq0 (by omega))) rfl rfl ?_
        refine wl_val (v := .bool false) (fun ρ e => ex_move (e _ _ rfl)) rfl rfl ?_
        refine wl_val (v := .int .i64 (i : Int)) (fun ρ e => ex_move (e _ _ rfl)) rfl rfl ?_
        refine wl_val (v := .bool false) (fun ρ e => ex_cmp (u := (i : Int)) (v := 0) (e _ _ rfl) (e _ _ rfl) (eql0 (by omega))) rfl rfl ?_
        refine wl_val (v := .bool false) (fun ρ e => ex_pick0 (e _ _ rfl) (e _ _ rfl)) rfl rfl ?_
        refine wl_val (v := .bool false) (fun ρ e => ex_pick1 (e _ _ rfl) (e _ _ rfl)) rfl rfl ?_
        refine wl_nil ?_
        refine xw_next K43 ?_
        refine cw_false rfl ?_
        refine cw_skip ?_
        refine xw_block ?_
        refine xw_next K34 ?_
        refine cw_region ?_
        refine wl_val (v := .int .i64 ((i + 1 : Nat) : Int)) (fun ρ e => ex_arith (k := .i64) (u := (i : Int)) (v := 1) (e _ _ rfl) (e _ _ rfl) (congrArg some ((congrArg _ (by omega)).trans (wrap_in (u := ((i + 1 : Nat) : Int)) (by omega) (by omega))))) rfl rfl ?_
        refine wl_val (v := .int .i64 ((i + 1 : Nat) : Int)) (fun ρ e => ex_move (e _ _ rfl)) rfl rfl ?_
        refine wl_nil ?_
        refine xw_round K18 (i + 1) (by show g.inp.length - (i + 1) < g.inp.length - i; omega) ⟨(by show i + 1 ≤ _; omega), O40⟩ ⟨rfl, rfl, rfl, rfl, rfl, trivial⟩
    · skip
      refine cw_seq (fun FK44 K44 => ?_)
      refine cw_region ?_
      refine wl_val (v := .bool true) (fun ρ e => ex_cmp (u := (i : Int)) (v := ((g.inp.length : Nat) : Int)) (e _ _ rfl) (e _ _ rfl) (lss1 (by omega))) rfl rfl ?_
      refine wl_nil ?_
      refine xw_next K44 ?_
      refine cw_seq (fun FK45 K45 => ?_)
      refine cw_true rfl ?_
      refine cw_skip ?_
      refine xw_next K45 ?_
      refine cw_seq (fun FK46 K46 => ?_)
      refine cw_block ?_
      refine cw_seq (fun FK47 K47 => ?_)
      refine cw_region ?_
      refine wl_val (v := .int .i64 (i : Int)) (fun ρ e => ex_move (e _ _ rfl)) rfl rfl ?_
      refine wl_val (v := .pointer (some ⟨bI, oI + i, none⟩)) (fun ρ e => ex_idx (q := oI + i) (g := bI) (o := oI) (i := i) el36 ((e _ _ rfl).trans (congrArg (fun z => Value.slice z g.inp.length cI) hAI)) (e _ _ rfl) hk (by omega)) rfl rfl ?_
      refine wl_val (v := .int .i64 (x : Int)) (fun ρ e => ex_load1 ty3 (e _ _ rfl) (((O19.old.cell (p := ⟨bI, oI + i, none⟩) hbI).trans kI).trans (congrArg (fun z => some (Value.int .i64 z)) hx))) rfl rfl ?_
      refine wl_val (v := .int .i64 (i : Int)) (fun ρ e => ex_assign (e _ _ rfl)) rfl rfl ?_
      refine wl_val (v := .int .i64 (x : Int)) (fun ρ e => ex_assign (e _ _ rfl)) rfl rfl ?_
      refine wl_nil ?_
      refine xw_next K47 ?_
      refine cw_seq (fun FK48 K48 => ?_)
      refine cw_seq (fun FK49 K49 => ?_)
      refine cw_region ?_
      refine wl_val (v := .agg #[.int .i64 N, .slice A gs.length c]) (fun ρ e => ex_loadN (vs := [.int .i64 N, .slice A gs.length c]) ty24 (e _ _ rfl) rfl (O19.cells 1 0 rfl rfl)) rfl rfl ?_
      refine wl_val (v := .int .i64 (x : Int)) (fun ρ e => ex_move (e _ _ rfl)) rfl rfl ?_
      refine wl_call (args := [.agg #[.int .i64 N, .slice A gs.length c], .int .i64 (x : Int)]) in_48 rfl rfl rfl ?_
      have h53 := constant_ (N := N) ((hV.below O19.old).more O19.old.size) hxr
      rw [decide_eq_false hq] at h53
      refine h53.mono ?_
      rintro _ w50 ⟨rfl, hb51⟩
      have O52 : Own Z0 W w50 [.blk g8 38 #[.int .i64 g.kind, .int .i64 g.lit, .slice AI g.inp.length cI], .blk g2 24 #[.int .i64 N, .slice A gs.length c]] := O19.below hb51
      refine ⟨_, rfl, ?_⟩
      refine wl_val (v := .bool true) (fun ρ e => ex_lnot (b := false) (e _ _ rfl)) rfl rfl ?_
      refine wl_nil ?_
      refine xw_next K49 ?_
      refine cw_true rfl ?_
      refine cw_exit ?_
      refine xw_past (by intro h; cases h) ?_
      refine xw_here ?_
      refine xw_next K46 ?_
      refine cw_region ?_
      refine wl_val (v := .int .i64 ((i + 1 : Nat) : Int)) (fun ρ e => ex_arith (k := .i64) (u := (i : Int)) (v := 1) (e _ _ rfl) (e _ _ rfl) (congrArg some ((congrArg _ (by omega)).trans (wrap_in (u := ((i + 1 : Nat) : Int)) (by omega) (by omega))))) rfl rfl ?_
      refine wl_val (v := .int .i64 ((i + 1 : Nat) : Int)) (fun ρ e => ex_move (e _ _ rfl)) rfl rfl ?_
      refine wl_nil ?_
      refine xw_round K18 (i + 1) (by show g.inp.length - (i + 1) < g.inp.length - i; omega) ⟨(by show i + 1 ≤ _; omega), O52⟩ ⟨rfl, rfl, rfl, rfl, rfl, trivial⟩
  · skip
    refine cw_seq (fun FK54 K54 => ?_)
    refine cw_region ?_
    refine wl_val (v := .bool false) (fun ρ e => ex_cmp (u := (i : Int)) (v := ((g.inp.length : Nat) : Int)) (e _ _ rfl) (e _ _ rfl) (lss0 (by omega))) rfl rfl ?_
    refine wl_nil ?_
    refine xw_next K54 ?_
    refine cw_seq (fun FK55 K55 => ?_)
    refine cw_false rfl ?_
    refine cw_exit ?_
    refine xw_past (by intro h; cases h) ?_
    refine xw_past (by intro h; cases h) ?_
    refine xw_here ?_
    refine xw_next K14 ?_
    refine cw_seq (fun FK56 K56 => ?_)
    refine cw_region ?_
    refine wl_val (v := .bool true) (fun ρ e => ex_assign (e _ _ rfl)) rfl rfl ?_
    refine wl_nil ?_
    refine xw_next K56 ?_
    refine cw_ret ?_
    refine xw_ret (v := .bool true) (fun T hT => res1 rfl T _ (hT 4 _ rfl)) ?_
    exact ⟨rfl, O19.old⟩
end Go.Proofs.YtbemhgojfehnjaaDoor
namespace Go.Proofs.YtbemhgojfehnjaaDoor
open Go Go.RowKit
/-- The marks when i gates have been looked at: the last gate, and the inputs of these. -/
def MK (out : List Gate) (m i : Nat) (u : List Bool) : Prop := u.getD m false = true ∧ ∀ k (h : k < out.length), k < i → ∀ x ∈ out[k].inp, u.getD x.toNat false = true
theorem mk_start {out : List Gate} {m n : Nat} (h : m < n) : MK out m 0 ((List.replicate n false).set m true) := ⟨by rw [getD_set]; simp [h], fun k _ hk => absurd hk (Nat.not_lt_zero k)⟩
theorem mk_next {out : List Gate} {m i k2 : Nat} {u u2 : List Bool} (hi : i < out.length) (h : MK out m i u) (h1 : ∀ p, u.getD p false = true → u2.getD p false = true) (h2 : ∀ k (h : k < out[i].inp.length), k < k2 → u2.getD (out[i].inp[k]).toNat false = true) (he : k2 = out[i].inp.length) : MK out m (i + 1) u2 := by
  refine ⟨h1 _ h.1, fun k hk hki x hx => ?_⟩
  by_cases e : k = i
  · subst e
    obtain ⟨q, hq, rfl⟩ := List.mem_iff_getElem.1 hx
    exact h2 q hq (by omega)
  · exact h1 _ (h.2 k hk (by omega) x hx)
theorem mark_next {l : List Int} {k2 x : Nat} {u2 : List Bool} {hk2 : k2 < l.length} (hx : l[k2] = (x : Int)) (hl : x < u2.length) (h : ∀ k (h : k < l.length), k < k2 → u2.getD (l[k]).toNat false = true) : ∀ k (h : k < l.length), k < k2 + 1 → (u2.set x true).getD (l[k]).toNat false = true := by
  intro k hk hki
  rw [getD_set]
  by_cases e : k = k2
  · subst e
    rw [hx, Int.toNat_natCast]
    simp [hl]
  · rw [h k hk (by omega)]; rfl
theorem mk_full {N : Int} {B : Nat} {out : List Gate} {m : Nat} {u : List Bool} (hn : Norm N B out) (hm : out.length = m + 1) (hl : u.length = out.length) (h : MK out m out.length u) : ∀ p, p < out.length → u[p]? = some true := by
  intro p hp
  have key : u.getD p false = true := by
    have hu := hn.used p hp
    have e : out.length - 1 = m := by omega
    rw [e] at hu
    unfold useOf at hu
    rcases use_src hn.wf (m + 1) _ (by simp) (by omega) p hu with h1 | ⟨i, hi, _, _, x, hx, e⟩
    · rw [getD_set] at h1
      simp only [Bool.or_eq_true, Bool.and_eq_true, decide_eq_true_eq] at h1
      rcases h1 with h1 | h1
      · rw [List.getD_eq_getElem?_getD, List.getElem?_replicate] at h1
        split at h1 <;> cases h1
      · rw [← h1.1]; exact h.1
    · rw [← e]; exact h.2 i hi hi x hx
  rw [List.getD_eq_getElem?_getD, List.getElem?_eq_getElem (by omega)] at key
  rw [List.getElem?_eq_getElem (by omega)]
  exact congrArg some key
theorem ins_at {D : Nat → Prop} {L : List Gate} {vs : List Value} {w : World} {i : Nat} {A : Option Addr} {c : Nat} (hI : OwnIns D L vs w) (hD : ∀ k, D k → k < w.heap.size) (hi : i < L.length) (hv : i < vs.length) (e : vs[i] = .slice A L[i].inp.length c) : IntsD (fun k => k < w.heap.size) w (.slice A L[i].inp.length c) L[i].inp := by
  rw [← e]
  exact (hI.ins.2 i _ _ (List.getElem?_eq_getElem hi) (List.getElem?_eq_getElem hv)).mono hD
theorem nd_ne {L : List Gate} (h : ND L) {i j : Nat} (hi : i < L.length) (hj : j < L.length) (hne : i ≠ j) (e : [L[i]] = [L[j]]) : False := by
  injection e with e _
  exact hne (h i j L[i] (List.getElem?_eq_getElem hi) (by rw [e]; exact List.getElem?_eq_getElem hj))
theorem short_one {N : Int} {gs : List Gate} (hc : checkOf N gs = 0) {i : Nat} (hi : i < (foldOf gs).length) : shortG [(foldOf gs)[i]] := by
  intro g hg
  rw [List.mem_singleton.1 hg]
  exact foldOf_short hc _ (List.getElem_mem hi)
set_option maxHeartbeats 2000000 in
theorem circSimple_ok {W : World} {V : Value} {N : Int} {gs : List Gate} (hV : GatesV W W.heap.size V gs) (tab : Tab W) : Calls Tryd.prog 7 #[.agg #[.int .i64 N, V]] W fun e w' => e = .returned (.bool true) ∧ Below W.heap.size W w' := by
  obtain ⟨A, c, rfl, hAc, hcm, _⟩ := id hV
  have hmx : maxLen = 9223372036854775807 := rfl
  cases hl : lightOf N gs
  · skip
    have O0 : Own Z0 W W [] := Own.start W
    refine sx_enter (args := [.agg #[.int .i64 N, .slice A gs.length c]]) Tryd.func7 rfl rfl (by simp) ?_
    refine cw_seq (fun FK1 K1 => ?_)
    refine cw_region ?_
    obtain ⟨g2, w3, r4, O5, hg6, hs7⟩ := own_box O0 24 (.agg #[.int .i64 N, .slice A gs.length c]) rfl
    refine wl_val (v := .pointer (some ⟨g2, 0, none⟩)) (fun ρ e => r4 ρ _ _ _ _ _ _ (e _ _ rfl)) rfl rfl ?_
    refine wl_val (v := .bool false) (fun ρ e => ex_assign (e _ _ rfl)) rfl rfl ?_
    refine wl_nil ?_
    refine xw_next K1 ?_
    refine cw_seq (fun FK8 K8 => ?_)
    refine cw_seq (fun FK9 K9 => ?_)
    refine cw_region ?_
    refine wl_val (v := .agg #[.int .i64 N, .slice A gs.length c]) (fun ρ e => ex_loadN (vs := [.int .i64 N, .slice A gs.length c]) ty24 (e _ _ rfl) rfl (O5.cells 0 0 rfl rfl)) rfl rfl ?_
    refine wl_call (args := [.agg #[.int .i64 N, .slice A gs.length c]]) in_13 rfl rfl rfl ?_
    have h13 := light_ (N := N) (gs := gs) ((hV.below O5.old).more O5.old.size)
    rw [hl] at h13
    refine h13.mono ?_
    rintro _ w10 ⟨rfl, hb11⟩
    have O12 : Own Z0 W w10 [.blk g2 24 #[.int .i64 N, .slice A gs.length c]] := O5.below hb11
    refine ⟨_, rfl, ?_⟩
    refine wl_val (v := .bool true) (fun ρ e => ex_lnot (b := false) (e _ _ rfl)) rfl rfl ?_
    refine wl_nil ?_
    refine xw_next K9 ?_
    refine cw_true rfl ?_
    refine cw_seq (fun FK14 K14 => ?_)
    refine cw_region ?_
    refine wl_call (args := []) in_14 rfl rfl rfl ?_
    refine (works_ (tab.below (Nat.le_refl _) O12.old)).mono ?_
    rintro _ w15 ⟨rfl, hb16⟩
    have O17 : Own Z0 W w15 [.blk g2 24 #[.int .i64 N, .slice A gs.length c]] := O12.below hb16
    refine ⟨_, rfl, ?_⟩
    refine wl_val (v := .bool true) (fun ρ e => ex_assign (e _ _ rfl)) rfl rfl ?_
    refine wl_nil ?_
    refine xw_next K14 ?_
    refine cw_ret ?_
    refine xw_past (by intro h; cases h) ?_
    refine xw_ret (v := .bool true) (fun T hT => res1 rfl T _ (hT 2 _ rfl)) ?_
    exact ⟨rfl, O17.old⟩
  · skip
    have hlt := light_true hl
    have hsz := light_size (N := N) hlt.1 hlt.2
    have O0 : Own Z0 W W [] := Own.start W
    refine sx_enter (args := [.agg #[.int .i64 N, .slice A gs.length c]]) Tryd.func7 rfl rfl (by simp) ?_
    refine cw_seq (fun FK1 K1 => ?_)
    refine cw_region ?_
    obtain ⟨g2, w3, r4, O5, hg6, hs7⟩ := own_box O0 24 (.agg #[.int .i64 N, .slice A gs.length c]) rfl
    refine wl_val (v := .pointer (some ⟨g2, 0, none⟩)) (fun ρ e => r4 ρ _ _ _ _ _ _ (e _ _ rfl)) rfl rfl ?_
    refine wl_val (v := .bool false) (fun ρ e => ex_assign (e _ _ rfl)) rfl rfl ?_
    refine wl_nil ?_
    refine xw_next K1 ?_
    refine cw_seq (fun FK8 K8 => ?_)
    refine cw_seq (fun FK9 K9 => ?_)
    refine cw_region ?_
    refine wl_val (v := .agg #[.int .i64 N, .slice A gs.length c]) (fun ρ e => ex_loadN (vs := [.int .i64 N, .slice A gs.length c]) ty24 (e _ _ rfl) rfl (O5.cells 0 0 rfl rfl)) rfl rfl ?_
    refine wl_call (args := [.agg #[.int .i64 N, .slice A gs.length c]]) in_13 rfl rfl rfl ?_
    have h13 := light_ (N := N) (gs := gs) ((hV.below O5.old).more O5.old.size)
    rw [hl] at h13
    refine h13.mono ?_
    rintro _ w10 ⟨rfl, hb11⟩
    have O12 : Own Z0 W w10 [.blk g2 24 #[.int .i64 N, .slice A gs.length c]] := O5.below hb11
    refine ⟨_, rfl, ?_⟩
    refine wl_val (v := .bool false) (fun ρ e => ex_lnot (b := true) (e _ _ rfl)) rfl rfl ?_
    refine wl_nil ?_
    refine xw_next K9 ?_
    refine cw_false rfl ?_
    refine cw_skip ?_
    refine xw_next K8 ?_
    refine cw_seq (fun FK14 K14 => ?_)
    refine cw_region ?_
    refine wl_val (v := .agg #[.int .i64 N, .slice A gs.length c]) (fun ρ e => ex_loadN (vs := [.int .i64 N, .slice A gs.length c]) ty24 (e _ _ rfl) rfl (O12.cells 0 0 rfl rfl)) rfl rfl ?_
    have h15 := fold_ (N := N) ((hV.below O12.old).more O12.old.size) hsz (tab.below (Nat.le_refl _) O12.old)
    by_cases c16 : checkOf N gs = 0
    · skip
      have hc := c16
      obtain ⟨hc2, _, hle, hsl⟩ := fold_sem hc
      have hsz2 : sizeOf (foldOf gs) ≤ 4611686018427387904 := by omega
      have hnm := fold_norm hc
      have hag := fold_again hc
      have hpos := hnm.pos
      have hlen := foldOf_len hc
      obtain ⟨m, hm⟩ : ∃ m : Nat, (foldOf gs).length = m + 1 := ⟨(foldOf gs).length - 1, by omega⟩
      refine wl_call (args := [.agg #[.int .i64 N, .slice A gs.length c]]) in_18 rfl rfl rfl ?_
      refine h15.mono ?_
      intro _ w24 hq
      obtain ⟨_, A17, c18, D19, vo20, rfl, ho21, hd22⟩ := hq.resolve_left (fun z => z.1 hc)
      have O23 : Own Z0 W w24 [.row (.slice A17 ((foldOf gs).length) c18) 38 3 ((foldOf gs).length) (gcells (foldOf gs) vo20), .ro D19 (OwnIns D19 (foldOf gs) vo20), .blk g2 24 #[.int .i64 N, .slice A gs.length c]] := Own.joinr O12 ho21 (fun e he => by rcases List.mem_cons.1 he with rfl | he; exact .inl trivial; exact .inr (by rw [List.mem_singleton.1 he]; exact hd22))
      obtain ⟨rg, hrg⟩ := O23.rowshape 0 rfl (by omega)
      have hIo := (O23.ro 1 rfl : OwnIns D19 (foldOf gs) vo20 _).ins
      have hvl : (foldOf gs).length = vo20.length := hIo.1
      refine ⟨_, rfl, ?_⟩
      refine wl_val (v := .tuple #[.agg #[.int .i64 N, .slice A17 ((foldOf gs).length) c18], .int .i64 0]) (fun ρ e => ex_move (e _ _ rfl)) rfl rfl ?_
      refine wl_val (v := .agg #[.int .i64 N, .slice A17 ((foldOf gs).length) c18]) (fun ρ e => ex_extract (vs := #[.agg #[.int .i64 N, .slice A17 ((foldOf gs).length) c18], .int .i64 0]) (e _ _ rfl) rfl) rfl rfl ?_
      refine wl_val (v := .int .i64 0) (fun ρ e => ex_extract (vs := #[.agg #[.int .i64 N, .slice A17 ((foldOf gs).length) c18], .int .i64 0]) (e _ _ rfl) rfl) rfl rfl ?_
      obtain ⟨g25, w26, r27, O28, hg29, hs30⟩ := own_alloc O23 24 ze24 rfl
      refine wl_val (v := .pointer (some ⟨g25, 0, none⟩)) (fun ρ e => r27 ρ _ _ _ _ _) rfl rfl ?_
      obtain ⟨w31, r32, O33, hs34⟩ := own_put (o := 0) (n := 2) O28 ty24 (.agg #[.int .i64 N, .slice A17 ((foldOf gs).length) c18]) [.int .i64 N, .slice A17 ((foldOf gs).length) c18] (cs' := #[.int .i64 N, .slice A17 ((foldOf gs).length) c18]) rfl rfl rfl (Nat.le_of_ble_eq_true rfl) rfl
      refine wl_none (fun ρ e => r32 ρ _ _ _ _ _ _ (e _ _ rfl) (e _ _ rfl)) rfl ?_
      refine wl_val (v := .int .i64 0) (fun ρ e => ex_assign (e _ _ rfl)) rfl rfl ?_
      refine wl_nil ?_
      refine xw_next K14 ?_
      refine cw_seq (fun FK35 K35 => ?_)
      refine cw_seq (fun FK36 K36 => ?_)
      refine cw_region ?_
      refine wl_val (v := .int .i64 0) (fun ρ e => ex_move (e _ _ rfl)) rfl rfl ?_
      refine wl_val (v := .bool false) (fun ρ e => ex_cmp (u := 0) (v := 0) (e _ _ rfl) (e _ _ rfl) (neq0 (by omega))) rfl rfl ?_
      refine wl_nil ?_
      refine xw_next K36 ?_
      refine cw_false rfl ?_
      refine cw_skip ?_
      refine xw_next K35 ?_
      refine cw_seq (fun FK37 K37 => ?_)
      refine cw_region ?_
      refine wl_val (v := .agg #[.int .i64 N, .slice A17 ((foldOf gs).length) c18]) (fun ρ e => ex_loadN (vs := [.int .i64 N, .slice A17 ((foldOf gs).length) c18]) ty24 (e _ _ rfl) rfl (O33.cells 0 0 rfl rfl)) rfl rfl ?_
      refine wl_call (args := [.agg #[.int .i64 N, .slice A17 ((foldOf gs).length) c18]]) in_18 rfl rfl rfl ?_
      have h38 := fold_ (N := N) (gs := (foldOf gs)) (gates_of_own (O33.row 1 rfl) (O33.ro 2 rfl) (O33.get 2 rfl).2.1) hsz2 (tab.below (Nat.le_refl _) O33.old)
      unfold FoldPost at h38
      rw [hag] at h38
      refine h38.mono ?_
      intro _ w46 hq
      obtain ⟨_, A39, c40, D41, vo42, rfl, ho43, hd44⟩ := hq.resolve_left (fun z => z.1 hc2)
      have O45 : Own Z0 W w46 [.row (.slice A39 ((foldOf gs).length) c40) 38 3 ((foldOf gs).length) (gcells (foldOf gs) vo42), .ro D41 (OwnIns D41 (foldOf gs) vo42), .blk g25 24 #[.int .i64 N, .slice A17 ((foldOf gs).length) c18], .row (.slice A17 ((foldOf gs).length) c18) 38 3 ((foldOf gs).length) (gcells (foldOf gs) vo20), .ro D19 (OwnIns D19 (foldOf gs) vo20), .blk g2 24 #[.int .i64 N, .slice A gs.length c]] := Own.joinr O33 ho43 (fun e he => by rcases List.mem_cons.1 he with rfl | he; exact .inl trivial; exact .inr (by rw [List.mem_singleton.1 he]; exact hd44))
      refine ⟨_, rfl, ?_⟩
      refine wl_val (v := .tuple #[.agg #[.int .i64 N, .slice A39 ((foldOf gs).length) c40], .int .i64 0]) (fun ρ e => ex_move (e _ _ rfl)) rfl rfl ?_
      refine wl_val (v := .agg #[.int .i64 N, .slice A39 ((foldOf gs).length) c40]) (fun ρ e => ex_extract (vs := #[.agg #[.int .i64 N, .slice A39 ((foldOf gs).length) c40], .int .i64 0]) (e _ _ rfl) rfl) rfl rfl ?_
      refine wl_val (v := .int .i64 0) (fun ρ e => ex_extract (vs := #[.agg #[.int .i64 N, .slice A39 ((foldOf gs).length) c40], .int .i64 0]) (e _ _ rfl) rfl) rfl rfl ?_
      obtain ⟨g47, w48, r49, O50, hg51, hs52⟩ := own_alloc O45 24 ze24 rfl
      refine wl_val (v := .pointer (some ⟨g47, 0, none⟩)) (fun ρ e => r49 ρ _ _ _ _ _) rfl rfl ?_
      obtain ⟨w53, r54, O55, hs56⟩ := own_put (o := 0) (n := 2) O50 ty24 (.agg #[.int .i64 N, .slice A39 ((foldOf gs).length) c40]) [.int .i64 N, .slice A39 ((foldOf gs).length) c40] (cs' := #[.int .i64 N, .slice A39 ((foldOf gs).length) c40]) rfl rfl rfl (Nat.le_of_ble_eq_true rfl) rfl
      refine wl_none (fun ρ e => r54 ρ _ _ _ _ _ _ (e _ _ rfl) (e _ _ rfl)) rfl ?_
      refine wl_val (v := .int .i64 0) (fun ρ e => ex_assign (e _ _ rfl)) rfl rfl ?_
      refine wl_nil ?_
      refine xw_next K37 ?_
      refine cw_seq (fun FK57 K57 => ?_)
      refine cw_seq (fun FK58 K58 => ?_)
      refine cw_region ?_
      refine wl_val (v := .int .i64 0) (fun ρ e => ex_move (e _ _ rfl)) rfl rfl ?_
      refine wl_val (v := .bool false) (fun ρ e => ex_cmp (u := 0) (v := 0) (e _ _ rfl) (e _ _ rfl) (neq0 (by omega))) rfl rfl ?_
      refine wl_val (v := .bool false) (fun ρ e => ex_move (e _ _ rfl)) rfl rfl ?_
      refine wl_val (v := .agg #[.int .i64 N, .slice A17 ((foldOf gs).length) c18]) (fun ρ e => ex_loadN (vs := [.int .i64 N, .slice A17 ((foldOf gs).length) c18]) ty24 (e _ _ rfl) rfl (O55.cells 3 0 rfl rfl)) rfl rfl ?_
      refine wl_val (v := .agg #[.int .i64 N, .slice A39 ((foldOf gs).length) c40]) (fun ρ e => ex_loadN (vs := [.int .i64 N, .slice A39 ((foldOf gs).length) c40]) ty24 (e _ _ rfl) rfl (O55.cells 0 0 rfl rfl)) rfl rfl ?_
      refine wl_call (args := [.agg #[.int .i64 N, .slice A17 ((foldOf gs).length) c18], .agg #[.int .i64 N, .slice A39 ((foldOf gs).length) c40]]) in_21 rfl rfl rfl ?_
      have h62 := csame_ (N := N) (M := N) (gates_of_own (O55.row 4 rfl) (O55.ro 5 rfl) (O55.get 5 rfl).2.1) (gates_of_own (O55.row 1 rfl) (O55.ro 2 rfl) (O55.get 2 rfl).2.1) (foldOf_short hc) (foldOf_short hc) (foldOf_len hc) (foldOf_len hc)
      rw [decide_eq_true (show N = N ∧ (foldOf gs) = (foldOf gs) from ⟨rfl, rfl⟩)] at h62
      refine h62.mono ?_
      rintro _ w59 ⟨rfl, hb60⟩
      have O61 : Own Z0 W w59 [.blk g47 24 #[.int .i64 N, .slice A39 ((foldOf gs).length) c40], .row (.slice A39 ((foldOf gs).length) c40) 38 3 ((foldOf gs).length) (gcells (foldOf gs) vo42), .ro D41 (OwnIns D41 (foldOf gs) vo42), .blk g25 24 #[.int .i64 N, .slice A17 ((foldOf gs).length) c18], .row (.slice A17 ((foldOf gs).length) c18) 38 3 ((foldOf gs).length) (gcells (foldOf gs) vo20), .ro D19 (OwnIns D19 (foldOf gs) vo20), .blk g2 24 #[.int .i64 N, .slice A gs.length c]] := O55.below hb60
      refine ⟨_, rfl, ?_⟩
      refine wl_val (v := .bool false) (fun ρ e => ex_lnot (b := true) (e _ _ rfl)) rfl rfl ?_
      refine wl_val (v := .bool false) (fun ρ e => ex_pick0 (e _ _ rfl) (e _ _ rfl)) rfl rfl ?_
      refine wl_nil ?_
      refine xw_next K58 ?_
      refine cw_false rfl ?_
      refine cw_skip ?_
      refine xw_next K57 ?_
      refine cw_seq (fun FK63 K63 => ?_)
      refine cw_seq (fun FK64 K64 => ?_)
      refine cw_region ?_
      refine wl_val (v := .pointer (some ⟨g25, 1, none⟩)) (fun ρ e => ex_field (q := 1) fi24_1 (e _ _ rfl) rfl) rfl rfl ?_
      refine wl_val (v := .slice A17 ((foldOf gs).length) c18) (fun ρ e => ex_load1 ty22 (e _ _ rfl) (O61.cell 3 1 rfl rfl)) rfl rfl ?_
      refine wl_val (v := .int .i64 (((foldOf gs).length : Nat) : Int)) (fun ρ e => ex_len el22 (e _ _ rfl)) rfl rfl ?_
      refine wl_val (v := .bool false) (fun ρ e => ex_cmp (u := (((foldOf gs).length : Nat) : Int)) (v := 0) (e _ _ rfl) (e _ _ rfl) (eql0 (by omega))) rfl rfl ?_
      refine wl_nil ?_
      refine xw_next K64 ?_
      refine cw_false rfl ?_
      refine cw_skip ?_
      refine xw_next K63 ?_
      refine cw_seq (fun FK65 K65 => ?_)
      refine cw_region ?_
      refine wl_val (v := .pointer (some ⟨g25, 1, none⟩)) (fun ρ e => ex_field (q := 1) fi24_1 (e _ _ rfl) rfl) rfl rfl ?_
      refine wl_val (v := .slice A17 ((foldOf gs).length) c18) (fun ρ e => ex_load1 ty22 (e _ _ rfl) (O61.cell 3 1 rfl rfl)) rfl rfl ?_
      refine wl_val (v := .int .i64 (((foldOf gs).length : Nat) : Int)) (fun ρ e => ex_len el22 (e _ _ rfl)) rfl rfl ?_
      obtain ⟨g66, w67, r68, O69, hg70, hs71⟩ := own_make1 O61 ap41 rfl (foldOf gs).length (by decide) (by omega) (cs := (boolCs (List.replicate (foldOf gs).length false)).toArray) (by simp [boolCs])
      refine wl_val (v := .slice (some ⟨g66, 0, none⟩) ((foldOf gs).length) ((foldOf gs).length)) (fun ρ e => r68 ρ _ _ _ _ _ _ _ (e _ _ rfl) (e _ _ rfl)) rfl rfl ?_
      refine wl_val (v := .slice (some ⟨g66, 0, none⟩) ((foldOf gs).length) ((foldOf gs).length)) (fun ρ e => ex_assign (e _ _ rfl)) rfl rfl ?_
      refine wl_nil ?_
      refine xw_next K65 ?_
      refine cw_seq (fun FK72 K72 => ?_)
      refine cw_region ?_
      refine wl_val (v := .slice (some ⟨g66, 0, none⟩) ((foldOf gs).length) ((foldOf gs).length)) (fun ρ e => ex_move (e _ _ rfl)) rfl rfl ?_
      refine wl_val (v := .slice (some ⟨g66, 0, none⟩) ((foldOf gs).length) ((foldOf gs).length)) (fun ρ e => ex_move (e _ _ rfl)) rfl rfl ?_
      refine wl_val (v := .int .i64 (((foldOf gs).length : Nat) : Int)) (fun ρ e => ex_len el41 (e _ _ rfl)) rfl rfl ?_
      refine wl_val (v := .int .i64 (m : Int)) (fun ρ e => ex_arith (k := .i64) (u := (((foldOf gs).length : Nat) : Int)) (v := 1) (e _ _ rfl) (e _ _ rfl) (congrArg some ((congrArg _ (by omega)).trans (wrap_in (u := (m : Int)) (by omega) (by omega))))) rfl rfl ?_
      refine wl_val (v := .pointer (some ⟨g66, m, none⟩)) (fun ρ e => ex_idx (q := m) (i := m) el41 (e _ _ rfl) (e _ _ rfl) (by omega) (by omega)) rfl rfl ?_
      obtain ⟨w73, r74, O75, hs76⟩ := own_put (o := m) (n := 1) O69 ty4 (.bool true) [.bool true] (cs' := (boolCs ((List.replicate (foldOf gs).length false).set m true)).toArray) rfl rfl rfl (by simp [boolCs] <;> omega) (setBo (List.replicate (foldOf gs).length false) m true)
      refine wl_none (fun ρ e => r74 ρ _ _ _ _ _ _ (e _ _ rfl) (e _ _ rfl)) rfl ?_
      refine wl_nil ?_
      refine xw_next K72 ?_
      refine cw_seq (fun FK77 K77 => ?_)
      refine cw_seq (fun FK78 K78 => ?_)
      refine cw_region ?_
      refine wl_val (v := .pointer (some ⟨g25, 1, none⟩)) (fun ρ e => ex_field (q := 1) fi24_1 (e _ _ rfl) rfl) rfl rfl ?_
      refine wl_val (v := .slice A17 ((foldOf gs).length) c18) (fun ρ e => ex_load1 ty22 (e _ _ rfl) (O75.cell 4 1 rfl rfl)) rfl rfl ?_
      refine wl_val (v := .int .i64 (((foldOf gs).length : Nat) : Int)) (fun ρ e => ex_len el22 (e _ _ rfl)) rfl rfl ?_
      refine wl_val (v := .int .i64 0) (fun ρ e => ex_move (e _ _ rfl)) rfl rfl ?_
      refine wl_nil ?_
      refine xw_next K78 ?_
      refine cw_block ?_
      refine cw_loop (ι := Nat × List Bool) (fun q => [(3, .pointer (some ⟨g25, 0, none⟩)), (6, .slice (some ⟨g66, 0, none⟩) ((foldOf gs).length) ((foldOf gs).length)), (52, .int .i64 (((foldOf gs).length : Nat) : Int)), (53, .int .i64 (q.1 : Int))]) (fun q X => (q.1 ≤ (foldOf gs).length) ∧ (q.2.length = (foldOf gs).length) ∧ (MK (foldOf gs) m q.1 q.2) ∧ Own Z0 W X [.blk g66 4 ((boolCs q.2).toArray), .blk g47 24 #[.int .i64 N, .slice A39 ((foldOf gs).length) c40], .row (.slice A39 ((foldOf gs).length) c40) 38 3 ((foldOf gs).length) (gcells (foldOf gs) vo42), .ro D41 (OwnIns D41 (foldOf gs) vo42), .blk g25 24 #[.int .i64 N, .slice A17 ((foldOf gs).length) c18], .row (.slice A17 ((foldOf gs).length) c18) 38 3 ((foldOf gs).length) (gcells (foldOf gs) vo20), .ro D19 (OwnIns D19 (foldOf gs) vo20), .blk g2 24 #[.int .i64 N, .slice A gs.length c]]) (fun q => (foldOf gs).length - q.1) (0, ((List.replicate (foldOf gs).length false).set m true)) ⟨(Nat.zero_le _), (by show (List.set _ _ _).length = _; simp), (mk_start (by omega)), O75⟩ ⟨rfl, rfl, rfl, rfl, trivial⟩ (fun q w79 hJ F80 K81 => ?_)
      obtain ⟨i, u⟩ := q
      obtain ⟨hi0, hul, hu, O82⟩ := hJ
      dsimp only at hi0 hul hu O82 ⊢
      by_cases hk : i < (foldOf gs).length
      · have hsh := foldOf_short hc _ (List.getElem_mem hk)
        obtain ⟨Ai, ci, hAi⟩ := (hIo.2 i _ _ (List.getElem?_eq_getElem hk) (List.getElem?_eq_getElem (show i < vo20.length by omega))).slice
        obtain ⟨pi0, pi1, pi2⟩ := gcells_get (List.getElem?_eq_getElem hk) (List.getElem?_eq_getElem (show i < vo20.length by omega))
        rw [hAi] at pi2
        refine cw_seq (fun FK83 K83 => ?_)
        refine cw_region ?_
        refine wl_val (v := .bool true) (fun ρ e => ex_cmp (u := (i : Int)) (v := (((foldOf gs).length : Nat) : Int)) (e _ _ rfl) (e _ _ rfl) (lss1 (by omega))) rfl rfl ?_
        refine wl_nil ?_
        refine xw_next K83 ?_
        refine cw_seq (fun FK84 K84 => ?_)
        refine cw_true rfl ?_
        refine cw_skip ?_
        refine xw_next K84 ?_
        refine cw_seq (fun FK85 K85 => ?_)
        refine cw_block ?_
        refine cw_seq (fun FK86 K86 => ?_)
        refine cw_region ?_
        refine wl_val (v := .int .i64 (i : Int)) (fun ρ e => ex_move (e _ _ rfl)) rfl rfl ?_
        refine wl_val (v := .int .i64 (i : Int)) (fun ρ e => ex_assign (e _ _ rfl)) rfl rfl ?_
        refine wl_nil ?_
        refine xw_next K86 ?_
        refine cw_seq (fun FK87 K87 => ?_)
        refine cw_seq (fun FK88 K88 => ?_)
        refine cw_drawn (fun X => Own Z0 W X [.blk g66 4 ((boolCs u).toArray), .blk g47 24 #[.int .i64 N, .slice A39 ((foldOf gs).length) c40], .row (.slice A39 ((foldOf gs).length) c40) 38 3 ((foldOf gs).length) (gcells (foldOf gs) vo42), .ro D41 (OwnIns D41 (foldOf gs) vo42), .blk g25 24 #[.int .i64 N, .slice A17 ((foldOf gs).length) c18], .row (.slice A17 ((foldOf gs).length) c18) 38 3 ((foldOf gs).length) (gcells (foldOf gs) vo20), .ro D19 (OwnIns D19 (foldOf gs) vo20), .blk g2 24 #[.int .i64 N, .slice A gs.length c]]) 8 [(0, 0), (1, 1), (2, 0), (3, 1), (4, 1), (5, 0), (6, 2), (7, 1)] (by kernel_rfl) (by kernel_rfl) (PQ.then_ (PQ.then_ (PQ.block (PQ.then_ (PQ.then_ (PQ.block (PQ.then_ PQ.body))))))) (O82).drew ?_
        have O89 : Own Z0 W w79.drew [.blk g66 4 ((boolCs u).toArray), .blk g47 24 #[.int .i64 N, .slice A39 ((foldOf gs).length) c40], .row (.slice A39 ((foldOf gs).length) c40) 38 3 ((foldOf gs).length) (gcells (foldOf gs) vo42), .ro D41 (OwnIns D41 (foldOf gs) vo42), .blk g25 24 #[.int .i64 N, .slice A17 ((foldOf gs).length) c18], .row (.slice A17 ((foldOf gs).length) c18) 38 3 ((foldOf gs).length) (gcells (foldOf gs) vo20), .ro D19 (OwnIns D19 (foldOf gs) vo20), .blk g2 24 #[.int .i64 N, .slice A gs.length c]] := O82.drew
        refine wt0 (v := .agg #[.int .i64 N, .slice A17 ((foldOf gs).length) c18]) rfl (fun ρ e W hW => ex_loadN (vs := [.int .i64 N, .slice A17 ((foldOf gs).length) c18]) ty24 (e _ _ rfl) rfl (hW.cells 4 0 rfl rfl)) rfl rfl ?_
        refine wt1 (v := .pointer (some ⟨g25, 1, none⟩)) rfl (fun ρ e W => ex_field (q := 1) fi24_1 (e _ _ rfl) rfl) rfl rfl ?_
        refine wt0 (v := .slice A17 ((foldOf gs).length) c18) rfl (fun ρ e W hW => ex_load1 ty22 (e _ _ rfl) (hW.cell 4 1 rfl rfl)) rfl rfl ?_
        refine wt1 (v := .int .i64 (i : Int)) rfl (fun ρ e W => ex_move (e _ _ rfl)) rfl rfl ?_
        refine wt1 (v := .pointer (some ⟨rg, i * 3, none⟩)) rfl (fun ρ e W => ex_idx (q := i * 3) (o := 0) (g := rg) (i := i) el22 ((e _ _ rfl).trans (congrArg (fun z => Value.slice z _ _) hrg)) (e _ _ rfl) hk (by omega)) rfl rfl ?_
        refine wt0 (v := .agg #[.int .i64 ((foldOf gs)[i].kind), .int .i64 ((foldOf gs)[i].lit), .slice Ai ((foldOf gs)[i].inp.length) ci]) rfl (fun ρ e W hW => ex_loadN (vs := [.int .i64 ((foldOf gs)[i].kind), .int .i64 ((foldOf gs)[i].lit), .slice Ai ((foldOf gs)[i].inp.length) ci]) ty38 (e _ _ rfl) rfl (cells3 (rowcell (hrg ▸ (hW.row 5 rfl) : World.ownsRow _ 0 38 3 (.slice (some ⟨rg, 0, none⟩) _ _) _ _) pi0) (rowcell (hrg ▸ (hW.row 5 rfl) : World.ownsRow _ 0 38 3 (.slice (some ⟨rg, 0, none⟩) _ _) _ _) pi1) (rowcell (hrg ▸ (hW.row 5 rfl) : World.ownsRow _ 0 38 3 (.slice (some ⟨rg, 0, none⟩) _ _) _ _) pi2))) rfl rfl ?_
        refine wt2_call (args := [.agg #[.int .i64 N, .slice A17 ((foldOf gs).length) c18], .agg #[.int .i64 ((foldOf gs)[i].kind), .int .i64 ((foldOf gs)[i].lit), .slice Ai ((foldOf gs)[i].inp.length) ci]]) rfl in_24 rfl rfl rfl ?_
        refine (place_ (N := N) (g := (foldOf gs)[i]) (gates_of_own (O89.row 5 rfl) (O89.ro 6 rfl) (O89.get 6 rfl).2.1) ((ins_at (O89.ro 6 rfl : OwnIns D19 (foldOf gs) vo20 _) (O89.get 6 rfl).2.1 hk (by omega) hAi).V (fun _ h => h)) hnm.wf (hnm.wf i _ (List.getElem?_eq_getElem hk)).1 (hnm.nf i _ (List.getElem?_eq_getElem hk)) (wf_in hnm.wf (List.getElem?_eq_getElem hk))).mono ?_
        rintro _ w90 ⟨rfl, hb91⟩
        have O92 : Own Z0 W w90 [.blk g66 4 ((boolCs u).toArray), .blk g47 24 #[.int .i64 N, .slice A39 ((foldOf gs).length) c40], .row (.slice A39 ((foldOf gs).length) c40) 38 3 ((foldOf gs).length) (gcells (foldOf gs) vo42), .ro D41 (OwnIns D41 (foldOf gs) vo42), .blk g25 24 #[.int .i64 N, .slice A17 ((foldOf gs).length) c18], .row (.slice A17 ((foldOf gs).length) c18) 38 3 ((foldOf gs).length) (gcells (foldOf gs) vo20), .ro D19 (OwnIns D19 (foldOf gs) vo20), .blk g2 24 #[.int .i64 N, .slice A gs.length c]] := O89.below hb91
        refine ⟨_, rfl, O92, ?_⟩
        refine wt1 (v := .bool false) rfl (fun ρ e W => ex_lnot (b := true) (e _ _ rfl)) rfl rfl ?_
        refine wt_nil ?_
        refine xw_next K88 ?_
        refine cw_false rfl ?_
        refine cw_skip ?_
        refine xw_next K87 ?_
        refine cw_seq (fun FK93 K93 => ?_)
        refine cw_seq (fun FK94 K94 => ?_)
        refine cw_region ?_
        refine wl_val (v := .pointer (some ⟨g25, 1, none⟩)) (fun ρ e => ex_field (q := 1) fi24_1 (e _ _ rfl) rfl) rfl rfl ?_
        refine wl_val (v := .slice A17 ((foldOf gs).length) c18) (fun ρ e => ex_load1 ty22 (e _ _ rfl) (O92.cell 4 1 rfl rfl)) rfl rfl ?_
        refine wl_val (v := .int .i64 (i : Int)) (fun ρ e => ex_move (e _ _ rfl)) rfl rfl ?_
        refine wl_val (v := .pointer (some ⟨rg, i * 3, none⟩)) (fun ρ e => ex_idx (q := i * 3) (o := 0) (g := rg) (i := i) el22 ((e _ _ rfl).trans (congrArg (fun z => Value.slice z _ _) hrg)) (e _ _ rfl) hk (by omega)) rfl rfl ?_
        refine wl_val (v := .pointer (some ⟨rg, i * 3 + 2, none⟩)) (fun ρ e => ex_field (q := i * 3 + 2) fi38_2 (e _ _ rfl) rfl) rfl rfl ?_
        refine wl_val (v := .slice Ai ((foldOf gs)[i].inp.length) ci) (fun ρ e => ex_load1 ty36 (e _ _ rfl) (rowcell (hrg ▸ (O92.row 5 rfl) : World.ownsRow _ 0 38 3 (.slice (some ⟨rg, 0, none⟩) _ _) _ _) pi2)) rfl rfl ?_
        refine wl_val (v := .int .i64 (((foldOf gs)[i].inp.length : Nat) : Int)) (fun ρ e => ex_len el36 (e _ _ rfl)) rfl rfl ?_
        refine wl_val (v := .int .i64 0) (fun ρ e => ex_move (e _ _ rfl)) rfl rfl ?_
        refine wl_nil ?_
        refine xw_next K94 ?_
        refine cw_block ?_
        refine cw_loop (ι := Nat × List Bool) (fun q => [(3, .pointer (some ⟨g25, 0, none⟩)), (6, .slice (some ⟨g66, 0, none⟩) ((foldOf gs).length) ((foldOf gs).length)), (7, .int .i64 (i : Int)), (52, .int .i64 (((foldOf gs).length : Nat) : Int)), (53, .int .i64 (i : Int)), (69, .slice Ai ((foldOf gs)[i].inp.length) ci), (70, .int .i64 (((foldOf gs)[i].inp.length : Nat) : Int)), (71, .int .i64 (q.1 : Int))]) (fun q X => (q.1 ≤ (foldOf gs)[i].inp.length) ∧ (q.2.length = (foldOf gs).length) ∧ (∀ p, u.getD p false = true → q.2.getD p false = true) ∧ (∀ k (h : k < (foldOf gs)[i].inp.length), k < q.1 → q.2.getD ((foldOf gs)[i].inp[k]).toNat false = true) ∧ Own Z0 W X [.blk g66 4 ((boolCs q.2).toArray), .blk g47 24 #[.int .i64 N, .slice A39 ((foldOf gs).length) c40], .row (.slice A39 ((foldOf gs).length) c40) 38 3 ((foldOf gs).length) (gcells (foldOf gs) vo42), .ro D41 (OwnIns D41 (foldOf gs) vo42), .blk g25 24 #[.int .i64 N, .slice A17 ((foldOf gs).length) c18], .row (.slice A17 ((foldOf gs).length) c18) 38 3 ((foldOf gs).length) (gcells (foldOf gs) vo20), .ro D19 (OwnIns D19 (foldOf gs) vo20), .blk g2 24 #[.int .i64 N, .slice A gs.length c]]) (fun q => (foldOf gs)[i].inp.length - q.1) (0, u) ⟨(Nat.zero_le _), hul, (fun _ h => h), (fun k _ h => absurd h (Nat.not_lt_zero k)), O92⟩ ⟨rfl, rfl, rfl, rfl, rfl, rfl, rfl, rfl, trivial⟩ (fun q w95 hJ F96 K97 => ?_)
        obtain ⟨k2, u2⟩ := q
        obtain ⟨hk20, hul2, hu2a, hu2b, O98⟩ := hJ
        dsimp only at hk20 hul2 hu2a hu2b O98 ⊢
        by_cases hk2 : k2 < (foldOf gs)[i].inp.length
        · skip
          obtain ⟨bI, oI, hAI2, hbI, kI⟩ := ((ins_at (O98.ro 6 rfl : OwnIns D19 (foldOf gs) vo20 _) (O98.get 6 rfl).2.1 hk (by omega) hAi).V (fun _ h => h)).at_ (Below.refl _ _) hk2
          have hxr := wf_in hnm.wf (List.getElem?_eq_getElem hk) (foldOf gs)[i].inp[k2] (List.getElem_mem hk2)
          obtain ⟨x, hx⟩ : ∃ x : Nat, (foldOf gs)[i].inp[k2] = (x : Int) := ⟨((foldOf gs)[i].inp[k2]).toNat, by have := hxr.1; omega⟩
          rw [hx] at hxr
          have hxl : x < (foldOf gs).length := by have := hxr.2; omega
          refine cw_seq (fun FK99 K99 => ?_)
          refine cw_region ?_
          refine wl_val (v := .bool true) (fun ρ e => ex_cmp (u := (k2 : Int)) (v := (((foldOf gs)[i].inp.length : Nat) : Int)) (e _ _ rfl) (e _ _ rfl) (lss1 (by omega))) rfl rfl ?_
          refine wl_nil ?_
          refine xw_next K99 ?_
          refine cw_seq (fun FK100 K100 => ?_)
          refine cw_true rfl ?_
          refine cw_skip ?_
          refine xw_next K100 ?_
          refine cw_seq (fun FK101 K101 => ?_)
          refine cw_block ?_
          refine cw_seq (fun FK102 K102 => ?_)
          refine cw_region ?_
          refine wl_val (v := .pointer (some ⟨bI, oI + k2, none⟩)) (fun ρ e => ex_idx (q := oI + k2) (g := bI) (o := oI) (i := k2) el36 ((e _ _ rfl).trans (congrArg (fun z => Value.slice z _ _) hAI2)) (e _ _ rfl) hk2 (by omega)) rfl rfl ?_
          refine wl_val (v := .int .i64 (x : Int)) (fun ρ e => ex_load1 ty3 (e _ _ rfl) (kI.trans (congrArg (fun z => some (Value.int .i64 z)) hx))) rfl rfl ?_
          refine wl_val (v := .int .i64 (x : Int)) (fun ρ e => ex_assign (e _ _ rfl)) rfl rfl ?_
          refine wl_nil ?_
          refine xw_next K102 ?_
          refine cw_region ?_
          refine wl_val (v := .slice (some ⟨g66, 0, none⟩) ((foldOf gs).length) ((foldOf gs).length)) (fun ρ e => ex_move (e _ _ rfl)) rfl rfl ?_
          refine wl_val (v := .int .i64 (x : Int)) (fun ρ e => ex_move (e _ _ rfl)) rfl rfl ?_
          refine wl_val (v := .pointer (some ⟨g66, x, none⟩)) (fun ρ e => ex_idx (q := x) (i := x) el41 (e _ _ rfl) (e _ _ rfl) (by omega) (by omega)) rfl rfl ?_
          obtain ⟨w103, r104, O105, hs106⟩ := own_put (o := x) (n := 1) O98 ty4 (.bool true) [.bool true] (cs' := (boolCs (u2.set x true)).toArray) rfl rfl rfl (by simp [boolCs] <;> omega) (setBo u2 x true)
          refine wl_none (fun ρ e => r104 ρ _ _ _ _ _ _ (e _ _ rfl) (e _ _ rfl)) rfl ?_
          refine wl_nil ?_
          refine xw_block ?_
          refine xw_next K101 ?_
          refine cw_region ?_
          refine wl_val (v := .int .i64 ((k2 + 1 : Nat) : Int)) (fun ρ e => ex_arith (k := .i64) (u := (k2 : Int)) (v := 1) (e _ _ rfl) (e _ _ rfl) (congrArg some ((congrArg _ (by omega)).trans (wrap_in (u := ((k2 + 1 : Nat) : Int)) (by omega) (by omega))))) rfl rfl ?_
          refine wl_val (v := .int .i64 ((k2 + 1 : Nat) : Int)) (fun ρ e => ex_move (e _ _ rfl)) rfl rfl ?_
          refine wl_nil ?_
          refine xw_round K97 (k2 + 1, (u2.set x true)) (by show (foldOf gs)[i].inp.length - (k2 + 1) < (foldOf gs)[i].inp.length - k2; omega) ⟨(by show k2 + 1 ≤ _; omega), (by show (List.set _ _ _).length = _; simp [hul2]), (fun p hp => by show (List.set _ _ _).getD p false = true; rw [getD_set, hu2a p hp]; rfl), (mark_next hx (by omega) hu2b), O105⟩ ⟨rfl, rfl, rfl, rfl, rfl, rfl, rfl, rfl, trivial⟩
        · have hke : k2 = (foldOf gs)[i].inp.length := by omega
          refine cw_seq (fun FK107 K107 => ?_)
          refine cw_region ?_
          refine wl_val (v := .bool false) (fun ρ e => ex_cmp (u := (k2 : Int)) (v := (((foldOf gs)[i].inp.length : Nat) : Int)) (e _ _ rfl) (e _ _ rfl) (lss0 (by omega))) rfl rfl ?_
          refine wl_nil ?_
          refine xw_next K107 ?_
          refine cw_seq (fun FK108 K108 => ?_)
          refine cw_false rfl ?_
          refine cw_exit ?_
          refine xw_past (by intro h; cases h) ?_
          refine xw_past (by intro h; cases h) ?_
          refine xw_here ?_
          refine xw_next K93 ?_
          refine cw_seq (fun FK109 K109 => ?_)
          refine cw_region ?_
          refine wl_val (v := .int .i64 (i : Int)) (fun ρ e => ex_move (e _ _ rfl)) rfl rfl ?_
          refine wl_val (v := .int .i64 0) (fun ρ e => ex_move (e _ _ rfl)) rfl rfl ?_
          refine wl_nil ?_
          refine xw_next K109 ?_
          refine cw_block ?_
          refine cw_loop (ι := Nat) (fun q => [(3, .pointer (some ⟨g25, 0, none⟩)), (6, .slice (some ⟨g66, 0, none⟩) ((foldOf gs).length) ((foldOf gs).length)), (7, .int .i64 (i : Int)), (52, .int .i64 (((foldOf gs).length : Nat) : Int)), (53, .int .i64 (i : Int)), (79, .int .i64 (i : Int)), (80, .int .i64 (q : Int))]) (fun q X => (q ≤ i) ∧ Own Z0 W X [.blk g66 4 ((boolCs u2).toArray), .blk g47 24 #[.int .i64 N, .slice A39 ((foldOf gs).length) c40], .row (.slice A39 ((foldOf gs).length) c40) 38 3 ((foldOf gs).length) (gcells (foldOf gs) vo42), .ro D41 (OwnIns D41 (foldOf gs) vo42), .blk g25 24 #[.int .i64 N, .slice A17 ((foldOf gs).length) c18], .row (.slice A17 ((foldOf gs).length) c18) 38 3 ((foldOf gs).length) (gcells (foldOf gs) vo20), .ro D19 (OwnIns D19 (foldOf gs) vo20), .blk g2 24 #[.int .i64 N, .slice A gs.length c]]) (fun q => i - q) 0 ⟨(Nat.zero_le _), O98⟩ ⟨rfl, rfl, rfl, rfl, rfl, rfl, rfl, trivial⟩ (fun q w110 hJ F111 K112 => ?_)
          obtain ⟨j, rfl⟩ : ∃ x, x = q := ⟨_, rfl⟩
          obtain ⟨hj0, O113⟩ := hJ
          try dsimp only at hj0 O113 ⊢
          by_cases hji : j < i
          · have hj : j < (foldOf gs).length := by omega
            obtain ⟨Aj, cj, hAj⟩ := (hIo.2 j _ _ (List.getElem?_eq_getElem hj) (List.getElem?_eq_getElem (show j < vo20.length by omega))).slice
            obtain ⟨pj0, pj1, pj2⟩ := gcells_get (List.getElem?_eq_getElem hj) (List.getElem?_eq_getElem (show j < vo20.length by omega))
            rw [hAj] at pj2
            refine cw_seq (fun FK114 K114 => ?_)
            refine cw_region ?_
            refine wl_val (v := .bool true) (fun ρ e => ex_cmp (u := (j : Int)) (v := (i : Int)) (e _ _ rfl) (e _ _ rfl) (lss1 (by omega))) rfl rfl ?_
            refine wl_nil ?_
            refine xw_next K114 ?_
            refine cw_seq (fun FK115 K115 => ?_)
            refine cw_true rfl ?_
            refine cw_skip ?_
            refine xw_next K115 ?_
            refine cw_seq (fun FK116 K116 => ?_)
            refine cw_block ?_
            refine cw_seq (fun FK117 K117 => ?_)
            refine cw_region ?_
            refine wl_val (v := .int .i64 (j : Int)) (fun ρ e => ex_move (e _ _ rfl)) rfl rfl ?_
            refine wl_val (v := .int .i64 (j : Int)) (fun ρ e => ex_assign (e _ _ rfl)) rfl rfl ?_
            refine wl_nil ?_
            refine xw_next K117 ?_
            refine cw_seq (fun FK118 K118 => ?_)
            refine at_start (fuel := 15) (listed := #[false, false, false, false, false, false, false, false, false, false, false, false, false, false, false]) (fun X => Own Z0 W X [.blk g66 4 ((boolCs u2).toArray), .blk g47 24 #[.int .i64 N, .slice A39 ((foldOf gs).length) c40], .row (.slice A39 ((foldOf gs).length) c40) 38 3 ((foldOf gs).length) (gcells (foldOf gs) vo42), .ro D41 (OwnIns D41 (foldOf gs) vo42), .blk g25 24 #[.int .i64 N, .slice A17 ((foldOf gs).length) c18], .row (.slice A17 ((foldOf gs).length) c18) 38 3 ((foldOf gs).length) (gcells (foldOf gs) vo20), .ro D19 (OwnIns D19 (foldOf gs) vo20), .blk g2 24 #[.int .i64 N, .slice A gs.length c]]) 15 (by kernel_rfl) rfl (by kernel_rfl) (O113).drew ?_
            have O119 : Own Z0 W w110.drew [.blk g66 4 ((boolCs u2).toArray), .blk g47 24 #[.int .i64 N, .slice A39 ((foldOf gs).length) c40], .row (.slice A39 ((foldOf gs).length) c40) 38 3 ((foldOf gs).length) (gcells (foldOf gs) vo42), .ro D41 (OwnIns D41 (foldOf gs) vo42), .blk g25 24 #[.int .i64 N, .slice A17 ((foldOf gs).length) c18], .row (.slice A17 ((foldOf gs).length) c18) 38 3 ((foldOf gs).length) (gcells (foldOf gs) vo20), .ro D19 (OwnIns D19 (foldOf gs) vo20), .blk g2 24 #[.int .i64 N, .slice A gs.length c]] := O113.drew
            refine at_name (fun AT120 hin121 hout122 => ?_)
            have N166 : ∀ (g123 : Nat) (g150 : Nat) (w167 : World), Own Z0 W w167 [.blk g150 38 #[.int .i64 ((foldOf gs)[j].kind), .int .i64 ((foldOf gs)[j].lit), .slice Aj ((foldOf gs)[j].inp.length) cj], .blk g123 38 #[.int .i64 ((foldOf gs)[i].kind), .int .i64 ((foldOf gs)[i].lit), .slice Ai ((foldOf gs)[i].inp.length) ci], .blk g66 4 ((boolCs u2).toArray), .blk g47 24 #[.int .i64 N, .slice A39 ((foldOf gs).length) c40], .row (.slice A39 ((foldOf gs).length) c40) 38 3 ((foldOf gs).length) (gcells (foldOf gs) vo42), .ro D41 (OwnIns D41 (foldOf gs) vo42), .blk g25 24 #[.int .i64 N, .slice A17 ((foldOf gs).length) c18], .row (.slice A17 ((foldOf gs).length) c18) 38 3 ((foldOf gs).length) (gcells (foldOf gs) vo20), .ro D19 (OwnIns D19 (foldOf gs) vo20), .blk g2 24 #[.int .i64 N, .slice A gs.length c]] → AT120 0 #[true, true, true, true, true, true, true, true, true, true, true, true, true, true, true] 112 [(3, .pointer (some ⟨g25, 0, none⟩)), (6, .slice (some ⟨g66, 0, none⟩) ((foldOf gs).length) ((foldOf gs).length)), (7, .int .i64 (i : Int)), (52, .int .i64 (((foldOf gs).length : Nat) : Int)), (53, .int .i64 (i : Int)), (79, .int .i64 (i : Int)), (80, .int .i64 (j : Int)), (81, .bool true), (82, .int .i64 (j : Int)), (97, .bool false)] w167 := by
              intro g123 g150 w167 O168
              refine hin121 _ _ _ _ _ ?_
              refine at_done rfl ?_
              refine xw_next K118 ?_
              refine cw_false rfl ?_
              refine cw_skip ?_
              refine xw_block ?_
              refine xw_next K116 ?_
              refine cw_region ?_
              refine wl_val (v := .int .i64 ((j + 1 : Nat) : Int)) (fun ρ e => ex_arith (k := .i64) (u := (j : Int)) (v := 1) (e _ _ rfl) (e _ _ rfl) (congrArg some ((congrArg _ (by omega)).trans (wrap_in (u := ((j + 1 : Nat) : Int)) (by omega) (by omega))))) rfl rfl ?_
              refine wl_val (v := .int .i64 ((j + 1 : Nat) : Int)) (fun ρ e => ex_move (e _ _ rfl)) rfl rfl ?_
              refine wl_nil ?_
              refine xw_round K112 (j + 1) (by show i - (j + 1) < i - j; omega) ⟨(by show j + 1 ≤ _; omega), (O168.re [2, 3, 4, 5, 6, 7, 8, 9] rfl : Own Z0 W w167 [.blk g66 4 ((boolCs u2).toArray), .blk g47 24 #[.int .i64 N, .slice A39 ((foldOf gs).length) c40], .row (.slice A39 ((foldOf gs).length) c40) 38 3 ((foldOf gs).length) (gcells (foldOf gs) vo42), .ro D41 (OwnIns D41 (foldOf gs) vo42), .blk g25 24 #[.int .i64 N, .slice A17 ((foldOf gs).length) c18], .row (.slice A17 ((foldOf gs).length) c18) 38 3 ((foldOf gs).length) (gcells (foldOf gs) vo20), .ro D19 (OwnIns D19 (foldOf gs) vo20), .blk g2 24 #[.int .i64 N, .slice A gs.length c]])⟩ ⟨rfl, rfl, rfl, rfl, rfl, rfl, rfl, trivial⟩
            have N169 : ∀ (g123 : Nat) (g150 : Nat) (w170 : World), Own Z0 W w170 [.blk g150 38 #[.int .i64 ((foldOf gs)[j].kind), .int .i64 ((foldOf gs)[j].lit), .slice Aj ((foldOf gs)[j].inp.length) cj], .blk g123 38 #[.int .i64 ((foldOf gs)[i].kind), .int .i64 ((foldOf gs)[i].lit), .slice Ai ((foldOf gs)[i].inp.length) ci], .blk g66 4 ((boolCs u2).toArray), .blk g47 24 #[.int .i64 N, .slice A39 ((foldOf gs).length) c40], .row (.slice A39 ((foldOf gs).length) c40) 38 3 ((foldOf gs).length) (gcells (foldOf gs) vo42), .ro D41 (OwnIns D41 (foldOf gs) vo42), .blk g25 24 #[.int .i64 N, .slice A17 ((foldOf gs).length) c18], .row (.slice A17 ((foldOf gs).length) c18) 38 3 ((foldOf gs).length) (gcells (foldOf gs) vo20), .ro D19 (OwnIns D19 (foldOf gs) vo20), .blk g2 24 #[.int .i64 N, .slice A gs.length c]] → AT120 1 #[true, true, true, true, true, true, true, true, true, true, true, true, true, true, false] 112 [(3, .pointer (some ⟨g25, 0, none⟩)), (6, .slice (some ⟨g66, 0, none⟩) ((foldOf gs).length) ((foldOf gs).length)), (7, .int .i64 (i : Int)), (52, .int .i64 (((foldOf gs).length : Nat) : Int)), (53, .int .i64 (i : Int)), (79, .int .i64 (i : Int)), (80, .int .i64 (j : Int)), (81, .bool true), (82, .int .i64 (j : Int)), (89, .agg #[.int .i64 0, .slice (some ⟨g123, 0, none⟩) 1 1]), (96, .agg #[.int .i64 0, .slice (some ⟨g150, 0, none⟩) 1 1])] w170 := by
              intro g123 g150 w170 O171
              refine hin121 _ _ _ _ _ ?_
              refine at_branch [14] (by kernel_rfl) ⟨?_, trivial⟩
              · skip
                refine stp_call (args := [.agg #[.int .i64 0, .slice (some ⟨g123, 0, none⟩) 1 1], .agg #[.int .i64 0, .slice (some ⟨g150, 0, none⟩) 1 1]]) (listed' := #[true, true, true, true, true, true, true, true, true, true, true, true, true, true, true]) rfl rfl in_21 rfl rfl rfl ?_
                have h175 := csame_ (N := 0) (M := 0) (gatesV_of (n := 1) (c := 1) (gs := ([(foldOf gs)[i]] : List Gate)) (vs := ([Value.slice Ai (foldOf gs)[i].inp.length ci] : List Value)) (D := fun k => k < w170.heap.size) (fun j9 v9 h9 => ((O171.blk 1 rfl : Blk _ g123 38 (gcells ([(foldOf gs)[i]] : List Gate) ([Value.slice Ai (foldOf gs)[i].inp.length ci] : List Value)).toArray).cell j9).trans (by simpa using h9)) (Ins.cons (ins_at (O171.ro 8 rfl : OwnIns D19 (foldOf gs) vo20 _) (O171.get 8 rfl).2.1 hk (by omega) hAi) (Ins.nil _ _)) (fun _ h => h) (O171.blk 1 rfl).lt rfl (Nat.le_refl _) (by unfold maxLen; omega)) (gatesV_of (n := 1) (c := 1) (gs := ([(foldOf gs)[j]] : List Gate)) (vs := ([Value.slice Aj (foldOf gs)[j].inp.length cj] : List Value)) (D := fun k => k < w170.heap.size) (fun j9 v9 h9 => ((O171.blk 0 rfl : Blk _ g150 38 (gcells ([(foldOf gs)[j]] : List Gate) ([Value.slice Aj (foldOf gs)[j].inp.length cj] : List Value)).toArray).cell j9).trans (by simpa using h9)) (Ins.cons (ins_at (O171.ro 8 rfl : OwnIns D19 (foldOf gs) vo20 _) (O171.get 8 rfl).2.1 hj (by omega) hAj) (Ins.nil _ _)) (fun _ h => h) (O171.blk 0 rfl).lt rfl (Nat.le_refl _) (by unfold maxLen; omega)) (short_one hc hk) (short_one hc hj) (by simp) (by simp)
                rw [decide_eq_false (show ¬ ((0 : Int) = 0 ∧ [(foldOf gs)[i]] = [(foldOf gs)[j]]) from fun e => nd_ne hnm.nd hk hj (by omega) e.2)] at h175
                refine h175.mono ?_
                rintro _ w172 ⟨rfl, hb173⟩
                have O174 : Own Z0 W w172 [.blk g150 38 #[.int .i64 ((foldOf gs)[j].kind), .int .i64 ((foldOf gs)[j].lit), .slice Aj ((foldOf gs)[j].inp.length) cj], .blk g123 38 #[.int .i64 ((foldOf gs)[i].kind), .int .i64 ((foldOf gs)[i].lit), .slice Ai ((foldOf gs)[i].inp.length) ci], .blk g66 4 ((boolCs u2).toArray), .blk g47 24 #[.int .i64 N, .slice A39 ((foldOf gs).length) c40], .row (.slice A39 ((foldOf gs).length) c40) 38 3 ((foldOf gs).length) (gcells (foldOf gs) vo42), .ro D41 (OwnIns D41 (foldOf gs) vo42), .blk g25 24 #[.int .i64 N, .slice A17 ((foldOf gs).length) c18], .row (.slice A17 ((foldOf gs).length) c18) 38 3 ((foldOf gs).length) (gcells (foldOf gs) vo20), .ro D19 (OwnIns D19 (foldOf gs) vo20), .blk g2 24 #[.int .i64 N, .slice A gs.length c]] := O171.below hb173
                refine ⟨_, rfl, (fun _ => (O174.re [2, 3, 4, 5, 6, 7, 8, 9] rfl : Own Z0 W w172 [.blk g66 4 ((boolCs u2).toArray), .blk g47 24 #[.int .i64 N, .slice A39 ((foldOf gs).length) c40], .row (.slice A39 ((foldOf gs).length) c40) 38 3 ((foldOf gs).length) (gcells (foldOf gs) vo42), .ro D41 (OwnIns D41 (foldOf gs) vo42), .blk g25 24 #[.int .i64 N, .slice A17 ((foldOf gs).length) c18], .row (.slice A17 ((foldOf gs).length) c18) 38 3 ((foldOf gs).length) (gcells (foldOf gs) vo20), .ro D19 (OwnIns D19 (foldOf gs) vo20), .blk g2 24 #[.int .i64 N, .slice A gs.length c]])), ?_⟩
                exact at_sub2 (hout122 _ _ _ _ _ (N166 g123 g150 w172 O174)) ⟨rfl, rfl, rfl, rfl, rfl, rfl, rfl, rfl, rfl, rfl, trivial⟩
            have N176 : ∀ (g123 : Nat) (g150 : Nat) (w177 : World), Own Z0 W w177 [.blk g150 38 #[.int .i64 ((foldOf gs)[j].kind), .int .i64 ((foldOf gs)[j].lit), .slice Aj ((foldOf gs)[j].inp.length) cj], .blk g123 38 #[.int .i64 ((foldOf gs)[i].kind), .int .i64 ((foldOf gs)[i].lit), .slice Ai ((foldOf gs)[i].inp.length) ci], .blk g66 4 ((boolCs u2).toArray), .blk g47 24 #[.int .i64 N, .slice A39 ((foldOf gs).length) c40], .row (.slice A39 ((foldOf gs).length) c40) 38 3 ((foldOf gs).length) (gcells (foldOf gs) vo42), .ro D41 (OwnIns D41 (foldOf gs) vo42), .blk g25 24 #[.int .i64 N, .slice A17 ((foldOf gs).length) c18], .row (.slice A17 ((foldOf gs).length) c18) 38 3 ((foldOf gs).length) (gcells (foldOf gs) vo20), .ro D19 (OwnIns D19 (foldOf gs) vo20), .blk g2 24 #[.int .i64 N, .slice A gs.length c]] → AT120 2 #[true, true, true, true, true, true, true, true, true, true, true, true, true, false, false] 112 [(3, .pointer (some ⟨g25, 0, none⟩)), (6, .slice (some ⟨g66, 0, none⟩) ((foldOf gs).length) ((foldOf gs).length)), (7, .int .i64 (i : Int)), (52, .int .i64 (((foldOf gs).length : Nat) : Int)), (53, .int .i64 (i : Int)), (79, .int .i64 (i : Int)), (80, .int .i64 (j : Int)), (81, .bool true), (82, .int .i64 (j : Int)), (89, .agg #[.int .i64 0, .slice (some ⟨g123, 0, none⟩) 1 1]), (95, .slice (some ⟨g150, 0, none⟩) 1 1)] w177 := by
              intro g123 g150 w177 O178
              refine hin121 _ _ _ _ _ ?_
              refine at_branch [13] (by kernel_rfl) ⟨?_, trivial⟩
              · skip
                refine stp_call (args := [.int .i64 0, .slice (some ⟨g150, 0, none⟩) 1 1]) (listed' := #[true, true, true, true, true, true, true, true, true, true, true, true, true, true, false]) rfl rfl in_25 rfl rfl rfl ?_
                refine (circuit_ _ 0).mono ?_
                rintro _ w179 ⟨rfl, hb180⟩
                have O181 : Own Z0 W w179 [.blk g150 38 #[.int .i64 ((foldOf gs)[j].kind), .int .i64 ((foldOf gs)[j].lit), .slice Aj ((foldOf gs)[j].inp.length) cj], .blk g123 38 #[.int .i64 ((foldOf gs)[i].kind), .int .i64 ((foldOf gs)[i].lit), .slice Ai ((foldOf gs)[i].inp.length) ci], .blk g66 4 ((boolCs u2).toArray), .blk g47 24 #[.int .i64 N, .slice A39 ((foldOf gs).length) c40], .row (.slice A39 ((foldOf gs).length) c40) 38 3 ((foldOf gs).length) (gcells (foldOf gs) vo42), .ro D41 (OwnIns D41 (foldOf gs) vo42), .blk g25 24 #[.int .i64 N, .slice A17 ((foldOf gs).length) c18], .row (.slice A17 ((foldOf gs).length) c18) 38 3 ((foldOf gs).length) (gcells (foldOf gs) vo20), .ro D19 (OwnIns D19 (foldOf gs) vo20), .blk g2 24 #[.int .i64 N, .slice A gs.length c]] := O178.below hb180
                refine ⟨_, rfl, (fun _ => (O181.re [2, 3, 4, 5, 6, 7, 8, 9] rfl : Own Z0 W w179 [.blk g66 4 ((boolCs u2).toArray), .blk g47 24 #[.int .i64 N, .slice A39 ((foldOf gs).length) c40], .row (.slice A39 ((foldOf gs).length) c40) 38 3 ((foldOf gs).length) (gcells (foldOf gs) vo42), .ro D41 (OwnIns D41 (foldOf gs) vo42), .blk g25 24 #[.int .i64 N, .slice A17 ((foldOf gs).length) c18], .row (.slice A17 ((foldOf gs).length) c18) 38 3 ((foldOf gs).length) (gcells (foldOf gs) vo20), .ro D19 (OwnIns D19 (foldOf gs) vo20), .blk g2 24 #[.int .i64 N, .slice A gs.length c]])), ?_⟩
                exact at_sub2 (hout122 _ _ _ _ _ (N169 g123 g150 w179 O181)) ⟨rfl, rfl, rfl, rfl, rfl, rfl, rfl, rfl, rfl, rfl, rfl, trivial⟩
            have N182 : ∀ (g123 : Nat) (g138 : Nat) (w183 : World), Own Z0 W w183 [.blk g138 38 #[.int .i64 ((foldOf gs)[j].kind), .int .i64 ((foldOf gs)[j].lit), .slice Aj ((foldOf gs)[j].inp.length) cj], .blk g123 38 #[.int .i64 ((foldOf gs)[i].kind), .int .i64 ((foldOf gs)[i].lit), .slice Ai ((foldOf gs)[i].inp.length) ci], .blk g66 4 ((boolCs u2).toArray), .blk g47 24 #[.int .i64 N, .slice A39 ((foldOf gs).length) c40], .row (.slice A39 ((foldOf gs).length) c40) 38 3 ((foldOf gs).length) (gcells (foldOf gs) vo42), .ro D41 (OwnIns D41 (foldOf gs) vo42), .blk g25 24 #[.int .i64 N, .slice A17 ((foldOf gs).length) c18], .row (.slice A17 ((foldOf gs).length) c18) 38 3 ((foldOf gs).length) (gcells (foldOf gs) vo20), .ro D19 (OwnIns D19 (foldOf gs) vo20), .blk g2 24 #[.int .i64 N, .slice A gs.length c]] → AT120 3 #[true, true, true, true, true, true, false, true, true, true, true, true, true, false, false] 112 [(3, .pointer (some ⟨g25, 0, none⟩)), (6, .slice (some ⟨g66, 0, none⟩) ((foldOf gs).length) ((foldOf gs).length)), (7, .int .i64 (i : Int)), (52, .int .i64 (((foldOf gs).length : Nat) : Int)), (53, .int .i64 (i : Int)), (79, .int .i64 (i : Int)), (80, .int .i64 (j : Int)), (81, .bool true), (82, .int .i64 (j : Int)), (88, .slice (some ⟨g123, 0, none⟩) 1 1), (95, .slice (some ⟨g138, 0, none⟩) 1 1)] w183 := by
              intro g123 g138 w183 O184
              refine hin121 _ _ _ _ _ ?_
              refine at_branch [6] (by kernel_rfl) ⟨?_, trivial⟩
              · skip
                refine stp_call (args := [.int .i64 0, .slice (some ⟨g123, 0, none⟩) 1 1]) (listed' := #[true, true, true, true, true, true, true, true, true, true, true, true, true, false, false]) rfl rfl in_25 rfl rfl rfl ?_
                refine (circuit_ _ 0).mono ?_
                rintro _ w185 ⟨rfl, hb186⟩
                have O187 : Own Z0 W w185 [.blk g138 38 #[.int .i64 ((foldOf gs)[j].kind), .int .i64 ((foldOf gs)[j].lit), .slice Aj ((foldOf gs)[j].inp.length) cj], .blk g123 38 #[.int .i64 ((foldOf gs)[i].kind), .int .i64 ((foldOf gs)[i].lit), .slice Ai ((foldOf gs)[i].inp.length) ci], .blk g66 4 ((boolCs u2).toArray), .blk g47 24 #[.int .i64 N, .slice A39 ((foldOf gs).length) c40], .row (.slice A39 ((foldOf gs).length) c40) 38 3 ((foldOf gs).length) (gcells (foldOf gs) vo42), .ro D41 (OwnIns D41 (foldOf gs) vo42), .blk g25 24 #[.int .i64 N, .slice A17 ((foldOf gs).length) c18], .row (.slice A17 ((foldOf gs).length) c18) 38 3 ((foldOf gs).length) (gcells (foldOf gs) vo20), .ro D19 (OwnIns D19 (foldOf gs) vo20), .blk g2 24 #[.int .i64 N, .slice A gs.length c]] := O184.below hb186
                refine ⟨_, rfl, (fun _ => (O187.re [2, 3, 4, 5, 6, 7, 8, 9] rfl : Own Z0 W w185 [.blk g66 4 ((boolCs u2).toArray), .blk g47 24 #[.int .i64 N, .slice A39 ((foldOf gs).length) c40], .row (.slice A39 ((foldOf gs).length) c40) 38 3 ((foldOf gs).length) (gcells (foldOf gs) vo42), .ro D41 (OwnIns D41 (foldOf gs) vo42), .blk g25 24 #[.int .i64 N, .slice A17 ((foldOf gs).length) c18], .row (.slice A17 ((foldOf gs).length) c18) 38 3 ((foldOf gs).length) (gcells (foldOf gs) vo20), .ro D19 (OwnIns D19 (foldOf gs) vo20), .blk g2 24 #[.int .i64 N, .slice A gs.length c]])), ?_⟩
                exact at_sub2 (hout122 _ _ _ _ _ (N176 g123 g138 w185 O187)) ⟨rfl, rfl, rfl, rfl, rfl, rfl, rfl, rfl, rfl, rfl, rfl, trivial⟩
            have N188 : ∀ (g123 : Nat) (w189 : World), Own Z0 W w189 [.blk g123 38 #[.int .i64 ((foldOf gs)[i].kind), .int .i64 ((foldOf gs)[i].lit), .slice Ai ((foldOf gs)[i].inp.length) ci], .blk g66 4 ((boolCs u2).toArray), .blk g47 24 #[.int .i64 N, .slice A39 ((foldOf gs).length) c40], .row (.slice A39 ((foldOf gs).length) c40) 38 3 ((foldOf gs).length) (gcells (foldOf gs) vo42), .ro D41 (OwnIns D41 (foldOf gs) vo42), .blk g25 24 #[.int .i64 N, .slice A17 ((foldOf gs).length) c18], .row (.slice A17 ((foldOf gs).length) c18) 38 3 ((foldOf gs).length) (gcells (foldOf gs) vo20), .ro D19 (OwnIns D19 (foldOf gs) vo20), .blk g2 24 #[.int .i64 N, .slice A gs.length c]] → AT120 3 #[true, true, true, true, true, true, true, true, true, true, true, true, false, false, false] 112 [(3, .pointer (some ⟨g25, 0, none⟩)), (6, .slice (some ⟨g66, 0, none⟩) ((foldOf gs).length) ((foldOf gs).length)), (7, .int .i64 (i : Int)), (52, .int .i64 (((foldOf gs).length : Nat) : Int)), (53, .int .i64 (i : Int)), (79, .int .i64 (i : Int)), (80, .int .i64 (j : Int)), (81, .bool true), (82, .int .i64 (j : Int)), (94, .agg #[.int .i64 ((foldOf gs)[j].kind), .int .i64 ((foldOf gs)[j].lit), .slice Aj ((foldOf gs)[j].inp.length) cj]), (89, .agg #[.int .i64 0, .slice (some ⟨g123, 0, none⟩) 1 1])] w189 := by
              intro g123 w189 O190
              refine hin121 _ _ _ _ _ ?_
              refine at_branch [12] (by kernel_rfl) ⟨?_, trivial⟩
              · skip
                obtain ⟨g191, w192, r193, O194, hg195, hs196⟩ := own_slice O190 el22 ze38 1 [(0, .agg #[.int .i64 ((foldOf gs)[j].kind), .int .i64 ((foldOf gs)[j].lit), .slice Aj ((foldOf gs)[j].inp.length) cj])] (cs := #[.int .i64 ((foldOf gs)[j].kind), .int .i64 ((foldOf gs)[j].lit), .slice Aj ((foldOf gs)[j].inp.length) cj]) (by decide) (by kernel_rfl)
                refine stp_val (v := .slice (some ⟨g191, 0, none⟩) 1 1) (listed' := #[true, true, true, true, true, true, true, true, true, true, true, true, true, false, false]) rfl rfl (fun ρ e => r193 ρ _ _ _ _ _ _ (e.parts rfl)) rfl rfl (fun _ => (O194.re [2, 3, 4, 5, 6, 7, 8, 9] rfl : Own Z0 W w192 [.blk g66 4 ((boolCs u2).toArray), .blk g47 24 #[.int .i64 N, .slice A39 ((foldOf gs).length) c40], .row (.slice A39 ((foldOf gs).length) c40) 38 3 ((foldOf gs).length) (gcells (foldOf gs) vo42), .ro D41 (OwnIns D41 (foldOf gs) vo42), .blk g25 24 #[.int .i64 N, .slice A17 ((foldOf gs).length) c18], .row (.slice A17 ((foldOf gs).length) c18) 38 3 ((foldOf gs).length) (gcells (foldOf gs) vo20), .ro D19 (OwnIns D19 (foldOf gs) vo20), .blk g2 24 #[.int .i64 N, .slice A gs.length c]])) ?_
                exact at_sub2 (hout122 _ _ _ _ _ (N176 g123 g191 w192 O194)) ⟨rfl, rfl, rfl, rfl, rfl, rfl, rfl, rfl, rfl, rfl, rfl, trivial⟩
            have N197 : ∀ (g129 : Nat) (w198 : World), Own Z0 W w198 [.blk g129 38 #[.int .i64 ((foldOf gs)[j].kind), .int .i64 ((foldOf gs)[j].lit), .slice Aj ((foldOf gs)[j].inp.length) cj], .blk g66 4 ((boolCs u2).toArray), .blk g47 24 #[.int .i64 N, .slice A39 ((foldOf gs).length) c40], .row (.slice A39 ((foldOf gs).length) c40) 38 3 ((foldOf gs).length) (gcells (foldOf gs) vo42), .ro D41 (OwnIns D41 (foldOf gs) vo42), .blk g25 24 #[.int .i64 N, .slice A17 ((foldOf gs).length) c18], .row (.slice A17 ((foldOf gs).length) c18) 38 3 ((foldOf gs).length) (gcells (foldOf gs) vo20), .ro D19 (OwnIns D19 (foldOf gs) vo20), .blk g2 24 #[.int .i64 N, .slice A gs.length c]] → AT120 4 #[true, true, true, true, true, false, false, true, true, true, true, true, true, false, false] 112 [(3, .pointer (some ⟨g25, 0, none⟩)), (6, .slice (some ⟨g66, 0, none⟩) ((foldOf gs).length) ((foldOf gs).length)), (7, .int .i64 (i : Int)), (52, .int .i64 (((foldOf gs).length : Nat) : Int)), (53, .int .i64 (i : Int)), (79, .int .i64 (i : Int)), (80, .int .i64 (j : Int)), (81, .bool true), (82, .int .i64 (j : Int)), (87, .agg #[.int .i64 ((foldOf gs)[i].kind), .int .i64 ((foldOf gs)[i].lit), .slice Ai ((foldOf gs)[i].inp.length) ci]), (95, .slice (some ⟨g129, 0, none⟩) 1 1)] w198 := by
              intro g129 w198 O199
              refine hin121 _ _ _ _ _ ?_
              refine at_branch [5] (by kernel_rfl) ⟨?_, trivial⟩
              · skip
                obtain ⟨g200, w201, r202, O203, hg204, hs205⟩ := own_slice O199 el22 ze38 1 [(0, .agg #[.int .i64 ((foldOf gs)[i].kind), .int .i64 ((foldOf gs)[i].lit), .slice Ai ((foldOf gs)[i].inp.length) ci])] (cs := #[.int .i64 ((foldOf gs)[i].kind), .int .i64 ((foldOf gs)[i].lit), .slice Ai ((foldOf gs)[i].inp.length) ci]) (by decide) (by kernel_rfl)
                refine stp_val (v := .slice (some ⟨g200, 0, none⟩) 1 1) (listed' := #[true, true, true, true, true, true, false, true, true, true, true, true, true, false, false]) rfl rfl (fun ρ e => r202 ρ _ _ _ _ _ _ (e.parts rfl)) rfl rfl (fun _ => (O203.re [2, 3, 4, 5, 6, 7, 8, 9] rfl : Own Z0 W w201 [.blk g66 4 ((boolCs u2).toArray), .blk g47 24 #[.int .i64 N, .slice A39 ((foldOf gs).length) c40], .row (.slice A39 ((foldOf gs).length) c40) 38 3 ((foldOf gs).length) (gcells (foldOf gs) vo42), .ro D41 (OwnIns D41 (foldOf gs) vo42), .blk g25 24 #[.int .i64 N, .slice A17 ((foldOf gs).length) c18], .row (.slice A17 ((foldOf gs).length) c18) 38 3 ((foldOf gs).length) (gcells (foldOf gs) vo20), .ro D19 (OwnIns D19 (foldOf gs) vo20), .blk g2 24 #[.int .i64 N, .slice A gs.length c]])) ?_
                exact at_sub2 (hout122 _ _ _ _ _ (N182 g200 g129 w201 (O203.re [1, 0, 2, 3, 4, 5, 6, 7, 8, 9] rfl : Own Z0 W w201 [.blk g129 38 #[.int .i64 ((foldOf gs)[j].kind), .int .i64 ((foldOf gs)[j].lit), .slice Aj ((foldOf gs)[j].inp.length) cj], .blk g200 38 #[.int .i64 ((foldOf gs)[i].kind), .int .i64 ((foldOf gs)[i].lit), .slice Ai ((foldOf gs)[i].inp.length) ci], .blk g66 4 ((boolCs u2).toArray), .blk g47 24 #[.int .i64 N, .slice A39 ((foldOf gs).length) c40], .row (.slice A39 ((foldOf gs).length) c40) 38 3 ((foldOf gs).length) (gcells (foldOf gs) vo42), .ro D41 (OwnIns D41 (foldOf gs) vo42), .blk g25 24 #[.int .i64 N, .slice A17 ((foldOf gs).length) c18], .row (.slice A17 ((foldOf gs).length) c18) 38 3 ((foldOf gs).length) (gcells (foldOf gs) vo20), .ro D19 (OwnIns D19 (foldOf gs) vo20), .blk g2 24 #[.int .i64 N, .slice A gs.length c]]))) ⟨rfl, rfl, rfl, rfl, rfl, rfl, rfl, rfl, rfl, rfl, rfl, trivial⟩
            have N206 : ∀ (g123 : Nat) (w207 : World), Own Z0 W w207 [.blk g123 38 #[.int .i64 ((foldOf gs)[i].kind), .int .i64 ((foldOf gs)[i].lit), .slice Ai ((foldOf gs)[i].inp.length) ci], .blk g66 4 ((boolCs u2).toArray), .blk g47 24 #[.int .i64 N, .slice A39 ((foldOf gs).length) c40], .row (.slice A39 ((foldOf gs).length) c40) 38 3 ((foldOf gs).length) (gcells (foldOf gs) vo42), .ro D41 (OwnIns D41 (foldOf gs) vo42), .blk g25 24 #[.int .i64 N, .slice A17 ((foldOf gs).length) c18], .row (.slice A17 ((foldOf gs).length) c18) 38 3 ((foldOf gs).length) (gcells (foldOf gs) vo20), .ro D19 (OwnIns D19 (foldOf gs) vo20), .blk g2 24 #[.int .i64 N, .slice A gs.length c]] → AT120 4 #[true, true, true, true, true, true, false, true, true, true, true, true, false, false, false] 112 [(3, .pointer (some ⟨g25, 0, none⟩)), (6, .slice (some ⟨g66, 0, none⟩) ((foldOf gs).length) ((foldOf gs).length)), (7, .int .i64 (i : Int)), (52, .int .i64 (((foldOf gs).length : Nat) : Int)), (53, .int .i64 (i : Int)), (79, .int .i64 (i : Int)), (80, .int .i64 (j : Int)), (81, .bool true), (82, .int .i64 (j : Int)), (94, .agg #[.int .i64 ((foldOf gs)[j].kind), .int .i64 ((foldOf gs)[j].lit), .slice Aj ((foldOf gs)[j].inp.length) cj]), (88, .slice (some ⟨g123, 0, none⟩) 1 1)] w207 := by
              intro g123 w207 O208
              refine hin121 _ _ _ _ _ ?_
              refine at_branch [6, 12] (by kernel_rfl) ⟨?_, ?_, trivial⟩
              · skip
                refine stp_call (args := [.int .i64 0, .slice (some ⟨g123, 0, none⟩) 1 1]) (listed' := #[true, true, true, true, true, true, true, true, true, true, true, true, false, false, false]) rfl rfl in_25 rfl rfl rfl ?_
                refine (circuit_ _ 0).mono ?_
                rintro _ w209 ⟨rfl, hb210⟩
                have O211 : Own Z0 W w209 [.blk g123 38 #[.int .i64 ((foldOf gs)[i].kind), .int .i64 ((foldOf gs)[i].lit), .slice Ai ((foldOf gs)[i].inp.length) ci], .blk g66 4 ((boolCs u2).toArray), .blk g47 24 #[.int .i64 N, .slice A39 ((foldOf gs).length) c40], .row (.slice A39 ((foldOf gs).length) c40) 38 3 ((foldOf gs).length) (gcells (foldOf gs) vo42), .ro D41 (OwnIns D41 (foldOf gs) vo42), .blk g25 24 #[.int .i64 N, .slice A17 ((foldOf gs).length) c18], .row (.slice A17 ((foldOf gs).length) c18) 38 3 ((foldOf gs).length) (gcells (foldOf gs) vo20), .ro D19 (OwnIns D19 (foldOf gs) vo20), .blk g2 24 #[.int .i64 N, .slice A gs.length c]] := O208.below hb210
                refine ⟨_, rfl, (fun _ => (O211.re [1, 2, 3, 4, 5, 6, 7, 8] rfl : Own Z0 W w209 [.blk g66 4 ((boolCs u2).toArray), .blk g47 24 #[.int .i64 N, .slice A39 ((foldOf gs).length) c40], .row (.slice A39 ((foldOf gs).length) c40) 38 3 ((foldOf gs).length) (gcells (foldOf gs) vo42), .ro D41 (OwnIns D41 (foldOf gs) vo42), .blk g25 24 #[.int .i64 N, .slice A17 ((foldOf gs).length) c18], .row (.slice A17 ((foldOf gs).length) c18) 38 3 ((foldOf gs).length) (gcells (foldOf gs) vo20), .ro D19 (OwnIns D19 (foldOf gs) vo20), .blk g2 24 #[.int .i64 N, .slice A gs.length c]])), ?_⟩
                exact at_sub2 (hout122 _ _ _ _ _ (N188 g123 w209 O211)) ⟨rfl, rfl, rfl, rfl, rfl, rfl, rfl, rfl, rfl, rfl, rfl, trivial⟩
              · skip
                obtain ⟨g212, w213, r214, O215, hg216, hs217⟩ := own_slice O208 el22 ze38 1 [(0, .agg #[.int .i64 ((foldOf gs)[j].kind), .int .i64 ((foldOf gs)[j].lit), .slice Aj ((foldOf gs)[j].inp.length) cj])] (cs := #[.int .i64 ((foldOf gs)[j].kind), .int .i64 ((foldOf gs)[j].lit), .slice Aj ((foldOf gs)[j].inp.length) cj]) (by decide) (by kernel_rfl)
                refine stp_val (v := .slice (some ⟨g212, 0, none⟩) 1 1) (listed' := #[true, true, true, true, true, true, false, true, true, true, true, true, true, false, false]) rfl rfl (fun ρ e => r214 ρ _ _ _ _ _ _ (e.parts rfl)) rfl rfl (fun _ => (O215.re [2, 3, 4, 5, 6, 7, 8, 9] rfl : Own Z0 W w213 [.blk g66 4 ((boolCs u2).toArray), .blk g47 24 #[.int .i64 N, .slice A39 ((foldOf gs).length) c40], .row (.slice A39 ((foldOf gs).length) c40) 38 3 ((foldOf gs).length) (gcells (foldOf gs) vo42), .ro D41 (OwnIns D41 (foldOf gs) vo42), .blk g25 24 #[.int .i64 N, .slice A17 ((foldOf gs).length) c18], .row (.slice A17 ((foldOf gs).length) c18) 38 3 ((foldOf gs).length) (gcells (foldOf gs) vo20), .ro D19 (OwnIns D19 (foldOf gs) vo20), .blk g2 24 #[.int .i64 N, .slice A gs.length c]])) ?_
                exact at_sub2 (hout122 _ _ _ _ _ (N182 g123 g212 w213 O215)) ⟨rfl, rfl, rfl, rfl, rfl, rfl, rfl, rfl, rfl, rfl, rfl, trivial⟩
            refine hin121 _ _ _ _ _ ?_
            refine at_take1 (v := .pointer (some ⟨g25, 1, none⟩)) (i := 0) (listed' := #[true, false, false, false, false, false, false, false, false, false, false, false, false, false, false]) rfl (by kernel_rfl) (PQ.then_ (PQ.block (PQ.then_ (PQ.then_ (PQ.block (PQ.block (PQ.then_ (PQ.then_ (PQ.block (PQ.then_ PQ.body)))))))))) (fun _ => O119) (fun ρ e W => ex_field (q := 1) fi24_1 (e _ _ rfl) rfl) rfl rfl ?_
            refine at_take0 (v := .slice A17 ((foldOf gs).length) c18) (i := 1) (listed' := #[true, true, false, false, false, false, false, false, false, false, false, false, false, false, false]) rfl (by kernel_rfl) (PQ.then_ (PQ.block (PQ.then_ (PQ.then_ (PQ.block (PQ.block (PQ.then_ (PQ.then_ (PQ.block (PQ.then_ PQ.body)))))))))) O119 (fun ρ e W hW => ex_load1 ty22 (e _ _ rfl) (hW.cell 4 1 rfl rfl)) rfl rfl ?_
            refine at_take1 (v := .int .i64 (i : Int)) (i := 2) (listed' := #[true, true, true, false, false, false, false, false, false, false, false, false, false, false, false]) rfl (by kernel_rfl) (PQ.then_ (PQ.block (PQ.then_ (PQ.then_ (PQ.block (PQ.block (PQ.then_ (PQ.then_ (PQ.block (PQ.then_ PQ.body)))))))))) (fun _ => O119) (fun ρ e W => ex_move (e _ _ rfl)) rfl rfl ?_
            refine at_take1 (v := .pointer (some ⟨rg, i * 3, none⟩)) (i := 3) (listed' := #[true, true, true, true, false, false, false, false, false, false, false, false, false, false, false]) rfl (by kernel_rfl) (PQ.then_ (PQ.block (PQ.then_ (PQ.then_ (PQ.block (PQ.block (PQ.then_ (PQ.then_ (PQ.block (PQ.then_ PQ.body)))))))))) (fun _ => O119) (fun ρ e W => ex_idx (q := i * 3) (o := 0) (g := rg) (i := i) el22 ((e _ _ rfl).trans (congrArg (fun z => Value.slice z _ _) hrg)) (e _ _ rfl) hk (by omega)) rfl rfl ?_
            refine at_take0 (v := .agg #[.int .i64 ((foldOf gs)[i].kind), .int .i64 ((foldOf gs)[i].lit), .slice Ai ((foldOf gs)[i].inp.length) ci]) (i := 4) (listed' := #[true, true, true, true, true, false, false, false, false, false, false, false, false, false, false]) rfl (by kernel_rfl) (PQ.then_ (PQ.block (PQ.then_ (PQ.then_ (PQ.block (PQ.block (PQ.then_ (PQ.then_ (PQ.block (PQ.then_ PQ.body)))))))))) O119 (fun ρ e W hW => ex_loadN (vs := [.int .i64 ((foldOf gs)[i].kind), .int .i64 ((foldOf gs)[i].lit), .slice Ai ((foldOf gs)[i].inp.length) ci]) ty38 (e _ _ rfl) rfl (cells3 (rowcell (hrg ▸ (hW.row 5 rfl) : World.ownsRow _ 0 38 3 (.slice (some ⟨rg, 0, none⟩) _ _) _ _) pi0) (rowcell (hrg ▸ (hW.row 5 rfl) : World.ownsRow _ 0 38 3 (.slice (some ⟨rg, 0, none⟩) _ _) _ _) pi1) (rowcell (hrg ▸ (hW.row 5 rfl) : World.ownsRow _ 0 38 3 (.slice (some ⟨rg, 0, none⟩) _ _) _ _) pi2))) rfl rfl ?_
            refine at_take1 (v := .pointer (some ⟨g25, 1, none⟩)) (i := 7) (listed' := #[true, true, true, true, true, false, false, true, false, false, false, false, false, false, false]) rfl (by kernel_rfl) (PQ.then_ (PQ.block (PQ.then_ (PQ.then_ (PQ.block (PQ.block (PQ.then_ (PQ.then_ (PQ.block (PQ.then_ PQ.body)))))))))) (fun _ => O119) (fun ρ e W => ex_field (q := 1) fi24_1 (e _ _ rfl) rfl) rfl rfl ?_
            refine at_take0 (v := .slice A17 ((foldOf gs).length) c18) (i := 8) (listed' := #[true, true, true, true, true, false, false, true, true, false, false, false, false, false, false]) rfl (by kernel_rfl) (PQ.then_ (PQ.block (PQ.then_ (PQ.then_ (PQ.block (PQ.block (PQ.then_ (PQ.then_ (PQ.block (PQ.then_ PQ.body)))))))))) O119 (fun ρ e W hW => ex_load1 ty22 (e _ _ rfl) (hW.cell 4 1 rfl rfl)) rfl rfl ?_
            refine at_take1 (v := .int .i64 (j : Int)) (i := 9) (listed' := #[true, true, true, true, true, false, false, true, true, true, false, false, false, false, false]) rfl (by kernel_rfl) (PQ.then_ (PQ.block (PQ.then_ (PQ.then_ (PQ.block (PQ.block (PQ.then_ (PQ.then_ (PQ.block (PQ.then_ PQ.body)))))))))) (fun _ => O119) (fun ρ e W => ex_move (e _ _ rfl)) rfl rfl ?_
            refine at_take1 (v := .pointer (some ⟨rg, j * 3, none⟩)) (i := 10) (listed' := #[true, true, true, true, true, false, false, true, true, true, true, false, false, false, false]) rfl (by kernel_rfl) (PQ.then_ (PQ.block (PQ.then_ (PQ.then_ (PQ.block (PQ.block (PQ.then_ (PQ.then_ (PQ.block (PQ.then_ PQ.body)))))))))) (fun _ => O119) (fun ρ e W => ex_idx (q := j * 3) (o := 0) (g := rg) (i := j) el22 ((e _ _ rfl).trans (congrArg (fun z => Value.slice z _ _) hrg)) (e _ _ rfl) hj (by omega)) rfl rfl ?_
            refine at_take0 (v := .agg #[.int .i64 ((foldOf gs)[j].kind), .int .i64 ((foldOf gs)[j].lit), .slice Aj ((foldOf gs)[j].inp.length) cj]) (i := 11) (listed' := #[true, true, true, true, true, false, false, true, true, true, true, true, false, false, false]) rfl (by kernel_rfl) (PQ.then_ (PQ.block (PQ.then_ (PQ.then_ (PQ.block (PQ.block (PQ.then_ (PQ.then_ (PQ.block (PQ.then_ PQ.body)))))))))) O119 (fun ρ e W hW => ex_loadN (vs := [.int .i64 ((foldOf gs)[j].kind), .int .i64 ((foldOf gs)[j].lit), .slice Aj ((foldOf gs)[j].inp.length) cj]) ty38 (e _ _ rfl) rfl (cells3 (rowcell (hrg ▸ (hW.row 5 rfl) : World.ownsRow _ 0 38 3 (.slice (some ⟨rg, 0, none⟩) _ _) _ _) pj0) (rowcell (hrg ▸ (hW.row 5 rfl) : World.ownsRow _ 0 38 3 (.slice (some ⟨rg, 0, none⟩) _ _) _ _) pj1) (rowcell (hrg ▸ (hW.row 5 rfl) : World.ownsRow _ 0 38 3 (.slice (some ⟨rg, 0, none⟩) _ _) _ _) pj2))) rfl rfl ?_
            refine at_branch [5, 12] (by kernel_rfl) ⟨?_, ?_, trivial⟩
            · skip
              obtain ⟨g218, w219, r220, O221, hg222, hs223⟩ := own_slice O119 el22 ze38 1 [(0, .agg #[.int .i64 ((foldOf gs)[i].kind), .int .i64 ((foldOf gs)[i].lit), .slice Ai ((foldOf gs)[i].inp.length) ci])] (cs := #[.int .i64 ((foldOf gs)[i].kind), .int .i64 ((foldOf gs)[i].lit), .slice Ai ((foldOf gs)[i].inp.length) ci]) (by decide) (by kernel_rfl)
              refine stp_val (v := .slice (some ⟨g218, 0, none⟩) 1 1) (listed' := #[true, true, true, true, true, true, false, true, true, true, true, true, false, false, false]) rfl rfl (fun ρ e => r220 ρ _ _ _ _ _ _ (e.parts rfl)) rfl rfl (fun _ => (O221.re [1, 2, 3, 4, 5, 6, 7, 8] rfl : Own Z0 W w219 [.blk g66 4 ((boolCs u2).toArray), .blk g47 24 #[.int .i64 N, .slice A39 ((foldOf gs).length) c40], .row (.slice A39 ((foldOf gs).length) c40) 38 3 ((foldOf gs).length) (gcells (foldOf gs) vo42), .ro D41 (OwnIns D41 (foldOf gs) vo42), .blk g25 24 #[.int .i64 N, .slice A17 ((foldOf gs).length) c18], .row (.slice A17 ((foldOf gs).length) c18) 38 3 ((foldOf gs).length) (gcells (foldOf gs) vo20), .ro D19 (OwnIns D19 (foldOf gs) vo20), .blk g2 24 #[.int .i64 N, .slice A gs.length c]])) ?_
              exact at_sub2 (hout122 _ _ _ _ _ (N206 g218 w219 O221)) ⟨rfl, rfl, rfl, rfl, rfl, rfl, rfl, rfl, rfl, rfl, rfl, trivial⟩
            · skip
              obtain ⟨g224, w225, r226, O227, hg228, hs229⟩ := own_slice O119 el22 ze38 1 [(0, .agg #[.int .i64 ((foldOf gs)[j].kind), .int .i64 ((foldOf gs)[j].lit), .slice Aj ((foldOf gs)[j].inp.length) cj])] (cs := #[.int .i64 ((foldOf gs)[j].kind), .int .i64 ((foldOf gs)[j].lit), .slice Aj ((foldOf gs)[j].inp.length) cj]) (by decide) (by kernel_rfl)
              refine stp_val (v := .slice (some ⟨g224, 0, none⟩) 1 1) (listed' := #[true, true, true, true, true, false, false, true, true, true, true, true, true, false, false]) rfl rfl (fun ρ e => r226 ρ _ _ _ _ _ _ (e.parts rfl)) rfl rfl (fun _ => (O227.re [1, 2, 3, 4, 5, 6, 7, 8] rfl : Own Z0 W w225 [.blk g66 4 ((boolCs u2).toArray), .blk g47 24 #[.int .i64 N, .slice A39 ((foldOf gs).length) c40], .row (.slice A39 ((foldOf gs).length) c40) 38 3 ((foldOf gs).length) (gcells (foldOf gs) vo42), .ro D41 (OwnIns D41 (foldOf gs) vo42), .blk g25 24 #[.int .i64 N, .slice A17 ((foldOf gs).length) c18], .row (.slice A17 ((foldOf gs).length) c18) 38 3 ((foldOf gs).length) (gcells (foldOf gs) vo20), .ro D19 (OwnIns D19 (foldOf gs) vo20), .blk g2 24 #[.int .i64 N, .slice A gs.length c]])) ?_
              exact at_sub2 (hout122 _ _ _ _ _ (N197 g224 w225 O227)) ⟨rfl, rfl, rfl, rfl, rfl, rfl, rfl, rfl, rfl, rfl, rfl, trivial⟩
          · skip
            refine cw_seq (fun FK230 K230 => ?_)
            refine cw_region ?_
            refine wl_val (v := .bool false) (fun ρ e => ex_cmp (u := (j : Int)) (v := (i : Int)) (e _ _ rfl) (e _ _ rfl) (lss0 (by omega))) rfl rfl ?_
            refine wl_nil ?_
            refine xw_next K230 ?_
            refine cw_seq (fun FK231 K231 => ?_)
            refine cw_false rfl ?_
            refine cw_exit ?_
            refine xw_past (by intro h; cases h) ?_
            refine xw_past (by intro h; cases h) ?_
            refine xw_here ?_
            refine xw_block ?_
            refine xw_next K85 ?_
            refine cw_region ?_
            refine wl_val (v := .int .i64 ((i + 1 : Nat) : Int)) (fun ρ e => ex_arith (k := .i64) (u := (i : Int)) (v := 1) (e _ _ rfl) (e _ _ rfl) (congrArg some ((congrArg _ (by omega)).trans (wrap_in (u := ((i + 1 : Nat) : Int)) (by omega) (by omega))))) rfl rfl ?_
            refine wl_val (v := .int .i64 ((i + 1 : Nat) : Int)) (fun ρ e => ex_move (e _ _ rfl)) rfl rfl ?_
            refine wl_nil ?_
            refine xw_round K81 (i + 1, u2) (by show (foldOf gs).length - (i + 1) < (foldOf gs).length - i; omega) ⟨(by show i + 1 ≤ _; omega), hul2, (mk_next hk hu hu2a hu2b hke), O113⟩ ⟨rfl, rfl, rfl, rfl, trivial⟩
      · have hie : i = (foldOf gs).length := by omega
        rw [hie] at hu
        have hall := mk_full hnm hm hul hu
        refine cw_seq (fun FK232 K232 => ?_)
        refine cw_region ?_
        refine wl_val (v := .bool false) (fun ρ e => ex_cmp (u := (i : Int)) (v := (((foldOf gs).length : Nat) : Int)) (e _ _ rfl) (e _ _ rfl) (lss0 (by omega))) rfl rfl ?_
        refine wl_nil ?_
        refine xw_next K232 ?_
        refine cw_seq (fun FK233 K233 => ?_)
        refine cw_false rfl ?_
        refine cw_exit ?_
        refine xw_past (by intro h; cases h) ?_
        refine xw_past (by intro h; cases h) ?_
        refine xw_here ?_
        refine xw_next K77 ?_
        refine cw_seq (fun FK234 K234 => ?_)
        refine cw_seq (fun FK235 K235 => ?_)
        refine cw_region ?_
        refine wl_val (v := .slice (some ⟨g66, 0, none⟩) ((foldOf gs).length) ((foldOf gs).length)) (fun ρ e => ex_move (e _ _ rfl)) rfl rfl ?_
        refine wl_val (v := .int .i64 (((foldOf gs).length : Nat) : Int)) (fun ρ e => ex_len el41 (e _ _ rfl)) rfl rfl ?_
        refine wl_val (v := .int .i64 0) (fun ρ e => ex_move (e _ _ rfl)) rfl rfl ?_
        refine wl_nil ?_
        refine xw_next K235 ?_
        refine cw_block ?_
        refine cw_loop (ι := Nat) (fun q => [(3, .pointer (some ⟨g25, 0, none⟩)), (6, .slice (some ⟨g66, 0, none⟩) ((foldOf gs).length) ((foldOf gs).length)), (101, .int .i64 (((foldOf gs).length : Nat) : Int)), (102, .int .i64 (q : Int))]) (fun q X => (q ≤ (foldOf gs).length) ∧ Own Z0 W X [.blk g66 4 ((boolCs u).toArray), .blk g47 24 #[.int .i64 N, .slice A39 ((foldOf gs).length) c40], .row (.slice A39 ((foldOf gs).length) c40) 38 3 ((foldOf gs).length) (gcells (foldOf gs) vo42), .ro D41 (OwnIns D41 (foldOf gs) vo42), .blk g25 24 #[.int .i64 N, .slice A17 ((foldOf gs).length) c18], .row (.slice A17 ((foldOf gs).length) c18) 38 3 ((foldOf gs).length) (gcells (foldOf gs) vo20), .ro D19 (OwnIns D19 (foldOf gs) vo20), .blk g2 24 #[.int .i64 N, .slice A gs.length c]]) (fun q => (foldOf gs).length - q) 0 ⟨(Nat.zero_le _), O82⟩ ⟨rfl, rfl, rfl, rfl, trivial⟩ (fun q w236 hJ F237 K238 => ?_)
        obtain ⟨i3, rfl⟩ : ∃ x, x = q := ⟨_, rfl⟩
        obtain ⟨hi30, O239⟩ := hJ
        try dsimp only at hi30 O239 ⊢
        by_cases hk3 : i3 < (foldOf gs).length
        · have hub := hall i3 hk3
          refine cw_seq (fun FK240 K240 => ?_)
          refine cw_region ?_
          refine wl_val (v := .bool true) (fun ρ e => ex_cmp (u := (i3 : Int)) (v := (((foldOf gs).length : Nat) : Int)) (e _ _ rfl) (e _ _ rfl) (lss1 (by omega))) rfl rfl ?_
          refine wl_nil ?_
          refine xw_next K240 ?_
          refine cw_seq (fun FK241 K241 => ?_)
          refine cw_true rfl ?_
          refine cw_skip ?_
          refine xw_next K241 ?_
          refine cw_seq (fun FK242 K242 => ?_)
          refine cw_block ?_
          refine cw_seq (fun FK243 K243 => ?_)
          refine cw_region ?_
          refine wl_val (v := .int .i64 (i3 : Int)) (fun ρ e => ex_move (e _ _ rfl)) rfl rfl ?_
          refine wl_val (v := .int .i64 (i3 : Int)) (fun ρ e => ex_assign (e _ _ rfl)) rfl rfl ?_
          refine wl_nil ?_
          refine xw_next K243 ?_
          refine cw_seq (fun FK244 K244 => ?_)
          refine cw_region ?_
          refine wl_val (v := .slice (some ⟨g66, 0, none⟩) ((foldOf gs).length) ((foldOf gs).length)) (fun ρ e => ex_move (e _ _ rfl)) rfl rfl ?_
          refine wl_val (v := .int .i64 (i3 : Int)) (fun ρ e => ex_move (e _ _ rfl)) rfl rfl ?_
          refine wl_val (v := .pointer (some ⟨g66, i3, none⟩)) (fun ρ e => ex_idx (q := i3) (i := i3) el41 (e _ _ rfl) (e _ _ rfl) (by omega) (by omega)) rfl rfl ?_
          refine wl_val (v := .bool true) (fun ρ e => ex_load1 ty4 (e _ _ rfl) (O239.cell 0 i3 rfl (getBo hub))) rfl rfl ?_
          refine wl_val (v := .bool false) (fun ρ e => ex_lnot (b := true) (e _ _ rfl)) rfl rfl ?_
          refine wl_nil ?_
          refine xw_next K244 ?_
          refine cw_false rfl ?_
          refine cw_skip ?_
          refine xw_block ?_
          refine xw_next K242 ?_
          refine cw_region ?_
          refine wl_val (v := .int .i64 ((i3 + 1 : Nat) : Int)) (fun ρ e => ex_arith (k := .i64) (u := (i3 : Int)) (v := 1) (e _ _ rfl) (e _ _ rfl) (congrArg some ((congrArg _ (by omega)).trans (wrap_in (u := ((i3 + 1 : Nat) : Int)) (by omega) (by omega))))) rfl rfl ?_
          refine wl_val (v := .int .i64 ((i3 + 1 : Nat) : Int)) (fun ρ e => ex_move (e _ _ rfl)) rfl rfl ?_
          refine wl_nil ?_
          refine xw_round K238 (i3 + 1) (by show (foldOf gs).length - (i3 + 1) < (foldOf gs).length - i3; omega) ⟨(by show i3 + 1 ≤ _; omega), O239⟩ ⟨rfl, rfl, rfl, rfl, trivial⟩
        · skip
          refine cw_seq (fun FK245 K245 => ?_)
          refine cw_region ?_
          refine wl_val (v := .bool false) (fun ρ e => ex_cmp (u := (i3 : Int)) (v := (((foldOf gs).length : Nat) : Int)) (e _ _ rfl) (e _ _ rfl) (lss0 (by omega))) rfl rfl ?_
          refine wl_nil ?_
          refine xw_next K245 ?_
          refine cw_seq (fun FK246 K246 => ?_)
          refine cw_false rfl ?_
          refine cw_exit ?_
          refine xw_past (by intro h; cases h) ?_
          refine xw_past (by intro h; cases h) ?_
          refine xw_here ?_
          refine xw_next K234 ?_
          refine cw_seq (fun FK247 K247 => ?_)
          refine cw_region ?_
          refine wl_call (args := []) in_14 rfl rfl rfl ?_
          refine (works_ (tab.below (Nat.le_refl _) O239.old)).mono ?_
          rintro _ w248 ⟨rfl, hb249⟩
          have O250 : Own Z0 W w248 [.blk g66 4 ((boolCs u).toArray), .blk g47 24 #[.int .i64 N, .slice A39 ((foldOf gs).length) c40], .row (.slice A39 ((foldOf gs).length) c40) 38 3 ((foldOf gs).length) (gcells (foldOf gs) vo42), .ro D41 (OwnIns D41 (foldOf gs) vo42), .blk g25 24 #[.int .i64 N, .slice A17 ((foldOf gs).length) c18], .row (.slice A17 ((foldOf gs).length) c18) 38 3 ((foldOf gs).length) (gcells (foldOf gs) vo20), .ro D19 (OwnIns D19 (foldOf gs) vo20), .blk g2 24 #[.int .i64 N, .slice A gs.length c]] := O239.below hb249
          refine ⟨_, rfl, ?_⟩
          refine wl_val (v := .bool true) (fun ρ e => ex_assign (e _ _ rfl)) rfl rfl ?_
          refine wl_nil ?_
          refine xw_next K247 ?_
          refine cw_ret ?_
          refine xw_ret (v := .bool true) (fun T hT => res1 rfl T _ (hT 2 _ rfl)) ?_
          exact ⟨rfl, O250.old⟩
    · skip
      have hc := c16
      refine wl_call (args := [.agg #[.int .i64 N, .slice A gs.length c]]) in_18 rfl rfl rfl ?_
      refine h15.mono ?_
      intro _ w251 hq
      obtain ⟨_, rfl, hb252⟩ := hq.resolve_right (fun z => hc z.1)
      have O253 : Own Z0 W w251 [.blk g2 24 #[.int .i64 N, .slice A gs.length c]] := O12.below hb252
      refine ⟨_, rfl, ?_⟩
      refine wl_val (v := .tuple #[.agg #[.int .i64 0, .slice none 0 0], .int .i64 (checkOf N gs)]) (fun ρ e => ex_move (e _ _ rfl)) rfl rfl ?_
      refine wl_val (v := .agg #[.int .i64 0, .slice none 0 0]) (fun ρ e => ex_extract (vs := #[.agg #[.int .i64 0, .slice none 0 0], .int .i64 (checkOf N gs)]) (e _ _ rfl) rfl) rfl rfl ?_
      refine wl_val (v := .int .i64 (checkOf N gs)) (fun ρ e => ex_extract (vs := #[.agg #[.int .i64 0, .slice none 0 0], .int .i64 (checkOf N gs)]) (e _ _ rfl) rfl) rfl rfl ?_
      obtain ⟨g254, w255, r256, O257, hg258, hs259⟩ := own_alloc O253 24 ze24 rfl
      refine wl_val (v := .pointer (some ⟨g254, 0, none⟩)) (fun ρ e => r256 ρ _ _ _ _ _) rfl rfl ?_
      obtain ⟨w260, r261, O262, hs263⟩ := own_put (o := 0) (n := 2) O257 ty24 (.agg #[.int .i64 0, .slice none 0 0]) [.int .i64 0, .slice none 0 0] (cs' := #[.int .i64 0, .slice none 0 0]) rfl rfl rfl (Nat.le_of_ble_eq_true rfl) rfl
      refine wl_none (fun ρ e => r261 ρ _ _ _ _ _ _ (e _ _ rfl) (e _ _ rfl)) rfl ?_
      refine wl_val (v := .int .i64 (checkOf N gs)) (fun ρ e => ex_assign (e _ _ rfl)) rfl rfl ?_
      refine wl_nil ?_
      refine xw_next K14 ?_
      refine cw_seq (fun FK264 K264 => ?_)
      refine cw_seq (fun FK265 K265 => ?_)
      refine cw_region ?_
      refine wl_val (v := .int .i64 (checkOf N gs)) (fun ρ e => ex_move (e _ _ rfl)) rfl rfl ?_
      refine wl_val (v := .bool true) (fun ρ e => ex_cmp (u := (checkOf N gs)) (v := 0) (e _ _ rfl) (e _ _ rfl) (neq1 (by omega))) rfl rfl ?_
      refine wl_nil ?_
      refine xw_next K265 ?_
      refine cw_true rfl ?_
      refine cw_seq (fun FK266 K266 => ?_)
      refine cw_region ?_
      refine wl_call (args := []) in_14 rfl rfl rfl ?_
      refine (works_ (tab.below (Nat.le_refl _) O262.old)).mono ?_
      rintro _ w267 ⟨rfl, hb268⟩
      have O269 : Own Z0 W w267 [.blk g254 24 #[.int .i64 0, .slice none 0 0], .blk g2 24 #[.int .i64 N, .slice A gs.length c]] := O262.below hb268
      refine ⟨_, rfl, ?_⟩
      refine wl_val (v := .bool true) (fun ρ e => ex_assign (e _ _ rfl)) rfl rfl ?_
      refine wl_nil ?_
      refine xw_next K266 ?_
      refine cw_ret ?_
      refine xw_past (by intro h; cases h) ?_
      refine xw_ret (v := .bool true) (fun T hT => res1 rfl T _ (hT 2 _ rfl)) ?_
      exact ⟨rfl, O269.old⟩
end Go.Proofs.YtbemhgojfehnjaaDoor
namespace Go.Proofs.YtbemhgojfehnjaaDoor
open Go Go.RowKit
/-- The reference's list of gates. -/
def refE (f : Nat) (R : Option Addr) (c : Nat) (D : Nat → Prop) (L : List Gate) (vs : List Value) : List En :=
  [.blk f 63 #[.slice R L.length c], .row (.slice R L.length c) 38 3 L.length (gcells L vs), insE D L vs]
def RPost (A : List En) (W : World) (f : Nat) (q : List Gate × Int) (e : Ending) (w' : World) : Prop :=
  ∃ R c D vs, e = .returned (.int .i64 q.2) ∧ Own (zone A) W w' (refE f R c D q.1 vs)
section
variable {Z : Bool → Nat → Prop} {w0 W : World} {rest A : List En} {f c : Nat} {R : Option Addr} {D : Nat → Prop} {L : List Gate} {vs : List Value}
theorem RPost.use {F : FuncId} {args : Array Value} {q : List Gate × Int} (O : Own Z w0 W (A ++ rest)) (h : Calls Tryd.prog F args W (RPost A W f q)) :
    Calls Tryd.prog F args W fun e w' => ∃ R' c' D' vs', e = .returned (.int .i64 q.2) ∧ Own Z w0 w' (refE f R' c' D' q.1 vs' ++ rest) :=
  h.mono (fun _ _ ⟨R', c', D', vs', he, h'⟩ => ⟨R', c', D', vs', he, O.frame h'⟩)
theorem ref_gate (hO : Own Z w0 W (refE f R c D L vs ++ rest)) {i : Nat} (hi : i < L.length) : ∃ g v, R = some ⟨g, 0, none⟩ ∧ g < W.heap.size ∧ vs[i]? = some v ∧ IntsD D W v L[i].inp ∧
    W.cell? ⟨g, i * 3, none⟩ = some (.int .i64 L[i].kind) ∧ W.cell? ⟨g, i * 3 + 1, none⟩ = some (.int .i64 L[i].lit) ∧ W.cell? ⟨g, i * 3 + 2, none⟩ = some v := by
  have hr := hO.row 1 rfl
  have hins : Ins D L vs W := hO.ro 2 rfl
  obtain ⟨g, rfl⟩ := rowaddr hr (by omega)
  have hi' : i < vs.length := by rw [← hins.1]; exact hi
  obtain ⟨h1, h2, h3⟩ := gcells_get (L := L) (vs := vs) (List.getElem?_eq_getElem hi) (List.getElem?_eq_getElem hi')
  exact ⟨g, vs[i], rfl, (World.ownsRow.lt hr g rfl).2, List.getElem?_eq_getElem hi', hins.2 i _ _ (List.getElem?_eq_getElem hi) (List.getElem?_eq_getElem hi'), rowcell hr h1, rowcell hr h2, rowcell hr h3⟩
end
/-- How often a number stands in a list. -/
def timesOf (x : Int) : List Int → Nat
  | [] => 0
  | y :: l => (if y = x then 1 else 0) + timesOf x l
theorem timesOf_snoc (x y : Int) : ∀ l : List Int, timesOf x (l ++ [y]) = timesOf x l + (if y = x then 1 else 0)
  | [] => by simp [timesOf]
  | z :: l => by rw [List.cons_append, timesOf, timesOf, timesOf_snoc x y l]; omega
theorem ris_ {Z : Bool → Nat → Prop} {w0 W : World} {rest : List En} {f c : Nat} {R : Option Addr} {D : Nat → Prop} {L : List Gate} {vs : List Value} (O : Own Z w0 W (refE f R c D L vs ++ rest)) {i : Nat} (hi : i < L.length) (k : Int) :
    Calls Tryd.prog 83 #[.pointer (some ⟨f, 0, none⟩), .int .i64 (i : Int), .int .i64 k] W fun e w' => e = .returned (.bool (kindAt L (i : Int) == k)) ∧ Below W.heap.size W w' := by
  have hf := O.blk 0 rfl
  obtain ⟨r, v, rfl, hr, hv, hD, h0, h1, h2⟩ := ref_gate O hi
  have O0 : Own Z0 W W [] := Own.start W
  refine sx_enter (args := [.pointer (some ⟨f, 0, none⟩), .int .i64 (i : Int), .int .i64 k]) Tryd.func83 rfl rfl (by simp) ?_
  refine cw_seq (fun FK1 K1 => ?_)
  refine cw_region ?_
  refine wl_val (v := .bool false) (fun ρ e => ex_assign (e _ _ rfl)) rfl rfl ?_
  refine wl_nil ?_
  refine xw_next K1 ?_
  refine cw_seq (fun FK2 K2 => ?_)
  refine cw_region ?_
  refine wl_val (v := .pointer (some ⟨f, 0, none⟩)) (fun ρ e => ex_move (e _ _ rfl)) rfl rfl ?_
  refine wl_val (v := .pointer (some ⟨f, 0, none⟩)) (fun ρ e => ex_nil (e _ _ rfl)) rfl rfl ?_
  refine wl_val (v := .pointer (some ⟨f, 0, none⟩)) (fun ρ e => ex_field (q := 0) fi63_0 (e _ _ rfl) rfl) rfl rfl ?_
  refine wl_val (v := .slice (some ⟨r, 0, none⟩) L.length c) (fun ρ e => ex_load1 ty22 (e _ _ rfl) (hf.oldcell O0.old 0 rfl)) rfl rfl ?_
  refine wl_val (v := .int .i64 (i : Int)) (fun ρ e => ex_move (e _ _ rfl)) rfl rfl ?_
  refine wl_val (v := .pointer (some ⟨r, i * 3, none⟩)) (fun ρ e => ex_idx (q := i * 3) (i := i) el22 (e _ _ rfl) (e _ _ rfl) (by omega) (by omega)) rfl rfl ?_
  refine wl_val (v := .pointer (some ⟨r, i * 3, none⟩)) (fun ρ e => ex_field (q := i * 3) fi38_0 (e _ _ rfl) rfl) rfl rfl ?_
  refine wl_val (v := .int .i64 (L[i].kind)) (fun ρ e => ex_load1 ty3 (e _ _ rfl) ((O0.old.cell (p := ⟨r, i * 3, none⟩) hr).trans h0)) rfl rfl ?_
  refine wl_val (v := .int .i64 k) (fun ρ e => ex_move (e _ _ rfl)) rfl rfl ?_
  refine wl_val (v := .bool (L[i].kind == k)) (fun ρ e => ex_cmp (u := L[i].kind) (v := k) (r := (L[i].kind == k)) (e _ _ rfl) (e _ _ rfl) rfl) rfl rfl ?_
  refine wl_val (v := .bool (L[i].kind == k)) (fun ρ e => ex_assign (e _ _ rfl)) rfl rfl ?_
  refine wl_nil ?_
  refine xw_next K2 ?_
  refine cw_ret ?_
  refine xw_ret (v := .bool (L[i].kind == k)) (fun T hT => res1 rfl T _ (hT 6 _ rfl)) ?_
  exact ⟨by simp [kindAt, gateAt, List.getElem?_eq_getElem hi], O0.old⟩
theorem times_ {W : World} {V : Value} {l : List Int} {x : Int} (hV : IntsV W W.heap.size V l) (hl : l.length ≤ 1000000000) : Calls Tryd.prog 84 #[V, .int .i64 x] W fun e w' => e = .returned (.int .i64 ((timesOf x l : Nat) : Int)) ∧ Below W.heap.size W w' := by
  obtain ⟨A, c, rfl, hAc, hcm, _⟩ := id hV
  have O0 : Own Z0 W W [] := Own.start W
  refine sx_enter (args := [.slice A l.length c, .int .i64 x]) Tryd.func84 rfl rfl (by simp) ?_
  refine cw_seq (fun FK1 K1 => ?_)
  refine cw_region ?_
  refine wl_val (v := .int .i64 0) (fun ρ e => ex_assign (e _ _ rfl)) rfl rfl ?_
  refine wl_nil ?_
  refine xw_next K1 ?_
  refine cw_seq (fun FK2 K2 => ?_)
  refine cw_region ?_
  refine wl_val (v := .int .i64 0) (fun ρ e => ex_assign (e _ _ rfl)) rfl rfl ?_
  refine wl_nil ?_
  refine xw_next K2 ?_
  refine cw_seq (fun FK3 K3 => ?_)
  refine cw_seq (fun FK4 K4 => ?_)
  refine cw_region ?_
  refine wl_val (v := .int .i64 0) (fun ρ e => ex_assign (e _ _ rfl)) rfl rfl ?_
  refine wl_nil ?_
  refine xw_next K4 ?_
  refine cw_block ?_
  refine cw_loop (ι := Nat × Nat) (fun q => [(0, .slice A l.length c), (1, .int .i64 x), (5, .int .i64 (q.2 : Int)), (6, .int .i64 (q.1 : Int))]) (fun q X => (q.1 ≤ l.length) ∧ (q.2 = timesOf x (l.take q.1)) ∧ (q.2 ≤ q.1) ∧ Own Z0 W X []) (fun q => l.length - q.1) (0, 0) ⟨(Nat.zero_le _), rfl, (Nat.le_refl _), O0⟩ ⟨rfl, rfl, rfl, rfl, trivial⟩ (fun q w5 hJ F6 K7 => ?_)
  obtain ⟨k, n⟩ := q
  obtain ⟨hk0, hn, hnk, O8⟩ := hJ
  dsimp only at hk0 hn hnk O8 ⊢
  by_cases hk : k < l.length
  · obtain ⟨bI, oI, hA2, hbI, kI⟩ := hV.at_ O8.old hk
    have htk : l.take (k + 1) = l.take k ++ [l[k]] := (List.take_append_getElem hk).symm
    by_cases hx : l[k] = x
    · skip
      refine cw_seq (fun FK9 K9 => ?_)
      refine cw_seq (fun FK10 K10 => ?_)
      refine cw_region ?_
      refine wl_val (v := .int .i64 (k : Int)) (fun ρ e => ex_move (e _ _ rfl)) rfl rfl ?_
      refine wl_val (v := .slice A l.length c) (fun ρ e => ex_move (e _ _ rfl)) rfl rfl ?_
      refine wl_val (v := .int .i64 ((l.length : Nat) : Int)) (fun ρ e => ex_len el36 (e _ _ rfl)) rfl rfl ?_
      refine wl_val (v := .bool true) (fun ρ e => ex_cmp (u := (k : Int)) (v := ((l.length : Nat) : Int)) (e _ _ rfl) (e _ _ rfl) (lss1 (by omega))) rfl rfl ?_
      refine wl_nil ?_
      refine xw_next K10 ?_
      refine cw_true rfl ?_
      refine cw_skip ?_
      refine xw_next K9 ?_
      refine cw_seq (fun FK11 K11 => ?_)
      refine cw_block ?_
      refine cw_seq (fun FK12 K12 => ?_)
      refine cw_region ?_
      refine wl_val (v := .slice A l.length c) (fun ρ e => ex_move (e _ _ rfl)) rfl rfl ?_
      refine wl_val (v := .int .i64 (k : Int)) (fun ρ e => ex_move (e _ _ rfl)) rfl rfl ?_
      refine wl_val (v := .pointer (some ⟨bI, oI + k, none⟩)) (fun ρ e => ex_idx (q := oI + k) (g := bI) (o := oI) (i := k) el36 ((e _ _ rfl).trans (congrArg (fun z => Value.slice z _ _) hA2)) (e _ _ rfl) hk (by omega)) rfl rfl ?_
      refine wl_val (v := .int .i64 (l[k])) (fun ρ e => ex_load1 ty3 (e _ _ rfl) kI) rfl rfl ?_
      refine wl_val (v := .int .i64 x) (fun ρ e => ex_move (e _ _ rfl)) rfl rfl ?_
      refine wl_val (v := .bool true) (fun ρ e => ex_cmp (u := l[k]) (v := x) (e _ _ rfl) (e _ _ rfl) (eql1 hx)) rfl rfl ?_
      refine wl_nil ?_
      refine xw_next K12 ?_
      refine cw_true rfl ?_
      refine cw_region ?_
      refine wl_val (v := .int .i64 (n : Int)) (fun ρ e => ex_move (e _ _ rfl)) rfl rfl ?_
      refine wl_val (v := .int .i64 ((n + 1 : Nat) : Int)) (fun ρ e => ex_arith (k := .i64) (u := (n : Int)) (v := 1) (e _ _ rfl) (e _ _ rfl) (congrArg some ((congrArg _ (by omega)).trans (wrap_in (u := ((n + 1 : Nat) : Int)) (by omega) (by omega))))) rfl rfl ?_
      refine wl_val (v := .int .i64 ((n + 1 : Nat) : Int)) (fun ρ e => ex_assign (e _ _ rfl)) rfl rfl ?_
      refine wl_nil ?_
      refine xw_block ?_
      refine xw_next K11 ?_
      refine cw_region ?_
      refine wl_val (v := .int .i64 (k : Int)) (fun ρ e => ex_move (e _ _ rfl)) rfl rfl ?_
      refine wl_val (v := .int .i64 ((k + 1 : Nat) : Int)) (fun ρ e => ex_arith (k := .i64) (u := (k : Int)) (v := 1) (e _ _ rfl) (e _ _ rfl) (congrArg some ((congrArg _ (by omega)).trans (wrap_in (u := ((k + 1 : Nat) : Int)) (by omega) (by omega))))) rfl rfl ?_
      refine wl_val (v := .int .i64 ((k + 1 : Nat) : Int)) (fun ρ e => ex_assign (e _ _ rfl)) rfl rfl ?_
      refine wl_nil ?_
      refine xw_round K7 (k + 1, n + 1) (by show l.length - (k + 1) < l.length - k; omega) ⟨(by show k + 1 ≤ _; omega), (by show _ = _; rw [htk, timesOf_snoc, ← hn]; simp [hx]), (by show _ ≤ k + 1; omega), O8⟩ ⟨rfl, rfl, rfl, rfl, trivial⟩
    · skip
      refine cw_seq (fun FK13 K13 => ?_)
      refine cw_seq (fun FK14 K14 => ?_)
      refine cw_region ?_
      refine wl_val (v := .int .i64 (k : Int)) (fun ρ e => ex_move (e _ _ rfl)) rfl rfl ?_
      refine wl_val (v := .slice A l.length c) (fun ρ e => ex_move (e _ _ rfl)) rfl rfl ?_
      refine wl_val (v := .int .i64 ((l.length : Nat) : Int)) (fun ρ e => ex_len el36 (e _ _ rfl)) rfl rfl ?_
      refine wl_val (v := .bool true) (fun ρ e => ex_cmp (u := (k : Int)) (v := ((l.length : Nat) : Int)) (e _ _ rfl) (e _ _ rfl) (lss1 (by omega))) rfl rfl ?_
      refine wl_nil ?_
      refine xw_next K14 ?_
      refine cw_true rfl ?_
      refine cw_skip ?_
      refine xw_next K13 ?_
      refine cw_seq (fun FK15 K15 => ?_)
      refine cw_block ?_
      refine cw_seq (fun FK16 K16 => ?_)
      refine cw_region ?_
      refine wl_val (v := .slice A l.length c) (fun ρ e => ex_move (e _ _ rfl)) rfl rfl ?_
      refine wl_val (v := .int .i64 (k : Int)) (fun ρ e => ex_move (e _ _ rfl)) rfl rfl ?_
      refine wl_val (v := .pointer (some ⟨bI, oI + k, none⟩)) (fun ρ e => ex_idx (q := oI + k) (g := bI) (o := oI) (i := k) el36 ((e _ _ rfl).trans (congrArg (fun z => Value.slice z _ _) hA2)) (e _ _ rfl) hk (by omega)) rfl rfl ?_
      refine wl_val (v := .int .i64 (l[k])) (fun ρ e => ex_load1 ty3 (e _ _ rfl) kI) rfl rfl ?_
      refine wl_val (v := .int .i64 x) (fun ρ e => ex_move (e _ _ rfl)) rfl rfl ?_
      refine wl_val (v := .bool false) (fun ρ e => ex_cmp (u := l[k]) (v := x) (e _ _ rfl) (e _ _ rfl) (eql0 hx)) rfl rfl ?_
      refine wl_nil ?_
      refine xw_next K16 ?_
      refine cw_false rfl ?_
      refine cw_skip ?_
      refine xw_block ?_
      refine xw_next K15 ?_
      refine cw_region ?_
      refine wl_val (v := .int .i64 (k : Int)) (fun ρ e => ex_move (e _ _ rfl)) rfl rfl ?_
      refine wl_val (v := .int .i64 ((k + 1 : Nat) : Int)) (fun ρ e => ex_arith (k := .i64) (u := (k : Int)) (v := 1) (e _ _ rfl) (e _ _ rfl) (congrArg some ((congrArg _ (by omega)).trans (wrap_in (u := ((k + 1 : Nat) : Int)) (by omega) (by omega))))) rfl rfl ?_
      refine wl_val (v := .int .i64 ((k + 1 : Nat) : Int)) (fun ρ e => ex_assign (e _ _ rfl)) rfl rfl ?_
      refine wl_nil ?_
      refine xw_round K7 (k + 1, n) (by show l.length - (k + 1) < l.length - k; omega) ⟨(by show k + 1 ≤ _; omega), (by show _ = _; rw [htk, timesOf_snoc, ← hn]; simp [hx]), (by show _ ≤ k + 1; omega), O8⟩ ⟨rfl, rfl, rfl, rfl, trivial⟩
  · have hke : k = l.length := by omega
    rw [hke, List.take_length] at hn
    refine cw_seq (fun FK17 K17 => ?_)
    refine cw_seq (fun FK18 K18 => ?_)
    refine cw_region ?_
    refine wl_val (v := .int .i64 (k : Int)) (fun ρ e => ex_move (e _ _ rfl)) rfl rfl ?_
    refine wl_val (v := .slice A l.length c) (fun ρ e => ex_move (e _ _ rfl)) rfl rfl ?_
    refine wl_val (v := .int .i64 ((l.length : Nat) : Int)) (fun ρ e => ex_len el36 (e _ _ rfl)) rfl rfl ?_
    refine wl_val (v := .bool false) (fun ρ e => ex_cmp (u := (k : Int)) (v := ((l.length : Nat) : Int)) (e _ _ rfl) (e _ _ rfl) (lss0 (by omega))) rfl rfl ?_
    refine wl_nil ?_
    refine xw_next K18 ?_
    refine cw_false rfl ?_
    refine cw_exit ?_
    refine xw_past (by intro h; cases h) ?_
    refine xw_past (by intro h; cases h) ?_
    refine xw_here ?_
    refine xw_next K3 ?_
    refine cw_seq (fun FK19 K19 => ?_)
    refine cw_region ?_
    refine wl_val (v := .int .i64 (n : Int)) (fun ρ e => ex_move (e _ _ rfl)) rfl rfl ?_
    refine wl_val (v := .int .i64 (n : Int)) (fun ρ e => ex_assign (e _ _ rfl)) rfl rfl ?_
    refine wl_nil ?_
    refine xw_next K19 ?_
    refine cw_ret ?_
    refine xw_ret (v := .int .i64 (n : Int)) (fun T hT => res1 rfl T _ (hT 4 _ rfl)) ?_
    exact ⟨by rw [hn], O8.old⟩
end Go.Proofs.YtbemhgojfehnjaaDoor
