/-
  Lemmas and contracts, joined: Tb4 Tfl Tb5 Tl Tea Tk0 Tk Tc1 Tc2 Tp Tq.
-/
import Derived.Test.YtliiclmhpphpmaaGreatDoorPf2
import Derived.Test.YtliiclmhpphpmaaGreatDoorPf3
import Derived.Test.YtliiclmhpphpmaaGreatDoorProg
import Derived.RangeFuncBox
import Derived.RangeFuncLeaves
import Derived.RangeFuncWrites
import Derived.Shelf.Abstract
import Derived.WalkKit
import Derived.OwnWalkIn
import Derived.TacticsInMore
import Derived.LoopNIn
import Derived.LoopIn
import Derived.Maps.AppendAt
import Derived.Lib.Hide
import Derived.Sort.EveryDepth
import Derived.Lib.MakeNoZero
import Derived.Laws.Externs
import Derived.Lib.AppendStr
import Derived.Lib.ItoaLen
import Derived.Test.YtliiclmhpphpmaaGreatDoorPf1
import Derived.Sort.OwnSortedInts
import Derived.Shelf.Slices.In.SortNone
namespace Go.Proofs.YtliiclmhpphpmaaGreatDoor
open Go
theorem zCr (u : List Bool) (x : Int) (l : List Int) : markIn u (x :: l) = markIn (u.set x.toNat true) l := rfl
theorem markIn_len : ∀ (l : List Int) (u : List Bool), (markIn u l).length = u.length
 | [], _ => rfl
 | x :: l, u => by rw [zCr, markIn_len l]; simp
theorem useGo_succ (L : List Gate) {j : Nat} (u : List Bool) (h : j < L.length) : useGo L (j + 1) u = useGo L j (if u.getD j false then markIn u L[j].inp else u) := by
 rw [useGo]
 simp [gateAt, List.getElem?_eq_getElem h]
theorem zGu (u : List Bool) (i j : Nat) : (u.set i true).getD j false = (u.getD j false || (decide (i = j) && decide (j < u.length))) := by
 rw [List.getD_eq_getElem?_getD, List.getD_eq_getElem?_getD, List.getElem?_set]
 by_cases e : i = j
 ·subst e
  by_cases h : i < u.length
  ·simp [h]
  ·rw [if_pos rfl, if_neg h, List.getElem?_eq_none (by omega)]; simp [h]
 ·simp [e]
theorem zHc : ∀ (l : List Int) (u : List Bool) (j : Nat), u.getD j false = true → (markIn u l).getD j false = true
 | [], _, _, h => h
 | x :: l, u, j, h => by rw [zCr]; exact zHc l _ j (by rw [zGu, h]; rfl)
theorem mark_hit : ∀ (l : List Int) (u : List Bool) (x : Int), x ∈ l → x.toNat < u.length → (markIn u l).getD x.toNat false = true
 | [], _, _, h, _ => by cases h
 | y :: l, u, x, h, hx => by
  rw [zCr]
  rcases List.mem_cons.1 h with rfl | h
  ·exact zHc l _ _ (by rw [zGu]; simp [hx])
  ·exact mark_hit l _ x h (by simpa using hx)
theorem mark_other : ∀ (l : List Int) (u : List Bool) (j : Nat), (∀ x ∈ l, x.toNat ≠ j) → (markIn u l).getD j false = u.getD j false
 | [], _, _, _ => rfl
 | y :: l, u, j, h => by
  rw [zCr, mark_other l _ j (fun x hx => h x (by simp [hx])), zGu]
  simp [h y (by simp)]
theorem use_allN {N : Int} {L : List Gate} (hw : WfN N L) : ∀ (n : Nat) (u : List Bool), n ≤ u.length → n ≤ L.length →
  (useGo L n u).length = u.length ∧ (∀ j, u.getD j false = true → (useGo L n u).getD j false = true) ∧ (∀ j, n ≤ j + 1 → (useGo L n u).getD j false = u.getD j false) ∧
  (∀ i (hi : i < L.length), i < n → (useGo L n u).getD i false = true → ∀ x ∈ L[i].inp, (useGo L n u).getD x.toNat false = true)
 | 0, u, _, _ => ⟨rfl, fun _ h => h, fun _ _ => rfl, fun _ _ h => by omega⟩
 | n + 1, u, hu, hL => by
  rw [useGo_succ L u (by omega : n < L.length)]
  have hg := (hw n L[n] (List.getElem?_eq_getElem (by omega))).1
  obtain ⟨u', hu'⟩ : ∃ u', u' = (if u.getD n false then markIn u L[n].inp else u) := ⟨_, rfl⟩
  have hlen : u'.length = u.length := by
   rw [hu']
   split
   ·exact markIn_len _ _
   ·rfl
  have hk : ∀ j, u.getD j false = true → u'.getD j false = true := by
   intro j h
   rw [hu']
   split
   ·exact zHc _ _ _ h
   ·exact h
  have ho : ∀ j, n ≤ j → u'.getD j false = u.getD j false := by
   intro j h
   rw [hu']
   split
   ·exact mark_other _ _ _ (fun x hx => by have := hg x hx; omega)
   ·rfl
  rw [← hu']
  obtain ⟨a, b, c, d⟩ := use_allN hw n u' (by omega) (by omega)
  refine ⟨by rw [a, hlen], fun j h => b j (hk j h), fun j h => by rw [c j (by omega), ho j (by omega)], fun i hi hin hv x hx => ?_⟩
  by_cases e : i < n
  ·exact d i hi e hv x hx
  ·have e2 : i = n := by omega
   subst e2
   rw [c i (by omega), ho i (Nat.le_refl _)] at hv
   refine b _ ?_
   rw [hu', if_pos hv]
   have := hg x hx
   exact mark_hit _ _ x hx (by omega)
/-! Places: each used node stands in what is put out, its inputs by their places. -/
structure PJ (L : List Gate) (use : List Bool) (n i : Nat) (out : List Gate) (place : List Int) : Prop where
 len : place.length = n
 at_ : ∀ j (hj : j < L.length), j < i → use.getD j false = true → inB out (place.getD j 0) ∧ out[(place.getD j 0).toNat]? = some ⟨L[j].kind, L[j].lit, L[j].inp.map fun k => place.getD k.toNat 0⟩
 src : ∀ q, q < out.length → ∃ j, j < i ∧ use.getD j false = true ∧ place.getD j 0 = (q : Int)
 mono : ∀ j k, j < k → k < i → use.getD j false = true → use.getD k false = true → place.getD j 0 < place.getD k 0
 le : out.length ≤ i
 last : ∀ j, i = j + 1 → use.getD j false = true → 0 < out.length ∧ place.getD j 0 = ((out.length - 1 : Nat) : Int)
theorem place_oneN {N : Int} {L : List Gate} (hw : WfN N L) {use : List Bool} {n i : Nat} {out : List Gate} {place : List Int} (h : PJ L use n i out place) (hi : i < L.length) (hn : i < n)
  (hc : use.getD i false = true → ∀ x ∈ L[i].inp, use.getD x.toNat false = true) :
  if use.getD i false then PJ L use n (i + 1) (out ++ [⟨L[i].kind, L[i].lit, L[i].inp.map fun k => place.getD k.toNat 0⟩]) (place.set i (out.length : Int)) else PJ L use n (i + 1) out place := by
 by_cases hu : use.getD i false = true
 ·rw [if_pos hu]
  have hset : ∀ j, (place.set i (out.length : Int)).getD j 0 = if i = j then (out.length : Int) else place.getD j 0 := fun j => zFp _ _ _ _ (by rw [h.len]; exact hn)
  have hmap : ∀ j (hj : j < L.length), j ≤ i → (L[j].inp.map fun k => (place.set i (out.length : Int)).getD k.toNat 0) = L[j].inp.map fun k => place.getD k.toNat 0 := fun j hj hji =>
   List.map_congr_left (fun k hk => by
    have := (hw j L[j] (List.getElem?_eq_getElem hj)).1 k hk
    rw [hset, if_neg (by omega)])
  refine ⟨by rw [List.length_set]; exact h.len, fun j hj hji huj => ?_, fun q hq => ?_, fun j k hjk hki huj huk => ?_, by simp; have := h.le; omega, fun j hj huj => ?_⟩
  ·rw [hmap j hj (by omega), hset]
   by_cases e : i = j
   ·subst e
    rw [if_pos rfl]
    exact ⟨⟨by omega, by simp; omega⟩, by rw [Int.toNat_natCast]; simp⟩
   ·rw [if_neg e]
    obtain ⟨q1, q2⟩ := h.at_ j hj (by omega) huj
    exact ⟨⟨q1.1, by have := q1.2; rw [List.length_append, List.length_singleton]; omega⟩, by rw [List.getElem?_append_left (by have := q1.2; have := q1.1; omega)]; exact q2⟩
  ·rw [List.length_append, List.length_singleton] at hq
   by_cases e : q = out.length
   ·exact ⟨i, by omega, hu, by rw [hset, if_pos rfl, e]⟩
   ·obtain ⟨j, q1, q2, q3⟩ := h.src q (by omega)
    exact ⟨j, by omega, q2, by rw [hset, if_neg (by omega)]; exact q3⟩
  ·rw [hset, hset, if_neg (by omega)]
   by_cases e : i = k
   ·rw [if_pos e]
    have := (h.at_ j (by omega) (by omega) huj).1.2
    exact this
   ·rw [if_neg e]
    exact h.mono j k hjk (by omega) huj huk
  ·have e : i = j := by omega
   subst e
   rw [hset, if_pos rfl]
   simp
 ·rw [if_neg hu]
  refine ⟨h.len, fun j hj hji huj => ?_, fun q hq => ?_, fun j k hjk hki huj huk => ?_, by have := h.le; omega, fun j hj huj => ?_⟩
  ·by_cases e : i = j
   ·subst e; exact absurd huj hu
   ·exact h.at_ j hj (by omega) huj
  ·obtain ⟨j, q1, q2, q3⟩ := h.src q hq
   exact ⟨j, by omega, q2, q3⟩
  ·by_cases e : i = k
   ·subst e; exact absurd huk hu
   ·exact h.mono j k hjk (by omega) huj huk
  ·have e : i = j := by omega
   subst e; exact absurd huj hu
theorem zF1 {N : Int} {L : List Gate} (hw : WfN N L) {use : List Bool} {n : Nat} (hn : n ≤ L.length) (hc : ∀ i (hi : i < L.length), i < n → use.getD i false = true → ∀ x ∈ L[i].inp, use.getD x.toNat false = true) :
  ∀ (m i : Nat) (r : List Gate) (out : List Gate) (place : List Int), i + m = n → r = (L.take n).drop i → PJ L use n i out place → PJ L use n n (placeGo use r i (out, place)).1 (placeGo use r i (out, place)).2
 | 0, i, r, out, place, hm, hr, h => by
  have : r = [] := by rw [hr]; simp; omega
  rw [this]
  have e : i = n := by omega
  subst e
  exact h
 | m + 1, i, r, out, place, hm, hr, h => by
  have hi : i < L.length := by omega
  have h1 := place_oneN hw h hi (by omega) (hc i hi (by omega))
  have hr2 : r = L[i] :: (L.take n).drop (i + 1) := by
   rw [hr, List.drop_eq_getElem_cons (by simp; omega)]
   simp
  rw [hr2, placeGo]
  split
  ·rename_i hu
   rw [if_pos hu] at h1
   exact zF1 hw hn hc m (i + 1) _ _ _ (by omega) rfl h1
  ·rename_i hu
   rw [if_neg hu] at h1
   exact zF1 hw hn hc m (i + 1) _ _ _ (by omega) rfl h1
theorem need_net {N : Int} {L : List Gate} (hw : WfN N L) (hd : DD L) {root : Int} (hr : inB L root) :
  WfN N (neededG L root) ∧ DD (neededG L root) ∧ 0 < (neededG L root).length ∧ (neededG L root).length ≤ L.length ∧ (∀ s, nv (neededG L root) s (((neededG L root).length - 1 : Nat) : Int) = nv L s root) := by
 obtain ⟨n, hn⟩ : ∃ n, root.toNat = n := ⟨_, rfl⟩
 have h0 := hr.1
 have h1 := hr.2
 have hnl : n < L.length := by omega
 have hu := use_allN hw (n + 1) ((List.replicate (n + 1) false).set n true) (by simp) (by omega)
 have hroot : (useOf L n).getD n false = true := by
  unfold useOf
  rw [hu.2.2.1 n (Nat.le_refl _), zGu]
  simp
 have hclosed : ∀ i (hi : i < L.length), i < n + 1 → (useOf L n).getD i false = true → ∀ x ∈ L[i].inp, (useOf L n).getD x.toNat false = true := fun i hi hin hv => hu.2.2.2 i hi hin hv
 have hp := zF1 hw (use := useOf L n) (n := n + 1) (by omega) hclosed (n + 1) 0 (L.take (n + 1)) [] (List.replicate (n + 1) 0) (by omega) rfl
  ⟨by simp, fun j hj hji => by omega, fun q hq => by simp at hq, fun j k hjk hki => by omega, Nat.le_refl _, fun j hj => by omega⟩
 have hdef : neededG L root = (placeGo (useOf L n) (L.take (n + 1)) 0 ([], List.replicate (n + 1) 0)).1 := by unfold neededG; rw [hn]
 rw [hdef]
 generalize placeGo (useOf L n) (L.take (n + 1)) 0 ([], List.replicate (n + 1) 0) = q at hp
 obtain ⟨out, place⟩ := q
 dsimp only at hp ⊢
 generalize useOf L n = use at hp hroot hclosed
 have hget : ∀ (q : Nat) (g : Gate), out[q]? = some g → ∃ j, ∃ hj : j < L.length, j < n + 1 ∧ use.getD j false = true ∧ place.getD j 0 = (q : Int) ∧ g = ⟨L[j].kind, L[j].lit, L[j].inp.map fun k => place.getD k.toNat 0⟩ := fun q g hg => by
  obtain ⟨j, q1, q2, q3⟩ := hp.src q (List.getElem?_eq_some_iff.1 hg).1
  have h2 := (hp.at_ j (by omega) q1 q2).2
  rw [q3, Int.toNat_natCast, hg] at h2
  exact ⟨j, by omega, q1, q2, q3, Option.some.inj h2⟩
 have hin : ∀ j (hj : j < L.length), j < n + 1 → use.getD j false = true → ∀ k ∈ L[j].inp, k.toNat < n + 1 ∧ use.getD k.toNat false = true ∧ k.toNat < j ∧ 0 ≤ k := fun j hj hjn huj k hk => by
  have := (hw j L[j] (List.getElem?_eq_getElem hj)).1 k hk
  exact ⟨by omega, hclosed j hj hjn huj k hk, by omega, this.1⟩
 have hwo : WfN N out := fun q g hg => by
  obtain ⟨j, hj, hjn, huj, hpj, rfl⟩ := hget q g hg
  have hok := hw j L[j] (List.getElem?_eq_getElem hj)
  refine ⟨fun k hk => ?_, ?_⟩
  ·obtain ⟨x, hx, rfl⟩ := List.mem_map.1 hk
   obtain ⟨a1, a2, a3, a4⟩ := hin j hj hjn huj x hx
   have := hp.mono x.toNat j a3 hjn a2 huj
   exact ⟨(hp.at_ x.toNat (by omega) a1 a2).1.1, by rw [← hpj]; exact this⟩
  ·rcases hok.2 with ⟨a, b, c⟩ | ⟨a, b, c⟩ | ⟨a, b⟩
   ·exact .inl ⟨a, b, by simp [c]⟩
   ·exact .inr (.inl ⟨a, b, by simp [c]⟩)
   ·exact .inr (.inr ⟨a, b⟩)
 have hsem : ∀ (m j : Nat), j < m → (hj : j < L.length) → j < n + 1 → use.getD j false = true → (∀ s, nv out s (place.getD j 0) = nv L s (j : Int)) ∧ own out (place.getD j 0) = own L (j : Int) := fun m => by
  induction m with
  | zero => intro j h; omega
  | succ m ih =>
   intro j hjm hj hjn huj
   obtain ⟨hb, hg⟩ := hp.at_ j hj hjn huj
   have hgl := List.getElem?_eq_getElem hj
   have hkid : ∀ k ∈ L[j].inp, (∀ s, nv out s (place.getD k.toNat 0) = nv L s k) ∧ own out (place.getD k.toNat 0) = own L k := fun k hk => by
    obtain ⟨a1, a2, a3, a4⟩ := hin j hj hjn huj k hk
    have := ih k.toNat (by omega) (by omega) a1 a2
    rwa [Int.toNat_of_nonneg a4] at this
   have hcast : ((place.getD j 0).toNat : Int) = place.getD j 0 := Int.toNat_of_nonneg hb.1
   refine ⟨fun s => ?_, VS.ext_has (fun v hv1 hv2 => ?_)⟩
   ·rw [← hcast, nv_at hwo s hg, nv_at hw s hgl]
    have h1 : (L[j].inp.map fun k => place.getD k.toNat 0).all (bv (nvTo out s out.length)) = L[j].inp.all (bv (nvTo L s L.length)) := by
     rw [List.all_map, Bool.eq_iff_iff, List.all_eq_true, List.all_eq_true]
     exact ⟨fun h k hk => ((hkid k hk).1 s).symm.trans (h k hk), fun h k hk => ((hkid k hk).1 s).trans (h k hk)⟩
    have h2 : (L[j].inp.map fun k => place.getD k.toNat 0).any (bv (nvTo out s out.length)) = L[j].inp.any (bv (nvTo L s L.length)) := by
     rw [List.any_map, Bool.eq_iff_iff, List.any_eq_true, List.any_eq_true]
     exact ⟨fun ⟨k, hk, h⟩ => ⟨k, hk, ((hkid k hk).1 s).symm.trans h⟩, fun ⟨k, hk, h⟩ => ⟨k, hk, ((hkid k hk).1 s).trans h⟩⟩
    unfold nodeV
    dsimp only
    rw [h1, h2]
   ·rw [Bool.eq_iff_iff, ← hcast, zG8 hwo hg v, zG8 hw hgl v]
    dsimp only
    refine or_congr Iff.rfl ⟨?_, ?_⟩
    ·rintro ⟨k, hk, h⟩
     obtain ⟨x, hx, rfl⟩ := List.mem_map.1 hk
     exact ⟨x, hx, by rw [← (hkid x hx).2]; exact h⟩
    ·rintro ⟨k, hk, h⟩
     exact ⟨_, List.mem_map.2 ⟨k, hk, rfl⟩, by rw [(hkid k hk).2]; exact h⟩
 obtain ⟨l1, l2⟩ := hp.last n rfl hroot
 refine ⟨hwo, fun q g hg => ?_, l1, by have := hp.le; omega, fun s => ?_⟩
 ·obtain ⟨j, hj, hjn, huj, hpj, rfl⟩ := hget q g hg
  obtain ⟨d1, d2⟩ := hd j L[j] (List.getElem?_eq_getElem hj)
  have hkid : ∀ k ∈ L[j].inp, (∀ s, nv out s (place.getD k.toNat 0) = nv L s k) ∧ own out (place.getD k.toNat 0) = own L k := fun k hk => by
   obtain ⟨a1, a2, a3, a4⟩ := hin j hj hjn huj k hk
   have := hsem (k.toNat + 1) k.toNat (by omega) (by omega) a1 a2
   rwa [Int.toNat_of_nonneg a4] at this
  refine ⟨fun e => List.pairwise_map.2 ((d1 e).imp_of_mem (fun {a b} ha hb r v => ?_)), fun e => List.pairwise_map.2 ((d2 e).imp_of_mem (fun {a b} ha hb r s => ?_))⟩
  ·rw [(hkid a ha).2, (hkid b hb).2]; exact r v
  ·rw [(hkid a ha).1, (hkid b hb).1]; exact r s
 ·rw [← l2, (hsem (n + 1) n (by omega) hnl (by omega) hroot).1 s, ← hn, Int.toNat_of_nonneg h0]
def netT (ts : List TN) : List Gate := neededG (treeN ts).1 (treeN ts).2
theorem netT_law {ts : List TN} {N : Int} {A : Nat → VS} (hV : ValT ts N A) (hN : N ≤ 128) : WfN N (netT ts) ∧ DD (netT ts) ∧ 0 < (netT ts).length ∧ (netT ts).length ≤ 5 * ts.length ∧ ∀ s, nv (netT ts) s (((netT ts).length - 1 : Nat) : Int) = clsA ts s 0 := by
 obtain ⟨h1, h2, h3, h4, h5⟩ := treeN_law hV hN
 obtain ⟨q1, q2, q3, q4, q5⟩ := need_net h1 h2 h4
 exact ⟨q1, q2, q3, Nat.le_trans q4 h3, fun s => (q5 s).trans (h5 s)⟩
end Go.Proofs.YtliiclmhpphpmaaGreatDoor
namespace Go.Proofs.YtliiclmhpphpmaaGreatDoor
open Go
def gvl (G : List Gate) (s : VS) (i : Int) : Bool := (valsTo G s G.length).getD i.toNat false
def GoodL (n : Int) (G : List Gate) : Prop := ∀ (i : Nat) (g : Gate), G[i]? = some g → goodGate n i g = true ∧ g.inp.length ≤ 3
theorem zHy (G M : List Gate) (s : VS) : ∀ k, k ≤ G.length → valsTo (G ++ M) s k = valsTo G s k
 | 0, _ => rfl
 | k + 1, h => by
  unfold valsTo
  rw [zHy G M s k (by omega), List.getElem?_append_left (by omega)]
theorem zEi {G M : List Gate} (s : VS) {i : Int} (h : inB G i) : gvl (G ++ M) s i = gvl G s i := by
 obtain ⟨h0, h1⟩ := h
 unfold gvl
 rw [valsTo_getD (G ++ M) s i.toNat G.length (G ++ M).length (by omega) (by simp), zHy G M s _ (Nat.le_refl _)]
theorem gvl_new (G : List Gate) (g : Gate) (s : VS) : gvl (G ++ [g]) s (G.length : Int) = valueOf g s (valsTo G s G.length) := by
 unfold gvl
 rw [Int.toNat_natCast, show (G ++ [g]).length = G.length + 1 by simp, valsTo_last _ s _ (by simp), zHy G [g] s _ (Nat.le_refl _)]
 simp
theorem zIr {G : List Gate} (M : List Gate) {i : Int} (h : inB G i) : inB (G ++ M) i := ⟨h.1, by rw [List.length_append]; have := h.2; omega⟩
structure AddedG (n : Int) (G : List Gate) (q : List Gate × Int) (val : VS → Bool) : Prop where
 ext : ∃ M, q.1 = G ++ M
 good : GoodL n q.1
 at_ : inB q.1 q.2
 val : ∀ s, gvl q.1 s q.2 = val s
section
variable {n : Int} {G : List Gate}
theorem zJf (hG : GoodL n G) (hl : G.length ≤ 4096) {g : Gate} (hg : goodGate n (G.length : Int) g = true) (h3 : g.inp.length ≤ 3) : AddedG n G (addG G g) (fun s => valueOf g s (valsTo G s G.length)) := by
 unfold addG
 rw [if_pos hl]
 refine ⟨⟨[g], rfl⟩, fun i h hi => ?_, ⟨by show (0 : Int) ≤ (G.length : Int); omega, by show (G.length : Int) < ((G ++ [g]).length : Int); simp; omega⟩, fun s => gvl_new G g s⟩
 by_cases e : i < G.length
 ·rw [List.getElem?_append_left e] at hi; exact hG i h hi
 ·have e2 : i = G.length := by
   have := (List.getElem?_eq_some_iff.1 hi).1
   simp at this; omega
  subst e2
  rw [List.getElem?_append_right (Nat.le_refl _)] at hi
  simp at hi
  subst hi
  exact ⟨hg, h3⟩
theorem choose_g (hG : GoodL n G) (hl : G.length ≤ 4096) {a b c : Int} (ha : inB G a) (hb : inB G b) (hc : inB G c) : AddedG n G (chooseG3 G a b c) (fun s => if gvl G s a then gvl G s b else gvl G s c) := by
 unfold chooseG3
 by_cases h : b = c
 ·rw [if_pos h]
  exact ⟨⟨[], by simp⟩, hG, hb, fun s => by subst h; show gvl G s b = _; split <;> rfl⟩
 ·rw [if_neg h]
  have hgood : goodGate n (G.length : Int) ⟨8, 0, [a, b, c]⟩ = true := by
   have h1 : allowedB 8 3 = true := by decide
   unfold inB at ha hb hc
   unfold goodGate litGood inOk
   simp [h1]; omega
  refine ⟨(zJf hG hl hgood (by simp)).ext, (zJf hG hl hgood (by simp)).good, (zJf hG hl hgood (by simp)).at_, fun s => ?_⟩
  rw [(zJf hG hl hgood (by simp)).val s]
  exact (show ∀ v : List Bool, valueOf ⟨8, 0, [a, b, c]⟩ s v = if v.getD a.toNat false then v.getD b.toNat false else v.getD c.toNat false from fun _ => rfl) _
theorem ask_g (hG : GoodL n G) (hl : G.length ≤ 4090) {v no yes : Int} (h1 : 1 ≤ v) (h2 : v ≤ n) (hn : n ≤ 128) (hno : inB G no) (hyes : inB G yes) : AddedG n G (askG G v no yes) (fun s => if s.has v then gvl G s yes else gvl G s no) := by
 have hlv : litVar v = v := by unfold litVar; rw [if_pos (by omega)]
 have hgood : goodGate n (G.length : Int) ⟨2, v, []⟩ = true := by
  have e1 : allowedB 2 0 = true := by decide
  unfold goodGate litGood litOk
  rw [hlv]
  simp [e1]; omega
 have a1 := zJf hG (by omega) hgood (by simp)
 obtain ⟨M1, e1⟩ := a1.ext
 have l1 := (zFv G ⟨2, v, []⟩).2.1
 have hin : ∀ {i : Int}, inB G i → inB (addG G ⟨2, v, []⟩).1 i := fun h => by rw [e1]; exact zIr _ h
 have a2 := choose_g a1.good (by omega) a1.at_ (hin hyes) (hin hno)
 obtain ⟨M2, e2⟩ := a2.ext
 unfold askG
 refine ⟨⟨M1 ++ M2, by rw [e2, e1, List.append_assoc]⟩, a2.good, a2.at_, fun s => ?_⟩
 rw [a2.val s]
 have p1 : gvl (addG G ⟨2, v, []⟩).1 s yes = gvl G s yes := by rw [e1]; exact zEi s hyes
 have p2 : gvl (addG G ⟨2, v, []⟩).1 s no = gvl G s no := by rw [e1]; exact zEi s hno
 have p3 : gvl (addG G ⟨2, v, []⟩).1 s (addG G ⟨2, v, []⟩).2 = s.has v := by
  rw [a1.val s]
  unfold valueOf litHolds
  rw [hlv]
  simp [show (0 : Int) < v by omega, show v ≠ 0 by omega]
 rw [p1, p2, p3]
end
structure Base (n : Int) (G : List Gate) : Prop where
 good : GoodL n G
 two : 2 ≤ G.length
 zero : ∀ s, gvl G s 0 = false
 one : ∀ s, gvl G s 1 = true
theorem Base.ext {n : Int} {G C : List Gate} (h : Base n G) (hC : GoodL n C) (he : ∃ M, C = G ++ M) : Base n C := by
 obtain ⟨M, rfl⟩ := he
 exact ⟨hC, by have := h.two; simp; omega, fun s => by rw [zEi s ⟨by decide, by have := h.two; omega⟩]; exact h.zero s, fun s => by rw [zEi s ⟨by decide, by have := h.two; omega⟩]; exact h.one s⟩
structure FG (ts : List TN) (n : Int) (G : List Gate) (m : Nat) (q : List Gate × List Int) : Prop where
 ext : ∃ M, q.1 = G ++ M
 good : GoodL n q.1
 len : q.2.length = ts.length
 at_ : ∀ i, i < ts.length → ts.length ≤ i + m → inB q.1 (q.2.getD i 0) ∧ ∀ s, gvl q.1 s (q.2.getD i 0) = clsA ts s i
section
variable {ts : List TN} {n : Int} {A : Nat → VS} {G : List Gate}
theorem fg_step {m : Nat} {q : List Gate × List Int} (h : FG ts n G m q) (hm : m < ts.length) {r : List Gate × Int} {val : VS → Bool} (a : AddedG n q.1 r val) (hv : ∀ s, val s = clsA ts s (ts.length - 1 - m)) : FG ts n G (m + 1) (r.1, q.2.set (ts.length - 1 - m) r.2) := by
 obtain ⟨M, e⟩ := h.ext
 obtain ⟨M2, e2⟩ := a.ext
 refine ⟨⟨M ++ M2, by show r.1 = _; rw [e2, e, List.append_assoc]⟩, a.good, by show (List.set _ _ _).length = _; rw [List.length_set]; exact h.len, fun i hi hi2 => ?_⟩
 show inB r.1 ((q.2.set (ts.length - 1 - m) r.2).getD i 0) ∧ _
 rw [zFp _ _ _ _ (by rw [h.len]; omega)]
 by_cases e3 : ts.length - 1 - m = i
 ·rw [if_pos e3]
  exact ⟨a.at_, fun s => by show gvl r.1 s _ = _; rw [a.val s, hv s, e3]⟩
 ·rw [if_neg e3]
  obtain ⟨q1, q2⟩ := h.at_ i hi (by omega)
  refine ⟨by rw [e2]; exact zIr _ q1, fun s => ?_⟩
  show gvl r.1 s _ = _
  rw [e2, zEi s q1]; exact q2 s
theorem foldG_inv (hV : ValT ts n A) (hn : n ≤ 128) (hG : Base n G) (hl : G.length + 2 * ts.length ≤ 4000) : ∀ m, m ≤ ts.length → FG ts n G m (foldG ts G m)
 | 0, _ => ⟨⟨[], by simp [foldG]⟩, hG.good, by simp [foldG], fun i h1 h2 => by omega⟩
 | m + 1, hm => by
  have ih := foldG_inv hV hn hG hl m (by omega)
  have hsm := zE1 ts G m
  have hi : ts.length - 1 - m < ts.length := by omega
  have hx := List.getElem?_eq_getElem hi
  unfold foldG
  rw [hx]
  dsimp only
  rcases hV.kind _ _ hx with ⟨hv, _, _⟩ | ⟨_, hv1, hv2, a, b, ea, eb, q1, q2, q3, q4, _⟩
  ·rw [if_pos hv]
   have hb := hG.ext ih.good ih.ext
   have ha : AddedG n (foldG ts G m).1 ((foldG ts G m).1, if (ts[ts.length - 1 - m]).c then 1 else 0) (fun _ => (ts[ts.length - 1 - m]).c) := by
    refine ⟨⟨[], by simp⟩, ih.good, ?_, fun s => ?_⟩
    ·have := hb.two
     split
     ·exact ⟨by show (0 : Int) ≤ 1; decide, by show (1 : Int) < ((foldG ts G m).1.length : Int); omega⟩
     ·exact ⟨by show (0 : Int) ≤ 0; decide, by show (0 : Int) < ((foldG ts G m).1.length : Int); omega⟩
    ·cases hc : (ts[ts.length - 1 - m]).c
     ·exact hb.zero s
     ·exact hb.one s
   exact fg_step ih (by omega) ha (fun s => (zHn hV s hx hv).symm)
  ·rw [if_neg (by omega)]
   rw [ea, eb]
   simp only [Int.toNat_natCast]
   have na := ih.at_ a (by omega) (by omega)
   have nb := ih.at_ b (by omega) (by omega)
   exact fg_step ih (by omega) (ask_g ih.good (by omega) hv1 hv2 hn na.1 nb.1) (fun s => by
    rw [zGx hV s hx (by omega) ea eb]
    show (if s.has _ then _ else _) = _
    rw [na.2, nb.2]
    split <;> rfl)
theorem tree_g (hV : ValT ts n A) (hn : n ≤ 128) (hG : Base n G) (hl : G.length + 2 * ts.length ≤ 4000) : AddedG n G (treeG ts G) (fun s => clsA ts s 0) := by
 have h := foldG_inv hV hn hG hl ts.length (Nat.le_refl _)
 have h0 := h.at_ 0 hV.pos (by omega)
 exact ⟨h.ext, h.good, h0.1, h0.2⟩
end
structure LG (n : Int) (G : List Gate) (r : Int) (K : Nat) (lv : Nat → VS → Bool) (q : Nat) (p : List Gate × List Int) : Prop where
 ext : ∃ M, p.1 = G ++ M
 good : GoodL n p.1
 len : p.2.length = K + 1
 at_ : ∀ k, k ≤ K → inB p.1 (p.2.getD k 0) ∧ ∀ s, gvl p.1 s (p.2.getD k 0) = if K < k + q then (if gvl G s r then lv (k - 1) s else lv k s) else lv k s
theorem lest_inv {n : Int} {G : List Gate} {r : Int} {K : Nat} {l : List Int} {lv : Nat → VS → Bool} (hG : GoodL n G) (hr : inB G r) (hl : l.length = K + 1) (hat : ∀ k, k ≤ K → inB G (l.getD k 0) ∧ ∀ s, gvl G s (l.getD k 0) = lv k s) (hs : G.length + K ≤ 4000) :
  ∀ q, q ≤ K → LG n G r K lv q (lestG r K G l q)
 | 0, _ => ⟨⟨[], by simp [lestG]⟩, hG, hl, fun k hk => ⟨(hat k hk).1, fun s => by rw [if_neg (by omega)]; exact (hat k hk).2 s⟩⟩
 | q + 1, hq => by
  have ih := lest_inv hG hr hl hat hs q (by omega)
  have hsm := zF7 r K G l q
  obtain ⟨M, e⟩ := ih.ext
  have hr2 : inB (lestG r K G l q).1 r := by rw [e]; exact zIr _ hr
  have n1 := ih.at_ (K - q - 1) (by omega)
  have n2 := ih.at_ (K - q) (by omega)
  have a := choose_g ih.good (by omega) hr2 n1.1 n2.1
  obtain ⟨M2, e2⟩ := a.ext
  unfold lestG
  refine ⟨⟨M ++ M2, by show (chooseG3 _ _ _ _).1 = _; rw [e2]; rw [e, List.append_assoc]⟩, a.good, by show (List.set _ _ _).length = _; rw [List.length_set]; exact ih.len, fun k hk => ?_⟩
  show inB (chooseG3 (lestG r K G l q).1 r ((lestG r K G l q).2.getD (K - q - 1) 0) ((lestG r K G l q).2.getD (K - q) 0)).1 (((lestG r K G l q).2.set (K - q) (chooseG3 (lestG r K G l q).1 r ((lestG r K G l q).2.getD (K - q - 1) 0) ((lestG r K G l q).2.getD (K - q) 0)).2).getD k 0) ∧ _
  rw [zFp _ _ _ _ (by rw [ih.len]; omega)]
  by_cases e3 : K - q = k
  ·rw [if_pos e3]
   refine ⟨a.at_, fun s => ?_⟩
   show gvl (chooseG3 _ _ _ _).1 s _ = _
   rw [a.val s, n1.2 s, n2.2 s, if_neg (show ¬ K < K - q - 1 + q by omega), if_neg (show ¬ K < K - q + q by omega), if_pos (show K < k + (q + 1) by omega), ← e3]
   have er : gvl (lestG r K G l q).1 s r = gvl G s r := by rw [e]; exact zEi s hr
   rw [er]
  ·rw [if_neg e3]
   obtain ⟨q1, q2⟩ := ih.at_ k hk
   refine ⟨by rw [e2]; exact zIr _ q1, fun s => ?_⟩
   show gvl (chooseG3 _ _ _ _).1 s _ = _
   rw [e2, zEi s q1, q2 s]
   by_cases e4 : K < k + q
   ·rw [if_pos e4, if_pos (show K < k + (q + 1) by omega)]
   ·rw [if_neg e4, if_neg (show ¬ K < k + (q + 1) by omega)]
structure VG (fs : List (List TN)) (n : Int) (j : Nat) (p : List Gate × List Int) : Prop where
 base : Base n p.1
 len : p.2.length = j + 1
 at_ : ∀ k, k ≤ j → inB p.1 (p.2.getD k 0) ∧ ∀ s, gvl p.1 s (p.2.getD k 0) = decide (k ≤ votesOf (fs.take j) s)
section
variable {fs : List (List TN)} {n : Int}
theorem zIg (hn0 : 0 ≤ n) (hn : n ≤ 128) (hall : ∀ ts ∈ fs, chkT ts n = 0 ∧ ts.length ≤ 30) (hlen : fs.length ≤ 5) : ∀ j, j ≤ fs.length → VG fs n j (forG fs j)
 | 0, _ => by
  refine ⟨⟨fun i g h => ?_, by simp [forG], fun s => rfl, fun s => rfl⟩, rfl, fun k hk => ?_⟩
  ·have hi : i = 0 ∨ i = 1 := by
    have := (List.getElem?_eq_some_iff.1 h).1
    simp [forG] at this; omega
   rcases hi with rfl | rfl
   ·simp [forG] at h; subst h; exact ⟨rfl, by decide⟩
   ·simp [forG] at h; subst h; exact ⟨rfl, by decide⟩
  ·have hk0 : k = 0 := by omega
   subst hk0
   exact ⟨⟨by show (0 : Int) ≤ 1; decide, by show (1 : Int) < 2; decide⟩, fun s => by rw [decide_eq_true (Nat.zero_le _)]; rfl⟩
 | j + 1, hj => by
  have ih := zIg hn0 hn hall hlen j (by omega)
  have hx := List.getElem?_eq_getElem (show j < fs.length by omega)
  have hsm := zEk (fun ts h => (hall ts h).2) hlen j (by omega)
  obtain ⟨hck, h30⟩ := hall fs[j] (List.getElem_mem _)
  obtain ⟨c1, c2, c3, c4, c5⟩ := zEp.1 hck
  obtain ⟨A, hV⟩ := zGz c4 c5
  have tg := tree_g hV hn ih.base (by omega)
  have tl := zE1 fs[j] (forG fs j).1 fs[j].length
  have hl := ih.len
  obtain ⟨M, e⟩ := tg.ext
  have hb2 := ih.base.ext tg.good tg.ext
  have hlv : ∀ k, k ≤ j + 1 → inB (treeG fs[j] (forG fs j).1).1 (((forG fs j).2 ++ [0]).getD k 0) ∧ ∀ s, gvl (treeG fs[j] (forG fs j).1).1 s (((forG fs j).2 ++ [0]).getD k 0) = decide (k ≤ votesOf (fs.take j) s) := fun k hk => by
   by_cases hkj : k ≤ j
   ·have e4 : ((forG fs j).2 ++ [0]).getD k 0 = (forG fs j).2.getD k 0 := by
     rw [List.getD_eq_getElem?_getD, List.getD_eq_getElem?_getD, List.getElem?_append_left (by omega)]
    obtain ⟨q1, q2⟩ := ih.at_ k hkj
    rw [e4]
    refine ⟨by rw [e]; exact zIr _ q1, fun s => ?_⟩
    rw [e, zEi s q1]; exact q2 s
   ·have hk2 : k = j + 1 := by omega
    subst hk2
    have e4 : ((forG fs j).2 ++ [0]).getD (j + 1) 0 = 0 := by
     rw [List.getD_eq_getElem?_getD, List.getElem?_append_right (by omega), hl]; simp
    rw [e4]
    refine ⟨⟨by decide, by have := hb2.two; omega⟩, fun s => ?_⟩
    rw [hb2.zero s]
    have hle := zHw (fs.take j) s
    rw [List.length_take] at hle
    exact (decide_eq_false (by omega)).symm
  have lg := lest_inv (r := (treeG fs[j] (forG fs j).1).2) (K := j + 1) (l := (forG fs j).2 ++ [0]) tg.good tg.at_ (by simp [hl]) hlv (by unfold treeG; dsimp only; omega) (j + 1) (Nat.le_refl _)
  unfold forG
  rw [hx]
  dsimp only
  rw [hl]
  refine ⟨hb2.ext lg.good lg.ext, lg.len, fun k hk => ⟨(lg.at_ k hk).1, fun s => ?_⟩⟩
  rw [(lg.at_ k hk).2 s, tg.val s, votes_step hx s]
  have hcls : classOf fs[j] s = clsA fs[j] s 0 := zFc (chkT_more hck) s
  rw [hcls]
  by_cases hk0 : k = 0
  ·subst hk0
   rw [if_neg (show ¬ j + 1 < 0 + (j + 1) by omega), decide_eq_true (Nat.zero_le _), decide_eq_true (Nat.zero_le _)]
  ·rw [if_pos (show j + 1 < k + (j + 1) by omega)]
   cases clsA fs[j] s 0
   ·simp
   ·simp
theorem forest_ck (hn0 : 0 ≤ n) (hn : n ≤ 128) (hall : ∀ ts ∈ fs, chkT ts n = 0 ∧ ts.length ≤ 30) (hlen : fs.length ≤ 5) : checkOf n (forestG fs) = 0 := by
 have h := zIg hn0 hn hall hlen fs.length (Nat.le_refl _)
 have hsm := zEk (fun ts h => (hall ts h).2) hlen fs.length (Nat.le_refl _)
 obtain ⟨c, hc⟩ : ∃ c, c = (forG fs fs.length).2.getD (fs.length / 2 + 1) 0 := ⟨_, rfl⟩
 have hin : inB (forG fs fs.length).1 c ∧ ∀ s, gvl (forG fs fs.length).1 s c = voteOf fs s := by
  unfold voteOf
  by_cases h0 : fs.length = 0
  ·have e1 : fs = [] := List.length_eq_zero_iff.1 h0
   subst e1
   have : c = 0 := by rw [hc]; rfl
   subst this
   exact ⟨⟨by decide, by have := h.base.two; omega⟩, fun s => by rw [h.base.zero s]; simp [votesOf]⟩
  ·have := h.at_ (fs.length / 2 + 1) (by omega)
   rw [← hc, List.take_length] at this
   refine ⟨this.1, fun s => ?_⟩
   rw [this.2 s]
   exact decide_eq_decide.2 (by omega)
 have hgood : goodGate n ((forG fs fs.length).1.length : Int) ⟨4, 0, [c]⟩ = true := by
  have e1 : allowedB 4 1 = true := by decide
  have := hin.1
  unfold inB at this
  unfold goodGate litGood inOk
  simp [e1]; omega
 have a := zJf h.base.good (by omega) hgood (by simp)
 have hf : forestG fs = (addG (forG fs fs.length).1 ⟨4, 0, [c]⟩).1 := by unfold forestG; rw [hc]
 have hadd : addG (forG fs fs.length).1 ⟨4, 0, [c]⟩ = ((forG fs fs.length).1 ++ [⟨4, 0, [c]⟩], ((forG fs fs.length).1.length : Int)) := by unfold addG; rw [if_pos (by omega)]
 rw [hadd] at a
 have hf2 : forestG fs = (forG fs fs.length).1 ++ [⟨4, 0, [c]⟩] := by rw [hf, hadd]
 have hlen2 : (forestG fs).length = (forG fs fs.length).1.length + 1 := by rw [hf2]; simp
 have hgl : GoodL n (forestG fs) := by rw [hf2]; exact a.good
 have hsz : ∀ k, k ≤ (forestG fs).length → sizeTo (forestG fs) k ≤ 3 * k := fun k => by
  induction k with
  | zero => intro _; rw [zE6]; omega
  | succ k ih =>
   intro hk
   rw [zD2 _ k (by omega)]
   have := (hgl k _ (List.getElem?_eq_getElem (show k < (forestG fs).length by omega))).2
   have := ih (by omega)
   omega
 have hck : checkOf n (forestG fs) = 0 := by
  unfold checkOf
  have h1 := hsz (forestG fs).length (Nat.le_refl _)
  have h2 : sizeOf (forestG fs) = sizeTo (forestG fs) (forestG fs).length := rfl
  rw [if_neg (by omega), if_neg (by omega), if_neg (by omega), if_pos]
  exact (zE0 _ _ _).2 fun k hk => by
   rw [zEj n _ k hk]
   exact (hgl k _ (List.getElem?_eq_getElem hk)).1
 exact hck
theorem eval_forest (hn0 : 0 ≤ n) (hn : n ≤ 128) (hall : ∀ ts ∈ fs, chkT ts n = 0 ∧ ts.length ≤ 30) (hlen : fs.length ≤ 5) {s : VS} (hs : s.sub (VS.all n) = true) : evalOf n (forestG fs) s = voteOf fs s := by
 have h := zIg hn0 hn hall hlen fs.length (Nat.le_refl _)
 have hsm := zEk (fun ts h => (hall ts h).2) hlen fs.length (Nat.le_refl _)
 obtain ⟨c, hc⟩ : ∃ c, c = (forG fs fs.length).2.getD (fs.length / 2 + 1) 0 := ⟨_, rfl⟩
 have hin : inB (forG fs fs.length).1 c ∧ ∀ s, gvl (forG fs fs.length).1 s c = voteOf fs s := by
  unfold voteOf
  by_cases h0 : fs.length = 0
  ·have e1 : fs = [] := List.length_eq_zero_iff.1 h0
   subst e1
   have : c = 0 := by rw [hc]; rfl
   subst this
   exact ⟨⟨by decide, by have := h.base.two; omega⟩, fun s => by rw [h.base.zero s]; simp [votesOf]⟩
  ·have := h.at_ (fs.length / 2 + 1) (by omega)
   rw [← hc, List.take_length] at this
   refine ⟨this.1, fun s => ?_⟩
   rw [this.2 s]
   exact decide_eq_decide.2 (by omega)
 have hgood : goodGate n ((forG fs fs.length).1.length : Int) ⟨4, 0, [c]⟩ = true := by
  have e1 : allowedB 4 1 = true := by decide
  have := hin.1
  unfold inB at this
  unfold goodGate litGood inOk
  simp [e1]; omega
 have a := zJf h.base.good (by omega) hgood (by simp)
 have hf : forestG fs = (addG (forG fs fs.length).1 ⟨4, 0, [c]⟩).1 := by unfold forestG; rw [hc]
 have hadd : addG (forG fs fs.length).1 ⟨4, 0, [c]⟩ = ((forG fs fs.length).1 ++ [⟨4, 0, [c]⟩], ((forG fs fs.length).1.length : Int)) := by unfold addG; rw [if_pos (by omega)]
 rw [hadd] at a
 have hf2 : forestG fs = (forG fs fs.length).1 ++ [⟨4, 0, [c]⟩] := by rw [hf, hadd]
 have hlen2 : (forestG fs).length = (forG fs fs.length).1.length + 1 := by rw [hf2]; simp
 have hgl : GoodL n (forestG fs) := by rw [hf2]; exact a.good
 have hsz : ∀ k, k ≤ (forestG fs).length → sizeTo (forestG fs) k ≤ 3 * k := fun k => by
  induction k with
  | zero => intro _; rw [zE6]; omega
  | succ k ih =>
   intro hk
   rw [zD2 _ k (by omega)]
   have := (hgl k _ (List.getElem?_eq_getElem (show k < (forestG fs).length by omega))).2
   have := ih (by omega)
   omega
 have hck : checkOf n (forestG fs) = 0 := by
  unfold checkOf
  have h1 := hsz (forestG fs).length (Nat.le_refl _)
  have h2 : sizeOf (forestG fs) = sizeTo (forestG fs) (forestG fs).length := rfl
  rw [if_neg (by omega), if_neg (by omega), if_neg (by omega), if_pos]
  exact (zE0 _ _ _).2 fun k hk => by
   rw [zEj n _ k hk]
   exact (hgl k _ (List.getElem?_eq_getElem hk)).1
 unfold evalOf
 rw [hs, hck]
 simp only [decide_true, Bool.true_and]
 have hv := a.val s
 have e5 : valOf (forestG fs) s ((forestG fs).length - 1) = gvl ((forG fs fs.length).1 ++ [⟨4, 0, [c]⟩]) s ((forG fs fs.length).1.length : Int) := by
  unfold valOf gvl
  rw [hf2, Int.toNat_natCast]
  simp
 rw [e5]
 rw [show gvl ((forG fs fs.length).1 ++ [⟨4, 0, [c]⟩]) s ((forG fs fs.length).1.length : Int) = _ from hv]
 rw [← hin.2 s]
 have hfin : ∀ (v : List Bool), valueOf ⟨4, 0, [c]⟩ s v = v.getD c.toNat false := fun v => by
  have h1 : valueOf ⟨4, 0, [c]⟩ s v = decide (onesOf [v.getD c.toNat false] = 1) := rfl
  rw [h1]
  cases v.getD c.toNat false <;> decide
 rw [hfin]
 rfl
end
end Go.Proofs.YtliiclmhpphpmaaGreatDoor
namespace Go.Proofs.YtliiclmhpphpmaaGreatDoor
open Go
def asg (j : Nat) : VS := ⟨BitVec.ofNat 64 j, 0#64⟩
theorem zIl (j : Nat) (v : Int) : (asg j).has v = (decide (1 ≤ v ∧ v ≤ 64) && j.testBit (v.toNat - 1)) := by
 unfold VS.has asg
 by_cases h : 1 ≤ v ∧ v ≤ 64
 ·rw [if_pos h]
  simp only [BitVec.getLsbD_ofNat, h]
  simp [show v.toNat - 1 < 64 by omega]
 ·rw [if_neg h]
  simp [h]
def cntR : Nat → (Nat → Bool) → Nat
 | 0, f => if f 0 then 1 else 0
 | n + 1, f => cntR n f + cntR n (fun j => f (2 ^ n + j))
theorem zHk : ∀ (n : Nat) (f : Nat → Bool), (List.range (2 ^ n)).countP f = cntR n f
 | 0, f => by
  show (List.range 1).countP f = _
  cases h : f 0 <;> simp [cntR, h, List.range_succ]
 | n + 1, f => by
  rw [show 2 ^ (n + 1) = 2 ^ n + 2 ^ n by rw [Nat.pow_succ]; omega, List.range_add, List.countP_append, List.countP_map, zHk n f, zHk n]
  rfl
theorem zBu : ∀ (n : Nat) {f g : Nat → Bool}, (∀ j, j < 2 ^ n → f j = g j) → cntR n f = cntR n g
 | 0, f, g, h => by unfold cntR; rw [h 0 (by decide)]
 | n + 1, f, g, h => by
  have e : 2 ^ (n + 1) = 2 ^ n + 2 ^ n := by rw [Nat.pow_succ]; omega
  unfold cntR
  rw [zBu n (fun j hj => h j (by omega)), zBu n (fun j hj => h (2 ^ n + j) (by omega))]
theorem zEo : ∀ n : Nat, cntR n (fun _ => true) = 2 ^ n
 | 0 => rfl
 | n + 1 => by unfold cntR; rw [zEo n, Nat.pow_succ]; omega
theorem zDz : ∀ n : Nat, cntR n (fun _ => false) = 0
 | 0 => rfl
 | n + 1 => by unfold cntR; rw [zDz n]
theorem zHm : ∀ (n : Nat) (f : Nat → Bool), cntR n f ≤ 2 ^ n
 | 0, f => by unfold cntR; split <;> simp
 | n + 1, f => by unfold cntR; have := zHm n f; have := zHm n (fun j => f (2 ^ n + j)); rw [Nat.pow_succ]; omega
theorem zJa : ∀ (n : Nat) {f g : Nat → Bool}, (∀ j, j < 2 ^ n → ¬ (f j = true ∧ g j = true)) → cntR n (fun j => f j || g j) = cntR n f + cntR n g
 | 0, f, g, h => by
  have := h 0 (by decide)
  unfold cntR
  cases h1 : f 0 <;> cases h2 : g 0 <;> simp [h1, h2] at this ⊢
 | n + 1, f, g, h => by
  have e : 2 ^ (n + 1) = 2 ^ n + 2 ^ n := by rw [Nat.pow_succ]; omega
  unfold cntR
  rw [zJa n (fun j hj => h j (by omega)), zJa n (f := fun j => f (2 ^ n + j)) (g := fun j => g (2 ^ n + j)) (fun j hj => h (2 ^ n + j) (by omega))]
  omega
def Dep (n : Nat) (f : Nat → Bool) (S : Nat → Prop) : Prop := ∀ i j, i < 2 ^ n → j < 2 ^ n → (∀ b, S b → i.testBit b = j.testBit b) → f i = f j
theorem zIw {n j b : Nat} (hj : j < 2 ^ n) : (2 ^ n + j).testBit b = if b = n then true else j.testBit b := by
 by_cases h : b = n
 ·subst h
  rw [Nat.testBit_two_pow_add_eq, Nat.testBit_lt_two_pow hj]; simp
 ·rw [if_neg h]
  by_cases hb : b < n
  ·rw [Nat.testBit_two_pow_add_gt hb]
  ·have h1 : 2 ^ (n + 1) ≤ 2 ^ b := Nat.pow_le_pow_right (by decide) (by omega)
   have e : 2 ^ (n + 1) = 2 ^ n + 2 ^ n := by rw [Nat.pow_succ]; omega
   rw [Nat.testBit_lt_two_pow (by omega), Nat.testBit_lt_two_pow (by omega)]
theorem Dep.low {n : Nat} {f : Nat → Bool} {S : Nat → Prop} (h : Dep (n + 1) f S) : Dep n f S := fun i j hi hj hb => by
 have e : 2 ^ (n + 1) = 2 ^ n + 2 ^ n := by rw [Nat.pow_succ]; omega
 exact h i j (by omega) (by omega) hb
theorem Dep.high {n : Nat} {f : Nat → Bool} {S : Nat → Prop} (h : Dep (n + 1) f S) : Dep n (fun j => f (2 ^ n + j)) S := fun i j hi hj hb => by
 have e : 2 ^ (n + 1) = 2 ^ n + 2 ^ n := by rw [Nat.pow_succ]; omega
 refine h _ _ (by omega) (by omega) (fun b hS => ?_)
 rw [zIw hi, zIw hj, hb b hS]
theorem Dep.flat {n : Nat} {f : Nat → Bool} {S : Nat → Prop} (h : Dep (n + 1) f S) (hn : ¬ S n) {j : Nat} (hj : j < 2 ^ n) : f (2 ^ n + j) = f j := by
 have e : 2 ^ (n + 1) = 2 ^ n + 2 ^ n := by rw [Nat.pow_succ]; omega
 refine h _ _ (by omega) (by omega) (fun b hS => ?_)
 rw [zIw hj, if_neg (show ¬ b = n from fun e2 => hn (e2 ▸ hS))]
theorem indep : ∀ (n : Nat) {f g : Nat → Bool} {S T : Nat → Prop}, Dep n f S → Dep n g T → (∀ b, S b → T b → False) → cntR n (fun j => f j && g j) * 2 ^ n = cntR n f * cntR n g
 | 0, f, g, S, T, _, _, _ => by
  unfold cntR
  cases h1 : f 0 <;> cases h2 : g 0 <;> simp [h1, h2]
 | n + 1, f, g, S, T, hf, hg, hd => by
  have h00 := indep n hf.low hg.low hd
  have h11 := indep n hf.high hg.high hd
  have h01 := indep n hf.low hg.high hd
  have h10 := indep n hf.high hg.low hd
  unfold cntR
  rw [Nat.pow_succ]
  by_cases hS : S n
  ·have hT : ¬ T n := fun h => hd n hS h
   have e1 : cntR n (fun j => g (2 ^ n + j)) = cntR n g := zBu n (fun j hj => hg.flat hT hj)
   have e2 : cntR n (fun j => f (2 ^ n + j) && g (2 ^ n + j)) = cntR n (fun j => f (2 ^ n + j) && g j) := zBu n (fun j hj => by rw [hg.flat hT hj])
   rw [e1, e2]
   generalize cntR n (fun j => f j && g j) = a at *
   generalize cntR n (fun j => f (2 ^ n + j) && g j) = b at *
   generalize cntR n f = F at *
   generalize cntR n (fun j => f (2 ^ n + j)) = F' at *
   generalize cntR n g = G at *
   generalize 2 ^ n = p at *
   rw [Nat.add_mul a b, ← Nat.mul_assoc, ← Nat.mul_assoc, h00, h10, Nat.add_mul F F', Nat.mul_add F G G, Nat.mul_add F' G G]
   omega
  ·have e1 : cntR n (fun j => f (2 ^ n + j)) = cntR n f := zBu n (fun j hj => hf.flat hS hj)
   have e2 : cntR n (fun j => f (2 ^ n + j) && g (2 ^ n + j)) = cntR n (fun j => f j && g (2 ^ n + j)) := zBu n (fun j hj => by rw [hf.flat hS hj])
   rw [e1, e2]
   generalize cntR n (fun j => f j && g j) = a at *
   generalize cntR n (fun j => f j && g (2 ^ n + j)) = b at *
   generalize cntR n f = F at *
   generalize cntR n (fun j => g (2 ^ n + j)) = G' at *
   generalize cntR n g = G at *
   generalize 2 ^ n = p at *
   rw [Nat.add_mul a b, ← Nat.mul_assoc, ← Nat.mul_assoc, h00, h01, Nat.add_mul F F, Nat.mul_add F G G']
   omega
/-! ### Sizes of sets -/
def szTo (s : VS) (n : Nat) : Nat := (List.range n).countP fun i : Nat => s.has ((i : Int) + 1)
def VS.sz (s : VS) : Nat := szTo s 128
theorem zB9 (s : VS) (n : Nat) : szTo s (n + 1) = szTo s n + if s.has ((n : Int) + 1) then 1 else 0 := by
 unfold szTo
 rw [List.range_succ, List.countP_append]
 simp [List.countP_cons]
theorem szTo_union {s t : VS} (h : ∀ v, ¬ (s.has v = true ∧ t.has v = true)) : ∀ n, szTo (s.union t) n = szTo s n + szTo t n
 | 0 => rfl
 | n + 1 => by
  have hn := h ((n : Int) + 1)
  rw [zB9, zB9, zB9, szTo_union h n, VS.has_union]
  cases h1 : s.has ((n : Int) + 1) <;> cases h2 : t.has ((n : Int) + 1) <;> simp [h1, h2] at hn ⊢ <;> omega
theorem zDr {s t : VS} (h : ∀ v, t.has v = true → s.has v = true) : ∀ n, szTo (s.minus t) n + szTo t n = szTo s n
 | 0 => rfl
 | n + 1 => by
  have hn := h ((n : Int) + 1)
  have ih := zDr h n
  rw [zB9, zB9, zB9, VS.has_minus]
  cases h1 : s.has ((n : Int) + 1) <;> cases h2 : t.has ((n : Int) + 1) <;> simp [h1, h2] at hn ⊢ <;> omega
theorem zFy : ∀ n, szTo VS.empty n = 0
 | 0 => rfl
 | n + 1 => by rw [zB9, zFy n, VS.has_empty]; rfl
theorem szTo_all (N : Nat) : ∀ n, n ≤ 128 → szTo (VS.all (N : Int)) n = min n N
 | 0, _ => by simp [szTo]
 | n + 1, h => by
  rw [zB9, szTo_all N n (by omega), VS.has_all]
  by_cases h1 : n < N
  ·have : (decide (1 ≤ (n : Int) + 1 ∧ (n : Int) + 1 ≤ 128) && decide ((n : Int) + 1 ≤ (N : Int))) = true := by simp; omega
   rw [this]; simp; omega
  ·have : (decide (1 ≤ (n : Int) + 1 ∧ (n : Int) + 1 ≤ 128) && decide ((n : Int) + 1 ≤ (N : Int))) = false := by simp; omega
   rw [this]; simp; omega
theorem szTo_bit {u : Int} (h1 : 1 ≤ u) (h2 : u ≤ 128) : ∀ n : Nat, szTo (VS.empty.with_ u) n = if u ≤ (n : Int) then 1 else 0
 | 0 => by
  have h : ¬ u ≤ ((0 : Nat) : Int) := by omega
  simp only [h, if_false]
  rfl
 | n + 1 => by
  have hx : (VS.empty.with_ u).has ((n : Int) + 1) = decide (u = (n : Int) + 1) := by
   rw [VS.has_with, VS.has_empty, decide_eq_true (show 1 ≤ u ∧ u ≤ 128 from ⟨h1, h2⟩)]
   simp [eq_comm]
  rw [zB9, szTo_bit h1 h2 n, hx]
  by_cases e : u = (n : Int) + 1
  ·have h3 : ¬ u ≤ (n : Int) := by omega
   have h4 : u ≤ ((n + 1 : Nat) : Int) := by omega
   rw [if_neg h3, if_pos h4, decide_eq_true e]
   rfl
  ·rw [decide_eq_false e]
   by_cases h : u ≤ (n : Int)
   ·have h4 : u ≤ ((n + 1 : Nat) : Int) := by omega
    rw [if_pos h, if_pos h4]; rfl
   ·have h4 : ¬ u ≤ ((n + 1 : Nat) : Int) := by omega
    rw [if_neg h, if_neg h4]; rfl
theorem szTo_le {s : VS} {N : Nat} (h : ∀ v, s.has v = true → v ≤ (N : Int)) : ∀ n, szTo s n ≤ min n N
 | 0 => by simp [szTo]
 | n + 1 => by
  have ih := szTo_le h n
  rw [zB9]
  cases h1 : s.has ((n : Int) + 1) with
  | true => have := h _ h1; simp; omega
  | false => simp; omega
/-! ### Counts of nodes -/
def cc (c : List Nat) (x : Int) : Nat := c.getD x.toNat 0
def prodC (c : List Nat) : List Int → Nat
 | [] => 1
 | x :: l => cc c x * prodC c l
def sumC (o : List VS) (so : VS) (c : List Nat) : List Int → Nat
 | [] => 0
 | x :: l => cc c x * 2 ^ (so.minus (sv o x)).sz + sumC o so c l
def nodeC (g : Gate) (o : List VS) (so : VS) (c : List Nat) : Nat := if g.kind = 0 ∨ g.kind = 4 then sumC o so c g.inp else prodC c g.inp
def cntTo (B : List Gate) : Nat → List Nat
 | 0 => []
 | k + 1 => cntTo B k ++ [match B[k]? with | some g => nodeC g (ownTo B B.length) (own B (k : Int)) (cntTo B k) | none => 0]
def cntN (B : List Gate) (i : Int) : Nat := cc (cntTo B B.length) i
theorem prodC_snoc (c : List Nat) (x : Int) : ∀ l, prodC c (l ++ [x]) = prodC c l * cc c x
 | [] => by simp [prodC]
 | y :: l => by simp only [List.cons_append, prodC, prodC_snoc c x l, Nat.mul_assoc]
theorem sumC_snoc (o : List VS) (so : VS) (c : List Nat) (x : Int) : ∀ l, sumC o so c (l ++ [x]) = sumC o so c l + cc c x * 2 ^ (so.minus (sv o x)).sz
 | [] => by simp [sumC]
 | y :: l => by simp only [List.cons_append, sumC, sumC_snoc o so c x l, Nat.add_assoc]
theorem zCb (B : List Gate) : ∀ k, (cntTo B k).length = k
 | 0 => rfl
 | k + 1 => by unfold cntTo; simp [zCb B k]
theorem zDy (B : List Gate) (i : Nat) : ∀ k, i < k → (cntTo B k).getD i 0 = (cntTo B (i + 1)).getD i 0
 | 0, h => absurd h (by omega)
 | k + 1, h => by
  by_cases e : i = k
  ·rw [e]
  ·conv => lhs; unfold cntTo
   rw [zHf _ _ _ (by rw [zCb]; omega)]
   exact zDy B i k (by omega)
theorem zE7 {c d : List Nat} : ∀ {l : List Int}, (∀ k ∈ l, cc c k = cc d k) → prodC c l = prodC d l
 | [], _ => rfl
 | x :: l, h => by unfold prodC; rw [h x (by simp), zE7 (fun k hk => h k (by simp [hk]))]
theorem zFz {o : List VS} {so : VS} {c d : List Nat} : ∀ {l : List Int}, (∀ k ∈ l, cc c k = cc d k) → sumC o so c l = sumC o so d l
 | [], _ => rfl
 | x :: l, h => by unfold sumC; rw [h x (by simp), zFz (fun k hk => h k (by simp [hk]))]
section
variable {N : Nat} {B : List Gate}
theorem cnt_at (hw : WfN N B) {i : Nat} {g : Gate} (hg : B[i]? = some g) : cntN B (i : Int) = nodeC g (ownTo B B.length) (own B (i : Int)) (cntTo B B.length) := by
 have hi := (List.getElem?_eq_some_iff.1 hg).1
 unfold cntN cc
 rw [Int.toNat_natCast, zDy B i _ hi]
 conv => lhs; unfold cntTo
 rw [hg, List.getD_eq_getElem?_getD, List.getElem?_append_right (by rw [zCb]; exact Nat.le_refl _), zCb, Nat.sub_self]
 show nodeC g _ _ (cntTo B i) = _
 have hk : ∀ k ∈ g.inp, cc (cntTo B i) k = cc (cntTo B B.length) k := fun k hk => by
  have h1 := (hw i g hg).1 k hk
  unfold cc
  rw [zDy B k.toNat i (by omega), zDy B k.toNat B.length (by omega)]
 unfold nodeC
 rw [zE7 hk, zFz hk]
theorem zI0 (hw : WfN N B) : ∀ (n : Nat) (i : Int), i.toNat < n → inB B i → ∀ v, (own B i).has v = true → v ≤ (N : Int)
 | 0, _, h, _, _, _ => absurd h (by omega)
 | n + 1, i, hn, hi, v, hv => by
  obtain ⟨hk, hf⟩ := okG hw hi
  rcases (ownG hw hi v).1 hv with ⟨e, h1, _⟩ | ⟨k, hk2, h⟩
  ·rcases hf with ⟨_, e2, _⟩ | ⟨_, hl, _⟩ | ⟨_, e2⟩
   ·rw [e2] at e
    have : litVar 0 = 0 := by decide
    omega
   ·unfold litOk at hl
    simp at hl
    omega
   ·rw [e2] at e
    have : litVar 0 = 0 := by decide
    omega
  ·have := hk k hk2
   exact zI0 hw n k (by omega) (zFn hw hi hk2) v h
theorem zHt (hw : WfN N B) {i : Int} (hi : inB B i) : (own B i).sz ≤ N := by
 have := szTo_le (zI0 hw (i.toNat + 1) i (by omega) hi) 128
 unfold VS.sz
 omega
def mods (B : List Gate) (i : Int) : Nat → Bool := fun j => nv B (asg j) i
theorem mods_dep (hw : WfN N B) (hN : N ≤ 64) {i : Int} (hi : inB B i) : Dep N (mods B i) (fun b => (own B i).has ((b : Int) + 1) = true) := fun p q hp hq h => by
 refine zJj hw _ _ (i.toNat + 1) i (by omega) hi (fun v hv => ?_)
 have h1 := VS.has_in hv
 rw [zIl, zIl]
 have := h (v.toNat - 1) (by show (own B i).has (((v.toNat - 1 : Nat) : Int) + 1) = true; rw [show ((v.toNat - 1 : Nat) : Int) + 1 = v by omega]; exact hv)
 rw [this]
theorem zH3 (hw : WfN N B) (hN : N ≤ 64) :
  ∀ l : List Int, (∀ k ∈ l, inB B k) → (∀ k ∈ l, cntN B k * 2 ^ N = cntR N (mods B k) * 2 ^ (own B k).sz) → l.Pairwise (RA B) → prodC (cntTo B B.length) l * 2 ^ N = cntR N (fun j => l.all fun k => nv B (asg j) k) * 2 ^ ((l.map fun k => (own B k).sz).sum)
 | [], _, _, _ => by
  simp only [prodC, List.all_nil, List.map_nil, List.sum_nil]
  rw [zEo]; omega
 | x :: l, hl, hc, hp => by
  obtain ⟨h1, h2⟩ := List.pairwise_cons.1 hp
  have ih := zH3 hw hN l (fun k hk => hl k (by simp [hk])) (fun k hk => hc k (by simp [hk])) h2
  have hx := hc x (by simp)
  have hi := indep N (f := mods B x) (g := fun j => l.all fun k => nv B (asg j) k) (mods_dep hw hN (hl x (by simp))) (T := fun b => ∃ k ∈ l, (own B k).has ((b : Int) + 1) = true)
   (fun p q hp hq h => by
    show (l.all fun k => nv B (asg p) k) = l.all fun k => nv B (asg q) k
    rw [Bool.eq_iff_iff, List.all_eq_true, List.all_eq_true]
    have e : ∀ k ∈ l, nv B (asg p) k = nv B (asg q) k := fun k hk => mods_dep hw hN (hl k (by simp [hk])) p q hp hq (fun b hb => h b ⟨k, hk, hb⟩)
    exact ⟨fun q1 k hk => (e k hk).symm.trans (q1 k hk), fun q1 k hk => (e k hk).trans (q1 k hk)⟩)
   (fun b hb ⟨k, hk, hb2⟩ => h1 k hk _ ⟨hb, hb2⟩)
  simp only [prodC, List.all_cons, List.map_cons, List.sum_cons]
  have hx' : cc (cntTo B B.length) x * 2 ^ N = cntR N (mods B x) * 2 ^ (own B x).sz := hx
  show cc (cntTo B B.length) x * prodC (cntTo B B.length) l * 2 ^ N = cntR N (fun j => mods B x j && l.all fun k => nv B (asg j) k) * 2 ^ ((own B x).sz + (l.map fun k => (own B k).sz).sum)
  have hpos : 0 < 2 ^ N := Nat.pow_pos (by decide)
  refine Nat.eq_of_mul_eq_mul_right hpos ?_
  rw [Nat.pow_add]
  generalize cntR N (fun j => mods B x j && l.all fun k => nv B (asg j) k) = ab at *
  generalize cntR N (mods B x) = a at *
  generalize cntR N (fun j => l.all fun k => nv B (asg j) k) = b at *
  generalize cc (cntTo B B.length) x = cx at *
  generalize prodC (cntTo B B.length) l = P at *
  generalize 2 ^ N = p at *
  generalize 2 ^ (own B x).sz = s1 at *
  generalize 2 ^ ((l.map fun k => (own B k).sz).sum) = s2 at *
  calc cx * P * p * p = (cx * p) * (P * p) := by simp only [Nat.mul_assoc, Nat.mul_comm, Nat.mul_left_comm]
   _ = (a * s1) * (b * s2) := by rw [hx', ih]
   _ = (a * b) * (s1 * s2) := by simp only [Nat.mul_assoc, Nat.mul_comm, Nat.mul_left_comm]
   _ = (ab * p) * (s1 * s2) := by rw [hi]
   _ = ab * (s1 * s2) * p := by simp only [Nat.mul_assoc, Nat.mul_comm, Nat.mul_left_comm]
theorem zIy (so : VS) :
  ∀ l : List Int, (∀ k ∈ l, ∀ v, (own B k).has v = true → so.has v = true) → (∀ k ∈ l, cntN B k * 2 ^ N = cntR N (mods B k) * 2 ^ (own B k).sz) → l.Pairwise (RO B) → sumC (ownTo B B.length) so (cntTo B B.length) l * 2 ^ N = cntR N (fun j => l.any fun k => nv B (asg j) k) * 2 ^ so.sz
 | [], _, _, _ => by
  simp only [sumC, List.any_nil]
  rw [zDz]; omega
 | x :: l, hl, hc, hp => by
  obtain ⟨h1, h2⟩ := List.pairwise_cons.1 hp
  have ih := zIy so l (fun k hk => hl k (by simp [hk])) (fun k hk => hc k (by simp [hk])) h2
  have hx := hc x (by simp)
  have hx' : cc (cntTo B B.length) x * 2 ^ N = cntR N (mods B x) * 2 ^ (own B x).sz := hx
  have hm := zDr (hl x (by simp)) 128
  have hm' : (so.minus (own B x)).sz + (own B x).sz = so.sz := hm
  have hor : cntR N (fun j => (x :: l).any fun k => nv B (asg j) k) = cntR N (mods B x) + cntR N (fun j => l.any fun k => nv B (asg j) k) := by
   refine (zBu N (fun j hj => by simp only [List.any_cons]; rfl)).trans (zJa N (f := mods B x) (g := fun j => l.any fun k => nv B (asg j) k) (fun j hj q => ?_))
   obtain ⟨k, hk, hk2⟩ := List.any_eq_true.1 q.2
   exact h1 k hk (asg j) ⟨q.1, hk2⟩
  rw [hor]
  show (cc (cntTo B B.length) x * 2 ^ (so.minus (own B x)).sz + sumC (ownTo B B.length) so (cntTo B B.length) l) * 2 ^ N = _
  rw [Nat.add_mul, Nat.add_mul, ih, ← hm', Nat.pow_add]
  congr 1
  generalize cntR N (mods B x) = a at *
  generalize cc (cntTo B B.length) x = cx at *
  generalize 2 ^ N = p at *
  generalize 2 ^ (own B x).sz = s1 at *
  generalize 2 ^ (so.minus (own B x)).sz = s2 at *
  calc cx * s2 * p = (cx * p) * s2 := by simp only [Nat.mul_assoc, Nat.mul_comm, Nat.mul_left_comm]
   _ = (a * s1) * s2 := by rw [hx']
   _ = a * (s2 * s1) := by simp only [Nat.mul_assoc, Nat.mul_comm, Nat.mul_left_comm]
theorem sum_sz {o : List VS} : ∀ (l : List Int) (s : VS), (∀ k ∈ l, ∀ v, ¬ (s.has v = true ∧ (sv o k).has v = true)) → l.Pairwise (fun a b => ∀ v, ¬ ((sv o a).has v = true ∧ (sv o b).has v = true)) → (l.foldl (fun s k => s.union (sv o k)) s).sz = s.sz + (l.map fun k => (sv o k).sz).sum
 | [], s, _, _ => by simp
 | x :: l, s, hs, hp => by
  obtain ⟨h1, h2⟩ := List.pairwise_cons.1 hp
  rw [List.foldl_cons, sum_sz l _ (fun k hk v q => ?_) h2, List.map_cons, List.sum_cons]
  ·have : (s.union (sv o x)).sz = s.sz + (sv o x).sz := szTo_union (hs x (by simp)) 128
   omega
  ·rw [VS.has_union, Bool.or_eq_true] at q
   rcases q.1 with h | h
   ·exact hs k (by simp [hk]) v ⟨h, q.2⟩
   ·exact h1 k hk v ⟨h, q.2⟩
theorem lit_cnt : ∀ (n : Nat) (v : Int) (p : Bool), 1 ≤ v → v ≤ (n : Int) → cntR n (fun j => j.testBit (v.toNat - 1) == p) * 2 = 2 ^ n
 | 0, v, p, h1, h2 => by omega
 | n + 1, v, p, h1, h2 => by
  unfold cntR
  rw [Nat.pow_succ]
  by_cases e : v = (n : Int) + 1
  ·have e2 : v.toNat - 1 = n := by omega
   rw [e2]
   have c1 : cntR n (fun j => j.testBit n == p) = cntR n (fun _ => false == p) := zBu n (fun j hj => by rw [Nat.testBit_lt_two_pow hj])
   have c2 : cntR n (fun j => (2 ^ n + j).testBit n == p) = cntR n (fun _ => true == p) := zBu n (fun j hj => by rw [zIw hj, if_pos rfl])
   rw [c1, c2]
   cases p
   ·have e3 : (fun _ : Nat => false == false) = fun _ => true := rfl
    have e4 : (fun _ : Nat => true == false) = fun _ => false := rfl
    rw [e3, e4, zEo, zDz]; omega
   ·have e3 : (fun _ : Nat => false == true) = fun _ => false := rfl
    have e4 : (fun _ : Nat => true == true) = fun _ => true := rfl
    rw [e3, e4, zEo, zDz]; omega
  ·have ih := lit_cnt n v p h1 (by omega)
   have c2 : cntR n (fun j => (2 ^ n + j).testBit (v.toNat - 1) == p) = cntR n (fun j => j.testBit (v.toNat - 1) == p) := zBu n (fun j hj => by rw [zIw hj, if_neg (by omega)])
   rw [c2]; omega
theorem zIz (hw : WfN N B) {i : Int} (hi : inB B i) {k : Int} (hk : k ∈ (gateAt B i).inp) : ∀ v, (own B k).has v = true → (own B i).has v = true := fun v hv => (ownG hw hi v).2 (.inr ⟨k, hk, hv⟩)
theorem own_and (hw : WfN N B) (hd : DD B) {i : Int} (hi : inB B i) (h3 : (gateAt B i).kind = 3) : (own B i).sz = ((gateAt B i).inp.map fun k => (own B k).sz).sum := by
 have hl : (gateAt B i).lit = 0 := by
  rcases (okG hw hi).2 with ⟨h, _⟩ | ⟨h, _⟩ | ⟨_, h⟩
  ·omega
  ·omega
  ·exact h
 have he := own_at hw (zCi hi)
 rw [Int.toNat_of_nonneg hi.1] at he
 rw [he]
 unfold nodeO
 have hz : VS.empty.with_ (litVar (gateAt B i).lit) = VS.empty := by
  rw [hl]
  exact VS.ext_has (fun v _ _ => by rw [VS.has_with, VS.has_empty]; rfl)
 rw [hz, sum_sz (o := ownTo B B.length) _ _ (fun k hk v q => by rw [VS.has_empty] at q; cases q.1) ((hd _ _ (zCi hi)).1 h3)]
 have : VS.empty.sz = 0 := zFy 128
 rw [this, Nat.zero_add]
 rfl
theorem zHl (hw : WfN N B) (hd : DD B) (hN : N ≤ 64) : ∀ (n : Nat) (i : Int), i.toNat < n → inB B i → cntN B i * 2 ^ N = cntR N (mods B i) * 2 ^ (own B i).sz
 | 0, _, h, _ => absurd h (by omega)
 | n + 1, i, hn, hi => by
  have hg := zCi hi
  have hc0 := cnt_at hw hg
  rw [Int.toNat_of_nonneg hi.1] at hc0
  have hin : ∀ k ∈ (gateAt B i).inp, inB B k := fun k hk => zFn hw hi hk
  have ih : ∀ k ∈ (gateAt B i).inp, cntN B k * 2 ^ N = cntR N (mods B k) * 2 ^ (own B k).sz := fun k hk => zHl hw hd hN n k (by have := (okG hw hi).1 k hk; omega) (hin k hk)
  have hv := fun s => kv hw s hi
  unfold kindAt at hv
  rcases (okG hw hi).2 with ⟨hk, hl, he⟩ | ⟨hk, hl, he⟩ | ⟨hk, hl⟩
  ·have ho : (own B i).sz = 0 := by
    have : own B i = VS.empty := VS.ext_has (fun v h1 h2 => by
     rw [VS.has_empty, Bool.eq_false_iff]
     intro h
     rcases (ownG hw hi v).1 h with ⟨e, q1, _⟩ | ⟨k, hk2, _⟩
     ·rw [hl] at e
      have : litVar 0 = 0 := by decide
      omega
     ·rw [he] at hk2; simp at hk2)
    rw [this]; exact zFy 128
   rw [ho, hc0]
   unfold nodeC
   rw [he]
   rcases hk with e | e
   ·rw [if_pos (.inl e)]
    have : cntR N (mods B i) = cntR N (fun _ => false) := zBu N (fun j _ => (hv (asg j)).1 e)
    rw [this, zDz]; simp [sumC]
   ·rw [if_neg (by omega)]
    have : cntR N (mods B i) = cntR N (fun _ => true) := zBu N (fun j _ => (hv (asg j)).2.1 e)
    rw [this, zEo]; simp [prodC]
  ·have hl2 := hl
   unfold litOk at hl2
   simp at hl2
   have hr := zDk (gateAt B i).lit
   have ho : (own B i).sz = 1 := by
    have : own B i = VS.empty.with_ (litVar (gateAt B i).lit) := VS.ext_has (fun v h1 h2 => by
     rw [Bool.eq_iff_iff, ownG hw hi v, he, VS.has_with, VS.has_empty]
     simp
     constructor
     ·rintro ⟨e, _⟩; exact ⟨by omega, e⟩
     ·rintro ⟨_, e⟩; exact ⟨e, h1, h2⟩)
    rw [this]
    have := szTo_bit (u := litVar (gateAt B i).lit) (by omega) hr.2 128
    unfold VS.sz
    rw [this, if_pos (by omega)]
   rw [ho, hc0]
   unfold nodeC
   rw [he, if_neg (by omega)]
   have hm : cntR N (mods B i) = cntR N (fun j => j.testBit ((litVar (gateAt B i).lit).toNat - 1) == decide (0 < (gateAt B i).lit)) := zBu N (fun j hj => by
    show nv B (asg j) i = _
    rw [(hv (asg j)).2.2.1 hk]
    unfold litHolds
    rw [zIl, decide_eq_true hl2.1, decide_eq_true (show 1 ≤ litVar (gateAt B i).lit ∧ litVar (gateAt B i).lit ≤ 64 by omega)]
    rfl)
   rw [hm, Nat.pow_one, lit_cnt N _ _ (by omega) (by omega)]
   simp [prodC]
  ·rw [hc0]
   unfold nodeC
   rcases hk with e | e
   ·rw [if_neg (by omega), own_and hw hd hi e]
    have := zH3 hw hN _ hin ih ((hd _ _ hg).1 e)
    rw [this]
    have hm : cntR N (mods B i) = cntR N (fun j => (gateAt B i).inp.all fun k => nv B (asg j) k) := zBu N (fun j _ => (hv (asg j)).2.2.2.1 e)
    rw [hm]
   ·rw [if_pos (.inr e)]
    have := zIy (B := B) (N := N) (own B i) _ (fun k hk => zIz hw hi hk) ih ((hd _ _ hg).2 e)
    rw [this]
    have hm : cntR N (mods B i) = cntR N (fun j => (gateAt B i).inp.any fun k => nv B (asg j) k) := zBu N (fun j _ => (hv (asg j)).2.2.2.2 e)
    rw [hm]
/-! ### Bounds on the way -/
theorem cnt_le (hw : WfN N B) (hd : DD B) (hN : N ≤ 64) {i : Int} (hi : inB B i) : cntN B i ≤ 2 ^ (own B i).sz := by
 have h := zHl hw hd hN (i.toNat + 1) i (by omega) hi
 have hpos : 0 < 2 ^ N := Nat.pow_pos (by decide)
 refine Nat.le_of_mul_le_mul_right ?_ hpos
 rw [h, Nat.mul_comm]
 exact Nat.mul_le_mul_left _ (zHm N _)
theorem cnt_wide (hw : WfN N B) (hd : DD B) (hN : N ≤ 64) {i : Int} (hi : inB B i) {s : VS} (hs : ∀ v, (own B i).has v = true → s.has v = true) (hsN : s.sz ≤ N) {r : Nat} (hr : r ≤ (s.minus (own B i)).sz) : cntN B i * 2 ^ r ≤ 2 ^ N := by
 have h1 := cnt_le hw hd hN hi
 have h2 : (s.minus (own B i)).sz + (own B i).sz = s.sz := zDr hs 128
 calc cntN B i * 2 ^ r ≤ 2 ^ (own B i).sz * 2 ^ r := Nat.mul_le_mul_right _ h1
  _ = 2 ^ ((own B i).sz + r) := (Nat.pow_add _ _ _).symm
  _ ≤ 2 ^ N := Nat.pow_le_pow_right (by decide) (by omega)
theorem prod_le (hw : WfN N B) (hd : DD B) (hN : N ≤ 64) {i : Int} (hi : inB B i) (h3 : (gateAt B i).kind = 3) (k : Nat) : prodC (cntTo B B.length) ((gateAt B i).inp.take k) ≤ 2 ^ N := by
 have hin : ∀ x ∈ (gateAt B i).inp.take k, x ∈ (gateAt B i).inp := fun x hx => List.mem_of_mem_take hx
 have h := zH3 hw hN ((gateAt B i).inp.take k) (fun x hx => zFn hw hi (hin x hx)) (fun x hx => zHl hw hd hN (x.toNat + 1) x (by omega) (zFn hw hi (hin x hx))) (((hd _ _ (zCi hi)).1 h3).sublist (List.take_sublist _ _))
 have hpos : 0 < 2 ^ N := Nat.pow_pos (by decide)
 have hs : (((gateAt B i).inp.take k).map fun k => (own B k).sz).sum ≤ N := by
  have h4 := own_and hw hd hi h3
  have h5 := zHt hw hi
  have h6 : ((gateAt B i).inp.map fun k => (own B k).sz).sum = (((gateAt B i).inp.take k).map fun k => (own B k).sz).sum + (((gateAt B i).inp.drop k).map fun k => (own B k).sz).sum := by
   conv => lhs; rw [← List.take_append_drop k (gateAt B i).inp]
   rw [List.map_append, List.sum_append_nat]
  omega
 refine Nat.le_trans (show _ ≤ 2 ^ ((((gateAt B i).inp.take k).map fun k => (own B k).sz).sum) from Nat.le_of_mul_le_mul_right ?_ hpos) (Nat.pow_le_pow_right (by decide) hs)
 rw [h, Nat.mul_comm]
 exact Nat.mul_le_mul_left _ (zHm N _)
theorem sum_le (hw : WfN N B) (hd : DD B) (hN : N ≤ 64) {i : Int} (hi : inB B i) (h4 : (gateAt B i).kind = 4) (k : Nat) : sumC (ownTo B B.length) (own B i) (cntTo B B.length) ((gateAt B i).inp.take k) ≤ 2 ^ N := by
 have hin : ∀ x ∈ (gateAt B i).inp.take k, x ∈ (gateAt B i).inp := fun x hx => List.mem_of_mem_take hx
 have h := zIy (B := B) (N := N) (own B i) ((gateAt B i).inp.take k) (fun x hx => zIz hw hi (hin x hx)) (fun x hx => zHl hw hd hN (x.toNat + 1) x (by omega) (zFn hw hi (hin x hx))) (((hd _ _ (zCi hi)).2 h4).sublist (List.take_sublist _ _))
 have hpos : 0 < 2 ^ N := Nat.pow_pos (by decide)
 refine Nat.le_trans (show _ ≤ 2 ^ (own B i).sz from Nat.le_of_mul_le_mul_right ?_ hpos) (Nat.pow_le_pow_right (by decide) (zHt hw hi))
 rw [h, Nat.mul_comm]
 exact Nat.mul_le_mul_left _ (zHm N _)
def totN (N : Nat) (B : List Gate) : Nat := cntN B ((B.length - 1 : Nat) : Int) * 2 ^ ((VS.all (N : Int)).minus (own B ((B.length - 1 : Nat) : Int))).sz
theorem own_all (hw : WfN N B) (hN : N ≤ 64) {i : Int} (hi : inB B i) : ∀ v, (own B i).has v = true → (VS.all (N : Int)).has v = true := fun v hv => by
 have h1 := VS.has_in hv
 have h2 := zI0 hw (i.toNat + 1) i (by omega) hi v hv
 rw [VS.has_all]; simp; omega
theorem all_sz (hN : N ≤ 64) : (VS.all (N : Int)).sz = N := by
 have := szTo_all N 128 (Nat.le_refl _)
 unfold VS.sz
 omega
theorem tot_law (hw : WfN N B) (hd : DD B) (hN : N ≤ 64) (hp : 0 < B.length) : totN N B = (List.range (2 ^ N)).countP fun j => nv B (asg j) ((B.length - 1 : Nat) : Int) := by
 have hi : inB B ((B.length - 1 : Nat) : Int) := ⟨by omega, by omega⟩
 have h1 := zHl hw hd hN (B.length) ((B.length - 1 : Nat) : Int) (by omega) hi
 have h2 : ((VS.all (N : Int)).minus (own B ((B.length - 1 : Nat) : Int))).sz + (own B ((B.length - 1 : Nat) : Int)).sz = (VS.all (N : Int)).sz := zDr (own_all hw hN hi) 128
 rw [all_sz hN] at h2
 rw [zHk]
 unfold totN
 have hpos : 0 < 2 ^ (own B ((B.length - 1 : Nat) : Int)).sz := Nat.pow_pos (by decide)
 refine Nat.eq_of_mul_eq_mul_right hpos ?_
 rw [Nat.mul_assoc, ← Nat.pow_add, h2]
 exact h1
end
end Go.Proofs.YtliiclmhpphpmaaGreatDoor
namespace Go.Proofs.YtliiclmhpphpmaaGreatDoor
open Go Go.RowKit Go.Shelf
theorem wrap_in' {u : Int} (h0 : -9223372036854775808 ≤ u) (h1 : u ≤ 9223372036854775807) : IntKind.i64.wrap u = u := by rw [IntKind.wrap_i64]; omega
def tzIdx (t : Nat) : Nat := 2 ^ t - 1
def TabT (w : World) : Prop := ∀ t : Nat, t < 6 → w.cell? ⟨0, tzIdx t, none⟩ = some (.int .u8 (t : Int))
def tz (x : Nat) : Nat := if x % 2 = 1 then 0 else if x % 4 = 2 then 1 else if x % 8 = 4 then 2 else if x % 16 = 8 then 3 else if x % 32 = 16 then 4 else 5
theorem tz_lt (x : Nat) : tz x < 6 := by
 unfold tz
 repeat' split
 all_goals omega
theorem tz_small : ∀ t, t < 6 → tzIdx t < 64 := by decide
theorem tz_eq : ∀ x : Nat, x < 64 → 0 < x → IntKind.u64.wrap (bits .and .u64 (x : Int) (IntKind.u64.wrap (-(x : Int))) * 285870213051353865) / 288230376151711744 = ((tzIdx (tz x) : Nat) : Int) := by decide +kernel
set_option maxRecDepth 100000 in
set_option maxHeartbeats 1000000 in
theorem tz_in (F : Fence) (n : Nat) (h102 : F.fn 102) (hro : F.round = none) (x : Nat) (hx : x < 64) (h0 : 0 < x) (w : World) (hT : TabT w) :
  CallsIn F n Tryz.prog 102 #[.int .u64 (x : Int)] w fun e w' => e = .returned (.int .i64 (tz x : Int)) ∧ w' = w := by
 refine callsIn_of_wp Tryz.func102 rfl h102 ?_ hro
 simp only [Tryz.ntmps102, List.size_toArray, List.length_cons, List.length_nil, Nat.reduceAdd, Nat.reduceSub, Array.replicate_succ, Array.replicate_zero, List.push_toArray, List.append_toArray, List.nil_append, List.cons_append]
 have hc := hT (tz x) (tz_lt x)
 have hE := tz_eq x hx h0
 have hs := tz_small _ (tz_lt x)
 have ht := tz_lt x
 generalize tzIdx (tz x) = z at hc hE hs
 generalize tz x = t at hc ht ⊢
 have hw : IntKind.i64.wrap (t : Int) = (t : Int) := wrap_in' (by omega) (by omega)
 gi_wp2
 go_ret
 exact ⟨rfl, rfl⟩
def bitsL (x : Nat) : List Int := ((List.range 6).filter fun t : Nat => x.testBit t).map fun t : Nat => (t : Int) + 1
theorem bitsL_step : ∀ x : Nat, x < 64 → 0 < x → bitsL x = (((tz x : Nat) : Int) + 1) :: bitsL (x &&& (x - 1)) ∧ x &&& (x - 1) < x := by decide +kernel
theorem zEr : ∀ x : Nat, x < 64 → (bitsL x).length ≤ 6 := by decide +kernel
theorem bits_dec : ∀ x : Nat, x < 64 → 0 < x → bits .and .u64 (x : Int) ((x : Int) - 1) = ((x &&& (x - 1) : Nat) : Int) := by decide +kernel
theorem TabT.below {n₀ : Nat} {w w' : World} (h : TabT w) (hn : 0 < n₀) (hb : Below n₀ w w') : TabT w' := fun t ht => (hb.cell (p := ⟨0, tzIdx t, none⟩) hn).trans (h t ht)
theorem idx25_0 (u v : Value) (w : World) : Sem.run Tryz.prog (Instr.index 25 (Value.agg #[u, v]) (Value.int IntKind.i64 0)) w = .ok u w := by
 simp [Instr.index, asIntOf, part, run_underlying Tryz.underlying25, Tryz.isAgg23, Tryz.sizeOf23]
theorem idx25_1 (u v : Value) (w : World) : Sem.run Tryz.prog (Instr.index 25 (Value.agg #[u, v]) (Value.int IntKind.i64 1)) w = .ok v w := by
 simp [Instr.index, asIntOf, part, run_underlying Tryz.underlying25, Tryz.isAgg23, Tryz.sizeOf23]
set_option maxRecDepth 100000 in
set_option maxHeartbeats 4000000 in
theorem members1_in (F : Fence) (n : Nat) (h101 : F.fn 101) (h102 : F.fn 102) (hro : F.round = none) (hn : 2 ≤ n) (l Bn n₀ : Nat) (hn₀ : 0 < n₀) (x0 : Nat) (hx0 : x0 < 64) (J Jx : List Int → World → Prop)
  (hY : ∀ pre x W, J pre W → pre.length < 6 → YieldAt F (n - 1) Tryz.prog l #[.int .i64 x] W fun e W' =>
   (e = .returned (.bool true) ∧ J (pre ++ [x]) W' ∧ Below n₀ W W') ∨ (e = .returned (.bool false) ∧ Jx (pre ++ [x]) W'))
  (W : World) (hB0 : W.cell? ⟨Bn, 0, none⟩ = some (.int .u64 (x0 : Int))) (hB1 : W.cell? ⟨Bn, 1, none⟩ = some (.int .u64 0)) (hT : TabT W) (h0 : J [] W) :
  CallsIn F n Tryz.prog 101 #[.func (.yield l) #[] #[], .pointer (some ⟨Bn, 0, none⟩)] W fun e W' => (∃ v, e = .returned v) ∧
   ((∃ ys, ys = bitsL x0 ∧ J ys W') ∨ (∃ pre, pre <+: bitsL x0 ∧ Jx pre W')) := by
 refine callsIn_of_wp Tryz.func101 rfl h101 ?_ hro
 simp only [Tryz.ntmps101, List.size_toArray, List.length_cons, List.length_nil, Nat.reduceAdd, Nat.reduceSub, Array.replicate_succ, Array.replicate_zero, List.push_toArray, List.append_toArray, List.nil_append, List.cons_append]
 have hI0 := fun w => idx25_0 (.int .u64 (x0 : Int)) (.int .u64 0) w
 have hI1 := fun w => idx25_1 (.int .u64 (x0 : Int)) (.int .u64 0) w
 gi_wp2
 gi_loopw [6] (fun p wr => ∃ (pre : List Int), J pre wr ∧ TabT wr ∧ ((p = .int .i64 0 ∧ pre = []) ∨ (p = .int .i64 1 ∧ pre = bitsL x0) ∨ (p = .int .i64 2 ∧ pre = bitsL x0)))
  (fun p _ => match p with | .int _ k => 2 - k.toNat | _ => 0)
 case atStart =>
  exact ⟨[], h0, hT, .inl ⟨rfl, rfl⟩⟩
 case round =>
  obtain ⟨pre, hJs, hTw, ⟨rfl, rfl⟩ | ⟨rfl, hpre⟩ | ⟨rfl, hpre⟩⟩ := hrel
  ·gi_wp2
   gi_loopw [4] (fun p wr => ∃ (pre : List Int) (y : Nat), p = .int .u64 (y : Int) ∧ y < 64 ∧ bitsL x0 = pre ++ bitsL y ∧ J pre wr ∧ TabT wr)
    (fun p _ => match p with | .int _ k => k.toNat | _ => 0)
   case atStart =>
    exact ⟨[], x0, rfl, hx0, rfl, hJs, hTw⟩
   case round =>
    obtain ⟨pre, y, rfl, hy, hpr, hJ, hT2⟩ := hrel
    rcases Nat.eq_zero_or_pos y with rfl | hy0
    ·gi_wp2
     go_roundw
     case rel => exact ⟨pre, hJ, hT2, .inr (.inl ⟨rfl, by rw [hpr]; simp [bitsL]⟩)⟩
     case measure => simp
    ·have hstep := bitsL_step y hy hy0
     have hdec := bits_dec y hy hy0
     have hlt := tz_lt y
     obtain ⟨t, ht⟩ : ∃ t, tz y = t := ⟨_, rfl⟩
     obtain ⟨z, hz⟩ : ∃ z, y &&& (y - 1) = z := ⟨_, rfl⟩
     rw [ht] at hstep hlt
     rw [hz] at hstep hdec
     have HS := Lib.hid hstep
     have HP := Lib.hid hpr
     have HZ := Lib.hid hz
     clear hstep hpr hz
     have hw1 : IntKind.i64.wrap (t : Int) = (t : Int) := wrap_in' (by omega) (by omega)
     have hw2 : IntKind.i64.wrap ((t : Int) + 1) = (t : Int) + 1 := wrap_in' (by omega) (by omega)
     have hne : ((y : Int) == 0) = false := by simp; omega
     gi_wp2
     refine ⟨fun _ => by omega, ?_⟩
     refine (tz_in F (n - 1) h102 hro y hy hy0 _ hT2).mono ?_
     rintro _ _ ⟨rfl, rfl⟩
     rw [ht]
     clear ht
     have hpl : pre.length < 6 := by
      have h1 := zEr x0 hx0
      rw [HP.out, List.length_append, HS.out.1, List.length_cons] at h1
      omega
     obtain ⟨fn, tmps, assign, body, hyd, hR⟩ := hY pre ((t : Int) + 1) _ hJ hpl
     gi_wp2
     refine ⟨fun _ => by omega, ?_⟩
     refine hR.mono ?_
     rintro e W3 (⟨rfl, hJ3, hk3⟩ | ⟨rfl, hJx3⟩)
     ·gi_wp2
      go_roundw
      case rel => exact ⟨pre ++ [(t : Int) + 1], z, rfl, by have := HS.out.2; omega, by rw [HP.out, HS.out.1, List.append_assoc]; rfl, hJ3, hT2.below hn₀ hk3⟩
      case measure => have := HS.out.2; simp; omega
     ·gi_wp2
      refine bodyPost_ret (results_none rfl _ _ _) rfl ?_
      exact ⟨⟨_, rfl⟩, .inr ⟨pre ++ [(t : Int) + 1], ⟨bitsL z, by rw [HP.out, HS.out.1, List.append_assoc]; rfl⟩, hJx3⟩⟩
  ·gi_wp2
   gi_loopw [4] (fun p wr => p = .int .u64 0 ∧ J pre wr ∧ TabT wr)
    (fun p _ => match p with | .int _ k => k.toNat | _ => 0)
   case atStart =>
    exact ⟨rfl, hJs, hTw⟩
   case round =>
    obtain ⟨rfl, hJ, hT2⟩ := hrel
    gi_wp2
    go_roundw
    case rel => exact ⟨pre, hJ, hT2, .inr (.inr ⟨rfl, hpre⟩)⟩
    case measure => simp
  ·gi_wp2
   go_end0
   exact ⟨⟨_, rfl⟩, .inl ⟨pre, hpre, hJs⟩⟩
theorem members1_stops (F : Fence) (n : Nat) (h101 : F.fn 101) (h102 : F.fn 102) (hro : F.round = none) (hn : 2 ≤ n) (Bn n₀ : Nat) (x0 : Nat) (hx0 : x0 < 64) (w : World) (hn₀ : 0 < n₀) (hnw : n₀ ≤ w.heap.size) (hBn : Bn < w.heap.size)
  (hB0 : w.cell? ⟨Bn, 0, none⟩ = some (.int .u64 (x0 : Int))) (hB1 : w.cell? ⟨Bn, 1, none⟩ = some (.int .u64 0)) (hT : TabT w) :
  SeqStopsK F n Tryz.prog 101 #[VP Bn] (fun x : Int => #[Value.int .i64 x]) (Below n₀) (fun ys => ys = bitsL x0) (fun pre => pre <+: bitsL x0) 6 w := fun l J Jx W hW _ _ hY h0 =>
 members1_in F n h101 h102 hro hn l Bn n₀ hn₀ x0 hx0 J Jx hY W ((hW.cell (p := ⟨Bn, 0, none⟩) hBn).trans hB0) ((hW.cell (p := ⟨Bn, 1, none⟩) hBn).trans hB1) (hT.below (Nat.lt_of_lt_of_le hn₀ hnw) hW) h0
theorem info3 : (Tryz.prog.info? 3).map (fun i => (i.zero, i.size, i.bytes)) = some (some (.int .i64 0), 1, 8) := by kernel_rfl
set_option maxRecDepth 100000 in
set_option maxHeartbeats 2000000 in
theorem appendSeq_in (F : Fence) (n : Nat) (h100 : F.fn 100) (h101 : F.fn 101) (h102 : F.fn 102) (hro : F.round = none) (hn : 4 ≤ n) (Bn : Nat) (x0 : Nat) (hx0 : x0 < 64) (w : World) (hBn : Bn < w.heap.size)
  (hB0 : w.cell? ⟨Bn, 0, none⟩ = some (.int .u64 (x0 : Int))) (hB1 : w.cell? ⟨Bn, 1, none⟩ = some (.int .u64 0)) (hT : TabT w) :
  CallsIn F n Tryz.prog 100 #[.slice none 0 0, .func (.func 101) #[] #[.pointer (some ⟨Bn, 0, none⟩)]] w fun e W' => ∃ v, e = .returned v ∧ W'.ownsRow w.heap.size 3 1 v (bitsL x0).length ((bitsL x0).map (Value.int .i64)) ∧ Below w.heap.size w W' := by
 have h1 : 1 ≤ n := by omega
 obtain ⟨i0, hi, hz0, hz1, hz2⟩ := info_parts info3
 refine callsIn_of_wp_marks Tryz.func100 rfl h100 ?_ hro
 simp only [Tryz.ntmps100, List.size_toArray, List.length_cons, List.length_nil, Nat.reduceAdd, Nat.reduceSub, Array.replicate_succ, Array.replicate_zero, List.push_toArray, List.append_toArray, List.nil_append, List.cons_append]
 gi_wp2
 have bO := Boxed.new w 57 (.slice none 0 0)
 have hB : Below w.heap.size w (w.alloc (.cells #[.slice none 0 0] 57)) := (Below.refl _ w).alloc (Nat.le_refl _) _
 have hTw := hT.below (by omega) hB
 have hA0 := (hB.cell (p := ⟨Bn, 0, none⟩) hBn).trans hB0
 have hA1 := (hB.cell (p := ⟨Bn, 1, none⟩) hBn).trans hB1
 refine wpIn_rangeFunc_ownG hro h1 (gf := 101) (lb := #[VP Bn]) rfl h101 (zAr Tryz.func101 (by kernel_rfl) rfl)
  (members1_stops F (n - 1) h101 h102 hro (by omega) Bn w.heap.size x0 hx0 _ (by omega) (by simp) (by simp; omega) hA0 hA1 hTw) belowK_t (belowK_b (by simp)) (Below.refl _ _) (fun _ => rfl)
  (fun pre W => (∃ v, Boxed W w.heap.size 57 v ∧ W.ownsRow w.heap.size 3 1 v pre.length (pre.map (Value.int .i64)) ∧ True) ∧ Below w.heap.size w W)
  (fun _ _ _ => False)
  (OwnFrom.and (Own.from (holdsRow_own w.heap.size w.heap.size 57 3 1 (fun pre : List Int => pre.length) (fun pre => pre.map (Value.int .i64)) (fun _ _ => True)) _) (ownFrom_below (Nat.le_refl _) (by simp)))
  (fun _ _ _ _ _ hs _ _ => hs)
  ⟨⟨_, bO, World.ownsRow_nil _ _ _ _, trivial⟩, hB⟩
  (fun x => { tmps := #[.slice none 0 0, .func (.func 101) #[] #[VP Bn], .pointer (some ⟨w.heap.size, 0, none⟩), undef, .slice none 0 0, .int .i64 x, .func (.func 101) #[] #[VP Bn], .int .i64 x, undef, undef, undef, undef, undef], defers := [] }) ?assign ?body ?done ?stop
 case assign =>
  intro l x W K hK
  have hsem := @Oper.semAt_some
  gi_wp2
  exact hK
 case body =>
  rintro l pre x W ⟨⟨v, hv, hrow, _⟩, hB⟩ hlt
  have hc := hv.cell
  have hsem := @Oper.semAt_some
  gi_wp2_with (gi_at_builtin; refine wpListIn_append_own _ rfl _ _ 57 rfl w.heap.size 3 i0 (.int .i64 0) 1 8 Tryz.underlying57 hi hz0 hz1 hz2 rfl (by decide) _ _ _ rfl (hrow.alloc _) ⟨W.heap.size, 0, none⟩ 1 1 [.int .i64 x] rfl rfl (cell_one_new _ _ _) (by simp [Value.oneCell']) (by unfold maxLen; omega) (by omega) (by have := hB.size; simp; omega) ?_; intro v' w1 hown' hgrow _; obtain ⟨g', cap', rfl⟩ := ownsRow_succ hown'; obtain ⟨hv1, hv2, hr2, hk2, hb2⟩ := hv.appended (by decide) hrow hB.size (Nat.le_refl _) hown' hgrow; have hc1 := hv1.cell; have hf1 := hv1.frozen)
  exact ⟨hk2.from _, hb2, ⟨_, hv2, by simpa using hr2, trivial⟩, hB.trans hb2⟩
 case done =>
  rintro D ys W hD rfl ⟨⟨v, hv, hrow, _⟩, hB⟩ hK
  have hc := hv.cell
  gi_wp2
  refine ⟨by simp, .inl ⟨_, _, rfl, run_takeDeferred hK, ?_⟩⟩
  exact ⟨_, results_tmp rfl _ _ _, v, rfl, ownsRow_putObj hrow _ hK rfl, hB.trans (belowK_b (w := w) (Nat.le_refl _) W D _ _ (by simp at hD; omega) hK rfl rfl)⟩
 case stop =>
  rintro D c pre W _ _ h _
  exact h.elim
theorem appendSeq_ {W : World} {Bn : Nat} (x0 : Nat) (hx0 : x0 < 64) (hBn : Bn < W.heap.size) (hB0 : W.cell? ⟨Bn, 0, none⟩ = some (.int .u64 (x0 : Int))) (hB1 : W.cell? ⟨Bn, 1, none⟩ = some (.int .u64 0)) (hT : TabT W) :
  Calls Tryz.prog 100 #[.slice none 0 0, .func (.func 101) #[] #[.pointer (some ⟨Bn, 0, none⟩)]] W fun e w' => ∃ v, e = .returned v ∧ w'.ownsRow W.heap.size 3 1 v (bitsL x0).length ((bitsL x0).map (Value.int .i64)) ∧ Below W.heap.size W w' :=
 calls_of_every_depth (L := [100, 101, 102]) (n := 4) fun D => appendSeq_in _ 4 (by simp [Fence.list]) (by simp [Fence.list]) (by simp [Fence.list]) rfl (by decide) Bn x0 hx0 W hBn hB0 hB1 hT
end Go.Proofs.YtliiclmhpphpmaaGreatDoor
namespace Go.Proofs.YtliiclmhpphpmaaGreatDoor
open Go
def asgF : List Int → Nat → VS
 | [], _ => VS.empty
 | v :: l, k => if k.testBit 0 then (asgF l (k / 2)).with_ v else asgF l (k / 2)
def idxF : List Int → VS → Nat
 | [], _ => 0
 | v :: l, s => (if s.has v then 1 else 0) + 2 * idxF l s
theorem has_emptyE (v : Int) : VS.empty.has v = false := by
 unfold VS.has VS.empty
 split
 ·simp
 ·split <;> simp
theorem zFu : ∀ {l : List Int}, (∀ x ∈ l, 1 ≤ x ∧ x ≤ 128) → ∀ (k : Nat) (y : Int), (asgF l k).has y = true ↔ ∃ q, l[q]? = some y ∧ k.testBit q = true
 | [], _, k, y => by
  unfold asgF
  rw [has_emptyE]
  simp
 | v :: l, hl, k, y => by
  have hl' : ∀ x ∈ l, 1 ≤ x ∧ x ≤ 128 := fun x hx => hl x (List.mem_cons_of_mem _ hx)
  have ih := zFu hl' (k / 2) y
  have hv := hl v (by simp)
  have split0 : (∃ q, (v :: l)[q]? = some y ∧ k.testBit q = true) ↔ (v = y ∧ k.testBit 0 = true) ∨ ∃ q, l[q]? = some y ∧ (k / 2).testBit q = true := by
   constructor
   ·rintro ⟨q, h1, h2⟩
    cases q with
    | zero => exact .inl ⟨by simpa using h1, h2⟩
    | succ q => exact .inr ⟨q, by simpa using h1, by rw [← Nat.testBit_succ]; exact h2⟩
   ·rintro (⟨rfl, h⟩ | ⟨q, h1, h2⟩)
    ·exact ⟨0, by simp, h⟩
    ·exact ⟨q + 1, by simpa using h1, by rw [Nat.testBit_succ]; exact h2⟩
  rw [split0]
  unfold asgF
  by_cases h0 : k.testBit 0 = true
  ·rw [if_pos h0, VS.has_with, Bool.or_eq_true, ih]
   simp only [h0, and_true, Bool.and_eq_true, decide_eq_true_eq]
   constructor
   ·rintro (h | h)
    ·exact .inr h
    ·exact .inl h.2.symm
   ·rintro (h | h)
    ·exact .inr ⟨hv, h.symm⟩
    ·exact .inl h
  ·rw [if_neg h0, ih]
   simp [h0]
theorem zCo (s : VS) : ∀ (l : List Int) (q : Nat), (idxF l s).testBit q = true ↔ ∃ v, l[q]? = some v ∧ s.has v = true
 | [], q => by simp [idxF]
 | v :: l, 0 => by
  unfold idxF
  rw [Nat.testBit_zero]
  cases h : s.has v
  ·simp [h]
  ·simp [h, Nat.add_mul_mod_self_left]
 | v :: l, q + 1 => by
  unfold idxF
  rw [Nat.testBit_succ]
  have e : ((if s.has v = true then 1 else 0) + 2 * idxF l s) / 2 = idxF l s := by split <;> omega
  rw [e, zCo s l q]
  simp
theorem zD3 (s : VS) : ∀ l : List Int, idxF l s < 2 ^ l.length
 | [] => by simp [idxF]
 | v :: l => by
  have := zD3 s l
  unfold idxF
  rw [List.length_cons, Nat.pow_succ]
  split <;> omega
theorem zIn {l : List Int} (hl : ∀ x ∈ l, 1 ≤ x ∧ x ≤ 128) (s : VS) {y : Int} (hy : y ∈ l) : (asgF l (idxF l s)).has y = s.has y := by
 rw [Bool.eq_iff_iff, zFu hl]
 constructor
 ·rintro ⟨q, h1, h2⟩
  obtain ⟨v, h3, h4⟩ := (zCo s l q).1 h2
  rw [h1] at h3
  injection h3 with h3
  rw [h3]; exact h4
 ·intro h
  obtain ⟨q, hq⟩ := List.mem_iff_getElem?.1 hy
  exact ⟨q, hq, (zCo s l q).2 ⟨y, hq, h⟩⟩
theorem sub_le {k j : Nat} (h : ∀ q, k.testBit q = true → j.testBit q = true) : k ≤ j := by
 have e : k &&& j = k := by
  apply Nat.eq_of_testBit_eq
  intro q
  rw [Nat.testBit_and]
  cases hk : k.testBit q
  ·rfl
  ·rw [h q hk]; rfl
 rw [← e]
 exact Nat.and_le_right
def andn (j m : Nat) : Nat := (BitVec.ofNat 64 j &&& ~~~BitVec.ofNat 64 m).toNat
theorem zE3 {j m : Nat} (hj : j < 2 ^ 64) (q : Nat) : (andn j m).testBit q = (j.testBit q && !(m.testBit q)) := by
 unfold andn
 have e : ∀ X : BitVec 64, X.toNat.testBit q = X.getLsbD q := fun X => rfl
 rw [e]
 by_cases h : q < 64
 ·simp only [BitVec.getLsbD_and, BitVec.getLsbD_not, BitVec.getLsbD_ofNat, h, decide_true, Bool.true_and]
 ·have h1 : j.testBit q = false := Nat.testBit_lt_two_pow (Nat.lt_of_lt_of_le hj (Nat.pow_le_pow_right (by decide) (by omega)))
  rw [h1]
  simp [h]
def zeta (d : Nat → Bool) : Nat → Nat → Bool
 | 0, j => d j
 | i + 1, j => zeta d i j || zeta d i (andn j (2 ^ i))
theorem zHv (d : Nat → Bool) : ∀ (i j : Nat), j < 2 ^ 64 → (zeta d i j = true ↔ ∃ k, (∀ q, k.testBit q = true → j.testBit q = true) ∧ (∀ q, i ≤ q → k.testBit q = j.testBit q) ∧ d k = true)
 | 0, j, _ => by
  unfold zeta
  constructor
  ·intro h; exact ⟨j, fun _ q => q, fun _ _ => rfl, h⟩
  ·rintro ⟨k, _, h2, h3⟩
   have : k = j := Nat.eq_of_testBit_eq fun q => h2 q (Nat.zero_le _)
   rw [← this]; exact h3
 | i + 1, j, hj => by
  have hb := zE3 (m := 2 ^ i) hj
  have hj2 : andn j (2 ^ i) < 2 ^ 64 := BitVec.isLt _
  unfold zeta
  rw [Bool.or_eq_true, zHv d i j hj, zHv d i _ hj2]
  constructor
  ·rintro (⟨k, h1, h2, h3⟩ | ⟨k, h1, h2, h3⟩)
   ·exact ⟨k, h1, fun q hq => h2 q (by omega), h3⟩
   ·refine ⟨k, fun q hq => ?_, fun q hq => ?_, h3⟩
    ·have := h1 q hq
     rw [hb, Bool.and_eq_true] at this
     exact this.1
    ·rw [h2 q (by omega), hb, Nat.testBit_two_pow_of_ne (by omega)]
     simp
  ·rintro ⟨k, h1, h2, h3⟩
   by_cases he : k.testBit i = j.testBit i
   ·refine .inl ⟨k, h1, fun q hq => ?_, h3⟩
    rcases Nat.lt_or_eq_of_le hq with h | h
    ·exact h2 q h
    ·rw [← h]; exact he
   ·refine .inr ⟨k, fun q hq => ?_, fun q hq => ?_, h3⟩
    ·rw [hb, h1 q hq]
     by_cases e : q = i
     ·subst e
      rw [hq] at he
      exact absurd (h1 q hq).symm he
     ·rw [Nat.testBit_two_pow_of_ne (by omega)]; rfl
    ·rcases Nat.lt_or_eq_of_le hq with h | h
     ·rw [h2 q h, hb, Nat.testBit_two_pow_of_ne (by omega)]; simp
     ·rw [← h, hb, Nat.testBit_two_pow_self]
      cases hk : k.testBit i
      ·simp
      ·exact absurd (hk.trans (h1 i hk).symm) he
theorem bias_law {N : Int} {B : List Gate} (hw : WfN N B) {r : Int} (hr : inB B r) {l : List Int} (hl : ∀ x ∈ l, 1 ≤ x ∧ x ≤ 128) (hm : ∀ v, (own B r).has v = true → v ∈ l) (hn : l.length ≤ 6) (a P : VS) :
  zeta (fun k => decide (nv B (asgF l (idxF l a ^^^ k)) r ≠ nv B (asgF l (idxF l a)) r)) l.length (idxF l P) = true ↔
   ∃ s : VS, (∀ v ∈ l, P.has v = false → s.has v = a.has v) ∧ nv B s r ≠ nv B a r := by
 have h64 : ∀ x, x < 2 ^ l.length → x < 2 ^ 64 := fun x h => Nat.lt_of_lt_of_le h (Nat.pow_le_pow_right (by decide) (by omega))
 have dep : ∀ s t : VS, (∀ v ∈ l, s.has v = t.has v) → nv B s r = nv B t r := fun s t h => zJj hw s t (r.toNat + 1) r (by omega) hr (fun v hv => h v (hm v hv))
 have ha : nv B (asgF l (idxF l a)) r = nv B a r := dep _ _ (fun v hv => zIn hl a hv)
 rw [zHv _ _ _ (h64 _ (zD3 P l))]
 constructor
 ·rintro ⟨k, h1, _, h3⟩
  refine ⟨asgF l (idxF l a ^^^ k), fun v hv hp => ?_, ?_⟩
  ·rw [← zIn hl a hv, Bool.eq_iff_iff, zFu hl, zFu hl]
   have key : ∀ q, l[q]? = some v → (idxF l a ^^^ k).testBit q = (idxF l a).testBit q := fun q hq => by
    have hk : k.testBit q = false := by
     cases hk : k.testBit q
     ·rfl
     ·obtain ⟨v', h4, h5⟩ := (zCo P l q).1 (h1 q hk)
      rw [hq] at h4
      injection h4 with h4
      rw [h4, h5] at hp; cases hp
    rw [Nat.testBit_xor, hk]; simp
   constructor
   ·rintro ⟨q, hq, h⟩; exact ⟨q, hq, by rw [← key q hq]; exact h⟩
   ·rintro ⟨q, hq, h⟩; exact ⟨q, hq, by rw [key q hq]; exact h⟩
  ·rw [← ha]; simpa using h3
 ·rintro ⟨s, h1, h2⟩
  have hk : idxF l a ^^^ (idxF l a ^^^ idxF l s) = idxF l s := by rw [← Nat.xor_assoc, Nat.xor_self, Nat.zero_xor]
  refine ⟨idxF l a ^^^ idxF l s, fun q hq => ?_, fun q hq => ?_, ?_⟩
  ·have hq' : ¬ ((idxF l a).testBit q = (idxF l s).testBit q) := by
    rw [Nat.testBit_xor] at hq
    intro e
    rw [e] at hq
    simp at hq
   obtain ⟨v, hv⟩ : ∃ v, l[q]? = some v := by
    rcases Nat.lt_or_ge q l.length with h | h
    ·exact ⟨l[q], List.getElem?_eq_getElem h⟩
    ·exfalso
     apply hq'
     have z : ∀ t : VS, (idxF l t).testBit q = false := fun t => Nat.testBit_lt_two_pow (Nat.lt_of_lt_of_le (zD3 t l) (Nat.pow_le_pow_right (by decide) h))
     rw [z, z]
   rw [zCo]
   refine ⟨v, hv, ?_⟩
   cases hp : P.has v
   ·exfalso
    apply hq'
    rw [Bool.eq_iff_iff, zCo, zCo]
    have := h1 v (List.mem_of_getElem? hv) hp
    constructor
    ·rintro ⟨u, hu, h⟩
     rw [hv] at hu; injection hu with hu; subst hu
     exact ⟨v, hv, by rw [this]; exact h⟩
    ·rintro ⟨u, hu, h⟩
     rw [hv] at hu; injection hu with hu; subst hu
     exact ⟨v, hv, by rw [← this]; exact h⟩
   ·rfl
  ·have z : ∀ t : VS, (idxF l t).testBit q = false := fun t => Nat.testBit_lt_two_pow (Nat.lt_of_lt_of_le (zD3 t l) (Nat.pow_le_pow_right (by decide) hq))
   rw [Nat.testBit_xor, z, z, z]; rfl
  ·rw [hk, ha, dep (asgF l (idxF l s)) s (fun v hv => zIn hl s hv)]
   simpa using h2
end Go.Proofs.YtliiclmhpphpmaaGreatDoor
namespace Go.Proofs.YtliiclmhpphpmaaGreatDoor
open Go Go.RowKit
set_option maxRecDepth 100000 in
theorem copycheck1 (b : Nat) (w : World) (h0 : w.cell? ⟨b, 0, none⟩ = some (.pointer (some ⟨b, 0, none⟩))) :
  Calls Tryz.prog 105 #[.pointer (some ⟨b, 0, none⟩)] w fun e w' => e = .returned (.tuple #[]) ∧ w' = w := by
 have X : (Tryz.prog.info? 152).map (·.size) = some 2 := by kernel_rfl
 obtain ⟨j, hj, _⟩ := Option.map_eq_some_iff.1 X
 go_enter Tryz.func105, Tryz.ntmps105
 go_wp2
 rw [Lib.run_neq_ptr_same w _ Tryz.underlying150 hj]
 go_wp2
 go_end0
 exact ⟨rfl, rfl⟩
set_option maxRecDepth 100000 in
theorem copycheck0 (b : Nat) (w : World) (h0 : w.cell? ⟨b, 0, none⟩ = some (.pointer none)) (hsh : w.shape? b = some (152, 2)) (hfz : w.frozen? ⟨b, 0, none⟩ = false) :
  Calls Tryz.prog 105 #[.pointer (some ⟨b, 0, none⟩)] w fun e w' => e = .returned (.tuple #[]) ∧ w' = w.setCell ⟨b, 0, none⟩ (.pointer (some ⟨b, 0, none⟩)) := by
 have X : (Tryz.prog.info? 152).map (·.size) = some 2 := by kernel_rfl
 obtain ⟨j, hj, hjs⟩ := Option.map_eq_some_iff.1 X
 go_enter Tryz.func105, Tryz.ntmps105
 go_wp2
 rw [Lib.run_to_unsafe w ⟨b, 0, none⟩ Tryz.underlying150 Tryz.underlying181 hj (by rw [hjs]; decide) hsh (Nat.zero_lt_succ 1)]
 simp only [Result.andThen]
 rw [Oper.upon_value]
 go_wp2
 rw [run_callFunc_extern Tryz.func123 (by kernel_rfl) (by kernel_rfl) (by kernel_rfl) (e := Extern.AbiNoEscape.same) (by kernel_rfl)]
 rw [Lib.run_noEscape]
 simp only [Result.andThen]
 rw [Oper.upon_value]
 go_wp2
 rw [Lib.run_from_unsafe w ⟨b, 0, none⟩ Tryz.underlying181 Tryz.underlying150 hj hsh (by kernel_rfl)]
 simp only [Result.andThen]
 rw [Oper.upon_value]
 go_wp2
 go_end0
 exact ⟨rfl, rfl⟩
def addrB (used : Bool) (b : Nat) : Value := .pointer (if used then some ⟨b, 0, none⟩ else none)
theorem copycheck_ {Z : Bool → Nat → Prop} {w0 W : World} {L : List En} {b : Nat} {used : Bool} {bv : Value} (O : Own Z w0 W (.blk b 152 #[addrB used b, bv] :: L)) :
  Calls Tryz.prog 105 #[.pointer (some ⟨b, 0, none⟩)] W fun e w' => e = .returned (.tuple #[]) ∧ Own Z w0 w' (.blk b 152 #[.pointer (some ⟨b, 0, none⟩), bv] :: L) := by
 have hb := O.blk 0 rfl
 cases used with
 | true =>
  refine (copycheck1 b W ((hb.cell 0).trans rfl)).mono ?_
  rintro _ _ ⟨rfl, rfl⟩
  exact ⟨rfl, O⟩
 | false =>
  refine (copycheck0 b W ((hb.cell 0).trans rfl) ?_ (hb.free 0)).mono ?_
  ·have h := hb
   unfold Blk at h
   simp [World.shape?, h]
  ·rintro _ _ ⟨rfl, rfl⟩
   exact ⟨rfl, O.put 0 _⟩
section
variable {Z : Bool → Nat → Prop} {w0 w : World} {L : List En}
theorem own_app_str {v : Value} {n : Nat} {l : List UInt8} {s : ByteArray} (hO : Own Z w0 w (.row v 5 1 n (Lib.byteCells l) :: L)) (hlim : n + s.size ≤ 1000000000) (h0 : 0 < s.size) :
  ∃ A c w', (∀ (ρ : Operand → Value) x y d t pos aft gd, ρ x = v → ρ y = .string s → (execOp ρ ⟨d, .call ⟨.builtin .append, #[x, y], #[127, 9]⟩, t, pos, aft, gd⟩).run Tryz.prog w = .ok (.value (.slice A (n + s.size) c)) w') ∧
   Own Z w0 w' (.row (.slice A (n + s.size) c) 5 1 (n + s.size) (Lib.byteCells (l ++ s.data.toList)) :: L) := by
 have hX : (Tryz.prog.info? 5).map (fun i => (i.zero, i.size, i.bytes)) = some (some (.int .u8 0), 1, 1) := by kernel_rfl
 obtain ⟨i, hi, hz, hs, hb⟩ := info_parts hX
 have hrow := hO.row 0 rfl
 have key : ∀ ty, ∃ v' w', (Builtin.append_ #[127, 9] ty #[v, .string s]).run Tryz.prog w = .ok v' w' ∧ w'.ownsRow 0 5 1 v' (n + s.size) (Lib.byteCells l ++ Lib.strCells s) ∧ w.grownBy w' v.ownBlock ∧ (v'.ownBlock = v.ownBlock ∨ v'.ownBlock = some w.heap.size) := by
  intro ty
  obtain ⟨v', w', h1, h2, h3, _⟩ := Lib.run_append_own_string (P := Tryz.prog) (w := w) 0 127 9 ty 5 i Tryz.underlying127 Tryz.underlying9 hi hz hs hb v n _ hrow s (by unfold maxLen; omega) (by omega) (Nat.zero_le _)
  refine ⟨v', w', h1, h2, h3, ?_⟩
  rcases hrow.2 with ⟨rfl, h4⟩ | ⟨g, cap, cur, rfl, _, hg, hnc, hcm, hcs, htake⟩
  ·have hr := run_append_nil_string (P := Tryz.prog) w 127 9 ty 5 i (.int .u8 0) Tryz.underlying127 Tryz.underlying9 hi hz s (by omega) (by omega) (by rw [hb]; omega)
   rw [h1] at hr
   injection hr with hr _
   subst hr
   exact .inr rfl
  ·by_cases hroom : n + s.size ≤ cap
   ·have hr := Lib.run_append_room_string (P := Tryz.prog) w 127 9 ty 5 i Tryz.underlying127 Tryz.underlying9 hi hs g n cap cur hg s hroom (by omega)
    rw [h1] at hr
    injection hr with hr _
    subst hr
    exact .inl rfl
   ·have hl1 : (Lib.byteCells l).length = n := by simpa using hrow.1
    have hr := Lib.run_append_grow_string (P := Tryz.prog) w 127 9 ty 5 i (.int .u8 0) Tryz.underlying127 Tryz.underlying9 hi hz ⟨g, 0, none⟩ n cap (Lib.byteCells l) (by rw [hs]; omega) (fun j u hu => by
      rw [zCj, Nat.zero_add]
      exact rowcell hrow hu) s (by omega) (by omega) (by rw [hb]; exact growslice_fits (by omega) (by omega))
    rw [h1] at hr
    injection hr with hr _
    subst hr
    exact .inr rfl
 obtain ⟨v', w', h1, h2, h3, h4⟩ := key 0
 obtain ⟨A, c, rfl⟩ := zGp h2
 have e : Lib.byteCells l ++ Lib.strCells s = Lib.byteCells (l ++ s.data.toList) := by simp [Lib.byteCells, Lib.strCells]
 rw [e] at h2
 refine ⟨A, c, w', fun ρ x y d t pos aft gd hx hy => ?_, hO.app h2 (.grown h3) h4⟩
 have hty : Builtin.append_ #[127, 9] t #[v, .string s] = Builtin.append_ #[127, 9] 0 #[v, .string s] := rfl
 unfold execOp
 simp only [resolve, invoke, builtin, Sem.run_bind, Sem.run_pure, Result.andThen_ok, List.map_toArray, List.map_cons, List.map_nil, hx, hy, hty, h1]
end
end Go.Proofs.YtliiclmhpphpmaaGreatDoor
namespace Go.Proofs.YtliiclmhpphpmaaGreatDoor
open Go Go.RowKit
def keyT (l : List Int) : List UInt8 := l.flatMap fun k => Lib.itoa k ++ [32]
def keyS (g : Gate) : List UInt8 := keyT (g.kind :: g.lit :: g.inp)
theorem keyT_inj : ∀ {l m : List Int}, keyT l = keyT m → l = m
 | [], [], _ => rfl
 | [], x :: m, h => by
  have := congrArg List.length h
  simp [keyT] at this
 | x :: l, [], h => by
  have := congrArg List.length h
  simp [keyT] at this
 | x :: l, y :: m, h => by
  have h' : Lib.itoa x ++ (32 :: keyT l) = Lib.itoa y ++ (32 :: keyT m) := by
   have e : ∀ (z : Int) (q : List Int), keyT (z :: q) = Lib.itoa z ++ (32 :: keyT q) := fun z q => by simp [keyT]
   rw [← e, ← e]; exact h
  obtain ⟨h1, h2⟩ := split_sp (itoa_noSp x) (itoa_noSp y) (.inr ⟨_, rfl⟩) (.inr ⟨_, rfl⟩) h'
  injection h2 with _ h2
  rw [itoa_inj h1, keyT_inj h2]
theorem keyS_inj {g h : Gate} (e : keyS g = keyS h) : g = h := by
 have := keyT_inj e
 cases g; cases h
 simp only [List.cons.injEq] at this
 simp only [Gate.mk.injEq]
 exact this
theorem ex_addS {ρ : Operand → Value} {d : Option Tmp} {x y : Operand} {t : TypeId} {pos : String} {aft : Array Edge} {gd : Option (Nat × Bool)} {w : World} {a b : List UInt8} {T1 : TypeId} (hx : ρ x = .string ⟨a.toArray⟩) (hy : ρ y = .string ⟨b.toArray⟩) (hl : a.length + b.length ≤ 1000000) : (execOp ρ ⟨d, .binOp .add 9 x y T1, t, pos, aft, gd⟩).run Tryz.prog w = .ok (.value (.string ⟨(a ++ b).toArray⟩)) w := by
 have e : (⟨a.toArray⟩ : ByteArray) ++ ⟨b.toArray⟩ = ⟨(a ++ b).toArray⟩ := by
  apply ByteArray.ext
  simp
 have h : (binOp .add 9 (.string ⟨a.toArray⟩) (.string ⟨b.toArray⟩)).run Tryz.prog w = .ok (.string ⟨(a ++ b).toArray⟩) w := by
  rw [← e]
  have h1 : (⟨a.toArray⟩ : ByteArray).size = a.length := by show a.toArray.size = _; simp
  have h2 : (⟨b.toArray⟩ : ByteArray).size = b.length := by show b.toArray.size = _; simp
  have h3 : ((⟨a.toArray⟩ : ByteArray).size : Int) + ((⟨b.toArray⟩ : ByteArray).size : Int) ≤ 9223372036854775807 := by omega
  simp [binOp, Op.stringOp, h3]
 have hg : (eqGuard .add 9 x y (.string ⟨a.toArray⟩) (.string ⟨b.toArray⟩)).run Tryz.prog w = .ok () w := rfl
 simp only [execOp, hx, hy, Sem.run_bind, hg, h, Result.andThen_ok, Sem.run_pure]
theorem below_grow {w : World} (k : Nat) (os : Array Obj) : Below w.heap.size w (Go.Sort.grow (w.drewN k) os) :=
 ⟨rfl, rfl, rfl, by simp [Go.Sort.grow], fun j hj => by simp only [Go.Sort.grow]; exact Array.getElem?_append_left hj⟩
theorem itoa_ {W : World} {x : Int} (h0 : -9223372036854775808 ≤ x) (h1 : x ≤ 9223372036854775807) (tab : Tab W) : Calls Tryz.prog 94 #[.int .i64 x] W fun e w' => e = .returned (.string ⟨(Lib.itoa x).toArray⟩) ∧ Below W.heap.size W w' := by
 refine (Tryz.strconv_Itoa x h0 h1 W tab).mono ?_
 rintro _ _ ⟨rfl, k, os, rfl⟩
 exact ⟨rfl, below_grow k os⟩
theorem wstr_ {Z : Bool → Nat → Prop} {w0 W : World} {b c : Nat} {A : Option Addr} {used : Bool} {l : List UInt8} (u : List UInt8) (O0 : Own Z w0 W [.blk b 152 #[addrB used b, .slice A l.length c], .row (.slice A l.length c) 5 1 l.length (Lib.byteCells l)]) (hlim : l.length + u.length ≤ 1000000000) (hu : 0 < u.length) :
  Calls Tryz.prog 93 #[.pointer (some ⟨b, 0, none⟩), .string (⟨u.toArray⟩)] W fun e w' => ∃ A' c', e = .returned (.tuple #[.int .i64 ((u.length : Nat) : Int), .nilIface]) ∧ Own Z w0 w' [.blk b 152 #[.pointer (some ⟨b, 0, none⟩), .slice A' ((l ++ u).length) c'], .row (.slice A' ((l ++ u).length) c') 5 1 ((l ++ u).length) (Lib.byteCells (l ++ u))] := by
 have hsz : (⟨u.toArray⟩ : ByteArray).size = u.length := by show u.toArray.size = _; simp
 have hdata : (⟨u.toArray⟩ : ByteArray).data.toList = u := by simp
 have hlen : l.length + (⟨u.toArray⟩ : ByteArray).size = (l ++ u).length := by rw [hsz, List.length_append]
 refine zAu (args := [VP b, .string (⟨u.toArray⟩)]) Tryz.func93 rfl rfl (by simp) ?_
 refine zAc fun _ K1 => zAa <| wa rfl rfl rfl <| wa rfl rfl rfl <| nx K1 fun _ K2 => wm rfl rfl rfl ?_
 refine zAs (args := [VP b]) in_105 rfl rfl rfl ?_
 obtain ⟨O5h, O5f⟩ := Own.split (A := [.blk b 152 #[addrB used b, .slice A l.length c]]) (R := [.row (.slice A l.length c) 5 1 l.length (Lib.byteCells l)]) O0
 refine (copycheck_ (used := used) (bv := .slice A l.length c) O5h).mono ?_
 rintro _ w3 ⟨rfl, h4⟩
 have O5 := O5f h4
 refine ⟨_, rfl, ?_⟩
 refine nx K2 fun _ K6 => wm rfl rfl rfl <| wm rfl rfl rfl <| wn rfl rfl rfl <| wf (q := 1) fi152_1 rfl rfl rfl rfl <| wd ty127 rfl (O5.cell 0 1 rfl rfl) rfl rfl <| wm rfl rfl rfl ?_
 obtain ⟨A7, c8, w9, r10, O11⟩ := own_app_str (s := ⟨u.toArray⟩) (O5.re [1, 0] rfl) (by rw [hsz]; omega) (by rw [hsz]; exact hu)
 rw [hlen, hdata] at O11
 rw [hlen] at r10
 refine zAe (v := .slice A7 ((l ++ u).length) c8) (fun ρ e => r10 ρ _ _ _ _ _ _ _ (e _ _ rfl) (e _ _ rfl)) rfl rfl <| wn rfl rfl rfl <| wf (q := 1) fi152_1 rfl rfl rfl rfl ?_
 obtain ⟨w12, r13, O14, hs15⟩ := zAp (o := 1) (n := 1) (O11.re [1, 0] rfl) ty127 (.slice A7 ((l ++ u).length) c8) _ (cs' := #[VP b, .slice A7 ((l ++ u).length) c8]) rfl rfl rfl (Nat.le_of_ble_eq_true rfl) rfl
 refine zAv (fun ρ e => r13 ρ _ _ _ _ _ _ (e _ _ rfl) (e _ _ rfl)) rfl <| nx K6 fun _ K16 => wm rfl rfl rfl <| zAe (v := .int .i64 ((u.length : Nat) : Int)) (fun ρ e => zBx (n := u.length) (e _ _ rfl) hsz) rfl rfl <| wa rfl rfl rfl <| wa rfl rfl rfl <| zAd <| zAb K16 ?_
 refine zAz ?_
 refine zAy (v := .tuple #[.int .i64 ((u.length : Nat) : Int), .nilIface]) (fun T hT => res2 rfl T _ (hT 4 _ rfl) (hT 5 _ rfl)) ?_
 exact ⟨A7, c8, rfl, O14⟩
theorem kput_ {Z : Bool → Nat → Prop} {w0 W : World} {b c : Nat} {A : Option Addr} {used : Bool} {l : List UInt8} {x : Int} (O0 : Own Z w0 W [.blk b 152 #[addrB used b, .slice A l.length c], .row (.slice A l.length c) 5 1 l.length (Lib.byteCells l), .ro TabD Tab]) (hlim : l.length ≤ 100000000) (h0 : -1000000 ≤ x) (h1 : x ≤ 1000000) :
  Calls Tryz.prog 92 #[.int .i64 x, .pointer (some ⟨b, 0, none⟩)] W fun e w' => ∃ A' c', e = .returned (.tuple #[]) ∧ Own Z w0 w' [.blk b 152 #[.pointer (some ⟨b, 0, none⟩), .slice A' ((l ++ (Lib.itoa x ++ [32])).length) c'], .row (.slice A' ((l ++ (Lib.itoa x ++ [32])).length) c') 5 1 ((l ++ (Lib.itoa x ++ [32])).length) (Lib.byteCells (l ++ (Lib.itoa x ++ [32]))), .ro TabD Tab] := by
 have hil := Lib.itoa_length_le x (by omega) (by omega)
 have hul : (Lib.itoa x ++ [32]).length = (Lib.itoa x).length + 1 := by simp
 refine zAu (args := [.int .i64 x, VP b]) Tryz.func92 rfl rfl (by simp) ?_
 refine zAa <| wm rfl rfl rfl ?_
 refine zAs (args := [.int .i64 x]) in_94 rfl rfl rfl ?_
 refine (itoa_ (x := x) (by omega) (by omega) (O0.ro 2 rfl)).mono ?_
 rintro _ w1 ⟨rfl, hb2⟩
 have O3 := O0.below hb2
 refine ⟨_, rfl, ?_⟩
 refine zAe (v := .string (⟨(Lib.itoa x ++ [32]).toArray⟩)) (fun ρ e => ex_addS (e _ _ rfl) (e _ _ rfl) (by show _ + 1 ≤ _; omega)) rfl rfl ?_
 refine zAs (args := [VP b, .string (⟨(Lib.itoa x ++ [32]).toArray⟩)]) in_93 rfl rfl rfl ?_
 obtain ⟨O8h, O8f⟩ := Own.split (A := [.blk b 152 #[addrB used b, .slice A l.length c], .row (.slice A l.length c) 5 1 l.length (Lib.byteCells l)]) (R := [.ro TabD Tab]) O3
 refine (wstr_ (used := used) (l := l) (Lib.itoa x ++ [32]) O8h (by rw [hul]; omega) (by rw [hul]; omega)).mono ?_
 rintro _ w6 ⟨A4, c5, rfl, h7⟩
 have O8 := O8f h7
 refine ⟨_, rfl, ?_⟩
 refine zAd ?_
 refine zDh (v := .tuple #[]) (fun T hT => res0 rfl T _) ?_
 exact ⟨A4, c5, rfl, O8⟩
theorem Own.builder {w0 W : World} {b c : Nat} {A : Option Addr} {l : List UInt8} (O : Own Z0 w0 W [.blk b 152 #[.pointer (some ⟨b, 0, none⟩), .slice A l.length c], .row (.slice A l.length c) 5 1 l.length (Lib.byteCells l)]) : Lib.IsBuilder 152 5 w0.heap.size b (Lib.byteCells l) W := by
 have hb := O.blk 0 rfl
 have hr := O.newrow 1 rfl
 have hn : l.length = (Lib.byteCells l).length := by have := hr.1; simpa using this.symm
 refine .inr ⟨?_, .slice A l.length c, hb, by rw [← hn]; exact hr, fun q => ?_⟩
 ·rcases O.free _ (List.Mem.head _) b rfl with h | h
  ·exact absurd (h.2 trivial) (by simp [Z0])
  ·exact h
 ·have h := List.pairwise_cons.1 O.dist
  exact h.1 _ (List.Mem.head _) (.inl trivial) b rfl q
theorem IntsD.at_ {D : Nat → Prop} {w : World} {b o n c : Nat} {xs : List Int} (h : IntsD D w (.slice (some ⟨b, o, none⟩) n c) xs) {k : Nat} {x : Int} (hx : xs[k]? = some x) : w.cell? ⟨b, o + k, none⟩ = some (.int .i64 x) := by
 obtain ⟨hk, rfl⟩ := List.getElem?_eq_some_iff.1 hx
 exact h.cell hk
theorem keyT_next {g : Gate} {k : Nat} {x : Int} (hx : g.inp[k]? = some x) : keyT (g.kind :: g.lit :: g.inp.take k) ++ (Lib.itoa x ++ [32]) = keyT (g.kind :: g.lit :: g.inp.take (k + 1)) := by
 rw [List.take_add_one, hx]
 simp [keyT]
theorem keyS_all {g : Gate} : keyT (g.kind :: g.lit :: g.inp.take g.inp.length) = keyS g := by rw [List.take_length]; rfl
theorem keyT_ne (x : Int) (l : List Int) : keyT (x :: l) ≠ [] := by
 unfold keyT
 rw [List.flatMap_cons]
 intro h
 have := congrArg List.length h
 simp at this
theorem zF8 : ∀ l : List Int, (∀ x ∈ l, -1000000 ≤ x ∧ x ≤ 1000000) → (keyT l).length ≤ 22 * l.length
 | [], _ => by simp [keyT]
 | x :: l, h => by
  have h1 := zF8 l (fun y hy => h y (by simp [hy]))
  have h2 := h x (by simp)
  have h3 := Lib.itoa_length_le x (by omega) (by omega)
  have e : keyT (x :: l) = (Lib.itoa x ++ [32]) ++ keyT l := rfl
  rw [e, List.length_append, List.length_append, List.length_cons, List.length_cons, List.length_nil]
  omega
theorem keyT_len (g : Gate) {k : Nat} (hb : ∀ x ∈ g.kind :: g.lit :: g.inp, -1000000 ≤ x ∧ x ≤ 1000000) : (keyT (g.kind :: g.lit :: g.inp.take k)).length ≤ 22 * (g.inp.length + 2) := by
 have h := zF8 (g.kind :: g.lit :: g.inp.take k) (fun x hx => hb x (by
  rcases List.mem_cons.1 hx with rfl | hx
  ·simp
  ·rcases List.mem_cons.1 hx with rfl | hx
   ·simp
   ·simp [List.mem_of_mem_take hx]))
 have h2 : (g.kind :: g.lit :: g.inp.take k).length ≤ g.inp.length + 2 := by
  rw [List.length_cons, List.length_cons, List.length_take]; omega
 have := Nat.mul_le_mul_left 22 h2
 omega
theorem zEz (g : Gate) (hb : ∀ x ∈ g.kind :: g.lit :: g.inp, -1000000 ≤ x ∧ x ≤ 1000000) : (keyT []).length ≤ 22 ∧ (keyT [g.kind]).length ≤ 22 := by
 have h := zF8 [g.kind] (fun x hx => hb x (by simp at hx; simp [hx]))
 exact ⟨by simp [keyT], by simpa using h⟩
theorem key_ {W : World} {D : Nat → Prop} {V : Value} {g : Gate} (hI : IntsD D W V g.inp) (hD : ∀ k, D k → k < W.heap.size) (tab : Tab W) (hb : ∀ x ∈ g.kind :: g.lit :: g.inp, -1000000 ≤ x ∧ x ≤ 1000000) (hl : g.inp.length ≤ 100000) :
  Calls Tryz.prog 76 #[.agg #[.int .i64 g.kind, .int .i64 g.lit, V]] W fun e w' => e = .returned (.string ⟨(keyS g).toArray⟩) ∧ Below W.heap.size W w' := by
 obtain ⟨A0, c0, rfl⟩ := hI.slice
 rcases Nat.eq_zero_or_pos g.inp.length with h0 | h0
 ·skip
  have O0 : Own Z0 W W [.ro TabD Tab] := (Own.start W).oldro (D := TabD) (p := Tab) (zEu tab)
  refine zAu (args := [.agg #[.int .i64 g.kind, .int .i64 g.lit, .slice A0 g.inp.length c0]]) Tryz.func76 rfl rfl (by simp) ?_
  refine zAc fun _ K1 => zAa ?_
  obtain ⟨g2, w3, r4, O5, hg6, hs7⟩ := zA5 O0 73 (.agg #[.int .i64 g.kind, .int .i64 g.lit, .slice A0 g.inp.length c0]) rfl
  refine zAe (v := VP g2) (fun ρ e => r4 ρ _ _ _ _ _ _ (e _ _ rfl)) rfl rfl <| wa rfl rfl rfl <| nx K1 fun _ K8 => ?_
  obtain ⟨g9, w10, r11, O12, hg13, hs14⟩ := zAw O5 152 ze152 rfl
  refine zAe (v := VP g9) (fun ρ e => r11 ρ _ _ _ _ _) rfl rfl <| nx K8 fun _ K15 => zAe (v := .func (.func 92) #[] #[VP g9]) (fun ρ e => zB2 (us := []) (vs := [VP g9]) (e.list rfl) (e.list rfl)) rfl rfl <| wa rfl rfl rfl <| nx K15 fun _ K16 => wm rfl rfl rfl <| wf (q := 0) zBy rfl rfl rfl rfl <| wd ty3 rfl (O12.cell 1 0 rfl rfl) rfl rfl ?_
  refine zBz (args := [.int .i64 g.kind]) (all := [.int .i64 g.kind, VP g9]) in_92 rfl rfl rfl rfl rfl ?_
  have O17 : Own Z0 W w10 [.row (.slice none 0 0) 5 1 ((keyT []).length) (Lib.byteCells (keyT [])), .blk g9 152 #[.pointer none, .slice none 0 0], .blk g2 73 #[.int .i64 g.kind, .int .i64 g.lit, .slice A0 g.inp.length c0], .ro TabD Tab] := O12.nilrow 5 1
  obtain ⟨O22h, O22f⟩ := Own.split (A := [.blk g9 152 #[.pointer none, .slice none 0 0], .row (.slice none 0 0) 5 1 ((keyT []).length) (Lib.byteCells (keyT [])), .ro TabD Tab]) (R := [.blk g2 73 #[.int .i64 g.kind, .int .i64 g.lit, .slice A0 g.inp.length c0]]) (O17.re [1, 0, 3, 2] rfl)
  refine (kput_ (used := false) (l := (keyT [])) (x := g.kind) O22h (by have := zEz g hb; omega) (by have := hb g.kind (by simp); have := hb g.lit (by simp); omega) (by have := hb g.kind (by simp); have := hb g.lit (by simp); omega)).mono ?_
  rintro _ w20 ⟨A18, c19, rfl, h21⟩
  have O22 := O22f h21
  have O23 : Own Z0 W w20 [.blk g9 152 #[VP g9, .slice A18 ((keyT [g.kind]).length) c19], .row (.slice A18 ((keyT [g.kind]).length) c19) 5 1 ((keyT [g.kind]).length) (Lib.byteCells (keyT [g.kind])), .ro TabD Tab, .blk g2 73 #[.int .i64 g.kind, .int .i64 g.lit, .slice A0 g.inp.length c0]] := by rw [← show (keyT []) ++ (Lib.itoa g.kind ++ [32]) = (keyT [g.kind]) from (by simp [keyT])]; exact O22
  refine ⟨_, rfl, ?_⟩
  refine nx K16 fun _ K24 => wm rfl rfl rfl <| wf (q := 1) zCm rfl rfl rfl rfl <| wd ty3 rfl (O23.cell 3 1 rfl rfl) rfl rfl ?_
  refine zBz (args := [.int .i64 g.lit]) (all := [.int .i64 g.lit, VP g9]) in_92 rfl rfl rfl rfl rfl ?_
  obtain ⟨O29h, O29f⟩ := Own.split (A := [.blk g9 152 #[VP g9, .slice A18 ((keyT [g.kind]).length) c19], .row (.slice A18 ((keyT [g.kind]).length) c19) 5 1 ((keyT [g.kind]).length) (Lib.byteCells (keyT [g.kind])), .ro TabD Tab]) (R := [.blk g2 73 #[.int .i64 g.kind, .int .i64 g.lit, .slice A0 g.inp.length c0]]) O23
  refine (kput_ (used := true) (l := (keyT [g.kind])) (x := g.lit) O29h (by have := zEz g hb; omega) (by have := hb g.kind (by simp); have := hb g.lit (by simp); omega) (by have := hb g.kind (by simp); have := hb g.lit (by simp); omega)).mono ?_
  rintro _ w27 ⟨A25, c26, rfl, h28⟩
  have O29 := O29f h28
  have O30 : Own Z0 W w27 [.blk g9 152 #[VP g9, .slice A25 ((keyT (g.kind :: g.lit :: g.inp.take 0)).length) c26], .row (.slice A25 ((keyT (g.kind :: g.lit :: g.inp.take 0)).length) c26) 5 1 ((keyT (g.kind :: g.lit :: g.inp.take 0)).length) (Lib.byteCells (keyT (g.kind :: g.lit :: g.inp.take 0))), .ro TabD Tab, .blk g2 73 #[.int .i64 g.kind, .int .i64 g.lit, .slice A0 g.inp.length c0]] := by rw [← show (keyT [g.kind]) ++ (Lib.itoa g.lit ++ [32]) = (keyT (g.kind :: g.lit :: g.inp.take 0)) from (by simp [keyT])]; exact O29
  refine ⟨_, rfl, ?_⟩
  refine zAd <| zAb K24 <| zAc fun _ K31 => zAc fun _ K32 => zAa <| wf (q := 2) zB0 rfl rfl rfl rfl <| wd ty57 rfl (O30.cell 3 2 rfl rfl) rfl rfl <| wz el57 rfl rfl rfl ?_
  refine wm rfl rfl rfl <| zAd <| zAb K32 <| zAh ?_
  have O33 : Own Z0 W w27 [.blk g9 152 #[VP g9, .slice A25 ((keyT (g.kind :: g.lit :: g.inp.take 0)).length) c26], .row (.slice A25 ((keyT (g.kind :: g.lit :: g.inp.take 0)).length) c26) 5 1 ((keyT (g.kind :: g.lit :: g.inp.take 0)).length) (Lib.byteCells (keyT (g.kind :: g.lit :: g.inp.take 0))), .ro TabD Tab] := (O30.re [0, 1, 2] rfl)
  refine zA8 (ι := Nat × Option Addr × Nat) (fun q => [(3, VP g9), (4, .func (.func 92) #[] #[VP g9]), (17, .slice A0 g.inp.length c0), (18, .int .i64 ((g.inp.length : Nat) : Int)), (19, .int .i64 (q.1 : Int))]) (fun q X => (q.1 ≤ g.inp.length) ∧ Own Z0 W X [.blk g9 152 #[VP g9, .slice q.2.1 ((keyT (g.kind :: g.lit :: g.inp.take q.1)).length) q.2.2], .row (.slice q.2.1 ((keyT (g.kind :: g.lit :: g.inp.take q.1)).length) q.2.2) 5 1 ((keyT (g.kind :: g.lit :: g.inp.take q.1)).length) (Lib.byteCells (keyT (g.kind :: g.lit :: g.inp.take q.1))), .ro TabD Tab]) (fun q => g.inp.length - q.1) (0, A25, c26) ⟨Nat.zero_le _, O33⟩ ⟨rfl, rfl, rfl, rfl, rfl, trivial⟩ (fun q w34 hJ F35 K36 => ?_)
  obtain ⟨k, A1, c1⟩ := q
  obtain ⟨hk0, O37⟩ := hJ
  dsimp only at hk0 O37 ⊢
  have hkl := keyT_len g (k := k) hb
  by_cases hk : k < g.inp.length
  ·skip
   exact absurd hk (by omega)
  ·have hke : k = g.inp.length := by omega
   subst hke
   refine zAc fun _ K38 => zAa <| wc rfl rfl (lss0 (by omega)) rfl rfl <| zAd <| zAb K38 <| zAc fun _ K39 => zAf rfl <| zA6 ?_
   refine zAg (by intro h; cases h) ?_
   refine zAg (by intro h; cases h) ?_
   refine zA4 <| zAb K31 <| zAc fun _ K40 => zAa ?_
   refine zAs (args := [VP g9]) in_95 rfl rfl rfl ?_
   refine (Tryz.Builder_String W.heap.size g9 (keyT (g.kind :: g.lit :: g.inp.take g.inp.length)) _ ((O37.re [0, 1] rfl).builder) (keyT_ne _ _)).mono ?_
   rintro _ w41 ⟨rfl, hb42⟩
   have O43 : Own Z0 W w41 [] := (Own.start W).below (O37.old.trans hb42)
   refine ⟨_, rfl, ?_⟩
   refine wa rfl rfl rfl <| zAd <| zAb K40 <| zAz ?_
   refine zAy (v := .string (⟨(keyT (g.kind :: g.lit :: g.inp.take g.inp.length)).toArray⟩)) (fun T hT => res1 rfl T _ (hT 2 _ rfl)) ?_
   rw [keyS_all]
   exact ⟨rfl, O43.old⟩
 ·obtain ⟨b0, o0, c1, hv⟩ := hI.form h0
  injection hv with hA _ hc
  subst hA hc
  have O0 : Own Z0 W W [.ro TabD Tab, .ro D (fun w => IntsD D w (.slice (some ⟨b0, o0, none⟩) g.inp.length c0) g.inp)] := ((Own.start W).oldro (D := D) (p := (fun w => IntsD D w (.slice (some ⟨b0, o0, none⟩) g.inp.length c0) g.inp)) (zDw hI hD)).oldro (D := TabD) (p := Tab) (zEu tab)
  refine zAu (args := [.agg #[.int .i64 g.kind, .int .i64 g.lit, .slice (some ⟨b0, o0, none⟩) g.inp.length c0]]) Tryz.func76 rfl rfl (by simp) ?_
  refine zAc fun _ K1 => zAa ?_
  obtain ⟨g2, w3, r4, O5, hg6, hs7⟩ := zA5 O0 73 (.agg #[.int .i64 g.kind, .int .i64 g.lit, .slice (some ⟨b0, o0, none⟩) g.inp.length c0]) rfl
  refine zAe (v := VP g2) (fun ρ e => r4 ρ _ _ _ _ _ _ (e _ _ rfl)) rfl rfl <| wa rfl rfl rfl <| nx K1 fun _ K8 => ?_
  obtain ⟨g9, w10, r11, O12, hg13, hs14⟩ := zAw O5 152 ze152 rfl
  refine zAe (v := VP g9) (fun ρ e => r11 ρ _ _ _ _ _) rfl rfl <| nx K8 fun _ K15 => zAe (v := .func (.func 92) #[] #[VP g9]) (fun ρ e => zB2 (us := []) (vs := [VP g9]) (e.list rfl) (e.list rfl)) rfl rfl <| wa rfl rfl rfl <| nx K15 fun _ K16 => wm rfl rfl rfl <| wf (q := 0) zBy rfl rfl rfl rfl <| wd ty3 rfl (O12.cell 1 0 rfl rfl) rfl rfl ?_
  refine zBz (args := [.int .i64 g.kind]) (all := [.int .i64 g.kind, VP g9]) in_92 rfl rfl rfl rfl rfl ?_
  have O17 : Own Z0 W w10 [.row (.slice none 0 0) 5 1 ((keyT []).length) (Lib.byteCells (keyT [])), .blk g9 152 #[.pointer none, .slice none 0 0], .blk g2 73 #[.int .i64 g.kind, .int .i64 g.lit, .slice (some ⟨b0, o0, none⟩) g.inp.length c0], .ro TabD Tab, .ro D (fun w => IntsD D w (.slice (some ⟨b0, o0, none⟩) g.inp.length c0) g.inp)] := O12.nilrow 5 1
  obtain ⟨O22h, O22f⟩ := Own.split (A := [.blk g9 152 #[.pointer none, .slice none 0 0], .row (.slice none 0 0) 5 1 ((keyT []).length) (Lib.byteCells (keyT [])), .ro TabD Tab]) (R := [.blk g2 73 #[.int .i64 g.kind, .int .i64 g.lit, .slice (some ⟨b0, o0, none⟩) g.inp.length c0], .ro D (fun w => IntsD D w (.slice (some ⟨b0, o0, none⟩) g.inp.length c0) g.inp)]) (O17.re [1, 0, 3, 2, 4] rfl)
  refine (kput_ (used := false) (l := (keyT [])) (x := g.kind) O22h (by have := zEz g hb; omega) (by have := hb g.kind (by simp); have := hb g.lit (by simp); omega) (by have := hb g.kind (by simp); have := hb g.lit (by simp); omega)).mono ?_
  rintro _ w20 ⟨A18, c19, rfl, h21⟩
  have O22 := O22f h21
  have O23 : Own Z0 W w20 [.blk g9 152 #[VP g9, .slice A18 ((keyT [g.kind]).length) c19], .row (.slice A18 ((keyT [g.kind]).length) c19) 5 1 ((keyT [g.kind]).length) (Lib.byteCells (keyT [g.kind])), .ro TabD Tab, .blk g2 73 #[.int .i64 g.kind, .int .i64 g.lit, .slice (some ⟨b0, o0, none⟩) g.inp.length c0], .ro D (fun w => IntsD D w (.slice (some ⟨b0, o0, none⟩) g.inp.length c0) g.inp)] := by rw [← show (keyT []) ++ (Lib.itoa g.kind ++ [32]) = (keyT [g.kind]) from (by simp [keyT])]; exact O22
  refine ⟨_, rfl, ?_⟩
  refine nx K16 fun _ K24 => wm rfl rfl rfl <| wf (q := 1) zCm rfl rfl rfl rfl <| wd ty3 rfl (O23.cell 3 1 rfl rfl) rfl rfl ?_
  refine zBz (args := [.int .i64 g.lit]) (all := [.int .i64 g.lit, VP g9]) in_92 rfl rfl rfl rfl rfl ?_
  obtain ⟨O29h, O29f⟩ := Own.split (A := [.blk g9 152 #[VP g9, .slice A18 ((keyT [g.kind]).length) c19], .row (.slice A18 ((keyT [g.kind]).length) c19) 5 1 ((keyT [g.kind]).length) (Lib.byteCells (keyT [g.kind])), .ro TabD Tab]) (R := [.blk g2 73 #[.int .i64 g.kind, .int .i64 g.lit, .slice (some ⟨b0, o0, none⟩) g.inp.length c0], .ro D (fun w => IntsD D w (.slice (some ⟨b0, o0, none⟩) g.inp.length c0) g.inp)]) O23
  refine (kput_ (used := true) (l := (keyT [g.kind])) (x := g.lit) O29h (by have := zEz g hb; omega) (by have := hb g.kind (by simp); have := hb g.lit (by simp); omega) (by have := hb g.kind (by simp); have := hb g.lit (by simp); omega)).mono ?_
  rintro _ w27 ⟨A25, c26, rfl, h28⟩
  have O29 := O29f h28
  have O30 : Own Z0 W w27 [.blk g9 152 #[VP g9, .slice A25 ((keyT (g.kind :: g.lit :: g.inp.take 0)).length) c26], .row (.slice A25 ((keyT (g.kind :: g.lit :: g.inp.take 0)).length) c26) 5 1 ((keyT (g.kind :: g.lit :: g.inp.take 0)).length) (Lib.byteCells (keyT (g.kind :: g.lit :: g.inp.take 0))), .ro TabD Tab, .blk g2 73 #[.int .i64 g.kind, .int .i64 g.lit, .slice (some ⟨b0, o0, none⟩) g.inp.length c0], .ro D (fun w => IntsD D w (.slice (some ⟨b0, o0, none⟩) g.inp.length c0) g.inp)] := by rw [← show (keyT [g.kind]) ++ (Lib.itoa g.lit ++ [32]) = (keyT (g.kind :: g.lit :: g.inp.take 0)) from (by simp [keyT])]; exact O29
  refine ⟨_, rfl, ?_⟩
  refine zAd <| zAb K24 <| zAc fun _ K31 => zAc fun _ K32 => zAa <| wf (q := 2) zB0 rfl rfl rfl rfl <| wd ty57 rfl (O30.cell 3 2 rfl rfl) rfl rfl <| wz el57 rfl rfl rfl ?_
  refine wm rfl rfl rfl <| zAd <| zAb K32 <| zAh ?_
  have O33 : Own Z0 W w27 [.blk g9 152 #[VP g9, .slice A25 ((keyT (g.kind :: g.lit :: g.inp.take 0)).length) c26], .row (.slice A25 ((keyT (g.kind :: g.lit :: g.inp.take 0)).length) c26) 5 1 ((keyT (g.kind :: g.lit :: g.inp.take 0)).length) (Lib.byteCells (keyT (g.kind :: g.lit :: g.inp.take 0))), .ro TabD Tab, .ro D (fun w => IntsD D w (.slice (some ⟨b0, o0, none⟩) g.inp.length c0) g.inp)] := (O30.re [0, 1, 2, 4] rfl)
  refine zA8 (ι := Nat × Option Addr × Nat) (fun q => [(3, VP g9), (4, .func (.func 92) #[] #[VP g9]), (17, .slice (some ⟨b0, o0, none⟩) g.inp.length c0), (18, .int .i64 ((g.inp.length : Nat) : Int)), (19, .int .i64 (q.1 : Int))]) (fun q X => (q.1 ≤ g.inp.length) ∧ Own Z0 W X [.blk g9 152 #[VP g9, .slice q.2.1 ((keyT (g.kind :: g.lit :: g.inp.take q.1)).length) q.2.2], .row (.slice q.2.1 ((keyT (g.kind :: g.lit :: g.inp.take q.1)).length) q.2.2) 5 1 ((keyT (g.kind :: g.lit :: g.inp.take q.1)).length) (Lib.byteCells (keyT (g.kind :: g.lit :: g.inp.take q.1))), .ro TabD Tab, .ro D (fun w => IntsD D w (.slice (some ⟨b0, o0, none⟩) g.inp.length c0) g.inp)]) (fun q => g.inp.length - q.1) (0, A25, c26) ⟨Nat.zero_le _, O33⟩ ⟨rfl, rfl, rfl, rfl, rfl, trivial⟩ (fun q w34 hJ F35 K36 => ?_)
  obtain ⟨k, A1, c1⟩ := q
  obtain ⟨hk0, O37⟩ := hJ
  dsimp only at hk0 O37 ⊢
  have hkl := keyT_len g (k := k) hb
  by_cases hk : k < g.inp.length
  ·skip
   obtain ⟨x, hx⟩ : ∃ x, g.inp[k]? = some x := ⟨g.inp[k], List.getElem?_eq_getElem hk⟩
   have hbx := hb x (by simp [List.mem_of_getElem? hx])
   refine zAc fun _ K38 => zAa <| wc rfl rfl (lss1 (by omega)) rfl rfl <| zAd <| zAb K38 <| zAc fun _ K39 => zAl rfl <| zAj ?_
   refine zAb K39 <| zAc fun _ K40 => zAh <| zAc fun _ K41 => zAa <| wi (q := o0 + k) (i := k) el57 rfl rfl (by omega) (by omega) rfl rfl <| wd (v := .int .i64 x) ty3 rfl (((O37.ro 3 rfl : (fun w => IntsD D w (.slice (some ⟨b0, o0, none⟩) g.inp.length c0) g.inp) _) : IntsD _ _ _ _).at_ hx) rfl rfl <| wa rfl rfl rfl ?_
   refine zAd <| zAb K41 <| zAa <| wm rfl rfl rfl <| wm rfl rfl rfl ?_
   refine zBz (args := [.int .i64 x]) (all := [.int .i64 x, VP g9]) in_92 rfl rfl rfl rfl rfl ?_
   obtain ⟨O46h, O46f⟩ := Own.split (A := [.blk g9 152 #[VP g9, .slice A1 ((keyT (g.kind :: g.lit :: g.inp.take k)).length) c1], .row (.slice A1 ((keyT (g.kind :: g.lit :: g.inp.take k)).length) c1) 5 1 ((keyT (g.kind :: g.lit :: g.inp.take k)).length) (Lib.byteCells (keyT (g.kind :: g.lit :: g.inp.take k))), .ro TabD Tab]) (R := [.ro D (fun w => IntsD D w (.slice (some ⟨b0, o0, none⟩) g.inp.length c0) g.inp)]) O37
   refine (kput_ (used := true) (l := (keyT (g.kind :: g.lit :: g.inp.take k))) (x := x) O46h (by omega) (by omega) (by omega)).mono ?_
   rintro _ w44 ⟨A42, c43, rfl, h45⟩
   have O46 := O46f h45
   have O47 : Own Z0 W w44 [.blk g9 152 #[VP g9, .slice A42 ((keyT (g.kind :: g.lit :: g.inp.take (k + 1))).length) c43], .row (.slice A42 ((keyT (g.kind :: g.lit :: g.inp.take (k + 1))).length) c43) 5 1 ((keyT (g.kind :: g.lit :: g.inp.take (k + 1))).length) (Lib.byteCells (keyT (g.kind :: g.lit :: g.inp.take (k + 1)))), .ro TabD Tab, .ro D (fun w => IntsD D w (.slice (some ⟨b0, o0, none⟩) g.inp.length c0) g.inp)] := by rw [← show (keyT (g.kind :: g.lit :: g.inp.take k)) ++ (Lib.itoa x ++ [32]) = (keyT (g.kind :: g.lit :: g.inp.take (k + 1))) from (keyT_next hx)]; exact O46
   refine ⟨_, rfl, ?_⟩
   refine zAd <| zAn <| zAb K40 <| zAa <| zAe (v := .int .i64 ((k + 1 : Nat) : Int)) (fun ρ e => zAi (k := .i64) (u := (k : Int)) (v := 1) (e _ _ rfl) (e _ _ rfl) (congrArg some ((congrArg _ (by omega)).trans (zAo (u := ((k + 1 : Nat) : Int)) (by omega) (by omega))))) rfl rfl <| wm rfl rfl rfl <| zAd ?_
   refine zAt K36 (k + 1, A42, c43) (by show g.inp.length - (k + 1) < g.inp.length - k; omega) ⟨(by show k + 1 ≤ g.inp.length; omega), O47⟩ ⟨rfl, rfl, rfl, rfl, rfl, trivial⟩
  ·have hke : k = g.inp.length := by omega
   subst hke
   refine zAc fun _ K48 => zAa <| wc rfl rfl (lss0 (by omega)) rfl rfl <| zAd <| zAb K48 <| zAc fun _ K49 => zAf rfl <| zA6 ?_
   refine zAg (by intro h; cases h) ?_
   refine zAg (by intro h; cases h) ?_
   refine zA4 <| zAb K31 <| zAc fun _ K50 => zAa ?_
   refine zAs (args := [VP g9]) in_95 rfl rfl rfl ?_
   refine (Tryz.Builder_String W.heap.size g9 (keyT (g.kind :: g.lit :: g.inp.take g.inp.length)) _ ((O37.re [0, 1] rfl).builder) (keyT_ne _ _)).mono ?_
   rintro _ w51 ⟨rfl, hb52⟩
   have O53 : Own Z0 W w51 [] := (Own.start W).below (O37.old.trans hb52)
   refine ⟨_, rfl, ?_⟩
   refine wa rfl rfl rfl <| zAd <| zAb K50 <| zAz ?_
   refine zAy (v := .string (⟨(keyT (g.kind :: g.lit :: g.inp.take g.inp.length)).toArray⟩)) (fun T hT => res1 rfl T _ (hT 2 _ rfl)) ?_
   rw [keyS_all]
   exact ⟨rfl, O53.old⟩

end Go.Proofs.YtliiclmhpphpmaaGreatDoor
namespace Go.Proofs.YtliiclmhpphpmaaGreatDoor
open Go Go.RowKit
theorem IntsD.small {D : Nat → Prop} {w : World} {v : Value} {xs : List Int} (h : IntsD D w v xs) : xs.length ≤ 9223372036854775807 := by
 obtain ⟨_, _, _, h1, h2, _⟩ := h
 unfold maxLen at h2
 omega
theorem zBs {W W' : World} {D : Nat → Prop} {V : Value} {l : List Int} (hb : Below W.heap.size W W') (hI : IntsD D W V l) (hD : ∀ k, D k → k < W.heap.size) : IntsD D W' V l := hI.move (fun k hk => hb.block k (hD k hk))
theorem any_none {l : List Int} {p : Int → Bool} {k : Nat} (h : ∀ j, j < k → ∀ x, l[j]? = some x → p x = false) (hk : l.length ≤ k) : l.any p = false := by
 rw [Bool.eq_false_iff]
 intro ha
 obtain ⟨x, hx, hp⟩ := List.any_eq_true.1 ha
 obtain ⟨j, hj, e⟩ := List.getElem_of_mem hx
 have := h j (by omega) x (by rw [← e]; exact List.getElem?_eq_getElem hj)
 rw [this] at hp; cases hp
theorem none_next {l : List Int} {p : Int → Bool} {k : Nat} {x : Int} (h : ∀ j, j < k → ∀ x, l[j]? = some x → p x = false) (hx : l[k]? = some x) (hp : p x = false) : ∀ j, j < k + 1 → ∀ x, l[j]? = some x → p x = false := fun j hj y hy => by
 by_cases e : j = k
 ·subst e; rw [hx] at hy; injection hy with hy; rw [← hy]; exact hp
 ·exact h j (by omega) y hy
theorem cidx_ {W : World} {D : Nat → Prop} {V : Value} {l : List Int} {gf : Nat} {cv : Value} {p : Int → Bool} (in_gf : Enters Tryz.prog gf) (hI : IntsD D W V l) (hD : ∀ k, D k → k < W.heap.size)
  (hcall : ∀ W', Below W.heap.size W W' → ∀ x ∈ l, Calls Tryz.prog gf #[.int .i64 x, cv] W' fun e w' => e = .returned (.bool (p x)) ∧ Below W'.heap.size W' w') :
  Calls Tryz.prog 69 #[V, .func (.func gf) #[] #[cv]] W fun e w' => ∃ r : Int, -1 ≤ r ∧ (0 ≤ r → l.any p = true) ∧ (l.any p = true → 0 ≤ r) ∧ e = .returned (.int .i64 r) ∧ Below W.heap.size W w' := by
 have hll := hI.small
 obtain ⟨A, c, rfl⟩ := hI.slice
 rcases Nat.eq_zero_or_pos l.length with h0 | h0
 ·skip
  have O0 : Own Z0 W W [] := Own.start W
  refine zAu (args := [.slice A l.length c, .func (.func gf) #[] #[cv]]) Tryz.func69 rfl rfl (by simp) ?_
  refine zAc fun _ K1 => zAa <| wa rfl rfl rfl <| zAd <| zAb K1 <| zAc fun _ K2 => zAc fun _ K3 => zAa ?_
  refine wm rfl rfl rfl <| wz el57 rfl rfl rfl <| wm rfl rfl rfl <| zAd <| zAb K3 <| zAh ?_
  refine zA8 (ι := Nat) (fun q => [(0, .slice A l.length c), (1, .func (.func gf) #[] #[cv]), (7, .int .i64 ((l.length : Nat) : Int)), (8, .int .i64 (q : Int))]) (fun q X => (q ≤ l.length) ∧ (∀ j, j < q → ∀ x, l[j]? = some x → p x = false) ∧ Own Z0 W X []) (fun q => l.length - q) 0 ⟨Nat.zero_le _, (fun j hj => absurd hj (Nat.not_lt_zero _)), O0⟩ ⟨rfl, rfl, rfl, rfl, trivial⟩ (fun q w4 hJ F5 K6 => ?_)
  obtain ⟨k, rfl⟩ : ∃ x, x = q := ⟨_, rfl⟩
  obtain ⟨hk0, hno, O7⟩ := hJ
  try dsimp only at hk0 hno O7 ⊢
  by_cases hk : k < l.length
  ·skip
   exact absurd hk (by omega)
  ·skip
   refine zAc fun _ K8 => zAa <| wc rfl rfl (lss0 (by omega)) rfl rfl <| zAd <| zAb K8 <| zAc fun _ K9 => zAf rfl <| zA6 ?_
   refine zAg (by intro h; cases h) ?_
   refine zAg (by intro h; cases h) ?_
   refine zA4 <| zAb K2 <| zAc fun _ K10 => zAa <| wa rfl rfl rfl <| zAd <| zAb K10 <| zAz ?_
   refine zAy (v := .int .i64 (-1)) (fun T hT => res1 rfl T _ (hT 4 _ rfl)) ?_
   exact ⟨(-1), by omega, fun h => absurd h (by omega), fun h => absurd h (by rw [any_none hno (by omega)]; decide), rfl, O7.old⟩
 ·obtain ⟨b, o, c1, hv⟩ := hI.form h0
  injection hv with hA _ hc
  subst hA hc
  have O0 : Own Z0 W W [] := Own.start W
  refine zAu (args := [.slice (some ⟨b, o, none⟩) l.length c, .func (.func gf) #[] #[cv]]) Tryz.func69 rfl rfl (by simp) ?_
  refine zAc fun _ K1 => zAa <| wa rfl rfl rfl <| zAd <| zAb K1 <| zAc fun _ K2 => zAc fun _ K3 => zAa ?_
  refine wm rfl rfl rfl <| wz el57 rfl rfl rfl <| wm rfl rfl rfl <| zAd <| zAb K3 <| zAh ?_
  refine zA8 (ι := Nat) (fun q => [(0, .slice (some ⟨b, o, none⟩) l.length c), (1, .func (.func gf) #[] #[cv]), (7, .int .i64 ((l.length : Nat) : Int)), (8, .int .i64 (q : Int))]) (fun q X => (q ≤ l.length) ∧ (∀ j, j < q → ∀ x, l[j]? = some x → p x = false) ∧ Own Z0 W X []) (fun q => l.length - q) 0 ⟨Nat.zero_le _, (fun j hj => absurd hj (Nat.not_lt_zero _)), O0⟩ ⟨rfl, rfl, rfl, rfl, trivial⟩ (fun q w4 hJ F5 K6 => ?_)
  obtain ⟨k, rfl⟩ : ∃ x, x = q := ⟨_, rfl⟩
  obtain ⟨hk0, hno, O7⟩ := hJ
  try dsimp only at hk0 hno O7 ⊢
  by_cases hk : k < l.length
  ·skip
   obtain ⟨x, hx⟩ : ∃ x, l[k]? = some x := ⟨l[k], List.getElem?_eq_getElem hk⟩
   refine zAc fun _ K8 => zAa <| wc rfl rfl (lss1 (by omega)) rfl rfl <| zAd <| zAb K8 <| zAc fun _ K9 => zAl rfl <| zAj ?_
   refine zAb K9 <| zAc fun _ K10 => zAh <| zAc fun _ K11 => zAa <| wm rfl rfl rfl <| wa rfl rfl rfl <| nx K11 fun _ K12 => ?_
   refine wm rfl rfl rfl <| wm rfl rfl rfl <| wm rfl rfl rfl <| wi (q := o + k) (i := k) el57 rfl rfl (by omega) (by omega) rfl rfl <| wd (v := .int .i64 x) ty3 rfl ((zBs O7.old hI hD).at_ hx) rfl rfl ?_
   by_cases c13 : (p x) = true
   ·skip
    refine zBz (args := [.int .i64 x]) (all := [.int .i64 x, cv]) in_gf rfl rfl rfl rfl rfl ?_
    have hc14 := hcall w4 O7.old x (List.mem_of_getElem? hx)
    rw [show p x = true from c13] at hc14
    refine hc14.mono ?_
    rintro _ w15 ⟨rfl, hb16⟩
    have O17 := O7.below hb16
    refine ⟨_, rfl, ?_⟩
    refine zAd <| zAb K12 <| zAl rfl <| zAc fun _ K18 => zAa <| wm rfl rfl rfl <| wa rfl rfl rfl <| zAd ?_
    refine zAb K18 <| zAz ?_
    refine zA3 ?_
    refine zAg (by intro h; cases h) ?_
    refine zAg (by intro h; cases h) ?_
    refine zA3 ?_
    refine zAg (by intro h; cases h) ?_
    refine zAy (v := .int .i64 (k : Int)) (fun T hT => res1 rfl T _ (hT 4 _ rfl)) ?_
    exact ⟨(k : Int), by omega, fun _ => List.any_eq_true.2 ⟨x, List.mem_of_getElem? hx, c13⟩, fun _ => by omega, rfl, O17.old⟩
   ·skip
    refine zBz (args := [.int .i64 x]) (all := [.int .i64 x, cv]) in_gf rfl rfl rfl rfl rfl ?_
    have hc19 := hcall w4 O7.old x (List.mem_of_getElem? hx)
    rw [show p x = false from Bool.eq_false_iff.2 c13] at hc19
    refine hc19.mono ?_
    rintro _ w20 ⟨rfl, hb21⟩
    have O22 := O7.below hb21
    refine ⟨_, rfl, ?_⟩
    refine zAd <| zAb K12 <| zAf rfl <| zAj <| zAn <| zAb K10 <| zAa <| zAe (v := .int .i64 ((k + 1 : Nat) : Int)) (fun ρ e => zAi (k := .i64) (u := (k : Int)) (v := 1) (e _ _ rfl) (e _ _ rfl) (congrArg some ((congrArg _ (by omega)).trans (zAo (u := ((k + 1 : Nat) : Int)) (by omega) (by omega))))) rfl rfl ?_
    refine wm rfl rfl rfl <| zAd ?_
    refine zAt K6 (k + 1) (by show l.length - (k + 1) < l.length - k; omega) ⟨(by show k + 1 ≤ l.length; omega), (none_next hno hx (Bool.eq_false_iff.2 c13)), O22⟩ ⟨rfl, rfl, rfl, rfl, trivial⟩
  ·skip
   refine zAc fun _ K23 => zAa <| wc rfl rfl (lss0 (by omega)) rfl rfl <| zAd <| zAb K23 <| zAc fun _ K24 => zAf rfl <| zA6 ?_
   refine zAg (by intro h; cases h) ?_
   refine zAg (by intro h; cases h) ?_
   refine zA4 <| zAb K2 <| zAc fun _ K25 => zAa <| wa rfl rfl rfl <| zAd <| zAb K25 <| zAz ?_
   refine zAy (v := .int .i64 (-1)) (fun T hT => res1 rfl T _ (hT 4 _ rfl)) ?_
   exact ⟨(-1), by omega, fun h => absurd h (by omega), fun h => absurd h (by rw [any_none hno (by omega)]; decide), rfl, O7.old⟩
theorem cfunc_ {W : World} {D : Nat → Prop} {V : Value} {l : List Int} {gf : Nat} {cv : Value} {p : Int → Bool} (in_gf : Enters Tryz.prog gf) (hI : IntsD D W V l) (hD : ∀ k, D k → k < W.heap.size)
  (hcall : ∀ W', Below W.heap.size W W' → ∀ x ∈ l, Calls Tryz.prog gf #[.int .i64 x, cv] W' fun e w' => e = .returned (.bool (p x)) ∧ Below W'.heap.size W' w') :
  Calls Tryz.prog 39 #[V, .func (.func gf) #[] #[cv]] W fun e w' => e = .returned (.bool (l.any p)) ∧ Below W.heap.size W w' := by
 have O0 : Own Z0 W W [] := Own.start W
 refine zAu (args := [V, .func (.func gf) #[] #[cv]]) Tryz.func39 rfl rfl (by simp) ?_
 refine zAc fun _ K1 => zAa <| wa rfl rfl rfl <| nx K1 fun _ K2 => wm rfl rfl rfl <| wm rfl rfl rfl ?_
 refine zAs (args := [V, .func (.func gf) #[] #[cv]]) in_69 rfl rfl rfl ?_
 refine (cidx_ (W := W) (p := p) in_gf hI hD hcall).mono ?_
 rintro _ w7 ⟨r3, h4, h5, h6, rfl, hb8⟩
 have O9 := O0.below hb8
 refine ⟨_, rfl, ?_⟩
 by_cases c10 : r3 ≥ 0
 ·skip
  refine wc rfl rfl (geq1 (by omega)) rfl rfl <| wa rfl rfl rfl <| zAd <| zAb K2 <| zAz ?_
  refine zAy (v := .bool true) (fun T hT => res1 rfl T _ (hT 4 _ rfl)) ?_
  rw [show l.any p = true from h5 (by omega)]
  exact ⟨rfl, O9.old⟩
 ·skip
  refine wc rfl rfl (geq0 (by omega)) rfl rfl <| wa rfl rfl rfl <| zAd <| zAb K2 <| zAz ?_
  refine zAy (v := .bool false) (fun T hT => res1 rfl T _ (hT 4 _ rfl)) ?_
  rw [show l.any p = false from Bool.eq_false_iff.2 (fun h => absurd (h6 h) (by omega))]
  exact ⟨rfl, O9.old⟩
theorem cfuncF_ {W : World} {D : Nat → Prop} {V : Value} {l : List Int} {gf : Nat} {cv : Value} (in_gf : Enters Tryz.prog gf) (hI : IntsD D W V l) (hD : ∀ k, D k → k < W.heap.size)
  (hcall : ∀ W', Below W.heap.size W W' → ∀ x ∈ l, Calls Tryz.prog gf #[.int .i64 x, cv] W' fun e w' => e = .returned (.bool false) ∧ Below W'.heap.size W' w') :
  Calls Tryz.prog 39 #[V, .func (.func gf) #[] #[cv]] W fun e w' => e = .returned (.bool false) ∧ Below W.heap.size W w' := by
 have h := cfunc_ (p := fun _ => false) in_gf hI hD hcall
 have e : (l.any fun _ => false) = false := by simp
 rwa [e] at h
theorem zCv {n : Int} {i : Nat} {g : Gate} (hok : okN n i g) : ((g.kind = 0 ∨ g.kind = 1) → g.lit = 0 ∧ g.inp.length = 0) ∧ (g.kind = 2 → litOk g.lit n = true ∧ g.inp.length = 0) ∧ ((g.kind = 3 ∨ g.kind = 4) → g.lit = 0) ∧ (g.kind = 0 ∨ g.kind = 1 ∨ g.kind = 2 ∨ g.kind = 3 ∨ g.kind = 4) := by
 rcases hok.2 with ⟨q, q1, q2⟩ | ⟨q, q1, q2⟩ | ⟨q, q1⟩
 ·exact ⟨fun _ => ⟨q1, by rw [q2]; rfl⟩, fun h => absurd h (by omega), fun h => absurd h (by omega), by omega⟩
 ·exact ⟨fun h => absurd h (by omega), fun _ => ⟨q1, by rw [q2]; rfl⟩, fun h => absurd h (by omega), by omega⟩
 ·exact ⟨fun h => absurd h (by omega), fun h => absurd h (by omega), fun _ => q1, by omega⟩
theorem formed1_ {W : World} {nb : Nat} {x m : Int} (hb : nb < W.heap.size) (hm : W.cell? ⟨nb, 0, none⟩ = some (.int .i64 m)) (h0 : 0 ≤ x) (h1 : x < m) : Calls Tryz.prog 74 #[.int .i64 x, .pointer (some ⟨nb, 0, none⟩)] W fun e w' => e = .returned (.bool false) ∧ Below W.heap.size W w' := by
 have O0 : Own Z0 W W [] := Own.start W
 refine zAu (args := [.int .i64 x, VP nb]) Tryz.func74 rfl rfl (by simp) ?_
 refine zAc fun _ K1 => zAa <| wa rfl rfl rfl <| nx K1 fun _ K2 => wm rfl rfl rfl <| wc rfl rfl (lss0 (by omega)) rfl rfl <| wm rfl rfl rfl <| wm rfl rfl rfl ?_
 refine wd (v := .int .i64 m) ty3 rfl (((O0.old).cell (p := ⟨nb, 0, none⟩) hb).trans hm) rfl rfl <| wc rfl rfl (geq0 (by omega)) rfl rfl <| zAe (v := .bool false) (fun ρ e => zA2 (e _ _ rfl) (e _ _ rfl)) rfl rfl <| wa rfl rfl rfl <| zAd <| zAb K2 <| zAz ?_
 refine zAy (v := .bool false) (fun T hT => res1 rfl T _ (hT 3 _ rfl)) ?_
 exact ⟨rfl, O0.old⟩
theorem nformed_ {W : World} {D : Nat → Prop} {V : Value} {g : Gate} {n : Int} {i : Nat} (hI : IntsD D W V g.inp) (hD : ∀ k, D k → k < W.heap.size) (hok : okN n i g) :
  Calls Tryz.prog 50 #[.agg #[.int .i64 g.kind, .int .i64 g.lit, V], .int .i64 n, .int .i64 (i : Int)] W fun e w' => e = .returned (.bool true) ∧ Below W.heap.size W w' := by
 have hil := hI.small
 obtain ⟨A, c, rfl⟩ := hI.slice
 obtain ⟨h01, h2, h34, hkk⟩ := zCv hok
 have O0 : Own Z0 W W [] := Own.start W
 refine zAu (args := [.agg #[.int .i64 g.kind, .int .i64 g.lit, .slice A g.inp.length c], .int .i64 n, .int .i64 (i : Int)]) Tryz.func50 rfl rfl (by simp) ?_
 refine zAc fun _ K1 => zAa ?_
 obtain ⟨g2, w3, r4, O5, hg6, hs7⟩ := zA5 O0 73 (.agg #[.int .i64 g.kind, .int .i64 g.lit, .slice A g.inp.length c]) rfl
 refine zAe (v := VP g2) (fun ρ e => r4 ρ _ _ _ _ _ _ (e _ _ rfl)) rfl rfl ?_
 obtain ⟨g8, w9, r10, O11, hg12, hs13⟩ := zA5 O5 3 (.int .i64 (i : Int)) rfl
 refine zAe (v := VP g8) (fun ρ e => r10 ρ _ _ _ _ _ _ (e _ _ rfl)) rfl rfl <| wa rfl rfl rfl <| zAd <| zAb K1 <| zAc fun _ K14 => zAc fun _ K15 => zAa <| wf (q := 2) zB0 rfl rfl rfl rfl ?_
 refine wd ty57 rfl (O11.cell 1 2 rfl rfl) rfl rfl <| zAe (v := .func (.func 74) #[] #[VP g8]) (fun ρ e => zB2 (us := []) (vs := [VP g8]) (e.list rfl) (e.list rfl)) rfl rfl ?_
 refine zAs (args := [.slice A g.inp.length c, .func (.func 74) #[] #[VP g8]]) in_39 rfl rfl rfl ?_
 have O19 := O11
 refine (cfuncF_ in_74 (zBs O11.old hI hD) (fun k hk => Nat.lt_of_lt_of_le (hD k hk) (O11.old).size) (fun W' hW' x hx => formed1_ (m := (i : Int)) (Nat.lt_of_lt_of_le (O19.blk 0 rfl).lt hW'.size) ((O19.below hW').cell 0 0 rfl rfl) (hok.1 x hx).1 (hok.1 x hx).2)).mono ?_
 rintro _ w16 ⟨rfl, hb17⟩
 have O18 := O11.below hb17
 refine ⟨_, rfl, ?_⟩
 refine zAd <| zAb K15 <| zAf rfl <| zAj <| zAb K14 <| zAc fun _ K20 => zAc fun _ K21 => zAa ?_
 refine wf (q := 0) zBy rfl rfl rfl rfl <| wd ty3 rfl (O18.cell 1 0 rfl rfl) rfl rfl <| zAd <| zAb K21 <| zAh <| zAc fun _ K22 => zAc fun _ K23 => zAa ?_
 by_cases c24 : g.kind = 0
 ·skip
  obtain ⟨hl0, hn0⟩ := h01 (.inl c24)
  refine wc rfl rfl (eql1 (by omega)) rfl rfl <| wa rfl rfl rfl <| zAd <| zAb K23 <| zAl rfl <| zAj <| zAb K22 <| zAl rfl ?_
  refine zAc fun _ K25 => zAa <| wf (q := 1) zCm rfl rfl rfl rfl <| wd ty3 rfl (O18.cell 1 1 rfl rfl) rfl rfl <| wc rfl rfl (eql1 (by omega)) rfl rfl <| wm rfl rfl rfl <| wf (q := 2) zB0 rfl rfl rfl rfl <| wd ty57 rfl (O18.cell 1 2 rfl rfl) rfl rfl ?_
  refine wz el57 rfl rfl rfl <| wc rfl rfl (eql1 (by omega)) rfl rfl <| zAe (v := .bool true) (fun ρ e => zBa (e _ _ rfl) (e _ _ rfl)) rfl rfl <| wa rfl rfl rfl <| zAd <| zAb K25 <| zAz ?_
  refine zA3 ?_
  refine zAg (by intro h; cases h) ?_
  refine zAy (v := .bool true) (fun T hT => res1 rfl T _ (hT 6 _ rfl)) ?_
  exact ⟨rfl, O18.old⟩
 ·skip
  refine wc rfl rfl (eql0 (by omega)) rfl rfl <| wa rfl rfl rfl <| zAd <| zAb K23 <| zAf rfl <| zAa ?_
  by_cases c26 : g.kind = 1
  ·skip
   obtain ⟨hl0, hn0⟩ := h01 (.inr c26)
   refine wc rfl rfl (eql1 (by omega)) rfl rfl <| wa rfl rfl rfl <| zAd <| zAb K22 <| zAl rfl <| zAc fun _ K27 => zAa <| wf (q := 1) zCm rfl rfl rfl rfl ?_
   refine wd ty3 rfl (O18.cell 1 1 rfl rfl) rfl rfl <| wc rfl rfl (eql1 (by omega)) rfl rfl <| wm rfl rfl rfl <| wf (q := 2) zB0 rfl rfl rfl rfl <| wd ty57 rfl (O18.cell 1 2 rfl rfl) rfl rfl <| wz el57 rfl rfl rfl <| wc rfl rfl (eql1 (by omega)) rfl rfl <| zAe (v := .bool true) (fun ρ e => zBa (e _ _ rfl) (e _ _ rfl)) rfl rfl ?_
   refine wa rfl rfl rfl <| zAd <| zAb K27 <| zAz ?_
   refine zA3 ?_
   refine zAg (by intro h; cases h) ?_
   refine zAy (v := .bool true) (fun T hT => res1 rfl T _ (hT 6 _ rfl)) ?_
   exact ⟨rfl, O18.old⟩
  ·skip
   refine wc rfl rfl (eql0 (by omega)) rfl rfl <| wa rfl rfl rfl <| zAd <| zAb K22 <| zAf rfl <| zAc fun _ K28 => zAa ?_
   by_cases c29 : g.kind = 2
   ·skip
    obtain ⟨hlit, hn0⟩ := h2 c29
    refine wc rfl rfl (eql1 (by omega)) rfl rfl <| wa rfl rfl rfl <| zAd <| zAb K28 <| zAl rfl <| zAc fun _ K30 => zAa <| wf (q := 1) zCm rfl rfl rfl rfl ?_
    refine wd ty3 rfl (O18.cell 1 1 rfl rfl) rfl rfl <| wm rfl rfl rfl ?_
    refine zAs (args := [.int .i64 g.lit, .int .i64 n]) in_75 rfl rfl rfl ?_
    have hq33 := lit_Valid g.lit n w16
    rw [hlit] at hq33
    refine hq33.mono ?_
    rintro _ w31 ⟨rfl, rfl⟩
    refine ⟨_, rfl, ?_⟩
    refine wm rfl rfl rfl <| wf (q := 2) zB0 rfl rfl rfl rfl <| wd ty57 rfl (O18.cell 1 2 rfl rfl) rfl rfl <| wz el57 rfl rfl rfl <| wc rfl rfl (eql1 (by omega)) rfl rfl <| zAe (v := .bool true) (fun ρ e => zBa (e _ _ rfl) (e _ _ rfl)) rfl rfl <| wa rfl rfl rfl <| zAd ?_
    refine zAb K30 <| zAz ?_
    refine zA3 ?_
    refine zAg (by intro h; cases h) ?_
    refine zAy (v := .bool true) (fun T hT => res1 rfl T _ (hT 6 _ rfl)) ?_
    exact ⟨rfl, O18.old⟩
   ·skip
    refine wc rfl rfl (eql0 (by omega)) rfl rfl <| wa rfl rfl rfl <| zAd <| zAb K28 <| zAf rfl <| zAc fun _ K34 => zAc fun _ K35 => zAa ?_
    by_cases c36 : g.kind = 3
    ·skip
     have hl0 := h34 (.inl c36)
     refine wc rfl rfl (eql1 (by omega)) rfl rfl <| wa rfl rfl rfl <| zAd <| zAb K35 <| zAl rfl <| zAj <| zAb K34 <| zAl rfl ?_
     refine zAc fun _ K37 => zAa <| wf (q := 1) zCm rfl rfl rfl rfl <| wd ty3 rfl (O18.cell 1 1 rfl rfl) rfl rfl <| wc rfl rfl (eql1 (by omega)) rfl rfl <| wa rfl rfl rfl <| zAd <| zAb K37 ?_
     refine zAz ?_
     refine zA3 ?_
     refine zAg (by intro h; cases h) ?_
     refine zAy (v := .bool true) (fun T hT => res1 rfl T _ (hT 6 _ rfl)) ?_
     exact ⟨rfl, O18.old⟩
    ·skip
     refine wc rfl rfl (eql0 (by omega)) rfl rfl <| wa rfl rfl rfl <| zAd <| zAb K35 <| zAf rfl <| zAa ?_
     by_cases c38 : g.kind = 4
     ·skip
      have hl0 := h34 (.inr c38)
      refine wc rfl rfl (eql1 (by omega)) rfl rfl <| wa rfl rfl rfl <| zAd <| zAb K34 <| zAl rfl <| zAc fun _ K39 => zAa <| wf (q := 1) zCm rfl rfl rfl rfl ?_
      refine wd ty3 rfl (O18.cell 1 1 rfl rfl) rfl rfl <| wc rfl rfl (eql1 (by omega)) rfl rfl <| wa rfl rfl rfl <| zAd <| zAb K39 <| zAz ?_
      refine zA3 ?_
      refine zAg (by intro h; cases h) ?_
      refine zAy (v := .bool true) (fun T hT => res1 rfl T _ (hT 6 _ rfl)) ?_
      exact ⟨rfl, O18.old⟩
     ·skip
      exact absurd hkk (by omega)

end Go.Proofs.YtliiclmhpphpmaaGreatDoor
namespace Go.Proofs.YtliiclmhpphpmaaGreatDoor
open Go Go.RowKit
theorem zCt {W : World} {V : Value} {B : List Gate} (hG : GatesV W W.heap.size V B) (hp : 0 < B.length) : ∃ b o c, V = .slice (some ⟨b, o, none⟩) B.length c ∧ b < W.heap.size := by
 obtain ⟨A, c, hv, _, _, h3⟩ := hG
 obtain ⟨b, o, hb, hA, _⟩ := h3 hp
 exact ⟨b, o, c, by rw [hv, hA], hb⟩
theorem zHa {W : World} {b o n c : Nat} {B : List Gate} (hG : GatesV W W.heap.size (.slice (some ⟨b, o, none⟩) n c) B) {i : Nat} {g : Gate} (hx : B[i]? = some g) :
  ∃ u, W.cell? ⟨b, o + i * 3, none⟩ = some (.int .i64 g.kind) ∧ W.cell? ⟨b, o + i * 3 + 1, none⟩ = some (.int .i64 g.lit) ∧ W.cell? ⟨b, o + i * 3 + 2, none⟩ = some u ∧ IntsD (fun k => k < W.heap.size) W u g.inp := by
 obtain ⟨hi, rfl⟩ := List.getElem?_eq_some_iff.1 hx
 obtain ⟨b', o', A', c', hA, _, h1, h2, h3, h4, _⟩ := hG.at_ (Below.refl _ _) hi
 injection hA with hA
 injection hA with hb ho
 subst hb ho
 exact ⟨_, h1, h2, h3, IntsD.of_V h4⟩
theorem zBv {W W' : World} {V : Value} {B : List Gate} (hG : GatesV W W.heap.size V B) (hb : Below W.heap.size W W') : GatesV W' W'.heap.size V B := (hG.below hb).more hb.size
theorem zF3 {W : World} {V : Value} {B : List Gate} {N : Int} (hG : GatesV W W.heap.size V B) (hw : WfN N B) (hp : 0 < B.length) (hlen : B.length ≤ 65536) (hN0 : 0 ≤ N) (hN1 : N ≤ 128) : Calls Tryz.prog 37 #[.agg #[.int .i64 N, V]] W fun e w' => e = .returned (.int .i64 0) ∧ Below W.heap.size W w' := by
 obtain ⟨b, o, c, rfl, hbW⟩ := zCt hG hp
 have O0 : Own Z0 W W [] := Own.start W
 refine zAu (args := [.agg #[.int .i64 N, .slice (some ⟨b, o, none⟩) B.length c]]) Tryz.func37 rfl rfl (by simp) ?_
 refine zAc fun _ K1 => zAa ?_
 obtain ⟨g2, w3, r4, O5, hg6, hs7⟩ := zA5 O0 39 (.agg #[.int .i64 N, .slice (some ⟨b, o, none⟩) B.length c]) rfl
 refine zAe (v := VP g2) (fun ρ e => r4 ρ _ _ _ _ _ _ (e _ _ rfl)) rfl rfl <| wa rfl rfl rfl <| zAd <| zAb K1 <| zAc fun _ K8 => zAc fun _ K9 => zAa <| wf (q := 0) zHu rfl rfl rfl rfl ?_
 refine wd ty3 rfl (O5.cell 0 0 rfl rfl) rfl rfl <| wc rfl rfl (lss0 (by omega)) rfl rfl <| wm rfl rfl rfl <| wf (q := 0) zHu rfl rfl rfl rfl <| wd ty3 rfl (O5.cell 0 0 rfl rfl) rfl rfl <| wc rfl rfl (gtr0 (by omega)) rfl rfl <| zAe (v := .bool false) (fun ρ e => zA2 (e _ _ rfl) (e _ _ rfl)) rfl rfl <| wm rfl rfl rfl ?_
 refine wf (q := 1) zCw rfl rfl rfl rfl <| wd ty37 rfl (O5.cell 0 1 rfl rfl) rfl rfl <| wz el37 rfl rfl rfl <| wc rfl rfl (lss0 (by omega)) rfl rfl <| zAe (v := .bool false) (fun ρ e => zA2 (e _ _ rfl) (e _ _ rfl)) rfl rfl <| wm rfl rfl rfl <| wf (q := 1) zCw rfl rfl rfl rfl <| wd ty37 rfl (O5.cell 0 1 rfl rfl) rfl rfl ?_
 refine wz el37 rfl rfl rfl <| wc rfl rfl (gtr0 (by omega)) rfl rfl <| zAe (v := .bool false) (fun ρ e => zA2 (e _ _ rfl) (e _ _ rfl)) rfl rfl <| zAd <| zAb K9 <| zAf rfl <| zAj <| zAb K8 ?_
 refine zAc fun _ K10 => zAc fun _ K11 => zAa <| wf (q := 1) zCw rfl rfl rfl rfl <| wd ty37 rfl (O5.cell 0 1 rfl rfl) rfl rfl <| wz el37 rfl rfl rfl <| wm rfl rfl rfl <| zAd ?_
 refine zAb K11 <| zAh ?_
 have O12 := O5
 refine zA8 (ι := Nat) (fun q => [(1, VP g2), (26, .slice (some ⟨b, o, none⟩) B.length c), (27, .int .i64 ((B.length : Nat) : Int)), (28, .int .i64 (q : Int))]) (fun q X => (q ≤ B.length) ∧ Own Z0 W X [.blk g2 39 #[.int .i64 N, .slice (some ⟨b, o, none⟩) B.length c]]) (fun q => B.length - q) 0 ⟨Nat.zero_le _, O12⟩ ⟨rfl, rfl, rfl, rfl, trivial⟩ (fun q w13 hJ F14 K15 => ?_)
 obtain ⟨i, rfl⟩ : ∃ x, x = q := ⟨_, rfl⟩
 obtain ⟨hi0, O16⟩ := hJ
 try dsimp only at hi0 O16 ⊢
 by_cases hi : i < B.length
 ·skip
  obtain ⟨g, hx⟩ : ∃ g, B[i]? = some g := ⟨B[i], List.getElem?_eq_getElem hi⟩
  obtain ⟨u, q0, q1, q2, hI⟩ := zHa hG hx
  have hok := hw i g hx
  have hil := hI.small
  obtain ⟨A2, c2, rfl⟩ := hI.slice
  refine zAc fun _ K17 => zAa <| wc rfl rfl (lss1 (by omega)) rfl rfl <| zAd <| zAb K17 <| zAc fun _ K18 => zAl rfl <| zAj ?_
  refine zAb K18 <| zAc fun _ K19 => zAh <| zAc fun _ K20 => zAa <| wm rfl rfl rfl <| wi (q := o + i * 3) (i := i) el37 rfl rfl (by omega) (by omega) rfl rfl <| zAe (v := .agg #[.int .i64 g.kind, .int .i64 g.lit, .slice A2 g.inp.length c2]) (fun ρ e => zAk (vs := [.int .i64 g.kind, .int .i64 g.lit, .slice A2 g.inp.length c2]) ty73 (e _ _ rfl) rfl (cells3 ((O16.old.cell (p := ⟨b, o + i * 3, none⟩) hbW).trans q0) ((O16.old.cell (p := ⟨b, o + i * 3 + 1, none⟩) hbW).trans q1) ((O16.old.cell (p := ⟨b, o + i * 3 + 2, none⟩) hbW).trans q2))) rfl rfl ?_
  obtain ⟨g21, w22, r23, O24, hg25, hs26⟩ := zAw O16 73 ze73 rfl
  refine zAe (v := VP g21) (fun ρ e => r23 ρ _ _ _ _ _) rfl rfl <| wa rfl rfl rfl ?_
  obtain ⟨w27, r28, O29, hs30⟩ := zAp (o := 0) (n := 3) O24 ty73 (.agg #[.int .i64 g.kind, .int .i64 g.lit, .slice A2 g.inp.length c2]) _ (cs' := #[.int .i64 g.kind, .int .i64 g.lit, .slice A2 g.inp.length c2]) rfl rfl rfl (Nat.le_of_ble_eq_true rfl) rfl
  refine zAv (fun ρ e => r28 ρ _ _ _ _ _ _ (e _ _ rfl) (e _ _ rfl)) rfl <| nx K20 fun _ K31 => zAe (v := .agg #[.int .i64 g.kind, .int .i64 g.lit, .slice A2 g.inp.length c2]) (fun ρ e => zAk (vs := [.int .i64 g.kind, .int .i64 g.lit, .slice A2 g.inp.length c2]) ty73 (e _ _ rfl) rfl (O29.cells 0 0 rfl rfl)) rfl rfl <| wf (q := 0) zHu rfl rfl rfl rfl <| wd ty3 rfl (O29.cell 1 0 rfl rfl) rfl rfl <| wm rfl rfl rfl ?_
  refine zAs (args := [.agg #[.int .i64 g.kind, .int .i64 g.lit, .slice A2 g.inp.length c2], .int .i64 N, .int .i64 (i : Int)]) in_50 rfl rfl rfl ?_
  refine (nformed_ (W := w27) (g := g) (i := i) (zBs O29.old hI (fun k hk => hk)) (fun k hk => Nat.lt_of_lt_of_le hk (O29.old).size) hok).mono ?_
  rintro _ w32 ⟨rfl, hb33⟩
  have O34 := O29.below hb33
  refine ⟨_, rfl, ?_⟩
  refine zAe (v := .bool false) (fun ρ e => zBw (b := true) (e _ _ rfl)) rfl rfl <| zAd <| zAb K31 <| zAf rfl <| zAj <| zAn <| zAb K19 <| zAa ?_
  refine zAe (v := .int .i64 ((i + 1 : Nat) : Int)) (fun ρ e => zAi (k := .i64) (u := (i : Int)) (v := 1) (e _ _ rfl) (e _ _ rfl) (congrArg some ((congrArg _ (by omega)).trans (zAo (u := ((i + 1 : Nat) : Int)) (by omega) (by omega))))) rfl rfl <| wm rfl rfl rfl <| zAd ?_
  refine zAt K15 (i + 1) (by show B.length - (i + 1) < B.length - i; omega) ⟨(by show i + 1 ≤ B.length; omega), (O34.re [1] rfl)⟩ ⟨rfl, rfl, rfl, rfl, trivial⟩
 ·have hie : i = B.length := by omega
  subst hie
  refine zAc fun _ K35 => zAa <| wc rfl rfl (lss0 (by omega)) rfl rfl <| zAd <| zAb K35 <| zAc fun _ K36 => zAf rfl <| zA6 ?_
  refine zAg (by intro h; cases h) ?_
  refine zAg (by intro h; cases h) ?_
  refine zA4 <| zAb K10 <| zAc fun _ K37 => zAa <| wa rfl rfl rfl <| zAd <| zAb K37 <| zAz ?_
  refine zAy (v := .int .i64 0) (fun T hT => res1 rfl T _ (hT 2 _ rfl)) ?_
  exact ⟨rfl, O16.old⟩
theorem neval1_ {W : World} {cb gi n k : Nat} {v : Bool} (hcb : cb < W.heap.size) (hgi : gi < W.heap.size) (hk : k < n) (hs : W.cell? ⟨cb, 0, none⟩ = some (.slice (some ⟨gi, 0, none⟩) n n)) (hv : W.cell? ⟨gi, k, none⟩ = some (.bool v)) :
  Calls Tryz.prog 40 #[.int .i64 (k : Int), .pointer (some ⟨cb, 0, none⟩)] W fun e w' => e = .returned (.bool (!v)) ∧ Below W.heap.size W w' := by
 have O0 : Own Z0 W W [] := Own.start W
 refine zAu (args := [.int .i64 (k : Int), VP cb]) Tryz.func40 rfl rfl (by simp) ?_
 refine zAc fun _ K1 => zAa <| wa rfl rfl rfl <| nx K1 fun _ K2 => wd (v := VS0 gi n n) ty89 rfl ((O0.old.cell (p := ⟨cb, 0, none⟩) hcb).trans hs) rfl rfl <| wm rfl rfl rfl <| wi (q := k) (i := k) el89 rfl rfl (by omega) (by omega) rfl rfl <| wd (v := .bool v) ty4 rfl ((O0.old.cell (p := ⟨gi, k, none⟩) hgi).trans hv) rfl rfl ?_
 refine zAe (v := .bool (!v)) (fun ρ e => zBw (b := v) (e _ _ rfl)) rfl rfl <| wa rfl rfl rfl <| zAd <| zAb K2 <| zAz ?_
 refine zAy (v := .bool (!v)) (fun T hT => res1 rfl T _ (hT 3 _ rfl)) ?_
 exact ⟨rfl, O0.old⟩
theorem neval2_ {W : World} {cb gi n k : Nat} {v : Bool} (hcb : cb < W.heap.size) (hgi : gi < W.heap.size) (hk : k < n) (hs : W.cell? ⟨cb, 0, none⟩ = some (.slice (some ⟨gi, 0, none⟩) n n)) (hv : W.cell? ⟨gi, k, none⟩ = some (.bool v)) :
  Calls Tryz.prog 41 #[.int .i64 (k : Int), .pointer (some ⟨cb, 0, none⟩)] W fun e w' => e = .returned (.bool v) ∧ Below W.heap.size W w' := by
 have O0 : Own Z0 W W [] := Own.start W
 refine zAu (args := [.int .i64 (k : Int), VP cb]) Tryz.func41 rfl rfl (by simp) ?_
 refine zAc fun _ K1 => zAa <| wa rfl rfl rfl <| nx K1 fun _ K2 => wd (v := VS0 gi n n) ty89 rfl ((O0.old.cell (p := ⟨cb, 0, none⟩) hcb).trans hs) rfl rfl <| wm rfl rfl rfl <| wi (q := k) (i := k) el89 rfl rfl (by omega) (by omega) rfl rfl <| wd (v := .bool v) ty4 rfl ((O0.old.cell (p := ⟨gi, k, none⟩) hgi).trans hv) rfl rfl ?_
 refine wa rfl rfl rfl <| zAd <| zAb K2 <| zAz ?_
 refine zAy (v := .bool v) (fun T hT => res1 rfl T _ (hT 3 _ rfl)) ?_
 exact ⟨rfl, O0.old⟩
def padB (B : List Gate) (s : VS) (i : Nat) : List Bool := nvTo B s i ++ List.replicate (B.length - i) false
theorem padB_zero (B : List Gate) (s : VS) : padB B s 0 = List.replicate B.length false := rfl
theorem zFj (B : List Gate) (s : VS) {i : Nat} (h : i ≤ B.length) : (padB B s i).length = B.length := by unfold padB; rw [List.length_append, zCk, List.length_replicate]; omega
theorem zFi {B : List Gate} {s : VS} {i : Nat} {g : Gate} {v : Bool} (hx : B[i]? = some g) (hv : nodeV g s (nvTo B s i) = v) : (padB B s i).set i v = padB B s (i + 1) := by
 subst hv
 have hi := (List.getElem?_eq_some_iff.1 hx).1
 unfold padB
 rw [List.set_append_right _ _ (by rw [zCk]; exact Nat.le_refl _), zCk, Nat.sub_self, show B.length - i = (B.length - (i + 1)) + 1 by omega, List.replicate_succ, List.set_cons_zero]
 conv => rhs; unfold nvTo
 rw [hx]
 simp
theorem padB_none {B : List Gate} {s : VS} {i : Nat} {g : Gate} (hx : B[i]? = some g) (h0 : g.kind = 0) : padB B s (i + 1) = padB B s i := by
 rw [← zFi hx (v := false) (by simp [nodeV, h0])]
 have hi := (List.getElem?_eq_some_iff.1 hx).1
 refine List.ext_getElem? (fun j => ?_)
 rw [List.getElem?_set]
 split
 ·rename_i e
  subst e
  rw [if_pos (by rw [zFj B s (by omega)]; exact hi)]
  unfold padB
  rw [List.getElem?_append_right (by rw [zCk]; exact Nat.le_refl _), zCk, Nat.sub_self, List.getElem?_replicate]
  simp; omega
 ·rfl
theorem padB_get {B : List Gate} (s : VS) {i k : Nat} (hk : k < i) (hi : i < B.length) : (padB B s i)[k]? = some (bv (nvTo B s i) (k : Int)) := by
 unfold padB bv
 rw [List.getElem?_append_left (by rw [zCk]; exact hk), Int.toNat_natCast, List.getD_eq_getElem?_getD, List.getElem?_eq_getElem (by rw [zCk]; exact hk)]
 rfl
theorem padB_last {B : List Gate} (s : VS) (hp : 0 < B.length) : (padB B s B.length)[B.length - 1]? = some (nv B s ((B.length - 1 : Nat) : Int)) := by
 unfold padB nv bv
 rw [Nat.sub_self, List.replicate_zero, List.append_nil, Int.toNat_natCast, List.getD_eq_getElem?_getD, List.getElem?_eq_getElem (by rw [zCk]; omega)]
 rfl
theorem nodeV1 {g : Gate} {s : VS} {v : List Bool} (h : g.kind = 1) : nodeV g s v = true := by simp [nodeV, h]
theorem nodeV2 {g : Gate} {s : VS} {v : List Bool} (h : g.kind = 2) : nodeV g s v = litHolds s g.lit := by simp [nodeV, h]
theorem nodeV3 {g : Gate} {s : VS} {v : List Bool} (h : g.kind = 3) : nodeV g s v = !(g.inp.any fun x => !(bv v x)) := by
 simp only [nodeV, h]
 rw [List.all_eq_not_any_not]; rfl
theorem nodeV4 {g : Gate} {s : VS} {v : List Bool} (h : g.kind = 4) : nodeV g s v = g.inp.any fun x => bv v x := by simp [nodeV, h]
theorem neval_ {W : World} {V : Value} {B : List Gate} {N : Int} (hG : GatesV W W.heap.size V B) (hw : WfN N B) (hp : 0 < B.length) (hlen : B.length ≤ 65536) (hN0 : 0 ≤ N) (hN1 : N ≤ 128) (s : VS) : Calls Tryz.prog 11 #[.agg #[.int .i64 N, V], .agg #[.int .u64 (s.a.toNat : Int), .int .u64 (s.b.toNat : Int)]] W fun e w' => e = .returned (.bool (nv B s ((B.length - 1 : Nat) : Int))) ∧ Below W.heap.size W w' := by
 obtain ⟨b, o, c, rfl, hbW⟩ := zCt hG hp
 have O0 : Own Z0 W W [] := Own.start W
 refine zAu (args := [.agg #[.int .i64 N, .slice (some ⟨b, o, none⟩) B.length c], .agg #[.int .u64 (s.a.toNat : Int), .int .u64 (s.b.toNat : Int)]]) Tryz.func11 rfl rfl (by simp) ?_
 refine zAc fun _ K1 => zAa ?_
 obtain ⟨g2, w3, r4, O5, hg6, hs7⟩ := zA5 O0 39 (.agg #[.int .i64 N, .slice (some ⟨b, o, none⟩) B.length c]) rfl
 refine zAe (v := VP g2) (fun ρ e => r4 ρ _ _ _ _ _ _ (e _ _ rfl)) rfl rfl ?_
 obtain ⟨g8, w9, r10, O11, hg12, hs13⟩ := zA5 O5 25 (.agg #[.int .u64 (s.a.toNat : Int), .int .u64 (s.b.toNat : Int)]) rfl
 refine zAe (v := VP g8) (fun ρ e => r10 ρ _ _ _ _ _ _ (e _ _ rfl)) rfl rfl <| wa rfl rfl rfl <| zAd <| zAb K1 <| zAc fun _ K14 => zAc fun _ K15 => zAa <| zAe (v := .agg #[.int .i64 N, .slice (some ⟨b, o, none⟩) B.length c]) (fun ρ e => zAk (vs := [.int .i64 N, .slice (some ⟨b, o, none⟩) B.length c]) ty39 (e _ _ rfl) rfl (O11.cells 1 0 rfl rfl)) rfl rfl ?_
 refine zAs (args := [.agg #[.int .i64 N, .slice (some ⟨b, o, none⟩) B.length c]]) zJp rfl rfl rfl ?_
 refine (zF3 (zBv hG O11.old) hw hp hlen hN0 hN1).mono ?_
 rintro _ w16 ⟨rfl, hb17⟩
 have O18 := O11.below hb17
 refine ⟨_, rfl, ?_⟩
 refine wc rfl rfl (neq0 (by omega)) rfl rfl <| zAd <| zAb K15 <| zAf rfl <| zAj <| zAb K14 <| zAc fun _ K19 => zAa ?_
 refine wf (q := 1) zCw rfl rfl rfl rfl <| wd ty37 rfl (O18.cell 1 1 rfl rfl) rfl rfl <| wz el37 rfl rfl rfl ?_
 obtain ⟨g20, w21, r22, O23, hg24, hs25⟩ := zBo O18 ap89 rfl B.length (by decide) (by omega) (cs := (boolCs (padB B s 0)).toArray) (by rw [padB_zero]; simp [boolCs])
 refine zAe (v := VS0 g20 B.length B.length) (fun ρ e => r22 ρ _ _ _ _ _ _ _ (e _ _ rfl) (e _ _ rfl)) rfl rfl ?_
 obtain ⟨g26, w27, r28, O29, hg30, hs31⟩ := zAw O23 89 ze89 rfl
 refine zAe (v := VP g26) (fun ρ e => r28 ρ _ _ _ _ _) rfl rfl ?_
 obtain ⟨w32, r33, O34, hs35⟩ := zAp (o := 0) (n := 1) O29 ty89 (VS0 g20 B.length B.length) _ (cs' := #[VS0 g20 B.length B.length]) rfl rfl rfl (Nat.le_of_ble_eq_true rfl) rfl
 refine zAv (fun ρ e => r33 ρ _ _ _ _ _ _ (e _ _ rfl) (e _ _ rfl)) rfl <| zAd <| zAb K19 <| zAc fun _ K36 => zAc fun _ K37 => zAa <| wf (q := 1) zCw rfl rfl rfl rfl <| wd ty37 rfl (O34.cell 3 1 rfl rfl) rfl rfl ?_
 refine wz el37 rfl rfl rfl <| wm rfl rfl rfl <| zAd <| zAb K37 <| zAh ?_
 have O38 := (O34.re [1, 3, 2, 0] rfl)
 refine zA8 (ι := Nat) (fun q => [(2, VP g2), (3, VP g8), (5, VP g26), (16, .slice (some ⟨b, o, none⟩) B.length c), (17, .int .i64 ((B.length : Nat) : Int)), (18, .int .i64 (q : Int))]) (fun q X => (q ≤ B.length) ∧ Own Z0 W X [.blk g20 4 ((boolCs (padB B s q)).toArray), .blk g2 39 #[.int .i64 N, .slice (some ⟨b, o, none⟩) B.length c], .blk g8 25 #[.int .u64 (s.a.toNat : Int), .int .u64 (s.b.toNat : Int)], .blk g26 89 #[VS0 g20 B.length B.length]]) (fun q => B.length - q) 0 ⟨Nat.zero_le _, O38⟩ ⟨rfl, rfl, rfl, rfl, rfl, rfl, trivial⟩ (fun q w39 hJ F40 K41 => ?_)
 obtain ⟨i, rfl⟩ : ∃ x, x = q := ⟨_, rfl⟩
 obtain ⟨hi0, O42⟩ := hJ
 try dsimp only at hi0 O42 ⊢
 by_cases hi : i < B.length
 ·skip
  obtain ⟨g, hx⟩ : ∃ g, B[i]? = some g := ⟨B[i], List.getElem?_eq_getElem hi⟩
  obtain ⟨u, q0, q1, q2, hI⟩ := zHa hG hx
  have hok := hw i g hx
  have hil := hI.small
  obtain ⟨A2, c2, rfl⟩ := hI.slice
  refine zAc fun _ K43 => zAa <| wc rfl rfl (lss1 (by omega)) rfl rfl <| zAd <| zAb K43 <| zAc fun _ K44 => zAl rfl <| zAj ?_
  refine zAb K44 <| zAc fun _ K45 => zAh <| zAc fun _ K46 => zAa <| wm rfl rfl rfl <| wi (q := o + i * 3) (i := i) el37 rfl rfl (by omega) (by omega) rfl rfl <| zAe (v := .agg #[.int .i64 g.kind, .int .i64 g.lit, .slice A2 g.inp.length c2]) (fun ρ e => zAk (vs := [.int .i64 g.kind, .int .i64 g.lit, .slice A2 g.inp.length c2]) ty73 (e _ _ rfl) rfl (cells3 ((O42.old.cell (p := ⟨b, o + i * 3, none⟩) hbW).trans q0) ((O42.old.cell (p := ⟨b, o + i * 3 + 1, none⟩) hbW).trans q1) ((O42.old.cell (p := ⟨b, o + i * 3 + 2, none⟩) hbW).trans q2))) rfl rfl ?_
  obtain ⟨g47, w48, r49, O50, hg51, hs52⟩ := zAw O42 73 ze73 rfl
  refine zAe (v := VP g47) (fun ρ e => r49 ρ _ _ _ _ _) rfl rfl <| wa rfl rfl rfl ?_
  obtain ⟨w53, r54, O55, hs56⟩ := zAp (o := 0) (n := 3) O50 ty73 (.agg #[.int .i64 g.kind, .int .i64 g.lit, .slice A2 g.inp.length c2]) _ (cs' := #[.int .i64 g.kind, .int .i64 g.lit, .slice A2 g.inp.length c2]) rfl rfl rfl (Nat.le_of_ble_eq_true rfl) rfl
  refine zAv (fun ρ e => r54 ρ _ _ _ _ _ _ (e _ _ rfl) (e _ _ rfl)) rfl <| nx K46 fun _ K57 => wf (q := 0) zBy rfl rfl rfl rfl <| wd ty3 rfl (O55.cell 0 0 rfl rfl) rfl rfl <| zAd <| zAb K57 <| zAh <| zAc fun _ K58 => ?_
  refine zAa ?_
  by_cases c59 : g.kind = 1
  ·skip
   have hk1 := c59
   refine wc rfl rfl (eql1 (by omega)) rfl rfl <| wa rfl rfl rfl <| zAd <| zAb K58 <| zAl rfl <| zAa <| wd ty89 rfl (O55.cell 4 0 rfl rfl) rfl rfl <| wm rfl rfl rfl ?_
   refine wi (q := i) (i := i) el89 rfl rfl (by omega) (by omega) rfl rfl ?_
   obtain ⟨w60, r61, O62, hs63⟩ := zAp (o := i) (n := 1) (O55.re [1, 0, 2, 3, 4] rfl) ty4 (.bool true) _ (cs' := (boolCs (padB B s (i + 1))).toArray) rfl rfl rfl (by simp [boolCs, zFj B s (Nat.le_of_lt hi)] <;> omega) ((setBo _ _ _).trans (by rw [zFi hx (nodeV1 hk1)]))
   refine zAv (fun ρ e => r61 ρ _ _ _ _ _ _ (e _ _ rfl) (e _ _ rfl)) rfl <| zAd <| zAn <| zAn <| zAb K45 <| zAa <| zAe (v := .int .i64 ((i + 1 : Nat) : Int)) (fun ρ e => zAi (k := .i64) (u := (i : Int)) (v := 1) (e _ _ rfl) (e _ _ rfl) (congrArg some ((congrArg _ (by omega)).trans (zAo (u := ((i + 1 : Nat) : Int)) (by omega) (by omega))))) rfl rfl <| wm rfl rfl rfl ?_
   refine zAd ?_
   refine zAt K41 (i + 1) (by show B.length - (i + 1) < B.length - i; omega) ⟨(by show i + 1 ≤ B.length; omega), (O62.re [0, 2, 3, 4] rfl)⟩ ⟨rfl, rfl, rfl, rfl, rfl, rfl, trivial⟩
  ·skip
   refine wc rfl rfl (eql0 (by omega)) rfl rfl <| wa rfl rfl rfl <| zAd <| zAb K58 <| zAf rfl <| zAc fun _ K64 => zAa ?_
   by_cases c65 : g.kind = 2
   ·skip
    have hk2 := c65
    refine wc rfl rfl (eql1 (by omega)) rfl rfl <| wa rfl rfl rfl <| zAd <| zAb K64 <| zAl rfl ?_
    refine zA1 (fun X => Own Z0 W X [.blk g47 73 #[.int .i64 g.kind, .int .i64 g.lit, .slice A2 g.inp.length c2], .blk g20 4 ((boolCs (padB B s i)).toArray), .blk g2 39 #[.int .i64 N, .slice (some ⟨b, o, none⟩) B.length c], .blk g8 25 #[.int .u64 (s.a.toNat : Int), .int .u64 (s.b.toNat : Int)], .blk g26 89 #[VS0 g20 B.length B.length]]) 7 [(0, 0), (1, 1), (2, 0), (3, 1), (4, 0), (5, 2), (6, 1), (7, 3)] (by kernel_rfl) (by kernel_rfl) (PQ.block (PQ.block (PQ.then_ (PQ.then_ (PQ.block (PQ.then_ PQ.body)))))) (O55).drew ?_
    have O66 := O55.drew
    refine wt0 (v := VS0 g20 B.length B.length) rfl (fun ρ e W hW => zAm ty89 (e _ _ rfl) (hW.cell 4 0 rfl rfl)) rfl rfl <| tm rfl rfl rfl rfl <| wt0 (v := .agg #[.int .u64 (s.a.toNat : Int), .int .u64 (s.b.toNat : Int)]) rfl (fun ρ e W hW => zAk (vs := [.int .u64 (s.a.toNat : Int), .int .u64 (s.b.toNat : Int)]) ty25 (e _ _ rfl) rfl (hW.cells 3 0 rfl rfl)) rfl rfl <| wt1 (v := .pointer (some ⟨g47, 1, none⟩)) rfl (fun ρ e W => zBd (q := 1) zCm (e _ _ rfl) rfl) rfl rfl <| wt0 (v := .int .i64 g.lit) rfl (fun ρ e W hW => zAm ty3 (e _ _ rfl) (hW.cell 0 1 rfl rfl)) rfl rfl ?_
    refine zA7 (args := [.agg #[.int .u64 (s.a.toNat : Int), .int .u64 (s.b.toNat : Int)], .int .i64 g.lit]) rfl in_38 rfl rfl rfl ?_
    refine (lit_Holds s.a s.b g.lit w53.drew).mono ?_
    rintro _ w67 ⟨rfl, hb68⟩
    have O69 := O66.below hb68
    refine ⟨_, rfl, O69, ?_⟩
    refine wt1 (v := .pointer (some ⟨g20, i, none⟩)) rfl (fun ρ e W => zA9 (q := i) (i := i) el89 (e _ _ rfl) (e _ _ rfl) (by omega) (by omega)) rfl rfl ?_
    obtain ⟨w70, r71, O72, hs73⟩ := zAp (o := i) (n := 1) (O69.re [1, 0, 2, 3, 4] rfl) ty4 (.bool (litHolds s g.lit)) _ (cs' := (boolCs (padB B s (i + 1))).toArray) rfl rfl rfl (by simp [boolCs, zFj B s (Nat.le_of_lt hi)] <;> omega) ((setBo _ _ _).trans (by rw [zFi hx (nodeV2 hk2)]))
    refine zBf rfl (fun ρ e => r71 ρ _ _ _ _ _ _ (e _ _ rfl) (e _ _ rfl)) rfl <| zBc <| zAn <| zAn <| zAb K45 <| zAa <| zAe (v := .int .i64 ((i + 1 : Nat) : Int)) (fun ρ e => zAi (k := .i64) (u := (i : Int)) (v := 1) (e _ _ rfl) (e _ _ rfl) (congrArg some ((congrArg _ (by omega)).trans (zAo (u := ((i + 1 : Nat) : Int)) (by omega) (by omega))))) rfl rfl <| wm rfl rfl rfl ?_
    refine zAd ?_
    refine zAt K41 (i + 1) (by show B.length - (i + 1) < B.length - i; omega) ⟨(by show i + 1 ≤ B.length; omega), (O72.re [0, 2, 3, 4] rfl)⟩ ⟨rfl, rfl, rfl, rfl, rfl, rfl, trivial⟩
   ·skip
    refine wc rfl rfl (eql0 (by omega)) rfl rfl <| wa rfl rfl rfl <| zAd <| zAb K64 <| zAf rfl <| zAc fun _ K74 => zAa ?_
    by_cases c75 : g.kind = 3
    ·skip
     have hk3 := c75
     refine wc rfl rfl (eql1 (by omega)) rfl rfl <| wa rfl rfl rfl <| zAd <| zAb K74 <| zAl rfl ?_
     refine zA1 (fun X => Own Z0 W X [.blk g47 73 #[.int .i64 g.kind, .int .i64 g.lit, .slice A2 g.inp.length c2], .blk g20 4 ((boolCs (padB B s i)).toArray), .blk g2 39 #[.int .i64 N, .slice (some ⟨b, o, none⟩) B.length c], .blk g8 25 #[.int .u64 (s.a.toNat : Int), .int .u64 (s.b.toNat : Int)], .blk g26 89 #[VS0 g20 B.length B.length]]) 8 [(0, 0), (1, 1), (2, 1), (3, 0), (4, 1), (5, 2), (6, 1), (7, 1), (8, 3)] (by kernel_rfl) (by kernel_rfl) (PQ.block (PQ.block (PQ.then_ (PQ.then_ (PQ.block (PQ.then_ PQ.body)))))) (O55).drew ?_
     have O76 := O55.drew
     refine wt0 (v := VS0 g20 B.length B.length) rfl (fun ρ e W hW => zAm ty89 (e _ _ rfl) (hW.cell 4 0 rfl rfl)) rfl rfl <| tm rfl rfl rfl rfl <| wt1 (v := .pointer (some ⟨g47, 2, none⟩)) rfl (fun ρ e W => zBd (q := 2) zB0 (e _ _ rfl) rfl) rfl rfl <| wt0 (v := .slice A2 g.inp.length c2) rfl (fun ρ e W hW => zAm ty57 (e _ _ rfl) (hW.cell 0 2 rfl rfl)) rfl rfl <| wt1 (v := .func (.func 40) #[] #[VP g26]) rfl (fun ρ e W => zB2 (us := []) (vs := [VP g26]) (e.list rfl) (e.list rfl)) rfl rfl ?_
     refine zA7 (args := [.slice A2 g.inp.length c2, .func (.func 40) #[] #[VP g26]]) rfl in_39 rfl rfl rfl ?_
     refine (cfunc_ (p := (fun x => !(bv (nvTo B s i) x))) in_40 (zBs O76.old hI (fun k hk => hk)) (fun k hk => Nat.lt_of_lt_of_le hk (O76.old).size) (fun W' hW' x hx2 => ?_)).mono ?_
     ·obtain ⟨h1, h2⟩ := hok.1 x hx2
      obtain ⟨n, rfl⟩ : ∃ n : Nat, x = (n : Int) := ⟨x.toNat, by omega⟩
      exact neval1_ (Nat.lt_of_lt_of_le (O76.blk 4 rfl).lt hW'.size) (Nat.lt_of_lt_of_le (O76.blk 1 rfl).lt hW'.size) (show n < B.length by omega) ((O76.below hW').cell 4 0 rfl rfl) ((((O76.below hW').blk 1 rfl).cell _).trans (getBo (padB_get s (by omega) (by omega))))
     rintro _ w77 ⟨rfl, hb78⟩
     have O79 := O76.below hb78
     refine ⟨_, rfl, O79, ?_⟩
     refine wt1 (v := .bool (!(g.inp.any (fun x => !(bv (nvTo B s i) x))))) rfl (fun ρ e W => zBw (b := (g.inp.any (fun x => !(bv (nvTo B s i) x)))) (e _ _ rfl)) rfl rfl <| wt1 (v := .pointer (some ⟨g20, i, none⟩)) rfl (fun ρ e W => zA9 (q := i) (i := i) el89 (e _ _ rfl) (e _ _ rfl) (by omega) (by omega)) rfl rfl ?_
     obtain ⟨w80, r81, O82, hs83⟩ := zAp (o := i) (n := 1) (O79.re [1, 0, 2, 3, 4] rfl) ty4 (.bool (!(g.inp.any (fun x => !(bv (nvTo B s i) x))))) _ (cs' := (boolCs (padB B s (i + 1))).toArray) rfl rfl rfl (by simp [boolCs, zFj B s (Nat.le_of_lt hi)] <;> omega) ((setBo _ _ _).trans (by rw [zFi hx (nodeV3 hk3)]))
     refine zBf rfl (fun ρ e => r81 ρ _ _ _ _ _ _ (e _ _ rfl) (e _ _ rfl)) rfl <| zBc <| zAn <| zAn <| zAb K45 <| zAa <| zAe (v := .int .i64 ((i + 1 : Nat) : Int)) (fun ρ e => zAi (k := .i64) (u := (i : Int)) (v := 1) (e _ _ rfl) (e _ _ rfl) (congrArg some ((congrArg _ (by omega)).trans (zAo (u := ((i + 1 : Nat) : Int)) (by omega) (by omega))))) rfl rfl <| wm rfl rfl rfl ?_
     refine zAd ?_
     refine zAt K41 (i + 1) (by show B.length - (i + 1) < B.length - i; omega) ⟨(by show i + 1 ≤ B.length; omega), (O82.re [0, 2, 3, 4] rfl)⟩ ⟨rfl, rfl, rfl, rfl, rfl, rfl, trivial⟩
    ·skip
     refine wc rfl rfl (eql0 (by omega)) rfl rfl <| wa rfl rfl rfl <| zAd <| zAb K74 <| zAf rfl <| zAc fun _ K84 => zAa ?_
     by_cases c85 : g.kind = 4
     ·skip
      have hk4 := c85
      refine wc rfl rfl (eql1 (by omega)) rfl rfl <| wa rfl rfl rfl <| zAd <| zAb K84 <| zAl rfl ?_
      refine zA1 (fun X => Own Z0 W X [.blk g47 73 #[.int .i64 g.kind, .int .i64 g.lit, .slice A2 g.inp.length c2], .blk g20 4 ((boolCs (padB B s i)).toArray), .blk g2 39 #[.int .i64 N, .slice (some ⟨b, o, none⟩) B.length c], .blk g8 25 #[.int .u64 (s.a.toNat : Int), .int .u64 (s.b.toNat : Int)], .blk g26 89 #[VS0 g20 B.length B.length]]) 7 [(0, 0), (1, 1), (2, 1), (3, 0), (4, 1), (5, 2), (6, 1), (7, 3)] (by kernel_rfl) (by kernel_rfl) (PQ.block (PQ.block (PQ.then_ (PQ.then_ (PQ.block (PQ.then_ PQ.body)))))) (O55).drew ?_
      have O86 := O55.drew
      refine wt0 (v := VS0 g20 B.length B.length) rfl (fun ρ e W hW => zAm ty89 (e _ _ rfl) (hW.cell 4 0 rfl rfl)) rfl rfl <| tm rfl rfl rfl rfl <| wt1 (v := .pointer (some ⟨g47, 2, none⟩)) rfl (fun ρ e W => zBd (q := 2) zB0 (e _ _ rfl) rfl) rfl rfl <| wt0 (v := .slice A2 g.inp.length c2) rfl (fun ρ e W hW => zAm ty57 (e _ _ rfl) (hW.cell 0 2 rfl rfl)) rfl rfl <| wt1 (v := .func (.func 41) #[] #[VP g26]) rfl (fun ρ e W => zB2 (us := []) (vs := [VP g26]) (e.list rfl) (e.list rfl)) rfl rfl ?_
      refine zA7 (args := [.slice A2 g.inp.length c2, .func (.func 41) #[] #[VP g26]]) rfl in_39 rfl rfl rfl ?_
      refine (cfunc_ (p := (fun x => bv (nvTo B s i) x)) in_41 (zBs O86.old hI (fun k hk => hk)) (fun k hk => Nat.lt_of_lt_of_le hk (O86.old).size) (fun W' hW' x hx2 => ?_)).mono ?_
      ·obtain ⟨h1, h2⟩ := hok.1 x hx2
       obtain ⟨n, rfl⟩ : ∃ n : Nat, x = (n : Int) := ⟨x.toNat, by omega⟩
       exact neval2_ (Nat.lt_of_lt_of_le (O86.blk 4 rfl).lt hW'.size) (Nat.lt_of_lt_of_le (O86.blk 1 rfl).lt hW'.size) (show n < B.length by omega) ((O86.below hW').cell 4 0 rfl rfl) ((((O86.below hW').blk 1 rfl).cell _).trans (getBo (padB_get s (by omega) (by omega))))
      rintro _ w87 ⟨rfl, hb88⟩
      have O89 := O86.below hb88
      refine ⟨_, rfl, O89, ?_⟩
      refine wt1 (v := .pointer (some ⟨g20, i, none⟩)) rfl (fun ρ e W => zA9 (q := i) (i := i) el89 (e _ _ rfl) (e _ _ rfl) (by omega) (by omega)) rfl rfl ?_
      obtain ⟨w90, r91, O92, hs93⟩ := zAp (o := i) (n := 1) (O89.re [1, 0, 2, 3, 4] rfl) ty4 (.bool (g.inp.any (fun x => bv (nvTo B s i) x))) _ (cs' := (boolCs (padB B s (i + 1))).toArray) rfl rfl rfl (by simp [boolCs, zFj B s (Nat.le_of_lt hi)] <;> omega) ((setBo _ _ _).trans (by rw [zFi hx (nodeV4 hk4)]))
      refine zBf rfl (fun ρ e => r91 ρ _ _ _ _ _ _ (e _ _ rfl) (e _ _ rfl)) rfl <| zBc <| zAn <| zAn <| zAb K45 <| zAa <| zAe (v := .int .i64 ((i + 1 : Nat) : Int)) (fun ρ e => zAi (k := .i64) (u := (i : Int)) (v := 1) (e _ _ rfl) (e _ _ rfl) (congrArg some ((congrArg _ (by omega)).trans (zAo (u := ((i + 1 : Nat) : Int)) (by omega) (by omega))))) rfl rfl <| wm rfl rfl rfl ?_
      refine zAd ?_
      refine zAt K41 (i + 1) (by show B.length - (i + 1) < B.length - i; omega) ⟨(by show i + 1 ≤ B.length; omega), (O92.re [0, 2, 3, 4] rfl)⟩ ⟨rfl, rfl, rfl, rfl, rfl, rfl, trivial⟩
     ·skip
      have hk0 : g.kind = 0 := by have := (zCv hok).2.2.2; omega
      refine wc rfl rfl (eql0 (by omega)) rfl rfl <| wa rfl rfl rfl <| zAd <| zAb K84 <| zAf rfl <| zAj <| zAn <| zAn ?_
      refine zAb K45 <| zAa <| zAe (v := .int .i64 ((i + 1 : Nat) : Int)) (fun ρ e => zAi (k := .i64) (u := (i : Int)) (v := 1) (e _ _ rfl) (e _ _ rfl) (congrArg some ((congrArg _ (by omega)).trans (zAo (u := ((i + 1 : Nat) : Int)) (by omega) (by omega))))) rfl rfl <| wm rfl rfl rfl <| zAd ?_
      have O94 : Own Z0 W w53 [.blk g20 4 ((boolCs (padB B s (i + 1))).toArray), .blk g2 39 #[.int .i64 N, .slice (some ⟨b, o, none⟩) B.length c], .blk g8 25 #[.int .u64 (s.a.toNat : Int), .int .u64 (s.b.toNat : Int)], .blk g26 89 #[VS0 g20 B.length B.length]] := by rw [padB_none hx hk0]; exact (O55.re [1, 2, 3, 4] rfl)
      refine zAt K41 (i + 1) (by show B.length - (i + 1) < B.length - i; omega) ⟨(by show i + 1 ≤ B.length; omega), O94⟩ ⟨rfl, rfl, rfl, rfl, rfl, rfl, trivial⟩
 ·have hie : i = B.length := by omega
  subst hie
  refine zAc fun _ K95 => zAa <| wc rfl rfl (lss0 (by omega)) rfl rfl <| zAd <| zAb K95 <| zAc fun _ K96 => zAf rfl <| zA6 ?_
  refine zAg (by intro h; cases h) ?_
  refine zAg (by intro h; cases h) ?_
  refine zA4 <| zAb K36 <| zAc fun _ K97 => zAa <| wd ty89 rfl (O42.cell 3 0 rfl rfl) rfl rfl <| wd ty89 rfl (O42.cell 3 0 rfl rfl) rfl rfl <| wz el89 rfl rfl rfl <| zAe (v := .int .i64 ((B.length - 1 : Nat) : Int)) (fun ρ e => zAi (k := .i64) (u := ((B.length : Nat) : Int)) (v := 1) (e _ _ rfl) (e _ _ rfl) (congrArg some ((congrArg _ (show _ = ((B.length - 1 : Nat) : Int) by omega)).trans (zAo (by omega) (by omega))))) rfl rfl ?_
  refine wi (q := B.length - 1) (i := B.length - 1) el89 rfl rfl (by omega) (by omega) rfl rfl <| wd (v := .bool (nv B s ((B.length - 1 : Nat) : Int))) ty4 rfl (((O42.blk 0 rfl).cell _).trans (getBo (padB_last s hp))) rfl rfl <| wa rfl rfl rfl <| zAd <| zAb K97 <| zAz ?_
  refine zAy (v := .bool (nv B s ((B.length - 1 : Nat) : Int))) (fun T hT => res1 rfl T _ (hT 4 _ rfl)) ?_
  exact ⟨rfl, O42.old⟩

end Go.Proofs.YtliiclmhpphpmaaGreatDoor
namespace Go.Proofs.YtliiclmhpphpmaaGreatDoor
open Go Go.RowKit
def keyO (g : Gate) : ByteArray := ⟨(keyS g).toArray⟩
theorem keyO_inj {g h : Gate} (e : keyO g = keyO h) : g = h := by
 unfold keyO at e
 injection e with e
 exact keyS_inj (by simpa using congrArg Array.toList e)
def keysO : List Gate → Nat → List (ByteArray × Value)
 | [], _ => []
 | g :: L, i => (keyO g, .int .i64 (i : Int)) :: keysO L (i + 1)
theorem zF5 (g : Gate) : ∀ (L : List Gate) (j i : Nat), (look (keyO g) (keysO L j) i).map (·.2) = (gidx g L j).map fun k => .int .i64 (k : Int)
 | [], _, _ => rfl
 | h :: L, j, i => by
  unfold keysO look gidx
  by_cases e : g = h
  ·subst e; simp
  ·rw [if_neg (fun e' => e (keyO_inj e')), if_neg e]
   exact zF5 g L (j + 1) (i + 1)
theorem keysO_snoc (g : Gate) : ∀ (L : List Gate) (j : Nat), keysO (L ++ [g]) j = keysO L j ++ [(keyO g, .int .i64 ((j + L.length : Nat) : Int))]
 | [], j => by simp [keysO]
 | h :: L, j => by
  show _ :: keysO (L ++ [g]) (j + 1) = _
  rw [keysO_snoc g L (j + 1)]
  simp only [keysO, List.cons_append, List.length_cons]
  rw [show j + 1 + L.length = j + (L.length + 1) by omega]
theorem keysO_put {g : Gate} {L : List Gate} (hx : gidx g L 0 = none) : aput (keyO g) (.int .i64 (L.length : Int)) (keysO L 0) = keysO (L ++ [g]) 0 := by
 have h1 := zF5 g L 0 0
 rw [hx] at h1
 have h2 : look (keyO g) (keysO L 0) 0 = none := by
  cases h : look (keyO g) (keysO L 0) 0 with
  | none => rfl
  | some p => rw [h] at h1; cases h1
 rw [zHo _ _ _ 0 h2, keysO_snoc, Nat.zero_add]
def bldE (bb m : Nat) (N : Int) (R : Option Addr) (c : Nat) (D : Nat → Prop) (L : List Gate) (vs : List Value) : List En :=
 [.blk bb 109 #[.int .i64 N, .slice R L.length c, .map (some m)], .map m (encL strE (keysO L 0)), .row (.slice R L.length c) 73 3 L.length (gcells L vs), .ro D (Ins D L vs), .ro TabD Tab]
section
variable {Z : Bool → Nat → Prop} {w0 W : World} {bb m : Nat} {N : Int} {R : Option Addr} {c : Nat} {D : Nat → Prop} {L : List Gate} {vs : List Value}
theorem put0_ {D2 : Nat → Prop} {AV : Option Addr} {cV : Nat} {g : Gate} (O0 : Own Z w0 W [.blk bb 109 #[.int .i64 N, .slice R L.length c, .map (some m)], .map m (encL strE (keysO L 0)), .row (.slice R L.length c) 73 3 L.length (gcells L vs), .ro D (Ins D L vs), .ro TabD Tab, .ro D2 (fun w => IntsD D2 w (.slice AV g.inp.length cV) g.inp)]) (sm : ∀ x ∈ g.kind :: g.lit :: g.inp, -1000000 ≤ x ∧ x ≤ 1000000) (hl : g.inp.length ≤ 100000) (hL : L.length < 65536) :
  Calls Tryz.prog 51 #[.pointer (some ⟨bb, 0, none⟩), .agg #[.int .i64 g.kind, .int .i64 g.lit, .slice AV g.inp.length cV]] W fun e w' => ∃ R' c' D' vs', e = .returned (.tuple #[.int .i64 (findG L g).2, .int .i64 0]) ∧ Own Z w0 w' (bldE bb m N R' c' D' (findG L g).1 vs') := by
 have hins : Ins D L vs W := O0.ro 3 rfl
 have hr0 := zF5 g L 0 0
 cases hx : gidx g L 0 with
 | some k =>
  rw [hx] at hr0
  obtain ⟨⟨k', v'⟩, hr, hv'⟩ : ∃ p, look (keyO g) (keysO L 0) 0 = some p ∧ p.2 = .int .i64 (k : Int) := by
   cases h : look (keyO g) (keysO L 0) 0 with
   | none => rw [h] at hr0; cases hr0
   | some p => rw [h] at hr0; exact ⟨p, rfl, Option.some.inj hr0⟩
  simp only at hv'
  subst hv'
  refine zAu (args := [VP bb, .agg #[.int .i64 g.kind, .int .i64 g.lit, .slice AV g.inp.length cV]]) Tryz.func51 rfl rfl (by simp) ?_
  refine zAc fun _ K1 => zAa ?_
  obtain ⟨g2, w3, r4, O5, hg6, hs7⟩ := zA5 O0 73 (.agg #[.int .i64 g.kind, .int .i64 g.lit, .slice AV g.inp.length cV]) rfl
  refine zAe (v := VP g2) (fun ρ e => r4 ρ _ _ _ _ _ _ (e _ _ rfl)) rfl rfl <| wa rfl rfl rfl <| wa rfl rfl rfl <| nx K1 fun _ K8 => zAe (v := .agg #[.int .i64 g.kind, .int .i64 g.lit, .slice AV g.inp.length cV]) (fun ρ e => zAk (vs := [.int .i64 g.kind, .int .i64 g.lit, .slice AV g.inp.length cV]) ty73 (e _ _ rfl) rfl (O5.cells 0 0 rfl rfl)) rfl rfl ?_
  refine zAs (args := [.agg #[.int .i64 g.kind, .int .i64 g.lit, .slice AV g.inp.length cV]]) in_76 rfl rfl rfl ?_
  refine (key_ (g := g) (O5.ro 6 rfl : IntsD D2 _ _ g.inp) (O5.get 6 rfl).2.1 (O5.ro 5 rfl) sm hl).mono ?_
  rintro _ w9 ⟨rfl, hb10⟩
  have O11 := O5.below hb10
  refine ⟨_, rfl, ?_⟩
  refine wa rfl rfl rfl <| zAd <| zAb K8 <| zAc fun _ K12 => zAc fun _ K13 => zAa <| wm rfl rfl rfl <| wn rfl rfl rfl ?_
  refine wf (q := 2) zHj rfl rfl rfl rfl <| wd ty107 rfl (O11.cell 1 2 rfl rfl) rfl rfl <| wm rfl rfl rfl <| zAe (v := .tuple #[.int .i64 (k : Int), .bool true]) (fun ρ e => zI9 strKey Tryz.underlying107 Tryz.underlying9 ze3 (O11.map 2 rfl) (keyO g) hr true (e _ _ rfl) (e _ _ rfl) rfl) rfl rfl <| wm rfl rfl rfl <| we rfl rfl rfl rfl <| we rfl rfl rfl rfl <| wa rfl rfl rfl ?_
  refine wa rfl rfl rfl <| nx K13 fun _ K14 => wm rfl rfl rfl <| zAd <| zAb K14 <| zAl rfl <| zAc fun _ K15 => zAa ?_
  refine wm rfl rfl rfl <| wa rfl rfl rfl <| wa rfl rfl rfl <| zAd <| zAb K15 <| zAz ?_
  refine zAg (by intro h; cases h) ?_
  refine zAy (v := .tuple #[.int .i64 (k : Int), .int .i64 0]) (fun T hT => res2 rfl T _ (hT 4 _ rfl) (hT 5 _ rfl)) ?_
  unfold findG
  rw [hx]
  exact ⟨R, c, D, vs, rfl, (O11.re [1, 2, 3, 4, 5] rfl)⟩
 | none =>
  rw [hx] at hr0
  have hr : look (keyO g) (keysO L 0) 0 = none := by
   cases h : look (keyO g) (keysO L 0) 0 with
   | none => rfl
   | some p => rw [h] at hr0; cases hr0
  refine zAu (args := [VP bb, .agg #[.int .i64 g.kind, .int .i64 g.lit, .slice AV g.inp.length cV]]) Tryz.func51 rfl rfl (by simp) ?_
  refine zAc fun _ K1 => zAa ?_
  obtain ⟨g2, w3, r4, O5, hg6, hs7⟩ := zA5 O0 73 (.agg #[.int .i64 g.kind, .int .i64 g.lit, .slice AV g.inp.length cV]) rfl
  refine zAe (v := VP g2) (fun ρ e => r4 ρ _ _ _ _ _ _ (e _ _ rfl)) rfl rfl <| wa rfl rfl rfl <| wa rfl rfl rfl <| nx K1 fun _ K8 => zAe (v := .agg #[.int .i64 g.kind, .int .i64 g.lit, .slice AV g.inp.length cV]) (fun ρ e => zAk (vs := [.int .i64 g.kind, .int .i64 g.lit, .slice AV g.inp.length cV]) ty73 (e _ _ rfl) rfl (O5.cells 0 0 rfl rfl)) rfl rfl ?_
  refine zAs (args := [.agg #[.int .i64 g.kind, .int .i64 g.lit, .slice AV g.inp.length cV]]) in_76 rfl rfl rfl ?_
  refine (key_ (g := g) (O5.ro 6 rfl : IntsD D2 _ _ g.inp) (O5.get 6 rfl).2.1 (O5.ro 5 rfl) sm hl).mono ?_
  rintro _ w9 ⟨rfl, hb10⟩
  have O11 := O5.below hb10
  refine ⟨_, rfl, ?_⟩
  refine wa rfl rfl rfl <| zAd <| zAb K8 <| zAc fun _ K12 => zAc fun _ K13 => zAa <| wm rfl rfl rfl <| wn rfl rfl rfl ?_
  refine wf (q := 2) zHj rfl rfl rfl rfl <| wd ty107 rfl (O11.cell 1 2 rfl rfl) rfl rfl <| wm rfl rfl rfl <| zAe (v := .tuple #[.int .i64 0, .bool false]) (fun ρ e => zI9 strKey Tryz.underlying107 Tryz.underlying9 ze3 (O11.map 2 rfl) (keyO g) hr true (e _ _ rfl) (e _ _ rfl) rfl) rfl rfl <| wm rfl rfl rfl <| we rfl rfl rfl rfl <| we rfl rfl rfl rfl <| wa rfl rfl rfl ?_
  refine wa rfl rfl rfl <| nx K13 fun _ K14 => wm rfl rfl rfl <| zAd <| zAb K14 <| zAf rfl <| zAj <| zAb K12 ?_
  refine zAc fun _ K15 => zAc fun _ K16 => zAa <| wm rfl rfl rfl <| wn rfl rfl rfl <| wf (q := 1) zCs rfl rfl rfl rfl <| wd ty37 rfl (O11.cell 1 1 rfl rfl) rfl rfl <| wz el37 rfl rfl rfl ?_
  refine wc rfl rfl (geq0 (by omega)) rfl rfl <| zAd <| zAb K16 <| zAf rfl <| zAj <| zAb K15 <| zAc fun _ K17 => ?_
  refine zA1 (fun X => Own Z w0 X [.blk g2 73 #[.int .i64 g.kind, .int .i64 g.lit, .slice AV g.inp.length cV], .blk bb 109 #[.int .i64 N, .slice R L.length c, .map (some m)], .ro D (Ins D L vs), .ro TabD Tab, .ro D2 (fun w => IntsD D2 w (.slice AV g.inp.length cV) g.inp)]) 10 [(0, 1), (1, 1), (2, 1), (3, 1), (4, 0), (5, 0), (6, 2), (7, 2), (8, 1), (9, 1), (10, 3)] (by kernel_rfl) (by kernel_rfl) (PQ.then_ PQ.body) ((O11.re [0, 1, 4, 5, 6] rfl)).drew ?_
  have O18 := O11.drew
  refine tm rfl rfl rfl rfl <| tm rfl rfl rfl rfl <| tn rfl rfl rfl rfl <| wt1 (v := .pointer (some ⟨bb, 1, none⟩)) rfl (fun ρ e W => zBd (q := 1) zCs (e _ _ rfl) rfl) rfl rfl <| wt0 (v := .slice R L.length c) rfl (fun ρ e W hW => zAm ty37 (e _ _ rfl) (hW.cell 1 1 rfl rfl)) rfl rfl <| wt0 (v := .agg #[.int .i64 g.kind, .int .i64 g.lit, .slice AV g.inp.length cV]) rfl (fun ρ e W hW => zAk (vs := [.int .i64 g.kind, .int .i64 g.lit, .slice AV g.inp.length cV]) ty73 (e _ _ rfl) rfl (hW.cells 0 0 rfl rfl)) rfl rfl ?_
  obtain ⟨g19, w20, r21, O22, hg23, hs24⟩ := zBg O18 el37 ze73 1 [(0, .agg #[.int .i64 g.kind, .int .i64 g.lit, .slice AV g.inp.length cV])] (cs := #[.int .i64 g.kind, .int .i64 g.lit, .slice AV g.inp.length cV]) (by decide) (by kernel_rfl)
  refine wt2 (v := VS0 g19 1 1) rfl (fun ρ e => r21 ρ _ _ _ _ _ _ (e.parts rfl)) rfl rfl (O22.re [1, 2, 5, 6, 7] rfl) ?_
  obtain ⟨A25, c26, w27, r28, O29, hz30, hc31⟩ := zC5 (O22.re [4, 0, 1, 2, 3, 5, 6, 7] rfl) ap37 ((O22.re [4, 0, 1, 2, 3, 5, 6, 7] rfl).blk 1 rfl) (cells := [.int .i64 g.kind, .int .i64 g.lit, .slice AV g.inp.length cV]) rfl rfl (by omega) (by omega) (ys := (gcells (L ++ [g]) (vs ++ [Value.slice AV g.inp.length cV]))) (zD4 g (Value.slice AV g.inp.length cV) L vs hins.1).symm
  refine wt2 (v := .slice A25 (L.length + 1) c26) rfl (fun ρ e => r28 ρ _ _ _ _ _ _ _ (e _ _ rfl) (e _ _ rfl)) rfl rfl (O29.re [2, 3, 5, 6, 7] rfl) ?_
  refine tn rfl rfl rfl rfl <| wt1 (v := .pointer (some ⟨bb, 1, none⟩)) rfl (fun ρ e W => zBd (q := 1) zCs (e _ _ rfl) rfl) rfl rfl ?_
  obtain ⟨w32, r33, O34, hs35⟩ := zAp (o := 1) (n := 1) (O29.re [3, 0, 1, 2, 4, 5, 6, 7] rfl) ty37 (.slice A25 (L.length + 1) c26) _ (cs' := #[.int .i64 N, .slice A25 (L.length + 1) c26, .map (some m)]) rfl rfl rfl (Nat.le_of_ble_eq_true rfl) rfl
  refine zBf rfl (fun ρ e => r33 ρ _ _ _ _ _ _ (e _ _ rfl) (e _ _ rfl)) rfl <| zBc <| zAb K17 <| zAc fun _ K36 => ?_
  refine zA1 (fun X => Own Z w0 X [.blk bb 109 #[.int .i64 N, .slice A25 (L.length + 1) c26, .map (some m)], .blk g19 73 #[.int .i64 g.kind, .int .i64 g.lit, .slice AV g.inp.length cV], .blk g2 73 #[.int .i64 g.kind, .int .i64 g.lit, .slice AV g.inp.length cV], .ro D (Ins D L vs), .ro TabD Tab, .ro D2 (fun w => IntsD D2 w (.slice AV g.inp.length cV) g.inp)]) 11 [(0, 1), (1, 1), (2, 1), (3, 0), (4, 1), (5, 1), (6, 1), (7, 1), (8, 0), (9, 1), (10, 1), (11, 3)] (by kernel_rfl) (by kernel_rfl) (PQ.then_ PQ.body) ((O34.re [0, 2, 3, 5, 6, 7] rfl)).drew ?_
  have O37 := O34.drew
  refine tm rfl rfl rfl rfl <| tn rfl rfl rfl rfl <| wt1 (v := .pointer (some ⟨bb, 2, none⟩)) rfl (fun ρ e W => zBd (q := 2) zHj (e _ _ rfl) rfl) rfl rfl <| wt0 (v := .map (some m)) rfl (fun ρ e W hW => zAm ty107 (e _ _ rfl) (hW.cell 0 2 rfl rfl)) rfl rfl <| tm rfl rfl rfl rfl <| tm rfl rfl rfl rfl <| tn rfl rfl rfl rfl <| wt1 (v := .pointer (some ⟨bb, 1, none⟩)) rfl (fun ρ e W => zBd (q := 1) zCs (e _ _ rfl) rfl) rfl rfl ?_
  refine wt0 (v := .slice A25 (L.length + 1) c26) rfl (fun ρ e W hW => zAm ty37 (e _ _ rfl) (hW.cell 0 1 rfl rfl)) rfl rfl <| wt1 (v := .int .i64 ((L.length + 1 : Nat) : Int)) rfl (fun ρ e W => zGn el37 (e _ _ rfl)) rfl rfl <| wt1 (v := .int .i64 (L.length : Int)) rfl (fun ρ e W => zAi (k := .i64) (u := ((L.length + 1 : Nat) : Int)) (v := 1) (e _ _ rfl) (e _ _ rfl) (congrArg some ((congrArg _ (show _ = (L.length : Int) by omega)).trans (zAo (u := (L.length : Int)) (by omega) (by omega))))) rfl rfl ?_
  obtain ⟨w38, r39, O40, hs41⟩ := zCq (O37.re [4, 0, 1, 2, 3, 5, 6, 7] rfl) strKey Tryz.underlying107 Tryz.underlying9 (keyO g) (.int .i64 (L.length : Int))
  rw [keysO_put hx] at O40
  refine zBf rfl (fun ρ e => r39 ρ _ _ _ _ _ _ _ (e _ _ rfl) (e _ _ rfl) (e _ _ rfl)) rfl <| zBc <| zAb K36 <| zAc fun _ K42 => zAa <| wm rfl rfl rfl <| wn rfl rfl rfl <| wf (q := 1) zCs rfl rfl rfl rfl ?_
  refine wd ty37 rfl (O40.cell 1 1 rfl rfl) rfl rfl <| wz el37 rfl rfl rfl <| zAe (v := .int .i64 (L.length : Int)) (fun ρ e => zAi (k := .i64) (u := ((L.length + 1 : Nat) : Int)) (v := 1) (e _ _ rfl) (e _ _ rfl) (congrArg some ((congrArg _ (show _ = (L.length : Int) by omega)).trans (zAo (u := (L.length : Int)) (by omega) (by omega))))) rfl rfl <| wa rfl rfl rfl <| wa rfl rfl rfl <| zAd <| zAb K42 <| zAz ?_
  refine zAy (v := .tuple #[.int .i64 (L.length : Int), .int .i64 0]) (fun T hT => res2 rfl T _ (hT 4 _ rfl) (hT 5 _ rfl)) ?_
  unfold findG
  rw [hx]
  have O43 := Own.insSnoc (g := g) (O40.re [5, 7, 1, 0, 2, 6] rfl)
  have hl2 : (L ++ [g]).length = L.length + 1 := by simp
  refine ⟨A25, c26, (fun k => D k ∨ D2 k), vs ++ [Value.slice AV g.inp.length cV], rfl, ?_⟩
  unfold bldE
  dsimp only
  simp only [hl2]
  exact O43.re [1, 2, 3, 0, 4] rfl
theorem put_ {D2 : Nat → Prop} {V : Value} {g : Gate} (O0 : Own Z w0 W (bldE bb m N R c D L vs ++ [inE D2 V g.inp])) (sm : ∀ x ∈ g.kind :: g.lit :: g.inp, -1000000 ≤ x ∧ x ≤ 1000000) (hl : g.inp.length ≤ 100000) (hL : L.length < 65536) :
  Calls Tryz.prog 51 #[.pointer (some ⟨bb, 0, none⟩), .agg #[.int .i64 g.kind, .int .i64 g.lit, V]] W fun e w' => ∃ R' c' D' vs', e = .returned (.tuple #[.int .i64 (findG L g).2, .int .i64 0]) ∧ Own Z w0 w' (bldE bb m N R' c' D' (findG L g).1 vs') := by
 have hV : IntsD D2 W V g.inp := O0.ro 5 rfl
 obtain ⟨AV, cV, rfl⟩ := hV.slice
 exact put0_ O0 sm hl hL
end

end Go.Proofs.YtliiclmhpphpmaaGreatDoor
namespace Go.Proofs.YtliiclmhpphpmaaGreatDoor
open Go Go.RowKit
section
variable {Z : Bool → Nat → Prop} {w0 W : World} {LL : List En}
theorem own_sort {v : Value} {l : List Int} (hO : Own Z w0 W (.row v 3 1 l.length (intCs l) :: LL)) (hl : l.length < 1000000) :
  Calls Tryz.prog 79 #[v] W fun e w' => e = .returned (.tuple #[]) ∧ Own Z w0 w' (.row v 3 1 l.length (intCs (sortI l)) :: LL) := by
 have hrow := hO.row 0 rfl
 have hperm : (sortI l).length = l.length := (zDa l).length_eq
 rcases hrow.2 with ⟨rfl, h0⟩ | ⟨g, cap, cur, rfl, _, hg, hnc, hcm, hcs, ht⟩
 ·have e0 : l = [] := List.length_eq_zero_iff.1 h0
  subst e0
  refine (Any.slices_Sort_int_none Tryz.lays189 none 0 W).mono ?_
  rintro _ _ ⟨rfl, rfl⟩
  have e : sortI [] = [] := by simp [sortI]
  rw [e]
  exact ⟨rfl, hO⟩
 ·rw [Nat.mul_one] at ht
  have hH := holds_of_blockI (ss := l) hg (by simpa [intCs] using ht)
  refine (Tryz.slices_Sort_int g 0 cap l W hH (Array.getElem?_eq_some_iff.1 hg).1 (by omega)).mono ?_
  rintro _ w' ⟨rfl, n, os, rfl⟩
  refine ⟨rfl, hO.app (v' := VS0 g l.length cap) (ownsRow_sortedI (ts := sortI l) hperm (Nat.zero_le _) hg hnc hcm hcs) (.grown (row := some g) (grownBy_sortedI _)) (.inl rfl)⟩
theorem contains_row {v : Value} {l : List Int} {x : Int} (hO : Own Z w0 W (.row v 3 1 l.length (intCs l) :: LL)) (hl : l.length < 1000000) :
  Calls Tryz.prog 78 #[v, .int .i64 x] W fun e w' => e = .returned (.bool (decide (x ∈ l))) ∧ w' = W := by
 have hrow := hO.row 0 rfl
 rcases hrow.2 with ⟨rfl, h0⟩ | ⟨g, cap, cur, rfl, _, hg, hnc, hcm, hcs, ht⟩
 ·have e0 : l = [] := List.length_eq_zero_iff.1 h0
  subst e0
  refine (Tryz.slices_Contains_empty (α := Int) none 0 (.int .i64 x) W).mono ?_
  rintro _ _ ⟨rfl, rfl⟩
  exact ⟨by simp, rfl⟩
 ·refine (Tryz.slices_Contains (α := Int) (Value.int .i64) (fun a b => a == b) (EqlAt.int _ _ _) g 0 l.length cap l x W (Nat.le_refl _) (by omega) ?_).mono ?_
  ·intro j hj
   rw [Nat.zero_add]
   exact rowcell hrow (by simp [intCs, hj, getElem!_pos])
  ·rintro _ _ ⟨rfl, rfl⟩
   refine ⟨?_, rfl⟩
   rw [List.take_length]
   congr 2
   rw [Bool.eq_iff_iff]
   simp
end
end Go.Proofs.YtliiclmhpphpmaaGreatDoor
