/-
  Lemmas and contracts, joined: Tbn Tfn Tnet Tu Tu2 Tlp.
-/
import Derived.Test.YtliiclmhpphpmaaGreatDoorPf2
import Derived.Test.YtliiclmhpphpmaaGreatDoorPf5
import Derived.Test.YtliiclmhpphpmaaGreatDoorPf4
import Derived.Test.YtliiclmhpphpmaaGreatDoorPf6
import Derived.Test.YtliiclmhpphpmaaGreatDoorPf3
import Derived.Test.YtliiclmhpphpmaaGreatDoorPf7
namespace Go.Proofs.YtliiclmhpphpmaaGreatDoor
open Go Go.RowKit
def renum (p : List Int) (inp : List Int) (k : Nat) : List Int := (inp.take k).map (fun x => p.getD x.toNat 0) ++ inp.drop k
theorem renum_zero (p inp : List Int) : renum p inp 0 = inp := by simp [renum]
theorem renum_full (p inp : List Int) : renum p inp inp.length = inp.map (fun x => p.getD x.toNat 0) := by simp [renum]
theorem renum_get (p inp : List Int) {k : Nat} {x : Int} (h : inp[k]? = some x) : (renum p inp k)[k]? = some x := by
 have hk := (List.getElem?_eq_some_iff.1 h).1
 unfold renum
 rw [List.getElem?_append_right (by simp; omega)]
 simp only [List.length_map, List.length_take, Nat.min_eq_left (Nat.le_of_lt hk), Nat.sub_self, List.getElem?_drop, Nat.add_zero]
 exact h
theorem renum_succ (p inp : List Int) {k : Nat} {x : Int} (h : inp[k]? = some x) : (renum p inp k).set k (p.getD x.toNat 0) = renum p inp (k + 1) := by
 obtain ⟨hk, rfl⟩ := List.getElem?_eq_some_iff.1 h
 unfold renum
 rw [List.set_append_right _ _ (by simp; omega)]
 simp only [List.length_map, List.length_take, Nat.min_eq_left (Nat.le_of_lt hk), Nat.sub_self]
 have e : inp.take (k + 1) = inp.take k ++ [inp[k]] := (List.take_append_getElem hk).symm
 rw [List.drop_eq_getElem_cons hk, List.set_cons_zero, e, List.map_append]
 simp only [List.map_cons, List.map_nil, List.append_assoc, List.singleton_append]
theorem res2cy {P : Program} {fn : Func} {a g b : Nat} {u v : Value} {T0 : TypeId} (h : fn.results = #[.cell a T0, .tmp b]) (T : Array Value) (w : World) (h1 : T[a]? = some (.pointer (some ⟨g, 0, none⟩))) (hv : (loadVar T0 ⟨g, 0, none⟩).run P w = .ok v w) (h2 : T[b]? = some u) : (results fn T).run P w = .ok (.tuple #[v, u]) w := by
 simp [results, h, Array.getD_eq_getD_getElem?, h1, hv, asAddr, h2]
def mk (u : List Bool) : List Int := u.map fun b => if b then 1 else 0
theorem mk_set (u : List Bool) (k : Nat) : (mk u).set k 1 = mk (u.set k true) := by simp [mk, List.map_set]
theorem zD8 {u : List Bool} {k : Nat} {b : Bool} (h : u[k]? = some b) : (mk u)[k]? = some (if b then 1 else 0) := by simp [mk, h]
theorem mk_same {u : List Bool} {k : Nat} {b : Bool} (h : u[k]? = some b) : (mk u).set k (if b then 1 else 0) = mk u := by
 apply List.ext_getElem?
 intro i
 rw [List.getElem?_set]
 split
 ·rename_i e
  subst e
  rw [zD8 h]
  split
  ·rfl
  ·rename_i hn
   have := (List.getElem?_eq_some_iff.1 (zD8 h)).1
   exact absurd this hn
 ·rfl
def atL (u : List Bool) (p : List Int) (i : Nat) : List Int := p.take i ++ (mk u).drop i
theorem atL_zero (u : List Bool) (p : List Int) : atL u p 0 = mk u := by simp [atL]
section
variable {u : List Bool} {p : List Int} {i n x : Nat} {b : Bool}
theorem zJk (u : List Bool) : (mk u).length = u.length := by simp [mk]
theorem atL_len (hp : p.length = n) (hu : u.length = n) : (atL u p i).length = n := by simp [atL, zJk]; omega
theorem atL_i (hp : p.length = n) (hu : u.length = n) (hi : i < n) (hb : u[i]? = some b) : (atL u p i)[i]? = some (if b then 1 else 0) := by
 unfold atL
 have e : (p.take i).length = i := by simp; omega
 rw [List.getElem?_append_right (by omega), e, Nat.sub_self, List.getElem?_drop, Nat.add_zero]
 exact zD8 hb
theorem atL_x (hp : p.length = n) (hu : u.length = n) (hx : x < i) (hi : i < n) : (atL u p i)[x]? = some (p.getD (x : Int).toNat 0) := by
 unfold atL
 have e : (p.take i).length = i := by simp; omega
 rw [List.getElem?_append_left (by omega), List.getElem?_take_of_lt hx, Int.toNat_natCast]
 exact zBh (by omega)
theorem atL_skip (hp : p.length = n) (hu : u.length = n) (hi : i < n) (hb : u[i]? = some false) (h0 : p[i]? = if i < n then some 0 else none) : atL u p (i + 1) = atL u p i := by
 rw [if_pos hi] at h0
 unfold atL
 have e : (mk u).drop i = 0 :: (mk u).drop (i + 1) := by
  rw [List.drop_eq_getElem_cons (by rw [zJk]; omega), (List.getElem?_eq_some_iff.1 (zD8 hb)).2]; rfl
 rw [e, List.take_add_one, h0]
 simp
theorem atL_set (hp : p.length = n) (hu : u.length = n) (hi : i < n) (v : Int) : (atL u p i).set i v = atL u (p.set i v) (i + 1) := by
 unfold atL
 have e : (p.take i).length = i := by simp; omega
 have e2 : (mk u).drop i = (mk u)[i]'(by rw [zJk]; omega) :: (mk u).drop (i + 1) := List.drop_eq_getElem_cons (by rw [zJk]; omega)
 have e3 : (p.set i v).take (i + 1) = p.take i ++ [v] := by
  rw [List.take_add_one, List.take_set_of_le (Nat.le_refl _), List.getElem?_set, if_pos rfl, if_pos (by omega)]; rfl
 rw [List.set_append_right _ _ (by omega), e, Nat.sub_self, e2, List.set_cons_zero, e3, List.append_assoc]
 rfl
end
theorem intCs_set2 (l : List Int) (k : Nat) (x : Int) : (intCs l).set k (.int .i64 x) = intCs (l.set k x) := by simp [intCs, List.map_set]
theorem nclone_ {W : World} {D : Nat → Prop} {V : Value} {l : List Int} (h : IntsD D W V l) (hl : l.length ≤ 1000000) : Calls Tryz.prog 53 #[V] W fun e w' => ∃ A c, e = .returned (.slice A l.length c) ∧ Own Z0 W w' [.row (.slice A l.length c) 3 1 l.length (intCs l)] := by
 have key : ∀ w' v', w'.ownsRow W.heap.size 3 1 v' l.length (intCs l) → Below W.heap.size W w' → ∃ A c, (Ending.returned v') = .returned (.slice A l.length c) ∧ Own Z0 W w' [.row (.slice A l.length c) 3 1 l.length (intCs l)] := by
  intro w' v' h1 h2
  obtain ⟨A, c, rfl⟩ := zGp h1
  exact ⟨A, c, rfl, (Own.start W).newrow1 h1 h2⟩
 rcases Nat.eq_zero_or_pos l.length with h0 | h0
 ·obtain ⟨A, c, rfl⟩ := h.slice
  have e0 : l = [] := List.length_eq_zero_iff.1 h0
  subst e0
  cases A with
  | none =>
   refine (Tryz.slices_Clone_int_nil 0 c W).mono ?_
   rintro _ _ ⟨rfl, rfl⟩
   exact key _ _ (World.ownsRow_nil _ _ _ _) (Below.refl _ _)
  | some a =>
   refine (Tryz.slices_Clone_int_zero a c W).mono ?_
   rintro _ w' ⟨v', rfl, h1, _, h2⟩
   exact key w' v' h1 h2
 ·obtain ⟨b, o, c, rfl⟩ := h.form h0
  refine (Tryz.slices_Clone_int b o l.length c l W (Nat.le_refl _) (by omega) (fun j hj => ?_)).mono ?_
  ·exact h.at_ (zBh hj)
  ·rintro _ w' ⟨v', rfl, h1, _, h2⟩
   rw [List.take_length] at h1
   exact key w' v' h1 h2
section
variable {Z : Bool → Nat → Prop} {w0 W : World} {bb m : Nat} {N : Int} {R : Option Addr} {c : Nat} {D : Nat → Prop} {L : List Gate} {vs : List Value}
set_option maxHeartbeats 2000000 in
theorem nbnet_ {rt : Nat} (O0 : Own Z w0 W (bldE bb m N R c D L vs)) (hr : Rd N L) (hL : L.length ≤ 60000) (hrt : rt < L.length) :
  Calls Tryz.prog 30 #[.pointer (some ⟨bb, 0, none⟩), .int .i64 (rt : Int)] W fun e w' => ∃ R' c' D' vs', e = .returned (.tuple #[.agg #[.int .i64 N, .slice R' (neededG L (rt : Int)).length c'], .int .i64 0]) ∧ Own Z w0 w' [.row (.slice R' (neededG L (rt : Int)).length c') 73 3 (neededG L (rt : Int)).length (gcells (neededG L (rt : Int)) vs'), .ro D' (Ins D' (neededG L (rt : Int)) vs')] := by
 unfold bldE at O0
 have hins : Ins D L vs W := O0.ro 3 rfl
 have hvl := hins.1
 obtain ⟨rg, rfl⟩ := rowaddr (O0.row 2 rfl) (by omega)
 have hcap := row_cap (O0.row 2 rfl)
 refine zAu (args := [.pointer (some ⟨bb, 0, none⟩), .int .i64 (rt : Int)]) Tryz.func30 rfl rfl (by simp) ?_
 refine zAc fun _ K1 => zAa ?_
 obtain ⟨g2, w3, r4, O5, hg6, hs7⟩ := zAw O0 39 ze39 rfl
 refine zAe (v := .pointer (some ⟨g2, 0, none⟩)) (fun ρ e => r4 ρ _ _ _ _ _) rfl rfl <| wa rfl rfl rfl <| zAd <| zAb K1 <| zAc fun _ K8 => zAc fun _ K9 => zAa <| wm rfl rfl rfl ?_
 refine zAe (v := .bool false) (fun ρ e => ex_ptrnil (e _ _ rfl) (e _ _ rfl)) rfl rfl <| wm rfl rfl rfl <| wm rfl rfl rfl <| wn rfl rfl rfl <| wf (q := 2) zHj rfl rfl rfl rfl <| wd ty107 rfl (O5.cell 1 2 rfl rfl) rfl rfl <| zAe (v := .bool false) (fun ρ e => ex_mapnil (e _ _ rfl) (e _ _ rfl)) rfl rfl <| zAe (v := .bool false) (fun ρ e => zA2 (e _ _ rfl) (e _ _ rfl)) rfl rfl ?_
 refine zAd <| zAb K9 <| zAf rfl <| zAj <| zAb K8 <| zAc fun _ K10 => zAc fun _ K11 => zAa ?_
 refine wm rfl rfl rfl <| wc rfl rfl (lss0 (by omega)) rfl rfl <| wm rfl rfl rfl <| wm rfl rfl rfl <| wm rfl rfl rfl <| wn rfl rfl rfl <| wf (q := 1) zCs rfl rfl rfl rfl <| wd ty37 rfl (O5.cell 1 1 rfl rfl) rfl rfl ?_
 refine wz el37 rfl rfl rfl <| wc rfl rfl (geq0 (by omega)) rfl rfl <| zAe (v := .bool false) (fun ρ e => zA2 (e _ _ rfl) (e _ _ rfl)) rfl rfl <| zAd <| zAb K11 <| zAf rfl <| zAj <| zAb K10 ?_
 refine zAc fun _ K12 => zAa <| wm rfl rfl rfl <| zAe (v := .int .i64 ((rt + 1 : Nat) : Int)) (fun ρ e => zAi (k := .i64) (u := (rt : Int)) (v := 1) (e _ _ rfl) (e _ _ rfl) (congrArg some ((congrArg _ (by omega)).trans (zAo (u := ((rt + 1 : Nat) : Int)) (by omega) (by omega))))) rfl rfl ?_
 obtain ⟨g13, w14, r15, O16, hg17, hs18⟩ := zBo O5 ap57 rfl (rt + 1) (by decide) (by omega) (cs := (intCs (mk (List.replicate (rt + 1) false))).toArray) (by simp [mk, intCs])
 refine zAe (v := .slice (some ⟨g13, 0, none⟩) (rt + 1) (rt + 1)) (fun ρ e => r15 ρ _ _ _ _ _ _ _ (e _ _ rfl) (e _ _ rfl)) rfl rfl <| wa rfl rfl rfl <| nx K12 fun _ K19 => wm rfl rfl rfl <| wm rfl rfl rfl <| wi (q := rt) (i := rt) el57 rfl rfl (by omega) (by omega) rfl rfl ?_
 obtain ⟨w20, r21, O22, hs23⟩ := zAp (o := rt) (n := 1) O16 ty3 (.int .i64 1) [.int .i64 1] (cs' := (intCs (mk ((List.replicate (rt + 1) false).set rt true))).toArray) rfl rfl rfl (by simp [mk, intCs] <;> omega) (by rw [setI, mk_set])
 refine zAv (fun ρ e => r21 ρ _ _ _ _ _ _ (e _ _ rfl) (e _ _ rfl)) rfl <| zAd <| zAb K19 <| zAc fun _ K24 => zAc fun _ K25 => zAa <| wm rfl rfl rfl <| wa rfl rfl rfl ?_
 refine zAd <| zAb K25 <| zAh ?_
 have O26 : Own Z w0 w20 [.blk g13 3 ((intCs (mk ((List.replicate (rt + 1) false).set rt true))).toArray), .blk g2 39 #[.int .i64 0, .slice none 0 0], .blk bb 109 #[.int .i64 N, .slice (some ⟨rg, 0, none⟩) L.length c, .map (some m)], .map m (encL strE (keysO L 0)), .row (.slice (some ⟨rg, 0, none⟩) L.length c) 73 3 L.length (gcells L vs), .ro D (Ins D L vs), .ro TabD Tab] := O22
 refine zA8 (ι := Nat × Int × List Bool) (fun q => [(0, .pointer (some ⟨bb, 0, none⟩)), (1, .int .i64 (rt : Int)), (4, .pointer (some ⟨g2, 0, none⟩)), (5, .int .i64 0), (6, .slice (some ⟨g13, 0, none⟩) (rt + 1) (rt + 1)), (7, .int .i64 q.2.1)]) (fun q X => (q.1 ≤ rt + 1) ∧ (q.2.1 = (q.1 : Int) - 1) ∧ (q.2.2.length = rt + 1) ∧ (useOf L rt = useGo L q.1 q.2.2) ∧ Own Z w0 X [.blk g13 3 ((intCs (mk q.2.2)).toArray), .blk g2 39 #[.int .i64 0, .slice none 0 0], .blk bb 109 #[.int .i64 N, .slice (some ⟨rg, 0, none⟩) L.length c, .map (some m)], .map m (encL strE (keysO L 0)), .row (.slice (some ⟨rg, 0, none⟩) L.length c) 73 3 L.length (gcells L vs), .ro D (Ins D L vs), .ro TabD Tab]) (fun q => q.1) (rt + 1, (rt : Int), ((List.replicate (rt + 1) false).set rt true)) ⟨Nat.le_refl _, (by show (rt : Int) = ((rt + 1 : Nat) : Int) - 1; omega), (by show (List.set _ _ _).length = _; simp), rfl, O26⟩ ⟨rfl, rfl, rfl, rfl, rfl, rfl, trivial⟩ (fun q w27 hJ F28 K29 => ?_)
 obtain ⟨j, t, u⟩ := q
 obtain ⟨hj, ht, hul, hu, O30⟩ := hJ
 dsimp only at hj ht hul hu O30 ⊢
 rcases j with _ | j
 ·obtain rfl : t = -1 := by omega
  simp only [useGo] at hu
  refine zAc fun _ K31 => zAc fun _ K32 => zAa <| wm rfl rfl rfl <| wc rfl rfl (geq0 (by omega)) rfl rfl <| zAd <| zAb K32 <| zAf rfl ?_
  refine zA6 ?_
  refine zAg (by intro h; cases h) ?_
  refine zAg (by intro h; cases h) ?_
  refine zA4 <| zAb K24 <| zAc fun _ K33 => zAa <| wm rfl rfl rfl <| wn rfl rfl rfl <| wf (q := 0) fi109_0 rfl rfl rfl rfl <| wd ty3 rfl (O30.cell 2 0 rfl rfl) rfl rfl ?_
  refine zAe (v := .agg #[.int .i64 N, .slice none 0 0]) (fun ρ e => zBe (cells := #[.int .i64 N, .slice none 0 0]) st39 (e.parts rfl) rfl) rfl rfl ?_
  obtain ⟨g34, w35, r36, O37, hg38, hs39⟩ := zAw O30 39 ze39 rfl
  refine zAe (v := .pointer (some ⟨g34, 0, none⟩)) (fun ρ e => r36 ρ _ _ _ _ _) rfl rfl ?_
  obtain ⟨w40, r41, O42, hs43⟩ := zAp (o := 0) (n := 2) O37 ty39 (.agg #[.int .i64 N, .slice none 0 0]) [.int .i64 N, .slice none 0 0] (cs' := #[.int .i64 N, .slice none 0 0]) rfl rfl rfl (Nat.le_of_ble_eq_true rfl) rfl
  refine zAv (fun ρ e => r41 ρ _ _ _ _ _ _ (e _ _ rfl) (e _ _ rfl)) rfl <| zAd <| zAb K33 <| zAc fun _ K44 => zAc fun _ K45 => zAa <| wm rfl rfl rfl <| wn rfl rfl rfl ?_
  refine wf (q := 1) zCs rfl rfl rfl rfl <| wd ty37 rfl (O42.cell 3 1 rfl rfl) rfl rfl <| wm rfl rfl rfl <| zAe (v := .int .i64 ((rt + 1 : Nat) : Int)) (fun ρ e => zAi (k := .i64) (u := (rt : Int)) (v := 1) (e _ _ rfl) (e _ _ rfl) (congrArg some ((congrArg _ (by omega)).trans (zAo (u := ((rt + 1 : Nat) : Int)) (by omega) (by omega))))) rfl rfl <| zAe (v := .slice (some ⟨rg, 0, none⟩) (rt + 1) c) (fun ρ e => zGd (h := rt + 1) (n := L.length) el37 (e _ _ rfl) (e _ _ rfl) (by omega)) rfl rfl <| wz el37 rfl rfl rfl <| wm rfl rfl rfl <| zAd ?_
  refine zAb K45 <| zAh ?_
  have O46 : Own Z w0 w40 [.row (.slice none 0 0) 73 3 0 (gcells [] []), .blk g34 39 #[.int .i64 N, .slice none 0 0], .blk g13 3 ((intCs (mk u)).toArray), .blk g2 39 #[.int .i64 0, .slice none 0 0], .blk bb 109 #[.int .i64 N, .slice (some ⟨rg, 0, none⟩) L.length c, .map (some m)], .map m (encL strE (keysO L 0)), .row (.slice (some ⟨rg, 0, none⟩) L.length c) 73 3 L.length (gcells L vs), .ro D (Ins D L vs), .ro TabD Tab] := O42.nilrow 73 3
  have O47 : Own Z w0 w40 [.ro (fun _ => False) (Ins (fun _ => False) [] []), .row (.slice none 0 0) 73 3 0 (gcells [] []), .blk g34 39 #[.int .i64 N, .slice none 0 0], .blk g13 3 ((intCs (mk u)).toArray), .blk g2 39 #[.int .i64 0, .slice none 0 0], .blk bb 109 #[.int .i64 N, .slice (some ⟨rg, 0, none⟩) L.length c, .map (some m)], .map m (encL strE (keysO L 0)), .row (.slice (some ⟨rg, 0, none⟩) L.length c) 73 3 L.length (gcells L vs), .ro D (Ins D L vs), .ro TabD Tab] := (O46.add (Below.refl _ _) (e := insE (fun _ => False) [] []) (ins_nil _) (fun _ hk => hk.elim))
  have O48 : Own Z w0 w40 [.row (.slice none 0 0) 73 3 0 (gcells [] []), .ro (fun _ => False) (Ins (fun _ => False) [] []), .blk g13 3 ((intCs (atL u (List.replicate (rt + 1) 0) 0)).toArray), .blk g34 39 #[.int .i64 N, .slice none 0 0], .blk g2 39 #[.int .i64 0, .slice none 0 0], .blk bb 109 #[.int .i64 N, .slice (some ⟨rg, 0, none⟩) L.length c, .map (some m)], .map m (encL strE (keysO L 0)), .row (.slice (some ⟨rg, 0, none⟩) L.length c) 73 3 L.length (gcells L vs), .ro D (Ins D L vs), .ro TabD Tab] := by rw [atL_zero]; exact (O47.re [1, 0, 3, 2, 4, 5, 6, 7, 8, 9] rfl)
  refine zA8 (ι := Nat × Option Addr × Nat × Nat × List Gate × List Value × (Nat → Prop) × List Int) (fun q => [(0, .pointer (some ⟨bb, 0, none⟩)), (1, .int .i64 (rt : Int)), (4, .pointer (some ⟨g2, 0, none⟩)), (5, .int .i64 0), (6, .slice (some ⟨g13, 0, none⟩) (rt + 1) (rt + 1)), (10, .pointer (some ⟨g34, 0, none⟩)), (82, .slice (some ⟨rg, 0, none⟩) (rt + 1) c), (83, .int .i64 ((rt + 1 : Nat) : Int)), (84, .int .i64 (q.1 : Int))]) (fun q X => (q.1 ≤ rt + 1) ∧ (q.2.2.2.1 = q.2.2.2.2.1.length) ∧ (q.2.2.2.1 ≤ q.1) ∧ (q.2.2.2.2.2.2.2.length = rt + 1) ∧ (∀ q', q.1 ≤ q' → q.2.2.2.2.2.2.2[q']? = if q' < rt + 1 then some 0 else none) ∧ ((placeGo u (L.take (rt + 1)) 0 ([], List.replicate (rt + 1) 0)).1 = (placeGo u ((L.take (rt + 1)).drop q.1) q.1 (q.2.2.2.2.1, q.2.2.2.2.2.2.2)).1) ∧ Own Z w0 X [.row (.slice q.2.1 q.2.2.2.1 q.2.2.1) 73 3 q.2.2.2.1 (gcells q.2.2.2.2.1 q.2.2.2.2.2.1), .ro q.2.2.2.2.2.2.1 (Ins q.2.2.2.2.2.2.1 q.2.2.2.2.1 q.2.2.2.2.2.1), .blk g13 3 ((intCs (atL u q.2.2.2.2.2.2.2 q.1)).toArray), .blk g34 39 #[.int .i64 N, .slice q.2.1 q.2.2.2.1 q.2.2.1], .blk g2 39 #[.int .i64 0, .slice none 0 0], .blk bb 109 #[.int .i64 N, .slice (some ⟨rg, 0, none⟩) L.length c, .map (some m)], .map m (encL strE (keysO L 0)), .row (.slice (some ⟨rg, 0, none⟩) L.length c) 73 3 L.length (gcells L vs), .ro D (Ins D L vs), .ro TabD Tab]) (fun q => rt + 1 - q.1) (0, none, 0, 0, [], [], (fun _ => False), (List.replicate (rt + 1) 0)) ⟨Nat.zero_le _, rfl, Nat.zero_le _, (by show (List.replicate _ _).length = _; simp), (fun q' _ => by rw [List.getElem?_replicate]), rfl, O48⟩ ⟨rfl, rfl, rfl, rfl, rfl, rfl, rfl, rfl, rfl, trivial⟩ (fun q w49 hJ F50 K51 => ?_)
  obtain ⟨i, A, cA, n, o, vo, Do, p⟩ := q
  obtain ⟨hi0, hn, hni, hpl, hp0, hgo, O52⟩ := hJ
  dsimp only at hi0 hn hni hpl hp0 hgo O52 ⊢
  by_cases hi : i < rt + 1
  ·have hqi : i < L.length := by omega
   obtain ⟨ub, hub⟩ : ∃ b, u[i]? = some b := ⟨u[i], List.getElem?_eq_getElem (by omega)⟩
   have hdr : (L.take (rt + 1)).drop i = L[i] :: (L.take (rt + 1)).drop (i + 1) := by rw [List.drop_eq_getElem_cons (by simp; omega), List.getElem_take]
   rw [hdr, placeGo, List.getD_eq_getElem?_getD, hub] at hgo
   cases ub
   ·skip
    simp only [Option.getD_some, if_true, Bool.false_eq_true, if_false] at hgo
    refine zAc fun _ K53 => zAa <| wc rfl rfl (lss1 (by omega)) rfl rfl <| zAd <| zAb K53 <| zAc fun _ K54 => zAl rfl <| zAj ?_
    refine zAb K54 <| zAc fun _ K55 => zAh <| zAc fun _ K56 => ?_
    obtain ⟨g, hx⟩ : ∃ g, L[i]? = some g := ⟨L[i], List.getElem?_eq_getElem hqi⟩
    have hge := (List.getElem?_eq_some_iff.1 hx).2
    obtain ⟨v, hv⟩ : ∃ v, vs[i]? = some v := ⟨vs[i], List.getElem?_eq_getElem (by omega)⟩
    obtain ⟨AV, cV, rfl⟩ := (hins.2 i g v hx hv).slice
    have hwg := hr.1 i g hx
    have hgil := hr.2 i g hx
    refine zAa <| wm rfl rfl rfl <| wi (q := i * 3) (i := i) el37 rfl rfl (by omega) (by omega) rfl rfl <| zAe (v := .agg #[.int .i64 g.kind, .int .i64 g.lit, .slice AV g.inp.length cV]) (fun ρ e => zAk (vs := [.int .i64 g.kind, .int .i64 g.lit, .slice AV g.inp.length cV]) ty73 (e _ _ rfl) rfl (cells3 (rowcell (O52.row 7 rfl) (zBt hx hv).1) (rowcell (O52.row 7 rfl) (zBt hx hv).2.1) (rowcell (O52.row 7 rfl) (zBt hx hv).2.2))) rfl rfl ?_
    obtain ⟨g57, w58, r59, O60, hg61, hs62⟩ := zAw O52 73 ze73 rfl
    refine zAe (v := .pointer (some ⟨g57, 0, none⟩)) (fun ρ e => r59 ρ _ _ _ _ _) rfl rfl <| wa rfl rfl rfl ?_
    obtain ⟨w63, r64, O65, hs66⟩ := zAp (o := 0) (n := 3) O60 ty73 (.agg #[.int .i64 g.kind, .int .i64 g.lit, .slice AV g.inp.length cV]) [.int .i64 g.kind, .int .i64 g.lit, .slice AV g.inp.length cV] (cs' := #[.int .i64 g.kind, .int .i64 g.lit, .slice AV g.inp.length cV]) rfl rfl rfl (Nat.le_of_ble_eq_true rfl) rfl
    refine zAv (fun ρ e => r64 ρ _ _ _ _ _ _ (e _ _ rfl) (e _ _ rfl)) rfl <| zAd <| zAb K56 <| zAc fun _ K67 => zAc fun _ K68 => zAa <| wm rfl rfl rfl <| wm rfl rfl rfl ?_
    refine wi (q := i) (i := i) el57 rfl rfl (by omega) (by omega) rfl rfl <| wd (v := .int .i64 0) ty3 rfl (O65.cell 3 i rfl (getI (atL_i hpl hul (by omega) hub))) rfl rfl <| wc rfl rfl (eql1 (by omega)) rfl rfl <| zAd <| zAb K68 <| zAl rfl <| zA6 ?_
    refine zAg (by intro h; cases h) ?_
    refine zA4 <| zAb K55 <| zAa <| zAe (v := .int .i64 ((i + 1 : Nat) : Int)) (fun ρ e => zAi (k := .i64) (u := (i : Int)) (v := 1) (e _ _ rfl) (e _ _ rfl) (congrArg some ((congrArg _ (by omega)).trans (zAo (u := ((i + 1 : Nat) : Int)) (by omega) (by omega))))) rfl rfl <| wm rfl rfl rfl <| zAd ?_
    have O69 : Own Z w0 w63 [.blk g57 73 #[.int .i64 g.kind, .int .i64 g.lit, .slice AV g.inp.length cV], .row (.slice A n cA) 73 3 n (gcells o vo), .ro Do (Ins Do o vo), .blk g13 3 ((intCs (atL u p (i + 1))).toArray), .blk g34 39 #[.int .i64 N, .slice A n cA], .blk g2 39 #[.int .i64 0, .slice none 0 0], .blk bb 109 #[.int .i64 N, .slice (some ⟨rg, 0, none⟩) L.length c, .map (some m)], .map m (encL strE (keysO L 0)), .row (.slice (some ⟨rg, 0, none⟩) L.length c) 73 3 L.length (gcells L vs), .ro D (Ins D L vs), .ro TabD Tab] := by rw [atL_skip hpl hul (by omega) hub (hp0 i (Nat.le_refl _))]; exact O65
    refine zAt K51 (i + 1, A, cA, n, o, vo, Do, p) (by show rt + 1 - (i + 1) < rt + 1 - i; omega) ⟨(by show i + 1 ≤ _; omega), hn, (by show n ≤ i + 1; omega), hpl, (fun q hq => hp0 q (by omega)), hgo, (O69.re [1, 2, 3, 4, 5, 6, 7, 8, 9, 10] rfl)⟩ ⟨rfl, rfl, rfl, rfl, rfl, rfl, rfl, rfl, rfl, trivial⟩
   ·skip
    simp only [Option.getD_some, if_true, Bool.false_eq_true, if_false] at hgo
    refine zAc fun _ K70 => zAa <| wc rfl rfl (lss1 (by omega)) rfl rfl <| zAd <| zAb K70 <| zAc fun _ K71 => zAl rfl <| zAj ?_
    refine zAb K71 <| zAc fun _ K72 => zAh <| zAc fun _ K73 => ?_
    obtain ⟨g, hx⟩ : ∃ g, L[i]? = some g := ⟨L[i], List.getElem?_eq_getElem hqi⟩
    have hge := (List.getElem?_eq_some_iff.1 hx).2
    obtain ⟨v, hv⟩ : ∃ v, vs[i]? = some v := ⟨vs[i], List.getElem?_eq_getElem (by omega)⟩
    obtain ⟨AV, cV, rfl⟩ := (hins.2 i g v hx hv).slice
    have hwg := hr.1 i g hx
    have hgil := hr.2 i g hx
    refine zAa <| wm rfl rfl rfl <| wi (q := i * 3) (i := i) el37 rfl rfl (by omega) (by omega) rfl rfl <| zAe (v := .agg #[.int .i64 g.kind, .int .i64 g.lit, .slice AV g.inp.length cV]) (fun ρ e => zAk (vs := [.int .i64 g.kind, .int .i64 g.lit, .slice AV g.inp.length cV]) ty73 (e _ _ rfl) rfl (cells3 (rowcell (O52.row 7 rfl) (zBt hx hv).1) (rowcell (O52.row 7 rfl) (zBt hx hv).2.1) (rowcell (O52.row 7 rfl) (zBt hx hv).2.2))) rfl rfl ?_
    obtain ⟨g74, w75, r76, O77, hg78, hs79⟩ := zAw O52 73 ze73 rfl
    refine zAe (v := .pointer (some ⟨g74, 0, none⟩)) (fun ρ e => r76 ρ _ _ _ _ _) rfl rfl <| wa rfl rfl rfl ?_
    obtain ⟨w80, r81, O82, hs83⟩ := zAp (o := 0) (n := 3) O77 ty73 (.agg #[.int .i64 g.kind, .int .i64 g.lit, .slice AV g.inp.length cV]) [.int .i64 g.kind, .int .i64 g.lit, .slice AV g.inp.length cV] (cs' := #[.int .i64 g.kind, .int .i64 g.lit, .slice AV g.inp.length cV]) rfl rfl rfl (Nat.le_of_ble_eq_true rfl) rfl
    refine zAv (fun ρ e => r81 ρ _ _ _ _ _ _ (e _ _ rfl) (e _ _ rfl)) rfl <| zAd <| zAb K73 <| zAc fun _ K84 => zAc fun _ K85 => zAa <| wm rfl rfl rfl <| wm rfl rfl rfl ?_
    refine wi (q := i) (i := i) el57 rfl rfl (by omega) (by omega) rfl rfl <| wd (v := .int .i64 1) ty3 rfl (O82.cell 3 i rfl (getI (atL_i hpl hul (by omega) hub))) rfl rfl <| wc rfl rfl (eql0 (by omega)) rfl rfl <| zAd <| zAb K85 <| zAf rfl <| zAj <| zAb K84 ?_
    refine zAc fun _ K86 => zAa <| wf (q := 2) zB0 rfl rfl rfl rfl <| wd ty57 rfl (O82.cell 0 2 rfl rfl) rfl rfl ?_
    refine zAs (args := [.slice AV g.inp.length cV]) in_53 rfl rfl rfl ?_
    refine (nclone_ ((O82.ro 9 rfl : Ins D L vs _).2 i g _ hx hv) (by omega)).mono ?_
    rintro _ w89 ⟨A87, c88, rfl, h90⟩
    have O91 : Own Z w0 w89 [.row (.slice A87 g.inp.length c88) 3 1 g.inp.length (intCs g.inp), .blk g74 73 #[.int .i64 g.kind, .int .i64 g.lit, .slice AV g.inp.length cV], .row (.slice A n cA) 73 3 n (gcells o vo), .ro Do (Ins Do o vo), .blk g13 3 ((intCs (atL u p i)).toArray), .blk g34 39 #[.int .i64 N, .slice A n cA], .blk g2 39 #[.int .i64 0, .slice none 0 0], .blk bb 109 #[.int .i64 N, .slice (some ⟨rg, 0, none⟩) L.length c, .map (some m)], .map m (encL strE (keysO L 0)), .row (.slice (some ⟨rg, 0, none⟩) L.length c) 73 3 L.length (gcells L vs), .ro D (Ins D L vs), .ro TabD Tab] := O82.join1 h90 trivial
    refine ⟨_, rfl, ?_⟩
    refine wf (q := 2) zB0 rfl rfl rfl rfl ?_
    obtain ⟨w92, r93, O94, hs95⟩ := zAp (o := 2) (n := 1) (O91.re [1, 0, 2, 3, 4, 5, 6, 7, 8, 9, 10, 11] rfl) ty57 (.slice A87 g.inp.length c88) [.slice A87 g.inp.length c88] (cs' := #[.int .i64 g.kind, .int .i64 g.lit, .slice A87 g.inp.length c88]) rfl rfl rfl (Nat.le_of_ble_eq_true rfl) rfl
    refine zAv (fun ρ e => r93 ρ _ _ _ _ _ _ (e _ _ rfl) (e _ _ rfl)) rfl <| zAd <| zAb K86 <| zAc fun _ K96 => zAc fun _ K97 => zAa <| wf (q := 2) zB0 rfl rfl rfl rfl <| wd ty57 rfl (O94.cell 0 2 rfl rfl) rfl rfl ?_
    refine wz el57 rfl rfl rfl <| wm rfl rfl rfl <| zAd <| zAb K97 <| zAh ?_
    have O98 : Own Z w0 w92 [.row (.slice A87 g.inp.length c88) 3 1 g.inp.length (intCs g.inp), .blk g74 73 #[.int .i64 g.kind, .int .i64 g.lit, .slice A87 g.inp.length c88], .row (.slice A n cA) 73 3 n (gcells o vo), .ro Do (Ins Do o vo), .blk g13 3 ((intCs (atL u p i)).toArray), .blk g34 39 #[.int .i64 N, .slice A n cA], .blk g2 39 #[.int .i64 0, .slice none 0 0], .blk bb 109 #[.int .i64 N, .slice (some ⟨rg, 0, none⟩) L.length c, .map (some m)], .map m (encL strE (keysO L 0)), .row (.slice (some ⟨rg, 0, none⟩) L.length c) 73 3 L.length (gcells L vs), .ro D (Ins D L vs), .ro TabD Tab] := (O94.re [1, 0, 2, 3, 4, 5, 6, 7, 8, 9, 10, 11] rfl)
    refine zA8 (ι := Nat × List Int) (fun q => [(0, .pointer (some ⟨bb, 0, none⟩)), (1, .int .i64 (rt : Int)), (4, .pointer (some ⟨g2, 0, none⟩)), (5, .int .i64 0), (6, .slice (some ⟨g13, 0, none⟩) (rt + 1) (rt + 1)), (10, .pointer (some ⟨g34, 0, none⟩)), (11, .int .i64 (i : Int)), (12, .pointer (some ⟨g74, 0, none⟩)), (82, .slice (some ⟨rg, 0, none⟩) (rt + 1) c), (83, .int .i64 ((rt + 1 : Nat) : Int)), (84, .int .i64 (i : Int)), (100, .int .i64 ((g.inp.length : Nat) : Int)), (101, .int .i64 (q.1 : Int))]) (fun q X => (q.1 ≤ g.inp.length) ∧ (q.2 = renum p g.inp q.1) ∧ Own Z w0 X [.row (.slice A87 g.inp.length c88) 3 1 g.inp.length (intCs q.2), .blk g74 73 #[.int .i64 g.kind, .int .i64 g.lit, .slice A87 g.inp.length c88], .row (.slice A n cA) 73 3 n (gcells o vo), .ro Do (Ins Do o vo), .blk g13 3 ((intCs (atL u p i)).toArray), .blk g34 39 #[.int .i64 N, .slice A n cA], .blk g2 39 #[.int .i64 0, .slice none 0 0], .blk bb 109 #[.int .i64 N, .slice (some ⟨rg, 0, none⟩) L.length c, .map (some m)], .map m (encL strE (keysO L 0)), .row (.slice (some ⟨rg, 0, none⟩) L.length c) 73 3 L.length (gcells L vs), .ro D (Ins D L vs), .ro TabD Tab]) (fun q => g.inp.length - q.1) (0, g.inp) ⟨Nat.zero_le _, (renum_zero p _).symm, O98⟩ ⟨rfl, rfl, rfl, rfl, rfl, rfl, rfl, rfl, rfl, rfl, rfl, rfl, rfl, trivial⟩ (fun q w99 hJ F100 K101 => ?_)
    obtain ⟨k2, y⟩ := q
    obtain ⟨hk20, hy, O102⟩ := hJ
    dsimp only at hk20 hy O102 ⊢
    by_cases hk2 : k2 < g.inp.length
    ·obtain ⟨gc, rfl⟩ := rowaddr (O102.row 0 rfl) (by omega)
     obtain ⟨x0, hxk⟩ : ∃ x, g.inp[k2]? = some x := ⟨g.inp[k2], List.getElem?_eq_getElem hk2⟩
     have hxr := zE9 hwg (List.mem_of_getElem? hxk)
     obtain ⟨x, rfl⟩ : ∃ n : Nat, x0 = n := ⟨x0.toNat, by omega⟩
     have hpx : (atL u p i)[x]? = some (p.getD (x : Int).toNat 0) := atL_x hpl hul (by omega) (by omega)
     refine zAc fun _ K103 => zAa <| wc rfl rfl (lss1 (by omega)) rfl rfl <| zAd <| zAb K103 <| zAc fun _ K104 => zAl rfl <| zAj ?_
     refine zAb K104 <| zAc fun _ K105 => zAh <| zAc fun _ K106 => zAa <| wm rfl rfl rfl <| wa rfl rfl rfl <| zAd ?_
     refine zAb K106 ?_
     refine zA1 (fun X => Own Z w0 X [.row (.slice (some ⟨gc, 0, none⟩) g.inp.length c88) 3 1 g.inp.length (intCs y), .blk g74 73 #[.int .i64 g.kind, .int .i64 g.lit, .slice (some ⟨gc, 0, none⟩) g.inp.length c88], .ro Do (Ins Do o vo), .blk g13 3 ((intCs (atL u p i)).toArray), .blk g34 39 #[.int .i64 N, .slice A n cA], .blk g2 39 #[.int .i64 0, .slice none 0 0], .blk bb 109 #[.int .i64 N, .slice (some ⟨rg, 0, none⟩) L.length c, .map (some m)], .row (.slice (some ⟨rg, 0, none⟩) L.length c) 73 3 L.length (gcells L vs), .ro D (Ins D L vs), .ro TabD Tab]) 12 [(0, 1), (1, 0), (2, 1), (3, 1), (4, 1), (5, 0), (6, 1), (7, 1), (8, 0), (9, 1), (10, 0), (11, 1), (12, 3)] (by kernel_rfl) (by kernel_rfl) (PQ.block (PQ.then_ (PQ.then_ (PQ.block (PQ.then_ (PQ.block (PQ.then_ (PQ.then_ (PQ.block (PQ.then_ PQ.body)))))))))) ((O102.re [0, 1, 3, 4, 5, 6, 7, 9, 10, 11] rfl)).drew ?_
     have O107 := O102.drew
     refine wt1 (v := .pointer (some ⟨g74, 2, none⟩)) rfl (fun ρ e W => zBd (q := 2) zB0 (e _ _ rfl) rfl) rfl rfl <| wt0 (v := .slice (some ⟨gc, 0, none⟩) g.inp.length c88) rfl (fun ρ e W hW => zAm ty57 (e _ _ rfl) (hW.cell 1 2 rfl rfl)) rfl rfl <| tm rfl rfl rfl rfl <| tm rfl rfl rfl rfl <| wt1 (v := .pointer (some ⟨g74, 2, none⟩)) rfl (fun ρ e W => zBd (q := 2) zB0 (e _ _ rfl) rfl) rfl rfl <| wt0 (v := .slice (some ⟨gc, 0, none⟩) g.inp.length c88) rfl (fun ρ e W hW => zAm ty57 (e _ _ rfl) (hW.cell 1 2 rfl rfl)) rfl rfl <| tm rfl rfl rfl rfl <| wt1 (v := .pointer (some ⟨gc, k2, none⟩)) rfl (fun ρ e W => zA9 (q := k2) (i := k2) el57 (e _ _ rfl) (e _ _ rfl) (by omega) (by omega)) rfl rfl ?_
     refine wt0 (v := .int .i64 (x : Int)) rfl (fun ρ e W hW => zAm ty3 (e _ _ rfl) (rowcell (hW.row 0 rfl) (j := k2) (by rw [hy]; simp [intCs, renum_get p _ hxk]))) rfl rfl <| wt1 (v := .pointer (some ⟨g13, x, none⟩)) rfl (fun ρ e W => zA9 (q := x) (i := x) el57 (e _ _ rfl) (e _ _ rfl) (by omega) (by omega)) rfl rfl <| wt0 (v := .int .i64 (p.getD (x : Int).toNat 0)) rfl (fun ρ e W hW => zAm ty3 (e _ _ rfl) (hW.cell 3 x rfl (getI hpx))) rfl rfl <| wt1 (v := .pointer (some ⟨gc, k2, none⟩)) rfl (fun ρ e W => zA9 (q := k2) (i := k2) el57 (e _ _ rfl) (e _ _ rfl) (by omega) (by omega)) rfl rfl ?_
     obtain ⟨w108, r109, O110, hs111⟩ := own_putrow (k := k2) O107 ty3 (by omega) (.int .i64 (p.getD (x : Int).toNat 0)) rfl rfl (ys := intCs (renum p g.inp (k2 + 1))) (by rw [hy, intCs_set2, renum_succ p _ hxk])
     refine zBf rfl (fun ρ e => r109 ρ _ _ _ _ _ _ (e _ _ rfl) (e _ _ rfl)) rfl <| zBc <| zAn <| zAb K105 <| zAa <| zAe (v := .int .i64 ((k2 + 1 : Nat) : Int)) (fun ρ e => zAi (k := .i64) (u := (k2 : Int)) (v := 1) (e _ _ rfl) (e _ _ rfl) (congrArg some ((congrArg _ (by omega)).trans (zAo (u := ((k2 + 1 : Nat) : Int)) (by omega) (by omega))))) rfl rfl <| wm rfl rfl rfl <| zAd ?_
     refine zAt K101 (k2 + 1, (renum p g.inp (k2 + 1))) (by show g.inp.length - (k2 + 1) < g.inp.length - k2; omega) ⟨(by show k2 + 1 ≤ _; omega), rfl, O110⟩ ⟨rfl, rfl, rfl, rfl, rfl, rfl, rfl, rfl, rfl, rfl, rfl, rfl, rfl, trivial⟩
    ·have hke : k2 = g.inp.length := by omega
     subst hke
     rw [renum_full] at hy
     subst hy
     refine zAc fun _ K112 => zAa <| wc rfl rfl (lss0 (by omega)) rfl rfl <| zAd <| zAb K112 <| zAc fun _ K113 => zAf rfl <| zA6 ?_
     refine zAg (by intro h; cases h) ?_
     refine zAg (by intro h; cases h) ?_
     refine zA4 <| zAb K96 <| zAc fun _ K114 => zAa <| wm rfl rfl rfl <| wm rfl rfl rfl <| wf (q := 1) zCw rfl rfl rfl rfl <| wd ty37 rfl (O102.cell 5 1 rfl rfl) rfl rfl ?_
     refine wz el37 rfl rfl rfl <| wi (q := i) (i := i) el57 rfl rfl (by omega) (by omega) rfl rfl ?_
     obtain ⟨w115, r116, O117, hs118⟩ := zAp (o := i) (n := 1) (O102.re [4, 0, 1, 2, 3, 5, 6, 7, 8, 9, 10, 11] rfl) ty3 (.int .i64 (n : Int)) [.int .i64 (n : Int)] (cs' := (intCs (atL u (p.set i (n : Int)) (i + 1))).toArray) rfl rfl rfl (by rw [show (intCs (atL u p i)).toArray.size = rt + 1 by simp [intCs, atL_len hpl hul]]; omega) ((setI _ _ _).trans (congrArg (fun l => (intCs l).toArray) (atL_set hpl hul (by omega) _)))
     refine zAv (fun ρ e => r116 ρ _ _ _ _ _ _ (e _ _ rfl) (e _ _ rfl)) rfl <| zAd <| zAb K114 <| zAa <| wf (q := 1) zCw rfl rfl rfl rfl <| wd ty37 rfl (O117.cell 5 1 rfl rfl) rfl rfl <| zAe (v := .agg #[.int .i64 g.kind, .int .i64 g.lit, .slice A87 g.inp.length c88]) (fun ρ e => zAk (vs := [.int .i64 g.kind, .int .i64 g.lit, .slice A87 g.inp.length c88]) ty73 (e _ _ rfl) rfl (O117.cells 2 0 rfl rfl)) rfl rfl ?_
     obtain ⟨g119, w120, r121, O122, hg123, hs124⟩ := zBg O117 el37 ze73 1 [(0, .agg #[.int .i64 g.kind, .int .i64 g.lit, .slice A87 g.inp.length c88])] (cs := #[.int .i64 g.kind, .int .i64 g.lit, .slice A87 g.inp.length c88]) (by decide) (by kernel_rfl)
     refine zAe (v := .slice (some ⟨g119, 0, none⟩) 1 1) (fun ρ e => r121 ρ _ _ _ _ _ _ (e.parts rfl)) rfl rfl ?_
     obtain ⟨A125, c126, w127, r128, O129, hz130, hc131⟩ := zC5 (O122.re [4, 0, 1, 2, 3, 5, 6, 7, 8, 9, 10, 11, 12] rfl) ap37 ((O122.re [4, 0, 1, 2, 3, 5, 6, 7, 8, 9, 10, 11, 12] rfl).blk 1 rfl) (cells := [.int .i64 g.kind, .int .i64 g.lit, .slice A87 g.inp.length c88]) rfl rfl (by omega) (by omega) (ys := (gcells (o ++ [(Gate.mk g.kind g.lit (g.inp.map (fun x : Int => p.getD x.toNat 0)))]) (vo ++ [Value.slice A87 g.inp.length c88]))) (zD4 (Gate.mk g.kind g.lit (g.inp.map (fun x : Int => p.getD x.toNat 0))) (Value.slice A87 g.inp.length c88) o vo (O122.ro 5 rfl : Ins Do o vo _).1).symm
     refine zAe (v := .slice A125 (n + 1) c126) (fun ρ e => r128 ρ _ _ _ _ _ _ _ (e _ _ rfl) (e _ _ rfl)) rfl rfl <| wf (q := 1) zCw rfl rfl rfl rfl ?_
     obtain ⟨w132, r133, O134, hs135⟩ := zAp (o := 1) (n := 1) (O129.re [6, 0, 1, 2, 3, 4, 5, 7, 8, 9, 10, 11, 12] rfl) ty37 (.slice A125 (n + 1) c126) [.slice A125 (n + 1) c126] (cs' := #[.int .i64 N, .slice A125 (n + 1) c126]) rfl rfl rfl (Nat.le_of_ble_eq_true rfl) rfl
     refine zAv (fun ρ e => r133 ρ _ _ _ _ _ _ (e _ _ rfl) (e _ _ rfl)) rfl <| zAd <| zAn <| zAb K72 <| zAa <| zAe (v := .int .i64 ((i + 1 : Nat) : Int)) (fun ρ e => zAi (k := .i64) (u := (i : Int)) (v := 1) (e _ _ rfl) (e _ _ rfl) (congrArg some ((congrArg _ (by omega)).trans (zAo (u := ((i + 1 : Nat) : Int)) (by omega) (by omega))))) rfl rfl <| wm rfl rfl rfl <| zAd ?_
     have O136 : Own Z w0 w132 [.ro (fun k => Value.ownBlock (.slice A87 g.inp.length c88) = some k) (fun w => IntsD (fun k => Value.ownBlock (.slice A87 g.inp.length c88) = some k) w (.slice A87 g.inp.length c88) (g.inp.map (fun x : Int => p.getD x.toNat 0))), .blk g34 39 #[.int .i64 N, .slice A125 (n + 1) c126], .row (.slice A125 (n + 1) c126) 73 3 (n + 1) (gcells (o ++ [(Gate.mk g.kind g.lit (g.inp.map (fun x : Int => p.getD x.toNat 0)))]) (vo ++ [Value.slice A87 g.inp.length c88])), .blk g119 73 #[.int .i64 g.kind, .int .i64 g.lit, .slice A87 g.inp.length c88], .blk g13 3 ((intCs (atL u (p.set i (n : Int)) (i + 1))).toArray), .blk g74 73 #[.int .i64 g.kind, .int .i64 g.lit, .slice A87 g.inp.length c88], .ro Do (Ins Do o vo), .blk g2 39 #[.int .i64 0, .slice none 0 0], .blk bb 109 #[.int .i64 N, .slice (some ⟨rg, 0, none⟩) L.length c, .map (some m)], .map m (encL strE (keysO L 0)), .row (.slice (some ⟨rg, 0, none⟩) L.length c) 73 3 L.length (gcells L vs), .ro D (Ins D L vs), .ro TabD Tab] := Own.rowin (O134.re [4, 0, 1, 2, 3, 5, 6, 7, 8, 9, 10, 11, 12] rfl)
     have O137 := Own.insSnoc (g := (Gate.mk g.kind g.lit (g.inp.map (fun x : Int => p.getD x.toNat 0)))) (V := Value.slice A87 g.inp.length c88) (D2 := (fun k => Value.ownBlock (.slice A87 g.inp.length c88) = some k)) (O136.re [6, 0, 1, 2, 3, 4, 5, 7, 8, 9, 10, 11, 12] rfl)
     refine zAt K51 (i + 1, A125, c126, n + 1, (o ++ [(Gate.mk g.kind g.lit (g.inp.map (fun x : Int => p.getD x.toNat 0)))]), (vo ++ [Value.slice A87 g.inp.length c88]), (fun k => Do k ∨ Value.ownBlock (.slice A87 g.inp.length c88) = some k), (p.set i (n : Int))) (by show rt + 1 - (i + 1) < rt + 1 - i; omega) ⟨(by show i + 1 ≤ _; omega), (by show n + 1 = (o ++ [_]).length; simp [hn]), (by show n + 1 ≤ i + 1; omega), (by show (List.set _ _ _).length = _; simp [hpl]), (fun q hq => by rw [List.getElem?_set, if_neg (by omega)]; exact hp0 q (by omega)), (by subst hn; rw [← hge]; exact hgo), (O137.re [2, 0, 4, 1, 6, 7, 8, 9, 10, 11] rfl)⟩ ⟨rfl, rfl, rfl, rfl, rfl, rfl, rfl, rfl, rfl, trivial⟩
  ·have hie : i = rt + 1 := by omega
   subst hie
   rw [List.drop_eq_nil_of_le (by simp; omega)] at hgo
   simp only [placeGo] at hgo
   refine zAc fun _ K138 => zAa <| wc rfl rfl (lss0 (by omega)) rfl rfl <| zAd <| zAb K138 <| zAc fun _ K139 => zAf rfl <| zA6 ?_
   refine zAg (by intro h; cases h) ?_
   refine zAg (by intro h; cases h) ?_
   refine zA4 <| zAb K44 <| zAc fun _ K140 => zAa <| zAe (v := .agg #[.int .i64 N, .slice A n cA]) (fun ρ e => zAk (vs := [.int .i64 N, .slice A n cA]) ty39 (e _ _ rfl) rfl (O52.cells 3 0 rfl rfl)) rfl rfl ?_
   obtain ⟨w141, r142, O143, hs144⟩ := zAp (o := 0) (n := 2) (O52.re [4, 0, 1, 2, 3, 5, 6, 7, 8, 9] rfl) ty39 (.agg #[.int .i64 N, .slice A n cA]) [.int .i64 N, .slice A n cA] (cs' := #[.int .i64 N, .slice A n cA]) rfl rfl rfl (Nat.le_of_ble_eq_true rfl) rfl
   refine zAv (fun ρ e => r142 ρ _ _ _ _ _ _ (e _ _ rfl) (e _ _ rfl)) rfl <| wa rfl rfl rfl <| zAd <| zAb K140 <| zAz ?_
   refine zAy (v := .tuple #[.agg #[.int .i64 N, .slice A n cA], .int .i64 0]) (fun T hT => res2cy rfl T _ (hT 4 _ rfl) (zBj (vs := [.int .i64 N, .slice A n cA]) ty39 rfl (O143.cells 0 0 rfl rfl)) (hT 5 _ rfl)) ?_
   have hres : neededG L (rt : Int) = o := by unfold neededG; rw [Int.toNat_natCast, hu]; exact hgo
   rw [hres, ← hn]
   exact ⟨A, cA, Do, vo, rfl, (O143.re [1, 2] rfl)⟩
 ·obtain rfl : t = (j : Int) := by omega
  have hqj : j < L.length := by omega
  rw [useGo_succ L u hqj] at hu
  obtain ⟨ub, hub⟩ : ∃ b, u[j]? = some b := ⟨u[j], List.getElem?_eq_getElem (by omega)⟩
  rw [List.getD_eq_getElem?_getD, hub] at hu
  simp only [Option.getD_some] at hu
  cases ub
  ·skip
   simp only [if_true, Bool.false_eq_true, if_false] at hu
   refine zAc fun _ K145 => zAc fun _ K146 => zAa <| wm rfl rfl rfl <| wc rfl rfl (geq1 (by omega)) rfl rfl <| zAd <| zAb K146 <| zAl rfl ?_
   refine zAj <| zAb K145 <| zAc fun _ K147 => zAh <| zAc fun _ K148 => ?_
   obtain ⟨g, hx⟩ : ∃ g, L[j]? = some g := ⟨L[j], List.getElem?_eq_getElem hqj⟩
   have hge := (List.getElem?_eq_some_iff.1 hx).2
   obtain ⟨v, hv⟩ : ∃ v, vs[j]? = some v := ⟨vs[j], List.getElem?_eq_getElem (by omega)⟩
   obtain ⟨AV, cV, rfl⟩ := (hins.2 j g v hx hv).slice
   have hwg := hr.1 j g hx
   have hgil := hr.2 j g hx
   refine zAa <| wm rfl rfl rfl <| wn rfl rfl rfl <| wf (q := 1) zCs rfl rfl rfl rfl <| wd ty37 rfl (O30.cell 2 1 rfl rfl) rfl rfl <| wm rfl rfl rfl <| wi (q := j * 3) (i := j) el37 rfl rfl (by omega) (by omega) rfl rfl <| wf (q := j * 3 + 2) zB0 rfl rfl rfl rfl ?_
   refine wd (v := .slice AV g.inp.length cV) ty57 rfl (rowcell (O30.row 4 rfl) (zBt hx hv).2.2) rfl rfl <| wz el57 rfl rfl rfl <| wm rfl rfl rfl <| zAd <| zAb K148 <| zAh ?_
   have O149 : Own Z w0 w27 [.blk g13 3 ((intCs (mk u)).toArray), .blk g2 39 #[.int .i64 0, .slice none 0 0], .blk bb 109 #[.int .i64 N, .slice (some ⟨rg, 0, none⟩) L.length c, .map (some m)], .map m (encL strE (keysO L 0)), .row (.slice (some ⟨rg, 0, none⟩) L.length c) 73 3 L.length (gcells L vs), .ro D (Ins D L vs), .ro TabD Tab] := O30
   refine zA8 (ι := Nat × List Bool) (fun q => [(0, .pointer (some ⟨bb, 0, none⟩)), (1, .int .i64 (rt : Int)), (4, .pointer (some ⟨g2, 0, none⟩)), (5, .int .i64 0), (6, .slice (some ⟨g13, 0, none⟩) (rt + 1) (rt + 1)), (7, .int .i64 (j : Int)), (54, .slice AV g.inp.length cV), (55, .int .i64 ((g.inp.length : Nat) : Int)), (56, .int .i64 (q.1 : Int))]) (fun q X => (q.1 ≤ g.inp.length) ∧ (q.2.length = rt + 1) ∧ (q.2[j]? = some false) ∧ (q.2 = u) ∧ Own Z w0 X [.blk g13 3 ((intCs (mk q.2)).toArray), .blk g2 39 #[.int .i64 0, .slice none 0 0], .blk bb 109 #[.int .i64 N, .slice (some ⟨rg, 0, none⟩) L.length c, .map (some m)], .map m (encL strE (keysO L 0)), .row (.slice (some ⟨rg, 0, none⟩) L.length c) 73 3 L.length (gcells L vs), .ro D (Ins D L vs), .ro TabD Tab]) (fun q => g.inp.length - q.1) (0, u) ⟨Nat.zero_le _, hul, hub, rfl, O149⟩ ⟨rfl, rfl, rfl, rfl, rfl, rfl, rfl, rfl, rfl, trivial⟩ (fun q w150 hJ F151 K152 => ?_)
   obtain ⟨k2, u2⟩ := q
   obtain ⟨hk20, hul2, huj2, hm, O153⟩ := hJ
   dsimp only at hk20 hul2 huj2 hm O153 ⊢
   by_cases hk2 : k2 < g.inp.length
   ·skip
    obtain ⟨x0, hxk⟩ : ∃ x, g.inp[k2]? = some x := ⟨g.inp[k2], List.getElem?_eq_getElem hk2⟩
    have hxr := zE9 hwg (List.mem_of_getElem? hxk)
    obtain ⟨x, rfl⟩ : ∃ n : Nat, x0 = n := ⟨x0.toNat, by omega⟩
    obtain ⟨b2, o2, c3, hv3⟩ := (hins.2 j g _ hx hv).form (by omega)
    injection hv3 with hA _ hc
    subst hA hc
    obtain ⟨ux, hux⟩ : ∃ b, u2[x]? = some b := ⟨u2[x], List.getElem?_eq_getElem (by omega)⟩
    cases ux
    ·skip
     refine zAc fun _ K154 => zAa <| wc rfl rfl (lss1 (by omega)) rfl rfl <| zAd <| zAb K154 <| zAc fun _ K155 => zAl rfl <| zAj ?_
     refine zAb K155 <| zAc fun _ K156 => zAh <| zAc fun _ K157 => zAa <| wi (q := o2 + k2) (i := k2) el57 rfl rfl (by omega) (by omega) rfl rfl <| wd (v := .int .i64 (x : Int)) ty3 rfl (((O153.ro 5 rfl : Ins D L vs _).2 j g _ hx hv).at_ hxk) rfl rfl <| wa rfl rfl rfl ?_
     refine zAd <| zAb K157 ?_
     refine zA1 (fun X => Own Z w0 X [.blk g13 3 ((intCs (mk u2)).toArray), .blk g2 39 #[.int .i64 0, .slice none 0 0], .blk bb 109 #[.int .i64 N, .slice (some ⟨rg, 0, none⟩) L.length c, .map (some m)], .ro D (Ins D L vs), .ro TabD Tab]) 10 [(0, 1), (1, 1), (2, 1), (3, 0), (4, 1), (5, 1), (6, 1), (7, 0), (8, 1), (9, 1), (10, 3)] (by kernel_rfl) (by kernel_rfl) (PQ.block (PQ.then_ (PQ.then_ (PQ.block (PQ.block (PQ.then_ (PQ.then_ (PQ.block (PQ.then_ PQ.body))))))))) ((O153.re [0, 1, 2, 5, 6] rfl)).drew ?_
     have O158 := O153.drew
     refine tm rfl rfl rfl rfl <| tm rfl rfl rfl rfl <| wt1 (v := .pointer (some ⟨g13, x, none⟩)) rfl (fun ρ e W => zA9 (q := x) (i := x) el57 (e _ _ rfl) (e _ _ rfl) (by omega) (by omega)) rfl rfl <| wt0 (v := .int .i64 0) rfl (fun ρ e W hW => zAm ty3 (e _ _ rfl) (hW.cell 0 x rfl (getI (zD8 hux)))) rfl rfl <| tm rfl rfl rfl rfl <| tm rfl rfl rfl rfl <| wt1 (v := .pointer (some ⟨g13, j, none⟩)) rfl (fun ρ e W => zA9 (q := j) (i := j) el57 (e _ _ rfl) (e _ _ rfl) (by omega) (by omega)) rfl rfl <| wt0 (v := .int .i64 0) rfl (fun ρ e W hW => zAm ty3 (e _ _ rfl) (hW.cell 0 j rfl (getI (zD8 huj2)))) rfl rfl ?_
     refine wt1 (v := .int .i64 0) rfl (fun ρ e W => zBp (a := 0) (b := 0) (q := 0) (e _ _ rfl) (e _ _ rfl) (by decide) (zAo (by omega) (by omega))) rfl rfl <| wt1 (v := .pointer (some ⟨g13, x, none⟩)) rfl (fun ρ e W => zA9 (q := x) (i := x) el57 (e _ _ rfl) (e _ _ rfl) (by omega) (by omega)) rfl rfl ?_
     obtain ⟨w159, r160, O161, hs162⟩ := zAp (o := x) (n := 1) O158 ty3 (.int .i64 0) [.int .i64 0] (cs' := (intCs (mk u2)).toArray) rfl rfl rfl (by simp [mk, intCs] <;> omega) ((setI _ _ _).trans (congrArg (fun l => (intCs l).toArray) (mk_same hux)))
     refine zBf rfl (fun ρ e => r160 ρ _ _ _ _ _ _ (e _ _ rfl) (e _ _ rfl)) rfl <| zBc <| zAn <| zAb K156 <| zAa <| zAe (v := .int .i64 ((k2 + 1 : Nat) : Int)) (fun ρ e => zAi (k := .i64) (u := (k2 : Int)) (v := 1) (e _ _ rfl) (e _ _ rfl) (congrArg some ((congrArg _ (by omega)).trans (zAo (u := ((k2 + 1 : Nat) : Int)) (by omega) (by omega))))) rfl rfl <| wm rfl rfl rfl <| zAd ?_
     refine zAt K152 (k2 + 1, u2) (by show g.inp.length - (k2 + 1) < g.inp.length - k2; omega) ⟨(by show k2 + 1 ≤ _; omega), hul2, huj2, hm, O161⟩ ⟨rfl, rfl, rfl, rfl, rfl, rfl, rfl, rfl, rfl, trivial⟩
    ·skip
     refine zAc fun _ K163 => zAa <| wc rfl rfl (lss1 (by omega)) rfl rfl <| zAd <| zAb K163 <| zAc fun _ K164 => zAl rfl <| zAj ?_
     refine zAb K164 <| zAc fun _ K165 => zAh <| zAc fun _ K166 => zAa <| wi (q := o2 + k2) (i := k2) el57 rfl rfl (by omega) (by omega) rfl rfl <| wd (v := .int .i64 (x : Int)) ty3 rfl (((O153.ro 5 rfl : Ins D L vs _).2 j g _ hx hv).at_ hxk) rfl rfl <| wa rfl rfl rfl ?_
     refine zAd <| zAb K166 ?_
     refine zA1 (fun X => Own Z w0 X [.blk g13 3 ((intCs (mk u2)).toArray), .blk g2 39 #[.int .i64 0, .slice none 0 0], .blk bb 109 #[.int .i64 N, .slice (some ⟨rg, 0, none⟩) L.length c, .map (some m)], .ro D (Ins D L vs), .ro TabD Tab]) 10 [(0, 1), (1, 1), (2, 1), (3, 0), (4, 1), (5, 1), (6, 1), (7, 0), (8, 1), (9, 1), (10, 3)] (by kernel_rfl) (by kernel_rfl) (PQ.block (PQ.then_ (PQ.then_ (PQ.block (PQ.block (PQ.then_ (PQ.then_ (PQ.block (PQ.then_ PQ.body))))))))) ((O153.re [0, 1, 2, 5, 6] rfl)).drew ?_
     have O167 := O153.drew
     refine tm rfl rfl rfl rfl <| tm rfl rfl rfl rfl <| wt1 (v := .pointer (some ⟨g13, x, none⟩)) rfl (fun ρ e W => zA9 (q := x) (i := x) el57 (e _ _ rfl) (e _ _ rfl) (by omega) (by omega)) rfl rfl <| wt0 (v := .int .i64 1) rfl (fun ρ e W hW => zAm ty3 (e _ _ rfl) (hW.cell 0 x rfl (getI (zD8 hux)))) rfl rfl <| tm rfl rfl rfl rfl <| tm rfl rfl rfl rfl <| wt1 (v := .pointer (some ⟨g13, j, none⟩)) rfl (fun ρ e W => zA9 (q := j) (i := j) el57 (e _ _ rfl) (e _ _ rfl) (by omega) (by omega)) rfl rfl <| wt0 (v := .int .i64 0) rfl (fun ρ e W hW => zAm ty3 (e _ _ rfl) (hW.cell 0 j rfl (getI (zD8 huj2)))) rfl rfl ?_
     refine wt1 (v := .int .i64 1) rfl (fun ρ e W => zBp (a := 1) (b := 0) (q := 1) (e _ _ rfl) (e _ _ rfl) (by decide) (zAo (by omega) (by omega))) rfl rfl <| wt1 (v := .pointer (some ⟨g13, x, none⟩)) rfl (fun ρ e W => zA9 (q := x) (i := x) el57 (e _ _ rfl) (e _ _ rfl) (by omega) (by omega)) rfl rfl ?_
     obtain ⟨w168, r169, O170, hs171⟩ := zAp (o := x) (n := 1) O167 ty3 (.int .i64 1) [.int .i64 1] (cs' := (intCs (mk u2)).toArray) rfl rfl rfl (by simp [mk, intCs] <;> omega) ((setI _ _ _).trans (congrArg (fun l => (intCs l).toArray) (mk_same hux)))
     refine zBf rfl (fun ρ e => r169 ρ _ _ _ _ _ _ (e _ _ rfl) (e _ _ rfl)) rfl <| zBc <| zAn <| zAb K165 <| zAa <| zAe (v := .int .i64 ((k2 + 1 : Nat) : Int)) (fun ρ e => zAi (k := .i64) (u := (k2 : Int)) (v := 1) (e _ _ rfl) (e _ _ rfl) (congrArg some ((congrArg _ (by omega)).trans (zAo (u := ((k2 + 1 : Nat) : Int)) (by omega) (by omega))))) rfl rfl <| wm rfl rfl rfl <| zAd ?_
     refine zAt K152 (k2 + 1, u2) (by show g.inp.length - (k2 + 1) < g.inp.length - k2; omega) ⟨(by show k2 + 1 ≤ _; omega), hul2, huj2, hm, O170⟩ ⟨rfl, rfl, rfl, rfl, rfl, rfl, rfl, rfl, rfl, trivial⟩
   ·have hke : k2 = g.inp.length := by omega
    subst hke
    have hu3 : useOf L rt = useGo L j u2 := by rw [hu, hm]
    refine zAc fun _ K172 => zAa <| wc rfl rfl (lss0 (by omega)) rfl rfl <| zAd <| zAb K172 <| zAc fun _ K173 => zAf rfl <| zA6 ?_
    refine zAg (by intro h; cases h) ?_
    refine zAg (by intro h; cases h) ?_
    refine zA4 <| zAn <| zAb K147 <| zAa <| wm rfl rfl rfl <| zAe (v := .int .i64 ((j : Int) - 1)) (fun ρ e => zAi (k := .i64) (u := (j : Int)) (v := 1) (e _ _ rfl) (e _ _ rfl) (congrArg some (zAo (by omega) (by omega)))) rfl rfl <| wa rfl rfl rfl <| zAd ?_
    refine zAt K29 (j, ((j : Int) - 1), u2) (by show j < j + 1; omega) ⟨(by show j ≤ _; omega), rfl, hul2, hu3, O153⟩ ⟨rfl, rfl, rfl, rfl, rfl, rfl, trivial⟩
  ·skip
   simp only [if_true, Bool.false_eq_true, if_false] at hu
   refine zAc fun _ K174 => zAc fun _ K175 => zAa <| wm rfl rfl rfl <| wc rfl rfl (geq1 (by omega)) rfl rfl <| zAd <| zAb K175 <| zAl rfl ?_
   refine zAj <| zAb K174 <| zAc fun _ K176 => zAh <| zAc fun _ K177 => ?_
   obtain ⟨g, hx⟩ : ∃ g, L[j]? = some g := ⟨L[j], List.getElem?_eq_getElem hqj⟩
   have hge := (List.getElem?_eq_some_iff.1 hx).2
   obtain ⟨v, hv⟩ : ∃ v, vs[j]? = some v := ⟨vs[j], List.getElem?_eq_getElem (by omega)⟩
   obtain ⟨AV, cV, rfl⟩ := (hins.2 j g v hx hv).slice
   have hwg := hr.1 j g hx
   have hgil := hr.2 j g hx
   refine zAa <| wm rfl rfl rfl <| wn rfl rfl rfl <| wf (q := 1) zCs rfl rfl rfl rfl <| wd ty37 rfl (O30.cell 2 1 rfl rfl) rfl rfl <| wm rfl rfl rfl <| wi (q := j * 3) (i := j) el37 rfl rfl (by omega) (by omega) rfl rfl <| wf (q := j * 3 + 2) zB0 rfl rfl rfl rfl ?_
   refine wd (v := .slice AV g.inp.length cV) ty57 rfl (rowcell (O30.row 4 rfl) (zBt hx hv).2.2) rfl rfl <| wz el57 rfl rfl rfl <| wm rfl rfl rfl <| zAd <| zAb K177 <| zAh ?_
   have O178 : Own Z w0 w27 [.blk g13 3 ((intCs (mk u)).toArray), .blk g2 39 #[.int .i64 0, .slice none 0 0], .blk bb 109 #[.int .i64 N, .slice (some ⟨rg, 0, none⟩) L.length c, .map (some m)], .map m (encL strE (keysO L 0)), .row (.slice (some ⟨rg, 0, none⟩) L.length c) 73 3 L.length (gcells L vs), .ro D (Ins D L vs), .ro TabD Tab] := O30
   refine zA8 (ι := Nat × List Bool) (fun q => [(0, .pointer (some ⟨bb, 0, none⟩)), (1, .int .i64 (rt : Int)), (4, .pointer (some ⟨g2, 0, none⟩)), (5, .int .i64 0), (6, .slice (some ⟨g13, 0, none⟩) (rt + 1) (rt + 1)), (7, .int .i64 (j : Int)), (54, .slice AV g.inp.length cV), (55, .int .i64 ((g.inp.length : Nat) : Int)), (56, .int .i64 (q.1 : Int))]) (fun q X => (q.1 ≤ g.inp.length) ∧ (q.2.length = rt + 1) ∧ (q.2[j]? = some true) ∧ (markIn q.2 (g.inp.drop q.1) = markIn u g.inp) ∧ Own Z w0 X [.blk g13 3 ((intCs (mk q.2)).toArray), .blk g2 39 #[.int .i64 0, .slice none 0 0], .blk bb 109 #[.int .i64 N, .slice (some ⟨rg, 0, none⟩) L.length c, .map (some m)], .map m (encL strE (keysO L 0)), .row (.slice (some ⟨rg, 0, none⟩) L.length c) 73 3 L.length (gcells L vs), .ro D (Ins D L vs), .ro TabD Tab]) (fun q => g.inp.length - q.1) (0, u) ⟨Nat.zero_le _, hul, hub, rfl, O178⟩ ⟨rfl, rfl, rfl, rfl, rfl, rfl, rfl, rfl, rfl, trivial⟩ (fun q w179 hJ F180 K181 => ?_)
   obtain ⟨k2, u2⟩ := q
   obtain ⟨hk20, hul2, huj2, hm, O182⟩ := hJ
   dsimp only at hk20 hul2 huj2 hm O182 ⊢
   by_cases hk2 : k2 < g.inp.length
   ·skip
    obtain ⟨x0, hxk⟩ : ∃ x, g.inp[k2]? = some x := ⟨g.inp[k2], List.getElem?_eq_getElem hk2⟩
    have hxr := zE9 hwg (List.mem_of_getElem? hxk)
    obtain ⟨x, rfl⟩ : ∃ n : Nat, x0 = n := ⟨x0.toNat, by omega⟩
    obtain ⟨b2, o2, c3, hv3⟩ := (hins.2 j g _ hx hv).form (by omega)
    injection hv3 with hA _ hc
    subst hA hc
    obtain ⟨ux, hux⟩ : ∃ b, u2[x]? = some b := ⟨u2[x], List.getElem?_eq_getElem (by omega)⟩
    cases ux
    ·skip
     refine zAc fun _ K183 => zAa <| wc rfl rfl (lss1 (by omega)) rfl rfl <| zAd <| zAb K183 <| zAc fun _ K184 => zAl rfl <| zAj ?_
     refine zAb K184 <| zAc fun _ K185 => zAh <| zAc fun _ K186 => zAa <| wi (q := o2 + k2) (i := k2) el57 rfl rfl (by omega) (by omega) rfl rfl <| wd (v := .int .i64 (x : Int)) ty3 rfl (((O182.ro 5 rfl : Ins D L vs _).2 j g _ hx hv).at_ hxk) rfl rfl <| wa rfl rfl rfl ?_
     refine zAd <| zAb K186 ?_
     refine zA1 (fun X => Own Z w0 X [.blk g13 3 ((intCs (mk u2)).toArray), .blk g2 39 #[.int .i64 0, .slice none 0 0], .blk bb 109 #[.int .i64 N, .slice (some ⟨rg, 0, none⟩) L.length c, .map (some m)], .ro D (Ins D L vs), .ro TabD Tab]) 10 [(0, 1), (1, 1), (2, 1), (3, 0), (4, 1), (5, 1), (6, 1), (7, 0), (8, 1), (9, 1), (10, 3)] (by kernel_rfl) (by kernel_rfl) (PQ.block (PQ.then_ (PQ.then_ (PQ.block (PQ.block (PQ.then_ (PQ.then_ (PQ.block (PQ.then_ PQ.body))))))))) ((O182.re [0, 1, 2, 5, 6] rfl)).drew ?_
     have O187 := O182.drew
     refine tm rfl rfl rfl rfl <| tm rfl rfl rfl rfl <| wt1 (v := .pointer (some ⟨g13, x, none⟩)) rfl (fun ρ e W => zA9 (q := x) (i := x) el57 (e _ _ rfl) (e _ _ rfl) (by omega) (by omega)) rfl rfl <| wt0 (v := .int .i64 0) rfl (fun ρ e W hW => zAm ty3 (e _ _ rfl) (hW.cell 0 x rfl (getI (zD8 hux)))) rfl rfl <| tm rfl rfl rfl rfl <| tm rfl rfl rfl rfl <| wt1 (v := .pointer (some ⟨g13, j, none⟩)) rfl (fun ρ e W => zA9 (q := j) (i := j) el57 (e _ _ rfl) (e _ _ rfl) (by omega) (by omega)) rfl rfl <| wt0 (v := .int .i64 1) rfl (fun ρ e W hW => zAm ty3 (e _ _ rfl) (hW.cell 0 j rfl (getI (zD8 huj2)))) rfl rfl ?_
     refine wt1 (v := .int .i64 1) rfl (fun ρ e W => zBp (a := 0) (b := 1) (q := 1) (e _ _ rfl) (e _ _ rfl) (by decide) (zAo (by omega) (by omega))) rfl rfl <| wt1 (v := .pointer (some ⟨g13, x, none⟩)) rfl (fun ρ e W => zA9 (q := x) (i := x) el57 (e _ _ rfl) (e _ _ rfl) (by omega) (by omega)) rfl rfl ?_
     obtain ⟨w188, r189, O190, hs191⟩ := zAp (o := x) (n := 1) O187 ty3 (.int .i64 1) [.int .i64 1] (cs' := (intCs (mk (u2.set x true))).toArray) rfl rfl rfl (by simp [mk, intCs] <;> omega) (by rw [setI, mk_set])
     refine zBf rfl (fun ρ e => r189 ρ _ _ _ _ _ _ (e _ _ rfl) (e _ _ rfl)) rfl <| zBc <| zAn <| zAb K185 <| zAa <| zAe (v := .int .i64 ((k2 + 1 : Nat) : Int)) (fun ρ e => zAi (k := .i64) (u := (k2 : Int)) (v := 1) (e _ _ rfl) (e _ _ rfl) (congrArg some ((congrArg _ (by omega)).trans (zAo (u := ((k2 + 1 : Nat) : Int)) (by omega) (by omega))))) rfl rfl <| wm rfl rfl rfl <| zAd ?_
     refine zAt K181 (k2 + 1, (u2.set x true)) (by show g.inp.length - (k2 + 1) < g.inp.length - k2; omega) ⟨(by show k2 + 1 ≤ _; omega), (by show (List.set _ _ _).length = _; simp [hul2]), (by rw [List.getElem?_set, if_neg (by omega)]; exact huj2), (by show markIn (u2.set x true) (g.inp.drop (k2 + 1)) = _; rw [← hm, List.drop_eq_getElem_cons hk2, (List.getElem?_eq_some_iff.1 hxk).2, zCr]; rfl), O190⟩ ⟨rfl, rfl, rfl, rfl, rfl, rfl, rfl, rfl, rfl, trivial⟩
    ·skip
     refine zAc fun _ K192 => zAa <| wc rfl rfl (lss1 (by omega)) rfl rfl <| zAd <| zAb K192 <| zAc fun _ K193 => zAl rfl <| zAj ?_
     refine zAb K193 <| zAc fun _ K194 => zAh <| zAc fun _ K195 => zAa <| wi (q := o2 + k2) (i := k2) el57 rfl rfl (by omega) (by omega) rfl rfl <| wd (v := .int .i64 (x : Int)) ty3 rfl (((O182.ro 5 rfl : Ins D L vs _).2 j g _ hx hv).at_ hxk) rfl rfl <| wa rfl rfl rfl ?_
     refine zAd <| zAb K195 ?_
     refine zA1 (fun X => Own Z w0 X [.blk g13 3 ((intCs (mk u2)).toArray), .blk g2 39 #[.int .i64 0, .slice none 0 0], .blk bb 109 #[.int .i64 N, .slice (some ⟨rg, 0, none⟩) L.length c, .map (some m)], .ro D (Ins D L vs), .ro TabD Tab]) 10 [(0, 1), (1, 1), (2, 1), (3, 0), (4, 1), (5, 1), (6, 1), (7, 0), (8, 1), (9, 1), (10, 3)] (by kernel_rfl) (by kernel_rfl) (PQ.block (PQ.then_ (PQ.then_ (PQ.block (PQ.block (PQ.then_ (PQ.then_ (PQ.block (PQ.then_ PQ.body))))))))) ((O182.re [0, 1, 2, 5, 6] rfl)).drew ?_
     have O196 := O182.drew
     refine tm rfl rfl rfl rfl <| tm rfl rfl rfl rfl <| wt1 (v := .pointer (some ⟨g13, x, none⟩)) rfl (fun ρ e W => zA9 (q := x) (i := x) el57 (e _ _ rfl) (e _ _ rfl) (by omega) (by omega)) rfl rfl <| wt0 (v := .int .i64 1) rfl (fun ρ e W hW => zAm ty3 (e _ _ rfl) (hW.cell 0 x rfl (getI (zD8 hux)))) rfl rfl <| tm rfl rfl rfl rfl <| tm rfl rfl rfl rfl <| wt1 (v := .pointer (some ⟨g13, j, none⟩)) rfl (fun ρ e W => zA9 (q := j) (i := j) el57 (e _ _ rfl) (e _ _ rfl) (by omega) (by omega)) rfl rfl <| wt0 (v := .int .i64 1) rfl (fun ρ e W hW => zAm ty3 (e _ _ rfl) (hW.cell 0 j rfl (getI (zD8 huj2)))) rfl rfl ?_
     refine wt1 (v := .int .i64 1) rfl (fun ρ e W => zBp (a := 1) (b := 1) (q := 1) (e _ _ rfl) (e _ _ rfl) (by decide) (zAo (by omega) (by omega))) rfl rfl <| wt1 (v := .pointer (some ⟨g13, x, none⟩)) rfl (fun ρ e W => zA9 (q := x) (i := x) el57 (e _ _ rfl) (e _ _ rfl) (by omega) (by omega)) rfl rfl ?_
     obtain ⟨w197, r198, O199, hs200⟩ := zAp (o := x) (n := 1) O196 ty3 (.int .i64 1) [.int .i64 1] (cs' := (intCs (mk (u2.set x true))).toArray) rfl rfl rfl (by simp [mk, intCs] <;> omega) (by rw [setI, mk_set])
     refine zBf rfl (fun ρ e => r198 ρ _ _ _ _ _ _ (e _ _ rfl) (e _ _ rfl)) rfl <| zBc <| zAn <| zAb K194 <| zAa <| zAe (v := .int .i64 ((k2 + 1 : Nat) : Int)) (fun ρ e => zAi (k := .i64) (u := (k2 : Int)) (v := 1) (e _ _ rfl) (e _ _ rfl) (congrArg some ((congrArg _ (by omega)).trans (zAo (u := ((k2 + 1 : Nat) : Int)) (by omega) (by omega))))) rfl rfl <| wm rfl rfl rfl <| zAd ?_
     refine zAt K181 (k2 + 1, (u2.set x true)) (by show g.inp.length - (k2 + 1) < g.inp.length - k2; omega) ⟨(by show k2 + 1 ≤ _; omega), (by show (List.set _ _ _).length = _; simp [hul2]), (by rw [List.getElem?_set, if_neg (by omega)]; exact huj2), (by show markIn (u2.set x true) (g.inp.drop (k2 + 1)) = _; rw [← hm, List.drop_eq_getElem_cons hk2, (List.getElem?_eq_some_iff.1 hxk).2, zCr]; rfl), O199⟩ ⟨rfl, rfl, rfl, rfl, rfl, rfl, rfl, rfl, rfl, trivial⟩
   ·have hke : k2 = g.inp.length := by omega
    subst hke
    have hu3 : useOf L rt = useGo L j u2 := by rw [hu, hge, ← hm]; simp [markIn]
    refine zAc fun _ K201 => zAa <| wc rfl rfl (lss0 (by omega)) rfl rfl <| zAd <| zAb K201 <| zAc fun _ K202 => zAf rfl <| zA6 ?_
    refine zAg (by intro h; cases h) ?_
    refine zAg (by intro h; cases h) ?_
    refine zA4 <| zAn <| zAb K176 <| zAa <| wm rfl rfl rfl <| zAe (v := .int .i64 ((j : Int) - 1)) (fun ρ e => zAi (k := .i64) (u := (j : Int)) (v := 1) (e _ _ rfl) (e _ _ rfl) (congrArg some (zAo (by omega) (by omega)))) rfl rfl <| wa rfl rfl rfl <| zAd ?_
    refine zAt K29 (j, ((j : Int) - 1), u2) (by show j < j + 1; omega) ⟨(by show j ≤ _; omega), rfl, hul2, hu3, O182⟩ ⟨rfl, rfl, rfl, rfl, rfl, rfl, trivial⟩
end

end Go.Proofs.YtliiclmhpphpmaaGreatDoor
namespace Go.Proofs.YtliiclmhpphpmaaGreatDoor
open Go Go.RowKit
theorem foldN_leaf {ts : List TN} {m : Nat} {x : TN} (hx : ts[ts.length - 1 - m]? = some x) (hv : x.v = 0) : foldN ts (m + 1) = ((leafN (foldN ts m).1 x.c).1, (foldN ts m).2.set (ts.length - 1 - m) (leafN (foldN ts m).1 x.c).2) := by
 conv => lhs; unfold foldN
 rw [hx]
 dsimp only
 rw [if_pos hv]
theorem foldN_ask {ts : List TN} {m : Nat} {x : TN} (hx : ts[ts.length - 1 - m]? = some x) (hv : ¬ x.v = 0) : foldN ts (m + 1) = ((askN (foldN ts m).1 x.v ((foldN ts m).2.getD x.no.toNat 0) ((foldN ts m).2.getD x.yes.toNat 0)).1,
    (foldN ts m).2.set (ts.length - 1 - m) (askN (foldN ts m).1 x.v ((foldN ts m).2.getD x.no.toNat 0) ((foldN ts m).2.getD x.yes.toNat 0)).2) := by
 conv => lhs; unfold foldN
 rw [hx]
 dsimp only
 rw [if_neg hv]
theorem zIh {ts : List TN} {N : Int} {A : Nat → VS} (hV : ValT ts N A) (hN : N ≤ 128) (hlen : ts.length ≤ 4096) : ∀ m, m ≤ ts.length → Rd N (foldN ts m).1
 | 0, _ => ⟨fun i g h => by simp [foldN] at h, fun i g h => by simp [foldN] at h⟩
 | m + 1, hm => by
  have ih := zIh hV hN hlen m (by omega)
  have hI := zEl hV hN m (by omega)
  have hsm := hI.small
  have hi : ts.length - 1 - m < ts.length := by omega
  have hx := List.getElem?_eq_getElem hi
  rcases hV.kind _ _ hx with ⟨hv, _, _⟩ | ⟨hc, hv1, hv2, a, b, ea, eb, q1, q2, q3, q4, _⟩
  ·rw [foldN_leaf hx hv]
   exact (zHs ih (by omega) zI2).rd
  ·rw [foldN_ask hx (by omega)]
   dsimp only
   rw [ea, eb]
   simp only [Int.toNat_natCast]
   unfold askN
   split
   ·exact ih
   ·exact (zC0 ih hN (by omega) hv1 hv2 (hI.at_ a (by omega) (by omega)).1 (hI.at_ b (by omega) (by omega)).1).2.2.2.2.1.rd
section
variable {Z : Bool → Nat → Prop} {w0 W : World} {bb m hb ab : Nat} {N : Int} {R : Option Addr} {c : Nat} {D : Nat → Prop} {vs : List Value}
theorem nfold_ {ts : List TN} {b o ct : Nat} {DT : Nat → Prop} {A : Nat → VS} (O0 : Own Z w0 W [.blk bb 109 #[.int .i64 N, .slice R (((foldN ts 0).1).length) c, .map (some m)], .map m (encL strE (keysO ((foldN ts 0).1) 0)), .row (.slice R (((foldN ts 0).1).length) c) 73 3 (((foldN ts 0).1).length) (gcells ((foldN ts 0).1) vs), .ro D (Ins D ((foldN ts 0).1) vs), .ro TabD Tab, .blk hb 70 #[.pointer (some ⟨bb, 0, none⟩)], .blk ab 76 #[.func (.func 26) #[] #[.pointer (some ⟨hb, 0, none⟩)]], .ro DT (fun w => TreeD DT w (.slice (some ⟨b, o, none⟩) ts.length ct) ts)]) (hV : ValT ts N A) (hN : N ≤ 128) (hlen : ts.length ≤ 4096) :
  Calls Tryz.prog 22 #[.slice (some ⟨b, o, none⟩) ts.length ct, .func (.func 28) #[] #[.pointer (some ⟨ab, 0, none⟩)], .func (.func 29) #[] #[.pointer (some ⟨ab, 0, none⟩)]] W fun e w' => ∃ R' c' D' vs', e = .returned (.int .i64 (treeN ts).2) ∧ Own Z w0 w' (bldE bb m N R' c' D' (treeN ts).1 vs' ++ [.blk hb 70 #[.pointer (some ⟨bb, 0, none⟩)], .blk ab 76 #[.func (.func 26) #[] #[.pointer (some ⟨hb, 0, none⟩)]], .ro DT (fun w => TreeD DT w (.slice (some ⟨b, o, none⟩) ts.length ct) ts)]) := by
 have hpos := hV.pos
 refine zAu (args := [.slice (some ⟨b, o, none⟩) ts.length ct, .func (.func 28) #[] #[VP ab], .func (.func 29) #[] #[VP ab]]) Tryz.func22 rfl rfl (by simp) ?_
 refine zAc fun _ K1 => zAa <| wa rfl rfl rfl <| nx K1 fun _ K2 => wm rfl rfl rfl <| wz el28 rfl rfl rfl ?_
 obtain ⟨g3, w4, r5, O6, hg7, hs8⟩ := zBo O0 ap57 rfl ts.length (by decide) (by omega) (cs := (intCs (foldN ts 0).2).toArray) (by simp [foldN, intCs])
 refine zAe (v := VS0 g3 ts.length ts.length) (fun ρ e => r5 ρ _ _ _ _ _ _ _ (e _ _ rfl) (e _ _ rfl)) rfl rfl <| wa rfl rfl rfl <| zAd <| zAb K2 <| zAc fun _ K9 => zAc fun _ K10 => zAa <| wm rfl rfl rfl ?_
 refine wz el28 rfl rfl rfl <| zAe (v := .int .i64 (((ts.length : Nat) : Int) - 1)) (fun ρ e => zAi (k := .i64) (u := ((ts.length : Nat) : Int)) (v := 1) (e _ _ rfl) (e _ _ rfl) (congrArg some (zAo (by omega) (by omega)))) rfl rfl <| wa rfl rfl rfl <| zAd <| zAb K10 <| zAh ?_
 have O11 := (O6.re [1, 2, 3, 4, 5, 6, 7, 8, 0] rfl)
 refine zA8 (ι := Nat × Int × Option Addr × Nat × (Nat → Prop) × List Value) (fun q => [(0, .slice (some ⟨b, o, none⟩) ts.length ct), (1, .func (.func 28) #[] #[VP ab]), (2, .func (.func 29) #[] #[VP ab]), (7, VS0 g3 ts.length ts.length), (8, .int .i64 q.2.1)]) (fun q X => (q.2.1 = (ts.length : Int) - 1 - (q.1 : Int)) ∧ (q.1 ≤ ts.length) ∧ Own Z w0 X [.blk bb 109 #[.int .i64 N, .slice q.2.2.1 (((foldN ts q.1).1).length) q.2.2.2.1, .map (some m)], .map m (encL strE (keysO ((foldN ts q.1).1) 0)), .row (.slice q.2.2.1 (((foldN ts q.1).1).length) q.2.2.2.1) 73 3 (((foldN ts q.1).1).length) (gcells ((foldN ts q.1).1) q.2.2.2.2.2), .ro q.2.2.2.2.1 (Ins q.2.2.2.2.1 ((foldN ts q.1).1) q.2.2.2.2.2), .ro TabD Tab, .blk hb 70 #[VP bb], .blk ab 76 #[.func (.func 26) #[] #[VP hb]], .ro DT (fun w => TreeD DT w (.slice (some ⟨b, o, none⟩) ts.length ct) ts), .blk g3 3 ((intCs (foldN ts q.1).2).toArray)]) (fun q => ts.length - q.1) (0, ((ts.length : Int) - 1), R, c, D, vs) ⟨(by show (ts.length : Int) - 1 = (ts.length : Int) - 1 - ((0 : Nat) : Int); omega), (Nat.zero_le _), O11⟩ ⟨rfl, rfl, rfl, rfl, rfl, trivial⟩ (fun q w12 hJ F13 K14 => ?_)
 obtain ⟨mq, z, R1, c1, D1, vs1⟩ := q
 obtain ⟨hz, hml, O15⟩ := hJ
 dsimp only at hz hml O15 ⊢
 have hI := zEl hV hN mq hml
 have hrd := zIh hV hN hlen mq hml
 have hfl := hI.len
 have hsm := hI.small
 by_cases hz0 : 0 ≤ z
 ·obtain ⟨i, rfl⟩ : ∃ i : Nat, z = (i : Int) := ⟨z.toNat, by omega⟩
  have hi : i < ts.length := by omega
  have him : ts.length - 1 - mq = i := by omega
  rcases hV.kind i _ (List.getElem?_eq_getElem hi) with ⟨h1, h2, h3⟩ | ⟨h1, h2, h3, a, b2, h4, h5, q1, q2, q3, q4, _⟩
  ·obtain ⟨⟨xv, xno, xyes, xc⟩, hx⟩ : ∃ x, ts[i]? = some x := ⟨ts[i], List.getElem?_eq_getElem hi⟩
   have hxe := (List.getElem?_eq_some_iff.1 hx).2
   rw [hxe] at h1 h2 h3
   dsimp only at h1 h2 h3
   refine zAc fun _ K16 => zAc fun _ K17 => zAa <| wm rfl rfl rfl <| wc rfl rfl (geq1 (by omega)) rfl rfl <| zAd <| zAb K17 <| zAl rfl ?_
   refine zAj <| zAb K16 <| zAc fun _ K18 => zAh <| zAc fun _ K19 => zAa <| wm rfl rfl rfl <| wm rfl rfl rfl ?_
   refine wi (q := o + i * 4) (i := i) el28 rfl rfl (by omega) (by omega) rfl rfl <| zAe (v := .agg #[.int .i64 xv, .int .i64 xno, .int .i64 xyes, .bool xc]) (fun ρ e => zAk (vs := [.int .i64 xv, .int .i64 xno, .int .i64 xyes, .bool xc]) ty60 (e _ _ rfl) rfl (cells4 (TreeD.c0 ((O15.ro 7 rfl : (fun w => TreeD DT w (.slice (some ⟨b, o, none⟩) ts.length ct) ts) _) : TreeD _ _ _ _) hx) (TreeD.c1 ((O15.ro 7 rfl : (fun w => TreeD DT w (.slice (some ⟨b, o, none⟩) ts.length ct) ts) _) : TreeD _ _ _ _) hx) (TreeD.c2 ((O15.ro 7 rfl : (fun w => TreeD DT w (.slice (some ⟨b, o, none⟩) ts.length ct) ts) _) : TreeD _ _ _ _) hx) (TreeD.c3 ((O15.ro 7 rfl : (fun w => TreeD DT w (.slice (some ⟨b, o, none⟩) ts.length ct) ts) _) : TreeD _ _ _ _) hx))) rfl rfl ?_
   obtain ⟨g20, w21, r22, O23, hg24, hs25⟩ := zAw O15 60 ze60 rfl
   refine zAe (v := VP g20) (fun ρ e => r22 ρ _ _ _ _ _) rfl rfl ?_
   obtain ⟨w26, r27, O28, hs29⟩ := zAp (o := 0) (n := 4) O23 ty60 (.agg #[.int .i64 xv, .int .i64 xno, .int .i64 xyes, .bool xc]) _ (cs' := #[.int .i64 xv, .int .i64 xno, .int .i64 xyes, .bool xc]) rfl rfl rfl (Nat.le_of_ble_eq_true rfl) rfl
   refine zAv (fun ρ e => r27 ρ _ _ _ _ _ _ (e _ _ rfl) (e _ _ rfl)) rfl <| nx K19 fun _ K30 => wf (q := 0) zCd rfl rfl rfl rfl <| wd ty3 rfl (O28.cell 0 0 rfl rfl) rfl rfl <| wc rfl rfl (eql1 (by omega)) rfl rfl <| zAd <| zAb K30 <| zAl rfl ?_
   refine zAa <| wm rfl rfl rfl <| wm rfl rfl rfl <| wm rfl rfl rfl <| wf (q := 3) zIv rfl rfl rfl rfl <| wd ty4 rfl (O28.cell 0 3 rfl rfl) rfl rfl ?_
   refine zBz (args := [.bool xc]) (all := [.bool xc, VP ab]) in_28 rfl rfl rfl rfl rfl ?_
   obtain ⟨O37h, O37f⟩ := Own.split (A := [.blk bb 109 #[.int .i64 N, .slice R1 (((foldN ts mq).1).length) c1, .map (some m)], .map m (encL strE (keysO ((foldN ts mq).1) 0)), .row (.slice R1 (((foldN ts mq).1).length) c1) 73 3 (((foldN ts mq).1).length) (gcells ((foldN ts mq).1) vs1), .ro D1 (Ins D1 ((foldN ts mq).1) vs1), .ro TabD Tab, .blk hb 70 #[VP bb], .blk ab 76 #[.func (.func 26) #[] #[VP hb]]]) (R := [.blk g20 60 #[.int .i64 xv, .int .i64 xno, .int .i64 xyes, .bool xc], .ro DT (fun w => TreeD DT w (.slice (some ⟨b, o, none⟩) ts.length ct) ts), .blk g3 3 ((intCs (foldN ts mq).2).toArray)]) (O28.re [1, 2, 3, 4, 5, 6, 7, 0, 8, 9] rfl)
   refine (nleaf_ O37h hrd hN (by omega)).mono ?_
   rintro _ w35 ⟨R31, c32, D33, vs34, rfl, h36⟩
   have O37 := O37f h36
   refine ⟨_, rfl, ?_⟩
   refine wi (q := i) (i := i) el57 rfl rfl (by omega) (by omega) rfl rfl ?_
   obtain ⟨w38, r39, O40, hs41⟩ := zAp (o := i) (n := 1) (O37.re [9, 0, 1, 2, 3, 4, 5, 6, 7, 8] rfl) ty3 (.int .i64 ((leafN ((foldN ts mq).1) xc).2)) _ (cs' := (intCs (((foldN ts mq).2).set i ((leafN ((foldN ts mq).1) xc).2))).toArray) rfl rfl rfl (by simp [intCs, hfl] <;> omega) (setI _ i ((leafN ((foldN ts mq).1) xc).2))
   refine zAv (fun ρ e => r39 ρ _ _ _ _ _ _ (e _ _ rfl) (e _ _ rfl)) rfl <| zAd <| zAn <| zAb K18 <| zAa <| wm rfl rfl rfl <| zAe (v := .int .i64 ((i : Int) - 1)) (fun ρ e => zAi (k := .i64) (u := (i : Int)) (v := 1) (e _ _ rfl) (e _ _ rfl) (congrArg some (zAo (by omega) (by omega)))) rfl rfl <| wa rfl rfl rfl ?_
   refine zAd ?_
   have hst := foldN_leaf (m := mq) (him.symm ▸ hx) (by dsimp only; omega)
   rw [him] at hst
   have O42 : Own Z w0 w38 [.blk bb 109 #[.int .i64 N, .slice R31 (((foldN ts (mq + 1)).1).length) c32, .map (some m)], .map m (encL strE (keysO ((foldN ts (mq + 1)).1) 0)), .row (.slice R31 (((foldN ts (mq + 1)).1).length) c32) 73 3 (((foldN ts (mq + 1)).1).length) (gcells ((foldN ts (mq + 1)).1) vs34), .ro D33 (Ins D33 ((foldN ts (mq + 1)).1) vs34), .ro TabD Tab, .blk hb 70 #[VP bb], .blk ab 76 #[.func (.func 26) #[] #[VP hb]], .ro DT (fun w => TreeD DT w (.slice (some ⟨b, o, none⟩) ts.length ct) ts), .blk g3 3 ((intCs (foldN ts (mq + 1)).2).toArray)] := by rw [hst]; exact (O40.re [1, 2, 3, 4, 5, 6, 7, 9, 0] rfl)
   refine zAt K14 (mq + 1, ((i : Int) - 1), R31, c32, D33, vs34) (by show ts.length - (mq + 1) < ts.length - mq; omega) ⟨(by show (i : Int) - 1 = (ts.length : Int) - 1 - ((mq + 1 : Nat) : Int); omega), (by show mq + 1 ≤ ts.length; omega), O42⟩ ⟨rfl, rfl, rfl, rfl, rfl, trivial⟩
  ·obtain ⟨⟨xv, xno, xyes, xc⟩, hx⟩ : ∃ x, ts[i]? = some x := ⟨ts[i], List.getElem?_eq_getElem hi⟩
   have hxe := (List.getElem?_eq_some_iff.1 hx).2
   rw [hxe] at h1 h2 h3 h4 h5
   dsimp only at h1 h2 h3 h4 h5
   subst h4 h5
   refine zAc fun _ K43 => zAc fun _ K44 => zAa <| wm rfl rfl rfl <| wc rfl rfl (geq1 (by omega)) rfl rfl <| zAd <| zAb K44 <| zAl rfl ?_
   refine zAj <| zAb K43 <| zAc fun _ K45 => zAh <| zAc fun _ K46 => zAa <| wm rfl rfl rfl <| wm rfl rfl rfl ?_
   refine wi (q := o + i * 4) (i := i) el28 rfl rfl (by omega) (by omega) rfl rfl <| zAe (v := .agg #[.int .i64 xv, .int .i64 (a : Int), .int .i64 (b2 : Int), .bool xc]) (fun ρ e => zAk (vs := [.int .i64 xv, .int .i64 (a : Int), .int .i64 (b2 : Int), .bool xc]) ty60 (e _ _ rfl) rfl (cells4 (TreeD.c0 ((O15.ro 7 rfl : (fun w => TreeD DT w (.slice (some ⟨b, o, none⟩) ts.length ct) ts) _) : TreeD _ _ _ _) hx) (TreeD.c1 ((O15.ro 7 rfl : (fun w => TreeD DT w (.slice (some ⟨b, o, none⟩) ts.length ct) ts) _) : TreeD _ _ _ _) hx) (TreeD.c2 ((O15.ro 7 rfl : (fun w => TreeD DT w (.slice (some ⟨b, o, none⟩) ts.length ct) ts) _) : TreeD _ _ _ _) hx) (TreeD.c3 ((O15.ro 7 rfl : (fun w => TreeD DT w (.slice (some ⟨b, o, none⟩) ts.length ct) ts) _) : TreeD _ _ _ _) hx))) rfl rfl ?_
   obtain ⟨g47, w48, r49, O50, hg51, hs52⟩ := zAw O15 60 ze60 rfl
   refine zAe (v := VP g47) (fun ρ e => r49 ρ _ _ _ _ _) rfl rfl ?_
   obtain ⟨w53, r54, O55, hs56⟩ := zAp (o := 0) (n := 4) O50 ty60 (.agg #[.int .i64 xv, .int .i64 (a : Int), .int .i64 (b2 : Int), .bool xc]) _ (cs' := #[.int .i64 xv, .int .i64 (a : Int), .int .i64 (b2 : Int), .bool xc]) rfl rfl rfl (Nat.le_of_ble_eq_true rfl) rfl
   refine zAv (fun ρ e => r54 ρ _ _ _ _ _ _ (e _ _ rfl) (e _ _ rfl)) rfl <| nx K46 fun _ K57 => wf (q := 0) zCd rfl rfl rfl rfl <| wd ty3 rfl (O55.cell 0 0 rfl rfl) rfl rfl <| wc rfl rfl (eql0 (by omega)) rfl rfl <| zAd <| zAb K57 <| zAf rfl ?_
   refine zA1 (fun X => Own Z w0 X [.blk g47 60 #[.int .i64 xv, .int .i64 (a : Int), .int .i64 (b2 : Int), .bool xc], .blk g3 3 ((intCs (foldN ts mq).2).toArray)]) 17 [(0, 1), (1, 1), (2, 1), (3, 1), (4, 0), (5, 1), (6, 1), (7, 0), (8, 1), (9, 0), (10, 1), (11, 1), (12, 0), (13, 1), (14, 0), (15, 2), (16, 1), (17, 3)] (by kernel_rfl) (by kernel_rfl) (PQ.block (PQ.then_ (PQ.then_ (PQ.block (PQ.then_ PQ.body))))) ((O55.re [0, 9] rfl)).drew ?_
   have O58 := O55.drew
   refine tm rfl rfl rfl rfl <| tm rfl rfl rfl rfl <| tm rfl rfl rfl rfl <| wt1 (v := VP g47) rfl (fun ρ e W => zBd (q := 0) zCd (e _ _ rfl) rfl) rfl rfl <| wt0 (v := .int .i64 xv) rfl (fun ρ e W hW => zAm ty3 (e _ _ rfl) (hW.cell 0 0 rfl rfl)) rfl rfl <| tm rfl rfl rfl rfl <| wt1 (v := .pointer (some ⟨g47, 1, none⟩)) rfl (fun ρ e W => zBd (q := 1) zGl (e _ _ rfl) rfl) rfl rfl <| wt0 (v := .int .i64 (a : Int)) rfl (fun ρ e W hW => zAm ty3 (e _ _ rfl) (hW.cell 0 1 rfl rfl)) rfl rfl ?_
   refine wt1 (v := .pointer (some ⟨g3, a, none⟩)) rfl (fun ρ e W => zA9 (q := a) (i := a) el57 (e _ _ rfl) (e _ _ rfl) (by omega) (by omega)) rfl rfl <| wt0 (v := .int .i64 ((foldN ts mq).2.getD a 0)) rfl (fun ρ e W hW => zAm ty3 (e _ _ rfl) (((hW.blk 1 rfl).cell _).trans (getI (zBh (by omega))))) rfl rfl <| tm rfl rfl rfl rfl <| wt1 (v := .pointer (some ⟨g47, 2, none⟩)) rfl (fun ρ e W => zBd (q := 2) zGk (e _ _ rfl) rfl) rfl rfl <| wt0 (v := .int .i64 (b2 : Int)) rfl (fun ρ e W hW => zAm ty3 (e _ _ rfl) (hW.cell 0 2 rfl rfl)) rfl rfl <| wt1 (v := .pointer (some ⟨g3, b2, none⟩)) rfl (fun ρ e W => zA9 (q := b2) (i := b2) el57 (e _ _ rfl) (e _ _ rfl) (by omega) (by omega)) rfl rfl ?_
   refine wt0 (v := .int .i64 ((foldN ts mq).2.getD b2 0)) rfl (fun ρ e W hW => zAm ty3 (e _ _ rfl) (((hW.blk 1 rfl).cell _).trans (getI (zBh (by omega))))) rfl rfl ?_
   refine zBn (args := [.int .i64 xv, .int .i64 ((foldN ts mq).2.getD a 0), .int .i64 ((foldN ts mq).2.getD b2 0)]) (all := [.int .i64 xv, .int .i64 ((foldN ts mq).2.getD a 0), .int .i64 ((foldN ts mq).2.getD b2 0), VP ab]) rfl in_29 rfl rfl rfl rfl rfl ?_
   obtain ⟨O65h, O65f⟩ := Own.split (A := [.blk bb 109 #[.int .i64 N, .slice R1 (((foldN ts mq).1).length) c1, .map (some m)], .map m (encL strE (keysO ((foldN ts mq).1) 0)), .row (.slice R1 (((foldN ts mq).1).length) c1) 73 3 (((foldN ts mq).1).length) (gcells ((foldN ts mq).1) vs1), .ro D1 (Ins D1 ((foldN ts mq).1) vs1), .ro TabD Tab, .blk hb 70 #[VP bb], .blk ab 76 #[.func (.func 26) #[] #[VP hb]]]) (R := [.blk g47 60 #[.int .i64 xv, .int .i64 (a : Int), .int .i64 (b2 : Int), .bool xc], .ro DT (fun w => TreeD DT w (.slice (some ⟨b, o, none⟩) ts.length ct) ts), .blk g3 3 ((intCs (foldN ts mq).2).toArray)]) (O58.re [1, 2, 3, 4, 5, 6, 7, 0, 8, 9] rfl)
   refine (nask_ (v := xv) (no := ((foldN ts mq).2.getD a 0)) (yes := ((foldN ts mq).2.getD b2 0)) O65h hrd hN (by omega) (by omega) (by omega) (hI.at_ a (by omega) (by omega)).1 (hI.at_ b2 (by omega) (by omega)).1).mono ?_
   rintro _ w63 ⟨R59, c60, D61, vs62, rfl, h64⟩
   have O65 := O65f h64
   refine ⟨_, rfl, (O65.re [7, 9] rfl), ?_⟩
   refine wt1 (v := .pointer (some ⟨g3, i, none⟩)) rfl (fun ρ e W => zA9 (q := i) (i := i) el57 (e _ _ rfl) (e _ _ rfl) (by omega) (by omega)) rfl rfl ?_
   obtain ⟨w66, r67, O68, hs69⟩ := zAp (o := i) (n := 1) (O65.re [9, 0, 1, 2, 3, 4, 5, 6, 7, 8] rfl) ty3 (.int .i64 ((askN ((foldN ts mq).1) xv ((foldN ts mq).2.getD a 0) ((foldN ts mq).2.getD b2 0)).2)) _ (cs' := (intCs (((foldN ts mq).2).set i ((askN ((foldN ts mq).1) xv ((foldN ts mq).2.getD a 0) ((foldN ts mq).2.getD b2 0)).2))).toArray) rfl rfl rfl (by simp [intCs, hfl] <;> omega) (setI _ i ((askN ((foldN ts mq).1) xv ((foldN ts mq).2.getD a 0) ((foldN ts mq).2.getD b2 0)).2))
   refine zBf rfl (fun ρ e => r67 ρ _ _ _ _ _ _ (e _ _ rfl) (e _ _ rfl)) rfl <| zBc <| zAn <| zAb K45 <| zAa <| wm rfl rfl rfl <| zAe (v := .int .i64 ((i : Int) - 1)) (fun ρ e => zAi (k := .i64) (u := (i : Int)) (v := 1) (e _ _ rfl) (e _ _ rfl) (congrArg some (zAo (by omega) (by omega)))) rfl rfl <| wa rfl rfl rfl ?_
   refine zAd ?_
   have hst := foldN_ask (m := mq) (him.symm ▸ hx) (by dsimp only; omega)
   rw [him] at hst
   simp only [Int.toNat_natCast] at hst
   have O70 : Own Z w0 w66 [.blk bb 109 #[.int .i64 N, .slice R59 (((foldN ts (mq + 1)).1).length) c60, .map (some m)], .map m (encL strE (keysO ((foldN ts (mq + 1)).1) 0)), .row (.slice R59 (((foldN ts (mq + 1)).1).length) c60) 73 3 (((foldN ts (mq + 1)).1).length) (gcells ((foldN ts (mq + 1)).1) vs62), .ro D61 (Ins D61 ((foldN ts (mq + 1)).1) vs62), .ro TabD Tab, .blk hb 70 #[VP bb], .blk ab 76 #[.func (.func 26) #[] #[VP hb]], .ro DT (fun w => TreeD DT w (.slice (some ⟨b, o, none⟩) ts.length ct) ts), .blk g3 3 ((intCs (foldN ts (mq + 1)).2).toArray)] := by rw [hst]; exact (O68.re [1, 2, 3, 4, 5, 6, 7, 9, 0] rfl)
   refine zAt K14 (mq + 1, ((i : Int) - 1), R59, c60, D61, vs62) (by show ts.length - (mq + 1) < ts.length - mq; omega) ⟨(by show (i : Int) - 1 = (ts.length : Int) - 1 - ((mq + 1 : Nat) : Int); omega), (by show mq + 1 ≤ ts.length; omega), O70⟩ ⟨rfl, rfl, rfl, rfl, rfl, trivial⟩
 ·have hzz : z = -1 := by omega
  subst hzz
  have hmm : mq = ts.length := by omega
  subst hmm
  refine zAc fun _ K71 => zAc fun _ K72 => zAa <| wm rfl rfl rfl <| wc rfl rfl (geq0 (by omega)) rfl rfl <| zAd <| zAb K72 <| zAf rfl ?_
  refine zA6 ?_
  refine zAg (by intro h; cases h) ?_
  refine zAg (by intro h; cases h) ?_
  refine zA4 <| zAb K9 <| zAc fun _ K73 => zAa <| wm rfl rfl rfl <| wi (q := 0) (i := 0) el57 rfl rfl (by omega) (by omega) rfl rfl <| wd (v := .int .i64 ((foldN ts ts.length).2.getD 0 0)) ty3 rfl (((O15.blk 8 rfl).cell _).trans (getI (zBh (by omega)))) rfl rfl <| wa rfl rfl rfl ?_
  refine zAd <| zAb K73 <| zAz ?_
  refine zAy (v := .int .i64 ((foldN ts ts.length).2.getD 0 0)) (fun T hT => res1 rfl T _ (hT 6 _ rfl)) ?_
  exact ⟨R1, c1, D1, vs1, rfl, (O15.re [0, 1, 2, 3, 4, 5, 6, 7] rfl)⟩
end

end Go.Proofs.YtliiclmhpphpmaaGreatDoor
namespace Go.Proofs.YtliiclmhpphpmaaGreatDoor
open Go Go.RowKit
section
variable {Z : Bool → Nat → Prop} {w0 W : World} {bb m : Nat} {N : Int} {R : Option Addr} {c : Nat} {D : Nat → Prop} {L : List Gate} {vs : List Value}
theorem nbnetI_ {root : Int} (O0 : Own Z w0 W (bldE bb m N R c D L vs)) (hr : Rd N L) (hL : L.length ≤ 60000) (hrt : inB L root) :
  Calls Tryz.prog 30 #[.pointer (some ⟨bb, 0, none⟩), .int .i64 root] W fun e w' => ∃ R' c' D' vs', e = .returned (.tuple #[.agg #[.int .i64 N, .slice R' (neededG L root).length c'], .int .i64 0]) ∧ Own Z w0 w' [.row (.slice R' (neededG L root).length c') 73 3 (neededG L root).length (gcells (neededG L root) vs'), .ro D' (Ins D' (neededG L root) vs')] := by
 obtain ⟨h0, h1⟩ := hrt
 obtain ⟨rt, rfl⟩ : ∃ rt : Nat, root = (rt : Int) := ⟨root.toNat, by omega⟩
 exact nbnet_ O0 hr hL (by omega)
end
theorem tnet_ {W : World} {D0 : Nat → Prop} {V : Value} {ts : List TN} (hT : TreeD D0 W V ts) (hD : ∀ k, D0 k → k < W.heap.size) (tab : Tab W) {n : Int} (hck : chkT ts n = 0) (hlen : ts.length ≤ 30) :
  Calls Tryz.prog 7 #[V, .int .i64 n] W fun e w' => ∃ R c D' vs, e = .returned (.tuple #[.agg #[.int .i64 n, .slice R (netT ts).length c], .int .i64 0]) ∧ Own Z0 W w' [.row (.slice R (netT ts).length c) 73 3 (netT ts).length (gcells (netT ts) vs), .ro D' (Ins D' (netT ts) vs)] := by
 obtain ⟨ck1, ck2, ck3, ck4, ck5⟩ := zEp.1 hck
 obtain ⟨AS, hV⟩ := zGz ck4 ck5
 obtain ⟨b, o, ct, rfl, hDb⟩ := hT.form ck4
 have hI := zEl hV ck2 ts.length (Nat.le_refl _)
 have hrd : Rd n (treeN ts).1 := zIh hV ck2 ck3 ts.length (Nat.le_refl _)
 have hsm : (treeN ts).1.length ≤ 5 * ts.length := hI.small
 have hroot : inB (treeN ts).1 (treeN ts).2 := (hI.at_ 0 ck4 (by omega)).1
 have O0 := ((Own.start W).oldro (D := TabD) (p := Tab) (zEu tab)).oldro (D := D0) (p := (fun w => TreeD D0 w (.slice (some ⟨b, o, none⟩) ts.length ct) ts)) (zB8 hT hD)
 refine zAu (args := [.slice (some ⟨b, o, none⟩) ts.length ct, .int .i64 n]) Tryz.func7 rfl rfl (by simp) ?_
 refine zAc fun _ K1 => zAa ?_
 obtain ⟨g2, w3, r4, O5, hg6, hs7⟩ := zAw O0 39 ze39 rfl
 refine zAe (v := VP g2) (fun ρ e => r4 ρ _ _ _ _ _) rfl rfl <| wa rfl rfl rfl <| zAd <| zAb K1 <| zAc fun _ K8 => zAc fun _ K9 => zAa <| wm rfl rfl rfl ?_
 refine wm rfl rfl rfl ?_
 refine zAs (args := [.slice (some ⟨b, o, none⟩) ts.length ct, .int .i64 n]) in_5 rfl rfl rfl ?_
 refine (zFf (O5.ro 1 rfl : TreeD D0 _ _ ts) (O5.get 1 rfl).2.1 n hck).mono ?_
 rintro _ w10 ⟨rfl, hb11⟩
 have O12 := O5.below hb11
 refine ⟨_, rfl, ?_⟩
 refine wa rfl rfl rfl <| nx K9 fun _ K13 => wm rfl rfl rfl <| wc rfl rfl (neq0 (by omega)) rfl rfl <| zAd <| zAb K13 <| zAf rfl <| zAj ?_
 refine zAb K8 <| zAc fun _ K14 => zAa <| wm rfl rfl rfl ?_
 refine zAs (args := [.int .i64 n]) in_25 rfl rfl rfl ?_
 obtain ⟨O17h, O17f⟩ := Own.split (A := [.ro TabD Tab]) (R := [.blk g2 39 #[.int .i64 0, .slice none 0 0], .ro D0 (fun w => TreeD D0 w (.slice (some ⟨b, o, none⟩) ts.length ct) ts)]) (O12.re [2, 0, 1] rfl)
 refine (nnew_ O17h ck1 ck2).mono ?_
 rintro _ w15 ⟨bb, m, rfl, h16⟩
 have O17 := O17f h16
 refine ⟨_, rfl, ?_⟩
 refine wm rfl rfl rfl <| we rfl rfl rfl rfl <| we rfl rfl rfl rfl ?_
 obtain ⟨g18, w19, r20, O21, hg22, hs23⟩ := zAw O17 70 ze70 rfl
 refine zAe (v := VP g18) (fun ρ e => r20 ρ _ _ _ _ _) rfl rfl ?_
 obtain ⟨w24, r25, O26, hs27⟩ := zAp (o := 0) (n := 1) O21 ty70 (VP bb) _ (cs' := #[VP bb]) rfl rfl rfl (Nat.le_of_ble_eq_true rfl) rfl
 refine zAv (fun ρ e => r25 ρ _ _ _ _ _ _ (e _ _ rfl) (e _ _ rfl)) rfl <| wa rfl rfl rfl <| nx K14 fun _ K28 => zAe (v := .func (.func 26) #[] #[VP g18]) (fun ρ e => zB2 (us := []) (vs := [VP g18]) (e.list rfl) (e.list rfl)) rfl rfl ?_
 obtain ⟨g29, w30, r31, O32, hg33, hs34⟩ := zAw O26 76 ze76 rfl
 refine zAe (v := VP g29) (fun ρ e => r31 ρ _ _ _ _ _) rfl rfl ?_
 obtain ⟨w35, r36, O37, hs38⟩ := zAp (o := 0) (n := 1) O32 ty76 (.func (.func 26) #[] #[VP g18]) [.func (.func 26) #[] #[VP g18]] (cs' := #[.func (.func 26) #[] #[VP g18]]) rfl rfl rfl (Nat.le_of_ble_eq_true rfl) rfl
 refine zAv (fun ρ e => r36 ρ _ _ _ _ _ _ (e _ _ rfl) (e _ _ rfl)) rfl <| nx K28 fun _ K39 => wm rfl rfl rfl <| zAe (v := .func (.func 28) #[] #[VP g29]) (fun ρ e => zB2 (us := []) (vs := [VP g29]) (e.list rfl) (e.list rfl)) rfl rfl <| zAe (v := .func (.func 29) #[] #[VP g29]) (fun ρ e => zB2 (us := []) (vs := [VP g29]) (e.list rfl) (e.list rfl)) rfl rfl ?_
 refine zAs (args := [.slice (some ⟨b, o, none⟩) ts.length ct, .func (.func 28) #[] #[VP g29], .func (.func 29) #[] #[VP g29]]) in_22 rfl rfl rfl ?_
 obtain ⟨O46h, O46f⟩ := Own.split (A := [.blk bb 109 #[.int .i64 n, .slice none (((foldN ts 0).1).length) 0, .map (some m)], .map m (encL strE (keysO ((foldN ts 0).1) 0)), .row (.slice none (((foldN ts 0).1).length) 0) 73 3 (((foldN ts 0).1).length) (gcells ((foldN ts 0).1) ([])), .ro (fun _ => False) (Ins (fun _ => False) ((foldN ts 0).1) ([])), .ro TabD Tab, .blk g18 70 #[VP bb], .blk g29 76 #[.func (.func 26) #[] #[VP g18]], .ro D0 (fun w => TreeD D0 w (.slice (some ⟨b, o, none⟩) ts.length ct) ts)]) (R := [.blk g2 39 #[.int .i64 0, .slice none 0 0]]) (O37.re [2, 3, 4, 5, 6, 1, 0, 8, 7] rfl)
 refine (nfold_ O46h hV ck2 ck3).mono ?_
 rintro _ w44 ⟨R40, c41, D42, vs43, rfl, h45⟩
 have O46 := O46f h45
 refine ⟨_, rfl, ?_⟩
 refine wa rfl rfl rfl <| nx K39 fun _ K47 => wd ty70 rfl (O46.cell 5 0 rfl rfl) rfl rfl <| wm rfl rfl rfl ?_
 refine zAs (args := [VP bb, .int .i64 ((treeN ts).2)]) in_30 rfl rfl rfl ?_
 obtain ⟨O54h, O54f⟩ := Own.split (A := [.blk bb 109 #[.int .i64 n, .slice R40 (((treeN ts).1).length) c41, .map (some m)], .map m (encL strE (keysO ((treeN ts).1) 0)), .row (.slice R40 (((treeN ts).1).length) c41) 73 3 (((treeN ts).1).length) (gcells ((treeN ts).1) vs43), .ro D42 (Ins D42 ((treeN ts).1) vs43), .ro TabD Tab]) (R := [.blk g18 70 #[VP bb], .blk g29 76 #[.func (.func 26) #[] #[VP g18]], .ro D0 (fun w => TreeD D0 w (.slice (some ⟨b, o, none⟩) ts.length ct) ts), .blk g2 39 #[.int .i64 0, .slice none 0 0]]) O46
 refine (nbnetI_ O54h hrd (by omega) hroot).mono ?_
 rintro _ w52 ⟨R48, c49, D50, vs51, rfl, h53⟩
 have O54 := O54f h53
 refine ⟨_, rfl, ?_⟩
 refine we rfl rfl rfl rfl <| we rfl rfl rfl rfl ?_
 obtain ⟨w55, r56, O57, hs58⟩ := zAp (o := 0) (n := 2) (O54.re [5, 0, 1, 2, 3, 4] rfl) ty39 (.agg #[.int .i64 n, .slice R48 ((netT ts).length) c49]) _ (cs' := #[.int .i64 n, .slice R48 ((netT ts).length) c49]) rfl rfl rfl (Nat.le_of_ble_eq_true rfl) rfl
 refine zAv (fun ρ e => r56 ρ _ _ _ _ _ _ (e _ _ rfl) (e _ _ rfl)) rfl <| wa rfl rfl rfl <| zAd <| zAb K47 <| zAz ?_
 refine zAy (v := .tuple #[.agg #[.int .i64 n, .slice R48 ((netT ts).length) c49], .int .i64 0]) (fun T hT => res2cy rfl T _ (hT 4 _ rfl) (zBj (vs := [.int .i64 n, .slice R48 ((netT ts).length) c49]) ty39 rfl (O57.cells 0 0 rfl rfl)) (hT 5 _ rfl)) ?_
 exact ⟨R48, c49, D50, vs51, rfl, (O57.re [1, 2] rfl)⟩

end Go.Proofs.YtliiclmhpphpmaaGreatDoor
namespace Go.Proofs.YtliiclmhpphpmaaGreatDoor
open Go Go.RowKit
theorem intCs_at2 {l : List Int} {k : Nat} {x : Int} (h : l[k]? = some x) : (intCs l)[k]? = some (.int .i64 x) := by simp [intCs, h]
theorem num61_ {W : World} : Calls Tryz.prog 61 #[] W fun e w' => e = .returned (.agg #[.string (natB 0)]) ∧ Below W.heap.size W w' := by
 have O0 : Own Z0 W W [] := Own.start W
 refine zAu (args := []) Tryz.func61 rfl rfl (by simp) ?_
 refine zAc fun _ K1 => zAa ?_
 obtain ⟨g2, w3, r4, O5, hg6, hs7⟩ := zAw O0 43 ze43 rfl
 refine zAe (v := VP g2) (fun ρ e => r4 ρ _ _ _ _ _) rfl rfl <| nx K1 fun _ K8 => zAe (v := .agg #[.string (⟨#[]⟩)]) (fun ρ e => zBe (cells := #[.string (⟨#[]⟩)]) st43 (e.parts rfl) rfl) rfl rfl ?_
 obtain ⟨w9, r10, O11, hs12⟩ := zAp (o := 0) (n := 1) O5 ty43 (.agg #[.string (⟨#[]⟩)]) [.string (⟨#[]⟩)] (cs' := #[.string (⟨#[]⟩)]) rfl rfl rfl (Nat.le_of_ble_eq_true rfl) rfl
 refine zAv (fun ρ e => r10 ρ _ _ _ _ _ _ (e _ _ rfl) (e _ _ rfl)) rfl <| zAd <| zAb K8 <| zAz ?_
 refine zAy (v := .agg #[.string (⟨#[]⟩)]) (fun T hT => res1c rfl T _ (hT 0 _ rfl) (zBj (vs := [.string (⟨#[]⟩)]) ty43 rfl (O11.cells 0 0 rfl rfl))) ?_
 exact ⟨rfl, O11.old⟩
theorem num62_ {W : World} : Calls Tryz.prog 62 #[] W fun e w' => e = .returned (.agg #[.string (natB 1)]) ∧ Below W.heap.size W w' := by
 have O0 : Own Z0 W W [] := Own.start W
 refine zAu (args := []) Tryz.func62 rfl rfl (by simp) ?_
 refine zAc fun _ K1 => zAa ?_
 obtain ⟨g2, w3, r4, O5, hg6, hs7⟩ := zAw O0 43 ze43 rfl
 refine zAe (v := VP g2) (fun ρ e => r4 ρ _ _ _ _ _) rfl rfl <| nx K1 fun _ K8 => ?_
 refine zAs (args := [.int .u64 1]) in_13 rfl rfl rfl ?_
 refine (of_ (W := w3) (m := 1) (by decide)).mono ?_
 rintro _ w9 ⟨rfl, hb10⟩
 have O11 := O5.below hb10
 refine ⟨_, rfl, ?_⟩
 obtain ⟨w12, r13, O14, hs15⟩ := zAp (o := 0) (n := 1) O11 ty43 (.agg #[.string (natB 1)]) _ (cs' := #[.string (natB 1)]) rfl rfl rfl (Nat.le_of_ble_eq_true rfl) rfl
 refine zAv (fun ρ e => r13 ρ _ _ _ _ _ _ (e _ _ rfl) (e _ _ rfl)) rfl <| zAd <| zAb K8 <| zAz ?_
 refine zAy (v := .agg #[.string (natB 1)]) (fun T hT => res1c rfl T _ (hT 0 _ rfl) (zBj (vs := [.string (natB 1)]) ty43 rfl (O14.cells 0 0 rfl rfl))) ?_
 exact ⟨rfl, O14.old⟩
theorem num60_ {W : World} {g1 : Nat} {l : Int} (hl : l ≠ 0) (h1 : g1 < W.heap.size) (hc1 : W.cell? ⟨g1, 0, none⟩ = some (.int .i64 0)) : Calls Tryz.prog 60 #[.int .i64 l, .pointer (some ⟨g1, 0, none⟩)] W fun e w' => e = .returned (.agg #[.string (natB 1)]) ∧ Below W.heap.size W w' := by
 have O0 : Own Z0 W W [] := Own.start W
 refine zAu (args := [.int .i64 l, VP g1]) Tryz.func60 rfl rfl (by simp) ?_
 refine zAc fun _ K1 => zAa ?_
 obtain ⟨g2, w3, r4, O5, hg6, hs7⟩ := zAw O0 43 ze43 rfl
 refine zAe (v := VP g2) (fun ρ e => r4 ρ _ _ _ _ _) rfl rfl <| zAd <| zAb K1 <| zAc fun _ K8 => zAc fun _ K9 => zAa <| wm rfl rfl rfl <| wd (v := .int .i64 0) ty3 rfl (O5.old.cell (p := ⟨g1, 0, none⟩) h1 |>.trans hc1) rfl rfl ?_
 refine wc rfl rfl (eql0 (by omega)) rfl rfl <| zAd <| zAb K9 <| zAf rfl <| zAj <| zAb K8 <| zAc fun _ K10 => zAa ?_
 refine zAs (args := [.int .u64 1]) in_13 rfl rfl rfl ?_
 refine (of_ (W := w3) (m := 1) (by decide)).mono ?_
 rintro _ w11 ⟨rfl, hb12⟩
 have O13 := O5.below hb12
 refine ⟨_, rfl, ?_⟩
 obtain ⟨w14, r15, O16, hs17⟩ := zAp (o := 0) (n := 1) O13 ty43 (.agg #[.string (natB 1)]) _ (cs' := #[.string (natB 1)]) rfl rfl rfl (Nat.le_of_ble_eq_true rfl) rfl
 refine zAv (fun ρ e => r15 ρ _ _ _ _ _ _ (e _ _ rfl) (e _ _ rfl)) rfl <| zAd <| zAb K10 <| zAz ?_
 refine zAy (v := .agg #[.string (natB 1)]) (fun T hT => res1c rfl T _ (hT 3 _ rfl) (zBj (vs := [.string (natB 1)]) ty43 rfl (O16.cells 0 0 rfl rfl))) ?_
 exact ⟨rfl, O16.old⟩
theorem num65_ {W : World} {g1 g3 : Nat} {l : Int} (hl : l ≠ 0) (hb0 : -1000 ≤ l) (hb1 : l ≤ 1000) (h1 : g1 < W.heap.size) (hc1 : W.cell? ⟨g1, 0, none⟩ = some (.int .i64 0)) (h3 : g3 < W.heap.size) (hc3 : W.cell? ⟨g3, 0, none⟩ = some (.func (.func 60) #[] #[.pointer (some ⟨g1, 0, none⟩)])) : Calls Tryz.prog 65 #[.int .i64 l, .pointer (some ⟨g3, 0, none⟩)] W fun e w' => e = .returned (.agg #[.string (natB 2)]) ∧ Below W.heap.size W w' := by
 have O0 : Own Z0 W W [] := Own.start W
 refine zAu (args := [.int .i64 l, VP g3]) Tryz.func65 rfl rfl (by simp) ?_
 refine zAc fun _ K1 => zAa ?_
 obtain ⟨g2, w3, r4, O5, hg6, hs7⟩ := zAw O0 43 ze43 rfl
 refine zAe (v := VP g2) (fun ρ e => r4 ρ _ _ _ _ _) rfl rfl <| zAd <| zAb K1 <| zAc fun _ K8 => ?_
 refine zA1 (fun X => Own Z0 W X [.blk g2 43 #[.string (⟨#[]⟩)]]) 8 [(0, 0), (1, 1), (3, 0), (4, 1), (5, 1), (2, 2), (6, 2), (7, 2), (8, 3)] (by kernel_rfl) (by kernel_rfl) (PQ.then_ PQ.body) (O5).drew ?_
 have O9 := O5.drew
 refine wt0 (v := .func (.func 60) #[] #[VP g1]) rfl (fun ρ e W hW => zAm ty82 (e _ _ rfl) (hW.old.cell (p := ⟨g3, 0, none⟩) h3 |>.trans hc3)) rfl rfl <| tm rfl rfl rfl rfl <| wt0 (v := .func (.func 60) #[] #[VP g1]) rfl (fun ρ e W hW => zAm ty82 (e _ _ rfl) (hW.old.cell (p := ⟨g3, 0, none⟩) h3 |>.trans hc3)) rfl rfl <| tm rfl rfl rfl rfl <| wt1 (v := .int .i64 (-l)) rfl (fun ρ e W => zGw (e _ _ rfl) (zAo (by omega) (by omega))) rfl rfl ?_
 refine zBn (args := [.int .i64 l]) (all := [.int .i64 l, VP g1]) rfl in_60 rfl rfl rfl rfl rfl ?_
 refine (num60_ (W := w3.drew) (l := l) (by omega) (Nat.lt_of_lt_of_le h1 (O9.old).size) (O9.old.cell (p := ⟨g1, 0, none⟩) h1 |>.trans hc1)).mono ?_
 rintro _ w10 ⟨rfl, hb11⟩
 have O12 := O9.below hb11
 refine ⟨_, rfl, O12, ?_⟩
 refine zBn (args := [.int .i64 (-l)]) (all := [.int .i64 (-l), VP g1]) rfl in_60 rfl rfl rfl rfl rfl ?_
 refine (num60_ (W := w10) (l := (-l)) (by omega) (Nat.lt_of_lt_of_le h1 (O12.old).size) (O12.old.cell (p := ⟨g1, 0, none⟩) h1 |>.trans hc1)).mono ?_
 rintro _ w13 ⟨rfl, hb14⟩
 have O15 := O12.below hb14
 refine ⟨_, rfl, O15, ?_⟩
 refine zA7 (args := [.agg #[.string (natB 1)], .agg #[.string (natB 1)]]) rfl in_63 rfl rfl rfl ?_
 refine (add_ (W := w13) (a := 1) (b := 1) (by decide)).mono ?_
 rintro _ w16 ⟨rfl, hb17⟩
 have O18 := O15.below hb17
 refine ⟨_, rfl, O18, ?_⟩
 obtain ⟨w19, r20, O21, hs22⟩ := zAp (o := 0) (n := 1) O18 ty43 (.agg #[.string (natB 2)]) _ (cs' := #[.string (natB 2)]) rfl rfl rfl (Nat.le_of_ble_eq_true rfl) rfl
 refine zBf rfl (fun ρ e => r20 ρ _ _ _ _ _ _ (e _ _ rfl) (e _ _ rfl)) rfl <| zBc <| zAb K8 <| zAz ?_
 refine zAy (v := .agg #[.string (natB 2)]) (fun T hT => res1c rfl T _ (hT 3 _ rfl) (zBj (vs := [.string (natB 2)]) ty43 rfl (O21.cells 0 0 rfl rfl))) ?_
 exact ⟨rfl, O21.old⟩
theorem numbers_ {W : World} : Calls Tryz.prog 33 #[.int .i64 0] W fun e w' => ∃ g1 g3, e = .returned (.agg #[.func (.func 61) #[] #[], .func (.func 62) #[] #[], .func (.func 63) #[] #[], .func (.func 64) #[] #[], .func (.func 60) #[] #[.pointer (some ⟨g1, 0, none⟩)], .func (.func 65) #[] #[.pointer (some ⟨g3, 0, none⟩)]]) ∧ Own Z0 W w' [.blk g1 3 #[.int .i64 0], .blk g3 82 #[.func (.func 60) #[] #[.pointer (some ⟨g1, 0, none⟩)]]] := by
 have O0 : Own Z0 W W [] := Own.start W
 refine zAu (args := [.int .i64 0]) Tryz.func33 rfl rfl (by simp) ?_
 refine zAc fun _ K1 => zAa ?_
 obtain ⟨g2, w3, r4, O5, hg6, hs7⟩ := zA5 O0 3 (.int .i64 0) rfl
 refine zAe (v := VP g2) (fun ρ e => r4 ρ _ _ _ _ _ _ (e _ _ rfl)) rfl rfl ?_
 obtain ⟨g8, w9, r10, O11, hg12, hs13⟩ := zAw O5 84 ze84 rfl
 refine zAe (v := VP g8) (fun ρ e => r10 ρ _ _ _ _ _) rfl rfl <| nx K1 fun _ K14 => zAe (v := .func (.func 60) #[] #[VP g2]) (fun ρ e => zB2 (us := []) (vs := [VP g2]) (e.list rfl) (e.list rfl)) rfl rfl ?_
 obtain ⟨g15, w16, r17, O18, hg19, hs20⟩ := zAw O11 82 ze82 rfl
 refine zAe (v := VP g15) (fun ρ e => r17 ρ _ _ _ _ _) rfl rfl ?_
 obtain ⟨w21, r22, O23, hs24⟩ := zAp (o := 0) (n := 1) O18 ty82 (.func (.func 60) #[] #[VP g2]) [.func (.func 60) #[] #[VP g2]] (cs' := #[.func (.func 60) #[] #[VP g2]]) rfl rfl rfl (Nat.le_of_ble_eq_true rfl) rfl
 refine zAv (fun ρ e => r22 ρ _ _ _ _ _ _ (e _ _ rfl) (e _ _ rfl)) rfl <| nx K14 fun _ K25 => wd ty82 rfl (O23.cell 0 0 rfl rfl) rfl rfl <| zAe (v := .func (.func 65) #[] #[VP g15]) (fun ρ e => zB2 (us := []) (vs := [VP g15]) (e.list rfl) (e.list rfl)) rfl rfl <| zAe (v := .agg #[.func (.func 61) #[] #[], .func (.func 62) #[] #[], .func (.func 63) #[] #[], .func (.func 64) #[] #[], .func (.func 60) #[] #[VP g2], .func (.func 65) #[] #[VP g15]]) (fun ρ e => zBe (cells := #[.func (.func 61) #[] #[], .func (.func 62) #[] #[], .func (.func 63) #[] #[], .func (.func 64) #[] #[], .func (.func 60) #[] #[VP g2], .func (.func 65) #[] #[VP g15]]) st84 (e.parts rfl) rfl) rfl rfl ?_
 obtain ⟨w26, r27, O28, hs29⟩ := zAp (o := 0) (n := 6) (O23.re [1, 0, 2] rfl) ty84 (.agg #[.func (.func 61) #[] #[], .func (.func 62) #[] #[], .func (.func 63) #[] #[], .func (.func 64) #[] #[], .func (.func 60) #[] #[VP g2], .func (.func 65) #[] #[VP g15]]) [.func (.func 61) #[] #[], .func (.func 62) #[] #[], .func (.func 63) #[] #[], .func (.func 64) #[] #[], .func (.func 60) #[] #[VP g2], .func (.func 65) #[] #[VP g15]] (cs' := #[.func (.func 61) #[] #[], .func (.func 62) #[] #[], .func (.func 63) #[] #[], .func (.func 64) #[] #[], .func (.func 60) #[] #[VP g2], .func (.func 65) #[] #[VP g15]]) rfl rfl rfl (Nat.le_of_ble_eq_true rfl) rfl
 refine zAv (fun ρ e => r27 ρ _ _ _ _ _ _ (e _ _ rfl) (e _ _ rfl)) rfl <| zAd <| zAb K25 <| zAz ?_
 refine zAy (v := .agg #[.func (.func 61) #[] #[], .func (.func 62) #[] #[], .func (.func 63) #[] #[], .func (.func 64) #[] #[], .func (.func 60) #[] #[VP g2], .func (.func 65) #[] #[VP g15]]) (fun T hT => res1c rfl T _ (hT 2 _ rfl) (zBj (vs := [.func (.func 61) #[] #[], .func (.func 62) #[] #[], .func (.func 63) #[] #[], .func (.func 64) #[] #[], .func (.func 60) #[] #[VP g2], .func (.func 65) #[] #[VP g15]]) ty84 rfl (O28.cells 0 0 rfl rfl))) ?_
 exact ⟨g2, g15, rfl, (O28.re [2, 1] rfl)⟩
theorem wide_ {W : World} {ub vb rb uo vo n k g1 g3 ck : Nat} {SA SB : VS} (hT : TabT W) (hk : k < n) (hub : ub < W.heap.size) (hvb : vb < W.heap.size) (hrb : rb < W.heap.size) (huo : uo < W.heap.size) (hvo : vo < W.heap.size)
  (hcu : W.cell? ⟨ub, 0, none⟩ = some (VS0 uo n n)) (hcv : W.cell? ⟨vb, 0, none⟩ = some (VS0 vo n n)) (huk : W.cell? ⟨uo, k, none⟩ = some (.string (natB ck)))
  (hvk0 : W.cell? ⟨vo, k * 2, none⟩ = some (.int .u64 (SB.a.toNat : Int))) (hvk1 : W.cell? ⟨vo, k * 2 + 1, none⟩ = some (.int .u64 (SB.b.toNat : Int))) (hr3 : W.cell? ⟨rb, 3, none⟩ = some (.func (.func 64) #[] #[])) (hr5 : W.cell? ⟨rb, 5, none⟩ = some (.func (.func 65) #[] #[VP g3]))
  (h1 : g1 < W.heap.size) (hc1 : W.cell? ⟨g1, 0, none⟩ = some (.int .i64 0)) (h3 : g3 < W.heap.size) (hc3 : W.cell? ⟨g3, 0, none⟩ = some (.func (.func 60) #[] #[VP g1])) (hsm : Small (SA.minus SB)) (hsz : (SA.minus SB).sz ≤ 6) (hck : ck * 2 ^ (SA.minus SB).sz ≤ 64) :
  Calls Tryz.prog 57 #[.int .i64 (k : Int), .agg #[.int .u64 (SA.a.toNat : Int), .int .u64 (SA.b.toNat : Int)], .pointer (some ⟨ub, 0, none⟩), .pointer (some ⟨vb, 0, none⟩), .pointer (some ⟨rb, 0, none⟩)] W fun e w' => e = .returned (.agg #[.string (natB (ck * 2 ^ (SA.minus SB).sz))]) ∧ Below W.heap.size W w' := by
 have O0 := (Own.start W).oldro (D := TabE) (p := TabT) (zB7 hT)
 refine zAu (args := [.int .i64 (k : Int), .agg #[.int .u64 (SA.a.toNat : Int), .int .u64 (SA.b.toNat : Int)], VP ub, VP vb, VP rb]) Tryz.func57 rfl rfl (by simp) ?_
 refine zAc fun _ K1 => zAa ?_
 obtain ⟨g2, w3, r4, O5, hg6, hs7⟩ := zA5 O0 25 (.agg #[.int .u64 (SA.a.toNat : Int), .int .u64 (SA.b.toNat : Int)]) rfl
 refine zAe (v := VP g2) (fun ρ e => r4 ρ _ _ _ _ _ _ (e _ _ rfl)) rfl rfl ?_
 obtain ⟨g8, w9, r10, O11, hg12, hs13⟩ := zAw O5 43 ze43 rfl
 refine zAe (v := VP g8) (fun ρ e => r10 ρ _ _ _ _ _) rfl rfl <| nx K1 fun _ K14 => wd (v := VS0 uo n n) ty116 rfl (O11.old.cell (p := ⟨ub, 0, none⟩) hub |>.trans hcu) rfl rfl <| wm rfl rfl rfl <| wi (q := k) (i := k) el116 rfl rfl (by omega) (by omega) rfl rfl <| zAe (v := .agg #[.string (natB ck)]) (fun ρ e => zAk (vs := [.string (natB ck)]) ty43 (e _ _ rfl) rfl (cells1 (O11.old.cell (p := ⟨uo, k, none⟩) huo |>.trans huk))) rfl rfl ?_
 obtain ⟨g15, w16, r17, O18, hg19, hs20⟩ := zAw O11 43 ze43 rfl
 refine zAe (v := VP g15) (fun ρ e => r17 ρ _ _ _ _ _) rfl rfl ?_
 obtain ⟨w21, r22, O23, hs24⟩ := zAp (o := 0) (n := 1) O18 ty43 (.agg #[.string (natB ck)]) _ (cs' := #[.string (natB ck)]) rfl rfl rfl (Nat.le_of_ble_eq_true rfl) rfl
 refine zAv (fun ρ e => r22 ρ _ _ _ _ _ _ (e _ _ rfl) (e _ _ rfl)) rfl <| zAd <| zAb K14 <| zAc fun _ K25 => zAc fun _ K26 => ?_
 refine zA1 (fun X => Own Z0 W X [.blk g15 43 #[.string (natB ck)], .blk g8 43 #[.string (⟨#[]⟩)], .blk g2 25 #[.int .u64 (SA.a.toNat : Int), .int .u64 (SA.b.toNat : Int)], .ro TabE TabT]) 9 [(0, 0), (1, 0), (2, 1), (3, 1), (4, 0), (8, 1), (5, 2), (6, 2), (7, 1)] (by kernel_rfl) (by kernel_rfl) (PQ.then_ (PQ.then_ PQ.body)) (O23).drew ?_
 have O27 := O23.drew
 refine wt0 (v := .agg #[.int .u64 (SA.a.toNat : Int), .int .u64 (SA.b.toNat : Int)]) rfl (fun ρ e W hW => zAk (vs := [.int .u64 (SA.a.toNat : Int), .int .u64 (SA.b.toNat : Int)]) ty25 (e _ _ rfl) rfl (hW.cells 2 0 rfl rfl)) rfl rfl <| wt0 (v := VS0 vo n n) rfl (fun ρ e W hW => zAm ty58 (e _ _ rfl) (hW.old.cell (p := ⟨vb, 0, none⟩) hvb |>.trans hcv)) rfl rfl <| tm rfl rfl rfl rfl <| wt1 (v := .pointer (some ⟨vo, k * 2, none⟩)) rfl (fun ρ e W => zA9 (q := k * 2) (i := k) el58 (e _ _ rfl) (e _ _ rfl) (by omega) (by omega)) rfl rfl <| wt0 (v := .agg #[.int .u64 (SB.a.toNat : Int), .int .u64 (SB.b.toNat : Int)]) rfl (fun ρ e W hW => zAk (vs := [.int .u64 (SB.a.toNat : Int), .int .u64 (SB.b.toNat : Int)]) ty25 (e _ _ rfl) rfl (cells2 (hW.old.cell (p := ⟨vo, k * 2, none⟩) hvo |>.trans hvk0) (hW.old.cell (p := ⟨vo, k * 2 + 1, none⟩) hvo |>.trans hvk1))) rfl rfl ?_
 refine tm rfl rfl rfl rfl ?_
 refine zA7 (args := [.agg #[.int .u64 (SA.a.toNat : Int), .int .u64 (SA.b.toNat : Int)], .agg #[.int .u64 (SB.a.toNat : Int), .int .u64 (SB.b.toNat : Int)]]) rfl in_59 rfl rfl rfl ?_
 refine (zEt SA.a SA.b SB.a SB.b w21.drew).mono ?_
 rintro _ w28 ⟨rfl, hb29⟩
 have O30 := O27.below hb29
 refine ⟨_, rfl, O30, ?_⟩
 refine zA7 (args := [.agg #[.int .u64 ((SA.minus SB).a.toNat : Int), .int .u64 ((SA.minus SB).b.toNat : Int)]]) rfl in_58 rfl rfl rfl ?_
 refine (zJm (W := w28) (SA.minus SB) hsm (O30.ro 3 rfl)).mono ?_
 rintro _ w33 ⟨A31, c32, rfl, h34⟩
 have O35 := zFk O30 h34
 refine ⟨_, rfl, (O35.re [1, 2, 3, 4] rfl), ?_⟩
 refine wt1 (v := .int .i64 (((SA.minus SB).sz : Nat) : Int)) rfl (fun ρ e W => zGn el57 (e _ _ rfl)) rfl rfl <| zBc <| zAb K26 <| zAh ?_
 have hck0 : ck = ck * 2 ^ 0 := by simp
 have O36 : Own Z0 W w33 [.blk g15 43 #[.string (natB (ck * 2 ^ 0))], .blk g8 43 #[.string (⟨#[]⟩)], .row (.slice A31 ((SA.minus SB).sz) c32) 3 1 ((SA.minus SB).sz) (intCs (bitsL (SA.minus SB).a.toNat))] := by rw [← hck0]; exact (O35.re [1, 2, 0] rfl)
 refine zA8 (ι := Nat) (fun q => [(4, VP rb), (7, VP g8), (8, VP g15), (21, .slice A31 ((SA.minus SB).sz) c32), (22, .int .i64 (((SA.minus SB).sz : Nat) : Int)), (23, .int .i64 (q : Int))]) (fun q X => (q ≤ (SA.minus SB).sz) ∧ Own Z0 W X [.blk g15 43 #[.string (natB (ck * 2 ^ q))], .blk g8 43 #[.string (⟨#[]⟩)], .row (.slice A31 ((SA.minus SB).sz) c32) 3 1 ((SA.minus SB).sz) (intCs (bitsL (SA.minus SB).a.toNat))]) (fun q => (SA.minus SB).sz - q) 0 ⟨Nat.zero_le _, O36⟩ ⟨rfl, rfl, rfl, rfl, rfl, rfl, trivial⟩ (fun q w37 hJ F38 K39 => ?_)
 obtain ⟨r, rfl⟩ : ∃ x, x = q := ⟨_, rfl⟩
 obtain ⟨hr0, O40⟩ := hJ
 try dsimp only at hr0 O40 ⊢
 by_cases hr : r < (SA.minus SB).sz
 ·skip
  obtain ⟨v, hv⟩ : ∃ v, (bitsL (SA.minus SB).a.toNat)[r]? = some v := ⟨_, List.getElem?_eq_getElem (by rw [hsm.len]; exact hr)⟩
  have hvh := (hsm.mem v).1 (List.mem_of_getElem? hv)
  have hv1 := VS.has_in hvh
  have hpr : 2 ^ (r + 1) ≤ 2 ^ (SA.minus SB).sz := Nat.pow_le_pow_right (by decide) (by omega)
  have hmr := Nat.mul_le_mul_left ck hpr
  have hpe : ck * 2 ^ (r + 1) = ck * 2 ^ r * 2 := by rw [Nat.pow_succ, Nat.mul_assoc]
  obtain ⟨lg, hlg⟩ := rowaddr (O40.row 2 rfl) (by omega)
  subst hlg
  refine zAc fun _ K41 => zAa <| wc rfl rfl (lss1 (by omega)) rfl rfl <| zAd <| zAb K41 <| zAc fun _ K42 => zAl rfl <| zAj ?_
  refine zAb K42 <| zAc fun _ K43 => zAh <| zAc fun _ K44 => zAa <| wi (q := r) (i := r) el57 rfl rfl (by omega) (by omega) rfl rfl <| wd (v := .int .i64 v) ty3 rfl (rowcell (O40.row 2 rfl) (intCs_at2 hv)) rfl rfl <| wa rfl rfl rfl ?_
  refine zAd <| zAb K44 ?_
  refine zA1 (fun X => Own Z0 W X [.blk g15 43 #[.string (natB (ck * 2 ^ r))], .blk g8 43 #[.string (⟨#[]⟩)], .row (VS0 lg ((SA.minus SB).sz) c32) 3 1 ((SA.minus SB).sz) (intCs (bitsL (SA.minus SB).a.toNat))]) 8 [(0, 1), (1, 0), (2, 0), (3, 1), (4, 0), (5, 1), (6, 2), (7, 2), (8, 3)] (by kernel_rfl) (by kernel_rfl) (PQ.block (PQ.then_ (PQ.then_ (PQ.block (PQ.then_ PQ.body))))) (O40).drew ?_
  have O45 := O40.drew
  refine wt1 (v := .pointer (some ⟨rb, 3, none⟩)) rfl (fun ρ e W => zBd (q := 3) fi84_3 (e _ _ rfl) rfl) rfl rfl <| wt0 (v := .func (.func 64) #[] #[]) rfl (fun ρ e W hW => zAm ty81 (e _ _ rfl) (hW.old.cell (p := ⟨rb, 3, none⟩) hrb |>.trans hr3)) rfl rfl <| wt0 (v := .agg #[.string (natB (ck * 2 ^ r))]) rfl (fun ρ e W hW => zAk (vs := [.string (natB (ck * 2 ^ r))]) ty43 (e _ _ rfl) rfl (hW.cells 0 0 rfl rfl)) rfl rfl <| wt1 (v := .pointer (some ⟨rb, 5, none⟩)) rfl (fun ρ e W => zBd (q := 5) fi84_5 (e _ _ rfl) rfl) rfl rfl <| wt0 (v := .func (.func 65) #[] #[VP g3]) rfl (fun ρ e W hW => zAm ty82 (e _ _ rfl) (hW.old.cell (p := ⟨rb, 5, none⟩) hrb |>.trans hr5)) rfl rfl ?_
  refine tm rfl rfl rfl rfl ?_
  refine zBn (args := [.int .i64 v]) (all := [.int .i64 v, VP g3]) rfl in_65 rfl rfl rfl rfl rfl ?_
  refine (num65_ (W := w37.drew) (l := v) (by omega) (by omega) (by omega) (Nat.lt_of_lt_of_le h1 (O45.old).size) (O45.old.cell (p := ⟨g1, 0, none⟩) h1 |>.trans hc1) (Nat.lt_of_lt_of_le h3 (O45.old).size) (O45.old.cell (p := ⟨g3, 0, none⟩) h3 |>.trans hc3)).mono ?_
  rintro _ w46 ⟨rfl, hb47⟩
  have O48 := O45.below hb47
  refine ⟨_, rfl, O48, ?_⟩
  refine zBn (args := [.agg #[.string (natB (ck * 2 ^ r))], .agg #[.string (natB 2)]]) (all := [.agg #[.string (natB (ck * 2 ^ r))], .agg #[.string (natB 2)]]) rfl zJo rfl rfl rfl rfl rfl ?_
  refine (mul_ (W := w46) (a := (ck * 2 ^ r)) (b := 2) (by omega) (by omega) (by decide)).mono ?_
  rintro _ w49 ⟨rfl, hb50⟩
  have O51 := O48.below hb50
  refine ⟨_, rfl, O51, ?_⟩
  obtain ⟨w52, r53, O54, hs55⟩ := zAp (o := 0) (n := 1) O51 ty43 (.agg #[.string (natB ((ck * 2 ^ r) * 2))]) _ (cs' := #[.string (natB ((ck * 2 ^ r) * 2))]) rfl rfl rfl (Nat.le_of_ble_eq_true rfl) rfl
  refine zBf rfl (fun ρ e => r53 ρ _ _ _ _ _ _ (e _ _ rfl) (e _ _ rfl)) rfl <| zBc <| zAn <| zAb K43 <| zAa <| zAe (v := .int .i64 ((r + 1 : Nat) : Int)) (fun ρ e => zAi (k := .i64) (u := (r : Int)) (v := 1) (e _ _ rfl) (e _ _ rfl) (congrArg some ((congrArg _ (by omega)).trans (zAo (u := ((r + 1 : Nat) : Int)) (by omega) (by omega))))) rfl rfl <| wm rfl rfl rfl <| zAd ?_
  have O56 : Own Z0 W w52 [.blk g15 43 #[.string (natB (ck * 2 ^ (r + 1)))], .blk g8 43 #[.string (⟨#[]⟩)], .row (VS0 lg ((SA.minus SB).sz) c32) 3 1 ((SA.minus SB).sz) (intCs (bitsL (SA.minus SB).a.toNat))] := by rw [hpe]; exact O54
  refine zAt K39 (r + 1) (by show (SA.minus SB).sz - (r + 1) < (SA.minus SB).sz - r; omega) ⟨(by show r + 1 ≤ (SA.minus SB).sz; omega), O56⟩ ⟨rfl, rfl, rfl, rfl, rfl, rfl, trivial⟩
 ·have hre : r = (SA.minus SB).sz := by omega
  subst hre
  refine zAc fun _ K57 => zAa <| wc rfl rfl (lss0 (by omega)) rfl rfl <| zAd <| zAb K57 <| zAc fun _ K58 => zAf rfl <| zA6 ?_
  refine zAg (by intro h; cases h) ?_
  refine zAg (by intro h; cases h) ?_
  refine zA4 <| zAb K25 <| zAc fun _ K59 => zAa <| zAe (v := .agg #[.string (natB (ck * 2 ^ (SA.minus SB).sz))]) (fun ρ e => zAk (vs := [.string (natB (ck * 2 ^ (SA.minus SB).sz))]) ty43 (e _ _ rfl) rfl (O40.cells 0 0 rfl rfl)) rfl rfl ?_
  obtain ⟨w60, r61, O62, hs63⟩ := zAp (o := 0) (n := 1) (O40.re [1, 0, 2] rfl) ty43 (.agg #[.string (natB (ck * 2 ^ (SA.minus SB).sz))]) _ (cs' := #[.string (natB (ck * 2 ^ (SA.minus SB).sz))]) rfl rfl rfl (Nat.le_of_ble_eq_true rfl) rfl
  refine zAv (fun ρ e => r61 ρ _ _ _ _ _ _ (e _ _ rfl) (e _ _ rfl)) rfl <| zAd <| zAb K59 <| zAz ?_
  refine zAy (v := .agg #[.string (natB (ck * 2 ^ (SA.minus SB).sz))]) (fun T hT => res1c rfl T _ (hT 7 _ rfl) (zBj (vs := [.string (natB (ck * 2 ^ (SA.minus SB).sz))]) ty43 rfl (O62.cells 0 0 rfl rfl))) ?_
  exact ⟨rfl, O62.old⟩

end Go.Proofs.YtliiclmhpphpmaaGreatDoor
namespace Go.Proofs.YtliiclmhpphpmaaGreatDoor
open Go Go.RowKit
theorem own_new2 {Z : Bool → Nat → Prop} {w0 W w' : World} {L : List En} {g1 g3 : Nat} {T1 T3 : TypeId} {cs1 cs3 : Array Value} (O : Own Z w0 W L) (h : Own Z0 W w' [.blk g1 T1 cs1, .blk g3 T3 cs3]) : Own Z w0 w' (.blk g1 T1 cs1 :: .blk g3 T3 cs3 :: L) := by
 refine O.step (A := []) (A' := [.blk g1 T1 cs1, .blk g3 T3 cs3]) (Frame.of_below h.old) (fun _ _ hn => hn.elim) (fun e he => h.has e he) h.dist (fun e he k hk => ?_)
 rcases h.free e he k hk with h1 | h1
 ·exfalso
  rcases List.mem_cons.1 he with rfl | he
  ·exact absurd (h1.2 trivial) (by simp [Z0])
  ·rw [List.mem_singleton.1 he] at h1; exact absurd (h1.2 trivial) (by simp [Z0])
 ·exact .inr h1
theorem res2cx {P : Program} {fn : Func} {a g b : Nat} {u v : Value} {T0 : TypeId} (h : fn.results = #[.cell a T0, .tmp b]) (T : Array Value) (w : World) (h1 : T[a]? = some (.pointer (some ⟨g, 0, none⟩))) (hv : (loadVar T0 ⟨g, 0, none⟩).run P w = .ok v w) (h2 : T[b]? = some u) : (results fn T).run P w = .ok (.tuple #[v, u]) w := by
 simp [results, h, Array.getD_eq_getD_getElem?, h1, hv, asAddr, h2]
theorem lit_ne {l n : Int} (h : litOk l n = true) : l ≠ 0 := by
 intro e
 subst e
 unfold litOk at h
 simp [litVar] at h
theorem nodeC_lit {g : Gate} {o : List VS} {so : VS} {c : List Nat} (h : ¬ (g.kind = 0 ∨ g.kind = 4)) (hn : g.inp.length = 0) : nodeC g o so c = 1 := by
 unfold nodeC
 rw [if_neg h, List.eq_nil_of_length_eq_zero hn]
 rfl
theorem nsum_ {W : World} {V : Value} {B : List Gate} {N : Nat} (hG : GatesV W W.heap.size V B) (hw : WfN (N : Int) B) (hp : 0 < B.length) (hlen : B.length ≤ 65536) (hN6 : N ≤ 6) (hd : DD B) (hT : TabT W) {g1 g3 : Nat} (h1 : g1 < W.heap.size) (hc1 : W.cell? ⟨g1, 0, none⟩ = some (.int .i64 0)) (h3 : g3 < W.heap.size) (hc3 : W.cell? ⟨g3, 0, none⟩ = some (.func (.func 60) #[] #[.pointer (some ⟨g1, 0, none⟩)])) : Calls Tryz.prog 32 #[.agg #[.int .i64 (N : Int), V], .agg #[.func (.func 61) #[] #[], .func (.func 62) #[] #[], .func (.func 63) #[] #[], .func (.func 64) #[] #[], .func (.func 60) #[] #[.pointer (some ⟨g1, 0, none⟩)], .func (.func 65) #[] #[.pointer (some ⟨g3, 0, none⟩)]]] W fun e w' => e = .returned (.agg #[.string (natB (totN N B))]) ∧ Below W.heap.size W w' := by
 obtain ⟨b, o, c, rfl, hbW⟩ := zCt hG hp
 have hinL : inB B ((B.length - 1 : Nat) : Int) := ⟨by omega, by omega⟩
 have hsubL := own_all hw (show N ≤ 64 by omega) hinL
 have hsmL : Small ((VS.all (N : Int)).minus (own B ((B.length - 1 : Nat) : Int))) := (all_small hN6).minus
 have hallsz := all_sz (N := N) (by omega)
 have hszL : ((VS.all (N : Int)).minus (own B ((B.length - 1 : Nat) : Int))).sz ≤ 6 := Nat.le_trans (zGs hsubL) (by omega)
 have hckL := wide_small hw hd hN6 hinL hsubL (all_small hN6) (by omega) (Nat.le_refl _)
 have O0 := (Own.start W).oldro (D := TabE) (p := TabT) (zB7 hT)
 refine zAu (args := [.agg #[.int .i64 (N : Int), .slice (some ⟨b, o, none⟩) B.length c], .agg #[.func (.func 61) #[] #[], .func (.func 62) #[] #[], .func (.func 63) #[] #[], .func (.func 64) #[] #[], .func (.func 60) #[] #[VP g1], .func (.func 65) #[] #[VP g3]]]) Tryz.func32 rfl rfl (by simp) ?_
 refine zAc fun _ K1 => zAa ?_
 obtain ⟨g2, w3, r4, O5, hg6, hs7⟩ := zA5 O0 39 (.agg #[.int .i64 (N : Int), .slice (some ⟨b, o, none⟩) B.length c]) rfl
 refine zAe (v := VP g2) (fun ρ e => r4 ρ _ _ _ _ _ _ (e _ _ rfl)) rfl rfl ?_
 obtain ⟨g8, w9, r10, O11, hg12, hs13⟩ := zA5 O5 84 (.agg #[.func (.func 61) #[] #[], .func (.func 62) #[] #[], .func (.func 63) #[] #[], .func (.func 64) #[] #[], .func (.func 60) #[] #[VP g1], .func (.func 65) #[] #[VP g3]]) rfl
 refine zAe (v := VP g8) (fun ρ e => r10 ρ _ _ _ _ _ _ (e _ _ rfl)) rfl rfl ?_
 obtain ⟨g14, w15, r16, O17, hg18, hs19⟩ := zAw O11 43 ze43 rfl
 refine zAe (v := VP g14) (fun ρ e => r16 ρ _ _ _ _ _) rfl rfl <| nx K1 fun _ K20 => zAe (v := .agg #[.int .i64 (N : Int), .slice (some ⟨b, o, none⟩) B.length c]) (fun ρ e => zAk (vs := [.int .i64 (N : Int), .slice (some ⟨b, o, none⟩) B.length c]) ty39 (e _ _ rfl) rfl (O17.cells 2 0 rfl rfl)) rfl rfl ?_
 refine zAs (args := [.agg #[.int .i64 (N : Int), .slice (some ⟨b, o, none⟩) B.length c]]) in_56 rfl rfl rfl ?_
 refine (zJh (zBv hG O17.old) hw hp hlen (by omega) (by omega)).mono ?_
 rintro _ w22 ⟨g21, rfl, h23⟩
 have O24 := zBr O17 h23
 refine ⟨_, rfl, ?_⟩
 obtain ⟨g25, w26, r27, O28, hg29, hs30⟩ := zAw O24 58 ze58 rfl
 refine zAe (v := VP g25) (fun ρ e => r27 ρ _ _ _ _ _) rfl rfl ?_
 obtain ⟨w31, r32, O33, hs34⟩ := zAp (o := 0) (n := 1) O28 ty58 (VS0 g21 B.length B.length) _ (cs' := #[VS0 g21 B.length B.length]) rfl rfl rfl (Nat.le_of_ble_eq_true rfl) rfl
 refine zAv (fun ρ e => r32 ρ _ _ _ _ _ _ (e _ _ rfl) (e _ _ rfl)) rfl <| nx K20 fun _ K35 => wf (q := 1) zCw rfl rfl rfl rfl <| wd ty37 rfl (O33.cell 4 1 rfl rfl) rfl rfl <| wz el37 rfl rfl rfl ?_
 obtain ⟨g36, w37, r38, O39, hg40, hs41⟩ := own_makeU O33 ap116 rfl B.length (by decide) (by omega) (cs := (natCs (padC B 0)).toArray) (by rw [padC_zero, natCs_zero])
 refine zAe (v := VS0 g36 B.length B.length) (fun ρ e => r38 ρ _ _ _ _ _ _ _ (e _ _ rfl) (e _ _ rfl)) rfl rfl ?_
 obtain ⟨g42, w43, r44, O45, hg46, hs47⟩ := zAw O39 116 ze116 rfl
 refine zAe (v := VP g42) (fun ρ e => r44 ρ _ _ _ _ _) rfl rfl ?_
 obtain ⟨w48, r49, O50, hs51⟩ := zAp (o := 0) (n := 1) O45 ty116 (VS0 g36 B.length B.length) _ (cs' := #[VS0 g36 B.length B.length]) rfl rfl rfl (Nat.le_of_ble_eq_true rfl) rfl
 refine zAv (fun ρ e => r49 ρ _ _ _ _ _ _ (e _ _ rfl) (e _ _ rfl)) rfl <| nx K35 fun _ K52 => zAe (v := .func (.func 57) #[] #[VP g42, VP g25, VP g8]) (fun ρ e => zB2 (us := []) (vs := [VP g42, VP g25, VP g8]) (e.list rfl) (e.list rfl)) rfl rfl <| wa rfl rfl rfl <| zAd <| zAb K52 <| zAc fun _ K53 => zAc fun _ K54 => ?_
 refine zAa <| wf (q := 1) zCw rfl rfl rfl rfl <| wd ty37 rfl (O50.cell 6 1 rfl rfl) rfl rfl <| wz el37 rfl rfl rfl <| wm rfl rfl rfl <| zAd <| zAb K54 <| zAh ?_
 have O55 := (O50.re [1, 3, 7, 6, 5, 4, 2, 0] rfl)
 refine zA8 (ι := Nat) (fun q => [(2, VP g2), (3, VP g8), (4, VP g14), (5, VP g25), (6, VP g42), (7, .func (.func 57) #[] #[VP g42, VP g25, VP g8]), (22, .slice (some ⟨b, o, none⟩) B.length c), (23, .int .i64 ((B.length : Nat) : Int)), (24, .int .i64 (q : Int))]) (fun q X => (q ≤ B.length) ∧ Own Z0 W X [.blk g36 43 ((natCs (padC B q)).toArray), .blk g21 25 ((vcells (ownTo B B.length)).toArray), .ro TabE TabT, .blk g2 39 #[.int .i64 (N : Int), .slice (some ⟨b, o, none⟩) B.length c], .blk g8 84 #[.func (.func 61) #[] #[], .func (.func 62) #[] #[], .func (.func 63) #[] #[], .func (.func 64) #[] #[], .func (.func 60) #[] #[VP g1], .func (.func 65) #[] #[VP g3]], .blk g14 43 #[.string (⟨#[]⟩)], .blk g25 58 #[VS0 g21 B.length B.length], .blk g42 116 #[VS0 g36 B.length B.length]]) (fun q => B.length - q) 0 ⟨Nat.zero_le _, O55⟩ ⟨rfl, rfl, rfl, rfl, rfl, rfl, rfl, rfl, rfl, trivial⟩ (fun q w56 hJ F57 K58 => ?_)
 obtain ⟨i, rfl⟩ : ∃ x, x = q := ⟨_, rfl⟩
 obtain ⟨hi0, O59⟩ := hJ
 try dsimp only at hi0 O59 ⊢
 by_cases hi : i < B.length
 ·skip
  obtain ⟨g, hx⟩ : ∃ g, B[i]? = some g := ⟨B[i], List.getElem?_eq_getElem hi⟩
  obtain ⟨u, q0, q1, q2, hI⟩ := zHa hG hx
  have hok := hw i g hx
  have hil := hI.small
  obtain ⟨A2, c2, rfl⟩ := hI.slice
  obtain ⟨h01, h2, h34, hkk⟩ := zCv hok
  refine zAc fun _ K60 => zAa <| wc rfl rfl (lss1 (by omega)) rfl rfl <| zAd <| zAb K60 <| zAc fun _ K61 => zAl rfl <| zAj ?_
  refine zAb K61 <| zAc fun _ K62 => zAh <| zAc fun _ K63 => zAa <| wm rfl rfl rfl <| wi (q := o + i * 3) (i := i) el37 rfl rfl (by omega) (by omega) rfl rfl <| zAe (v := .agg #[.int .i64 g.kind, .int .i64 g.lit, .slice A2 g.inp.length c2]) (fun ρ e => zAk (vs := [.int .i64 g.kind, .int .i64 g.lit, .slice A2 g.inp.length c2]) ty73 (e _ _ rfl) rfl (cells3 ((O59.old.cell (p := ⟨b, o + i * 3, none⟩) hbW).trans q0) ((O59.old.cell (p := ⟨b, o + i * 3 + 1, none⟩) hbW).trans q1) ((O59.old.cell (p := ⟨b, o + i * 3 + 2, none⟩) hbW).trans q2))) rfl rfl ?_
  obtain ⟨g64, w65, r66, O67, hg68, hs69⟩ := zAw O59 73 ze73 rfl
  refine zAe (v := VP g64) (fun ρ e => r66 ρ _ _ _ _ _) rfl rfl <| wa rfl rfl rfl ?_
  obtain ⟨w70, r71, O72, hs73⟩ := zAp (o := 0) (n := 3) O67 ty73 (.agg #[.int .i64 g.kind, .int .i64 g.lit, .slice A2 g.inp.length c2]) _ (cs' := #[.int .i64 g.kind, .int .i64 g.lit, .slice A2 g.inp.length c2]) rfl rfl rfl (Nat.le_of_ble_eq_true rfl) rfl
  refine zAv (fun ρ e => r71 ρ _ _ _ _ _ _ (e _ _ rfl) (e _ _ rfl)) rfl <| nx K63 fun _ K74 => wf (q := 0) zBy rfl rfl rfl rfl <| wd ty3 rfl (O72.cell 0 0 rfl rfl) rfl rfl <| zAd <| zAb K74 <| zAh <| zAc fun _ K75 => ?_
  refine zAa ?_
  by_cases c76 : g.kind = 2
  ·skip
   have hl0 := lit_ne (h2 c76).1
   have hks : ¬ (g.kind = 0 ∨ g.kind = 4) := by omega
   have hn0 := (h2 c76).2
   refine wc rfl rfl (eql1 (by omega)) rfl rfl <| wa rfl rfl rfl <| zAd <| zAb K75 <| zAl rfl ?_
   refine zA1 (fun X => Own Z0 W X [.blk g64 73 #[.int .i64 g.kind, .int .i64 g.lit, .slice A2 g.inp.length c2], .blk g36 43 ((natCs (padC B i)).toArray), .blk g21 25 ((vcells (ownTo B B.length)).toArray), .ro TabE TabT, .blk g2 39 #[.int .i64 (N : Int), .slice (some ⟨b, o, none⟩) B.length c], .blk g8 84 #[.func (.func 61) #[] #[], .func (.func 62) #[] #[], .func (.func 63) #[] #[], .func (.func 64) #[] #[], .func (.func 60) #[] #[VP g1], .func (.func 65) #[] #[VP g3]], .blk g14 43 #[.string (⟨#[]⟩)], .blk g25 58 #[VS0 g21 B.length B.length], .blk g42 116 #[VS0 g36 B.length B.length]]) 8 [(0, 0), (1, 1), (2, 1), (3, 0), (4, 1), (5, 0), (6, 2), (7, 1), (8, 3)] (by kernel_rfl) (by kernel_rfl) (PQ.block (PQ.block (PQ.then_ (PQ.then_ (PQ.block (PQ.then_ PQ.body)))))) (O72).drew ?_
   have O77 := O72.drew
   refine wt0 (v := VS0 g36 B.length B.length) rfl (fun ρ e W hW => zAm ty116 (e _ _ rfl) (hW.cell 8 0 rfl rfl)) rfl rfl <| tm rfl rfl rfl rfl <| wt1 (v := .pointer (some ⟨g8, 4, none⟩)) rfl (fun ρ e W => zBd (q := 4) fi84_4 (e _ _ rfl) rfl) rfl rfl <| wt0 (v := .func (.func 60) #[] #[VP g1]) rfl (fun ρ e W hW => zAm ty82 (e _ _ rfl) (hW.cell 5 4 rfl rfl)) rfl rfl <| wt1 (v := .pointer (some ⟨g64, 1, none⟩)) rfl (fun ρ e W => zBd (q := 1) zCm (e _ _ rfl) rfl) rfl rfl <| wt0 (v := .int .i64 g.lit) rfl (fun ρ e W hW => zAm ty3 (e _ _ rfl) (hW.cell 0 1 rfl rfl)) rfl rfl ?_
   refine zBn (args := [.int .i64 g.lit]) (all := [.int .i64 g.lit, VP g1]) rfl in_60 rfl rfl rfl rfl rfl ?_
   refine (num60_ (W := w70.drew) (l := g.lit) hl0 (Nat.lt_of_lt_of_le h1 (O77.old).size) (O77.old.cell (p := ⟨g1, 0, none⟩) h1 |>.trans hc1)).mono ?_
   rintro _ w78 ⟨rfl, hb79⟩
   have O80 := O77.below hb79
   refine ⟨_, rfl, O80, ?_⟩
   refine wt1 (v := .pointer (some ⟨g36, i, none⟩)) rfl (fun ρ e W => zA9 (q := i) (i := i) el116 (e _ _ rfl) (e _ _ rfl) (by omega) (by omega)) rfl rfl ?_
   obtain ⟨w81, r82, O83, hs84⟩ := zAp (o := i) (n := 1) (O80.re [1, 0, 2, 3, 4, 5, 6, 7, 8] rfl) ty43 (.agg #[.string (natB 1)]) _ (cs' := (natCs (padC B (i + 1))).toArray) rfl rfl rfl (by simp [natCs, zCn B (Nat.le_of_lt hi)]; omega) ((zCg _ _ _).trans (by rw [zDc hx (nodeC_lit hks hn0)]))
   refine zBf rfl (fun ρ e => r82 ρ _ _ _ _ _ _ (e _ _ rfl) (e _ _ rfl)) rfl <| zBc <| zAn <| zAn <| zAb K62 <| zAa <| zAe (v := .int .i64 ((i + 1 : Nat) : Int)) (fun ρ e => zAi (k := .i64) (u := (i : Int)) (v := 1) (e _ _ rfl) (e _ _ rfl) (congrArg some ((congrArg _ (by omega)).trans (zAo (u := ((i + 1 : Nat) : Int)) (by omega) (by omega))))) rfl rfl <| wm rfl rfl rfl ?_
   refine zAd ?_
   refine zAt K58 (i + 1) (by show B.length - (i + 1) < B.length - i; omega) ⟨(by show i + 1 ≤ B.length; omega), (O83.re [0, 2, 3, 4, 5, 6, 7, 8] rfl)⟩ ⟨rfl, rfl, rfl, rfl, rfl, rfl, rfl, rfl, rfl, trivial⟩
  ·skip
   refine wc rfl rfl (eql0 (by omega)) rfl rfl <| wa rfl rfl rfl <| zAd <| zAb K75 <| zAf rfl <| zAc fun _ K85 => zAc fun _ K86 => zAa ?_
   by_cases c87 : g.kind = 1
   ·skip
    have hks : ¬ (g.kind = 0 ∨ g.kind = 4) := by omega
    refine wc rfl rfl (eql1 (by omega)) rfl rfl <| wa rfl rfl rfl <| zAd <| zAb K86 <| zAl rfl <| zAj <| zAb K85 <| zAl rfl ?_
    refine zAc fun _ K88 => ?_
    refine zA1 (fun X => Own Z0 W X [.blk g64 73 #[.int .i64 g.kind, .int .i64 g.lit, .slice A2 g.inp.length c2], .blk g36 43 ((natCs (padC B i)).toArray), .blk g21 25 ((vcells (ownTo B B.length)).toArray), .ro TabE TabT, .blk g2 39 #[.int .i64 (N : Int), .slice (some ⟨b, o, none⟩) B.length c], .blk g8 84 #[.func (.func 61) #[] #[], .func (.func 62) #[] #[], .func (.func 63) #[] #[], .func (.func 64) #[] #[], .func (.func 60) #[] #[VP g1], .func (.func 65) #[] #[VP g3]], .blk g14 43 #[.string (⟨#[]⟩)], .blk g25 58 #[VS0 g21 B.length B.length], .blk g42 116 #[VS0 g36 B.length B.length]]) 6 [(0, 0), (1, 1), (2, 1), (3, 0), (4, 2), (5, 1), (6, 3)] (by kernel_rfl) (by kernel_rfl) (PQ.then_ (PQ.block (PQ.block (PQ.then_ (PQ.then_ (PQ.block (PQ.then_ PQ.body))))))) (O72).drew ?_
    have O89 := O72.drew
    refine wt0 (v := VS0 g36 B.length B.length) rfl (fun ρ e W hW => zAm ty116 (e _ _ rfl) (hW.cell 8 0 rfl rfl)) rfl rfl <| tm rfl rfl rfl rfl <| wt1 (v := .pointer (some ⟨g8, 1, none⟩)) rfl (fun ρ e W => zBd (q := 1) fi84_1 (e _ _ rfl) rfl) rfl rfl <| wt0 (v := .func (.func 62) #[] #[]) rfl (fun ρ e W hW => zAm ty80 (e _ _ rfl) (hW.cell 5 1 rfl rfl)) rfl rfl ?_
    refine zBn (args := []) (all := []) rfl in_62 rfl rfl rfl rfl rfl ?_
    refine (num62_ (W := w70.drew)).mono ?_
    rintro _ w90 ⟨rfl, hb91⟩
    have O92 := O89.below hb91
    refine ⟨_, rfl, O92, ?_⟩
    refine wt1 (v := .pointer (some ⟨g36, i, none⟩)) rfl (fun ρ e W => zA9 (q := i) (i := i) el116 (e _ _ rfl) (e _ _ rfl) (by omega) (by omega)) rfl rfl ?_
    obtain ⟨w93, r94, O95, hs96⟩ := zAp (o := i) (n := 1) (O92.re [1, 0, 2, 3, 4, 5, 6, 7, 8] rfl) ty43 (.agg #[.string (natB 1)]) _ (cs' := (natCs ((padC B i).set i (prodC (cntTo B i) (g.inp.take 0)))).toArray) rfl rfl rfl (by simp [natCs, zCn B (Nat.le_of_lt hi)]; omega) (zCg _ _ (prodC (cntTo B i) (g.inp.take 0)))
    refine zBf rfl (fun ρ e => r94 ρ _ _ _ _ _ _ (e _ _ rfl) (e _ _ rfl)) rfl <| zBc <| zAb K88 <| zAc fun _ K97 => zAa <| wf (q := 2) zB0 rfl rfl rfl rfl <| wd ty57 rfl (O95.cell 1 2 rfl rfl) rfl rfl <| wz el57 rfl rfl rfl ?_
    refine wm rfl rfl rfl <| zAd <| zAb K97 <| zAh ?_
    have O98 := (O95.re [0, 2, 3, 4, 5, 6, 7, 8, 1] rfl)
    refine zA8 (ι := Nat) (fun q => [(2, VP g2), (3, VP g8), (4, VP g14), (5, VP g25), (6, VP g42), (7, .func (.func 57) #[] #[VP g42, VP g25, VP g8]), (8, .int .i64 (i : Int)), (9, VP g64), (22, .slice (some ⟨b, o, none⟩) B.length c), (23, .int .i64 ((B.length : Nat) : Int)), (24, .int .i64 (i : Int)), (82, .slice A2 g.inp.length c2), (83, .int .i64 ((g.inp.length : Nat) : Int)), (84, .int .i64 (q : Int))]) (fun q X => (q ≤ g.inp.length) ∧ Own Z0 W X [.blk g36 43 ((natCs ((padC B i).set i (prodC (cntTo B i) (g.inp.take q)))).toArray), .blk g21 25 ((vcells (ownTo B B.length)).toArray), .ro TabE TabT, .blk g2 39 #[.int .i64 (N : Int), .slice (some ⟨b, o, none⟩) B.length c], .blk g8 84 #[.func (.func 61) #[] #[], .func (.func 62) #[] #[], .func (.func 63) #[] #[], .func (.func 64) #[] #[], .func (.func 60) #[] #[VP g1], .func (.func 65) #[] #[VP g3]], .blk g14 43 #[.string (⟨#[]⟩)], .blk g25 58 #[VS0 g21 B.length B.length], .blk g42 116 #[VS0 g36 B.length B.length], .blk g64 73 #[.int .i64 g.kind, .int .i64 g.lit, .slice A2 g.inp.length c2]]) (fun q => g.inp.length - q) 0 ⟨Nat.zero_le _, O98⟩ ⟨rfl, rfl, rfl, rfl, rfl, rfl, rfl, rfl, rfl, rfl, rfl, rfl, rfl, rfl, trivial⟩ (fun q w99 hJ F100 K101 => ?_)
    obtain ⟨k, rfl⟩ : ∃ x, x = q := ⟨_, rfl⟩
    obtain ⟨hk0, O102⟩ := hJ
    try dsimp only at hk0 O102 ⊢
    by_cases hk : k < g.inp.length
    ·skip
     obtain ⟨xv, hk2⟩ : ∃ x, g.inp[k]? = some x := ⟨g.inp[k], List.getElem?_eq_getElem hk⟩
     obtain ⟨hv0, hv1⟩ := hok.1 xv (List.mem_of_getElem? hk2)
     obtain ⟨n, rfl⟩ : ∃ n : Nat, xv = (n : Int) := ⟨xv.toNat, by omega⟩
     obtain ⟨b2, o2, c3, hv⟩ := hI.form (by omega)
     injection hv with hA _ hc3'
     subst hA hc3'
     have hcc := zJq hw hd hN6 hx (List.mem_of_getElem? hk2)
     have hk3 : g.kind = 3 := by omega
     have hpk := zDb hw hd hN6 hx hk3 k
     have hpk2 := zDb hw hd hN6 hx hk3 (k + 1)
     have hpe := zEw (c := cntTo B i) hk2
     refine zAc fun _ K103 => zAa <| wc rfl rfl (lss1 (by omega)) rfl rfl <| zAd <| zAb K103 <| zAc fun _ K104 => zAl rfl <| zAj ?_
     refine zAb K104 <| zAc fun _ K105 => zAh <| zAc fun _ K106 => zAa <| wi (q := o2 + k) (i := k) el57 rfl rfl (by omega) (by omega) rfl rfl <| wd (v := .int .i64 (n : Int)) ty3 rfl ((zBs O102.old hI (fun k hk => hk)).at_ hk2) rfl rfl <| wa rfl rfl rfl ?_
     refine zAd <| zAb K106 ?_
     refine zA1 (fun X => Own Z0 W X [.blk g36 43 ((natCs ((padC B i).set i (prodC (cntTo B i) (g.inp.take k)))).toArray), .blk g21 25 ((vcells (ownTo B B.length)).toArray), .ro TabE TabT, .blk g2 39 #[.int .i64 (N : Int), .slice (some ⟨b, o, none⟩) B.length c], .blk g8 84 #[.func (.func 61) #[] #[], .func (.func 62) #[] #[], .func (.func 63) #[] #[], .func (.func 64) #[] #[], .func (.func 60) #[] #[VP g1], .func (.func 65) #[] #[VP g3]], .blk g14 43 #[.string (⟨#[]⟩)], .blk g25 58 #[VS0 g21 B.length B.length], .blk g42 116 #[VS0 g36 B.length B.length], .blk g64 73 #[.int .i64 g.kind, .int .i64 g.lit, .slice (some ⟨b2, o2, none⟩) g.inp.length c2]]) 14 [(0, 0), (1, 1), (2, 1), (3, 0), (4, 0), (5, 1), (6, 1), (7, 0), (8, 0), (9, 1), (10, 1), (11, 0), (12, 2), (13, 1), (14, 3)] (by kernel_rfl) (by kernel_rfl) (PQ.block (PQ.then_ (PQ.then_ (PQ.block (PQ.block (PQ.block (PQ.then_ (PQ.then_ (PQ.block (PQ.then_ PQ.body)))))))))) (O102).drew ?_
     have O107 := O102.drew
     refine wt0 (v := VS0 g36 B.length B.length) rfl (fun ρ e W hW => zAm ty116 (e _ _ rfl) (hW.cell 7 0 rfl rfl)) rfl rfl <| tm rfl rfl rfl rfl <| wt1 (v := .pointer (some ⟨g8, 3, none⟩)) rfl (fun ρ e W => zBd (q := 3) fi84_3 (e _ _ rfl) rfl) rfl rfl <| wt0 (v := .func (.func 64) #[] #[]) rfl (fun ρ e W hW => zAm ty81 (e _ _ rfl) (hW.cell 4 3 rfl rfl)) rfl rfl <| wt0 (v := VS0 g36 B.length B.length) rfl (fun ρ e W hW => zAm ty116 (e _ _ rfl) (hW.cell 7 0 rfl rfl)) rfl rfl <| tm rfl rfl rfl rfl <| wt1 (v := .pointer (some ⟨g36, i, none⟩)) rfl (fun ρ e W => zA9 (q := i) (i := i) el116 (e _ _ rfl) (e _ _ rfl) (by omega) (by omega)) rfl rfl ?_
     refine wt0 (v := .agg #[.string (natB (prodC (cntTo B i) (g.inp.take k)))]) rfl (fun ρ e W hW => zAk (vs := [.string (natB (prodC (cntTo B i) (g.inp.take k)))]) ty43 (e _ _ rfl) rfl (cells1 (((hW.blk 0 rfl).cell _).trans (zCh (zG6 hi))))) rfl rfl <| wt0 (v := VS0 g36 B.length B.length) rfl (fun ρ e W hW => zAm ty116 (e _ _ rfl) (hW.cell 7 0 rfl rfl)) rfl rfl <| tm rfl rfl rfl rfl <| wt1 (v := .pointer (some ⟨g36, n, none⟩)) rfl (fun ρ e W => zA9 (q := n) (i := n) el116 (e _ _ rfl) (e _ _ rfl) (by omega) (by omega)) rfl rfl <| wt0 (v := .agg #[.string (natB (cc (cntTo B i) (n : Int)))]) rfl (fun ρ e W hW => zAk (vs := [.string (natB (cc (cntTo B i) (n : Int)))]) ty43 (e _ _ rfl) rfl (cells1 (((hW.blk 0 rfl).cell _).trans (zCh (zH6 (by omega) hi))))) rfl rfl ?_
     refine zBn (args := [.agg #[.string (natB (prodC (cntTo B i) (g.inp.take k)))], .agg #[.string (natB (cc (cntTo B i) (n : Int)))]]) (all := [.agg #[.string (natB (prodC (cntTo B i) (g.inp.take k)))], .agg #[.string (natB (cc (cntTo B i) (n : Int)))]]) rfl zJo rfl rfl rfl rfl rfl ?_
     refine (mul_ (W := w99.drew) (a := (prodC (cntTo B i) (g.inp.take k))) (b := (cc (cntTo B i) (n : Int))) (by omega) (by omega) (by omega)).mono ?_
     rintro _ w108 ⟨rfl, hb109⟩
     have O110 := O107.below hb109
     refine ⟨_, rfl, O110, ?_⟩
     refine wt1 (v := .pointer (some ⟨g36, i, none⟩)) rfl (fun ρ e W => zA9 (q := i) (i := i) el116 (e _ _ rfl) (e _ _ rfl) (by omega) (by omega)) rfl rfl ?_
     obtain ⟨w111, r112, O113, hs114⟩ := zAp (o := i) (n := 1) O110 ty43 (.agg #[.string (natB ((prodC (cntTo B i) (g.inp.take k)) * (cc (cntTo B i) (n : Int))))]) _ (cs' := (natCs ((padC B i).set i (prodC (cntTo B i) (g.inp.take (k + 1))))).toArray) rfl rfl rfl (by simp [natCs, zCn B (Nat.le_of_lt hi)]; omega) ((zCg _ _ _).trans (by rw [List.set_set, hpe]))
     refine zBf rfl (fun ρ e => r112 ρ _ _ _ _ _ _ (e _ _ rfl) (e _ _ rfl)) rfl <| zBc <| zAn <| zAb K105 <| zAa <| zAe (v := .int .i64 ((k + 1 : Nat) : Int)) (fun ρ e => zAi (k := .i64) (u := (k : Int)) (v := 1) (e _ _ rfl) (e _ _ rfl) (congrArg some ((congrArg _ (by omega)).trans (zAo (u := ((k + 1 : Nat) : Int)) (by omega) (by omega))))) rfl rfl <| wm rfl rfl rfl <| zAd ?_
     refine zAt K101 (k + 1) (by show g.inp.length - (k + 1) < g.inp.length - k; omega) ⟨(by show k + 1 ≤ g.inp.length; omega), O113⟩ ⟨rfl, rfl, rfl, rfl, rfl, rfl, rfl, rfl, rfl, rfl, rfl, rfl, rfl, rfl, trivial⟩
    ·have hke : k = g.inp.length := by omega
     subst hke
     refine zAc fun _ K115 => zAa <| wc rfl rfl (lss0 (by omega)) rfl rfl <| zAd <| zAb K115 <| zAc fun _ K116 => zAf rfl <| zA6 ?_
     refine zAg (by intro h; cases h) ?_
     refine zAg (by intro h; cases h) ?_
     refine zA4 <| zAn <| zAn <| zAb K62 <| zAa <| zAe (v := .int .i64 ((i + 1 : Nat) : Int)) (fun ρ e => zAi (k := .i64) (u := (i : Int)) (v := 1) (e _ _ rfl) (e _ _ rfl) (congrArg some ((congrArg _ (by omega)).trans (zAo (u := ((i + 1 : Nat) : Int)) (by omega) (by omega))))) rfl rfl <| wm rfl rfl rfl <| zAd ?_
     have O117 : Own Z0 W w99 [.blk g36 43 ((natCs (padC B (i + 1))).toArray), .blk g21 25 ((vcells (ownTo B B.length)).toArray), .ro TabE TabT, .blk g2 39 #[.int .i64 (N : Int), .slice (some ⟨b, o, none⟩) B.length c], .blk g8 84 #[.func (.func 61) #[] #[], .func (.func 62) #[] #[], .func (.func 63) #[] #[], .func (.func 64) #[] #[], .func (.func 60) #[] #[VP g1], .func (.func 65) #[] #[VP g3]], .blk g14 43 #[.string (⟨#[]⟩)], .blk g25 58 #[VS0 g21 B.length B.length], .blk g42 116 #[VS0 g36 B.length B.length]] := by rw [← zDc hx (zF2 hks)]; exact (O102.re [0, 1, 2, 3, 4, 5, 6, 7] rfl)
     refine zAt K58 (i + 1) (by show B.length - (i + 1) < B.length - i; omega) ⟨(by show i + 1 ≤ B.length; omega), O117⟩ ⟨rfl, rfl, rfl, rfl, rfl, rfl, rfl, rfl, rfl, trivial⟩
   ·skip
    refine wc rfl rfl (eql0 (by omega)) rfl rfl <| wa rfl rfl rfl <| zAd <| zAb K86 <| zAf rfl <| zAa ?_
    by_cases c118 : g.kind = 3
    ·skip
     have hks : ¬ (g.kind = 0 ∨ g.kind = 4) := by omega
     refine wc rfl rfl (eql1 (by omega)) rfl rfl <| wa rfl rfl rfl <| zAd <| zAb K85 <| zAl rfl <| zAc fun _ K119 => ?_
     refine zA1 (fun X => Own Z0 W X [.blk g64 73 #[.int .i64 g.kind, .int .i64 g.lit, .slice A2 g.inp.length c2], .blk g36 43 ((natCs (padC B i)).toArray), .blk g21 25 ((vcells (ownTo B B.length)).toArray), .ro TabE TabT, .blk g2 39 #[.int .i64 (N : Int), .slice (some ⟨b, o, none⟩) B.length c], .blk g8 84 #[.func (.func 61) #[] #[], .func (.func 62) #[] #[], .func (.func 63) #[] #[], .func (.func 64) #[] #[], .func (.func 60) #[] #[VP g1], .func (.func 65) #[] #[VP g3]], .blk g14 43 #[.string (⟨#[]⟩)], .blk g25 58 #[VS0 g21 B.length B.length], .blk g42 116 #[VS0 g36 B.length B.length]]) 6 [(0, 0), (1, 1), (2, 1), (3, 0), (4, 2), (5, 1), (6, 3)] (by kernel_rfl) (by kernel_rfl) (PQ.then_ (PQ.block (PQ.block (PQ.then_ (PQ.then_ (PQ.block (PQ.then_ PQ.body))))))) (O72).drew ?_
     have O120 := O72.drew
     refine wt0 (v := VS0 g36 B.length B.length) rfl (fun ρ e W hW => zAm ty116 (e _ _ rfl) (hW.cell 8 0 rfl rfl)) rfl rfl <| tm rfl rfl rfl rfl <| wt1 (v := .pointer (some ⟨g8, 1, none⟩)) rfl (fun ρ e W => zBd (q := 1) fi84_1 (e _ _ rfl) rfl) rfl rfl <| wt0 (v := .func (.func 62) #[] #[]) rfl (fun ρ e W hW => zAm ty80 (e _ _ rfl) (hW.cell 5 1 rfl rfl)) rfl rfl ?_
     refine zBn (args := []) (all := []) rfl in_62 rfl rfl rfl rfl rfl ?_
     refine (num62_ (W := w70.drew)).mono ?_
     rintro _ w121 ⟨rfl, hb122⟩
     have O123 := O120.below hb122
     refine ⟨_, rfl, O123, ?_⟩
     refine wt1 (v := .pointer (some ⟨g36, i, none⟩)) rfl (fun ρ e W => zA9 (q := i) (i := i) el116 (e _ _ rfl) (e _ _ rfl) (by omega) (by omega)) rfl rfl ?_
     obtain ⟨w124, r125, O126, hs127⟩ := zAp (o := i) (n := 1) (O123.re [1, 0, 2, 3, 4, 5, 6, 7, 8] rfl) ty43 (.agg #[.string (natB 1)]) _ (cs' := (natCs ((padC B i).set i (prodC (cntTo B i) (g.inp.take 0)))).toArray) rfl rfl rfl (by simp [natCs, zCn B (Nat.le_of_lt hi)]; omega) (zCg _ _ (prodC (cntTo B i) (g.inp.take 0)))
     refine zBf rfl (fun ρ e => r125 ρ _ _ _ _ _ _ (e _ _ rfl) (e _ _ rfl)) rfl <| zBc <| zAb K119 <| zAc fun _ K128 => zAa <| wf (q := 2) zB0 rfl rfl rfl rfl <| wd ty57 rfl (O126.cell 1 2 rfl rfl) rfl rfl <| wz el57 rfl rfl rfl ?_
     refine wm rfl rfl rfl <| zAd <| zAb K128 <| zAh ?_
     have O129 := (O126.re [0, 2, 3, 4, 5, 6, 7, 8, 1] rfl)
     refine zA8 (ι := Nat) (fun q => [(2, VP g2), (3, VP g8), (4, VP g14), (5, VP g25), (6, VP g42), (7, .func (.func 57) #[] #[VP g42, VP g25, VP g8]), (8, .int .i64 (i : Int)), (9, VP g64), (22, .slice (some ⟨b, o, none⟩) B.length c), (23, .int .i64 ((B.length : Nat) : Int)), (24, .int .i64 (i : Int)), (82, .slice A2 g.inp.length c2), (83, .int .i64 ((g.inp.length : Nat) : Int)), (84, .int .i64 (q : Int))]) (fun q X => (q ≤ g.inp.length) ∧ Own Z0 W X [.blk g36 43 ((natCs ((padC B i).set i (prodC (cntTo B i) (g.inp.take q)))).toArray), .blk g21 25 ((vcells (ownTo B B.length)).toArray), .ro TabE TabT, .blk g2 39 #[.int .i64 (N : Int), .slice (some ⟨b, o, none⟩) B.length c], .blk g8 84 #[.func (.func 61) #[] #[], .func (.func 62) #[] #[], .func (.func 63) #[] #[], .func (.func 64) #[] #[], .func (.func 60) #[] #[VP g1], .func (.func 65) #[] #[VP g3]], .blk g14 43 #[.string (⟨#[]⟩)], .blk g25 58 #[VS0 g21 B.length B.length], .blk g42 116 #[VS0 g36 B.length B.length], .blk g64 73 #[.int .i64 g.kind, .int .i64 g.lit, .slice A2 g.inp.length c2]]) (fun q => g.inp.length - q) 0 ⟨Nat.zero_le _, O129⟩ ⟨rfl, rfl, rfl, rfl, rfl, rfl, rfl, rfl, rfl, rfl, rfl, rfl, rfl, rfl, trivial⟩ (fun q w130 hJ F131 K132 => ?_)
     obtain ⟨k, rfl⟩ : ∃ x, x = q := ⟨_, rfl⟩
     obtain ⟨hk0, O133⟩ := hJ
     try dsimp only at hk0 O133 ⊢
     by_cases hk : k < g.inp.length
     ·skip
      obtain ⟨xv, hk2⟩ : ∃ x, g.inp[k]? = some x := ⟨g.inp[k], List.getElem?_eq_getElem hk⟩
      obtain ⟨hv0, hv1⟩ := hok.1 xv (List.mem_of_getElem? hk2)
      obtain ⟨n, rfl⟩ : ∃ n : Nat, xv = (n : Int) := ⟨xv.toNat, by omega⟩
      obtain ⟨b2, o2, c3, hv⟩ := hI.form (by omega)
      injection hv with hA _ hc3'
      subst hA hc3'
      have hcc := zJq hw hd hN6 hx (List.mem_of_getElem? hk2)
      have hk3 : g.kind = 3 := by omega
      have hpk := zDb hw hd hN6 hx hk3 k
      have hpk2 := zDb hw hd hN6 hx hk3 (k + 1)
      have hpe := zEw (c := cntTo B i) hk2
      refine zAc fun _ K134 => zAa <| wc rfl rfl (lss1 (by omega)) rfl rfl <| zAd <| zAb K134 <| zAc fun _ K135 => zAl rfl <| zAj ?_
      refine zAb K135 <| zAc fun _ K136 => zAh <| zAc fun _ K137 => zAa <| wi (q := o2 + k) (i := k) el57 rfl rfl (by omega) (by omega) rfl rfl <| wd (v := .int .i64 (n : Int)) ty3 rfl ((zBs O133.old hI (fun k hk => hk)).at_ hk2) rfl rfl <| wa rfl rfl rfl ?_
      refine zAd <| zAb K137 ?_
      refine zA1 (fun X => Own Z0 W X [.blk g36 43 ((natCs ((padC B i).set i (prodC (cntTo B i) (g.inp.take k)))).toArray), .blk g21 25 ((vcells (ownTo B B.length)).toArray), .ro TabE TabT, .blk g2 39 #[.int .i64 (N : Int), .slice (some ⟨b, o, none⟩) B.length c], .blk g8 84 #[.func (.func 61) #[] #[], .func (.func 62) #[] #[], .func (.func 63) #[] #[], .func (.func 64) #[] #[], .func (.func 60) #[] #[VP g1], .func (.func 65) #[] #[VP g3]], .blk g14 43 #[.string (⟨#[]⟩)], .blk g25 58 #[VS0 g21 B.length B.length], .blk g42 116 #[VS0 g36 B.length B.length], .blk g64 73 #[.int .i64 g.kind, .int .i64 g.lit, .slice (some ⟨b2, o2, none⟩) g.inp.length c2]]) 14 [(0, 0), (1, 1), (2, 1), (3, 0), (4, 0), (5, 1), (6, 1), (7, 0), (8, 0), (9, 1), (10, 1), (11, 0), (12, 2), (13, 1), (14, 3)] (by kernel_rfl) (by kernel_rfl) (PQ.block (PQ.then_ (PQ.then_ (PQ.block (PQ.block (PQ.block (PQ.then_ (PQ.then_ (PQ.block (PQ.then_ PQ.body)))))))))) (O133).drew ?_
      have O138 := O133.drew
      refine wt0 (v := VS0 g36 B.length B.length) rfl (fun ρ e W hW => zAm ty116 (e _ _ rfl) (hW.cell 7 0 rfl rfl)) rfl rfl <| tm rfl rfl rfl rfl <| wt1 (v := .pointer (some ⟨g8, 3, none⟩)) rfl (fun ρ e W => zBd (q := 3) fi84_3 (e _ _ rfl) rfl) rfl rfl <| wt0 (v := .func (.func 64) #[] #[]) rfl (fun ρ e W hW => zAm ty81 (e _ _ rfl) (hW.cell 4 3 rfl rfl)) rfl rfl <| wt0 (v := VS0 g36 B.length B.length) rfl (fun ρ e W hW => zAm ty116 (e _ _ rfl) (hW.cell 7 0 rfl rfl)) rfl rfl <| tm rfl rfl rfl rfl <| wt1 (v := .pointer (some ⟨g36, i, none⟩)) rfl (fun ρ e W => zA9 (q := i) (i := i) el116 (e _ _ rfl) (e _ _ rfl) (by omega) (by omega)) rfl rfl ?_
      refine wt0 (v := .agg #[.string (natB (prodC (cntTo B i) (g.inp.take k)))]) rfl (fun ρ e W hW => zAk (vs := [.string (natB (prodC (cntTo B i) (g.inp.take k)))]) ty43 (e _ _ rfl) rfl (cells1 (((hW.blk 0 rfl).cell _).trans (zCh (zG6 hi))))) rfl rfl <| wt0 (v := VS0 g36 B.length B.length) rfl (fun ρ e W hW => zAm ty116 (e _ _ rfl) (hW.cell 7 0 rfl rfl)) rfl rfl <| tm rfl rfl rfl rfl <| wt1 (v := .pointer (some ⟨g36, n, none⟩)) rfl (fun ρ e W => zA9 (q := n) (i := n) el116 (e _ _ rfl) (e _ _ rfl) (by omega) (by omega)) rfl rfl <| wt0 (v := .agg #[.string (natB (cc (cntTo B i) (n : Int)))]) rfl (fun ρ e W hW => zAk (vs := [.string (natB (cc (cntTo B i) (n : Int)))]) ty43 (e _ _ rfl) rfl (cells1 (((hW.blk 0 rfl).cell _).trans (zCh (zH6 (by omega) hi))))) rfl rfl ?_
      refine zBn (args := [.agg #[.string (natB (prodC (cntTo B i) (g.inp.take k)))], .agg #[.string (natB (cc (cntTo B i) (n : Int)))]]) (all := [.agg #[.string (natB (prodC (cntTo B i) (g.inp.take k)))], .agg #[.string (natB (cc (cntTo B i) (n : Int)))]]) rfl zJo rfl rfl rfl rfl rfl ?_
      refine (mul_ (W := w130.drew) (a := (prodC (cntTo B i) (g.inp.take k))) (b := (cc (cntTo B i) (n : Int))) (by omega) (by omega) (by omega)).mono ?_
      rintro _ w139 ⟨rfl, hb140⟩
      have O141 := O138.below hb140
      refine ⟨_, rfl, O141, ?_⟩
      refine wt1 (v := .pointer (some ⟨g36, i, none⟩)) rfl (fun ρ e W => zA9 (q := i) (i := i) el116 (e _ _ rfl) (e _ _ rfl) (by omega) (by omega)) rfl rfl ?_
      obtain ⟨w142, r143, O144, hs145⟩ := zAp (o := i) (n := 1) O141 ty43 (.agg #[.string (natB ((prodC (cntTo B i) (g.inp.take k)) * (cc (cntTo B i) (n : Int))))]) _ (cs' := (natCs ((padC B i).set i (prodC (cntTo B i) (g.inp.take (k + 1))))).toArray) rfl rfl rfl (by simp [natCs, zCn B (Nat.le_of_lt hi)]; omega) ((zCg _ _ _).trans (by rw [List.set_set, hpe]))
      refine zBf rfl (fun ρ e => r143 ρ _ _ _ _ _ _ (e _ _ rfl) (e _ _ rfl)) rfl <| zBc <| zAn <| zAb K136 <| zAa <| zAe (v := .int .i64 ((k + 1 : Nat) : Int)) (fun ρ e => zAi (k := .i64) (u := (k : Int)) (v := 1) (e _ _ rfl) (e _ _ rfl) (congrArg some ((congrArg _ (by omega)).trans (zAo (u := ((k + 1 : Nat) : Int)) (by omega) (by omega))))) rfl rfl <| wm rfl rfl rfl <| zAd ?_
      refine zAt K132 (k + 1) (by show g.inp.length - (k + 1) < g.inp.length - k; omega) ⟨(by show k + 1 ≤ g.inp.length; omega), O144⟩ ⟨rfl, rfl, rfl, rfl, rfl, rfl, rfl, rfl, rfl, rfl, rfl, rfl, rfl, rfl, trivial⟩
     ·have hke : k = g.inp.length := by omega
      subst hke
      refine zAc fun _ K146 => zAa <| wc rfl rfl (lss0 (by omega)) rfl rfl <| zAd <| zAb K146 <| zAc fun _ K147 => zAf rfl <| zA6 ?_
      refine zAg (by intro h; cases h) ?_
      refine zAg (by intro h; cases h) ?_
      refine zA4 <| zAn <| zAn <| zAb K62 <| zAa <| zAe (v := .int .i64 ((i + 1 : Nat) : Int)) (fun ρ e => zAi (k := .i64) (u := (i : Int)) (v := 1) (e _ _ rfl) (e _ _ rfl) (congrArg some ((congrArg _ (by omega)).trans (zAo (u := ((i + 1 : Nat) : Int)) (by omega) (by omega))))) rfl rfl <| wm rfl rfl rfl <| zAd ?_
      have O148 : Own Z0 W w130 [.blk g36 43 ((natCs (padC B (i + 1))).toArray), .blk g21 25 ((vcells (ownTo B B.length)).toArray), .ro TabE TabT, .blk g2 39 #[.int .i64 (N : Int), .slice (some ⟨b, o, none⟩) B.length c], .blk g8 84 #[.func (.func 61) #[] #[], .func (.func 62) #[] #[], .func (.func 63) #[] #[], .func (.func 64) #[] #[], .func (.func 60) #[] #[VP g1], .func (.func 65) #[] #[VP g3]], .blk g14 43 #[.string (⟨#[]⟩)], .blk g25 58 #[VS0 g21 B.length B.length], .blk g42 116 #[VS0 g36 B.length B.length]] := by rw [← zDc hx (zF2 hks)]; exact (O133.re [0, 1, 2, 3, 4, 5, 6, 7] rfl)
      refine zAt K58 (i + 1) (by show B.length - (i + 1) < B.length - i; omega) ⟨(by show i + 1 ≤ B.length; omega), O148⟩ ⟨rfl, rfl, rfl, rfl, rfl, rfl, rfl, rfl, rfl, trivial⟩
    ·skip
     have hks : g.kind = 0 ∨ g.kind = 4 := by omega
     refine wc rfl rfl (eql0 (by omega)) rfl rfl <| wa rfl rfl rfl <| zAd <| zAb K85 <| zAf rfl <| zAc fun _ K149 => ?_
     refine zA1 (fun X => Own Z0 W X [.blk g64 73 #[.int .i64 g.kind, .int .i64 g.lit, .slice A2 g.inp.length c2], .blk g36 43 ((natCs (padC B i)).toArray), .blk g21 25 ((vcells (ownTo B B.length)).toArray), .ro TabE TabT, .blk g2 39 #[.int .i64 (N : Int), .slice (some ⟨b, o, none⟩) B.length c], .blk g8 84 #[.func (.func 61) #[] #[], .func (.func 62) #[] #[], .func (.func 63) #[] #[], .func (.func 64) #[] #[], .func (.func 60) #[] #[VP g1], .func (.func 65) #[] #[VP g3]], .blk g14 43 #[.string (⟨#[]⟩)], .blk g25 58 #[VS0 g21 B.length B.length], .blk g42 116 #[VS0 g36 B.length B.length]]) 6 [(0, 0), (1, 1), (2, 1), (3, 0), (4, 2), (5, 1), (6, 3)] (by kernel_rfl) (by kernel_rfl) (PQ.then_ (PQ.block (PQ.block (PQ.then_ (PQ.then_ (PQ.block (PQ.then_ PQ.body))))))) (O72).drew ?_
     have O150 := O72.drew
     refine wt0 (v := VS0 g36 B.length B.length) rfl (fun ρ e W hW => zAm ty116 (e _ _ rfl) (hW.cell 8 0 rfl rfl)) rfl rfl <| tm rfl rfl rfl rfl <| wt1 (v := VP g8) rfl (fun ρ e W => zBd (q := 0) fi84_0 (e _ _ rfl) rfl) rfl rfl <| wt0 (v := .func (.func 61) #[] #[]) rfl (fun ρ e W hW => zAm ty80 (e _ _ rfl) (hW.cell 5 0 rfl rfl)) rfl rfl ?_
     refine zBn (args := []) (all := []) rfl in_61 rfl rfl rfl rfl rfl ?_
     refine (num61_ (W := w70.drew)).mono ?_
     rintro _ w151 ⟨rfl, hb152⟩
     have O153 := O150.below hb152
     refine ⟨_, rfl, O153, ?_⟩
     refine wt1 (v := .pointer (some ⟨g36, i, none⟩)) rfl (fun ρ e W => zA9 (q := i) (i := i) el116 (e _ _ rfl) (e _ _ rfl) (by omega) (by omega)) rfl rfl ?_
     obtain ⟨w154, r155, O156, hs157⟩ := zAp (o := i) (n := 1) (O153.re [1, 0, 2, 3, 4, 5, 6, 7, 8] rfl) ty43 (.agg #[.string (natB 0)]) _ (cs' := (natCs ((padC B i).set i (sumC (ownTo B B.length) (own B (i : Int)) (cntTo B i) (g.inp.take 0)))).toArray) rfl rfl rfl (by simp [natCs, zCn B (Nat.le_of_lt hi)]; omega) (zCg _ _ (sumC (ownTo B B.length) (own B (i : Int)) (cntTo B i) (g.inp.take 0)))
     refine zBf rfl (fun ρ e => r155 ρ _ _ _ _ _ _ (e _ _ rfl) (e _ _ rfl)) rfl <| zBc <| zAb K149 <| zAc fun _ K158 => zAa <| wf (q := 2) zB0 rfl rfl rfl rfl <| wd ty57 rfl (O156.cell 1 2 rfl rfl) rfl rfl <| wz el57 rfl rfl rfl ?_
     refine wm rfl rfl rfl <| zAd <| zAb K158 <| zAh ?_
     have O159 := (O156.re [0, 2, 3, 4, 5, 6, 7, 8, 1] rfl)
     refine zA8 (ι := Nat) (fun q => [(2, VP g2), (3, VP g8), (4, VP g14), (5, VP g25), (6, VP g42), (7, .func (.func 57) #[] #[VP g42, VP g25, VP g8]), (8, .int .i64 (i : Int)), (9, VP g64), (22, .slice (some ⟨b, o, none⟩) B.length c), (23, .int .i64 ((B.length : Nat) : Int)), (24, .int .i64 (i : Int)), (38, .slice A2 g.inp.length c2), (39, .int .i64 ((g.inp.length : Nat) : Int)), (40, .int .i64 (q : Int))]) (fun q X => (q ≤ g.inp.length) ∧ Own Z0 W X [.blk g36 43 ((natCs ((padC B i).set i (sumC (ownTo B B.length) (own B (i : Int)) (cntTo B i) (g.inp.take q)))).toArray), .blk g21 25 ((vcells (ownTo B B.length)).toArray), .ro TabE TabT, .blk g2 39 #[.int .i64 (N : Int), .slice (some ⟨b, o, none⟩) B.length c], .blk g8 84 #[.func (.func 61) #[] #[], .func (.func 62) #[] #[], .func (.func 63) #[] #[], .func (.func 64) #[] #[], .func (.func 60) #[] #[VP g1], .func (.func 65) #[] #[VP g3]], .blk g14 43 #[.string (⟨#[]⟩)], .blk g25 58 #[VS0 g21 B.length B.length], .blk g42 116 #[VS0 g36 B.length B.length], .blk g64 73 #[.int .i64 g.kind, .int .i64 g.lit, .slice A2 g.inp.length c2]]) (fun q => g.inp.length - q) 0 ⟨Nat.zero_le _, O159⟩ ⟨rfl, rfl, rfl, rfl, rfl, rfl, rfl, rfl, rfl, rfl, rfl, rfl, rfl, rfl, trivial⟩ (fun q w160 hJ F161 K162 => ?_)
     obtain ⟨k, rfl⟩ : ∃ x, x = q := ⟨_, rfl⟩
     obtain ⟨hk0, O163⟩ := hJ
     try dsimp only at hk0 O163 ⊢
     by_cases hk : k < g.inp.length
     ·skip
      obtain ⟨xv, hk2⟩ : ∃ x, g.inp[k]? = some x := ⟨g.inp[k], List.getElem?_eq_getElem hk⟩
      obtain ⟨hv0, hv1⟩ := hok.1 xv (List.mem_of_getElem? hk2)
      obtain ⟨n, rfl⟩ : ∃ n : Nat, xv = (n : Int) := ⟨xv.toNat, by omega⟩
      obtain ⟨b2, o2, c3, hv⟩ := hI.form (by omega)
      injection hv with hA _ hc3'
      subst hA hc3'
      have hcc := zJq hw hd hN6 hx (List.mem_of_getElem? hk2)
      have hk4 : g.kind = 4 := by omega
      have hpk := zDs hw hd hN6 hx hk4 k
      have hpk2 := zDs hw hd hN6 hx hk4 (k + 1)
      have hpe := zG0 (o := ownTo B B.length) (so := (own B (i : Int))) (c := cntTo B i) hk2
      obtain ⟨hin, hsub⟩ := zI3 hw hx (List.mem_of_getElem? hk2)
      have hsm : Small ((own B (i : Int)).minus (sv (ownTo B B.length) (n : Int))) := (zG7 hw hN6 (zEh hx)).minus
      have hsz : ((own B (i : Int)).minus (sv (ownTo B B.length) (n : Int))).sz ≤ 6 := Nat.le_trans (zGs hsub) (Nat.le_trans (zHt hw (zEh hx)) hN6)
      have hckw : (cc (cntTo B i) (n : Int)) * 2 ^ ((own B (i : Int)).minus (sv (ownTo B B.length) (n : Int))).sz ≤ 64 := by omega
      refine zAc fun _ K164 => zAa <| wc rfl rfl (lss1 (by omega)) rfl rfl <| zAd <| zAb K164 <| zAc fun _ K165 => zAl rfl <| zAj ?_
      refine zAb K165 <| zAc fun _ K166 => zAh <| zAc fun _ K167 => zAa <| wi (q := o2 + k) (i := k) el57 rfl rfl (by omega) (by omega) rfl rfl <| wd (v := .int .i64 (n : Int)) ty3 rfl ((zBs O163.old hI (fun k hk => hk)).at_ hk2) rfl rfl <| wa rfl rfl rfl ?_
      refine zAd <| zAb K167 ?_
      refine zA1 (fun X => Own Z0 W X [.blk g36 43 ((natCs ((padC B i).set i (sumC (ownTo B B.length) (own B (i : Int)) (cntTo B i) (g.inp.take k)))).toArray), .blk g21 25 ((vcells (ownTo B B.length)).toArray), .ro TabE TabT, .blk g2 39 #[.int .i64 (N : Int), .slice (some ⟨b, o, none⟩) B.length c], .blk g8 84 #[.func (.func 61) #[] #[], .func (.func 62) #[] #[], .func (.func 63) #[] #[], .func (.func 64) #[] #[], .func (.func 60) #[] #[VP g1], .func (.func 65) #[] #[VP g3]], .blk g14 43 #[.string (⟨#[]⟩)], .blk g25 58 #[VS0 g21 B.length B.length], .blk g42 116 #[VS0 g36 B.length B.length], .blk g64 73 #[.int .i64 g.kind, .int .i64 g.lit, .slice (some ⟨b2, o2, none⟩) g.inp.length c2]]) 17 [(0, 0), (1, 1), (2, 1), (3, 0), (4, 0), (5, 1), (6, 1), (7, 0), (8, 1), (9, 1), (10, 0), (11, 1), (12, 1), (13, 0), (14, 2), (15, 2), (16, 1), (17, 3)] (by kernel_rfl) (by kernel_rfl) (PQ.block (PQ.then_ (PQ.then_ (PQ.block (PQ.block (PQ.block (PQ.then_ (PQ.then_ (PQ.block (PQ.then_ PQ.body)))))))))) (O163).drew ?_
      have O168 := O163.drew
      refine wt0 (v := VS0 g36 B.length B.length) rfl (fun ρ e W hW => zAm ty116 (e _ _ rfl) (hW.cell 7 0 rfl rfl)) rfl rfl <| tm rfl rfl rfl rfl <| wt1 (v := .pointer (some ⟨g8, 2, none⟩)) rfl (fun ρ e W => zBd (q := 2) fi84_2 (e _ _ rfl) rfl) rfl rfl <| wt0 (v := .func (.func 63) #[] #[]) rfl (fun ρ e W hW => zAm ty81 (e _ _ rfl) (hW.cell 4 2 rfl rfl)) rfl rfl <| wt0 (v := VS0 g36 B.length B.length) rfl (fun ρ e W hW => zAm ty116 (e _ _ rfl) (hW.cell 7 0 rfl rfl)) rfl rfl <| tm rfl rfl rfl rfl <| wt1 (v := .pointer (some ⟨g36, i, none⟩)) rfl (fun ρ e W => zA9 (q := i) (i := i) el116 (e _ _ rfl) (e _ _ rfl) (by omega) (by omega)) rfl rfl ?_
      refine wt0 (v := .agg #[.string (natB (sumC (ownTo B B.length) (own B (i : Int)) (cntTo B i) (g.inp.take k)))]) rfl (fun ρ e W hW => zAk (vs := [.string (natB (sumC (ownTo B B.length) (own B (i : Int)) (cntTo B i) (g.inp.take k)))]) ty43 (e _ _ rfl) rfl (cells1 (((hW.blk 0 rfl).cell _).trans (zCh (zG6 hi))))) rfl rfl <| tm rfl rfl rfl rfl <| tm rfl rfl rfl rfl <| wt0 (v := VS0 g21 B.length B.length) rfl (fun ρ e W hW => zAm ty58 (e _ _ rfl) (hW.cell 6 0 rfl rfl)) rfl rfl <| tm rfl rfl rfl rfl <| wt1 (v := .pointer (some ⟨g21, i * 2, none⟩)) rfl (fun ρ e W => zA9 (q := i * 2) (i := i) el58 (e _ _ rfl) (e _ _ rfl) (by omega) (by omega)) rfl rfl ?_
      refine wt0 (v := .agg #[.int .u64 ((own B (i : Int)).a.toNat : Int), .int .u64 ((own B (i : Int)).b.toNat : Int)]) rfl (fun ρ e W hW => zAk (vs := [.int .u64 ((own B (i : Int)).a.toNat : Int), .int .u64 ((own B (i : Int)).b.toNat : Int)]) ty25 (e _ _ rfl) rfl (cells2 (((hW.blk 1 rfl).cell _).trans (getV0 (zB4 (by omega)))) (((hW.blk 1 rfl).cell _).trans (getV1 (zB4 (by omega)))))) rfl rfl ?_
      refine zBn (args := [.int .i64 (n : Int), .agg #[.int .u64 ((own B (i : Int)).a.toNat : Int), .int .u64 ((own B (i : Int)).b.toNat : Int)]]) (all := [.int .i64 (n : Int), .agg #[.int .u64 ((own B (i : Int)).a.toNat : Int), .int .u64 ((own B (i : Int)).b.toNat : Int)], VP g42, VP g25, VP g8]) rfl in_57 rfl rfl rfl rfl rfl ?_
      refine (wide_ (W := w160.drew) (ck := (cc (cntTo B i) (n : Int))) (SA := (own B (i : Int))) (SB := (sv (ownTo B B.length) (n : Int))) (k := n) (n := B.length) (O168.ro 2 rfl) (by omega) (O168.blk 7 rfl).lt (O168.blk 6 rfl).lt (O168.blk 4 rfl).lt (O168.blk 0 rfl).lt (O168.blk 1 rfl).lt (O168.cell 7 0 rfl rfl) (O168.cell 6 0 rfl rfl) (((O168.blk 0 rfl).cell _).trans (zCh (zH6 (by omega) hi))) (((O168.blk 1 rfl).cell _).trans (getV0 (zB4 (by omega)))) (((O168.blk 1 rfl).cell _).trans (getV1 (zB4 (by omega)))) (O168.cell 4 3 rfl rfl) (O168.cell 4 5 rfl rfl) (Nat.lt_of_lt_of_le h1 (O168.old).size) (O168.old.cell (p := ⟨g1, 0, none⟩) h1 |>.trans hc1) (Nat.lt_of_lt_of_le h3 (O168.old).size) (O168.old.cell (p := ⟨g3, 0, none⟩) h3 |>.trans hc3) hsm hsz hckw).mono ?_
      rintro _ w169 ⟨rfl, hb170⟩
      have O171 := O168.below hb170
      refine ⟨_, rfl, O171, ?_⟩
      refine zBn (args := [.agg #[.string (natB (sumC (ownTo B B.length) (own B (i : Int)) (cntTo B i) (g.inp.take k)))], .agg #[.string (natB ((cc (cntTo B i) (n : Int)) * 2 ^ ((own B (i : Int)).minus (sv (ownTo B B.length) (n : Int))).sz))]]) (all := [.agg #[.string (natB (sumC (ownTo B B.length) (own B (i : Int)) (cntTo B i) (g.inp.take k)))], .agg #[.string (natB ((cc (cntTo B i) (n : Int)) * 2 ^ ((own B (i : Int)).minus (sv (ownTo B B.length) (n : Int))).sz))]]) rfl in_63 rfl rfl rfl rfl rfl ?_
      refine (add_ (W := w169) (a := (sumC (ownTo B B.length) (own B (i : Int)) (cntTo B i) (g.inp.take k))) (b := (cc (cntTo B i) (n : Int)) * 2 ^ ((own B (i : Int)).minus (sv (ownTo B B.length) (n : Int))).sz) (by omega)).mono ?_
      rintro _ w172 ⟨rfl, hb173⟩
      have O174 := O171.below hb173
      refine ⟨_, rfl, O174, ?_⟩
      refine wt1 (v := .pointer (some ⟨g36, i, none⟩)) rfl (fun ρ e W => zA9 (q := i) (i := i) el116 (e _ _ rfl) (e _ _ rfl) (by omega) (by omega)) rfl rfl ?_
      obtain ⟨w175, r176, O177, hs178⟩ := zAp (o := i) (n := 1) O174 ty43 (.agg #[.string (natB ((sumC (ownTo B B.length) (own B (i : Int)) (cntTo B i) (g.inp.take k)) + (cc (cntTo B i) (n : Int)) * 2 ^ ((own B (i : Int)).minus (sv (ownTo B B.length) (n : Int))).sz))]) _ (cs' := (natCs ((padC B i).set i (sumC (ownTo B B.length) (own B (i : Int)) (cntTo B i) (g.inp.take (k + 1))))).toArray) rfl rfl rfl (by simp [natCs, zCn B (Nat.le_of_lt hi)]; omega) ((zCg _ _ _).trans (by rw [List.set_set, hpe]))
      refine zBf rfl (fun ρ e => r176 ρ _ _ _ _ _ _ (e _ _ rfl) (e _ _ rfl)) rfl <| zBc <| zAn <| zAb K166 <| zAa <| zAe (v := .int .i64 ((k + 1 : Nat) : Int)) (fun ρ e => zAi (k := .i64) (u := (k : Int)) (v := 1) (e _ _ rfl) (e _ _ rfl) (congrArg some ((congrArg _ (by omega)).trans (zAo (u := ((k + 1 : Nat) : Int)) (by omega) (by omega))))) rfl rfl <| wm rfl rfl rfl <| zAd ?_
      refine zAt K162 (k + 1) (by show g.inp.length - (k + 1) < g.inp.length - k; omega) ⟨(by show k + 1 ≤ g.inp.length; omega), O177⟩ ⟨rfl, rfl, rfl, rfl, rfl, rfl, rfl, rfl, rfl, rfl, rfl, rfl, rfl, rfl, trivial⟩
     ·have hke : k = g.inp.length := by omega
      subst hke
      refine zAc fun _ K179 => zAa <| wc rfl rfl (lss0 (by omega)) rfl rfl <| zAd <| zAb K179 <| zAc fun _ K180 => zAf rfl <| zA6 ?_
      refine zAg (by intro h; cases h) ?_
      refine zAg (by intro h; cases h) ?_
      refine zA4 <| zAn <| zAn <| zAb K62 <| zAa <| zAe (v := .int .i64 ((i + 1 : Nat) : Int)) (fun ρ e => zAi (k := .i64) (u := (i : Int)) (v := 1) (e _ _ rfl) (e _ _ rfl) (congrArg some ((congrArg _ (by omega)).trans (zAo (u := ((i + 1 : Nat) : Int)) (by omega) (by omega))))) rfl rfl <| wm rfl rfl rfl <| zAd ?_
      have O181 : Own Z0 W w160 [.blk g36 43 ((natCs (padC B (i + 1))).toArray), .blk g21 25 ((vcells (ownTo B B.length)).toArray), .ro TabE TabT, .blk g2 39 #[.int .i64 (N : Int), .slice (some ⟨b, o, none⟩) B.length c], .blk g8 84 #[.func (.func 61) #[] #[], .func (.func 62) #[] #[], .func (.func 63) #[] #[], .func (.func 64) #[] #[], .func (.func 60) #[] #[VP g1], .func (.func 65) #[] #[VP g3]], .blk g14 43 #[.string (⟨#[]⟩)], .blk g25 58 #[VS0 g21 B.length B.length], .blk g42 116 #[VS0 g36 B.length B.length]] := by rw [← zDc hx (zG9 hks)]; exact (O163.re [0, 1, 2, 3, 4, 5, 6, 7] rfl)
      refine zAt K58 (i + 1) (by show B.length - (i + 1) < B.length - i; omega) ⟨(by show i + 1 ≤ B.length; omega), O181⟩ ⟨rfl, rfl, rfl, rfl, rfl, rfl, rfl, rfl, rfl, trivial⟩
 ·have hie : i = B.length := by omega
  subst hie
  refine zAc fun _ K182 => zAa <| wc rfl rfl (lss0 (by omega)) rfl rfl <| zAd <| zAb K182 <| zAc fun _ K183 => zAf rfl <| zA6 ?_
  refine zAg (by intro h; cases h) ?_
  refine zAg (by intro h; cases h) ?_
  refine zA4 <| zAb K53 <| zAc fun _ K184 => ?_
  refine zA1 (fun X => Own Z0 W X [.blk g36 43 ((natCs (padC B B.length)).toArray), .blk g21 25 ((vcells (ownTo B B.length)).toArray), .ro TabE TabT, .blk g2 39 #[.int .i64 (N : Int), .slice (some ⟨b, o, none⟩) B.length c], .blk g8 84 #[.func (.func 61) #[] #[], .func (.func 62) #[] #[], .func (.func 63) #[] #[], .func (.func 64) #[] #[], .func (.func 60) #[] #[VP g1], .func (.func 65) #[] #[VP g3]], .blk g14 43 #[.string (⟨#[]⟩)], .blk g25 58 #[VS0 g21 B.length B.length], .blk g42 116 #[VS0 g36 B.length B.length]]) 8 [(0, 1), (1, 0), (2, 1), (3, 1), (4, 1), (5, 0), (6, 2), (7, 2), (8, 3)] (by kernel_rfl) (by kernel_rfl) (PQ.then_ PQ.body) (O59).drew ?_
  have O185 := O59.drew
  refine tm rfl rfl rfl rfl <| wt0 (v := VS0 g36 B.length B.length) rfl (fun ρ e W hW => zAm ty116 (e _ _ rfl) (hW.cell 7 0 rfl rfl)) rfl rfl <| wt1 (v := .int .i64 ((B.length : Nat) : Int)) rfl (fun ρ e W => zGn el116 (e _ _ rfl)) rfl rfl <| wt1 (v := .int .i64 ((B.length - 1 : Nat) : Int)) rfl (fun ρ e W => zAi (k := .i64) (u := ((B.length : Nat) : Int)) (v := 1) (e _ _ rfl) (e _ _ rfl) (congrArg some ((congrArg _ (show _ = ((B.length - 1 : Nat) : Int) by omega)).trans (zAo (by omega) (by omega))))) rfl rfl <| wt1 (v := VP g2) rfl (fun ρ e W => zBd (q := 0) zHu (e _ _ rfl) rfl) rfl rfl ?_
  refine wt0 (v := .int .i64 (N : Int)) rfl (fun ρ e W hW => zAm ty3 (e _ _ rfl) (hW.cell 3 0 rfl rfl)) rfl rfl ?_
  refine zA7 (args := [.int .i64 (N : Int)]) rfl in_45 rfl rfl rfl ?_
  refine (zHx (N : Int) w56.drew (by omega) (by omega)).mono ?_
  rintro _ w186 ⟨rfl, hb187⟩
  have O188 := O185.below hb187
  refine ⟨_, rfl, O188, ?_⟩
  refine zBn (args := [.int .i64 ((B.length - 1 : Nat) : Int), .agg #[.int .u64 ((VS.all (N : Int)).a.toNat : Int), .int .u64 ((VS.all (N : Int)).b.toNat : Int)]]) (all := [.int .i64 ((B.length - 1 : Nat) : Int), .agg #[.int .u64 ((VS.all (N : Int)).a.toNat : Int), .int .u64 ((VS.all (N : Int)).b.toNat : Int)], VP g42, VP g25, VP g8]) rfl in_57 rfl rfl rfl rfl rfl ?_
  refine (wide_ (W := w186) (ck := (cntN B ((B.length - 1 : Nat) : Int))) (SA := (VS.all (N : Int))) (SB := (own B ((B.length - 1 : Nat) : Int))) (k := (B.length - 1)) (n := B.length) (O188.ro 2 rfl) (by omega) (O188.blk 7 rfl).lt (O188.blk 6 rfl).lt (O188.blk 4 rfl).lt (O188.blk 0 rfl).lt (O188.blk 1 rfl).lt (O188.cell 7 0 rfl rfl) (O188.cell 6 0 rfl rfl) (((O188.blk 0 rfl).cell _).trans (zCh (zGo (i := B.length) (by omega) (Nat.le_refl _)))) (((O188.blk 1 rfl).cell _).trans (getV0 (zB4 (by omega)))) (((O188.blk 1 rfl).cell _).trans (getV1 (zB4 (by omega)))) (O188.cell 4 3 rfl rfl) (O188.cell 4 5 rfl rfl) (Nat.lt_of_lt_of_le h1 (O188.old).size) (O188.old.cell (p := ⟨g1, 0, none⟩) h1 |>.trans hc1) (Nat.lt_of_lt_of_le h3 (O188.old).size) (O188.old.cell (p := ⟨g3, 0, none⟩) h3 |>.trans hc3) hsmL hszL hckL).mono ?_
  rintro _ w189 ⟨rfl, hb190⟩
  have O191 := O188.below hb190
  refine ⟨_, rfl, O191, ?_⟩
  obtain ⟨w192, r193, O194, hs195⟩ := zAp (o := 0) (n := 1) (O191.re [5, 0, 1, 2, 3, 4, 6, 7] rfl) ty43 (.agg #[.string (natB ((cntN B ((B.length - 1 : Nat) : Int)) * 2 ^ ((VS.all (N : Int)).minus (own B ((B.length - 1 : Nat) : Int))).sz))]) _ (cs' := #[.string (natB ((cntN B ((B.length - 1 : Nat) : Int)) * 2 ^ ((VS.all (N : Int)).minus (own B ((B.length - 1 : Nat) : Int))).sz))]) rfl rfl rfl (Nat.le_of_ble_eq_true rfl) rfl
  refine zBf rfl (fun ρ e => r193 ρ _ _ _ _ _ _ (e _ _ rfl) (e _ _ rfl)) rfl <| zBc <| zAb K184 <| zAz ?_
  refine zAy (v := .agg #[.string (natB ((cntN B ((B.length - 1 : Nat) : Int)) * 2 ^ ((VS.all (N : Int)).minus (own B ((B.length - 1 : Nat) : Int))).sz))]) (fun T hT => res1c rfl T _ (hT 4 _ rfl) (zBj (vs := [.string (natB ((cntN B ((B.length - 1 : Nat) : Int)) * 2 ^ ((VS.all (N : Int)).minus (own B ((B.length - 1 : Nat) : Int))).sz))]) ty43 rfl (O194.cells 0 0 rfl rfl))) ?_
  exact ⟨rfl, O194.old⟩
theorem ccheck_ {W : World} {V : Value} {B : List Gate} {N : Nat} (hG : GatesV W W.heap.size V B) (hw : WfN (N : Int) B) (hp : 0 < B.length) (hlen : B.length ≤ 65536) (hN6 : N ≤ 6) (hd : DD B) (hT : TabT W) : Calls Tryz.prog 31 #[.agg #[.int .i64 (N : Int), V]] W fun e w' => e = .returned (.int .i64 0) ∧ Below W.heap.size W w' := by
 have O0 := (Own.start W).oldro (D := TabE) (p := TabT) (zB7 hT)
 refine zAu (args := [.agg #[.int .i64 (N : Int), V]]) Tryz.func31 rfl rfl (by simp) ?_
 refine zAc fun _ K1 => zAa ?_
 obtain ⟨g2, w3, r4, O5, hg6, hs7⟩ := zA5 O0 39 (.agg #[.int .i64 (N : Int), V]) rfl
 refine zAe (v := VP g2) (fun ρ e => r4 ρ _ _ _ _ _ _ (e _ _ rfl)) rfl rfl <| wa rfl rfl rfl <| zAd <| zAb K1 <| zAc fun _ K8 => zAc fun _ K9 => zAa <| zAe (v := .agg #[.int .i64 (N : Int), V]) (fun ρ e => zAk (vs := [.int .i64 (N : Int), V]) ty39 (e _ _ rfl) rfl (O5.cells 0 0 rfl rfl)) rfl rfl ?_
 refine zAs (args := [.agg #[.int .i64 (N : Int), V]]) zJp rfl rfl rfl ?_
 refine (zF3 (zBv hG O5.old) hw hp hlen (by omega) (by omega)).mono ?_
 rintro _ w10 ⟨rfl, hb11⟩
 have O12 := O5.below hb11
 refine ⟨_, rfl, ?_⟩
 refine wa rfl rfl rfl <| nx K9 fun _ K13 => wm rfl rfl rfl <| wc rfl rfl (neq0 (by omega)) rfl rfl <| zAd <| zAb K13 <| zAf rfl <| zAj ?_
 refine zAb K8 <| zAc fun _ K14 => zAc fun _ K15 => zAa <| zAe (v := .agg #[.int .i64 (N : Int), V]) (fun ρ e => zAk (vs := [.int .i64 (N : Int), V]) ty39 (e _ _ rfl) rfl (O12.cells 0 0 rfl rfl)) rfl rfl ?_
 refine zAs (args := [.agg #[.int .i64 (N : Int), V]]) in_54 rfl rfl rfl ?_
 refine (ndecomp_ (zBv hG O12.old) hw hp hlen (by omega) (by omega) hd).mono ?_
 rintro _ w16 ⟨rfl, hb17⟩
 have O18 := O12.below hb17
 refine ⟨_, rfl, ?_⟩
 refine zAe (v := .bool false) (fun ρ e => zBw (b := true) (e _ _ rfl)) rfl rfl <| zAd <| zAb K15 <| zAf rfl <| zAj <| zAb K14 <| zAc fun _ K19 => zAc fun _ K20 => ?_
 refine zAa <| zAe (v := .agg #[.int .i64 (N : Int), V]) (fun ρ e => zAk (vs := [.int .i64 (N : Int), V]) ty39 (e _ _ rfl) rfl (O18.cells 0 0 rfl rfl)) rfl rfl ?_
 refine zAs (args := [.agg #[.int .i64 (N : Int), V]]) in_55 rfl rfl rfl ?_
 refine (nshort_ (zBv hG O18.old) hw hp hlen hN6 hd (O18.ro 1 rfl)).mono ?_
 rintro _ w21 ⟨rfl, hb22⟩
 have O23 := O18.below hb22
 refine ⟨_, rfl, ?_⟩
 refine zAe (v := .bool false) (fun ρ e => zBw (b := true) (e _ _ rfl)) rfl rfl <| zAd <| zAb K20 <| zAf rfl <| zAj <| zAb K19 <| zAc fun _ K24 => zAa ?_
 refine wa rfl rfl rfl <| zAd <| zAb K24 <| zAz ?_
 refine zAy (v := .int .i64 0) (fun T hT => res1 rfl T _ (hT 2 _ rfl)) ?_
 exact ⟨rfl, O23.old⟩
theorem ncount_ {W : World} {V : Value} {B : List Gate} {N : Nat} (hG : GatesV W W.heap.size V B) (hw : WfN (N : Int) B) (hp : 0 < B.length) (hlen : B.length ≤ 65536) (hN6 : N ≤ 6) (hd : DD B) (hT : TabT W) : Calls Tryz.prog 8 #[.agg #[.int .i64 (N : Int), V]] W fun e w' => e = .returned (.tuple #[.agg #[.string (natB (totN N B))], .int .i64 0]) ∧ Below W.heap.size W w' := by
 have O0 := (Own.start W).oldro (D := TabE) (p := TabT) (zB7 hT)
 refine zAu (args := [.agg #[.int .i64 (N : Int), V]]) Tryz.func8 rfl rfl (by simp) ?_
 refine zAc fun _ K1 => zAa ?_
 obtain ⟨g2, w3, r4, O5, hg6, hs7⟩ := zA5 O0 39 (.agg #[.int .i64 (N : Int), V]) rfl
 refine zAe (v := VP g2) (fun ρ e => r4 ρ _ _ _ _ _ _ (e _ _ rfl)) rfl rfl ?_
 obtain ⟨g8, w9, r10, O11, hg12, hs13⟩ := zAw O5 43 ze43 rfl
 refine zAe (v := VP g8) (fun ρ e => r10 ρ _ _ _ _ _) rfl rfl <| wa rfl rfl rfl <| zAd <| zAb K1 <| zAc fun _ K14 => zAc fun _ K15 => zAa <| zAe (v := .agg #[.int .i64 (N : Int), V]) (fun ρ e => zAk (vs := [.int .i64 (N : Int), V]) ty39 (e _ _ rfl) rfl (O11.cells 1 0 rfl rfl)) rfl rfl ?_
 refine zAs (args := [.agg #[.int .i64 (N : Int), V]]) in_31 rfl rfl rfl ?_
 refine (ccheck_ (zBv hG O11.old) hw hp hlen hN6 hd (O11.ro 2 rfl)).mono ?_
 rintro _ w16 ⟨rfl, hb17⟩
 have O18 := O11.below hb17
 refine ⟨_, rfl, ?_⟩
 refine wa rfl rfl rfl <| nx K15 fun _ K19 => wm rfl rfl rfl <| wc rfl rfl (neq0 (by omega)) rfl rfl <| zAd <| zAb K19 <| zAf rfl <| zAj ?_
 refine zAb K14 <| zAc fun _ K20 => ?_
 refine zA1 (fun X => Own Z0 W X [.blk g8 43 #[.string (⟨#[]⟩)], .blk g2 39 #[.int .i64 (N : Int), V], .ro TabE TabT]) 3 [(0, 0), (1, 2), (2, 2), (3, 3), (4, 3)] (by kernel_rfl) (by kernel_rfl) (PQ.then_ PQ.body) (O18).drew ?_
 have O21 := O18.drew
 refine wt0 (v := .agg #[.int .i64 (N : Int), V]) rfl (fun ρ e W hW => zAk (vs := [.int .i64 (N : Int), V]) ty39 (e _ _ rfl) rfl (hW.cells 1 0 rfl rfl)) rfl rfl ?_
 refine zA7 (args := [.int .i64 0]) rfl in_33 rfl rfl rfl ?_
 refine (numbers_ (W := w16.drew)).mono ?_
 rintro _ w24 ⟨ga22, gb23, rfl, h25⟩
 have O26 := own_new2 O21 h25
 refine ⟨_, rfl, (O26.re [2, 3, 4] rfl), ?_⟩
 refine zA7 (args := [.agg #[.int .i64 (N : Int), V], .agg #[.func (.func 61) #[] #[], .func (.func 62) #[] #[], .func (.func 63) #[] #[], .func (.func 64) #[] #[], .func (.func 60) #[] #[VP ga22], .func (.func 65) #[] #[VP gb23]]]) rfl in_32 rfl rfl rfl ?_
 refine (nsum_ (zBv hG O26.old) hw hp hlen hN6 hd (O26.ro 4 rfl) (O26.blk 0 rfl).lt (O26.cell 0 0 rfl rfl) (O26.blk 1 rfl).lt (O26.cell 1 0 rfl rfl)).mono ?_
 rintro _ w27 ⟨rfl, hb28⟩
 have O29 := O26.below hb28
 refine ⟨_, rfl, (O29.re [2, 3, 4] rfl), ?_⟩
 obtain ⟨w30, r31, O32, hs33⟩ := zAp (o := 0) (n := 1) (O29.re [2, 0, 1, 3, 4] rfl) ty43 (.agg #[.string (natB (totN N B))]) _ (cs' := #[.string (natB (totN N B))]) rfl rfl rfl (Nat.le_of_ble_eq_true rfl) rfl
 refine zBf rfl (fun ρ e => r31 ρ _ _ _ _ _ _ (e _ _ rfl) (e _ _ rfl)) rfl <| wt3 (v := .int .i64 0) rfl (fun ρ e => zBb (e _ _ rfl)) rfl rfl <| zBc <| zAb K20 <| zAz ?_
 refine zAy (v := .tuple #[.agg #[.string (natB (totN N B))], .int .i64 0]) (fun T hT => res2cx rfl T _ (hT 2 _ rfl) (zBj (vs := [.string (natB (totN N B))]) ty43 rfl (O32.cells 0 0 rfl rfl)) (hT 3 _ rfl)) ?_
 exact ⟨rfl, O32.old⟩

end Go.Proofs.YtliiclmhpphpmaaGreatDoor
namespace Go.Proofs.YtliiclmhpphpmaaGreatDoor
open Go
def biasR (B : List Gate) (a P : VS) : Bool := zeta (dif (fun k => nv B (asgF (vl B) k) ((B.length - 1 : Nat) : Int)) (idxF (vl B) a)) (vl B).length (idxF (vl B) P)
def shouldR (cls : Nat → Bool) (p a n : Nat) : Bool := (List.range n).any fun k => decide (andn (k ^^^ a) p = 0) && (cls k != cls a)
theorem should_succ (cls : Nat → Bool) (p a j : Nat) : shouldR cls p a (j + 1) = (shouldR cls p a j || (decide (andn (j ^^^ a) p = 0) && (cls j != cls a))) := by
 unfold shouldR
 rw [List.range_succ, List.any_append]
 simp
def uptoL (N : Nat) : List Int := (List.range N).map fun t : Nat => (t : Int) + 1
theorem upto_get {N q : Nat} (h : q < N) : (uptoL N)[q]? = some ((q : Int) + 1) := by
 unfold uptoL
 rw [List.getElem?_map, List.getElem?_range h]
 rfl
theorem upto_len (N : Nat) : (uptoL N).length = N := by simp [uptoL]
theorem zIm {k : Nat} {q : Nat} (h : q < 64) : (asg k).has ((q : Int) + 1) = k.testBit q := by
 rw [zIl, decide_eq_true (by omega), Bool.true_and]
 congr 1
theorem bias_eq {N : Nat} (hN : N ≤ 6) {B : List Gate} (hw : WfN (N : Int) B) (hp : 0 < B.length) {a : Nat} (ha : a < 2 ^ N) (P : VS) :
  biasR B (asg a) P = shouldR (fun k => nv B (asg k) ((B.length - 1 : Nat) : Int)) P.a.toNat a (2 ^ N) := by
 obtain ⟨r, hr⟩ : ∃ r : Int, r = ((B.length - 1 : Nat) : Int) := ⟨_, rfl⟩
 have hi : inB B r := by rw [hr]; exact ⟨by omega, by omega⟩
 have hsm : Small (own B r) := fun v hv => by have := zI0 hw (r.toNat + 1) r (by omega) hi v hv; omega
 have hml : ∀ v, v ∈ vl B ↔ (own B r).has v = true := fun v => by unfold vl; rw [← hr]; exact hsm.mem v
 have hl1 : ∀ v ∈ vl B, 1 ≤ v ∧ v ≤ (N : Int) := fun v hv => by
  have h1 := (hml v).1 hv
  have h2 := zI0 hw (r.toNat + 1) r (by omega) hi v h1
  have h3 := VS.has_in h1
  omega
 have hl6 : (vl B).length ≤ 6 := by unfold vl; rw [← hr]; exact zEr _ hsm.a
 have law := bias_law hw hi (l := vl B) (fun x hx => by have := hl1 x hx; omega) (fun v hv => (hml v).2 hv) hl6 (asg a) P
 have hP : ∀ q : Nat, q < 64 → P.has ((q : Int) + 1) = P.a.toNat.testBit q := fun q hq => zHe P hq
 have h64 : 2 ^ N ≤ 64 := Nat.pow_le_pow_right (n := 2) (by decide) hN
 have e0 : ∀ k, k < 2 ^ N → ∀ q, N ≤ q → k.testBit q = false := fun k hk q hq => Nat.testBit_lt_two_pow (Nat.lt_of_lt_of_le hk (Nat.pow_le_pow_right (by decide) hq))
 have hand : ∀ k, k < 2 ^ N → (andn (k ^^^ a) P.a.toNat = 0 ↔ ∀ q, q < N → P.has ((q : Int) + 1) = false → k.testBit q = a.testBit q) := fun k hk => by
  have hx : k ^^^ a < 2 ^ 64 := Nat.lt_of_lt_of_le (Nat.xor_lt_two_pow hk ha) (by omega)
  constructor
  ·intro h q hq hpq
   have hb := zE3 (m := P.a.toNat) hx q
   rw [h, Nat.zero_testBit, ← hP q (by omega), hpq, Nat.testBit_xor] at hb
   cases h1 : k.testBit q <;> cases h2 : a.testBit q <;> simp [h1, h2] at hb ⊢
  ·intro h
   apply Nat.eq_of_testBit_eq
   intro q
   rw [zE3 hx, Nat.zero_testBit, Nat.testBit_xor]
   by_cases hq : q < N
   ·cases hpq : P.has ((q : Int) + 1)
    ·rw [h q hq hpq]; simp
    ·rw [← hP q (by omega), hpq]; simp
   ·rw [e0 k hk q (by omega), e0 a ha q (by omega)]; rfl
 rw [← hr]
 unfold biasR
 rw [← hr]
 rw [Bool.eq_iff_iff]
 refine Iff.trans law ?_
 unfold shouldR
 rw [List.any_eq_true]
 constructor
 ·rintro ⟨s, h1, h2⟩
  obtain ⟨t, ht⟩ : ∃ t : VS, ∀ v : Int, 1 ≤ v → v ≤ (N : Int) → t.has v = if v ∈ vl B then s.has v else (asg a).has v :=
   ⟨VS.of fun v => if v ∈ vl B then s.has v else (asg a).has v, fun v q1 q2 => by rw [VS.has_of, decide_eq_true (by omega), Bool.true_and]⟩
  obtain ⟨k, hk⟩ : ∃ k, k = idxF (uptoL N) t := ⟨_, rfl⟩
  have hkb : ∀ q, q < N → k.testBit q = t.has ((q : Int) + 1) := fun q hq => by
   rw [hk, Bool.eq_iff_iff, zCo, upto_get hq]
   constructor
   ·rintro ⟨v, hv, h⟩; injection hv with hv; rw [hv]; exact h
   ·intro h; exact ⟨_, rfl, h⟩
  have hkl : k < 2 ^ N := by have := zD3 t (uptoL N); rw [upto_len] at this; rw [hk]; exact this
  have hka : ∀ v : Int, 1 ≤ v → v ≤ (N : Int) → (asg k).has v = t.has v := fun v q1 q2 => by
   obtain ⟨q, rfl⟩ : ∃ q : Nat, v = (q : Int) + 1 := ⟨(v - 1).toNat, by omega⟩
   rw [zIm (by omega), hkb q (by omega)]
  have hdep : nv B (asg k) r = nv B s r := zJj hw _ _ (r.toNat + 1) r (by omega) hi (fun v hv => by
   have hv2 := (hml v).2 hv
   have := hl1 v hv2
   rw [hka v this.1 this.2, ht v this.1 this.2, if_pos hv2])
  refine ⟨k, List.mem_range.2 hkl, ?_⟩
  rw [Bool.and_eq_true, decide_eq_true_eq]
  refine ⟨(hand k hkl).2 fun q hq hpq => ?_, by dsimp only; rw [hdep]; simpa using h2⟩
  rw [hkb q hq, ht _ (by omega) (by omega), ← zIm (k := a) (by omega)]
  split
  ·rename_i hm
   exact h1 _ hm hpq
  ·rfl
 ·rintro ⟨k, hk, h⟩
  have hk := List.mem_range.1 hk
  rw [Bool.and_eq_true, decide_eq_true_eq] at h
  refine ⟨asg k, fun v hv hpv => ?_, by simpa using h.2⟩
  have := hl1 v hv
  obtain ⟨q, rfl⟩ : ∃ q : Nat, v = (q : Int) + 1 := ⟨(v - 1).toNat, by omega⟩
  rw [zIm (by omega), zIm (by omega)]
  exact (hand k hk).1 h.1 q (by omega) hpv
end Go.Proofs.YtliiclmhpphpmaaGreatDoor
