/-
  Lemmas and contracts, joined: Ti Ti2 Ta Tne.
-/
import Derived.Test.YtliiclmhpphpmaaGreatDoorPf2
import Derived.Test.YtliiclmhpphpmaaGreatDoorPf4
import Derived.Test.YtliiclmhpphpmaaGreatDoorPf3
namespace Go.Proofs.YtliiclmhpphpmaaGreatDoor
open Go Go.RowKit
theorem zF6 {κ : Type} [DecidableEq κ] (x y : κ) (v z : Value) : ∀ (l : List (κ × Value)) (i : Nat), lookV (look y (aput x v l) i) z = if y = x then v else lookV (look y l i) z
 | [], i => by
  unfold aput look look
  by_cases h : y = x <;> simp [h, lookV]
 | (a, u) :: l, i => by
  unfold aput
  by_cases hx : x = a
  ·subst hx
   simp only [if_true]
   unfold look
   by_cases h : y = x <;> simp [h, lookV]
  ·rw [if_neg hx]
   unfold look
   by_cases h : y = a
   ·subst h
    simp [Ne.symm hx, lookV]
   ·simp only [if_neg h]
    exact zF6 x y v z l (i + 1)
theorem zIi {κ : Type} [DecidableEq κ] {enc : κ → Value} {kind : TypeDesc} {T kt e : TypeId} {g : Nat} {l : List (κ × Value)} {w : World} {ρ : Operand → Value} {x y : Operand} {d : Option Tmp} {t : TypeId} {pos : String} {aft : Array Edge} {gd : Option (Nat × Bool)} (K : Key enc kind) (ht : Tryz.prog.underlying T = some (.map kt e)) (hk : Tryz.prog.underlying kt = some kind) {z : Value} (hz : ZeroB e z) (h : MapB w g (encL enc l)) (k : κ) {V : Value} (hV : lookV (look k l 0) z = V) (hx : ρ x = .map (some g)) (hy : ρ y = enc k) :
  (execOp ρ ⟨d, .lookup T x y false, t, pos, aft, gd⟩).run Tryz.prog w = .ok (.value V) w :=
 zI9 K ht hk hz h k rfl false hx hy hV
theorem zEc {ml : List (Int × Value)} {lits : List Int} {x : Int} (h : ∀ y, lookV (look y ml 0) (.bool false) = .bool (decide (y ∈ lits))) : ∀ y, lookV (look y (aput x (.bool true) ml) 0) (.bool false) = .bool (decide (y ∈ x :: lits)) := by
 intro y
 rw [zF6, h y]
 by_cases e : y = x <;> simp [e]
theorem intCs_snoc2 (l : List Int) (x : Int) : intCs l ++ [.int .i64 x] = intCs (l ++ [x]) := by simp [intCs]
theorem zDl {Z : Bool → Nat → Prop} {w0 W : World} {LL : List En} {v : Value} {l : List Int} {x : Int} {b : Bool} (hO : Own Z w0 W (.row v 3 1 l.length (intCs l) :: LL)) (hl : l.length < 1000000) (hb : decide (x ∈ l) = b) :
  Calls Tryz.prog 78 #[v, .int .i64 x] W fun e w' => e = .returned (.bool b) ∧ Below W.heap.size W w' := by
 refine (contains_row hO hl).mono ?_
 rintro _ w' ⟨rfl, h⟩
 rw [hb, h]
 exact ⟨rfl, Below.refl _ _⟩
def inpE (lc lm oc uc : Nat) (S : InS) (ml : List (Int × Value)) (A : Option Addr) (c : Nat) : List En :=
 [.blk lc 135 #[.map (some lm)], .map lm (encL intE ml), .blk oc 4 #[.bool S.opn], .blk uc 57 #[.slice A S.out.length c], .row (.slice A S.out.length c) 3 1 S.out.length (intCs S.out)]
def fixE (pb fb db bb : Nat) (fi dr : Int) : List En := [.blk pb 70 #[.pointer (some ⟨bb, 0, none⟩)], .blk fb 3 #[.int .i64 fi], .blk db 3 #[.int .i64 dr]]
section
variable {Z : Bool → Nat → Prop} {w0 W : World} {bb m rg c k cA lc lm oc uc pb fb db : Nat} {N fi dr : Int} {A : Option Addr} {D : Nat → Prop} {L : List Gate} {vs : List Value} {out lits : List Int} {ml : List (Int × Value)} {opn : Bool}
theorem inpad0_ (O0 : Own Z w0 W [.blk lc 135 #[.map (some lm)], .map lm (encL intE ml), .blk oc 4 #[.bool opn], .blk uc 57 #[.slice A out.length cA], .row (.slice A out.length cA) 3 1 out.length (intCs out), .blk pb 70 #[.pointer (some ⟨bb, 0, none⟩)], .blk fb 3 #[.int .i64 fi], .blk db 3 #[.int .i64 dr], .blk bb 109 #[.int .i64 N, .slice (some ⟨rg, 0, none⟩) L.length c, .map (some m)], .row (.slice (some ⟨rg, 0, none⟩) L.length c) 73 3 L.length (gcells L vs), .ro D (Ins D L vs)]) (hk : k < L.length) (hL : L.length ≤ 65536) (hol : out.length ≤ 65536) (hlit : ∀ (i : Nat) (g : Gate), L[i]? = some g → -1000000 ≤ g.lit ∧ g.lit ≤ 1000000) (hml : ∀ y, lookV (look y ml 0) (.bool false) = .bool (decide (y ∈ lits))) :
  Calls Tryz.prog 77 #[.int .i64 (k : Int), .pointer (some ⟨pb, 0, none⟩), .pointer (some ⟨fb, 0, none⟩), .pointer (some ⟨lc, 0, none⟩), .pointer (some ⟨oc, 0, none⟩), .pointer (some ⟨db, 0, none⟩), .pointer (some ⟨uc, 0, none⟩)] W fun e w' => ∃ ml' A' c', e = .returned (.tuple #[]) ∧ Own Z w0 w' (inpE lc lm oc uc (addIn L dr fi ⟨out, lits, opn⟩ (k : Int)) ml' A' c' ++ fixE pb fb db bb fi dr ++ [.blk bb 109 #[.int .i64 N, .slice (some ⟨rg, 0, none⟩) L.length c, .map (some m)], .row (.slice (some ⟨rg, 0, none⟩) L.length c) 73 3 L.length (gcells L vs), .ro D (Ins D L vs)]) ∧
   ∀ y, lookV (look y ml' 0) (.bool false) = .bool (decide (y ∈ (addIn L dr fi ⟨out, lits, opn⟩ (k : Int)).lits)) := by
 have hins : Ins D L vs W := O0.ro 10 rfl
 have hvl := hins.1
 obtain ⟨g, hx⟩ : ∃ g, L[k]? = some g := ⟨L[k], List.getElem?_eq_getElem hk⟩
 obtain ⟨v, hv⟩ : ∃ v, vs[k]? = some v := ⟨vs[k], List.getElem?_eq_getElem (by omega)⟩
 obtain ⟨AV, cV, rfl⟩ := (hins.2 k g v hx hv).slice
 have hlg := hlit k g hx
 have hgt : gateAt L (k : Int) = g := by unfold gateAt; rw [List.getD_eq_getElem?_getD]; simp [hx]
 have hgk : kindAt L (k : Int) = g.kind := by unfold kindAt; rw [hgt]
 have hgl : (gateAt L (k : Int)).lit = g.lit := by rw [hgt]
 refine zAu (args := [.int .i64 (k : Int), VP pb, VP fb, VP lc, VP oc, VP db, VP uc]) Tryz.func77 rfl rfl (by simp) ?_
 refine zAc fun _ K1 => zAa <| wd ty70 rfl (O0.cell 5 0 rfl rfl) rfl rfl <| wn rfl rfl rfl <| wf (q := 1) zCs rfl rfl rfl rfl <| wd ty37 rfl (O0.cell 8 1 rfl rfl) rfl rfl <| wm rfl rfl rfl <| wi (q := k * 3) (i := k) el37 rfl rfl (by omega) (by omega) rfl rfl ?_
 refine zAe (v := .agg #[.int .i64 g.kind, .int .i64 g.lit, .slice AV g.inp.length cV]) (fun ρ e => zAk (vs := [.int .i64 g.kind, .int .i64 g.lit, .slice AV g.inp.length cV]) ty73 (e _ _ rfl) rfl (cells3 (rowcell (O0.row 9 rfl) (zBt hx hv).1) (rowcell (O0.row 9 rfl) (zBt hx hv).2.1) (rowcell (O0.row 9 rfl) (zBt hx hv).2.2))) rfl rfl ?_
 obtain ⟨g2, w3, r4, O5, hg6, hs7⟩ := zAw O0 73 ze73 rfl
 refine zAe (v := VP g2) (fun ρ e => r4 ρ _ _ _ _ _) rfl rfl ?_
 obtain ⟨w8, r9, O10, hs11⟩ := zAp (o := 0) (n := 3) O5 ty73 (.agg #[.int .i64 g.kind, .int .i64 g.lit, .slice AV g.inp.length cV]) _ (cs' := #[.int .i64 g.kind, .int .i64 g.lit, .slice AV g.inp.length cV]) rfl rfl rfl (Nat.le_of_ble_eq_true rfl) rfl
 refine zAv (fun ρ e => r9 ρ _ _ _ _ _ _ (e _ _ rfl) (e _ _ rfl)) rfl <| zAd <| zAb K1 <| zAc fun _ K12 => zAh <| zAc fun _ K13 => zAa <| wf (q := 0) zBy rfl rfl rfl rfl ?_
 refine wd ty3 rfl (O10.cell 0 0 rfl rfl) rfl rfl <| wd ty3 rfl (O10.cell 7 0 rfl rfl) rfl rfl ?_
 by_cases c14 : g.kind = fi
 ·skip
  refine wc rfl rfl (eql1 (by omega)) rfl rfl <| wm rfl rfl rfl <| zAq rfl rfl <| zAq rfl rfl <| zAq rfl rfl <| zAq rfl rfl <| zAq rfl rfl <| zAq rfl rfl ?_
  refine zAq rfl rfl <| zAq rfl rfl <| zAq rfl rfl <| zAq rfl rfl <| zAe (v := .bool true) (fun ρ e => zBa (e _ _ rfl) (e _ _ rfl)) rfl rfl <| wa rfl rfl rfl <| zAd <| zAb K13 ?_
  refine zAl rfl <| zAa ?_
  obtain ⟨w15, r16, O17, hs18⟩ := zAp (o := 0) (n := 1) (O10.re [3, 0, 1, 2, 4, 5, 6, 7, 8, 9, 10, 11] rfl) ty4 (.bool false) _ (cs' := #[.bool false]) rfl rfl rfl (Nat.le_of_ble_eq_true rfl) rfl
  refine zAv (fun ρ e => r16 ρ _ _ _ _ _ _ (e _ _ rfl) (e _ _ rfl)) rfl <| zAd <| zAn <| zAb K12 <| zAc fun _ K19 => zAa <| wf (q := 0) zBy rfl rfl rfl rfl <| wd ty3 rfl (O17.cell 1 0 rfl rfl) rfl rfl ?_
  by_cases c20 : g.kind = 2
  ·skip
   refine wc rfl rfl (eql1 (by omega)) rfl rfl <| zAd <| zAb K19 <| zAl rfl <| zAa <| wd ty135 rfl (O17.cell 2 0 rfl rfl) rfl rfl <| wf (q := 1) zCm rfl rfl rfl rfl <| wd ty3 rfl (O17.cell 1 1 rfl rfl) rfl rfl ?_
   obtain ⟨w21, r22, O23, hs24⟩ := zCq (O17.re [3, 0, 1, 2, 4, 5, 6, 7, 8, 9, 10, 11] rfl) intKey Tryz.underlying135 Tryz.underlying3 g.lit (.bool true)
   refine zAv (fun ρ e => r22 ρ _ _ _ _ _ _ _ (e _ _ rfl) (e _ _ rfl) (e _ _ rfl)) rfl <| zAd ?_
   refine zDh (v := .tuple #[]) (fun T hT => res0 rfl T _) ?_
   have hlt : (if kindAt L (k : Int) = 2 then (gateAt L (k : Int)).lit :: lits else lits) = (g.lit :: lits) := by rw [hgk, hgl, if_pos (by omega)]
   have hS : addIn L dr fi ⟨out, lits, opn⟩ (k : Int) = ⟨out, (g.lit :: lits), false⟩ := by unfold addIn; rw [if_pos (show kindAt L (k : Int) = fi ∨ (kindAt L (k : Int) = 2 ∧ -(gateAt L (k : Int)).lit ∈ lits) from by rw [hgk, hgl]; exact .inl (by omega))]; dsimp only; rw [hlt]
   rw [hS]
   refine ⟨(aput g.lit (.bool true) ml), A, cA, rfl, ?_, zEc hml⟩
   unfold inpE fixE
   dsimp only
   exact (O23.re [3, 0, 1, 4, 5, 6, 7, 8, 9, 10, 11] rfl)
  ·skip
   refine wc rfl rfl (eql0 (by omega)) rfl rfl <| zAd <| zAb K19 <| zAf rfl <| zAj ?_
   refine zDh (v := .tuple #[]) (fun T hT => res0 rfl T _) ?_
   have hlt : (if kindAt L (k : Int) = 2 then (gateAt L (k : Int)).lit :: lits else lits) = lits := by rw [hgk, hgl, if_neg (by omega)]
   have hS : addIn L dr fi ⟨out, lits, opn⟩ (k : Int) = ⟨out, lits, false⟩ := by unfold addIn; rw [if_pos (show kindAt L (k : Int) = fi ∨ (kindAt L (k : Int) = 2 ∧ -(gateAt L (k : Int)).lit ∈ lits) from by rw [hgk, hgl]; exact .inl (by omega))]; dsimp only; rw [hlt]
   rw [hS]
   refine ⟨ml, A, cA, rfl, ?_, hml⟩
   unfold inpE fixE
   dsimp only
   exact (O17.re [2, 3, 0, 4, 5, 6, 7, 8, 9, 10, 11] rfl)
 ·skip
  refine wc rfl rfl (eql0 (by omega)) rfl rfl <| wm rfl rfl rfl <| wf (q := 0) zBy rfl rfl rfl rfl <| wd ty3 rfl (O10.cell 0 0 rfl rfl) rfl rfl ?_
  by_cases c25 : g.kind = 2
  ·skip
   refine wc rfl rfl (eql1 (by omega)) rfl rfl <| wm rfl rfl rfl <| wd ty135 rfl (O10.cell 1 0 rfl rfl) rfl rfl <| wf (q := 1) zCm rfl rfl rfl rfl <| wd ty3 rfl (O10.cell 0 1 rfl rfl) rfl rfl <| zAe (v := .int .i64 (-g.lit)) (fun ρ e => zGw (e _ _ rfl) (zAo (by omega) (by omega))) rfl rfl ?_
   by_cases c26 : (-g.lit) ∈ lits
   ·skip
    refine zAe (v := .bool true) (fun ρ e => zIi intKey Tryz.underlying135 Tryz.underlying3 ze4 (O10.map 2 rfl) (-g.lit) ((hml (-g.lit)).trans (congrArg Value.bool (decide_eq_true c26))) (e _ _ rfl) (e _ _ rfl)) rfl rfl <| zAe (v := .bool true) (fun ρ e => zBa (e _ _ rfl) (e _ _ rfl)) rfl rfl <| zAe (v := .bool true) (fun ρ e => zA2 (e _ _ rfl) (e _ _ rfl)) rfl rfl <| wa rfl rfl rfl <| zAd <| zAb K13 <| zAl rfl <| zAa ?_
    obtain ⟨w27, r28, O29, hs30⟩ := zAp (o := 0) (n := 1) (O10.re [3, 0, 1, 2, 4, 5, 6, 7, 8, 9, 10, 11] rfl) ty4 (.bool false) _ (cs' := #[.bool false]) rfl rfl rfl (Nat.le_of_ble_eq_true rfl) rfl
    refine zAv (fun ρ e => r28 ρ _ _ _ _ _ _ (e _ _ rfl) (e _ _ rfl)) rfl <| zAd <| zAn <| zAb K12 <| zAc fun _ K31 => zAa <| wf (q := 0) zBy rfl rfl rfl rfl <| wd ty3 rfl (O29.cell 1 0 rfl rfl) rfl rfl ?_
    refine wc rfl rfl (eql1 (by omega)) rfl rfl <| zAd <| zAb K31 <| zAl rfl <| zAa <| wd ty135 rfl (O29.cell 2 0 rfl rfl) rfl rfl <| wf (q := 1) zCm rfl rfl rfl rfl <| wd ty3 rfl (O29.cell 1 1 rfl rfl) rfl rfl ?_
    obtain ⟨w32, r33, O34, hs35⟩ := zCq (O29.re [3, 0, 1, 2, 4, 5, 6, 7, 8, 9, 10, 11] rfl) intKey Tryz.underlying135 Tryz.underlying3 g.lit (.bool true)
    refine zAv (fun ρ e => r33 ρ _ _ _ _ _ _ _ (e _ _ rfl) (e _ _ rfl) (e _ _ rfl)) rfl <| zAd ?_
    refine zDh (v := .tuple #[]) (fun T hT => res0 rfl T _) ?_
    have hlt : (if kindAt L (k : Int) = 2 then (gateAt L (k : Int)).lit :: lits else lits) = (g.lit :: lits) := by rw [hgk, hgl, if_pos (by omega)]
    have hS : addIn L dr fi ⟨out, lits, opn⟩ (k : Int) = ⟨out, (g.lit :: lits), false⟩ := by unfold addIn; rw [if_pos (show kindAt L (k : Int) = fi ∨ (kindAt L (k : Int) = 2 ∧ -(gateAt L (k : Int)).lit ∈ lits) from by rw [hgk, hgl]; exact .inr ⟨by omega, c26⟩)]; dsimp only; rw [hlt]
    rw [hS]
    refine ⟨(aput g.lit (.bool true) ml), A, cA, rfl, ?_, zEc hml⟩
    unfold inpE fixE
    dsimp only
    exact (O34.re [3, 0, 1, 4, 5, 6, 7, 8, 9, 10, 11] rfl)
   ·skip
    refine zAe (v := .bool false) (fun ρ e => zIi intKey Tryz.underlying135 Tryz.underlying3 ze4 (O10.map 2 rfl) (-g.lit) ((hml (-g.lit)).trans (congrArg Value.bool (decide_eq_false c26))) (e _ _ rfl) (e _ _ rfl)) rfl rfl <| zAe (v := .bool false) (fun ρ e => zBa (e _ _ rfl) (e _ _ rfl)) rfl rfl <| zAe (v := .bool false) (fun ρ e => zA2 (e _ _ rfl) (e _ _ rfl)) rfl rfl <| wa rfl rfl rfl <| zAd <| zAb K13 <| zAf rfl <| zAc fun _ K36 => ?_
    refine zAa <| wf (q := 0) zBy rfl rfl rfl rfl <| wd ty3 rfl (O10.cell 0 0 rfl rfl) rfl rfl <| wd ty3 rfl (O10.cell 8 0 rfl rfl) rfl rfl ?_
    by_cases c37 : g.kind ≠ dr
    ·skip
     refine wc rfl rfl (neq1 (by omega)) rfl rfl <| wm rfl rfl rfl <| wd ty57 rfl (O10.cell 4 0 rfl rfl) rfl rfl <| wm rfl rfl rfl ?_
     by_cases c38 : (k : Int) ∈ out
     ·skip
      refine zAs (args := [.slice A out.length cA, .int .i64 (k : Int)]) in_78 rfl rfl rfl ?_
      refine (zDl (x := (k : Int)) (O10.re [5, 0, 1, 2, 3, 4, 6, 7, 8, 9, 10, 11] rfl) (by omega) (decide_eq_true c38)).mono ?_
      rintro _ w39 ⟨rfl, hb40⟩
      have O41 := O10.below hb40
      refine ⟨_, rfl, ?_⟩
      refine zAe (v := .bool false) (fun ρ e => zBw (b := true) (e _ _ rfl)) rfl rfl <| zAe (v := .bool false) (fun ρ e => zBa (e _ _ rfl) (e _ _ rfl)) rfl rfl <| wa rfl rfl rfl <| zAd <| zAb K36 <| zAf rfl <| zAj <| zAn ?_
      refine zAb K12 <| zAc fun _ K42 => zAa <| wf (q := 0) zBy rfl rfl rfl rfl <| wd ty3 rfl (O41.cell 0 0 rfl rfl) rfl rfl <| wc rfl rfl (eql1 (by omega)) rfl rfl <| zAd <| zAb K42 ?_
      refine zAl rfl <| zAa <| wd ty135 rfl (O41.cell 1 0 rfl rfl) rfl rfl <| wf (q := 1) zCm rfl rfl rfl rfl <| wd ty3 rfl (O41.cell 0 1 rfl rfl) rfl rfl ?_
      obtain ⟨w43, r44, O45, hs46⟩ := zCq (O41.re [2, 0, 1, 3, 4, 5, 6, 7, 8, 9, 10, 11] rfl) intKey Tryz.underlying135 Tryz.underlying3 g.lit (.bool true)
      refine zAv (fun ρ e => r44 ρ _ _ _ _ _ _ _ (e _ _ rfl) (e _ _ rfl) (e _ _ rfl)) rfl <| zAd ?_
      refine zDh (v := .tuple #[]) (fun T hT => res0 rfl T _) ?_
      have hlt : (if kindAt L (k : Int) = 2 then (gateAt L (k : Int)).lit :: lits else lits) = (g.lit :: lits) := by rw [hgk, hgl, if_pos (by omega)]
      have hO : (if kindAt L (k : Int) ≠ dr ∧ (k : Int) ∉ out then out ++ [(k : Int)] else out) = out := by rw [hgk, if_neg (fun q => q.2 c38)]
      have hS : addIn L dr fi ⟨out, lits, opn⟩ (k : Int) = ⟨out, (g.lit :: lits), opn⟩ := by unfold addIn; rw [if_neg (show ¬ (kindAt L (k : Int) = fi ∨ (kindAt L (k : Int) = 2 ∧ -(gateAt L (k : Int)).lit ∈ lits)) from by rw [hgk, hgl]; exact fun q => q.elim (fun q => absurd q (by omega)) (fun q => absurd q.2 c26))]; dsimp only; rw [hlt, hO]
      rw [hS]
      refine ⟨(aput g.lit (.bool true) ml), A, cA, rfl, ?_, zEc hml⟩
      unfold inpE fixE
      dsimp only
      exact (O45.re [2, 0, 3, 4, 5, 6, 7, 8, 9, 10, 11] rfl)
     ·skip
      refine zAs (args := [.slice A out.length cA, .int .i64 (k : Int)]) in_78 rfl rfl rfl ?_
      refine (zDl (x := (k : Int)) (O10.re [5, 0, 1, 2, 3, 4, 6, 7, 8, 9, 10, 11] rfl) (by omega) (decide_eq_false c38)).mono ?_
      rintro _ w47 ⟨rfl, hb48⟩
      have O49 := O10.below hb48
      refine ⟨_, rfl, ?_⟩
      refine zAe (v := .bool true) (fun ρ e => zBw (b := false) (e _ _ rfl)) rfl rfl <| zAe (v := .bool true) (fun ρ e => zBa (e _ _ rfl) (e _ _ rfl)) rfl rfl <| wa rfl rfl rfl <| zAd <| zAb K36 <| zAl rfl <| zAa <| wd ty57 rfl (O49.cell 4 0 rfl rfl) rfl rfl ?_
      refine wm rfl rfl rfl ?_
      obtain ⟨g50, w51, r52, O53, hg54, hs55⟩ := zBg O49 el57 ze3 1 [(0, .int .i64 (k : Int))] (cs := #[.int .i64 (k : Int)]) (by decide) (by kernel_rfl)
      refine zAe (v := VS0 g50 1 1) (fun ρ e => r52 ρ _ _ _ _ _ _ (e.parts rfl)) rfl rfl ?_
      obtain ⟨A56, c57, w58, r59, O60, hz61, hc62⟩ := zC5 (O53.re [6, 0, 1, 2, 3, 4, 5, 7, 8, 9, 10, 11, 12] rfl) ap57 ((O53.re [6, 0, 1, 2, 3, 4, 5, 7, 8, 9, 10, 11, 12] rfl).blk 1 rfl) (cells := [.int .i64 (k : Int)]) rfl rfl (by omega) (by omega) (ys := (intCs (out ++ [(k : Int)]))) (intCs_snoc2 _ _)
      refine zAe (v := .slice A56 (out.length + 1) c57) (fun ρ e => r59 ρ _ _ _ _ _ _ _ (e _ _ rfl) (e _ _ rfl)) rfl rfl ?_
      obtain ⟨w63, r64, O65, hs66⟩ := zAp (o := 0) (n := 1) (O60.re [6, 0, 1, 2, 3, 4, 5, 7, 8, 9, 10, 11, 12] rfl) ty57 (.slice A56 (out.length + 1) c57) _ (cs' := #[.slice A56 (out.length + 1) c57]) rfl rfl rfl (Nat.le_of_ble_eq_true rfl) rfl
      refine zAv (fun ρ e => r64 ρ _ _ _ _ _ _ (e _ _ rfl) (e _ _ rfl)) rfl <| zAd <| zAn <| zAb K12 <| zAc fun _ K67 => zAa <| wf (q := 0) zBy rfl rfl rfl rfl <| wd ty3 rfl (O65.cell 3 0 rfl rfl) rfl rfl ?_
      refine wc rfl rfl (eql1 (by omega)) rfl rfl <| zAd <| zAb K67 <| zAl rfl <| zAa <| wd ty135 rfl (O65.cell 4 0 rfl rfl) rfl rfl <| wf (q := 1) zCm rfl rfl rfl rfl <| wd ty3 rfl (O65.cell 3 1 rfl rfl) rfl rfl ?_
      obtain ⟨w68, r69, O70, hs71⟩ := zCq (O65.re [5, 0, 1, 2, 3, 4, 6, 7, 8, 9, 10, 11, 12] rfl) intKey Tryz.underlying135 Tryz.underlying3 g.lit (.bool true)
      refine zAv (fun ρ e => r69 ρ _ _ _ _ _ _ _ (e _ _ rfl) (e _ _ rfl) (e _ _ rfl)) rfl <| zAd ?_
      refine zDh (v := .tuple #[]) (fun T hT => res0 rfl T _) ?_
      have hlt : (if kindAt L (k : Int) = 2 then (gateAt L (k : Int)).lit :: lits else lits) = (g.lit :: lits) := by rw [hgk, hgl, if_pos (by omega)]
      have hO : (if kindAt L (k : Int) ≠ dr ∧ (k : Int) ∉ out then out ++ [(k : Int)] else out) = (out ++ [(k : Int)]) := by rw [hgk, if_pos ⟨by omega, c38⟩]
      have hS : addIn L dr fi ⟨out, lits, opn⟩ (k : Int) = ⟨(out ++ [(k : Int)]), (g.lit :: lits), opn⟩ := by unfold addIn; rw [if_neg (show ¬ (kindAt L (k : Int) = fi ∨ (kindAt L (k : Int) = 2 ∧ -(gateAt L (k : Int)).lit ∈ lits)) from by rw [hgk, hgl]; exact fun q => q.elim (fun q => absurd q (by omega)) (fun q => absurd q.2 c26))]; dsimp only; rw [hlt, hO]
      have hl2 : (out ++ [(k : Int)]).length = out.length + 1 := by simp
      rw [hS]
      refine ⟨(aput g.lit (.bool true) ml), A56, c57, rfl, ?_, zEc hml⟩
      unfold inpE fixE
      dsimp only
      simp only [hl2]
      exact (O70.re [5, 0, 6, 1, 2, 7, 8, 9, 10, 11, 12] rfl)
    ·skip
     refine wc rfl rfl (neq0 (by omega)) rfl rfl <| wm rfl rfl rfl <| zAq rfl rfl <| zAq rfl rfl <| zAq rfl rfl <| zAq rfl rfl <| zAe (v := .bool false) (fun ρ e => zA2 (e _ _ rfl) (e _ _ rfl)) rfl rfl <| wa rfl rfl rfl ?_
     refine zAd <| zAb K36 <| zAf rfl <| zAj <| zAn <| zAb K12 <| zAc fun _ K72 => zAa ?_
     refine wf (q := 0) zBy rfl rfl rfl rfl <| wd ty3 rfl (O10.cell 0 0 rfl rfl) rfl rfl <| wc rfl rfl (eql1 (by omega)) rfl rfl <| zAd <| zAb K72 <| zAl rfl <| zAa <| wd ty135 rfl (O10.cell 1 0 rfl rfl) rfl rfl ?_
     refine wf (q := 1) zCm rfl rfl rfl rfl <| wd ty3 rfl (O10.cell 0 1 rfl rfl) rfl rfl ?_
     obtain ⟨w73, r74, O75, hs76⟩ := zCq (O10.re [2, 0, 1, 3, 4, 5, 6, 7, 8, 9, 10, 11] rfl) intKey Tryz.underlying135 Tryz.underlying3 g.lit (.bool true)
     refine zAv (fun ρ e => r74 ρ _ _ _ _ _ _ _ (e _ _ rfl) (e _ _ rfl) (e _ _ rfl)) rfl <| zAd ?_
     refine zDh (v := .tuple #[]) (fun T hT => res0 rfl T _) ?_
     have hlt : (if kindAt L (k : Int) = 2 then (gateAt L (k : Int)).lit :: lits else lits) = (g.lit :: lits) := by rw [hgk, hgl, if_pos (by omega)]
     have hO : (if kindAt L (k : Int) ≠ dr ∧ (k : Int) ∉ out then out ++ [(k : Int)] else out) = out := by rw [hgk, if_neg (fun q => q.1 (by omega))]
     have hS : addIn L dr fi ⟨out, lits, opn⟩ (k : Int) = ⟨out, (g.lit :: lits), opn⟩ := by unfold addIn; rw [if_neg (show ¬ (kindAt L (k : Int) = fi ∨ (kindAt L (k : Int) = 2 ∧ -(gateAt L (k : Int)).lit ∈ lits)) from by rw [hgk, hgl]; exact fun q => q.elim (fun q => absurd q (by omega)) (fun q => absurd q.2 c26))]; dsimp only; rw [hlt, hO]
     rw [hS]
     refine ⟨(aput g.lit (.bool true) ml), A, cA, rfl, ?_, zEc hml⟩
     unfold inpE fixE
     dsimp only
     exact (O75.re [2, 0, 3, 4, 5, 6, 7, 8, 9, 10, 11] rfl)
  ·skip
   refine wc rfl rfl (eql0 (by omega)) rfl rfl <| wm rfl rfl rfl <| zAq rfl rfl <| zAq rfl rfl <| zAq rfl rfl <| zAq rfl rfl <| zAq rfl rfl <| zAe (v := .bool false) (fun ρ e => zA2 (e _ _ rfl) (e _ _ rfl)) rfl rfl ?_
   refine zAe (v := .bool false) (fun ρ e => zA2 (e _ _ rfl) (e _ _ rfl)) rfl rfl <| wa rfl rfl rfl <| zAd <| zAb K13 <| zAf rfl <| zAc fun _ K77 => zAa <| wf (q := 0) zBy rfl rfl rfl rfl ?_
   refine wd ty3 rfl (O10.cell 0 0 rfl rfl) rfl rfl <| wd ty3 rfl (O10.cell 8 0 rfl rfl) rfl rfl ?_
   by_cases c78 : g.kind ≠ dr
   ·skip
    refine wc rfl rfl (neq1 (by omega)) rfl rfl <| wm rfl rfl rfl <| wd ty57 rfl (O10.cell 4 0 rfl rfl) rfl rfl <| wm rfl rfl rfl ?_
    by_cases c79 : (k : Int) ∈ out
    ·skip
     refine zAs (args := [.slice A out.length cA, .int .i64 (k : Int)]) in_78 rfl rfl rfl ?_
     refine (zDl (x := (k : Int)) (O10.re [5, 0, 1, 2, 3, 4, 6, 7, 8, 9, 10, 11] rfl) (by omega) (decide_eq_true c79)).mono ?_
     rintro _ w80 ⟨rfl, hb81⟩
     have O82 := O10.below hb81
     refine ⟨_, rfl, ?_⟩
     refine zAe (v := .bool false) (fun ρ e => zBw (b := true) (e _ _ rfl)) rfl rfl <| zAe (v := .bool false) (fun ρ e => zBa (e _ _ rfl) (e _ _ rfl)) rfl rfl <| wa rfl rfl rfl <| zAd <| zAb K77 <| zAf rfl <| zAj <| zAn ?_
     refine zAb K12 <| zAc fun _ K83 => zAa <| wf (q := 0) zBy rfl rfl rfl rfl <| wd ty3 rfl (O82.cell 0 0 rfl rfl) rfl rfl <| wc rfl rfl (eql0 (by omega)) rfl rfl <| zAd <| zAb K83 ?_
     refine zAf rfl <| zAj ?_
     refine zDh (v := .tuple #[]) (fun T hT => res0 rfl T _) ?_
     have hlt : (if kindAt L (k : Int) = 2 then (gateAt L (k : Int)).lit :: lits else lits) = lits := by rw [hgk, hgl, if_neg (by omega)]
     have hO : (if kindAt L (k : Int) ≠ dr ∧ (k : Int) ∉ out then out ++ [(k : Int)] else out) = out := by rw [hgk, if_neg (fun q => q.2 c79)]
     have hS : addIn L dr fi ⟨out, lits, opn⟩ (k : Int) = ⟨out, lits, opn⟩ := by unfold addIn; rw [if_neg (show ¬ (kindAt L (k : Int) = fi ∨ (kindAt L (k : Int) = 2 ∧ -(gateAt L (k : Int)).lit ∈ lits)) from by rw [hgk, hgl]; exact fun q => q.elim (fun q => absurd q (by omega)) (fun q => absurd q.1 (by omega)))]; dsimp only; rw [hlt, hO]
     rw [hS]
     refine ⟨ml, A, cA, rfl, ?_, hml⟩
     unfold inpE fixE
     dsimp only
     exact (O82.re [1, 2, 3, 4, 5, 6, 7, 8, 9, 10, 11] rfl)
    ·skip
     refine zAs (args := [.slice A out.length cA, .int .i64 (k : Int)]) in_78 rfl rfl rfl ?_
     refine (zDl (x := (k : Int)) (O10.re [5, 0, 1, 2, 3, 4, 6, 7, 8, 9, 10, 11] rfl) (by omega) (decide_eq_false c79)).mono ?_
     rintro _ w84 ⟨rfl, hb85⟩
     have O86 := O10.below hb85
     refine ⟨_, rfl, ?_⟩
     refine zAe (v := .bool true) (fun ρ e => zBw (b := false) (e _ _ rfl)) rfl rfl <| zAe (v := .bool true) (fun ρ e => zBa (e _ _ rfl) (e _ _ rfl)) rfl rfl <| wa rfl rfl rfl <| zAd <| zAb K77 <| zAl rfl <| zAa <| wd ty57 rfl (O86.cell 4 0 rfl rfl) rfl rfl ?_
     refine wm rfl rfl rfl ?_
     obtain ⟨g87, w88, r89, O90, hg91, hs92⟩ := zBg O86 el57 ze3 1 [(0, .int .i64 (k : Int))] (cs := #[.int .i64 (k : Int)]) (by decide) (by kernel_rfl)
     refine zAe (v := VS0 g87 1 1) (fun ρ e => r89 ρ _ _ _ _ _ _ (e.parts rfl)) rfl rfl ?_
     obtain ⟨A93, c94, w95, r96, O97, hz98, hc99⟩ := zC5 (O90.re [6, 0, 1, 2, 3, 4, 5, 7, 8, 9, 10, 11, 12] rfl) ap57 ((O90.re [6, 0, 1, 2, 3, 4, 5, 7, 8, 9, 10, 11, 12] rfl).blk 1 rfl) (cells := [.int .i64 (k : Int)]) rfl rfl (by omega) (by omega) (ys := (intCs (out ++ [(k : Int)]))) (intCs_snoc2 _ _)
     refine zAe (v := .slice A93 (out.length + 1) c94) (fun ρ e => r96 ρ _ _ _ _ _ _ _ (e _ _ rfl) (e _ _ rfl)) rfl rfl ?_
     obtain ⟨w100, r101, O102, hs103⟩ := zAp (o := 0) (n := 1) (O97.re [6, 0, 1, 2, 3, 4, 5, 7, 8, 9, 10, 11, 12] rfl) ty57 (.slice A93 (out.length + 1) c94) _ (cs' := #[.slice A93 (out.length + 1) c94]) rfl rfl rfl (Nat.le_of_ble_eq_true rfl) rfl
     refine zAv (fun ρ e => r101 ρ _ _ _ _ _ _ (e _ _ rfl) (e _ _ rfl)) rfl <| zAd <| zAn <| zAb K12 <| zAc fun _ K104 => zAa <| wf (q := 0) zBy rfl rfl rfl rfl <| wd ty3 rfl (O102.cell 3 0 rfl rfl) rfl rfl ?_
     refine wc rfl rfl (eql0 (by omega)) rfl rfl <| zAd <| zAb K104 <| zAf rfl <| zAj ?_
     refine zDh (v := .tuple #[]) (fun T hT => res0 rfl T _) ?_
     have hlt : (if kindAt L (k : Int) = 2 then (gateAt L (k : Int)).lit :: lits else lits) = lits := by rw [hgk, hgl, if_neg (by omega)]
     have hO : (if kindAt L (k : Int) ≠ dr ∧ (k : Int) ∉ out then out ++ [(k : Int)] else out) = (out ++ [(k : Int)]) := by rw [hgk, if_pos ⟨by omega, c79⟩]
     have hS : addIn L dr fi ⟨out, lits, opn⟩ (k : Int) = ⟨(out ++ [(k : Int)]), lits, opn⟩ := by unfold addIn; rw [if_neg (show ¬ (kindAt L (k : Int) = fi ∨ (kindAt L (k : Int) = 2 ∧ -(gateAt L (k : Int)).lit ∈ lits)) from by rw [hgk, hgl]; exact fun q => q.elim (fun q => absurd q (by omega)) (fun q => absurd q.1 (by omega)))]; dsimp only; rw [hlt, hO]
     have hl2 : (out ++ [(k : Int)]).length = out.length + 1 := by simp
     rw [hS]
     refine ⟨ml, A93, c94, rfl, ?_, hml⟩
     unfold inpE fixE
     dsimp only
     simp only [hl2]
     exact (O102.re [4, 5, 6, 0, 1, 7, 8, 9, 10, 11, 12] rfl)
   ·skip
    refine wc rfl rfl (neq0 (by omega)) rfl rfl <| wm rfl rfl rfl <| zAq rfl rfl <| zAq rfl rfl <| zAq rfl rfl <| zAq rfl rfl <| zAe (v := .bool false) (fun ρ e => zA2 (e _ _ rfl) (e _ _ rfl)) rfl rfl <| wa rfl rfl rfl ?_
    refine zAd <| zAb K77 <| zAf rfl <| zAj <| zAn <| zAb K12 <| zAc fun _ K105 => zAa ?_
    refine wf (q := 0) zBy rfl rfl rfl rfl <| wd ty3 rfl (O10.cell 0 0 rfl rfl) rfl rfl <| wc rfl rfl (eql0 (by omega)) rfl rfl <| zAd <| zAb K105 <| zAf rfl <| zAj ?_
    refine zDh (v := .tuple #[]) (fun T hT => res0 rfl T _) ?_
    have hlt : (if kindAt L (k : Int) = 2 then (gateAt L (k : Int)).lit :: lits else lits) = lits := by rw [hgk, hgl, if_neg (by omega)]
    have hO : (if kindAt L (k : Int) ≠ dr ∧ (k : Int) ∉ out then out ++ [(k : Int)] else out) = out := by rw [hgk, if_neg (fun q => q.1 (by omega))]
    have hS : addIn L dr fi ⟨out, lits, opn⟩ (k : Int) = ⟨out, lits, opn⟩ := by unfold addIn; rw [if_neg (show ¬ (kindAt L (k : Int) = fi ∨ (kindAt L (k : Int) = 2 ∧ -(gateAt L (k : Int)).lit ∈ lits)) from by rw [hgk, hgl]; exact fun q => q.elim (fun q => absurd q (by omega)) (fun q => absurd q.1 (by omega)))]; dsimp only; rw [hlt, hO]
    rw [hS]
    refine ⟨ml, A, cA, rfl, ?_, hml⟩
    unfold inpE fixE
    dsimp only
    exact (O10.re [1, 2, 3, 4, 5, 6, 7, 8, 9, 10, 11] rfl)
end

end Go.Proofs.YtliiclmhpphpmaaGreatDoor
namespace Go.Proofs.YtliiclmhpphpmaaGreatDoor
open Go Go.RowKit
def accN (B : List Gate) (dr fi : Int) (p : List Int) : InS := p.foldl (addIn B dr fi) ⟨[], [], true⟩
theorem zFw (B : List Gate) (dr fi : Int) (p : List Int) (x : Int) : accN B dr fi (p ++ [x]) = addIn B dr fi (accN B dr fi p) x := by simp [accN]
theorem zH9 : ∀ (n : Nat) (l : List Int), l.Nodup → (∀ x ∈ l, 0 ≤ x ∧ x < (n : Int)) → l.length ≤ n
 | 0, [], _, _ => Nat.le_refl _
 | 0, x :: l, _, h => by have := h x (by simp); omega
 | n + 1, l, hn, h => by
  by_cases hm : (n : Int) ∈ l
  ·have h1 := zH9 n (l.erase (n : Int)) (hn.erase _) (fun x hx => by
    have h2 := (List.Nodup.mem_erase_iff hn).1 hx
    have h3 := h x h2.2
    have h4 := h2.1
    omega)
   rw [List.length_erase_of_mem hm] at h1
   omega
  ·have := zH9 n l hn (fun x hx => by
    have h3 := h x hx
    have h4 : x ≠ (n : Int) := fun e => hm (e ▸ hx)
    omega)
   omega
section
variable {N : Int} {L : List Gate} {l : List Int} {kd dr fi : Int} {i j k : Nat} {g : Gate}
theorem zJg {p : List Int} (hL : L.length ≤ 65536) (hp : ∀ x ∈ p, inB L x) : (accN L dr fi p).out.length ≤ 65536 := by
 have h := InI.all (B := L) (drop := dr) (fin := fi) p [] ⟨[], [], true⟩ ⟨(fun i hi => by simp at hi), (fun _ i hi => by simp at hi), (fun q => by cases q), (fun l hl => by simp at hl), by simp⟩
 rw [List.nil_append] at h
 have := zH9 L.length _ h.nd (fun x hx => hp x (h.mem x hx).1)
 unfold accN
 omega
theorem zE9 (hw : okN N k g) {x : Int} (h : x ∈ g.inp) : 0 ≤ x ∧ x < (k : Int) := hw.1 x h
theorem zFq (hw : WfN N L) (hin : ∀ x ∈ l, inB L x) : ∀ x ∈ flatIn L kd l, inB L x := fun x hx => by
 obtain ⟨i, hi, ⟨_, h⟩ | ⟨_, h⟩⟩ := zCu.1 hx
 ·exact zFn hw (hin i hi) h
 ·rw [h]; exact hin i hi
theorem acc_bound (hw : WfN N L) (hL : L.length ≤ 65536) (hin : ∀ x ∈ l, inB L x) : (accN L dr fi (flatIn L kd (l.take i))).out.length ≤ 65536 :=
 zJg hL (zFq hw (fun x hx => hin x (List.mem_of_mem_take hx)))
theorem acc_bound2 (hw : WfN N L) (hL : L.length ≤ 65536) (hin : ∀ x ∈ l, inB L x) (hx : L[k]? = some g) : (accN L dr fi (flatIn L kd (l.take i) ++ g.inp.take j)).out.length ≤ 65536 := by
 refine zJg hL (fun x h => ?_)
 rcases List.mem_append.1 h with h | h
 ·exact zFq hw (fun x hx => hin x (List.mem_of_mem_take hx)) x h
 ·have h1 := zE9 (hw k g hx) (List.mem_of_mem_take h)
  have h2 := (List.getElem?_eq_some_iff.1 hx).1
  exact ⟨h1.1, by omega⟩
theorem flat_next (hxi : l[i]? = some (k : Int)) (hgk : kindAt L (k : Int) = g.kind) (hgt : gateAt L (k : Int) = g) :
  (g.kind = kd → flatIn L kd (l.take (i + 1)) = flatIn L kd (l.take i) ++ g.inp.take g.inp.length) ∧ (¬ g.kind = kd → flatIn L kd (l.take (i + 1)) = flatIn L kd (l.take i) ++ [(k : Int)]) := by
 have e : l.take (i + 1) = l.take i ++ [(k : Int)] := by rw [List.take_add_one, hxi]; rfl
 rw [e]
 unfold flatIn
 rw [List.flatMap_append]
 constructor
 ·intro h
  rw [List.take_length]
  simp only [List.flatMap_cons, List.flatMap_nil, List.append_nil, hgk, hgt, if_pos h]
 ·intro h
  simp only [List.flatMap_cons, List.flatMap_nil, List.append_nil, hgk, if_neg h]
end
section
variable {Z : Bool → Nat → Prop} {w0 W : World} {bb m rg c bI oI cI : Nat} {N N' kd fi dr : Int} {D D2 : Nat → Prop} {L : List Gate} {vs : List Value} {l : List Int}
theorem inputs0_ (O0 : Own Z w0 W [.blk bb 109 #[.int .i64 N, .slice (some ⟨rg, 0, none⟩) L.length c, .map (some m)], .map m (encL strE (keysO L 0)), .row (.slice (some ⟨rg, 0, none⟩) L.length c) 73 3 L.length (gcells L vs), .ro D (Ins D L vs), .ro TabD Tab, .ro D2 (fun w => IntsD D2 w (.slice (some ⟨bI, oI, none⟩) l.length cI) l)]) (hl0 : 0 < l.length) (hl1 : l.length ≤ 1000000) (hw : WfN N' L) (hL : L.length ≤ 65536) (hin : ∀ x ∈ l, inB L x) (hlit : ∀ (i : Nat) (g : Gate), L[i]? = some g → -1000000 ≤ g.lit ∧ g.lit ≤ 1000000) (hil : ∀ (i : Nat) (g : Gate), L[i]? = some g → g.inp.length ≤ 65536) :
  Calls Tryz.prog 52 #[.pointer (some ⟨bb, 0, none⟩), .slice (some ⟨bI, oI, none⟩) l.length cI, .int .i64 kd, .int .i64 dr, .int .i64 fi] W fun e w' => ∃ A' c', e = .returned (.tuple #[.slice A' (insN L kd dr fi l).out.length c', .bool (insN L kd dr fi l).opn]) ∧
   Own Z w0 w' [.blk bb 109 #[.int .i64 N, .slice (some ⟨rg, 0, none⟩) L.length c, .map (some m)], .map m (encL strE (keysO L 0)), .row (.slice (some ⟨rg, 0, none⟩) L.length c) 73 3 L.length (gcells L vs), .ro D (Ins D L vs), .ro TabD Tab, .row (.slice A' ((insN L kd dr fi l).out.length) c') 3 1 ((insN L kd dr fi l).out.length) (intCs (sortI (insN L kd dr fi l).out))] := by
 have hins : Ins D L vs W := O0.ro 3 rfl
 have hvl := hins.1
 refine zAu (args := [VP bb, .slice (some ⟨bI, oI, none⟩) l.length cI, .int .i64 kd, .int .i64 dr, .int .i64 fi]) Tryz.func52 rfl rfl (by simp) ?_
 refine zAc fun _ K1 => zAa ?_
 obtain ⟨g2, w3, r4, O5, hg6, hs7⟩ := zA5 O0 70 (VP bb) rfl
 refine zAe (v := VP g2) (fun ρ e => r4 ρ _ _ _ _ _ _ (e _ _ rfl)) rfl rfl ?_
 obtain ⟨g8, w9, r10, O11, hg12, hs13⟩ := zA5 O5 3 (.int .i64 dr) rfl
 refine zAe (v := VP g8) (fun ρ e => r10 ρ _ _ _ _ _ _ (e _ _ rfl)) rfl rfl ?_
 obtain ⟨g14, w15, r16, O17, hg18, hs19⟩ := zA5 O11 3 (.int .i64 fi) rfl
 refine zAe (v := VP g14) (fun ρ e => r16 ρ _ _ _ _ _ _ (e _ _ rfl)) rfl rfl <| wa rfl rfl rfl <| wa rfl rfl rfl <| nx K1 fun _ K20 => ?_
 obtain ⟨g21, w22, r23, O24, hg25, hs26⟩ := zAw O17 57 ze57 rfl
 refine zAe (v := VP g21) (fun ρ e => r23 ρ _ _ _ _ _) rfl rfl <| nx K20 fun _ K27 => ?_
 obtain ⟨g28, w29, r30, O31, hg32, hs33⟩ := zE8 O24 135
 refine zAe (v := .map (some g28)) (fun ρ e => r30 ρ _ _ _ _ _) rfl rfl ?_
 obtain ⟨g34, w35, r36, O37, hg38, hs39⟩ := zAw O31 135 ze135 rfl
 refine zAe (v := VP g34) (fun ρ e => r36 ρ _ _ _ _ _) rfl rfl ?_
 obtain ⟨w40, r41, O42, hs43⟩ := zAp (o := 0) (n := 1) O37 ty135 (.map (some g28)) _ (cs' := #[.map (some g28)]) rfl rfl rfl (Nat.le_of_ble_eq_true rfl) rfl
 refine zAv (fun ρ e => r41 ρ _ _ _ _ _ _ (e _ _ rfl) (e _ _ rfl)) rfl <| nx K27 fun _ K44 => ?_
 obtain ⟨g45, w46, r47, O48, hg49, hs50⟩ := zAw O42 4 ze4 rfl
 refine zAe (v := VP g45) (fun ρ e => r47 ρ _ _ _ _ _) rfl rfl ?_
 obtain ⟨w51, r52, O53, hs54⟩ := zAp (o := 0) (n := 1) O48 ty4 (.bool true) _ (cs' := #[.bool true]) rfl rfl rfl (Nat.le_of_ble_eq_true rfl) rfl
 refine zAv (fun ρ e => r52 ρ _ _ _ _ _ _ (e _ _ rfl) (e _ _ rfl)) rfl <| nx K44 fun _ K55 => zAe (v := .func (.func 77) #[] #[VP g2, VP g14, VP g34, VP g45, VP g8, VP g21]) (fun ρ e => zB2 (us := []) (vs := [VP g2, VP g14, VP g34, VP g45, VP g8, VP g21]) (e.list rfl) (e.list rfl)) rfl rfl <| wa rfl rfl rfl ?_
 refine zAd <| zAb K55 <| zAc fun _ K56 => zAc fun _ K57 => ?_
 have O58 := O53.nilrow 3 1
 have O59 := (O58.re [2, 3, 1, 4, 0, 7, 5, 6, 8, 10, 11, 9, 12, 13] rfl)
 refine zAa <| wm rfl rfl rfl <| wz el57 rfl rfl rfl <| wm rfl rfl rfl <| zAd <| zAb K57 <| zAh ?_
 have O60 := O59
 refine zA8 (ι := Nat × List (Int × Value) × Option Addr × Nat) (fun q => [(0, VP bb), (1, .slice (some ⟨bI, oI, none⟩) l.length cI), (2, .int .i64 kd), (5, VP g2), (12, VP g21), (13, VP g34), (14, VP g45), (15, .func (.func 77) #[] #[VP g2, VP g14, VP g34, VP g45, VP g8, VP g21]), (22, .slice (some ⟨bI, oI, none⟩) l.length cI), (23, .int .i64 ((l.length : Nat) : Int)), (24, .int .i64 (q.1 : Int))]) (fun q X => (q.1 ≤ l.length) ∧ (∀ y, lookV (look y q.2.1 0) (.bool false) = .bool (decide (y ∈ (accN L dr fi (flatIn L kd (l.take q.1))).lits))) ∧ Own Z w0 X [.blk g34 135 #[.map (some g28)], .map g28 (encL intE q.2.1), .blk g45 4 #[.bool ((accN L dr fi (flatIn L kd (l.take q.1))).opn)], .blk g21 57 #[.slice q.2.2.1 (((accN L dr fi (flatIn L kd (l.take q.1))).out).length) q.2.2.2], .row (.slice q.2.2.1 (((accN L dr fi (flatIn L kd (l.take q.1))).out).length) q.2.2.2) 3 1 (((accN L dr fi (flatIn L kd (l.take q.1))).out).length) (intCs ((accN L dr fi (flatIn L kd (l.take q.1))).out)), .blk g2 70 #[VP bb], .blk g14 3 #[.int .i64 fi], .blk g8 3 #[.int .i64 dr], .blk bb 109 #[.int .i64 N, VS0 rg L.length c, .map (some m)], .row (VS0 rg L.length c) 73 3 L.length (gcells L vs), .ro D (Ins D L vs), .map m (encL strE (keysO L 0)), .ro TabD Tab, .ro D2 (fun w => IntsD D2 w (.slice (some ⟨bI, oI, none⟩) l.length cI) l)]) (fun q => l.length - q.1) (0, [], none, 0) ⟨Nat.zero_le _, (fun y => by simp [accN, flatIn, look, lookV]), O60⟩ ⟨rfl, rfl, rfl, rfl, rfl, rfl, rfl, rfl, rfl, rfl, rfl, trivial⟩ (fun q w61 hJ F62 K63 => ?_)
 obtain ⟨i, ml, A, cA⟩ := q
 obtain ⟨hi0, hml, O64⟩ := hJ
 dsimp only at hi0 hml O64 ⊢
 by_cases hi : i < l.length
 ·skip
  obtain ⟨xi, hxi⟩ : ∃ x, l[i]? = some x := ⟨l[i], List.getElem?_eq_getElem hi⟩
  obtain ⟨q0, q1⟩ := hin xi (List.mem_of_getElem? hxi)
  obtain ⟨k, rfl⟩ : ∃ k : Nat, xi = (k : Int) := ⟨xi.toNat, by omega⟩
  have hk : k < L.length := by omega
  obtain ⟨g, hx⟩ : ∃ g, L[k]? = some g := ⟨L[k], List.getElem?_eq_getElem hk⟩
  obtain ⟨v, hv⟩ : ∃ v, vs[k]? = some v := ⟨vs[k], List.getElem?_eq_getElem (by omega)⟩
  obtain ⟨AV, cV, rfl⟩ := (hins.2 k g v hx hv).slice
  have hgt : gateAt L (k : Int) = g := by unfold gateAt; rw [List.getD_eq_getElem?_getD]; simp [hx]
  have hgk : kindAt L (k : Int) = g.kind := by unfold kindAt; rw [hgt]
  have hbd := acc_bound (kd := kd) (i := i) (dr := dr) (fi := fi) hw hL hin
  have hwg := hw k g hx
  have hgil := hil k g hx
  refine zAc fun _ K65 => zAa <| wc rfl rfl (lss1 (by omega)) rfl rfl <| zAd <| zAb K65 <| zAc fun _ K66 => zAl rfl <| zAj ?_
  refine zAb K66 <| zAc fun _ K67 => zAh <| zAc fun _ K68 => zAa <| wi (q := oI + i) (i := i) el57 rfl rfl (by omega) (by omega) rfl rfl <| wd (v := .int .i64 (k : Int)) ty3 rfl ((O64.ro 13 rfl : IntsD D2 _ (.slice (some ⟨bI, oI, none⟩) l.length cI) l).at_ hxi) rfl rfl <| wa rfl rfl rfl ?_
  refine zAd <| zAb K68 <| zAc fun _ K69 => zAc fun _ K70 => zAa <| wd ty70 rfl (O64.cell 5 0 rfl rfl) rfl rfl <| wn rfl rfl rfl <| wf (q := 1) zCs rfl rfl rfl rfl ?_
  refine wd ty37 rfl (O64.cell 8 1 rfl rfl) rfl rfl <| wm rfl rfl rfl <| wi (q := k * 3) (i := k) el37 rfl rfl (by omega) (by omega) rfl rfl <| wf (q := k * 3) zBy rfl rfl rfl rfl <| wd (v := .int .i64 g.kind) ty3 rfl (rowcell (O64.row 9 rfl) (zBt hx hv).1) rfl rfl <| wm rfl rfl rfl ?_
  by_cases c71 : g.kind ≠ kd
  ·skip
   have hkd : ¬ (g.kind = kd) := by omega
   refine wc rfl rfl (neq1 (by omega)) rfl rfl <| zAd <| zAb K70 <| zAl rfl <| zAc fun _ K72 => zAa <| wm rfl rfl rfl <| wm rfl rfl rfl ?_
   refine zBz (args := [.int .i64 (k : Int)]) (all := [.int .i64 (k : Int), VP g2, VP g14, VP g34, VP g45, VP g8, VP g21]) in_77 rfl rfl rfl rfl rfl ?_
   obtain ⟨O79h, O79f⟩ := Own.split (A := [.blk g34 135 #[.map (some g28)], .map g28 (encL intE ml), .blk g45 4 #[.bool ((accN L dr fi (flatIn L kd (l.take i))).opn)], .blk g21 57 #[.slice A (((accN L dr fi (flatIn L kd (l.take i))).out).length) cA], .row (.slice A (((accN L dr fi (flatIn L kd (l.take i))).out).length) cA) 3 1 (((accN L dr fi (flatIn L kd (l.take i))).out).length) (intCs ((accN L dr fi (flatIn L kd (l.take i))).out)), .blk g2 70 #[VP bb], .blk g14 3 #[.int .i64 fi], .blk g8 3 #[.int .i64 dr], .blk bb 109 #[.int .i64 N, VS0 rg L.length c, .map (some m)], .row (VS0 rg L.length c) 73 3 L.length (gcells L vs), .ro D (Ins D L vs)]) (R := [.map m (encL strE (keysO L 0)), .ro TabD Tab, .ro D2 (fun w => IntsD D2 w (.slice (some ⟨bI, oI, none⟩) l.length cI) l)]) O64
   refine (inpad0_ (k := k) O79h hk hL hbd hlit hml).mono ?_
   rintro _ w76 ⟨ml73, A74, c75, rfl, h77, hm78⟩
   have O79 := O79f h77
   refine ⟨_, rfl, ?_⟩
   refine zAd <| zAb K72 <| zA6 ?_
   refine zAg (by intro h; cases h) ?_
   refine zA4 <| zAb K67 <| zAa <| zAe (v := .int .i64 ((i + 1 : Nat) : Int)) (fun ρ e => zAi (k := .i64) (u := (i : Int)) (v := 1) (e _ _ rfl) (e _ _ rfl) (congrArg some ((congrArg _ (by omega)).trans (zAo (u := ((i + 1 : Nat) : Int)) (by omega) (by omega))))) rfl rfl <| wm rfl rfl rfl <| zAd ?_
   have hfl : flatIn L kd (l.take (i + 1)) = flatIn L kd (l.take i) ++ [(k : Int)] := flat_next hxi hgk hgt |>.2 hkd
   have O80 : Own Z w0 w76 [.blk g34 135 #[.map (some g28)], .map g28 (encL intE ml73), .blk g45 4 #[.bool ((accN L dr fi (flatIn L kd (l.take (i + 1)))).opn)], .blk g21 57 #[.slice A74 (((accN L dr fi (flatIn L kd (l.take (i + 1)))).out).length) c75], .row (.slice A74 (((accN L dr fi (flatIn L kd (l.take (i + 1)))).out).length) c75) 3 1 (((accN L dr fi (flatIn L kd (l.take (i + 1)))).out).length) (intCs ((accN L dr fi (flatIn L kd (l.take (i + 1)))).out)), .blk g2 70 #[VP bb], .blk g14 3 #[.int .i64 fi], .blk g8 3 #[.int .i64 dr], .blk bb 109 #[.int .i64 N, VS0 rg L.length c, .map (some m)], .row (VS0 rg L.length c) 73 3 L.length (gcells L vs), .ro D (Ins D L vs), .map m (encL strE (keysO L 0)), .ro TabD Tab, .ro D2 (fun w => IntsD D2 w (.slice (some ⟨bI, oI, none⟩) l.length cI) l)] := by rw [hfl]; rw [zFw]; exact O79
   have hmlN : ∀ y, lookV (look y ml73 0) (.bool false) = .bool (decide (y ∈ (accN L dr fi (flatIn L kd (l.take (i + 1)))).lits)) := by rw [hfl]; rw [zFw]; exact hm78
   refine zAt K63 (i + 1, ml73, A74, c75) (by show l.length - (i + 1) < l.length - i; omega) ⟨(by show i + 1 ≤ l.length; omega), hmlN, O80⟩ ⟨rfl, rfl, rfl, rfl, rfl, rfl, rfl, rfl, rfl, rfl, rfl, trivial⟩
  ·skip
   have hkd : (g.kind = kd) := by omega
   refine wc rfl rfl (neq0 (by omega)) rfl rfl <| zAd <| zAb K70 <| zAf rfl <| zAj <| zAb K69 <| zAc fun _ K81 => zAa ?_
   refine wd ty70 rfl (O64.cell 5 0 rfl rfl) rfl rfl <| wn rfl rfl rfl <| wf (q := 1) zCs rfl rfl rfl rfl <| wd ty37 rfl (O64.cell 8 1 rfl rfl) rfl rfl <| wm rfl rfl rfl <| wi (q := k * 3) (i := k) el37 rfl rfl (by omega) (by omega) rfl rfl <| wf (q := k * 3 + 2) zB0 rfl rfl rfl rfl <| wd (v := .slice AV g.inp.length cV) ty57 rfl (rowcell (O64.row 9 rfl) (zBt hx hv).2.2) rfl rfl ?_
   refine wz el57 rfl rfl rfl <| wm rfl rfl rfl <| zAd <| zAb K81 <| zAh ?_
   have hp0 : flatIn L kd (l.take i) ++ g.inp.take 0 = flatIn L kd (l.take i) := by simp
   have O82 : Own Z w0 w61 [.blk g34 135 #[.map (some g28)], .map g28 (encL intE ml), .blk g45 4 #[.bool ((accN L dr fi (flatIn L kd (l.take i) ++ g.inp.take 0)).opn)], .blk g21 57 #[.slice A (((accN L dr fi (flatIn L kd (l.take i) ++ g.inp.take 0)).out).length) cA], .row (.slice A (((accN L dr fi (flatIn L kd (l.take i) ++ g.inp.take 0)).out).length) cA) 3 1 (((accN L dr fi (flatIn L kd (l.take i) ++ g.inp.take 0)).out).length) (intCs ((accN L dr fi (flatIn L kd (l.take i) ++ g.inp.take 0)).out)), .blk g2 70 #[VP bb], .blk g14 3 #[.int .i64 fi], .blk g8 3 #[.int .i64 dr], .blk bb 109 #[.int .i64 N, VS0 rg L.length c, .map (some m)], .row (VS0 rg L.length c) 73 3 L.length (gcells L vs), .ro D (Ins D L vs), .map m (encL strE (keysO L 0)), .ro TabD Tab, .ro D2 (fun w => IntsD D2 w (.slice (some ⟨bI, oI, none⟩) l.length cI) l)] := by rw [hp0]; exact O64
   refine zA8 (ι := Nat × List (Int × Value) × Option Addr × Nat) (fun q => [(0, VP bb), (1, .slice (some ⟨bI, oI, none⟩) l.length cI), (2, .int .i64 kd), (5, VP g2), (12, VP g21), (13, VP g34), (14, VP g45), (15, .func (.func 77) #[] #[VP g2, VP g14, VP g34, VP g45, VP g8, VP g21]), (22, .slice (some ⟨bI, oI, none⟩) l.length cI), (23, .int .i64 ((l.length : Nat) : Int)), (24, .int .i64 (i : Int)), (48, .slice AV g.inp.length cV), (49, .int .i64 ((g.inp.length : Nat) : Int)), (50, .int .i64 (q.1 : Int))]) (fun q X => (q.1 ≤ g.inp.length) ∧ (∀ y, lookV (look y q.2.1 0) (.bool false) = .bool (decide (y ∈ (accN L dr fi (flatIn L kd (l.take i) ++ g.inp.take q.1)).lits))) ∧ Own Z w0 X [.blk g34 135 #[.map (some g28)], .map g28 (encL intE q.2.1), .blk g45 4 #[.bool ((accN L dr fi (flatIn L kd (l.take i) ++ g.inp.take q.1)).opn)], .blk g21 57 #[.slice q.2.2.1 (((accN L dr fi (flatIn L kd (l.take i) ++ g.inp.take q.1)).out).length) q.2.2.2], .row (.slice q.2.2.1 (((accN L dr fi (flatIn L kd (l.take i) ++ g.inp.take q.1)).out).length) q.2.2.2) 3 1 (((accN L dr fi (flatIn L kd (l.take i) ++ g.inp.take q.1)).out).length) (intCs ((accN L dr fi (flatIn L kd (l.take i) ++ g.inp.take q.1)).out)), .blk g2 70 #[VP bb], .blk g14 3 #[.int .i64 fi], .blk g8 3 #[.int .i64 dr], .blk bb 109 #[.int .i64 N, VS0 rg L.length c, .map (some m)], .row (VS0 rg L.length c) 73 3 L.length (gcells L vs), .ro D (Ins D L vs), .map m (encL strE (keysO L 0)), .ro TabD Tab, .ro D2 (fun w => IntsD D2 w (.slice (some ⟨bI, oI, none⟩) l.length cI) l)]) (fun q => g.inp.length - q.1) (0, ml, A, cA) ⟨Nat.zero_le _, (by rw [hp0]; exact hml), O82⟩ ⟨rfl, rfl, rfl, rfl, rfl, rfl, rfl, rfl, rfl, rfl, rfl, rfl, rfl, rfl, trivial⟩ (fun q w83 hJ F84 K85 => ?_)
   obtain ⟨j, ml2, A2, cA2⟩ := q
   obtain ⟨hj0, hml2, O86⟩ := hJ
   dsimp only at hj0 hml2 O86 ⊢
   by_cases hj : j < g.inp.length
   ·skip
    obtain ⟨yj, hy⟩ : ∃ x, g.inp[j]? = some x := ⟨g.inp[j], List.getElem?_eq_getElem hj⟩
    have hyb := zE9 hwg (List.mem_of_getElem? hy)
    obtain ⟨k2, rfl⟩ : ∃ k2 : Nat, yj = (k2 : Int) := ⟨yj.toNat, by omega⟩
    have hk2 : k2 < L.length := by omega
    obtain ⟨b2, o2, c3, hv3⟩ := (hins.2 k g _ hx hv).form (by omega)
    injection hv3 with hA _ hc
    subst hA hc
    have hbd2 := acc_bound2 (kd := kd) (i := i) (j := j) (dr := dr) (fi := fi) hw hL hin hx
    refine zAc fun _ K87 => zAa <| wc rfl rfl (lss1 (by omega)) rfl rfl <| zAd <| zAb K87 <| zAc fun _ K88 => zAl rfl <| zAj ?_
    refine zAb K88 <| zAc fun _ K89 => zAh <| zAc fun _ K90 => zAa <| wi (q := o2 + j) (i := j) el57 rfl rfl (by omega) (by omega) rfl rfl <| wd (v := .int .i64 (k2 : Int)) ty3 rfl (((O86.ro 10 rfl : Ins D L vs _).2 k g _ hx hv).at_ hy) rfl rfl <| wa rfl rfl rfl ?_
    refine zAd <| zAb K90 <| zAa <| wm rfl rfl rfl <| wm rfl rfl rfl ?_
    refine zBz (args := [.int .i64 (k2 : Int)]) (all := [.int .i64 (k2 : Int), VP g2, VP g14, VP g34, VP g45, VP g8, VP g21]) in_77 rfl rfl rfl rfl rfl ?_
    obtain ⟨O97h, O97f⟩ := Own.split (A := [.blk g34 135 #[.map (some g28)], .map g28 (encL intE ml2), .blk g45 4 #[.bool ((accN L dr fi (flatIn L kd (l.take i) ++ g.inp.take j)).opn)], .blk g21 57 #[.slice A2 (((accN L dr fi (flatIn L kd (l.take i) ++ g.inp.take j)).out).length) cA2], .row (.slice A2 (((accN L dr fi (flatIn L kd (l.take i) ++ g.inp.take j)).out).length) cA2) 3 1 (((accN L dr fi (flatIn L kd (l.take i) ++ g.inp.take j)).out).length) (intCs ((accN L dr fi (flatIn L kd (l.take i) ++ g.inp.take j)).out)), .blk g2 70 #[VP bb], .blk g14 3 #[.int .i64 fi], .blk g8 3 #[.int .i64 dr], .blk bb 109 #[.int .i64 N, VS0 rg L.length c, .map (some m)], .row (VS0 rg L.length c) 73 3 L.length (gcells L vs), .ro D (Ins D L vs)]) (R := [.map m (encL strE (keysO L 0)), .ro TabD Tab, .ro D2 (fun w => IntsD D2 w (.slice (some ⟨bI, oI, none⟩) l.length cI) l)]) O86
    refine (inpad0_ (k := k2) O97h hk2 hL hbd2 hlit hml2).mono ?_
    rintro _ w94 ⟨ml91, A92, c93, rfl, h95, hm96⟩
    have O97 := O97f h95
    refine ⟨_, rfl, ?_⟩
    refine zAd <| zAn <| zAb K89 <| zAa <| zAe (v := .int .i64 ((j + 1 : Nat) : Int)) (fun ρ e => zAi (k := .i64) (u := (j : Int)) (v := 1) (e _ _ rfl) (e _ _ rfl) (congrArg some ((congrArg _ (by omega)).trans (zAo (u := ((j + 1 : Nat) : Int)) (by omega) (by omega))))) rfl rfl <| wm rfl rfl rfl <| zAd ?_
    have hpj : flatIn L kd (l.take i) ++ g.inp.take (j + 1) = (flatIn L kd (l.take i) ++ g.inp.take j) ++ [(k2 : Int)] := by rw [List.take_add_one, hy]; simp
    have O98 : Own Z w0 w94 [.blk g34 135 #[.map (some g28)], .map g28 (encL intE ml91), .blk g45 4 #[.bool ((accN L dr fi (flatIn L kd (l.take i) ++ g.inp.take (j + 1))).opn)], .blk g21 57 #[.slice A92 (((accN L dr fi (flatIn L kd (l.take i) ++ g.inp.take (j + 1))).out).length) c93], .row (.slice A92 (((accN L dr fi (flatIn L kd (l.take i) ++ g.inp.take (j + 1))).out).length) c93) 3 1 (((accN L dr fi (flatIn L kd (l.take i) ++ g.inp.take (j + 1))).out).length) (intCs ((accN L dr fi (flatIn L kd (l.take i) ++ g.inp.take (j + 1))).out)), .blk g2 70 #[VP bb], .blk g14 3 #[.int .i64 fi], .blk g8 3 #[.int .i64 dr], .blk bb 109 #[.int .i64 N, VS0 rg L.length c, .map (some m)], .row (VS0 rg L.length c) 73 3 L.length (gcells L vs), .ro D (Ins D L vs), .map m (encL strE (keysO L 0)), .ro TabD Tab, .ro D2 (fun w => IntsD D2 w (.slice (some ⟨bI, oI, none⟩) l.length cI) l)] := by rw [hpj, zFw]; exact O97
    have hmlM : ∀ y, lookV (look y ml91 0) (.bool false) = .bool (decide (y ∈ (accN L dr fi (flatIn L kd (l.take i) ++ g.inp.take (j + 1))).lits)) := by rw [hpj, zFw]; exact hm96
    refine zAt K85 (j + 1, ml91, A92, c93) (by show g.inp.length - (j + 1) < g.inp.length - j; omega) ⟨(by show j + 1 ≤ g.inp.length; omega), hmlM, O98⟩ ⟨rfl, rfl, rfl, rfl, rfl, rfl, rfl, rfl, rfl, rfl, rfl, rfl, rfl, rfl, trivial⟩
   ·have hje : j = g.inp.length := by omega
    subst hje
    refine zAc fun _ K99 => zAa <| wc rfl rfl (lss0 (by omega)) rfl rfl <| zAd <| zAb K99 <| zAc fun _ K100 => zAf rfl <| zA6 ?_
    refine zAg (by intro h; cases h) ?_
    refine zAg (by intro h; cases h) ?_
    refine zA4 <| zAn <| zAb K67 <| zAa <| zAe (v := .int .i64 ((i + 1 : Nat) : Int)) (fun ρ e => zAi (k := .i64) (u := (i : Int)) (v := 1) (e _ _ rfl) (e _ _ rfl) (congrArg some ((congrArg _ (by omega)).trans (zAo (u := ((i + 1 : Nat) : Int)) (by omega) (by omega))))) rfl rfl <| wm rfl rfl rfl <| zAd ?_
    have hfl : flatIn L kd (l.take (i + 1)) = flatIn L kd (l.take i) ++ g.inp.take g.inp.length := flat_next hxi hgk hgt |>.1 hkd
    have O101 : Own Z w0 w83 [.blk g34 135 #[.map (some g28)], .map g28 (encL intE ml2), .blk g45 4 #[.bool ((accN L dr fi (flatIn L kd (l.take (i + 1)))).opn)], .blk g21 57 #[.slice A2 (((accN L dr fi (flatIn L kd (l.take (i + 1)))).out).length) cA2], .row (.slice A2 (((accN L dr fi (flatIn L kd (l.take (i + 1)))).out).length) cA2) 3 1 (((accN L dr fi (flatIn L kd (l.take (i + 1)))).out).length) (intCs ((accN L dr fi (flatIn L kd (l.take (i + 1)))).out)), .blk g2 70 #[VP bb], .blk g14 3 #[.int .i64 fi], .blk g8 3 #[.int .i64 dr], .blk bb 109 #[.int .i64 N, VS0 rg L.length c, .map (some m)], .row (VS0 rg L.length c) 73 3 L.length (gcells L vs), .ro D (Ins D L vs), .map m (encL strE (keysO L 0)), .ro TabD Tab, .ro D2 (fun w => IntsD D2 w (.slice (some ⟨bI, oI, none⟩) l.length cI) l)] := by rw [hfl]; exact O86
    have hmlN : ∀ y, lookV (look y ml2 0) (.bool false) = .bool (decide (y ∈ (accN L dr fi (flatIn L kd (l.take (i + 1)))).lits)) := by rw [hfl]; exact hml2
    refine zAt K63 (i + 1, ml2, A2, cA2) (by show l.length - (i + 1) < l.length - i; omega) ⟨(by show i + 1 ≤ l.length; omega), hmlN, O101⟩ ⟨rfl, rfl, rfl, rfl, rfl, rfl, rfl, rfl, rfl, rfl, rfl, trivial⟩
 ·have hie : i = l.length := by omega
  subst hie
  refine zAc fun _ K102 => zAa <| wc rfl rfl (lss0 (by omega)) rfl rfl <| zAd <| zAb K102 <| zAc fun _ K103 => zAf rfl <| zA6 ?_
  refine zAg (by intro h; cases h) ?_
  refine zAg (by intro h; cases h) ?_
  refine zA4 <| zAb K56 <| zAc fun _ K104 => zAa <| wd ty57 rfl (O64.cell 3 0 rfl rfl) rfl rfl ?_
  refine zAs (args := [.slice A (((accN L dr fi (flatIn L kd (l.take l.length))).out).length) cA]) in_79 rfl rfl rfl ?_
  have hbdE := acc_bound (kd := kd) (i := l.length) (dr := dr) (fi := fi) hw hL hin
  refine (own_sort (O64.re [4, 0, 1, 2, 3, 5, 6, 7, 8, 9, 10, 11, 12, 13] rfl) (by omega)).mono ?_
  rintro _ w105 ⟨rfl, h106⟩
  refine ⟨_, rfl, ?_⟩
  refine zAd <| zAb K104 <| zAc fun _ K108 => ?_
  refine zA1 (fun X => Own Z w0 X [.blk g34 135 #[.map (some g28)], .blk g45 4 #[.bool ((accN L dr fi (flatIn L kd (l.take l.length))).opn)], .blk g21 57 #[.slice A (((accN L dr fi (flatIn L kd (l.take l.length))).out).length) cA], .blk g2 70 #[VP bb], .blk g14 3 #[.int .i64 fi], .blk g8 3 #[.int .i64 dr], .blk bb 109 #[.int .i64 N, VS0 rg L.length c, .map (some m)], .ro D (Ins D L vs), .ro TabD Tab, .ro D2 (fun w => IntsD D2 w (.slice (some ⟨bI, oI, none⟩) l.length cI) l)]) 4 [(0, 0), (1, 0), (2, 2), (3, 2)] (by kernel_rfl) (by kernel_rfl) (PQ.then_ PQ.body) ((h106.re [1, 3, 4, 5, 6, 7, 8, 10, 12, 13] rfl : Own Z w0 w105 [.blk g34 135 #[.map (some g28)], .blk g45 4 #[.bool ((accN L dr fi (flatIn L kd (l.take l.length))).opn)], .blk g21 57 #[.slice A (((accN L dr fi (flatIn L kd (l.take l.length))).out).length) cA], .blk g2 70 #[VP bb], .blk g14 3 #[.int .i64 fi], .blk g8 3 #[.int .i64 dr], .blk bb 109 #[.int .i64 N, VS0 rg L.length c, .map (some m)], .ro D (Ins D L vs), .ro TabD Tab, .ro D2 (fun w => IntsD D2 w (.slice (some ⟨bI, oI, none⟩) l.length cI) l)])).drew ?_
  have O109 := h106.drew
  refine wt0 (v := .slice A (((accN L dr fi (flatIn L kd (l.take l.length))).out).length) cA) rfl (fun ρ e W hW => zAm ty57 (e _ _ rfl) (hW.cell 2 0 rfl rfl)) rfl rfl <| wt0 (v := .bool ((accN L dr fi (flatIn L kd (l.take l.length))).opn)) rfl (fun ρ e W hW => zAm ty4 (e _ _ rfl) (hW.cell 1 0 rfl rfl)) rfl rfl ?_
  refine wt2 (v := .slice A (((accN L dr fi (flatIn L kd (l.take l.length))).out).length) cA) rfl (fun ρ e => zBb (e _ _ rfl)) rfl rfl (O109.re [1, 3, 4, 5, 6, 7, 8, 10, 12, 13] rfl) ?_
  refine wt2 (v := .bool ((accN L dr fi (flatIn L kd (l.take l.length))).opn)) rfl (fun ρ e => zBb (e _ _ rfl)) rfl rfl (O109.re [1, 3, 4, 5, 6, 7, 8, 10, 12, 13] rfl) ?_
  refine zBc <| zAb K108 <| zAz ?_
  refine zAy (v := .tuple #[.slice A (((accN L dr fi (flatIn L kd (l.take l.length))).out).length) cA, .bool ((accN L dr fi (flatIn L kd (l.take l.length))).opn)]) (fun T hT => res2 rfl T _ (hT 10 _ rfl) (hT 11 _ rfl)) ?_
  have hie : accN L dr fi (flatIn L kd (l.take l.length)) = insN L kd dr fi l := by rw [List.take_length]; rfl
  rw [← hie]
  exact ⟨A, cA, rfl, (O109.re [8, 11, 9, 10, 12, 0] rfl)⟩
end

end Go.Proofs.YtliiclmhpphpmaaGreatDoor
namespace Go.Proofs.YtliiclmhpphpmaaGreatDoor
open Go Go.RowKit
theorem ex_ptrnil {ρ : Operand → Value} {d : Option Tmp} {x y : Operand} {t T1 : TypeId} {pos : String} {aft : Array Edge} {gd : Option (Nat × Bool)} {w : World} {b o : Nat} (hx : ρ x = .pointer (some ⟨b, o, none⟩)) (hy : ρ y = .pointer none) : (execOp ρ ⟨d, .binOp .eql 70 x y T1, t, pos, aft, gd⟩).run Tryz.prog w = .ok (.value (.bool false)) w := by
 have h1 : (eqGuard .eql 70 x y (.pointer (some ⟨b, o, none⟩)) (.pointer none)).run Tryz.prog w = .ok () w := rfl
 have h2 : binOp .eql 70 (.pointer (some ⟨b, o, none⟩)) (.pointer none) = (do pure (.bool (← Op.equal 70 (.pointer (some ⟨b, o, none⟩)) (.pointer none)))) := rfl
 have h3 : (Op.equal 70 (.pointer (some ⟨b, o, none⟩)) (.pointer none)).run Tryz.prog w = .ok false w := by
  unfold Op.equal
  rw [show Op.maxDepth = 9999 + 1 from rfl, Op.equalIn]
  simp only [Sem.run_bind, run_underlying Tryz.underlying70, Result.andThen_ok]
  simp [go_sem]
 simp only [execOp, hx, hy, Sem.run_bind, h1, h2, h3, Result.andThen_ok, Sem.run_pure]
theorem ex_mapnil {ρ : Operand → Value} {d : Option Tmp} {x y : Operand} {t T1 : TypeId} {pos : String} {aft : Array Edge} {gd : Option (Nat × Bool)} {w : World} {m : Nat} (hx : ρ x = .map (some m)) (hy : ρ y = .map none) : (execOp ρ ⟨d, .binOp .eql 107 x y T1, t, pos, aft, gd⟩).run Tryz.prog w = .ok (.value (.bool false)) w := by
 have h1 : (eqGuard .eql 107 x y (.map (some m)) (.map none)).run Tryz.prog w = .ok () w := rfl
 have h2 : binOp .eql 107 (.map (some m)) (.map none) = (do pure (.bool (← Op.equal 107 (.map (some m)) (.map none)))) := rfl
 have h3 : (Op.equal 107 (.map (some m)) (.map none)).run Tryz.prog w = .ok false w := by
  unfold Op.equal
  rw [show Op.maxDepth = 9999 + 1 from rfl, Op.equalIn]
  simp only [Sem.run_bind, run_underlying Tryz.underlying107, Result.andThen_ok]
  first | rfl | simp [go_sem]
 simp only [execOp, hx, hy, Sem.run_bind, h1, h2, h3, Result.andThen_ok, Sem.run_pure]
theorem intCs_at3 {l : List Int} {k : Nat} {x : Int} (h : l[k]? = some x) : (intCs l)[k]? = some (.int .i64 x) := by simp [intCs, h]
theorem zF9 {N : Int} {L : List Gate} {l : List Int} {kd dr fi : Int} (hw : WfN N L) (hL : L.length ≤ 65536) (hin : ∀ x ∈ l, inB L x) : (insN L kd dr fi l).out.length ≤ 65536 ∧ ∀ x ∈ (insN L kd dr fi l).out, 0 ≤ x ∧ x < 65536 := by
 have h := zJg (dr := dr) (fi := fi) hL (zFq (kd := kd) hw hin)
 have h2 := zIb L kd dr fi l
 refine ⟨h, fun x hx => ?_⟩
 have h3 := zFq (kd := kd) hw hin x (h2.mem x hx).1
 unfold inB at h3
 omega
section
variable {Z : Bool → Nat → Prop} {w0 W : World} {bb m : Nat} {N : Int} {R : Option Addr} {c : Nat} {D : Nat → Prop} {L : List Gate} {vs : List Value}
theorem nadd0_ {N' : Int} {D2 : Nat → Prop} {AV : Option Addr} {cV : Nat} {x : Gate} (O0 : Own Z w0 W [.blk bb 109 #[.int .i64 N, .slice R L.length c, .map (some m)], .map m (encL strE (keysO L 0)), .row (.slice R L.length c) 73 3 L.length (gcells L vs), .ro D (Ins D L vs), .ro TabD Tab, .ro D2 (fun w => IntsD D2 w (.slice AV x.inp.length cV) x.inp)]) (hw : WfN N' L) (hok : okN N L.length x) (hpos : x.kind = 3 ∨ x.kind = 4 → 0 < x.inp.length) (hxl : x.inp.length ≤ 65536) (hxk : -1000000 ≤ x.kind ∧ x.kind ≤ 1000000) (hxt : -1000000 ≤ x.lit ∧ x.lit ≤ 1000000) (hL : L.length < 65536) (hlit : ∀ (i : Nat) (g : Gate), L[i]? = some g → -1000000 ≤ g.lit ∧ g.lit ≤ 1000000) (hil : ∀ (i : Nat) (g : Gate), L[i]? = some g → g.inp.length ≤ 65536) :
  Calls Tryz.prog 27 #[.pointer (some ⟨bb, 0, none⟩), .agg #[.int .i64 x.kind, .int .i64 x.lit, .slice AV x.inp.length cV]] W fun e w' => ∃ R' c' D' vs', e = .returned (.tuple #[.int .i64 (addN L x).2, .int .i64 0]) ∧ Own Z w0 w' (bldE bb m N R' c' D' (addN L x).1 vs') := by
 refine zAu (args := [VP bb, .agg #[.int .i64 x.kind, .int .i64 x.lit, .slice AV x.inp.length cV]]) Tryz.func27 rfl rfl (by simp) ?_
 refine zAc fun _ K1 => zAa ?_
 obtain ⟨g2, w3, r4, O5, hg6, hs7⟩ := zA5 O0 73 (.agg #[.int .i64 x.kind, .int .i64 x.lit, .slice AV x.inp.length cV]) rfl
 refine zAe (v := VP g2) (fun ρ e => r4 ρ _ _ _ _ _ _ (e _ _ rfl)) rfl rfl <| wa rfl rfl rfl <| wa rfl rfl rfl <| zAd <| zAb K1 <| zAc fun _ K8 => zAc fun _ K9 => zAa ?_
 refine wm rfl rfl rfl <| zAe (v := .bool false) (fun ρ e => ex_ptrnil (e _ _ rfl) (e _ _ rfl)) rfl rfl <| wm rfl rfl rfl <| wm rfl rfl rfl <| wn rfl rfl rfl <| wf (q := 2) zHj rfl rfl rfl rfl <| wd ty107 rfl (O5.cell 1 2 rfl rfl) rfl rfl <| zAe (v := .bool false) (fun ρ e => ex_mapnil (e _ _ rfl) (e _ _ rfl)) rfl rfl ?_
 refine zAe (v := .bool false) (fun ρ e => zA2 (e _ _ rfl) (e _ _ rfl)) rfl rfl <| zAd <| zAb K9 <| zAf rfl <| zAj <| zAb K8 <| zAc fun _ K10 => zAc fun _ K11 => ?_
 refine zA1 (fun X => Own Z w0 X [.blk g2 73 #[.int .i64 x.kind, .int .i64 x.lit, .slice AV x.inp.length cV], .blk bb 109 #[.int .i64 N, .slice R L.length c, .map (some m)], .ro D (Ins D L vs), .ro TabD Tab, .ro D2 (fun w => IntsD D2 w (.slice AV x.inp.length cV) x.inp)]) 12 [(0, 0), (1, 1), (2, 1), (3, 1), (4, 0), (5, 1), (6, 1), (7, 1), (8, 0), (9, 1), (10, 2), (11, 1)] (by kernel_rfl) (by kernel_rfl) (PQ.then_ (PQ.then_ PQ.body)) ((O5.re [0, 1, 4, 5, 6] rfl)).drew ?_
 have O12 := O5.drew
 refine wt0 (v := .agg #[.int .i64 x.kind, .int .i64 x.lit, .slice AV x.inp.length cV]) rfl (fun ρ e W hW => zAk (vs := [.int .i64 x.kind, .int .i64 x.lit, .slice AV x.inp.length cV]) ty73 (e _ _ rfl) rfl (hW.cells 0 0 rfl rfl)) rfl rfl <| tm rfl rfl rfl rfl <| tn rfl rfl rfl rfl <| wt1 (v := VP bb) rfl (fun ρ e W => zBd (q := 0) fi109_0 (e _ _ rfl) rfl) rfl rfl <| wt0 (v := .int .i64 N) rfl (fun ρ e W hW => zAm ty3 (e _ _ rfl) (hW.cell 1 0 rfl rfl)) rfl rfl <| tm rfl rfl rfl rfl <| tn rfl rfl rfl rfl <| wt1 (v := .pointer (some ⟨bb, 1, none⟩)) rfl (fun ρ e W => zBd (q := 1) zCs (e _ _ rfl) rfl) rfl rfl ?_
 refine wt0 (v := .slice R L.length c) rfl (fun ρ e W hW => zAm ty37 (e _ _ rfl) (hW.cell 1 1 rfl rfl)) rfl rfl <| wt1 (v := .int .i64 ((L.length : Nat) : Int)) rfl (fun ρ e W => zGn el37 (e _ _ rfl)) rfl rfl ?_
 refine zA7 (args := [.agg #[.int .i64 x.kind, .int .i64 x.lit, .slice AV x.inp.length cV], .int .i64 N, .int .i64 ((L.length : Nat) : Int)]) rfl in_50 rfl rfl rfl ?_
 refine (nformed_ (i := L.length) (O12.ro 6 rfl : IntsD D2 _ _ x.inp) (O12.get 6 rfl).2.1 hok).mono ?_
 rintro _ w13 ⟨rfl, hb14⟩
 have O15 := O12.below hb14
 refine ⟨_, rfl, (O15.re [0, 1, 4, 5, 6] rfl), ?_⟩
 refine wt1 (v := .bool false) rfl (fun ρ e W => zBw (b := true) (e _ _ rfl)) rfl rfl <| zBc <| zAb K11 <| zAf rfl <| zAj <| zAb K10 <| zAc fun _ K16 => zAa ?_
 refine wa rfl rfl rfl <| wa rfl rfl rfl <| zAd <| zAb K16 <| zAc fun _ K17 => zAc fun _ K18 => zAa <| wf (q := 0) zBy rfl rfl rfl rfl ?_
 refine wd ty3 rfl (O15.cell 0 0 rfl rfl) rfl rfl <| zAd <| zAb K18 <| zAh <| zAc fun _ K19 => zAa ?_
 by_cases c20 : x.kind = 3
 ·skip
  have hk34 : x.kind = 3 ∨ x.kind = 4 := by omega
  have hdf : dropOf x.kind = 1 ∧ finOf x.kind = 0 := by unfold dropOf finOf; rw [if_pos (by omega), if_pos (by omega)]; exact ⟨rfl, rfl⟩
  refine wc rfl rfl (eql1 (by omega)) rfl rfl <| wa rfl rfl rfl <| zAd <| zAb K19 <| zAl rfl <| zAj <| zAn <| zAb K17 ?_
  refine zAc fun _ K21 => zAa <| wm rfl rfl rfl <| wf (q := 2) zB0 rfl rfl rfl rfl <| wd ty57 rfl (O15.cell 0 2 rfl rfl) rfl rfl <| wf (q := 0) zBy rfl rfl rfl rfl <| wd ty3 rfl (O15.cell 0 0 rfl rfl) rfl rfl <| wm rfl rfl rfl ?_
  refine wm rfl rfl rfl ?_
  refine zAs (args := [VP bb, .slice AV x.inp.length cV, .int .i64 x.kind, .int .i64 1, .int .i64 0]) in_52 rfl rfl rfl ?_
  have hi0 := hpos hk34
  have hin : ∀ i ∈ x.inp, inB L i := fun i hi => hok.1 i hi
  have hL0 : 0 < L.length := by have := hin _ (List.getElem_mem hi0); unfold inB at this; omega
  obtain ⟨rg, rfl⟩ := rowaddr (O15.row 3 rfl) hL0
  obtain ⟨bI, oI, cI, hvI⟩ := (O15.ro 6 rfl : IntsD D2 _ _ x.inp).form hi0
  injection hvI with hA _ hc
  subst hA hc
  obtain ⟨O26h, O26f⟩ := Own.split (A := [.blk bb 109 #[.int .i64 N, VS0 rg L.length c, .map (some m)], .map m (encL strE (keysO L 0)), .row (VS0 rg L.length c) 73 3 L.length (gcells L vs), .ro D (Ins D L vs), .ro TabD Tab, .ro D2 (fun w => IntsD D2 w (.slice (some ⟨bI, oI, none⟩) x.inp.length cV) x.inp)]) (R := [.blk g2 73 #[.int .i64 x.kind, .int .i64 x.lit, .slice (some ⟨bI, oI, none⟩) x.inp.length cV]]) (O15.re [1, 2, 3, 4, 5, 6, 0] rfl)
  refine (inputs0_ (kd := x.kind) (dr := 1) (fi := 0) O26h hi0 (by omega) hw (by omega) hin hlit hil).mono ?_
  rintro _ w24 ⟨A22, c23, rfl, h25⟩
  have O26 := O26f h25
  have hsl : (sortI (insN L x.kind 1 0 x.inp).out).length = (insN L x.kind 1 0 x.inp).out.length := (zDa _).length_eq
  have hob := zF9 (kd := x.kind) (dr := 1) (fi := 0) hw (show L.length ≤ 65536 by omega) hin
  refine ⟨_, rfl, ?_⟩
  refine wm rfl rfl rfl <| we rfl rfl rfl rfl <| we rfl rfl rfl rfl <| wa rfl rfl rfl <| wa rfl rfl rfl <| zAd <| zAb K21 <| zAc fun _ K27 => ?_
  refine zAh <| zAc fun _ K28 => zAa <| wm rfl rfl rfl <| zAe (v := .bool (!(insN L x.kind 1 0 x.inp).opn)) (fun ρ e => zBw (b := (insN L x.kind 1 0 x.inp).opn) (e _ _ rfl)) rfl rfl <| wa rfl rfl rfl <| zAd <| zAb K28 ?_
  refine cw_cond (b := (!(insN L x.kind 1 0 x.inp).opn)) rfl (fun c29 => ?_) (fun c29 => ?_)
  ·skip
   refine zAc fun _ K30 => zAa <| wm rfl rfl rfl <| wm rfl rfl rfl <| zAe (v := .agg #[.int .i64 0, .int .i64 0, .slice none 0 0]) (fun ρ e => zBe (cells := #[.int .i64 0, .int .i64 0, .slice none 0 0]) st73 (e.parts rfl) rfl) rfl rfl ?_
   refine zAs (args := [VP bb, .agg #[.int .i64 0, .int .i64 0, .slice none 0 0]]) zI4 rfl rfl rfl ?_
   have O31 := O26.nilin
   obtain ⟨O38h, O38f⟩ := Own.split (A := [.blk bb 109 #[.int .i64 N, VS0 rg L.length c, .map (some m)], .map m (encL strE (keysO L 0)), .row (VS0 rg L.length c) 73 3 L.length (gcells L vs), .ro D (Ins D L vs), .ro TabD Tab, .ro (fun _ => False) (fun w => IntsD (fun _ => False) w (.slice none 0 0) [])]) (R := [.row (.slice A22 ((insN L x.kind 1 0 x.inp).out.length) c23) 3 1 ((insN L x.kind 1 0 x.inp).out.length) (intCs (sortI (insN L x.kind 1 0 x.inp).out)), .blk g2 73 #[.int .i64 x.kind, .int .i64 x.lit, .slice (some ⟨bI, oI, none⟩) x.inp.length cV]]) (O31.re [1, 2, 3, 4, 5, 0, 6, 7] rfl)
   refine (put_ (g := ⟨0, 0, []⟩) (D2 := (fun _ => False)) (V := .slice none 0 0) O38h (fun y hy => by simp only [List.mem_cons, List.not_mem_nil, or_false] at hy; rcases hy with rfl | rfl <;> omega) (Nat.zero_le _) hL).mono ?_
   rintro _ w36 ⟨R32, c33, D34, vs35, rfl, h37⟩
   have O38 := O38f h37
   refine ⟨_, rfl, ?_⟩
   refine we rfl rfl rfl rfl <| we rfl rfl rfl rfl <| wa rfl rfl rfl <| wa rfl rfl rfl <| zAd <| zAb K30 <| zAz ?_
   refine zA3 ?_
   refine zAg (by intro h; cases h) ?_
   refine zAy (v := .tuple #[.int .i64 ((findG L ⟨0, 0, []⟩).2), .int .i64 0]) (fun T hT => res2 rfl T _ (hT 4 _ rfl) (hT 5 _ rfl)) ?_
   have hopn : (insN L x.kind 1 0 x.inp).opn = false := by simpa using c29
   have hq : addN L x = findG L ⟨0, 0, []⟩ := by unfold addN; rw [hdf.1, hdf.2, if_pos hk34, if_pos hopn]
   rw [hq]
   exact ⟨R32, c33, D34, vs35, rfl, (O38.re [0, 1, 2, 3, 4] rfl)⟩
  ·skip
   refine zAc fun _ K39 => zAa <| wm rfl rfl rfl <| wz el57 rfl rfl rfl ?_
   by_cases c40 : (((insN L x.kind 1 0 x.inp).out.length : Nat) : Int) = 0
   ·skip
    refine wc rfl rfl (eql1 (by omega)) rfl rfl <| wa rfl rfl rfl <| zAd <| zAb K39 <| zAl rfl <| zAc fun _ K41 => zAa <| wm rfl rfl rfl ?_
    refine wm rfl rfl rfl <| zAe (v := .agg #[.int .i64 1, .int .i64 0, .slice none 0 0]) (fun ρ e => zBe (cells := #[.int .i64 1, .int .i64 0, .slice none 0 0]) st73 (e.parts rfl) rfl) rfl rfl ?_
    refine zAs (args := [VP bb, .agg #[.int .i64 1, .int .i64 0, .slice none 0 0]]) zI4 rfl rfl rfl ?_
    have O42 := O26.nilin
    obtain ⟨O49h, O49f⟩ := Own.split (A := [.blk bb 109 #[.int .i64 N, VS0 rg L.length c, .map (some m)], .map m (encL strE (keysO L 0)), .row (VS0 rg L.length c) 73 3 L.length (gcells L vs), .ro D (Ins D L vs), .ro TabD Tab, .ro (fun _ => False) (fun w => IntsD (fun _ => False) w (.slice none 0 0) [])]) (R := [.row (.slice A22 ((insN L x.kind 1 0 x.inp).out.length) c23) 3 1 ((insN L x.kind 1 0 x.inp).out.length) (intCs (sortI (insN L x.kind 1 0 x.inp).out)), .blk g2 73 #[.int .i64 x.kind, .int .i64 x.lit, .slice (some ⟨bI, oI, none⟩) x.inp.length cV]]) (O42.re [1, 2, 3, 4, 5, 0, 6, 7] rfl)
    refine (put_ (g := ⟨1, 0, []⟩) (D2 := (fun _ => False)) (V := .slice none 0 0) O49h (fun y hy => by simp only [List.mem_cons, List.not_mem_nil, or_false] at hy; rcases hy with rfl | rfl <;> omega) (Nat.zero_le _) hL).mono ?_
    rintro _ w47 ⟨R43, c44, D45, vs46, rfl, h48⟩
    have O49 := O49f h48
    refine ⟨_, rfl, ?_⟩
    refine we rfl rfl rfl rfl <| we rfl rfl rfl rfl <| wa rfl rfl rfl <| wa rfl rfl rfl <| zAd <| zAb K41 <| zAz ?_
    refine zA3 ?_
    refine zAg (by intro h; cases h) ?_
    refine zAy (v := .tuple #[.int .i64 ((findG L ⟨1, 0, []⟩).2), .int .i64 0]) (fun T hT => res2 rfl T _ (hT 4 _ rfl) (hT 5 _ rfl)) ?_
    have hopn : (insN L x.kind 1 0 x.inp).opn = true := by simpa using c29
    have hq : addN L x = findG L ⟨1, 0, []⟩ := by unfold addN; rw [hdf.1, hdf.2, if_pos hk34, if_neg (by rw [hopn]; exact Bool.noConfusion), if_pos (List.length_eq_zero_iff.1 (show (insN L x.kind 1 0 x.inp).out.length = 0 by omega))]
    rw [hq]
    exact ⟨R43, c44, D45, vs46, rfl, (O49.re [0, 1, 2, 3, 4] rfl)⟩
   ·skip
    refine wc rfl rfl (eql0 (by omega)) rfl rfl <| wa rfl rfl rfl <| zAd <| zAb K39 <| zAf rfl <| zAc fun _ K50 => zAa <| wm rfl rfl rfl ?_
    refine wz el57 rfl rfl rfl ?_
    by_cases c51 : (((insN L x.kind 1 0 x.inp).out.length : Nat) : Int) = 1
    ·skip
     refine wc rfl rfl (eql1 (by omega)) rfl rfl <| wa rfl rfl rfl <| zAd <| zAb K50 <| zAl rfl <| zAc fun _ K52 => zAa <| wm rfl rfl rfl ?_
     obtain ⟨ag53, rfl⟩ := rowaddr (O26.row 5 rfl) (by omega)
     refine wi (q := 0) (i := 0) el57 rfl rfl (by omega) (by omega) rfl rfl <| wd (v := .int .i64 ((sortI (insN L x.kind 1 0 x.inp).out).getD 0 0)) ty3 rfl (rowcell (O26.row 5 rfl) (intCs_at3 (zBh (by omega)))) rfl rfl <| wa rfl rfl rfl <| wa rfl rfl rfl <| zAd <| zAb K52 <| zAz ?_
     refine zA3 ?_
     refine zAg (by intro h; cases h) ?_
     refine zAy (v := .tuple #[.int .i64 ((sortI (insN L x.kind 1 0 x.inp).out).getD 0 0), .int .i64 0]) (fun T hT => res2 rfl T _ (hT 4 _ rfl) (hT 5 _ rfl)) ?_
     have hopn : (insN L x.kind 1 0 x.inp).opn = true := by simpa using c29
     have hq : addN L x = (L, (sortI (insN L x.kind 1 0 x.inp).out).getD 0 0) := by unfold addN; rw [hdf.1, hdf.2, if_pos hk34, if_neg (by rw [hopn]; exact Bool.noConfusion), if_neg (fun e => absurd (congrArg List.length e) (show ¬ (insN L x.kind 1 0 x.inp).out.length = 0 by omega)), if_pos (by omega)]
     rw [hq]
     exact ⟨(some ⟨rg, 0, none⟩), c, D, vs, rfl, (O26.re [0, 1, 2, 3, 4] rfl)⟩
    ·skip
     refine wc rfl rfl (eql0 (by omega)) rfl rfl <| wa rfl rfl rfl <| zAd <| zAb K50 <| zAf rfl <| zAj <| zAn <| zAb K27 ?_
     refine zAc fun _ K54 => zAa <| wm rfl rfl rfl <| wf (q := 0) zBy rfl rfl rfl rfl <| wd ty3 rfl (O26.cell 6 0 rfl rfl) rfl rfl <| wm rfl rfl rfl <| zAe (v := .agg #[.int .i64 x.kind, .int .i64 0, .slice A22 ((insN L x.kind 1 0 x.inp).out.length) c23]) (fun ρ e => zBe (cells := #[.int .i64 x.kind, .int .i64 0, .slice A22 ((insN L x.kind 1 0 x.inp).out.length) c23]) st73 (e.parts rfl) rfl) rfl rfl ?_
     refine zAs (args := [VP bb, .agg #[.int .i64 x.kind, .int .i64 0, .slice A22 ((insN L x.kind 1 0 x.inp).out.length) c23]]) zI4 rfl rfl rfl ?_
     have O55 := Own.rowin (O26.re [5, 0, 1, 2, 3, 4, 6] rfl)
     obtain ⟨O62h, O62f⟩ := Own.split (A := [.blk bb 109 #[.int .i64 N, VS0 rg L.length c, .map (some m)], .map m (encL strE (keysO L 0)), .row (VS0 rg L.length c) 73 3 L.length (gcells L vs), .ro D (Ins D L vs), .ro TabD Tab, .ro (fun k => Value.ownBlock (.slice A22 ((insN L x.kind 1 0 x.inp).out.length) c23) = some k) (fun w => IntsD (fun k => Value.ownBlock (.slice A22 ((insN L x.kind 1 0 x.inp).out.length) c23) = some k) w (.slice A22 ((insN L x.kind 1 0 x.inp).out.length) c23) (sortI (insN L x.kind 1 0 x.inp).out))]) (R := [.blk g2 73 #[.int .i64 x.kind, .int .i64 x.lit, .slice (some ⟨bI, oI, none⟩) x.inp.length cV]]) (O55.re [1, 2, 3, 4, 5, 0, 6] rfl)
     refine (put_ (g := ⟨x.kind, 0, (sortI (insN L x.kind 1 0 x.inp).out)⟩) (D2 := (fun k => Value.ownBlock (.slice A22 ((insN L x.kind 1 0 x.inp).out.length) c23) = some k)) (V := .slice A22 ((insN L x.kind 1 0 x.inp).out.length) c23) O62h (fun y hy => by simp only [List.mem_cons] at hy; rcases hy with rfl | rfl | hy <;> first | omega | (have := hob.2 y (zB6.1 hy); omega)) (by rw [hsl]; have := hob.1; omega) hL).mono ?_
     rintro _ w60 ⟨R56, c57, D58, vs59, rfl, h61⟩
     have O62 := O62f h61
     refine ⟨_, rfl, ?_⟩
     refine we rfl rfl rfl rfl <| we rfl rfl rfl rfl <| wa rfl rfl rfl <| wa rfl rfl rfl <| zAd <| zAb K54 <| zAz ?_
     refine zAy (v := .tuple #[.int .i64 ((findG L ⟨x.kind, 0, (sortI (insN L x.kind 1 0 x.inp).out)⟩).2), .int .i64 0]) (fun T hT => res2 rfl T _ (hT 4 _ rfl) (hT 5 _ rfl)) ?_
     have hopn : (insN L x.kind 1 0 x.inp).opn = true := by simpa using c29
     have hq : addN L x = findG L ⟨x.kind, 0, sortI (insN L x.kind 1 0 x.inp).out⟩ := by unfold addN; rw [hdf.1, hdf.2, if_pos hk34, if_neg (by rw [hopn]; exact Bool.noConfusion), if_neg (fun e => absurd (congrArg List.length e) (show ¬ (insN L x.kind 1 0 x.inp).out.length = 0 by omega)), if_neg (by omega)]
     rw [hq]
     exact ⟨R56, c57, D58, vs59, rfl, (O62.re [0, 1, 2, 3, 4] rfl)⟩
 ·skip
  refine wc rfl rfl (eql0 (by omega)) rfl rfl <| wa rfl rfl rfl <| zAd <| zAb K19 <| zAf rfl <| zAc fun _ K63 => zAa ?_
  by_cases c64 : x.kind = 4
  ·skip
   have hk34 : x.kind = 3 ∨ x.kind = 4 := by omega
   have hdf : dropOf x.kind = 0 ∧ finOf x.kind = 1 := by unfold dropOf finOf; rw [if_neg (by omega), if_neg (by omega)]; exact ⟨rfl, rfl⟩
   refine wc rfl rfl (eql1 (by omega)) rfl rfl <| wa rfl rfl rfl <| zAd <| zAb K63 <| zAl rfl <| zAa <| wm rfl rfl rfl <| wm rfl rfl rfl ?_
   refine wa rfl rfl rfl <| wa rfl rfl rfl <| zAd <| zAn <| zAb K17 <| zAc fun _ K65 => zAa <| wm rfl rfl rfl ?_
   refine wf (q := 2) zB0 rfl rfl rfl rfl <| wd ty57 rfl (O15.cell 0 2 rfl rfl) rfl rfl <| wf (q := 0) zBy rfl rfl rfl rfl <| wd ty3 rfl (O15.cell 0 0 rfl rfl) rfl rfl <| wm rfl rfl rfl <| wm rfl rfl rfl ?_
   refine zAs (args := [VP bb, .slice AV x.inp.length cV, .int .i64 x.kind, .int .i64 0, .int .i64 1]) in_52 rfl rfl rfl ?_
   have hi0 := hpos hk34
   have hin : ∀ i ∈ x.inp, inB L i := fun i hi => hok.1 i hi
   have hL0 : 0 < L.length := by have := hin _ (List.getElem_mem hi0); unfold inB at this; omega
   obtain ⟨rg, rfl⟩ := rowaddr (O15.row 3 rfl) hL0
   obtain ⟨bI, oI, cI, hvI⟩ := (O15.ro 6 rfl : IntsD D2 _ _ x.inp).form hi0
   injection hvI with hA _ hc
   subst hA hc
   obtain ⟨O70h, O70f⟩ := Own.split (A := [.blk bb 109 #[.int .i64 N, VS0 rg L.length c, .map (some m)], .map m (encL strE (keysO L 0)), .row (VS0 rg L.length c) 73 3 L.length (gcells L vs), .ro D (Ins D L vs), .ro TabD Tab, .ro D2 (fun w => IntsD D2 w (.slice (some ⟨bI, oI, none⟩) x.inp.length cV) x.inp)]) (R := [.blk g2 73 #[.int .i64 x.kind, .int .i64 x.lit, .slice (some ⟨bI, oI, none⟩) x.inp.length cV]]) (O15.re [1, 2, 3, 4, 5, 6, 0] rfl)
   refine (inputs0_ (kd := x.kind) (dr := 0) (fi := 1) O70h hi0 (by omega) hw (by omega) hin hlit hil).mono ?_
   rintro _ w68 ⟨A66, c67, rfl, h69⟩
   have O70 := O70f h69
   have hsl : (sortI (insN L x.kind 0 1 x.inp).out).length = (insN L x.kind 0 1 x.inp).out.length := (zDa _).length_eq
   have hob := zF9 (kd := x.kind) (dr := 0) (fi := 1) hw (show L.length ≤ 65536 by omega) hin
   refine ⟨_, rfl, ?_⟩
   refine wm rfl rfl rfl <| we rfl rfl rfl rfl <| we rfl rfl rfl rfl <| wa rfl rfl rfl <| wa rfl rfl rfl <| zAd <| zAb K65 <| zAc fun _ K71 => ?_
   refine zAh <| zAc fun _ K72 => zAa <| wm rfl rfl rfl <| zAe (v := .bool (!(insN L x.kind 0 1 x.inp).opn)) (fun ρ e => zBw (b := (insN L x.kind 0 1 x.inp).opn) (e _ _ rfl)) rfl rfl <| wa rfl rfl rfl <| zAd <| zAb K72 ?_
   refine cw_cond (b := (!(insN L x.kind 0 1 x.inp).opn)) rfl (fun c73 => ?_) (fun c73 => ?_)
   ·skip
    refine zAc fun _ K74 => zAa <| wm rfl rfl rfl <| wm rfl rfl rfl <| zAe (v := .agg #[.int .i64 1, .int .i64 0, .slice none 0 0]) (fun ρ e => zBe (cells := #[.int .i64 1, .int .i64 0, .slice none 0 0]) st73 (e.parts rfl) rfl) rfl rfl ?_
    refine zAs (args := [VP bb, .agg #[.int .i64 1, .int .i64 0, .slice none 0 0]]) zI4 rfl rfl rfl ?_
    have O75 := O70.nilin
    obtain ⟨O82h, O82f⟩ := Own.split (A := [.blk bb 109 #[.int .i64 N, VS0 rg L.length c, .map (some m)], .map m (encL strE (keysO L 0)), .row (VS0 rg L.length c) 73 3 L.length (gcells L vs), .ro D (Ins D L vs), .ro TabD Tab, .ro (fun _ => False) (fun w => IntsD (fun _ => False) w (.slice none 0 0) [])]) (R := [.row (.slice A66 ((insN L x.kind 0 1 x.inp).out.length) c67) 3 1 ((insN L x.kind 0 1 x.inp).out.length) (intCs (sortI (insN L x.kind 0 1 x.inp).out)), .blk g2 73 #[.int .i64 x.kind, .int .i64 x.lit, .slice (some ⟨bI, oI, none⟩) x.inp.length cV]]) (O75.re [1, 2, 3, 4, 5, 0, 6, 7] rfl)
    refine (put_ (g := ⟨1, 0, []⟩) (D2 := (fun _ => False)) (V := .slice none 0 0) O82h (fun y hy => by simp only [List.mem_cons, List.not_mem_nil, or_false] at hy; rcases hy with rfl | rfl <;> omega) (Nat.zero_le _) hL).mono ?_
    rintro _ w80 ⟨R76, c77, D78, vs79, rfl, h81⟩
    have O82 := O82f h81
    refine ⟨_, rfl, ?_⟩
    refine we rfl rfl rfl rfl <| we rfl rfl rfl rfl <| wa rfl rfl rfl <| wa rfl rfl rfl <| zAd <| zAb K74 <| zAz ?_
    refine zA3 ?_
    refine zAg (by intro h; cases h) ?_
    refine zAy (v := .tuple #[.int .i64 ((findG L ⟨1, 0, []⟩).2), .int .i64 0]) (fun T hT => res2 rfl T _ (hT 4 _ rfl) (hT 5 _ rfl)) ?_
    have hopn : (insN L x.kind 0 1 x.inp).opn = false := by simpa using c73
    have hq : addN L x = findG L ⟨1, 0, []⟩ := by unfold addN; rw [hdf.1, hdf.2, if_pos hk34, if_pos hopn]
    rw [hq]
    exact ⟨R76, c77, D78, vs79, rfl, (O82.re [0, 1, 2, 3, 4] rfl)⟩
   ·skip
    refine zAc fun _ K83 => zAa <| wm rfl rfl rfl <| wz el57 rfl rfl rfl ?_
    by_cases c84 : (((insN L x.kind 0 1 x.inp).out.length : Nat) : Int) = 0
    ·skip
     refine wc rfl rfl (eql1 (by omega)) rfl rfl <| wa rfl rfl rfl <| zAd <| zAb K83 <| zAl rfl <| zAc fun _ K85 => zAa <| wm rfl rfl rfl ?_
     refine wm rfl rfl rfl <| zAe (v := .agg #[.int .i64 0, .int .i64 0, .slice none 0 0]) (fun ρ e => zBe (cells := #[.int .i64 0, .int .i64 0, .slice none 0 0]) st73 (e.parts rfl) rfl) rfl rfl ?_
     refine zAs (args := [VP bb, .agg #[.int .i64 0, .int .i64 0, .slice none 0 0]]) zI4 rfl rfl rfl ?_
     have O86 := O70.nilin
     obtain ⟨O93h, O93f⟩ := Own.split (A := [.blk bb 109 #[.int .i64 N, VS0 rg L.length c, .map (some m)], .map m (encL strE (keysO L 0)), .row (VS0 rg L.length c) 73 3 L.length (gcells L vs), .ro D (Ins D L vs), .ro TabD Tab, .ro (fun _ => False) (fun w => IntsD (fun _ => False) w (.slice none 0 0) [])]) (R := [.row (.slice A66 ((insN L x.kind 0 1 x.inp).out.length) c67) 3 1 ((insN L x.kind 0 1 x.inp).out.length) (intCs (sortI (insN L x.kind 0 1 x.inp).out)), .blk g2 73 #[.int .i64 x.kind, .int .i64 x.lit, .slice (some ⟨bI, oI, none⟩) x.inp.length cV]]) (O86.re [1, 2, 3, 4, 5, 0, 6, 7] rfl)
     refine (put_ (g := ⟨0, 0, []⟩) (D2 := (fun _ => False)) (V := .slice none 0 0) O93h (fun y hy => by simp only [List.mem_cons, List.not_mem_nil, or_false] at hy; rcases hy with rfl | rfl <;> omega) (Nat.zero_le _) hL).mono ?_
     rintro _ w91 ⟨R87, c88, D89, vs90, rfl, h92⟩
     have O93 := O93f h92
     refine ⟨_, rfl, ?_⟩
     refine we rfl rfl rfl rfl <| we rfl rfl rfl rfl <| wa rfl rfl rfl <| wa rfl rfl rfl <| zAd <| zAb K85 <| zAz ?_
     refine zA3 ?_
     refine zAg (by intro h; cases h) ?_
     refine zAy (v := .tuple #[.int .i64 ((findG L ⟨0, 0, []⟩).2), .int .i64 0]) (fun T hT => res2 rfl T _ (hT 4 _ rfl) (hT 5 _ rfl)) ?_
     have hopn : (insN L x.kind 0 1 x.inp).opn = true := by simpa using c73
     have hq : addN L x = findG L ⟨0, 0, []⟩ := by unfold addN; rw [hdf.1, hdf.2, if_pos hk34, if_neg (by rw [hopn]; exact Bool.noConfusion), if_pos (List.length_eq_zero_iff.1 (show (insN L x.kind 0 1 x.inp).out.length = 0 by omega))]
     rw [hq]
     exact ⟨R87, c88, D89, vs90, rfl, (O93.re [0, 1, 2, 3, 4] rfl)⟩
    ·skip
     refine wc rfl rfl (eql0 (by omega)) rfl rfl <| wa rfl rfl rfl <| zAd <| zAb K83 <| zAf rfl <| zAc fun _ K94 => zAa <| wm rfl rfl rfl ?_
     refine wz el57 rfl rfl rfl ?_
     by_cases c95 : (((insN L x.kind 0 1 x.inp).out.length : Nat) : Int) = 1
     ·skip
      refine wc rfl rfl (eql1 (by omega)) rfl rfl <| wa rfl rfl rfl <| zAd <| zAb K94 <| zAl rfl <| zAc fun _ K96 => zAa <| wm rfl rfl rfl ?_
      obtain ⟨ag97, rfl⟩ := rowaddr (O70.row 5 rfl) (by omega)
      refine wi (q := 0) (i := 0) el57 rfl rfl (by omega) (by omega) rfl rfl <| wd (v := .int .i64 ((sortI (insN L x.kind 0 1 x.inp).out).getD 0 0)) ty3 rfl (rowcell (O70.row 5 rfl) (intCs_at3 (zBh (by omega)))) rfl rfl <| wa rfl rfl rfl <| wa rfl rfl rfl <| zAd <| zAb K96 <| zAz ?_
      refine zA3 ?_
      refine zAg (by intro h; cases h) ?_
      refine zAy (v := .tuple #[.int .i64 ((sortI (insN L x.kind 0 1 x.inp).out).getD 0 0), .int .i64 0]) (fun T hT => res2 rfl T _ (hT 4 _ rfl) (hT 5 _ rfl)) ?_
      have hopn : (insN L x.kind 0 1 x.inp).opn = true := by simpa using c73
      have hq : addN L x = (L, (sortI (insN L x.kind 0 1 x.inp).out).getD 0 0) := by unfold addN; rw [hdf.1, hdf.2, if_pos hk34, if_neg (by rw [hopn]; exact Bool.noConfusion), if_neg (fun e => absurd (congrArg List.length e) (show ¬ (insN L x.kind 0 1 x.inp).out.length = 0 by omega)), if_pos (by omega)]
      rw [hq]
      exact ⟨(some ⟨rg, 0, none⟩), c, D, vs, rfl, (O70.re [0, 1, 2, 3, 4] rfl)⟩
     ·skip
      refine wc rfl rfl (eql0 (by omega)) rfl rfl <| wa rfl rfl rfl <| zAd <| zAb K94 <| zAf rfl <| zAj <| zAn <| zAb K71 ?_
      refine zAc fun _ K98 => zAa <| wm rfl rfl rfl <| wf (q := 0) zBy rfl rfl rfl rfl <| wd ty3 rfl (O70.cell 6 0 rfl rfl) rfl rfl <| wm rfl rfl rfl <| zAe (v := .agg #[.int .i64 x.kind, .int .i64 0, .slice A66 ((insN L x.kind 0 1 x.inp).out.length) c67]) (fun ρ e => zBe (cells := #[.int .i64 x.kind, .int .i64 0, .slice A66 ((insN L x.kind 0 1 x.inp).out.length) c67]) st73 (e.parts rfl) rfl) rfl rfl ?_
      refine zAs (args := [VP bb, .agg #[.int .i64 x.kind, .int .i64 0, .slice A66 ((insN L x.kind 0 1 x.inp).out.length) c67]]) zI4 rfl rfl rfl ?_
      have O99 := Own.rowin (O70.re [5, 0, 1, 2, 3, 4, 6] rfl)
      obtain ⟨O106h, O106f⟩ := Own.split (A := [.blk bb 109 #[.int .i64 N, VS0 rg L.length c, .map (some m)], .map m (encL strE (keysO L 0)), .row (VS0 rg L.length c) 73 3 L.length (gcells L vs), .ro D (Ins D L vs), .ro TabD Tab, .ro (fun k => Value.ownBlock (.slice A66 ((insN L x.kind 0 1 x.inp).out.length) c67) = some k) (fun w => IntsD (fun k => Value.ownBlock (.slice A66 ((insN L x.kind 0 1 x.inp).out.length) c67) = some k) w (.slice A66 ((insN L x.kind 0 1 x.inp).out.length) c67) (sortI (insN L x.kind 0 1 x.inp).out))]) (R := [.blk g2 73 #[.int .i64 x.kind, .int .i64 x.lit, .slice (some ⟨bI, oI, none⟩) x.inp.length cV]]) (O99.re [1, 2, 3, 4, 5, 0, 6] rfl)
      refine (put_ (g := ⟨x.kind, 0, (sortI (insN L x.kind 0 1 x.inp).out)⟩) (D2 := (fun k => Value.ownBlock (.slice A66 ((insN L x.kind 0 1 x.inp).out.length) c67) = some k)) (V := .slice A66 ((insN L x.kind 0 1 x.inp).out.length) c67) O106h (fun y hy => by simp only [List.mem_cons] at hy; rcases hy with rfl | rfl | hy <;> first | omega | (have := hob.2 y (zB6.1 hy); omega)) (by rw [hsl]; have := hob.1; omega) hL).mono ?_
      rintro _ w104 ⟨R100, c101, D102, vs103, rfl, h105⟩
      have O106 := O106f h105
      refine ⟨_, rfl, ?_⟩
      refine we rfl rfl rfl rfl <| we rfl rfl rfl rfl <| wa rfl rfl rfl <| wa rfl rfl rfl <| zAd <| zAb K98 <| zAz ?_
      refine zAy (v := .tuple #[.int .i64 ((findG L ⟨x.kind, 0, (sortI (insN L x.kind 0 1 x.inp).out)⟩).2), .int .i64 0]) (fun T hT => res2 rfl T _ (hT 4 _ rfl) (hT 5 _ rfl)) ?_
      have hopn : (insN L x.kind 0 1 x.inp).opn = true := by simpa using c73
      have hq : addN L x = findG L ⟨x.kind, 0, sortI (insN L x.kind 0 1 x.inp).out⟩ := by unfold addN; rw [hdf.1, hdf.2, if_pos hk34, if_neg (by rw [hopn]; exact Bool.noConfusion), if_neg (fun e => absurd (congrArg List.length e) (show ¬ (insN L x.kind 0 1 x.inp).out.length = 0 by omega)), if_neg (by omega)]
      rw [hq]
      exact ⟨R100, c101, D102, vs103, rfl, (O106.re [0, 1, 2, 3, 4] rfl)⟩
  ·skip
   refine wc rfl rfl (eql0 (by omega)) rfl rfl <| wa rfl rfl rfl <| zAd <| zAb K63 <| zAf rfl <| zAc fun _ K107 => zAa <| wm rfl rfl rfl ?_
   refine wf (q := 0) zBy rfl rfl rfl rfl <| wd ty3 rfl (O15.cell 0 0 rfl rfl) rfl rfl <| wf (q := 1) zCm rfl rfl rfl rfl <| wd ty3 rfl (O15.cell 0 1 rfl rfl) rfl rfl <| zAe (v := .agg #[.int .i64 x.kind, .int .i64 x.lit, .slice none 0 0]) (fun ρ e => zBe (cells := #[.int .i64 x.kind, .int .i64 x.lit, .slice none 0 0]) st73 (e.parts rfl) rfl) rfl rfl ?_
   refine zAs (args := [VP bb, .agg #[.int .i64 x.kind, .int .i64 x.lit, .slice none 0 0]]) zI4 rfl rfl rfl ?_
   have O108 := O15.nilin
   obtain ⟨O115h, O115f⟩ := Own.split (A := [.blk bb 109 #[.int .i64 N, .slice R L.length c, .map (some m)], .map m (encL strE (keysO L 0)), .row (.slice R L.length c) 73 3 L.length (gcells L vs), .ro D (Ins D L vs), .ro TabD Tab, .ro (fun _ => False) (fun w => IntsD (fun _ => False) w (.slice none 0 0) [])]) (R := [.blk g2 73 #[.int .i64 x.kind, .int .i64 x.lit, .slice AV x.inp.length cV], .ro D2 (fun w => IntsD D2 w (.slice AV x.inp.length cV) x.inp)]) (O108.re [2, 3, 4, 5, 6, 0, 1, 7] rfl)
   refine (put_ (g := ⟨x.kind, x.lit, []⟩) (D2 := (fun _ => False)) (V := .slice none 0 0) O115h (fun y hy => by simp only [List.mem_cons, List.not_mem_nil, or_false] at hy; rcases hy with rfl | rfl <;> omega) (Nat.zero_le _) hL).mono ?_
   rintro _ w113 ⟨R109, c110, D111, vs112, rfl, h114⟩
   have O115 := O115f h114
   refine ⟨_, rfl, ?_⟩
   refine we rfl rfl rfl rfl <| we rfl rfl rfl rfl <| wa rfl rfl rfl <| wa rfl rfl rfl <| zAd <| zAb K107 <| zAz ?_
   refine zA3 ?_
   refine zAg (by intro h; cases h) ?_
   refine zAy (v := .tuple #[.int .i64 ((findG L ⟨x.kind, x.lit, []⟩).2), .int .i64 0]) (fun T hT => res2 rfl T _ (hT 4 _ rfl) (hT 5 _ rfl)) ?_
   have hq : addN L x = findG L ⟨x.kind, x.lit, []⟩ := by unfold addN; rw [if_neg (by omega)]
   rw [hq]
   exact ⟨R109, c110, D111, vs112, rfl, (O115.re [0, 1, 2, 3, 4] rfl)⟩
theorem nnew_ (O0 : Own Z w0 W [.ro TabD Tab]) (hN0 : 0 ≤ N) (hN1 : N ≤ 128) :
  Calls Tryz.prog 25 #[.int .i64 N] W fun e w' => ∃ bb m, e = .returned (.tuple #[.pointer (some ⟨bb, 0, none⟩), .int .i64 0]) ∧ Own Z w0 w' (bldE bb m N none 0 (fun _ => False) [] []) := by
 refine zAu (args := [.int .i64 N]) Tryz.func25 rfl rfl (by simp) ?_
 refine zAc fun _ K1 => zAa <| wa rfl rfl rfl <| wa rfl rfl rfl <| zAd <| zAb K1 <| zAc fun _ K2 => zAc fun _ K3 => ?_
 refine zAa <| wm rfl rfl rfl <| wc rfl rfl (lss0 (by omega)) rfl rfl <| wm rfl rfl rfl <| wm rfl rfl rfl <| wc rfl rfl (gtr0 (by omega)) rfl rfl <| zAe (v := .bool false) (fun ρ e => zA2 (e _ _ rfl) (e _ _ rfl)) rfl rfl <| zAd ?_
 refine zAb K3 <| zAf rfl <| zAj <| zAb K2 <| zAc fun _ K4 => zAa <| wm rfl rfl rfl ?_
 obtain ⟨g5, w6, r7, O8, hg9, hs10⟩ := zE8 O0 107
 refine zAe (v := .map (some g5)) (fun ρ e => r7 ρ _ _ _ _ _) rfl rfl <| zAe (v := .agg #[.int .i64 N, .slice none 0 0, .map (some g5)]) (fun ρ e => zBe (cells := #[.int .i64 N, .slice none 0 0, .map (some g5)]) st109 (e.parts rfl) rfl) rfl rfl ?_
 obtain ⟨g11, w12, r13, O14, hg15, hs16⟩ := zA5 O8 109 (.agg #[.int .i64 N, .slice none 0 0, .map (some g5)]) rfl
 refine zAe (v := VP g11) (fun ρ e => r13 ρ _ _ _ _ _ _ (e _ _ rfl)) rfl rfl <| wa rfl rfl rfl <| wa rfl rfl rfl <| zAd <| zAb K4 <| zAz ?_
 refine zAy (v := .tuple #[VP g11, .int .i64 0]) (fun T hT => res2 rfl T _ (hT 2 _ rfl) (hT 3 _ rfl)) ?_
 have O17 := O14.nilrow 73 3
 have O18 := (O17.add (Below.refl _ _) (e := insE (fun _ => False) [] []) (ins_nil _) (fun _ hk => hk.elim))
 exact ⟨g11, g5, rfl, (O18.re [2, 3, 1, 0, 4] rfl)⟩
end

end Go.Proofs.YtliiclmhpphpmaaGreatDoor
namespace Go.Proofs.YtliiclmhpphpmaaGreatDoor
open Go Go.RowKit
section
variable {P : Program} {ops : Array Oper} {Q : Exit → Act → World → Prop} {S : World → Prop} {k fuel n i : Nat} {listed listed' : Array Bool} {m : List (Nat × Value)} {w : World} {d : Tmp} {t : TypeId} {pos : String} {aft : Array Edge} {gd : Option (Nat × Bool)}
theorem zG1 {f : FuncId} {c : Operand} {first cap : Array Value} {xs : List Operand} {ts : Array TypeId} {args all : List Value} (ho : ops[i]? = some ⟨some d, .call ⟨.value c, xs.toArray, ts⟩, t, pos, aft, gd⟩) (hl : (listed.setIfInBounds i true == listed') = true) (he : Enters P f) (hc : ev m c = some (.func (.func f) first cap)) (hargs : evs m xs = some args) (ha0 : first ++ args.toArray ++ cap = all.toArray) (hg : wantedM ops m gd = some true) (hd : Nat.blt d n = true)
  (h : Calls P f all.toArray w fun e w' => ∃ v, e = .returned v ∧ (listed'.getD k false = false → S w') ∧ at_ P ops Q S k fuel listed' n ((d, v) :: m) w') : stp P ops Q S k fuel listed n m w i := fun a ha => by
 have hl' := eq_of_beq hl
 subst hl'
 refine wpOp_step ho (fun K' hK => ?_)
 rw [if_pos (ha.wanted hg)]
 unfold Oper.wp
 rw [zGc he (ha.ev hc) (args := args.toArray) (by rw [List.map_toArray, ha.evs hargs]) ha0]
 refine h.mono ?_
 rintro e w' ⟨v, rfl, hS, hh⟩
 exact hK _ _ ⟨hS, hh _ (ha.put (by simpa [Nat.blt_eq] using hd) v)⟩
end
def Rd (N : Int) (B : List Gate) : Prop := WfN N B ∧ ∀ (i : Nat) (g : Gate), B[i]? = some g → g.inp.length ≤ 65536
theorem zFl {l N : Int} (h : litOk l N = true) (hN : N ≤ 128) : -128 ≤ l ∧ l ≤ 128 := by
 unfold litOk litVar at h
 simp only [decide_eq_true_eq, Bool.and_eq_true] at h
 split at h
 ·omega
 ·split at h
  ·omega
  ·omega
theorem okN_kind {N : Int} {i : Nat} {g : Gate} (h : okN N i g) : -1000000 ≤ g.kind ∧ g.kind ≤ 1000000 := by
 rcases h.2 with ⟨q, _⟩ | ⟨q, _⟩ | ⟨q, _⟩ <;> omega
theorem okN_lit {N : Int} {i : Nat} {g : Gate} (h : okN N i g) (hN : N ≤ 128) : -1000000 ≤ g.lit ∧ g.lit ≤ 1000000 := by
 rcases h.2 with ⟨_, q, _⟩ | ⟨_, q, _⟩ | ⟨_, q⟩
 ·omega
 ·have := zFl q hN; omega
 ·omega
theorem wf_lit {N : Int} {B : List Gate} (hw : WfN N B) (hN : N ≤ 128) : ∀ (i : Nat) (g : Gate), B[i]? = some g → -1000000 ≤ g.lit ∧ g.lit ≤ 1000000 := fun i g h => okN_lit (hw i g h) hN
structure RdA (N : Int) (B : List Gate) (q : List Gate × Int) : Prop where
 rd : Rd N q.1
 at_ : inB q.1 q.2
 ext : ∃ M, q.1 = B ++ M ∧ M.length ≤ 1
section
variable {N : Int} {B : List Gate} {x g : Gate}
theorem zH2 (hr : Rd N B) (hg : okN N B.length g) (hl : g.inp.length ≤ 65536) : RdA N B (findG B g) := by
 unfold findG
 cases hx : gidx g B 0 with
 | some i =>
  obtain ⟨_, h2, _⟩ := zI5 hx
  exact ⟨hr, ⟨by show (0 : Int) ≤ (i : Int); omega, by show (i : Int) < (B.length : Int); omega⟩, ⟨[], by simp, by simp⟩⟩
 | none =>
  refine ⟨⟨fun i h hi => ?_, fun i h hi => ?_⟩, ⟨by show (0 : Int) ≤ (B.length : Int); omega, by simp; omega⟩, ⟨[g], rfl, by simp⟩⟩
  ·rcases zF0 hi with ⟨q, _⟩ | ⟨rfl, rfl⟩
   ·exact hr.1 i h q
   ·exact hg
  ·rcases zF0 hi with ⟨q, _⟩ | ⟨rfl, rfl⟩
   ·exact hr.2 i h q
   ·exact hl
theorem zHs (hr : Rd N B) (hB : B.length ≤ 65536) (hx : okN N B.length x) : RdA N B (addN B x) := by
 have hin : ∀ k ∈ x.inp, inB B k := fun k hk => by have := hx.1 k hk; exact ⟨this.1, this.2⟩
 have c : ∀ c : Int, (c = 0 ∨ c = 1) → okN N B.length ⟨c, 0, []⟩ := fun c h => ⟨fun k hk => by simp at hk, .inl ⟨h, rfl, rfl⟩⟩
 have cd : dropOf x.kind = 0 ∨ dropOf x.kind = 1 := by unfold dropOf; split <;> simp
 have cf : finOf x.kind = 0 ∨ finOf x.kind = 1 := by unfold finOf; split <;> simp
 have hb := zF9 (kd := x.kind) (dr := dropOf x.kind) (fi := finOf x.kind) hr.1 hB hin
 have hm : ∀ k ∈ (insN B x.kind (dropOf x.kind) (finOf x.kind) x.inp).out, inB B k := fun k hk => zFq (kd := x.kind) hr.1 hin k ((zIb B x.kind (dropOf x.kind) (finOf x.kind) x.inp).mem k hk).1
 unfold addN
 split
 ·rename_i hk
  split
  ·exact zH2 hr (c _ cf) (by simp)
  ·split
   ·exact zH2 hr (c _ cd) (by simp)
   ·split
    ·rename_i h1
     refine ⟨hr, ?_, ⟨[], by simp, by simp⟩⟩
     have hs : (sortI (insN B x.kind (dropOf x.kind) (finOf x.kind) x.inp).out).length = 1 := (zDa _).length_eq.trans h1
     exact hm _ (zB6.1 (List.mem_of_getElem? (zBh (l := sortI (insN B x.kind (dropOf x.kind) (finOf x.kind) x.inp).out) (i := 0) (d := 0) (by omega))))
    ·exact zH2 hr ⟨fun k hk => hm k (zB6.1 hk), .inr (.inr ⟨hk, rfl⟩)⟩ (by rw [(zDa _).length_eq]; exact hb.1)
 ·rename_i hk
  refine zH2 hr ⟨fun k hk => by simp at hk, ?_⟩ (by simp)
  rcases hx.2 with ⟨q1, q2, q3⟩ | ⟨q1, q2, q3⟩ | ⟨q1, q2⟩
  ·exact .inl ⟨q1, q2, rfl⟩
  ·exact .inr (.inl ⟨q1, q2, rfl⟩)
  ·exact absurd q1 hk
theorem zI2 {i : Nat} {c : Bool} : okN N i ⟨if c then 1 else 0, 0, []⟩ := ⟨fun k hk => by simp at hk, .inl ⟨by cases c <;> simp, rfl, rfl⟩⟩
end
section
variable {N v no yes : Int} {B : List Gate}
theorem zGm {C M : List Gate} (e : C = B ++ M) {i : Int} (hi : inB B i) : inB C i := by
 subst e
 exact ⟨hi.1, by have := hi.2; simp; omega⟩
theorem zJl {i : Nat} {l : Int} (h : litVar l = v) (h1 : 1 ≤ v) (h2 : v ≤ N) : okN N i ⟨2, l, []⟩ := ⟨fun k hk => by simp at hk, .inr (.inl ⟨rfl, by unfold litOk; rw [h]; simp; omega, rfl⟩)⟩
theorem two_ok {C : List Gate} {k a b : Int} (hk : k = 3 ∨ k = 4) (ha : inB C a) (hb : inB C b) : okN N C.length ⟨k, 0, [a, b]⟩ := ⟨fun z hz => by
  simp at hz
  rcases hz with rfl | rfl
  ·exact ha
  ·exact hb, .inr (.inr ⟨hk, rfl⟩)⟩
theorem zC0 (hr : Rd N B) (hN : N ≤ 128) (hB : B.length ≤ 60000) (h1 : 1 ≤ v) (h2 : v ≤ N) (hno : inB B no) (hyes : inB B yes) : Rd N (ask1 B v).1 ∧ Rd N (ask2 B v).1 ∧ Rd N (ask3 B v no).1 ∧ Rd N (ask4 B v no yes).1 ∧ RdA N (ask4 B v no yes).1 (ask5 B v no yes) ∧ (ask1 B v).1.length ≤ B.length + 1 ∧ (ask2 B v).1.length ≤ B.length + 2 ∧ (ask3 B v no).1.length ≤ B.length + 3 ∧ (ask4 B v no yes).1.length ≤ B.length + 4 ∧
  okN N (ask2 B v).1.length ⟨3, 0, [(ask1 B v).2, no]⟩ ∧ okN N (ask3 B v no).1.length ⟨3, 0, [(ask2 B v).2, yes]⟩ ∧ okN N (ask4 B v no yes).1.length ⟨4, 0, [(ask3 B v no).2, (ask4 B v no yes).2]⟩ ∧ ∃ M, (ask5 B v no yes).1 = B ++ M ∧ M.length ≤ 5 := by
 have hl := litN (s := VS.empty) h1 (show v ≤ 128 by omega)
 have a1 : RdA N B (ask1 B v) := zHs hr (by omega) (zJl hl.2.2.2 h1 h2)
 obtain ⟨M1, e1, l1⟩ := a1.ext
 have n1 : (ask1 B v).1.length ≤ B.length + 1 := by rw [e1, List.length_append]; omega
 have a2 : RdA N (ask1 B v).1 (ask2 B v) := zHs a1.rd (by omega) (zJl hl.2.2.1 h1 h2)
 obtain ⟨M2, e2, l2⟩ := a2.ext
 have n2 : (ask2 B v).1.length ≤ B.length + 2 := by rw [e2, List.length_append]; omega
 have o3 : okN N (ask2 B v).1.length ⟨3, 0, [(ask1 B v).2, no]⟩ := two_ok (.inl rfl) (zGm e2 a1.at_) (zGm e2 (zGm e1 hno))
 have a3 : RdA N (ask2 B v).1 (ask3 B v no) := zHs a2.rd (by omega) o3
 obtain ⟨M3, e3, l3⟩ := a3.ext
 have n3 : (ask3 B v no).1.length ≤ B.length + 3 := by rw [e3, List.length_append]; omega
 have o4 : okN N (ask3 B v no).1.length ⟨3, 0, [(ask2 B v).2, yes]⟩ := two_ok (.inl rfl) (zGm e3 a2.at_) (zGm e3 (zGm e2 (zGm e1 hyes)))
 have a4 : RdA N (ask3 B v no).1 (ask4 B v no yes) := zHs a3.rd (by omega) o4
 obtain ⟨M4, e4, l4⟩ := a4.ext
 have n4 : (ask4 B v no yes).1.length ≤ B.length + 4 := by rw [e4, List.length_append]; omega
 have o5 : okN N (ask4 B v no yes).1.length ⟨4, 0, [(ask3 B v no).2, (ask4 B v no yes).2]⟩ := two_ok (.inr rfl) (zGm e4 a3.at_) a4.at_
 have a5 : RdA N (ask4 B v no yes).1 (ask5 B v no yes) := zHs a4.rd (by omega) o5
 obtain ⟨M5, e5, l5⟩ := a5.ext
 exact ⟨a1.rd, a2.rd, a3.rd, a4.rd, a5, n1, n2, n3, n4, o3, o4, o5, ⟨M1 ++ (M2 ++ (M3 ++ (M4 ++ M5))), by rw [e5, e4, e3, e2, e1]; simp, by simp; omega⟩⟩
theorem zJe (hr : Rd N B) (hN : N ≤ 128) (hB : B.length ≤ 60000) (h1 : 1 ≤ v) (h2 : v ≤ N) (hno : inB B no) (hyes : inB B yes) : Rd N B ∧ okN N B.length ⟨2, -v, []⟩ ∧ B.length < 65536 := ⟨hr, zJl (litN (s := VS.empty) h1 (show v ≤ 128 by omega)).2.2.2 h1 h2, by omega⟩
theorem zJd (hr : Rd N B) (hN : N ≤ 128) (hB : B.length ≤ 60000) (h1 : 1 ≤ v) (h2 : v ≤ N) (hno : inB B no) (hyes : inB B yes) : Rd N (ask1 B v).1 ∧ okN N (ask1 B v).1.length ⟨2, v, []⟩ ∧ (ask1 B v).1.length < 65536 := ⟨(zC0 hr hN hB h1 h2 hno hyes).1, zJl (litN (s := VS.empty) h1 (show v ≤ 128 by omega)).2.2.1 h1 h2, by have := zC0 hr hN hB h1 h2 hno hyes; omega⟩
theorem zGi (hr : Rd N B) (hN : N ≤ 128) (hB : B.length ≤ 60000) (h1 : 1 ≤ v) (h2 : v ≤ N) (hno : inB B no) (hyes : inB B yes) : Rd N (ask2 B v).1 ∧ okN N (ask2 B v).1.length ⟨3, 0, [(ask1 B v).2, no]⟩ ∧ (ask2 B v).1.length < 65536 := ⟨(zC0 hr hN hB h1 h2 hno hyes).2.1, (zC0 hr hN hB h1 h2 hno hyes).2.2.2.2.2.2.2.2.2.1, by have := zC0 hr hN hB h1 h2 hno hyes; omega⟩
theorem zJc (hr : Rd N B) (hN : N ≤ 128) (hB : B.length ≤ 60000) (h1 : 1 ≤ v) (h2 : v ≤ N) (hno : inB B no) (hyes : inB B yes) : Rd N (ask3 B v no).1 ∧ okN N (ask3 B v no).1.length ⟨3, 0, [(ask2 B v).2, yes]⟩ ∧ (ask3 B v no).1.length < 65536 := ⟨(zC0 hr hN hB h1 h2 hno hyes).2.2.1, (zC0 hr hN hB h1 h2 hno hyes).2.2.2.2.2.2.2.2.2.2.1, by have := zC0 hr hN hB h1 h2 hno hyes; omega⟩
theorem zJb (hr : Rd N B) (hN : N ≤ 128) (hB : B.length ≤ 60000) (h1 : 1 ≤ v) (h2 : v ≤ N) (hno : inB B no) (hyes : inB B yes) : Rd N (ask4 B v no yes).1 ∧ okN N (ask4 B v no yes).1.length ⟨4, 0, [(ask3 B v no).2, (ask4 B v no yes).2]⟩ ∧ (ask4 B v no yes).1.length < 65536 := ⟨(zC0 hr hN hB h1 h2 hno hyes).2.2.2.1, (zC0 hr hN hB h1 h2 hno hyes).2.2.2.2.2.2.2.2.2.2.2.1, by have := zC0 hr hN hB h1 h2 hno hyes; omega⟩
end
section
variable {Z : Bool → Nat → Prop} {w0 W : World} {bb m hb ab : Nat} {N : Int} {R : Option Addr} {c : Nat} {D : Nat → Prop} {L : List Gate} {vs : List Value}
theorem nput0_ {D2 : Nat → Prop} {AV : Option Addr} {cV : Nat} {x : Gate} (O0 : Own Z w0 W [.blk bb 109 #[.int .i64 N, .slice R L.length c, .map (some m)], .map m (encL strE (keysO L 0)), .row (.slice R L.length c) 73 3 L.length (gcells L vs), .ro D (Ins D L vs), .ro TabD Tab, .blk hb 70 #[.pointer (some ⟨bb, 0, none⟩)], .ro D2 (fun w => IntsD D2 w (.slice AV x.inp.length cV) x.inp)]) (hr : Rd N L) (hN : N ≤ 128) (hok : okN N L.length x) (hpos : x.kind = 3 ∨ x.kind = 4 → 0 < x.inp.length) (hxl : x.inp.length ≤ 65536) (hL : L.length < 65536) :
  Calls Tryz.prog 26 #[.agg #[.int .i64 x.kind, .int .i64 x.lit, .slice AV x.inp.length cV], .pointer (some ⟨hb, 0, none⟩)] W fun e w' => ∃ R' c' D' vs', e = .returned (.int .i64 (addN L x).2) ∧ Own Z w0 w' (bldE bb m N R' c' D' (addN L x).1 vs' ++ [.blk hb 70 #[.pointer (some ⟨bb, 0, none⟩)]]) := by
 refine zAu (args := [.agg #[.int .i64 x.kind, .int .i64 x.lit, .slice AV x.inp.length cV], VP hb]) Tryz.func26 rfl rfl (by simp) ?_
 refine zAc fun _ K1 => zAa ?_
 obtain ⟨g2, w3, r4, O5, hg6, hs7⟩ := zA5 O0 73 (.agg #[.int .i64 x.kind, .int .i64 x.lit, .slice AV x.inp.length cV]) rfl
 refine zAe (v := VP g2) (fun ρ e => r4 ρ _ _ _ _ _ _ (e _ _ rfl)) rfl rfl <| wa rfl rfl rfl <| nx K1 fun _ K8 => wd ty70 rfl (O5.cell 6 0 rfl rfl) rfl rfl <| zAe (v := .agg #[.int .i64 x.kind, .int .i64 x.lit, .slice AV x.inp.length cV]) (fun ρ e => zAk (vs := [.int .i64 x.kind, .int .i64 x.lit, .slice AV x.inp.length cV]) ty73 (e _ _ rfl) rfl (O5.cells 0 0 rfl rfl)) rfl rfl ?_
 refine zAs (args := [VP bb, .agg #[.int .i64 x.kind, .int .i64 x.lit, .slice AV x.inp.length cV]]) in_27 rfl rfl rfl ?_
 obtain ⟨O15h, O15f⟩ := Own.split (A := [.blk bb 109 #[.int .i64 N, .slice R L.length c, .map (some m)], .map m (encL strE (keysO L 0)), .row (.slice R L.length c) 73 3 L.length (gcells L vs), .ro D (Ins D L vs), .ro TabD Tab, .ro D2 (fun w => IntsD D2 w (.slice AV x.inp.length cV) x.inp)]) (R := [.blk g2 73 #[.int .i64 x.kind, .int .i64 x.lit, .slice AV x.inp.length cV], .blk hb 70 #[VP bb]]) (O5.re [1, 2, 3, 4, 5, 7, 0, 6] rfl)
 refine (nadd0_ O15h hr.1 hok hpos hxl (okN_kind hok) (okN_lit hok hN) hL (wf_lit hr.1 hN) hr.2).mono ?_
 rintro _ w13 ⟨R9, c10, D11, vs12, rfl, h14⟩
 have O15 := O15f h14
 refine ⟨_, rfl, ?_⟩
 refine wm rfl rfl rfl <| we rfl rfl rfl rfl <| we rfl rfl rfl rfl <| wa rfl rfl rfl <| wa rfl rfl rfl <| nx K8 fun _ K16 => wm rfl rfl rfl <| wa rfl rfl rfl ?_
 refine zAd <| zAb K16 <| zAz ?_
 refine zAy (v := .int .i64 ((addN L x).2)) (fun T hT => res1 rfl T _ (hT 3 _ rfl)) ?_
 exact ⟨R9, c10, D11, vs12, rfl, (O15.re [0, 1, 2, 3, 4, 6] rfl)⟩
theorem zIp {D2 : Nat → Prop} {V : Value} {x : Gate} (O0 : Own Z w0 W (bldE bb m N R c D L vs ++ [.blk hb 70 #[.pointer (some ⟨bb, 0, none⟩)], inE D2 V x.inp])) (hr : Rd N L) (hN : N ≤ 128) (hok : okN N L.length x) (hpos : x.kind = 3 ∨ x.kind = 4 → 0 < x.inp.length) (hxl : x.inp.length ≤ 65536) (hL : L.length < 65536) :
  Calls Tryz.prog 26 #[.agg #[.int .i64 x.kind, .int .i64 x.lit, V], .pointer (some ⟨hb, 0, none⟩)] W fun e w' => ∃ R' c' D' vs', e = .returned (.int .i64 (addN L x).2) ∧ Own Z w0 w' (bldE bb m N R' c' D' (addN L x).1 vs' ++ [.blk hb 70 #[.pointer (some ⟨bb, 0, none⟩)]]) := by
 have hV : IntsD D2 W V x.inp := O0.ro 6 rfl
 obtain ⟨AV, cV, rfl⟩ := hV.slice
 exact nput0_ O0 hr hN hok hpos hxl hL
theorem nleaf_ {c0 : Bool} (O0 : Own Z w0 W [.blk bb 109 #[.int .i64 N, .slice R L.length c, .map (some m)], .map m (encL strE (keysO L 0)), .row (.slice R L.length c) 73 3 L.length (gcells L vs), .ro D (Ins D L vs), .ro TabD Tab, .blk hb 70 #[.pointer (some ⟨bb, 0, none⟩)], .blk ab 76 #[.func (.func 26) #[] #[.pointer (some ⟨hb, 0, none⟩)]]]) (hr : Rd N L) (hN : N ≤ 128) (hL : L.length < 65536) :
  Calls Tryz.prog 28 #[.bool c0, .pointer (some ⟨ab, 0, none⟩)] W fun e w' => ∃ R' c' D' vs', e = .returned (.int .i64 (leafN L c0).2) ∧ Own Z w0 w' (bldE bb m N R' c' D' (leafN L c0).1 vs' ++ [.blk hb 70 #[.pointer (some ⟨bb, 0, none⟩)], .blk ab 76 #[.func (.func 26) #[] #[.pointer (some ⟨hb, 0, none⟩)]]]) := by
 cases c0
 ·skip
  refine zAu (args := [.bool false, VP ab]) Tryz.func28 rfl rfl (by simp) ?_
  refine zAc fun _ K1 => zAa <| wa rfl rfl rfl <| zAd <| zAb K1 <| zAc fun _ K2 => zAc fun _ K3 => zAa ?_
  refine wm rfl rfl rfl <| zAd <| zAb K3 <| zAf rfl <| zAj <| zAb K2 <| zAc fun _ K4 => zAa ?_
  refine wd ty76 rfl (O0.cell 6 0 rfl rfl) rfl rfl <| zAe (v := .agg #[.int .i64 0, .int .i64 0, .slice none 0 0]) (fun ρ e => zBe (cells := #[.int .i64 0, .int .i64 0, .slice none 0 0]) st73 (e.parts rfl) rfl) rfl rfl ?_
  refine zBz (args := [.agg #[.int .i64 0, .int .i64 0, .slice none 0 0]]) (all := [.agg #[.int .i64 0, .int .i64 0, .slice none 0 0], VP hb]) zIs rfl rfl rfl rfl rfl ?_
  have O5 := O0.nilin
  obtain ⟨O12h, O12f⟩ := Own.split (A := [.blk bb 109 #[.int .i64 N, .slice R L.length c, .map (some m)], .map m (encL strE (keysO L 0)), .row (.slice R L.length c) 73 3 L.length (gcells L vs), .ro D (Ins D L vs), .ro TabD Tab, .blk hb 70 #[VP bb], .ro (fun _ => False) (fun w => IntsD (fun _ => False) w (.slice none 0 0) [])]) (R := [.blk ab 76 #[.func (.func 26) #[] #[VP hb]]]) (O5.re [1, 2, 3, 4, 5, 6, 0, 7] rfl)
  refine (zIp (x := ⟨0, 0, []⟩) (D2 := (fun _ => False)) (V := .slice none 0 0) O12h hr hN (zI2 (c := false)) (fun e => absurd e (by decide)) (Nat.zero_le _) hL).mono ?_
  rintro _ w10 ⟨R6, c7, D8, vs9, rfl, h11⟩
  have O12 := O12f h11
  refine ⟨_, rfl, ?_⟩
  refine wa rfl rfl rfl <| zAd <| zAb K4 <| zAz ?_
  refine zAy (v := .int .i64 ((addN L ⟨0, 0, []⟩).2)) (fun T hT => res1 rfl T _ (hT 3 _ rfl)) ?_
  exact ⟨R6, c7, D8, vs9, rfl, O12⟩
 ·skip
  refine zAu (args := [.bool true, VP ab]) Tryz.func28 rfl rfl (by simp) ?_
  refine zAc fun _ K1 => zAa <| wa rfl rfl rfl <| zAd <| zAb K1 <| zAc fun _ K2 => zAc fun _ K3 => zAa ?_
  refine wm rfl rfl rfl <| zAd <| zAb K3 <| zAl rfl <| zAc fun _ K4 => zAa <| wd ty76 rfl (O0.cell 6 0 rfl rfl) rfl rfl <| zAe (v := .agg #[.int .i64 1, .int .i64 0, .slice none 0 0]) (fun ρ e => zBe (cells := #[.int .i64 1, .int .i64 0, .slice none 0 0]) st73 (e.parts rfl) rfl) rfl rfl ?_
  refine zBz (args := [.agg #[.int .i64 1, .int .i64 0, .slice none 0 0]]) (all := [.agg #[.int .i64 1, .int .i64 0, .slice none 0 0], VP hb]) zIs rfl rfl rfl rfl rfl ?_
  have O5 := O0.nilin
  obtain ⟨O12h, O12f⟩ := Own.split (A := [.blk bb 109 #[.int .i64 N, .slice R L.length c, .map (some m)], .map m (encL strE (keysO L 0)), .row (.slice R L.length c) 73 3 L.length (gcells L vs), .ro D (Ins D L vs), .ro TabD Tab, .blk hb 70 #[VP bb], .ro (fun _ => False) (fun w => IntsD (fun _ => False) w (.slice none 0 0) [])]) (R := [.blk ab 76 #[.func (.func 26) #[] #[VP hb]]]) (O5.re [1, 2, 3, 4, 5, 6, 0, 7] rfl)
  refine (zIp (x := ⟨1, 0, []⟩) (D2 := (fun _ => False)) (V := .slice none 0 0) O12h hr hN (zI2 (c := true)) (fun e => absurd e (by decide)) (Nat.zero_le _) hL).mono ?_
  rintro _ w10 ⟨R6, c7, D8, vs9, rfl, h11⟩
  have O12 := O12f h11
  refine ⟨_, rfl, ?_⟩
  refine wa rfl rfl rfl <| zAd <| zAb K4 <| zAz ?_
  refine zAg (by intro h; cases h) ?_
  refine zAy (v := .int .i64 ((addN L ⟨1, 0, []⟩).2)) (fun T hT => res1 rfl T _ (hT 3 _ rfl)) ?_
  exact ⟨R6, c7, D8, vs9, rfl, O12⟩
theorem nask_ {v no yes : Int} (O0 : Own Z w0 W [.blk bb 109 #[.int .i64 N, .slice R L.length c, .map (some m)], .map m (encL strE (keysO L 0)), .row (.slice R L.length c) 73 3 L.length (gcells L vs), .ro D (Ins D L vs), .ro TabD Tab, .blk hb 70 #[.pointer (some ⟨bb, 0, none⟩)], .blk ab 76 #[.func (.func 26) #[] #[.pointer (some ⟨hb, 0, none⟩)]]]) (hr : Rd N L) (hN : N ≤ 128) (hB : L.length ≤ 60000) (h1 : 1 ≤ v) (h2 : v ≤ N) (hno : inB L no) (hyes : inB L yes) :
  Calls Tryz.prog 29 #[.int .i64 v, .int .i64 no, .int .i64 yes, .pointer (some ⟨ab, 0, none⟩)] W fun e w' => ∃ R' c' D' vs', e = .returned (.int .i64 (askN L v no yes).2) ∧ Own Z w0 w' (bldE bb m N R' c' D' (askN L v no yes).1 vs' ++ [.blk hb 70 #[.pointer (some ⟨bb, 0, none⟩)], .blk ab 76 #[.func (.func 26) #[] #[.pointer (some ⟨hb, 0, none⟩)]]]) := by
 refine zAu (args := [.int .i64 v, .int .i64 no, .int .i64 yes, VP ab]) Tryz.func29 rfl rfl (by simp) ?_
 refine zAc fun _ K1 => zAa <| wa rfl rfl rfl <| zAd <| zAb K1 <| zAc fun _ K2 => zAc fun _ K3 => zAa ?_
 refine wm rfl rfl rfl <| wm rfl rfl rfl ?_
 by_cases c4 : no = yes
 ·skip
  refine wc rfl rfl (eql1 (by omega)) rfl rfl <| zAd <| zAb K3 <| zAl rfl <| zAc fun _ K5 => zAa <| wm rfl rfl rfl <| wa rfl rfl rfl ?_
  refine zAd <| zAb K5 <| zAz ?_
  refine zAg (by intro h; cases h) ?_
  refine zAy (v := .int .i64 no) (fun T hT => res1 rfl T _ (hT 7 _ rfl)) ?_
  have hq : askN L v no yes = (L, no) := by unfold askN; rw [if_pos (by omega)]
  rw [hq]
  exact ⟨R, c, D, vs, rfl, O0⟩
 ·skip
  refine wc rfl rfl (eql0 (by omega)) rfl rfl <| zAd <| zAb K3 <| zAf rfl <| zAj <| zAb K2 <| zAc fun _ K6 => ?_
  refine zA1 (fun X => Own Z w0 X [.blk hb 70 #[VP bb], .blk ab 76 #[.func (.func 26) #[] #[VP hb]]]) 11 [(0, 0), (1, 1), (2, 1), (3, 1), (5, 0), (6, 1), (7, 1), (4, 2), (8, 2), (9, 2), (10, 2)] (by kernel_rfl) (by kernel_rfl) (PQ.then_ PQ.body) ((O0.re [5, 6] rfl)).drew ?_
  have O7 := O0.drew
  refine wt0 (v := .func (.func 26) #[] #[VP hb]) rfl (fun ρ e W hW => zAm ty76 (e _ _ rfl) (hW.cell 1 0 rfl rfl)) rfl rfl <| tm rfl rfl rfl rfl <| wt1 (v := .int .i64 (-v)) rfl (fun ρ e W => zGw (e _ _ rfl) (zAo (by omega) (by omega))) rfl rfl <| wt1 (v := .agg #[.int .i64 2, .int .i64 (-v), .slice none 0 0]) rfl (fun ρ e W => zBe (cells := #[.int .i64 2, .int .i64 (-v), .slice none 0 0]) st73 (e.parts rfl) rfl) rfl rfl <| wt0 (v := .func (.func 26) #[] #[VP hb]) rfl (fun ρ e W hW => zAm ty76 (e _ _ rfl) (hW.cell 1 0 rfl rfl)) rfl rfl ?_
  refine tm rfl rfl rfl rfl <| wt1 (v := .agg #[.int .i64 2, .int .i64 v, .slice none 0 0]) rfl (fun ρ e W => zBe (cells := #[.int .i64 2, .int .i64 v, .slice none 0 0]) st73 (e.parts rfl) rfl) rfl rfl ?_
  refine zBn (args := [.agg #[.int .i64 2, .int .i64 (-v), .slice none 0 0]]) (all := [.agg #[.int .i64 2, .int .i64 (-v), .slice none 0 0], VP hb]) rfl zIs rfl rfl rfl rfl rfl ?_
  have O8 := O7.nilin
  obtain ⟨O15h, O15f⟩ := Own.split (A := [.blk bb 109 #[.int .i64 N, .slice R L.length c, .map (some m)], .map m (encL strE (keysO L 0)), .row (.slice R L.length c) 73 3 L.length (gcells L vs), .ro D (Ins D L vs), .ro TabD Tab, .blk hb 70 #[VP bb], .ro (fun _ => False) (fun w => IntsD (fun _ => False) w (.slice none 0 0) [])]) (R := [.blk ab 76 #[.func (.func 26) #[] #[VP hb]]]) (O8.re [1, 2, 3, 4, 5, 6, 0, 7] rfl)
  refine (zIp (x := ⟨2, (-v), []⟩) (D2 := (fun _ => False)) (V := .slice none 0 0) O15h (zJe hr hN hB h1 h2 hno hyes).1 hN (zJe hr hN hB h1 h2 hno hyes).2.1 (fun e => absurd e (by simp)) (Nat.zero_le _) (zJe hr hN hB h1 h2 hno hyes).2.2).mono ?_
  rintro _ w13 ⟨R9, c10, D11, vs12, rfl, h14⟩
  have O15 := O15f h14
  refine ⟨_, rfl, (O15.re [5, 6] rfl), ?_⟩
  refine zBn (args := [.agg #[.int .i64 2, .int .i64 v, .slice none 0 0]]) (all := [.agg #[.int .i64 2, .int .i64 v, .slice none 0 0], VP hb]) rfl zIs rfl rfl rfl rfl rfl ?_
  have O16 := O15.nilin
  obtain ⟨O23h, O23f⟩ := Own.split (A := [.blk bb 109 #[.int .i64 N, .slice R9 (((addN L ⟨2, (-v), []⟩).1).length) c10, .map (some m)], .map m (encL strE (keysO ((addN L ⟨2, (-v), []⟩).1) 0)), .row (.slice R9 (((addN L ⟨2, (-v), []⟩).1).length) c10) 73 3 (((addN L ⟨2, (-v), []⟩).1).length) (gcells ((addN L ⟨2, (-v), []⟩).1) vs12), .ro D11 (Ins D11 ((addN L ⟨2, (-v), []⟩).1) vs12), .ro TabD Tab, .blk hb 70 #[VP bb], .ro (fun _ => False) (fun w => IntsD (fun _ => False) w (.slice none 0 0) [])]) (R := [.blk ab 76 #[.func (.func 26) #[] #[VP hb]]]) (O16.re [1, 2, 3, 4, 5, 6, 0, 7] rfl)
  refine (zIp (x := ⟨2, v, []⟩) (D2 := (fun _ => False)) (V := .slice none 0 0) O23h (zJd hr hN hB h1 h2 hno hyes).1 hN (zJd hr hN hB h1 h2 hno hyes).2.1 (fun e => absurd e (by simp)) (Nat.zero_le _) (zJd hr hN hB h1 h2 hno hyes).2.2).mono ?_
  rintro _ w21 ⟨R17, c18, D19, vs20, rfl, h22⟩
  have O23 := O23f h22
  refine ⟨_, rfl, (O23.re [5, 6] rfl), ?_⟩
  refine wt2 (v := .int .i64 ((addN L ⟨2, (-v), []⟩).2)) rfl (fun ρ e => zBb (e _ _ rfl)) rfl rfl (O23.re [5, 6] rfl) ?_
  refine wt2 (v := .int .i64 ((addN ((addN L ⟨2, (-v), []⟩).1) ⟨2, v, []⟩).2)) rfl (fun ρ e => zBb (e _ _ rfl)) rfl rfl (O23.re [5, 6] rfl) ?_
  refine zBc <| zAb K6 <| zAc fun _ K24 => ?_
  refine at_start (fuel := 14) (listed := #[false, false, false, false, false, false, false, false, false, false, false, false, false, false]) (fun X => Own Z w0 X [.blk hb 70 #[VP bb], .blk ab 76 #[.func (.func 26) #[] #[VP hb]]]) 14 (by kernel_rfl) rfl (by kernel_rfl) ((O23.re [5, 6] rfl)).drew ?_
  have O25 := O23.drew
  refine at_name (fun AT26 hin27 hout28 => ?_)
  have N83 : ∀ (g29 : Nat) (R42 : Option Addr) (c43 : Nat) (D44 : (Nat → Prop)) (vs45 : List Value) (g61 : Nat) (R76 : Option Addr) (c77 : Nat) (D78 : (Nat → Prop)) (vs79 : List Value) (w84 : World), Own Z w0 w84 [.blk bb 109 #[.int .i64 N, .slice R76 (((addN ((addN ((addN ((addN L ⟨2, (-v), []⟩).1) ⟨2, v, []⟩).1) ⟨3, 0, [(addN L ⟨2, (-v), []⟩).2, no]⟩).1) ⟨3, 0, [(addN ((addN L ⟨2, (-v), []⟩).1) ⟨2, v, []⟩).2, yes]⟩).1).length) c77, .map (some m)], .map m (encL strE (keysO ((addN ((addN ((addN ((addN L ⟨2, (-v), []⟩).1) ⟨2, v, []⟩).1) ⟨3, 0, [(addN L ⟨2, (-v), []⟩).2, no]⟩).1) ⟨3, 0, [(addN ((addN L ⟨2, (-v), []⟩).1) ⟨2, v, []⟩).2, yes]⟩).1) 0)), .row (.slice R76 (((addN ((addN ((addN ((addN L ⟨2, (-v), []⟩).1) ⟨2, v, []⟩).1) ⟨3, 0, [(addN L ⟨2, (-v), []⟩).2, no]⟩).1) ⟨3, 0, [(addN ((addN L ⟨2, (-v), []⟩).1) ⟨2, v, []⟩).2, yes]⟩).1).length) c77) 73 3 (((addN ((addN ((addN ((addN L ⟨2, (-v), []⟩).1) ⟨2, v, []⟩).1) ⟨3, 0, [(addN L ⟨2, (-v), []⟩).2, no]⟩).1) ⟨3, 0, [(addN ((addN L ⟨2, (-v), []⟩).1) ⟨2, v, []⟩).2, yes]⟩).1).length) (gcells ((addN ((addN ((addN ((addN L ⟨2, (-v), []⟩).1) ⟨2, v, []⟩).1) ⟨3, 0, [(addN L ⟨2, (-v), []⟩).2, no]⟩).1) ⟨3, 0, [(addN ((addN L ⟨2, (-v), []⟩).1) ⟨2, v, []⟩).2, yes]⟩).1) vs79), .ro D78 (Ins D78 ((addN ((addN ((addN ((addN L ⟨2, (-v), []⟩).1) ⟨2, v, []⟩).1) ⟨3, 0, [(addN L ⟨2, (-v), []⟩).2, no]⟩).1) ⟨3, 0, [(addN ((addN L ⟨2, (-v), []⟩).1) ⟨2, v, []⟩).2, yes]⟩).1) vs79), .ro TabD Tab, .blk hb 70 #[VP bb], .blk ab 76 #[.func (.func 26) #[] #[VP hb]]] → AT26 0 #[true, true, true, true, true, true, true, true, true, true, true, true, true, true] 41 [(0, .int .i64 v), (1, .int .i64 no), (2, .int .i64 yes), (3, VP ab), (7, .int .i64 0), (10, .int .i64 no), (11, .int .i64 yes), (12, .bool false), (14, .func (.func 26) #[] #[VP hb]), (15, .int .i64 v), (16, .int .i64 (-v)), (17, .agg #[.int .i64 2, .int .i64 (-v), .slice none 0 0]), (19, .func (.func 26) #[] #[VP hb]), (20, .int .i64 v), (21, .agg #[.int .i64 2, .int .i64 v, .slice none 0 0]), (18, .int .i64 ((addN L ⟨2, (-v), []⟩).2)), (22, .int .i64 ((addN ((addN L ⟨2, (-v), []⟩).1) ⟨2, v, []⟩).2)), (8, .int .i64 ((addN ((addN ((addN L ⟨2, (-v), []⟩).1) ⟨2, v, []⟩).1) ⟨3, 0, [(addN L ⟨2, (-v), []⟩).2, no]⟩).2)), (9, .int .i64 ((addN ((addN ((addN ((addN L ⟨2, (-v), []⟩).1) ⟨2, v, []⟩).1) ⟨3, 0, [(addN L ⟨2, (-v), []⟩).2, no]⟩).1) ⟨3, 0, [(addN ((addN L ⟨2, (-v), []⟩).1) ⟨2, v, []⟩).2, yes]⟩).2))] w84 := by
   intro g29 R42 c43 D44 vs45 g61 R76 c77 D78 vs79 w84 O85
   refine hin27 _ _ _ _ _ ?_
   refine at_done rfl ?_
   refine zAb K24 <| zAc fun _ K86 => zAa <| wd ty76 rfl (O85.cell 6 0 rfl rfl) rfl rfl <| wm rfl rfl rfl <| wm rfl rfl rfl ?_
   obtain ⟨g87, w88, r89, O90, hg91, hs92⟩ := zBg O85 el57 ze3 2 [(0, .int .i64 ((addN ((addN ((addN L ⟨2, (-v), []⟩).1) ⟨2, v, []⟩).1) ⟨3, 0, [(addN L ⟨2, (-v), []⟩).2, no]⟩).2)), (1, .int .i64 ((addN ((addN ((addN ((addN L ⟨2, (-v), []⟩).1) ⟨2, v, []⟩).1) ⟨3, 0, [(addN L ⟨2, (-v), []⟩).2, no]⟩).1) ⟨3, 0, [(addN ((addN L ⟨2, (-v), []⟩).1) ⟨2, v, []⟩).2, yes]⟩).2))] (cs := #[.int .i64 ((addN ((addN ((addN L ⟨2, (-v), []⟩).1) ⟨2, v, []⟩).1) ⟨3, 0, [(addN L ⟨2, (-v), []⟩).2, no]⟩).2), .int .i64 ((addN ((addN ((addN ((addN L ⟨2, (-v), []⟩).1) ⟨2, v, []⟩).1) ⟨3, 0, [(addN L ⟨2, (-v), []⟩).2, no]⟩).1) ⟨3, 0, [(addN ((addN L ⟨2, (-v), []⟩).1) ⟨2, v, []⟩).2, yes]⟩).2)]) (by decide) (by kernel_rfl)
   refine zAe (v := VS0 g87 2 2) (fun ρ e => r89 ρ _ _ _ _ _ _ (e.parts rfl)) rfl rfl <| zAe (v := .agg #[.int .i64 4, .int .i64 0, VS0 g87 2 2]) (fun ρ e => zBe (cells := #[.int .i64 4, .int .i64 0, VS0 g87 2 2]) st73 (e.parts rfl) rfl) rfl rfl ?_
   refine zBz (args := [.agg #[.int .i64 4, .int .i64 0, VS0 g87 2 2]]) (all := [.agg #[.int .i64 4, .int .i64 0, VS0 g87 2 2], VP hb]) zIs rfl rfl rfl rfl rfl ?_
   have O93 : Own Z w0 w88 [.ro (fun k => k = g87) (fun w => IntsD (fun k => k = g87) w (VS0 g87 2 2) [(addN ((addN ((addN L ⟨2, (-v), []⟩).1) ⟨2, v, []⟩).1) ⟨3, 0, [(addN L ⟨2, (-v), []⟩).2, no]⟩).2, (addN ((addN ((addN ((addN L ⟨2, (-v), []⟩).1) ⟨2, v, []⟩).1) ⟨3, 0, [(addN L ⟨2, (-v), []⟩).2, no]⟩).1) ⟨3, 0, [(addN ((addN L ⟨2, (-v), []⟩).1) ⟨2, v, []⟩).2, yes]⟩).2]), .blk bb 109 #[.int .i64 N, .slice R76 (((addN ((addN ((addN ((addN L ⟨2, (-v), []⟩).1) ⟨2, v, []⟩).1) ⟨3, 0, [(addN L ⟨2, (-v), []⟩).2, no]⟩).1) ⟨3, 0, [(addN ((addN L ⟨2, (-v), []⟩).1) ⟨2, v, []⟩).2, yes]⟩).1).length) c77, .map (some m)], .map m (encL strE (keysO ((addN ((addN ((addN ((addN L ⟨2, (-v), []⟩).1) ⟨2, v, []⟩).1) ⟨3, 0, [(addN L ⟨2, (-v), []⟩).2, no]⟩).1) ⟨3, 0, [(addN ((addN L ⟨2, (-v), []⟩).1) ⟨2, v, []⟩).2, yes]⟩).1) 0)), .row (.slice R76 (((addN ((addN ((addN ((addN L ⟨2, (-v), []⟩).1) ⟨2, v, []⟩).1) ⟨3, 0, [(addN L ⟨2, (-v), []⟩).2, no]⟩).1) ⟨3, 0, [(addN ((addN L ⟨2, (-v), []⟩).1) ⟨2, v, []⟩).2, yes]⟩).1).length) c77) 73 3 (((addN ((addN ((addN ((addN L ⟨2, (-v), []⟩).1) ⟨2, v, []⟩).1) ⟨3, 0, [(addN L ⟨2, (-v), []⟩).2, no]⟩).1) ⟨3, 0, [(addN ((addN L ⟨2, (-v), []⟩).1) ⟨2, v, []⟩).2, yes]⟩).1).length) (gcells ((addN ((addN ((addN ((addN L ⟨2, (-v), []⟩).1) ⟨2, v, []⟩).1) ⟨3, 0, [(addN L ⟨2, (-v), []⟩).2, no]⟩).1) ⟨3, 0, [(addN ((addN L ⟨2, (-v), []⟩).1) ⟨2, v, []⟩).2, yes]⟩).1) vs79), .ro D78 (Ins D78 ((addN ((addN ((addN ((addN L ⟨2, (-v), []⟩).1) ⟨2, v, []⟩).1) ⟨3, 0, [(addN L ⟨2, (-v), []⟩).2, no]⟩).1) ⟨3, 0, [(addN ((addN L ⟨2, (-v), []⟩).1) ⟨2, v, []⟩).2, yes]⟩).1) vs79), .ro TabD Tab, .blk hb 70 #[VP bb], .blk ab 76 #[.func (.func 26) #[] #[VP hb]]] := Own.blkin (l := [(addN ((addN ((addN L ⟨2, (-v), []⟩).1) ⟨2, v, []⟩).1) ⟨3, 0, [(addN L ⟨2, (-v), []⟩).2, no]⟩).2, (addN ((addN ((addN ((addN L ⟨2, (-v), []⟩).1) ⟨2, v, []⟩).1) ⟨3, 0, [(addN L ⟨2, (-v), []⟩).2, no]⟩).1) ⟨3, 0, [(addN ((addN L ⟨2, (-v), []⟩).1) ⟨2, v, []⟩).2, yes]⟩).2]) O90 rfl rfl (by decide)
   obtain ⟨O100h, O100f⟩ := Own.split (A := [.blk bb 109 #[.int .i64 N, .slice R76 (((addN ((addN ((addN ((addN L ⟨2, (-v), []⟩).1) ⟨2, v, []⟩).1) ⟨3, 0, [(addN L ⟨2, (-v), []⟩).2, no]⟩).1) ⟨3, 0, [(addN ((addN L ⟨2, (-v), []⟩).1) ⟨2, v, []⟩).2, yes]⟩).1).length) c77, .map (some m)], .map m (encL strE (keysO ((addN ((addN ((addN ((addN L ⟨2, (-v), []⟩).1) ⟨2, v, []⟩).1) ⟨3, 0, [(addN L ⟨2, (-v), []⟩).2, no]⟩).1) ⟨3, 0, [(addN ((addN L ⟨2, (-v), []⟩).1) ⟨2, v, []⟩).2, yes]⟩).1) 0)), .row (.slice R76 (((addN ((addN ((addN ((addN L ⟨2, (-v), []⟩).1) ⟨2, v, []⟩).1) ⟨3, 0, [(addN L ⟨2, (-v), []⟩).2, no]⟩).1) ⟨3, 0, [(addN ((addN L ⟨2, (-v), []⟩).1) ⟨2, v, []⟩).2, yes]⟩).1).length) c77) 73 3 (((addN ((addN ((addN ((addN L ⟨2, (-v), []⟩).1) ⟨2, v, []⟩).1) ⟨3, 0, [(addN L ⟨2, (-v), []⟩).2, no]⟩).1) ⟨3, 0, [(addN ((addN L ⟨2, (-v), []⟩).1) ⟨2, v, []⟩).2, yes]⟩).1).length) (gcells ((addN ((addN ((addN ((addN L ⟨2, (-v), []⟩).1) ⟨2, v, []⟩).1) ⟨3, 0, [(addN L ⟨2, (-v), []⟩).2, no]⟩).1) ⟨3, 0, [(addN ((addN L ⟨2, (-v), []⟩).1) ⟨2, v, []⟩).2, yes]⟩).1) vs79), .ro D78 (Ins D78 ((addN ((addN ((addN ((addN L ⟨2, (-v), []⟩).1) ⟨2, v, []⟩).1) ⟨3, 0, [(addN L ⟨2, (-v), []⟩).2, no]⟩).1) ⟨3, 0, [(addN ((addN L ⟨2, (-v), []⟩).1) ⟨2, v, []⟩).2, yes]⟩).1) vs79), .ro TabD Tab, .blk hb 70 #[VP bb], .ro (fun k => k = g87) (fun w => IntsD (fun k => k = g87) w (VS0 g87 2 2) [(addN ((addN ((addN L ⟨2, (-v), []⟩).1) ⟨2, v, []⟩).1) ⟨3, 0, [(addN L ⟨2, (-v), []⟩).2, no]⟩).2, (addN ((addN ((addN ((addN L ⟨2, (-v), []⟩).1) ⟨2, v, []⟩).1) ⟨3, 0, [(addN L ⟨2, (-v), []⟩).2, no]⟩).1) ⟨3, 0, [(addN ((addN L ⟨2, (-v), []⟩).1) ⟨2, v, []⟩).2, yes]⟩).2])]) (R := [.blk ab 76 #[.func (.func 26) #[] #[VP hb]]]) (O93.re [1, 2, 3, 4, 5, 6, 0, 7] rfl)
   refine (zIp (x := ⟨4, 0, [(addN ((addN ((addN L ⟨2, (-v), []⟩).1) ⟨2, v, []⟩).1) ⟨3, 0, [(addN L ⟨2, (-v), []⟩).2, no]⟩).2, (addN ((addN ((addN ((addN L ⟨2, (-v), []⟩).1) ⟨2, v, []⟩).1) ⟨3, 0, [(addN L ⟨2, (-v), []⟩).2, no]⟩).1) ⟨3, 0, [(addN ((addN L ⟨2, (-v), []⟩).1) ⟨2, v, []⟩).2, yes]⟩).2]⟩) (D2 := (fun k => k = g87)) (V := VS0 g87 2 2) O100h (zJb hr hN hB h1 h2 hno hyes).1 hN (zJb hr hN hB h1 h2 hno hyes).2.1 (fun _ => Nat.zero_lt_succ 1) (show 2 ≤ 65536 by decide) (zJb hr hN hB h1 h2 hno hyes).2.2).mono ?_
   rintro _ w98 ⟨R94, c95, D96, vs97, rfl, h99⟩
   have O100 := O100f h99
   refine ⟨_, rfl, ?_⟩
   refine wa rfl rfl rfl <| zAd <| zAb K86 <| zAz ?_
   refine zAy (v := .int .i64 ((addN ((addN ((addN ((addN ((addN L ⟨2, (-v), []⟩).1) ⟨2, v, []⟩).1) ⟨3, 0, [(addN L ⟨2, (-v), []⟩).2, no]⟩).1) ⟨3, 0, [(addN ((addN L ⟨2, (-v), []⟩).1) ⟨2, v, []⟩).2, yes]⟩).1) ⟨4, 0, [(addN ((addN ((addN L ⟨2, (-v), []⟩).1) ⟨2, v, []⟩).1) ⟨3, 0, [(addN L ⟨2, (-v), []⟩).2, no]⟩).2, (addN ((addN ((addN ((addN L ⟨2, (-v), []⟩).1) ⟨2, v, []⟩).1) ⟨3, 0, [(addN L ⟨2, (-v), []⟩).2, no]⟩).1) ⟨3, 0, [(addN ((addN L ⟨2, (-v), []⟩).1) ⟨2, v, []⟩).2, yes]⟩).2]⟩).2)) (fun T hT => res1 rfl T _ (hT 7 _ rfl)) ?_
   have hq : askN L v no yes = ask5 L v no yes := by unfold askN; rw [if_neg (by omega)]
   rw [hq]
   exact ⟨R94, c95, D96, vs97, rfl, O100⟩
  have N101 : ∀ (g29 : Nat) (R42 : Option Addr) (c43 : Nat) (D44 : (Nat → Prop)) (vs45 : List Value) (g61 : Nat) (R76 : Option Addr) (c77 : Nat) (D78 : (Nat → Prop)) (vs79 : List Value) (w102 : World), Own Z w0 w102 [.blk bb 109 #[.int .i64 N, .slice R76 (((addN ((addN ((addN ((addN L ⟨2, (-v), []⟩).1) ⟨2, v, []⟩).1) ⟨3, 0, [(addN L ⟨2, (-v), []⟩).2, no]⟩).1) ⟨3, 0, [(addN ((addN L ⟨2, (-v), []⟩).1) ⟨2, v, []⟩).2, yes]⟩).1).length) c77, .map (some m)], .map m (encL strE (keysO ((addN ((addN ((addN ((addN L ⟨2, (-v), []⟩).1) ⟨2, v, []⟩).1) ⟨3, 0, [(addN L ⟨2, (-v), []⟩).2, no]⟩).1) ⟨3, 0, [(addN ((addN L ⟨2, (-v), []⟩).1) ⟨2, v, []⟩).2, yes]⟩).1) 0)), .row (.slice R76 (((addN ((addN ((addN ((addN L ⟨2, (-v), []⟩).1) ⟨2, v, []⟩).1) ⟨3, 0, [(addN L ⟨2, (-v), []⟩).2, no]⟩).1) ⟨3, 0, [(addN ((addN L ⟨2, (-v), []⟩).1) ⟨2, v, []⟩).2, yes]⟩).1).length) c77) 73 3 (((addN ((addN ((addN ((addN L ⟨2, (-v), []⟩).1) ⟨2, v, []⟩).1) ⟨3, 0, [(addN L ⟨2, (-v), []⟩).2, no]⟩).1) ⟨3, 0, [(addN ((addN L ⟨2, (-v), []⟩).1) ⟨2, v, []⟩).2, yes]⟩).1).length) (gcells ((addN ((addN ((addN ((addN L ⟨2, (-v), []⟩).1) ⟨2, v, []⟩).1) ⟨3, 0, [(addN L ⟨2, (-v), []⟩).2, no]⟩).1) ⟨3, 0, [(addN ((addN L ⟨2, (-v), []⟩).1) ⟨2, v, []⟩).2, yes]⟩).1) vs79), .ro D78 (Ins D78 ((addN ((addN ((addN ((addN L ⟨2, (-v), []⟩).1) ⟨2, v, []⟩).1) ⟨3, 0, [(addN L ⟨2, (-v), []⟩).2, no]⟩).1) ⟨3, 0, [(addN ((addN L ⟨2, (-v), []⟩).1) ⟨2, v, []⟩).2, yes]⟩).1) vs79), .ro TabD Tab, .blk hb 70 #[VP bb], .blk ab 76 #[.func (.func 26) #[] #[VP hb]]] → AT26 1 #[true, true, true, true, true, true, true, true, true, true, true, true, true, false] 41 [(0, .int .i64 v), (1, .int .i64 no), (2, .int .i64 yes), (3, VP ab), (7, .int .i64 0), (10, .int .i64 no), (11, .int .i64 yes), (12, .bool false), (14, .func (.func 26) #[] #[VP hb]), (15, .int .i64 v), (16, .int .i64 (-v)), (17, .agg #[.int .i64 2, .int .i64 (-v), .slice none 0 0]), (19, .func (.func 26) #[] #[VP hb]), (20, .int .i64 v), (21, .agg #[.int .i64 2, .int .i64 v, .slice none 0 0]), (18, .int .i64 ((addN L ⟨2, (-v), []⟩).2)), (22, .int .i64 ((addN ((addN L ⟨2, (-v), []⟩).1) ⟨2, v, []⟩).2)), (8, .int .i64 ((addN ((addN ((addN L ⟨2, (-v), []⟩).1) ⟨2, v, []⟩).1) ⟨3, 0, [(addN L ⟨2, (-v), []⟩).2, no]⟩).2)), (9, .int .i64 ((addN ((addN L ⟨2, (-v), []⟩).1) ⟨2, v, []⟩).2)), (34, .int .i64 ((addN ((addN ((addN ((addN L ⟨2, (-v), []⟩).1) ⟨2, v, []⟩).1) ⟨3, 0, [(addN L ⟨2, (-v), []⟩).2, no]⟩).1) ⟨3, 0, [(addN ((addN L ⟨2, (-v), []⟩).1) ⟨2, v, []⟩).2, yes]⟩).2))] w102 := by
   intro g29 R42 c43 D44 vs45 g61 R76 c77 D78 vs79 w102 O103
   refine hin27 _ _ _ _ _ ?_
   refine zCy [13] (by kernel_rfl) ⟨?_, trivial⟩
   ·skip
    refine zE5 (v := .int .i64 ((addN ((addN ((addN ((addN L ⟨2, (-v), []⟩).1) ⟨2, v, []⟩).1) ⟨3, 0, [(addN L ⟨2, (-v), []⟩).2, no]⟩).1) ⟨3, 0, [(addN ((addN L ⟨2, (-v), []⟩).1) ⟨2, v, []⟩).2, yes]⟩).2)) (listed' := #[true, true, true, true, true, true, true, true, true, true, true, true, true, true]) rfl rfl (fun ρ e => zBb (e _ _ rfl)) rfl rfl (fun _ => (O103.re [5, 6] rfl)) ?_
    exact zDn (hout28 _ _ _ _ _ (N83 g29 R42 c43 D44 vs45 g61 R76 c77 D78 vs79 w102 O103)) ⟨rfl, rfl, rfl, rfl, rfl, rfl, rfl, rfl, rfl, rfl, rfl, rfl, rfl, rfl, rfl, rfl, rfl, rfl, rfl, trivial⟩
  have N104 : ∀ (g29 : Nat) (R42 : Option Addr) (c43 : Nat) (D44 : (Nat → Prop)) (vs45 : List Value) (g61 : Nat) (R76 : Option Addr) (c77 : Nat) (D78 : (Nat → Prop)) (vs79 : List Value) (w105 : World), Own Z w0 w105 [.blk bb 109 #[.int .i64 N, .slice R76 (((addN ((addN ((addN ((addN L ⟨2, (-v), []⟩).1) ⟨2, v, []⟩).1) ⟨3, 0, [(addN L ⟨2, (-v), []⟩).2, no]⟩).1) ⟨3, 0, [(addN ((addN L ⟨2, (-v), []⟩).1) ⟨2, v, []⟩).2, yes]⟩).1).length) c77, .map (some m)], .map m (encL strE (keysO ((addN ((addN ((addN ((addN L ⟨2, (-v), []⟩).1) ⟨2, v, []⟩).1) ⟨3, 0, [(addN L ⟨2, (-v), []⟩).2, no]⟩).1) ⟨3, 0, [(addN ((addN L ⟨2, (-v), []⟩).1) ⟨2, v, []⟩).2, yes]⟩).1) 0)), .row (.slice R76 (((addN ((addN ((addN ((addN L ⟨2, (-v), []⟩).1) ⟨2, v, []⟩).1) ⟨3, 0, [(addN L ⟨2, (-v), []⟩).2, no]⟩).1) ⟨3, 0, [(addN ((addN L ⟨2, (-v), []⟩).1) ⟨2, v, []⟩).2, yes]⟩).1).length) c77) 73 3 (((addN ((addN ((addN ((addN L ⟨2, (-v), []⟩).1) ⟨2, v, []⟩).1) ⟨3, 0, [(addN L ⟨2, (-v), []⟩).2, no]⟩).1) ⟨3, 0, [(addN ((addN L ⟨2, (-v), []⟩).1) ⟨2, v, []⟩).2, yes]⟩).1).length) (gcells ((addN ((addN ((addN ((addN L ⟨2, (-v), []⟩).1) ⟨2, v, []⟩).1) ⟨3, 0, [(addN L ⟨2, (-v), []⟩).2, no]⟩).1) ⟨3, 0, [(addN ((addN L ⟨2, (-v), []⟩).1) ⟨2, v, []⟩).2, yes]⟩).1) vs79), .ro D78 (Ins D78 ((addN ((addN ((addN ((addN L ⟨2, (-v), []⟩).1) ⟨2, v, []⟩).1) ⟨3, 0, [(addN L ⟨2, (-v), []⟩).2, no]⟩).1) ⟨3, 0, [(addN ((addN L ⟨2, (-v), []⟩).1) ⟨2, v, []⟩).2, yes]⟩).1) vs79), .ro TabD Tab, .blk hb 70 #[VP bb], .blk ab 76 #[.func (.func 26) #[] #[VP hb]]] → AT26 2 #[true, true, true, true, true, true, true, true, true, true, true, true, false, false] 41 [(0, .int .i64 v), (1, .int .i64 no), (2, .int .i64 yes), (3, VP ab), (7, .int .i64 0), (10, .int .i64 no), (11, .int .i64 yes), (12, .bool false), (14, .func (.func 26) #[] #[VP hb]), (15, .int .i64 v), (16, .int .i64 (-v)), (17, .agg #[.int .i64 2, .int .i64 (-v), .slice none 0 0]), (19, .func (.func 26) #[] #[VP hb]), (20, .int .i64 v), (21, .agg #[.int .i64 2, .int .i64 v, .slice none 0 0]), (18, .int .i64 ((addN L ⟨2, (-v), []⟩).2)), (22, .int .i64 ((addN ((addN L ⟨2, (-v), []⟩).1) ⟨2, v, []⟩).2)), (8, .int .i64 ((addN L ⟨2, (-v), []⟩).2)), (9, .int .i64 ((addN ((addN L ⟨2, (-v), []⟩).1) ⟨2, v, []⟩).2)), (28, .int .i64 ((addN ((addN ((addN L ⟨2, (-v), []⟩).1) ⟨2, v, []⟩).1) ⟨3, 0, [(addN L ⟨2, (-v), []⟩).2, no]⟩).2)), (34, .int .i64 ((addN ((addN ((addN ((addN L ⟨2, (-v), []⟩).1) ⟨2, v, []⟩).1) ⟨3, 0, [(addN L ⟨2, (-v), []⟩).2, no]⟩).1) ⟨3, 0, [(addN ((addN L ⟨2, (-v), []⟩).1) ⟨2, v, []⟩).2, yes]⟩).2))] w105 := by
   intro g29 R42 c43 D44 vs45 g61 R76 c77 D78 vs79 w105 O106
   refine hin27 _ _ _ _ _ ?_
   refine zCy [12] (by kernel_rfl) ⟨?_, trivial⟩
   ·skip
    refine zE5 (v := .int .i64 ((addN ((addN ((addN L ⟨2, (-v), []⟩).1) ⟨2, v, []⟩).1) ⟨3, 0, [(addN L ⟨2, (-v), []⟩).2, no]⟩).2)) (listed' := #[true, true, true, true, true, true, true, true, true, true, true, true, true, false]) rfl rfl (fun ρ e => zBb (e _ _ rfl)) rfl rfl (fun _ => (O106.re [5, 6] rfl)) ?_
    exact zDn (hout28 _ _ _ _ _ (N101 g29 R42 c43 D44 vs45 g61 R76 c77 D78 vs79 w105 O106)) ⟨rfl, rfl, rfl, rfl, rfl, rfl, rfl, rfl, rfl, rfl, rfl, rfl, rfl, rfl, rfl, rfl, rfl, rfl, rfl, rfl, trivial⟩
  have N107 : ∀ (g29 : Nat) (R42 : Option Addr) (c43 : Nat) (D44 : (Nat → Prop)) (vs45 : List Value) (g61 : Nat) (w108 : World), Own Z w0 w108 [.blk g61 3 #[.int .i64 ((addN ((addN L ⟨2, (-v), []⟩).1) ⟨2, v, []⟩).2), .int .i64 yes], .blk bb 109 #[.int .i64 N, .slice R42 (((addN ((addN ((addN L ⟨2, (-v), []⟩).1) ⟨2, v, []⟩).1) ⟨3, 0, [(addN L ⟨2, (-v), []⟩).2, no]⟩).1).length) c43, .map (some m)], .map m (encL strE (keysO ((addN ((addN ((addN L ⟨2, (-v), []⟩).1) ⟨2, v, []⟩).1) ⟨3, 0, [(addN L ⟨2, (-v), []⟩).2, no]⟩).1) 0)), .row (.slice R42 (((addN ((addN ((addN L ⟨2, (-v), []⟩).1) ⟨2, v, []⟩).1) ⟨3, 0, [(addN L ⟨2, (-v), []⟩).2, no]⟩).1).length) c43) 73 3 (((addN ((addN ((addN L ⟨2, (-v), []⟩).1) ⟨2, v, []⟩).1) ⟨3, 0, [(addN L ⟨2, (-v), []⟩).2, no]⟩).1).length) (gcells ((addN ((addN ((addN L ⟨2, (-v), []⟩).1) ⟨2, v, []⟩).1) ⟨3, 0, [(addN L ⟨2, (-v), []⟩).2, no]⟩).1) vs45), .ro D44 (Ins D44 ((addN ((addN ((addN L ⟨2, (-v), []⟩).1) ⟨2, v, []⟩).1) ⟨3, 0, [(addN L ⟨2, (-v), []⟩).2, no]⟩).1) vs45), .ro TabD Tab, .blk hb 70 #[VP bb], .blk ab 76 #[.func (.func 26) #[] #[VP hb]]] → AT26 3 #[true, true, true, true, true, true, true, true, true, true, true, false, false, false] 41 [(0, .int .i64 v), (1, .int .i64 no), (2, .int .i64 yes), (3, VP ab), (7, .int .i64 0), (10, .int .i64 no), (11, .int .i64 yes), (12, .bool false), (14, .func (.func 26) #[] #[VP hb]), (15, .int .i64 v), (16, .int .i64 (-v)), (17, .agg #[.int .i64 2, .int .i64 (-v), .slice none 0 0]), (19, .func (.func 26) #[] #[VP hb]), (20, .int .i64 v), (21, .agg #[.int .i64 2, .int .i64 v, .slice none 0 0]), (18, .int .i64 ((addN L ⟨2, (-v), []⟩).2)), (22, .int .i64 ((addN ((addN L ⟨2, (-v), []⟩).1) ⟨2, v, []⟩).2)), (8, .int .i64 ((addN L ⟨2, (-v), []⟩).2)), (9, .int .i64 ((addN ((addN L ⟨2, (-v), []⟩).1) ⟨2, v, []⟩).2)), (29, .func (.func 26) #[] #[VP hb]), (28, .int .i64 ((addN ((addN ((addN L ⟨2, (-v), []⟩).1) ⟨2, v, []⟩).1) ⟨3, 0, [(addN L ⟨2, (-v), []⟩).2, no]⟩).2)), (33, .agg #[.int .i64 3, .int .i64 0, VS0 g61 2 2])] w108 := by
   intro g29 R42 c43 D44 vs45 g61 w108 O109
   refine hin27 _ _ _ _ _ ?_
   refine zCy [11] (by kernel_rfl) ⟨?_, trivial⟩
   ·skip
    refine zG1 (args := [.agg #[.int .i64 3, .int .i64 0, VS0 g61 2 2]]) (all := [.agg #[.int .i64 3, .int .i64 0, VS0 g61 2 2], VP hb]) (listed' := #[true, true, true, true, true, true, true, true, true, true, true, true, false, false]) rfl rfl zIs rfl rfl rfl rfl rfl ?_
    have O110 : Own Z w0 w108 [.ro (fun k => k = g61) (fun w => IntsD (fun k => k = g61) w (VS0 g61 2 2) [(addN ((addN L ⟨2, (-v), []⟩).1) ⟨2, v, []⟩).2, yes]), .blk bb 109 #[.int .i64 N, .slice R42 (((addN ((addN ((addN L ⟨2, (-v), []⟩).1) ⟨2, v, []⟩).1) ⟨3, 0, [(addN L ⟨2, (-v), []⟩).2, no]⟩).1).length) c43, .map (some m)], .map m (encL strE (keysO ((addN ((addN ((addN L ⟨2, (-v), []⟩).1) ⟨2, v, []⟩).1) ⟨3, 0, [(addN L ⟨2, (-v), []⟩).2, no]⟩).1) 0)), .row (.slice R42 (((addN ((addN ((addN L ⟨2, (-v), []⟩).1) ⟨2, v, []⟩).1) ⟨3, 0, [(addN L ⟨2, (-v), []⟩).2, no]⟩).1).length) c43) 73 3 (((addN ((addN ((addN L ⟨2, (-v), []⟩).1) ⟨2, v, []⟩).1) ⟨3, 0, [(addN L ⟨2, (-v), []⟩).2, no]⟩).1).length) (gcells ((addN ((addN ((addN L ⟨2, (-v), []⟩).1) ⟨2, v, []⟩).1) ⟨3, 0, [(addN L ⟨2, (-v), []⟩).2, no]⟩).1) vs45), .ro D44 (Ins D44 ((addN ((addN ((addN L ⟨2, (-v), []⟩).1) ⟨2, v, []⟩).1) ⟨3, 0, [(addN L ⟨2, (-v), []⟩).2, no]⟩).1) vs45), .ro TabD Tab, .blk hb 70 #[VP bb], .blk ab 76 #[.func (.func 26) #[] #[VP hb]]] := Own.blkin (l := [(addN ((addN L ⟨2, (-v), []⟩).1) ⟨2, v, []⟩).2, yes]) O109 rfl rfl (by decide)
    obtain ⟨O117h, O117f⟩ := Own.split (A := [.blk bb 109 #[.int .i64 N, .slice R42 (((addN ((addN ((addN L ⟨2, (-v), []⟩).1) ⟨2, v, []⟩).1) ⟨3, 0, [(addN L ⟨2, (-v), []⟩).2, no]⟩).1).length) c43, .map (some m)], .map m (encL strE (keysO ((addN ((addN ((addN L ⟨2, (-v), []⟩).1) ⟨2, v, []⟩).1) ⟨3, 0, [(addN L ⟨2, (-v), []⟩).2, no]⟩).1) 0)), .row (.slice R42 (((addN ((addN ((addN L ⟨2, (-v), []⟩).1) ⟨2, v, []⟩).1) ⟨3, 0, [(addN L ⟨2, (-v), []⟩).2, no]⟩).1).length) c43) 73 3 (((addN ((addN ((addN L ⟨2, (-v), []⟩).1) ⟨2, v, []⟩).1) ⟨3, 0, [(addN L ⟨2, (-v), []⟩).2, no]⟩).1).length) (gcells ((addN ((addN ((addN L ⟨2, (-v), []⟩).1) ⟨2, v, []⟩).1) ⟨3, 0, [(addN L ⟨2, (-v), []⟩).2, no]⟩).1) vs45), .ro D44 (Ins D44 ((addN ((addN ((addN L ⟨2, (-v), []⟩).1) ⟨2, v, []⟩).1) ⟨3, 0, [(addN L ⟨2, (-v), []⟩).2, no]⟩).1) vs45), .ro TabD Tab, .blk hb 70 #[VP bb], .ro (fun k => k = g61) (fun w => IntsD (fun k => k = g61) w (VS0 g61 2 2) [(addN ((addN L ⟨2, (-v), []⟩).1) ⟨2, v, []⟩).2, yes])]) (R := [.blk ab 76 #[.func (.func 26) #[] #[VP hb]]]) (O110.re [1, 2, 3, 4, 5, 6, 0, 7] rfl)
    refine (zIp (x := ⟨3, 0, [(addN ((addN L ⟨2, (-v), []⟩).1) ⟨2, v, []⟩).2, yes]⟩) (D2 := (fun k => k = g61)) (V := VS0 g61 2 2) O117h (zJc hr hN hB h1 h2 hno hyes).1 hN (zJc hr hN hB h1 h2 hno hyes).2.1 (fun _ => Nat.zero_lt_succ 1) (show 2 ≤ 65536 by decide) (zJc hr hN hB h1 h2 hno hyes).2.2).mono ?_
    rintro _ w115 ⟨R111, c112, D113, vs114, rfl, h116⟩
    have O117 := O117f h116
    refine ⟨_, rfl, (fun _ => (O117.re [5, 6] rfl)), ?_⟩
    exact zDn (hout28 _ _ _ _ _ (N104 g29 R42 c43 D44 vs45 g61 R111 c112 D113 vs114 w115 O117)) ⟨rfl, rfl, rfl, rfl, rfl, rfl, rfl, rfl, rfl, rfl, rfl, rfl, rfl, rfl, rfl, rfl, rfl, rfl, rfl, rfl, rfl, trivial⟩
  have N118 : ∀ (g29 : Nat) (g49 : Nat) (w119 : World), Own Z w0 w119 [.blk g49 3 #[.int .i64 ((addN ((addN L ⟨2, (-v), []⟩).1) ⟨2, v, []⟩).2), .int .i64 yes], .blk g29 3 #[.int .i64 ((addN L ⟨2, (-v), []⟩).2), .int .i64 no], .blk bb 109 #[.int .i64 N, .slice R17 (((addN ((addN L ⟨2, (-v), []⟩).1) ⟨2, v, []⟩).1).length) c18, .map (some m)], .map m (encL strE (keysO ((addN ((addN L ⟨2, (-v), []⟩).1) ⟨2, v, []⟩).1) 0)), .row (.slice R17 (((addN ((addN L ⟨2, (-v), []⟩).1) ⟨2, v, []⟩).1).length) c18) 73 3 (((addN ((addN L ⟨2, (-v), []⟩).1) ⟨2, v, []⟩).1).length) (gcells ((addN ((addN L ⟨2, (-v), []⟩).1) ⟨2, v, []⟩).1) vs20), .ro D19 (Ins D19 ((addN ((addN L ⟨2, (-v), []⟩).1) ⟨2, v, []⟩).1) vs20), .ro TabD Tab, .blk hb 70 #[VP bb], .blk ab 76 #[.func (.func 26) #[] #[VP hb]]] → AT26 4 #[true, true, true, true, true, false, true, true, true, true, true, false, false, false] 41 [(0, .int .i64 v), (1, .int .i64 no), (2, .int .i64 yes), (3, VP ab), (7, .int .i64 0), (10, .int .i64 no), (11, .int .i64 yes), (12, .bool false), (14, .func (.func 26) #[] #[VP hb]), (15, .int .i64 v), (16, .int .i64 (-v)), (17, .agg #[.int .i64 2, .int .i64 (-v), .slice none 0 0]), (19, .func (.func 26) #[] #[VP hb]), (20, .int .i64 v), (21, .agg #[.int .i64 2, .int .i64 v, .slice none 0 0]), (18, .int .i64 ((addN L ⟨2, (-v), []⟩).2)), (22, .int .i64 ((addN ((addN L ⟨2, (-v), []⟩).1) ⟨2, v, []⟩).2)), (8, .int .i64 ((addN L ⟨2, (-v), []⟩).2)), (9, .int .i64 ((addN ((addN L ⟨2, (-v), []⟩).1) ⟨2, v, []⟩).2)), (23, .func (.func 26) #[] #[VP hb]), (29, .func (.func 26) #[] #[VP hb]), (27, .agg #[.int .i64 3, .int .i64 0, VS0 g29 2 2]), (33, .agg #[.int .i64 3, .int .i64 0, VS0 g49 2 2])] w119 := by
   intro g29 g49 w119 O120
   refine hin27 _ _ _ _ _ ?_
   refine zCy [5] (by kernel_rfl) ⟨?_, trivial⟩
   ·skip
    refine zG1 (args := [.agg #[.int .i64 3, .int .i64 0, VS0 g29 2 2]]) (all := [.agg #[.int .i64 3, .int .i64 0, VS0 g29 2 2], VP hb]) (listed' := #[true, true, true, true, true, true, true, true, true, true, true, false, false, false]) rfl rfl zIs rfl rfl rfl rfl rfl ?_
    have O121 : Own Z w0 w119 [.ro (fun k => k = g29) (fun w => IntsD (fun k => k = g29) w (VS0 g29 2 2) [(addN L ⟨2, (-v), []⟩).2, no]), .blk g49 3 #[.int .i64 ((addN ((addN L ⟨2, (-v), []⟩).1) ⟨2, v, []⟩).2), .int .i64 yes], .blk bb 109 #[.int .i64 N, .slice R17 (((addN ((addN L ⟨2, (-v), []⟩).1) ⟨2, v, []⟩).1).length) c18, .map (some m)], .map m (encL strE (keysO ((addN ((addN L ⟨2, (-v), []⟩).1) ⟨2, v, []⟩).1) 0)), .row (.slice R17 (((addN ((addN L ⟨2, (-v), []⟩).1) ⟨2, v, []⟩).1).length) c18) 73 3 (((addN ((addN L ⟨2, (-v), []⟩).1) ⟨2, v, []⟩).1).length) (gcells ((addN ((addN L ⟨2, (-v), []⟩).1) ⟨2, v, []⟩).1) vs20), .ro D19 (Ins D19 ((addN ((addN L ⟨2, (-v), []⟩).1) ⟨2, v, []⟩).1) vs20), .ro TabD Tab, .blk hb 70 #[VP bb], .blk ab 76 #[.func (.func 26) #[] #[VP hb]]] := Own.blkin (l := [(addN L ⟨2, (-v), []⟩).2, no]) (O120.re [1, 0, 2, 3, 4, 5, 6, 7, 8] rfl) rfl rfl (by decide)
    obtain ⟨O128h, O128f⟩ := Own.split (A := [.blk bb 109 #[.int .i64 N, .slice R17 (((addN ((addN L ⟨2, (-v), []⟩).1) ⟨2, v, []⟩).1).length) c18, .map (some m)], .map m (encL strE (keysO ((addN ((addN L ⟨2, (-v), []⟩).1) ⟨2, v, []⟩).1) 0)), .row (.slice R17 (((addN ((addN L ⟨2, (-v), []⟩).1) ⟨2, v, []⟩).1).length) c18) 73 3 (((addN ((addN L ⟨2, (-v), []⟩).1) ⟨2, v, []⟩).1).length) (gcells ((addN ((addN L ⟨2, (-v), []⟩).1) ⟨2, v, []⟩).1) vs20), .ro D19 (Ins D19 ((addN ((addN L ⟨2, (-v), []⟩).1) ⟨2, v, []⟩).1) vs20), .ro TabD Tab, .blk hb 70 #[VP bb], .ro (fun k => k = g29) (fun w => IntsD (fun k => k = g29) w (VS0 g29 2 2) [(addN L ⟨2, (-v), []⟩).2, no])]) (R := [.blk g49 3 #[.int .i64 ((addN ((addN L ⟨2, (-v), []⟩).1) ⟨2, v, []⟩).2), .int .i64 yes], .blk ab 76 #[.func (.func 26) #[] #[VP hb]]]) (O121.re [2, 3, 4, 5, 6, 7, 0, 1, 8] rfl)
    refine (zIp (x := ⟨3, 0, [(addN L ⟨2, (-v), []⟩).2, no]⟩) (D2 := (fun k => k = g29)) (V := VS0 g29 2 2) O128h (zGi hr hN hB h1 h2 hno hyes).1 hN (zGi hr hN hB h1 h2 hno hyes).2.1 (fun _ => Nat.zero_lt_succ 1) (show 2 ≤ 65536 by decide) (zGi hr hN hB h1 h2 hno hyes).2.2).mono ?_
    rintro _ w126 ⟨R122, c123, D124, vs125, rfl, h127⟩
    have O128 := O128f h127
    refine ⟨_, rfl, (fun _ => (O128.re [5, 7] rfl)), ?_⟩
    exact zDn (hout28 _ _ _ _ _ (N107 g29 R122 c123 D124 vs125 g49 w126 (O128.re [6, 0, 1, 2, 3, 4, 5, 7] rfl))) ⟨rfl, rfl, rfl, rfl, rfl, rfl, rfl, rfl, rfl, rfl, rfl, rfl, rfl, rfl, rfl, rfl, rfl, rfl, rfl, rfl, rfl, rfl, trivial⟩
  have N129 : ∀ (g29 : Nat) (R42 : Option Addr) (c43 : Nat) (D44 : (Nat → Prop)) (vs45 : List Value) (w130 : World), Own Z w0 w130 [.blk bb 109 #[.int .i64 N, .slice R42 (((addN ((addN ((addN L ⟨2, (-v), []⟩).1) ⟨2, v, []⟩).1) ⟨3, 0, [(addN L ⟨2, (-v), []⟩).2, no]⟩).1).length) c43, .map (some m)], .map m (encL strE (keysO ((addN ((addN ((addN L ⟨2, (-v), []⟩).1) ⟨2, v, []⟩).1) ⟨3, 0, [(addN L ⟨2, (-v), []⟩).2, no]⟩).1) 0)), .row (.slice R42 (((addN ((addN ((addN L ⟨2, (-v), []⟩).1) ⟨2, v, []⟩).1) ⟨3, 0, [(addN L ⟨2, (-v), []⟩).2, no]⟩).1).length) c43) 73 3 (((addN ((addN ((addN L ⟨2, (-v), []⟩).1) ⟨2, v, []⟩).1) ⟨3, 0, [(addN L ⟨2, (-v), []⟩).2, no]⟩).1).length) (gcells ((addN ((addN ((addN L ⟨2, (-v), []⟩).1) ⟨2, v, []⟩).1) ⟨3, 0, [(addN L ⟨2, (-v), []⟩).2, no]⟩).1) vs45), .ro D44 (Ins D44 ((addN ((addN ((addN L ⟨2, (-v), []⟩).1) ⟨2, v, []⟩).1) ⟨3, 0, [(addN L ⟨2, (-v), []⟩).2, no]⟩).1) vs45), .ro TabD Tab, .blk hb 70 #[VP bb], .blk ab 76 #[.func (.func 26) #[] #[VP hb]]] → AT26 5 #[true, true, true, true, true, true, true, true, true, false, false, false, false, false] 41 [(0, .int .i64 v), (1, .int .i64 no), (2, .int .i64 yes), (3, VP ab), (7, .int .i64 0), (10, .int .i64 no), (11, .int .i64 yes), (12, .bool false), (14, .func (.func 26) #[] #[VP hb]), (15, .int .i64 v), (16, .int .i64 (-v)), (17, .agg #[.int .i64 2, .int .i64 (-v), .slice none 0 0]), (19, .func (.func 26) #[] #[VP hb]), (20, .int .i64 v), (21, .agg #[.int .i64 2, .int .i64 v, .slice none 0 0]), (18, .int .i64 ((addN L ⟨2, (-v), []⟩).2)), (22, .int .i64 ((addN ((addN L ⟨2, (-v), []⟩).1) ⟨2, v, []⟩).2)), (8, .int .i64 ((addN L ⟨2, (-v), []⟩).2)), (9, .int .i64 ((addN ((addN L ⟨2, (-v), []⟩).1) ⟨2, v, []⟩).2)), (29, .func (.func 26) #[] #[VP hb]), (30, .int .i64 ((addN ((addN L ⟨2, (-v), []⟩).1) ⟨2, v, []⟩).2)), (31, .int .i64 yes), (28, .int .i64 ((addN ((addN ((addN L ⟨2, (-v), []⟩).1) ⟨2, v, []⟩).1) ⟨3, 0, [(addN L ⟨2, (-v), []⟩).2, no]⟩).2))] w130 := by
   intro g29 R42 c43 D44 vs45 w130 O131
   refine hin27 _ _ _ _ _ ?_
   refine zCy [9] (by kernel_rfl) ⟨?_, trivial⟩
   ·skip
    obtain ⟨g132, w133, r134, O135, hg136, hs137⟩ := zBg O131 el57 ze3 2 [(0, .int .i64 ((addN ((addN L ⟨2, (-v), []⟩).1) ⟨2, v, []⟩).2)), (1, .int .i64 yes)] (cs := #[.int .i64 ((addN ((addN L ⟨2, (-v), []⟩).1) ⟨2, v, []⟩).2), .int .i64 yes]) (by decide) (by kernel_rfl)
    refine zE5 (v := VS0 g132 2 2) (listed' := #[true, true, true, true, true, true, true, true, true, true, false, false, false, false]) rfl rfl (fun ρ e => r134 ρ _ _ _ _ _ _ (e.parts rfl)) rfl rfl (fun _ => (O135.re [6, 7] rfl)) ?_
    refine zC7 (v := .agg #[.int .i64 3, .int .i64 0, VS0 g132 2 2]) (i := 10) (listed' := #[true, true, true, true, true, true, true, true, true, true, true, false, false, false]) rfl (by kernel_rfl) (PQ.then_ PQ.body) (fun _ => (O135.re [6, 7] rfl)) (fun ρ e W => zBe (cells := #[.int .i64 3, .int .i64 0, VS0 g132 2 2]) st73 (e.parts rfl) rfl) rfl rfl ?_
    exact zDn (hout28 _ _ _ _ _ (N107 g29 R42 c43 D44 vs45 g132 w133 O135)) ⟨rfl, rfl, rfl, rfl, rfl, rfl, rfl, rfl, rfl, rfl, rfl, rfl, rfl, rfl, rfl, rfl, rfl, rfl, rfl, rfl, rfl, rfl, trivial⟩
  have N138 : ∀ (g35 : Nat) (w139 : World), Own Z w0 w139 [.blk g35 3 #[.int .i64 ((addN ((addN L ⟨2, (-v), []⟩).1) ⟨2, v, []⟩).2), .int .i64 yes], .blk bb 109 #[.int .i64 N, .slice R17 (((addN ((addN L ⟨2, (-v), []⟩).1) ⟨2, v, []⟩).1).length) c18, .map (some m)], .map m (encL strE (keysO ((addN ((addN L ⟨2, (-v), []⟩).1) ⟨2, v, []⟩).1) 0)), .row (.slice R17 (((addN ((addN L ⟨2, (-v), []⟩).1) ⟨2, v, []⟩).1).length) c18) 73 3 (((addN ((addN L ⟨2, (-v), []⟩).1) ⟨2, v, []⟩).1).length) (gcells ((addN ((addN L ⟨2, (-v), []⟩).1) ⟨2, v, []⟩).1) vs20), .ro D19 (Ins D19 ((addN ((addN L ⟨2, (-v), []⟩).1) ⟨2, v, []⟩).1) vs20), .ro TabD Tab, .blk hb 70 #[VP bb], .blk ab 76 #[.func (.func 26) #[] #[VP hb]]] → AT26 6 #[true, true, true, false, false, false, true, true, true, true, true, false, false, false] 41 [(0, .int .i64 v), (1, .int .i64 no), (2, .int .i64 yes), (3, VP ab), (7, .int .i64 0), (10, .int .i64 no), (11, .int .i64 yes), (12, .bool false), (14, .func (.func 26) #[] #[VP hb]), (15, .int .i64 v), (16, .int .i64 (-v)), (17, .agg #[.int .i64 2, .int .i64 (-v), .slice none 0 0]), (19, .func (.func 26) #[] #[VP hb]), (20, .int .i64 v), (21, .agg #[.int .i64 2, .int .i64 v, .slice none 0 0]), (18, .int .i64 ((addN L ⟨2, (-v), []⟩).2)), (22, .int .i64 ((addN ((addN L ⟨2, (-v), []⟩).1) ⟨2, v, []⟩).2)), (8, .int .i64 ((addN L ⟨2, (-v), []⟩).2)), (9, .int .i64 ((addN ((addN L ⟨2, (-v), []⟩).1) ⟨2, v, []⟩).2)), (23, .func (.func 26) #[] #[VP hb]), (24, .int .i64 ((addN L ⟨2, (-v), []⟩).2)), (25, .int .i64 no), (29, .func (.func 26) #[] #[VP hb]), (33, .agg #[.int .i64 3, .int .i64 0, VS0 g35 2 2])] w139 := by
   intro g35 w139 O140
   refine hin27 _ _ _ _ _ ?_
   refine zCy [3] (by kernel_rfl) ⟨?_, trivial⟩
   ·skip
    obtain ⟨g141, w142, r143, O144, hg145, hs146⟩ := zBg O140 el57 ze3 2 [(0, .int .i64 ((addN L ⟨2, (-v), []⟩).2)), (1, .int .i64 no)] (cs := #[.int .i64 ((addN L ⟨2, (-v), []⟩).2), .int .i64 no]) (by decide) (by kernel_rfl)
    refine zE5 (v := VS0 g141 2 2) (listed' := #[true, true, true, true, false, false, true, true, true, true, true, false, false, false]) rfl rfl (fun ρ e => r143 ρ _ _ _ _ _ _ (e.parts rfl)) rfl rfl (fun _ => (O144.re [7, 8] rfl)) ?_
    refine zC7 (v := .agg #[.int .i64 3, .int .i64 0, VS0 g141 2 2]) (i := 4) (listed' := #[true, true, true, true, true, false, true, true, true, true, true, false, false, false]) rfl (by kernel_rfl) (PQ.then_ PQ.body) (fun _ => (O144.re [7, 8] rfl)) (fun ρ e W => zBe (cells := #[.int .i64 3, .int .i64 0, VS0 g141 2 2]) st73 (e.parts rfl) rfl) rfl rfl ?_
    exact zDn (hout28 _ _ _ _ _ (N118 g141 g35 w142 (O144.re [1, 0, 2, 3, 4, 5, 6, 7, 8] rfl))) ⟨rfl, rfl, rfl, rfl, rfl, rfl, rfl, rfl, rfl, rfl, rfl, rfl, rfl, rfl, rfl, rfl, rfl, rfl, rfl, rfl, rfl, rfl, rfl, trivial⟩
  have N147 : ∀ (g29 : Nat) (w148 : World), Own Z w0 w148 [.blk g29 3 #[.int .i64 ((addN L ⟨2, (-v), []⟩).2), .int .i64 no], .blk bb 109 #[.int .i64 N, .slice R17 (((addN ((addN L ⟨2, (-v), []⟩).1) ⟨2, v, []⟩).1).length) c18, .map (some m)], .map m (encL strE (keysO ((addN ((addN L ⟨2, (-v), []⟩).1) ⟨2, v, []⟩).1) 0)), .row (.slice R17 (((addN ((addN L ⟨2, (-v), []⟩).1) ⟨2, v, []⟩).1).length) c18) 73 3 (((addN ((addN L ⟨2, (-v), []⟩).1) ⟨2, v, []⟩).1).length) (gcells ((addN ((addN L ⟨2, (-v), []⟩).1) ⟨2, v, []⟩).1) vs20), .ro D19 (Ins D19 ((addN ((addN L ⟨2, (-v), []⟩).1) ⟨2, v, []⟩).1) vs20), .ro TabD Tab, .blk hb 70 #[VP bb], .blk ab 76 #[.func (.func 26) #[] #[VP hb]]] → AT26 6 #[true, true, true, true, true, false, true, true, true, false, false, false, false, false] 41 [(0, .int .i64 v), (1, .int .i64 no), (2, .int .i64 yes), (3, VP ab), (7, .int .i64 0), (10, .int .i64 no), (11, .int .i64 yes), (12, .bool false), (14, .func (.func 26) #[] #[VP hb]), (15, .int .i64 v), (16, .int .i64 (-v)), (17, .agg #[.int .i64 2, .int .i64 (-v), .slice none 0 0]), (19, .func (.func 26) #[] #[VP hb]), (20, .int .i64 v), (21, .agg #[.int .i64 2, .int .i64 v, .slice none 0 0]), (18, .int .i64 ((addN L ⟨2, (-v), []⟩).2)), (22, .int .i64 ((addN ((addN L ⟨2, (-v), []⟩).1) ⟨2, v, []⟩).2)), (8, .int .i64 ((addN L ⟨2, (-v), []⟩).2)), (9, .int .i64 ((addN ((addN L ⟨2, (-v), []⟩).1) ⟨2, v, []⟩).2)), (23, .func (.func 26) #[] #[VP hb]), (29, .func (.func 26) #[] #[VP hb]), (30, .int .i64 ((addN ((addN L ⟨2, (-v), []⟩).1) ⟨2, v, []⟩).2)), (31, .int .i64 yes), (27, .agg #[.int .i64 3, .int .i64 0, VS0 g29 2 2])] w148 := by
   intro g29 w148 O149
   refine hin27 _ _ _ _ _ ?_
   refine zCy [5, 9] (by kernel_rfl) ⟨?_, ?_, trivial⟩
   ·skip
    refine zG1 (args := [.agg #[.int .i64 3, .int .i64 0, VS0 g29 2 2]]) (all := [.agg #[.int .i64 3, .int .i64 0, VS0 g29 2 2], VP hb]) (listed' := #[true, true, true, true, true, true, true, true, true, false, false, false, false, false]) rfl rfl zIs rfl rfl rfl rfl rfl ?_
    have O150 : Own Z w0 w148 [.ro (fun k => k = g29) (fun w => IntsD (fun k => k = g29) w (VS0 g29 2 2) [(addN L ⟨2, (-v), []⟩).2, no]), .blk bb 109 #[.int .i64 N, .slice R17 (((addN ((addN L ⟨2, (-v), []⟩).1) ⟨2, v, []⟩).1).length) c18, .map (some m)], .map m (encL strE (keysO ((addN ((addN L ⟨2, (-v), []⟩).1) ⟨2, v, []⟩).1) 0)), .row (.slice R17 (((addN ((addN L ⟨2, (-v), []⟩).1) ⟨2, v, []⟩).1).length) c18) 73 3 (((addN ((addN L ⟨2, (-v), []⟩).1) ⟨2, v, []⟩).1).length) (gcells ((addN ((addN L ⟨2, (-v), []⟩).1) ⟨2, v, []⟩).1) vs20), .ro D19 (Ins D19 ((addN ((addN L ⟨2, (-v), []⟩).1) ⟨2, v, []⟩).1) vs20), .ro TabD Tab, .blk hb 70 #[VP bb], .blk ab 76 #[.func (.func 26) #[] #[VP hb]]] := Own.blkin (l := [(addN L ⟨2, (-v), []⟩).2, no]) O149 rfl rfl (by decide)
    obtain ⟨O157h, O157f⟩ := Own.split (A := [.blk bb 109 #[.int .i64 N, .slice R17 (((addN ((addN L ⟨2, (-v), []⟩).1) ⟨2, v, []⟩).1).length) c18, .map (some m)], .map m (encL strE (keysO ((addN ((addN L ⟨2, (-v), []⟩).1) ⟨2, v, []⟩).1) 0)), .row (.slice R17 (((addN ((addN L ⟨2, (-v), []⟩).1) ⟨2, v, []⟩).1).length) c18) 73 3 (((addN ((addN L ⟨2, (-v), []⟩).1) ⟨2, v, []⟩).1).length) (gcells ((addN ((addN L ⟨2, (-v), []⟩).1) ⟨2, v, []⟩).1) vs20), .ro D19 (Ins D19 ((addN ((addN L ⟨2, (-v), []⟩).1) ⟨2, v, []⟩).1) vs20), .ro TabD Tab, .blk hb 70 #[VP bb], .ro (fun k => k = g29) (fun w => IntsD (fun k => k = g29) w (VS0 g29 2 2) [(addN L ⟨2, (-v), []⟩).2, no])]) (R := [.blk ab 76 #[.func (.func 26) #[] #[VP hb]]]) (O150.re [1, 2, 3, 4, 5, 6, 0, 7] rfl)
    refine (zIp (x := ⟨3, 0, [(addN L ⟨2, (-v), []⟩).2, no]⟩) (D2 := (fun k => k = g29)) (V := VS0 g29 2 2) O157h (zGi hr hN hB h1 h2 hno hyes).1 hN (zGi hr hN hB h1 h2 hno hyes).2.1 (fun _ => Nat.zero_lt_succ 1) (show 2 ≤ 65536 by decide) (zGi hr hN hB h1 h2 hno hyes).2.2).mono ?_
    rintro _ w155 ⟨R151, c152, D153, vs154, rfl, h156⟩
    have O157 := O157f h156
    refine ⟨_, rfl, (fun _ => (O157.re [5, 6] rfl)), ?_⟩
    exact zDn (hout28 _ _ _ _ _ (N129 g29 R151 c152 D153 vs154 w155 O157)) ⟨rfl, rfl, rfl, rfl, rfl, rfl, rfl, rfl, rfl, rfl, rfl, rfl, rfl, rfl, rfl, rfl, rfl, rfl, rfl, rfl, rfl, rfl, rfl, trivial⟩
   ·skip
    obtain ⟨g158, w159, r160, O161, hg162, hs163⟩ := zBg O149 el57 ze3 2 [(0, .int .i64 ((addN ((addN L ⟨2, (-v), []⟩).1) ⟨2, v, []⟩).2)), (1, .int .i64 yes)] (cs := #[.int .i64 ((addN ((addN L ⟨2, (-v), []⟩).1) ⟨2, v, []⟩).2), .int .i64 yes]) (by decide) (by kernel_rfl)
    refine zE5 (v := VS0 g158 2 2) (listed' := #[true, true, true, true, true, false, true, true, true, true, false, false, false, false]) rfl rfl (fun ρ e => r160 ρ _ _ _ _ _ _ (e.parts rfl)) rfl rfl (fun _ => (O161.re [7, 8] rfl)) ?_
    refine zC7 (v := .agg #[.int .i64 3, .int .i64 0, VS0 g158 2 2]) (i := 10) (listed' := #[true, true, true, true, true, false, true, true, true, true, true, false, false, false]) rfl (by kernel_rfl) (PQ.then_ PQ.body) (fun _ => (O161.re [7, 8] rfl)) (fun ρ e W => zBe (cells := #[.int .i64 3, .int .i64 0, VS0 g158 2 2]) st73 (e.parts rfl) rfl) rfl rfl ?_
    exact zDn (hout28 _ _ _ _ _ (N118 g29 g158 w159 O161)) ⟨rfl, rfl, rfl, rfl, rfl, rfl, rfl, rfl, rfl, rfl, rfl, rfl, rfl, rfl, rfl, rfl, rfl, rfl, rfl, rfl, rfl, rfl, rfl, trivial⟩
  refine hin27 _ _ _ _ _ ?_
  refine at_take0 (v := .func (.func 26) #[] #[VP hb]) (i := 0) (listed' := #[true, false, false, false, false, false, false, false, false, false, false, false, false, false]) rfl (by kernel_rfl) (PQ.then_ PQ.body) (O25.re [5, 6] rfl) (fun ρ e W hW => zAm ty76 (e _ _ rfl) (hW.cell 1 0 rfl rfl)) rfl rfl ?_
  refine zC7 (v := .int .i64 ((addN L ⟨2, (-v), []⟩).2)) (i := 1) (listed' := #[true, true, false, false, false, false, false, false, false, false, false, false, false, false]) rfl (by kernel_rfl) (PQ.then_ PQ.body) (fun _ => (O25.re [5, 6] rfl)) (fun ρ e W => zGf (e _ _ rfl)) rfl rfl ?_
  refine zC7 (v := .int .i64 no) (i := 2) (listed' := #[true, true, true, false, false, false, false, false, false, false, false, false, false, false]) rfl (by kernel_rfl) (PQ.then_ PQ.body) (fun _ => (O25.re [5, 6] rfl)) (fun ρ e W => zGf (e _ _ rfl)) rfl rfl ?_
  refine at_take0 (v := .func (.func 26) #[] #[VP hb]) (i := 6) (listed' := #[true, true, true, false, false, false, true, false, false, false, false, false, false, false]) rfl (by kernel_rfl) (PQ.then_ PQ.body) (O25.re [5, 6] rfl) (fun ρ e W hW => zAm ty76 (e _ _ rfl) (hW.cell 1 0 rfl rfl)) rfl rfl ?_
  refine zC7 (v := .int .i64 ((addN ((addN L ⟨2, (-v), []⟩).1) ⟨2, v, []⟩).2)) (i := 7) (listed' := #[true, true, true, false, false, false, true, true, false, false, false, false, false, false]) rfl (by kernel_rfl) (PQ.then_ PQ.body) (fun _ => (O25.re [5, 6] rfl)) (fun ρ e W => zGf (e _ _ rfl)) rfl rfl ?_
  refine zC7 (v := .int .i64 yes) (i := 8) (listed' := #[true, true, true, false, false, false, true, true, true, false, false, false, false, false]) rfl (by kernel_rfl) (PQ.then_ PQ.body) (fun _ => (O25.re [5, 6] rfl)) (fun ρ e W => zGf (e _ _ rfl)) rfl rfl ?_
  refine zCy [3, 9] (by kernel_rfl) ⟨?_, ?_, trivial⟩
  ·skip
   obtain ⟨g164, w165, r166, O167, hg168, hs169⟩ := zBg O25 el57 ze3 2 [(0, .int .i64 ((addN L ⟨2, (-v), []⟩).2)), (1, .int .i64 no)] (cs := #[.int .i64 ((addN L ⟨2, (-v), []⟩).2), .int .i64 no]) (by decide) (by kernel_rfl)
   refine zE5 (v := VS0 g164 2 2) (listed' := #[true, true, true, true, false, false, true, true, true, false, false, false, false, false]) rfl rfl (fun ρ e => r166 ρ _ _ _ _ _ _ (e.parts rfl)) rfl rfl (fun _ => (O167.re [6, 7] rfl)) ?_
   refine zC7 (v := .agg #[.int .i64 3, .int .i64 0, VS0 g164 2 2]) (i := 4) (listed' := #[true, true, true, true, true, false, true, true, true, false, false, false, false, false]) rfl (by kernel_rfl) (PQ.then_ PQ.body) (fun _ => (O167.re [6, 7] rfl)) (fun ρ e W => zBe (cells := #[.int .i64 3, .int .i64 0, VS0 g164 2 2]) st73 (e.parts rfl) rfl) rfl rfl ?_
   exact zDn (hout28 _ _ _ _ _ (N147 g164 w165 O167)) ⟨rfl, rfl, rfl, rfl, rfl, rfl, rfl, rfl, rfl, rfl, rfl, rfl, rfl, rfl, rfl, rfl, rfl, rfl, rfl, rfl, rfl, rfl, rfl, rfl, trivial⟩
  ·skip
   obtain ⟨g170, w171, r172, O173, hg174, hs175⟩ := zBg O25 el57 ze3 2 [(0, .int .i64 ((addN ((addN L ⟨2, (-v), []⟩).1) ⟨2, v, []⟩).2)), (1, .int .i64 yes)] (cs := #[.int .i64 ((addN ((addN L ⟨2, (-v), []⟩).1) ⟨2, v, []⟩).2), .int .i64 yes]) (by decide) (by kernel_rfl)
   refine zE5 (v := VS0 g170 2 2) (listed' := #[true, true, true, false, false, false, true, true, true, true, false, false, false, false]) rfl rfl (fun ρ e => r172 ρ _ _ _ _ _ _ (e.parts rfl)) rfl rfl (fun _ => (O173.re [6, 7] rfl)) ?_
   refine zC7 (v := .agg #[.int .i64 3, .int .i64 0, VS0 g170 2 2]) (i := 10) (listed' := #[true, true, true, false, false, false, true, true, true, true, true, false, false, false]) rfl (by kernel_rfl) (PQ.then_ PQ.body) (fun _ => (O173.re [6, 7] rfl)) (fun ρ e W => zBe (cells := #[.int .i64 3, .int .i64 0, VS0 g170 2 2]) st73 (e.parts rfl) rfl) rfl rfl ?_
   exact zDn (hout28 _ _ _ _ _ (N138 g170 w171 O173)) ⟨rfl, rfl, rfl, rfl, rfl, rfl, rfl, rfl, rfl, rfl, rfl, rfl, rfl, rfl, rfl, rfl, rfl, rfl, rfl, rfl, rfl, rfl, rfl, rfl, trivial⟩
end

end Go.Proofs.YtliiclmhpphpmaaGreatDoor
