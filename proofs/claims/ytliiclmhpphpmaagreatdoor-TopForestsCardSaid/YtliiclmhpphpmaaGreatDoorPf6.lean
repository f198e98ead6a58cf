/-
  Lemmas and contracts, joined: Tew Tex Tc3 Tb6 Td Tl2 Tn3.
-/
import Derived.Test.YtliiclmhpphpmaaGreatDoorPf2
import Derived.Test.YtliiclmhpphpmaaGreatDoorPf4
import Derived.Test.YtliiclmhpphpmaaGreatDoorPf5
namespace Go.Proofs.YtliiclmhpphpmaaGreatDoor
open Go Go.RowKit
theorem an161 : ArN 161 6 23 1 := ⟨Tryz.underlying161, by kernel_rfl⟩
def maskN (i : Nat) : BitVec 64 := [12297829382473034410#64, 14757395258967641292#64, 17361641481138401520#64, 18374966859414961920#64, 18446462603027742720#64, 18446744069414584320#64].getD i 0#64
theorem mask_at {i : Nat} (h : i < 6) : (#[Value.int .u64 12297829382473034410, Value.int .u64 14757395258967641292, Value.int .u64 17361641481138401520, Value.int .u64 18374966859414961920, Value.int .u64 18446462603027742720, Value.int .u64 18446744069414584320] : Array Value)[i]? = some (.int .u64 ((maskN i).toNat : Int)) := by
 rcases (show i = 0 ∨ i = 1 ∨ i = 2 ∨ i = 3 ∨ i = 4 ∨ i = 5 by omega) with rfl | rfl | rfl | rfl | rfl | rfl <;> rfl
theorem mask_bits : ∀ i, i < 6 → ∀ k, k < 64 → (maskN i).getLsbD k = k.testBit i := by decide +kernel
def bvCs (ws : List (BitVec 64)) : List Value := ws.map fun X => .int .u64 (X.toNat : Int)
theorem getW {ws : List (BitVec 64)} {k : Nat} {X : BitVec 64} (h : ws[k]? = some X) : (bvCs ws).toArray[k]? = some (.int .u64 (X.toNat : Int)) := by simp [bvCs, h]
theorem setW (ws : List (BitVec 64)) (k : Nat) (X : BitVec 64) (v : Int) (h : v = (X.toNat : Int)) : setN (bvCs ws).toArray k [.int .u64 v] = (bvCs (ws.set k X)).toArray := by subst h; simp [setN, bvCs, List.map_set]
theorem ones_nat : (18446744073709551615 : Int) = ((BitVec.allOnes 64).toNat : Int) := by decide
theorem zG3 {α : Type} {l : List α} {i : Nat} {x : α} (h : i < l.length) : (l.set i x)[i]? = some x := by rw [List.getElem?_set, if_pos rfl, if_pos h]
theorem setget_ne {α : Type} {l : List α} {i j : Nat} {x y : α} (h : l[j]? = some y) (hne : i ≠ j) : (l.set i x)[j]? = some y := by rw [List.getElem?_set, if_neg hne]; exact h
theorem setget_ne' {α : Type} {l : List α} {i j : Nat} {x : α} (hne : i ≠ j) : (l.set i x)[j]? = l[j]? := by rw [List.getElem?_set, if_neg hne]
theorem set_same {α : Type} {l : List α} {i : Nat} {x : α} (h : l[i]? = some x) : l.set i x = l := by
 apply List.ext_getElem?
 intro j
 rw [List.getElem?_set]
 split
 ·rename_i e
  subst e
  rw [if_pos (List.getElem?_eq_some_iff.1 h).1, h]
 ·rfl
theorem ex_cplN {ρ : Operand → Value} {d : Option Tmp} {x : Operand} {t T1 : TypeId} {pos : String} {aft : Array Edge} {gd : Option (Nat × Bool)} {w : World} {X : BitVec 64} (hx : ρ x = .int .u64 (X.toNat : Int)) : (execOp ρ ⟨d, .unOp .xor T1 x, t, pos, aft, gd⟩).run Tryz.prog w = .ok (.value (.int .u64 ((~~~X).toNat : Int))) w := by
 have e1 : ∀ Y : BitVec 64, BitVec.ofInt 64 (Y.toNat : Int) = Y := fun Y => by rw [BitVec.ofInt_natCast]; simp
 have h0 : IntKind.u64.wrap (((BitVec.ofInt 64 ((BitVec.allOnes 64).toNat : Int) ^^^ BitVec.ofInt 64 (X.toNat : Int)).toNat : Nat) : Int) = ((~~~X).toNat : Int) := by
  rw [e1, e1, BitVec.allOnes_xor]
  exact zAx (BitVec.isLt _)
 have hb : Op.unary .xor (.int .u64 (X.toNat : Int)) = pure (.int .u64 ((~~~X).toNat : Int)) := by
  have h1 : (if IntKind.u64.signed then (-1 : Int) else IntKind.u64.max) = ((BitVec.allOnes 64).toNat : Int) := by decide
  simp only [Op.unary, h1, Op.intBits]
  exact congrArg (fun z => pure (Value.int .u64 z)) h0
 simp [execOp, hx, hb]
theorem max_lit {g : Gate} {N : Int} (h : litOk g.lit N = true) (hN : N ≤ 128) : max g.lit (-g.lit) = litVar g.lit := by
 have := zFl h hN
 unfold litOk litVar at h
 unfold litVar
 simp only [decide_eq_true_eq, Bool.and_eq_true] at h
 split
 ·omega
 ·split <;> omega
theorem okN_litb {N : Int} {i : Nat} {g : Gate} (h : okN N i g) (hN : N ≤ 128) : -128 ≤ g.lit ∧ g.lit ≤ 128 := by
 rcases h.2 with ⟨_, q, _⟩ | ⟨_, q, _⟩ | ⟨_, q⟩
 ·omega
 ·exact zFl q hN
 ·omega
def nodeP (B : List Gate) (g : Gate) (s : VS) (j : Nat) : Bool :=
 if g.kind = 1 then true else if g.kind = 2 then litHolds s g.lit else if g.kind = 3 then (g.inp.take j).all (fun k => nv B s k) else if g.kind = 4 then (g.inp.take j).any (fun k => nv B s k) else false
section
variable {N : Int} {B : List Gate} {g : Gate} {l : List Int} {f : Int → BitVec 64} {i j : Nat} {X Y : BitVec 64} {ws : List (BitVec 64)} {y : Int}
theorem zDu (hw : WfN N B) (hx : B[i]? = some g) (s : VS) : nodeP B g s g.inp.length = nv B s (i : Int) := by
 have hi : inB B (i : Int) := ⟨by omega, by have := (List.getElem?_eq_some_iff.1 hx).1; omega⟩
 have hg : gateAt B (i : Int) = g := by unfold gateAt; rw [List.getD_eq_getElem?_getD]; simp [hx]
 obtain ⟨k0, k1, k2, k3, k4⟩ := kv hw s hi
 unfold kindAt at k0 k1 k2 k3 k4
 rw [hg] at k0 k1 k2 k3 k4
 obtain ⟨_, _, _, hk⟩ := zCv (hw i g hx)
 unfold nodeP
 rw [List.take_length]
 rcases hk with h | h | h | h | h
 ·rw [k0 h]; simp [h]
 ·rw [k1 h]; simp [h]
 ·rw [k2 h]; simp [h]
 ·rw [k3 h]; simp [h]
 ·rw [k4 h]; simp [h]
theorem nodeP_one (h : g.kind = 1) : ∀ k, k < 64 → (BitVec.allOnes 64).getLsbD k = nodeP B g (asgF l k) 0 := fun k hk => by unfold nodeP; rw [BitVec.getLsbD_allOnes]; simp [h, hk]
theorem nodeP_all (h : g.kind = 3) : ∀ k, k < 64 → (BitVec.allOnes 64).getLsbD k = nodeP B g (asgF l k) 0 := fun k hk => by unfold nodeP; rw [BitVec.getLsbD_allOnes]; simp [h, hk]
theorem nodeP_none (h1 : g.kind ≠ 1) (h2 : g.kind ≠ 2) (h3 : g.kind ≠ 3) : ∀ k, k < 64 → (0#64).getLsbD k = nodeP B g (asgF l k) 0 := fun k hk => by unfold nodeP; simp [h1, h2, h3]
theorem lit_word (hl : ∀ x ∈ l, 1 ≤ x ∧ x ≤ 128) (hf : ∀ y k, k < 64 → ((f y).getLsbD k = true ↔ ∃ q', q' < l.length ∧ l[q']? = some y ∧ k.testBit q' = true)) {k : Nat} (hk : k < 64) (y : Int) : (f y).getLsbD k = (asgF l k).has y := by
 rw [Bool.eq_iff_iff, hf y k hk, zFu hl]
 constructor
 ·rintro ⟨q, _, h⟩; exact ⟨q, h⟩
 ·rintro ⟨q, h, h2⟩; exact ⟨q, (List.getElem?_eq_some_iff.1 h).1, h, h2⟩
theorem nodeP_lit1 (hl : ∀ x ∈ l, 1 ≤ x ∧ x ≤ 128) (hN : N ≤ 128) (hf : ∀ y k, k < 64 → ((f y).getLsbD k = true ↔ ∃ q', q' < l.length ∧ l[q']? = some y ∧ k.testBit q' = true)) (hok : litOk g.lit N = true) (h2 : g.kind = 2) (h0 : ¬ g.lit < 0) :
  ∀ k, k < 64 → (f (litVar g.lit)).getLsbD k = nodeP B g (asgF l k) 0 := fun k hk => by
 have hb := zFl hok hN
 have hz : g.lit ≠ 0 := by rintro e; rw [e] at hok; unfold litOk litVar at hok; simp at hok
 have hq := litN (s := asgF l k) (v := g.lit) (by omega) (by omega)
 rw [lit_word hl hf hk, hq.2.2.1]
 unfold nodeP
 simp [h2, hq.1]
theorem nodeP_lit0 (hl : ∀ x ∈ l, 1 ≤ x ∧ x ≤ 128) (hN : N ≤ 128) (hf : ∀ y k, k < 64 → ((f y).getLsbD k = true ↔ ∃ q', q' < l.length ∧ l[q']? = some y ∧ k.testBit q' = true)) (hok : litOk g.lit N = true) (h2 : g.kind = 2) (h0 : g.lit < 0) :
  ∀ k, k < 64 → (~~~(f (litVar g.lit))).getLsbD k = nodeP B g (asgF l k) 0 := fun k hk => by
 have hb := zFl hok hN
 have hq := litN (s := asgF l k) (v := -g.lit) (by omega) (by omega)
 rw [Int.neg_neg] at hq
 rw [BitVec.getLsbD_not, lit_word hl hf hk, hq.2.2.2]
 unfold nodeP
 simp [h2, hq.2.1, hk]
theorem nodeP_and (h3 : g.kind = 3) (hy : g.inp[j]? = some y) (hX : ∀ k, k < 64 → X.getLsbD k = nodeP B g (asgF l k) j) (hY : ∀ k, k < 64 → Y.getLsbD k = nv B (asgF l k) y) : ∀ k, k < 64 → (X &&& Y).getLsbD k = nodeP B g (asgF l k) (j + 1) := fun k hk => by
 rw [BitVec.getLsbD_and, hX k hk, hY k hk]
 unfold nodeP
 rw [List.take_add_one, hy]
 simp [h3]
theorem nodeP_or (h4 : g.kind = 4) (hy : g.inp[j]? = some y) (hX : ∀ k, k < 64 → X.getLsbD k = nodeP B g (asgF l k) j) (hY : ∀ k, k < 64 → Y.getLsbD k = nv B (asgF l k) y) : ∀ k, k < 64 → (X ||| Y).getLsbD k = nodeP B g (asgF l k) (j + 1) := fun k hk => by
 rw [BitVec.getLsbD_or, hX k hk, hY k hk]
 unfold nodeP
 rw [List.take_add_one, hy]
 simp [h4]
theorem mask_step (hnd : l.Nodup) (hy : l[i]? = some y) (hi : i < 6) (hf : ∀ y k, k < 64 → ((f y).getLsbD k = true ↔ ∃ q', q' < i ∧ l[q']? = some y ∧ k.testBit q' = true)) :
  ∀ z k, k < 64 → ((if z = y then maskN i else f z).getLsbD k = true ↔ ∃ q', q' < i + 1 ∧ l[q']? = some z ∧ k.testBit q' = true) := fun z k hk => by
 by_cases e : z = y
 ·subst e
  rw [if_pos rfl, mask_bits i hi k hk]
  constructor
  ·intro h; exact ⟨i, by omega, hy, h⟩
  ·rintro ⟨q, h1, h2, h3⟩
   have : q = i := by
    obtain ⟨a1, a2⟩ := List.getElem?_eq_some_iff.1 hy
    obtain ⟨b1, b2⟩ := List.getElem?_eq_some_iff.1 h2
    exact (List.getElem_inj hnd).1 (b2.trans a2.symm)
   rw [← this]; exact h3
 ·rw [if_neg e, hf z k hk]
  constructor
  ·rintro ⟨q, h1, h2⟩; exact ⟨q, by omega, h2⟩
  ·rintro ⟨q, h1, h2, h3⟩
   refine ⟨q, ?_, h2, h3⟩
   rcases Nat.lt_or_ge q i with h | h
   ·exact h
   ·have : q = i := by omega
    subst this
    rw [hy] at h2; injection h2 with h2
    exact absurd h2.symm e
theorem zDo (hwl : ws.length = B.length) (hi : i < B.length) (hwd : ∀ j k, j < i → k < 64 → (ws.getD j 0#64).getLsbD k = nv B (asgF l k) (j : Int)) (hX : ∀ k, k < 64 → X.getLsbD k = nv B (asgF l k) (i : Int)) :
  ∀ j k, j < i + 1 → k < 64 → ((ws.set i X).getD j 0#64).getLsbD k = nv B (asgF l k) (j : Int) := fun j k hj hk => by
 rw [List.getD_eq_getElem?_getD, List.getElem?_set]
 by_cases e : i = j
 ·subst e
  rw [if_pos rfl, if_pos (by omega)]
  exact hX k hk
 ·rw [if_neg e, ← List.getD_eq_getElem?_getD]
  exact hwd j k (by omega) hk
end
set_option maxHeartbeats 2000000 in
theorem word_ {W : World} {V : Value} {B : List Gate} {N : Int} (hG : GatesV W W.heap.size V B) (hw : WfN N B) (hp : 0 < B.length) (hlen : B.length ≤ 65536) (hN0 : 0 ≤ N) (hN1 : N ≤ 128) {D1 : Nat → Prop} {V1 : Value} {l : List Int} {tk : Nat} (htk : tk < W.heap.size) (hc1 : W.cell? ⟨tk, 1, none⟩ = some V1) (hV1 : IntsD D1 W V1 l) (hD1 : ∀ k, D1 k → k < W.heap.size) (hl6 : l.length ≤ 6) (hnd : l.Nodup) (hl1 : ∀ x ∈ l, 1 ≤ x ∧ x ≤ 128) :
  Calls Tryz.prog 88 #[.pointer (some ⟨tk, 0, none⟩), .agg #[.int .i64 N, V], .int .i64 0] W fun e w' => ∃ X : BitVec 64, e = .returned (.int .u64 (X.toNat : Int)) ∧ (∀ k, k < 64 → X.getLsbD k = nv B (asgF l k) ((B.length - 1 : Nat) : Int)) ∧ Below W.heap.size W w' := by
 obtain ⟨b, o, c, rfl, hbW⟩ := zCt hG hp
 obtain ⟨A1, c1, rfl⟩ := hV1.slice
 have O0 := (Own.start W).oldro (D := D1) (p := (fun w => IntsD D1 w (.slice A1 l.length c1) l)) (zDw hV1 hD1)
 refine zAu (args := [VP tk, .agg #[.int .i64 N, .slice (some ⟨b, o, none⟩) B.length c], .int .i64 0]) Tryz.func88 rfl rfl (by simp) ?_
 refine zAc fun _ K1 => zAa ?_
 obtain ⟨g2, w3, r4, O5, hg6, hs7⟩ := zA5 O0 39 (.agg #[.int .i64 N, .slice (some ⟨b, o, none⟩) B.length c]) rfl
 refine zAe (v := VP g2) (fun ρ e => r4 ρ _ _ _ _ _ _ (e _ _ rfl)) rfl rfl <| wa rfl rfl rfl <| nx K1 fun _ K8 => zAe (v := .agg #[.int .u64 12297829382473034410, .int .u64 14757395258967641292, .int .u64 17361641481138401520, .int .u64 18374966859414961920, .int .u64 18446462603027742720, .int .u64 18446744069414584320]) (fun ρ e => zBl (cells := #[.int .u64 12297829382473034410, .int .u64 14757395258967641292, .int .u64 17361641481138401520, .int .u64 18374966859414961920, .int .u64 18446462603027742720, .int .u64 18446744069414584320]) ar161 (e.parts rfl) rfl) rfl rfl ?_
 obtain ⟨g9, w10, r11, O12, hg13, hs14⟩ := zAw O5 161 ze161 rfl
 refine zAe (v := VP g9) (fun ρ e => r11 ρ _ _ _ _ _) rfl rfl ?_
 obtain ⟨w15, r16, O17, hs18⟩ := zAp (o := 0) (n := 6) O12 ty161 (.agg #[.int .u64 12297829382473034410, .int .u64 14757395258967641292, .int .u64 17361641481138401520, .int .u64 18374966859414961920, .int .u64 18446462603027742720, .int .u64 18446744069414584320]) _ (cs' := #[.int .u64 12297829382473034410, .int .u64 14757395258967641292, .int .u64 17361641481138401520, .int .u64 18374966859414961920, .int .u64 18446462603027742720, .int .u64 18446744069414584320]) rfl rfl rfl (Nat.le_of_ble_eq_true rfl) rfl
 refine zAv (fun ρ e => r16 ρ _ _ _ _ _ _ (e _ _ rfl) (e _ _ rfl)) rfl <| nx K8 fun _ K19 => ?_
 obtain ⟨g20, w21, r22, O23, hg24, hs25⟩ := zE8 O17 162
 refine zAe (v := .map (some g20)) (fun ρ e => r22 ρ _ _ _ _ _) rfl rfl <| wa rfl rfl rfl <| zAd <| zAb K19 <| zAc fun _ K26 => zAc fun _ K27 => zAa <| wm rfl rfl rfl ?_
 refine wn rfl rfl rfl <| wf (q := 1) zHi rfl rfl rfl rfl <| wd (v := .slice A1 l.length c1) ty57 rfl (O23.old.cell (p := ⟨tk, 1, none⟩) htk |>.trans hc1) rfl rfl <| wz el57 rfl rfl rfl <| wm rfl rfl rfl <| zAd <| zAb K27 <| zAh ?_
 have O28 := O23
 have O29 := O28
 refine zA8 (ι := Nat × List (Int × Value) × (Int → BitVec 64)) (fun q => [(0, VP tk), (2, .int .i64 0), (4, VP g2), (7, VP g9), (8, .map (some g20)), (21, .slice A1 l.length c1), (22, .int .i64 ((l.length : Nat) : Int)), (23, .int .i64 (q.1 : Int))]) (fun q X => (q.1 ≤ l.length) ∧ (∀ y, lookV (look y q.2.1 0) (.int .u64 0) = .int .u64 ((q.2.2 y).toNat : Int)) ∧ (∀ y k, k < 64 → ((q.2.2 y).getLsbD k = true ↔ ∃ q', q' < q.1 ∧ l[q']? = some y ∧ k.testBit q' = true)) ∧ Own Z0 W X [.map g20 (encL intE q.2.1), .blk g9 161 #[.int .u64 12297829382473034410, .int .u64 14757395258967641292, .int .u64 17361641481138401520, .int .u64 18374966859414961920, .int .u64 18446462603027742720, .int .u64 18446744069414584320], .blk g2 39 #[.int .i64 N, .slice (some ⟨b, o, none⟩) B.length c], .ro D1 (fun w => IntsD D1 w (.slice A1 l.length c1) l)]) (fun q => l.length - q.1) (0, [], (fun _ => 0#64)) ⟨Nat.zero_le _, (fun y => rfl), (fun y k _ => by simp), O29⟩ ⟨rfl, rfl, rfl, rfl, rfl, rfl, rfl, rfl, trivial⟩ (fun q w30 hJ F31 K32 => ?_)
 obtain ⟨i, ml, f⟩ := q
 obtain ⟨hi0, hml, hf, O33⟩ := hJ
 dsimp only at hi0 hml hf O33 ⊢
 by_cases hi : i < l.length
 ·skip
  have hi6 : i < 6 := by omega
  obtain ⟨y, hy⟩ : ∃ y, l[i]? = some y := ⟨l[i], List.getElem?_eq_getElem hi⟩
  obtain ⟨a1, o1, c3, hv1⟩ := (O33.ro 3 rfl : IntsD D1 _ _ l).form (by omega)
  injection hv1 with hA _ hc
  subst hA hc
  refine zAc fun _ K34 => zAa <| wc rfl rfl (lss1 (by omega)) rfl rfl <| zAd <| zAb K34 <| zAc fun _ K35 => zAl rfl <| zAj ?_
  refine zAb K35 <| zAc fun _ K36 => zAh <| zAc fun _ K37 => zAa <| wm rfl rfl rfl <| wi (q := o1 + i) (i := i) el57 rfl rfl (by omega) (by omega) rfl rfl <| wd (v := .int .i64 y) ty3 rfl ((O33.ro 3 rfl : IntsD D1 _ _ l).at_ hy) rfl rfl ?_
  refine wa rfl rfl rfl <| wa rfl rfl rfl <| zAd <| zAb K37 <| zAh <| zAc fun _ K38 => zAa <| wm rfl rfl rfl ?_
  refine wc rfl rfl (lss1 (by omega)) rfl rfl <| wa rfl rfl rfl <| zAd <| zAb K38 <| zAl rfl <| zAa <| wm rfl rfl rfl <| wm rfl rfl rfl ?_
  refine wm rfl rfl rfl <| zAe (v := .pointer (some ⟨g9, i, none⟩)) (fun ρ e => zCe (q := i) (i := i) an161 (e _ _ rfl) (e _ _ rfl) (by omega) (by omega)) rfl rfl <| wd (v := .int .u64 ((maskN i).toNat : Int)) ty23 rfl (O33.cell 1 i rfl (mask_at hi6)) rfl rfl ?_
  obtain ⟨w39, r40, O41, hs42⟩ := zCq O33 intKey Tryz.underlying162 Tryz.underlying3 y (.int .u64 ((maskN i).toNat : Int))
  refine zAv (fun ρ e => r40 ρ _ _ _ _ _ _ _ (e _ _ rfl) (e _ _ rfl) (e _ _ rfl)) rfl <| zAd <| zAn <| zAn <| zAb K36 <| zAa <| zAe (v := .int .i64 ((i + 1 : Nat) : Int)) (fun ρ e => zAi (k := .i64) (u := (i : Int)) (v := 1) (e _ _ rfl) (e _ _ rfl) (congrArg some ((congrArg _ (by omega)).trans (zAo (u := ((i + 1 : Nat) : Int)) (by omega) (by omega))))) rfl rfl <| wm rfl rfl rfl ?_
  refine zAd ?_
  refine zAt K32 (i + 1, (aput y (.int .u64 ((maskN i).toNat : Int)) ml), (fun z => if z = y then maskN i else f z)) (by show l.length - (i + 1) < l.length - i; omega) ⟨(by show i + 1 ≤ l.length; omega), (fun z => by rw [zF6]; by_cases e : z = y <;> simp [e, hml]), (mask_step hnd hy hi6 hf), O41⟩ ⟨rfl, rfl, rfl, rfl, rfl, rfl, rfl, rfl, trivial⟩
 ·have hie : i = l.length := by omega
  subst hie
  refine zAc fun _ K43 => zAa <| wc rfl rfl (lss0 (by omega)) rfl rfl <| zAd <| zAb K43 <| zAc fun _ K44 => zAf rfl <| zA6 ?_
  refine zAg (by intro h; cases h) ?_
  refine zAg (by intro h; cases h) ?_
  refine zA4 <| zAb K26 <| zAc fun _ K45 => zAa <| wf (q := 1) zCw rfl rfl rfl rfl <| wd ty37 rfl (O33.cell 2 1 rfl rfl) rfl rfl <| wz el37 rfl rfl rfl ?_
  obtain ⟨g46, w47, r48, O49, hg50, hs51⟩ := zBo O33 ap163 rfl B.length (by decide) (by omega) (cs := (bvCs (List.replicate B.length 0#64)).toArray) (by simp [bvCs])
  refine zAe (v := VS0 g46 B.length B.length) (fun ρ e => r48 ρ _ _ _ _ _ _ _ (e _ _ rfl) (e _ _ rfl)) rfl rfl <| wa rfl rfl rfl <| zAd <| zAb K45 <| zAc fun _ K52 => zAc fun _ K53 => zAa <| wf (q := 1) zCw rfl rfl rfl rfl ?_
  refine wd ty37 rfl (O49.cell 3 1 rfl rfl) rfl rfl <| wz el37 rfl rfl rfl <| wm rfl rfl rfl <| zAd <| zAb K53 <| zAh ?_
  have O54 := (O49.re [0, 1, 3] rfl)
  refine zA8 (ι := Nat × List (BitVec 64)) (fun q => [(4, VP g2), (8, .map (some g20)), (11, VS0 g46 B.length B.length), (51, .slice (some ⟨b, o, none⟩) B.length c), (52, .int .i64 ((B.length : Nat) : Int)), (53, .int .i64 (q.1 : Int))]) (fun q X => (q.1 ≤ B.length) ∧ (q.2.length = B.length) ∧ (∀ j k, j < q.1 → k < 64 → (q.2.getD j 0#64).getLsbD k = nv B (asgF l k) (j : Int)) ∧ (∀ j, q.1 ≤ j → j < B.length → q.2[j]? = some 0#64) ∧ Own Z0 W X [.blk g46 23 ((bvCs q.2).toArray), .map g20 (encL intE ml), .blk g2 39 #[.int .i64 N, .slice (some ⟨b, o, none⟩) B.length c]]) (fun q => B.length - q.1) (0, (List.replicate B.length 0#64)) ⟨Nat.zero_le _, (by show (List.replicate _ _).length = _; simp), (fun j k h => absurd h (Nat.not_lt_zero _)), (fun j _ h => by rw [List.getElem?_replicate, if_pos h]), O54⟩ ⟨rfl, rfl, rfl, rfl, rfl, rfl, trivial⟩ (fun q w55 hJ F56 K57 => ?_)
  obtain ⟨i, ws⟩ := q
  obtain ⟨hi0, hwl, hwd, hwz, O58⟩ := hJ
  dsimp only at hi0 hwl hwd hwz O58 ⊢
  by_cases hi : i < B.length
  ·skip
   obtain ⟨g, hx⟩ : ∃ g, B[i]? = some g := ⟨B[i], List.getElem?_eq_getElem hi⟩
   obtain ⟨u, q0, q1, q2, hI⟩ := zHa hG hx
   have hok := hw i g hx
   have hil := hI.small
   obtain ⟨A2, c2, rfl⟩ := hI.slice
   obtain ⟨h01, h2, h34, hkk⟩ := zCv hok
   have hwi : ws[i]? = some 0#64 := hwz i (Nat.le_refl _) hi
   have hlk : g.kind = 2 → litOk g.lit N = true := fun h => (h2 h).1
   have hlb := okN_litb hok hN1
   refine zAc fun _ K59 => zAa <| wc rfl rfl (lss1 (by omega)) rfl rfl <| zAd <| zAb K59 <| zAc fun _ K60 => zAl rfl <| zAj ?_
   refine zAb K60 <| zAc fun _ K61 => zAh <| zAc fun _ K62 => zAa <| wm rfl rfl rfl <| wi (q := o + i * 3) (i := i) el37 rfl rfl (by omega) (by omega) rfl rfl <| zAe (v := .agg #[.int .i64 g.kind, .int .i64 g.lit, .slice A2 g.inp.length c2]) (fun ρ e => zAk (vs := [.int .i64 g.kind, .int .i64 g.lit, .slice A2 g.inp.length c2]) ty73 (e _ _ rfl) rfl (cells3 ((O58.old.cell (p := ⟨b, o + i * 3, none⟩) hbW).trans q0) ((O58.old.cell (p := ⟨b, o + i * 3 + 1, none⟩) hbW).trans q1) ((O58.old.cell (p := ⟨b, o + i * 3 + 2, none⟩) hbW).trans q2))) rfl rfl ?_
   obtain ⟨g63, w64, r65, O66, hg67, hs68⟩ := zAw O58 73 ze73 rfl
   refine zAe (v := VP g63) (fun ρ e => r65 ρ _ _ _ _ _) rfl rfl <| wa rfl rfl rfl ?_
   obtain ⟨w69, r70, O71, hs72⟩ := zAp (o := 0) (n := 3) O66 ty73 (.agg #[.int .i64 g.kind, .int .i64 g.lit, .slice A2 g.inp.length c2]) _ (cs' := #[.int .i64 g.kind, .int .i64 g.lit, .slice A2 g.inp.length c2]) rfl rfl rfl (Nat.le_of_ble_eq_true rfl) rfl
   refine zAv (fun ρ e => r70 ρ _ _ _ _ _ _ (e _ _ rfl) (e _ _ rfl)) rfl <| zAd <| zAb K62 <| zAc fun _ K73 => zAc fun _ K74 => zAa <| wf (q := 0) zBy rfl rfl rfl rfl <| wd ty3 rfl (O71.cell 0 0 rfl rfl) rfl rfl ?_
   refine zAd <| zAb K74 <| zAh <| zAc fun _ K75 => zAc fun _ K76 => zAa ?_
   by_cases c77 : g.kind = 1
   ·skip
    refine wc rfl rfl (eql1 (by omega)) rfl rfl <| wa rfl rfl rfl <| zAd <| zAb K76 <| zAl rfl <| zAj <| zAb K75 <| zAl rfl ?_
    refine zAa <| wm rfl rfl rfl <| wm rfl rfl rfl <| wi (q := i) (i := i) el163 rfl rfl (by omega) (by omega) rfl rfl ?_
    obtain ⟨w78, r79, O80, hs81⟩ := zAp (o := i) (n := 1) (O71.re [1, 0, 2, 3] rfl) ty23 (.int .u64 18446744073709551615) _ (cs' := (bvCs (ws.set i (BitVec.allOnes 64))).toArray) rfl rfl rfl (by simp [bvCs] <;> omega) (setW ws i (BitVec.allOnes 64) _ ones_nat)
    refine zAv (fun ρ e => r79 ρ _ _ _ _ _ _ (e _ _ rfl) (e _ _ rfl)) rfl <| zAd <| zAn <| zAb K73 <| zAc fun _ K82 => zAa <| wf (q := 2) zB0 rfl rfl rfl rfl <| wd ty57 rfl (O80.cell 1 2 rfl rfl) rfl rfl ?_
    refine wz el57 rfl rfl rfl <| wm rfl rfl rfl <| zAd <| zAb K82 <| zAh ?_
    have O83 := O80
    refine zA8 (ι := Nat × BitVec 64) (fun q => [(4, VP g2), (8, .map (some g20)), (11, VS0 g46 B.length B.length), (12, .int .i64 (i : Int)), (13, VP g63), (51, .slice (some ⟨b, o, none⟩) B.length c), (52, .int .i64 ((B.length : Nat) : Int)), (53, .int .i64 (i : Int)), (91, .slice A2 g.inp.length c2), (92, .int .i64 ((g.inp.length : Nat) : Int)), (93, .int .i64 (q.1 : Int))]) (fun q X => (q.1 ≤ g.inp.length) ∧ (∀ k, k < 64 → q.2.getLsbD k = nodeP B g (asgF l k) q.1) ∧ Own Z0 W X [.blk g46 23 ((bvCs (ws.set i q.2)).toArray), .blk g63 73 #[.int .i64 g.kind, .int .i64 g.lit, .slice A2 g.inp.length c2], .map g20 (encL intE ml), .blk g2 39 #[.int .i64 N, .slice (some ⟨b, o, none⟩) B.length c]]) (fun q => g.inp.length - q.1) (0, (BitVec.allOnes 64)) ⟨Nat.zero_le _, (nodeP_one (by omega)), O83⟩ ⟨rfl, rfl, rfl, rfl, rfl, rfl, rfl, rfl, rfl, rfl, rfl, trivial⟩ (fun q w84 hJ F85 K86 => ?_)
    obtain ⟨j, X1⟩ := q
    obtain ⟨hj0, hX, O87⟩ := hJ
    dsimp only at hj0 hX O87 ⊢
    by_cases hk2 : j < g.inp.length
    ·exact absurd hk2 (by have := (h01 (.inr (by omega))).2; omega)
    ·have hje : j = g.inp.length := by omega
     subst hje
     refine zAc fun _ K88 => zAa <| wc rfl rfl (lss0 (by omega)) rfl rfl <| zAd <| zAb K88 <| zAc fun _ K89 => zAf rfl <| zA6 ?_
     refine zAg (by intro h; cases h) ?_
     refine zAg (by intro h; cases h) ?_
     refine zA4 <| zAn <| zAb K61 <| zAa <| zAe (v := .int .i64 ((i + 1 : Nat) : Int)) (fun ρ e => zAi (k := .i64) (u := (i : Int)) (v := 1) (e _ _ rfl) (e _ _ rfl) (congrArg some ((congrArg _ (by omega)).trans (zAo (u := ((i + 1 : Nat) : Int)) (by omega) (by omega))))) rfl rfl <| wm rfl rfl rfl <| zAd ?_
     refine zAt K57 (i + 1, (ws.set i X1)) (by show B.length - (i + 1) < B.length - i; omega) ⟨(by show i + 1 ≤ B.length; omega), (by show (List.set _ _ _).length = _; rw [List.length_set]; exact hwl), (zDo hwl hi hwd (fun k hk => (hX k hk).trans (zDu hw hx _))), (fun j' h1 h2 => (setget_ne' (by omega)).trans (hwz j' (by omega) h2)), (O87.re [0, 2, 3] rfl)⟩ ⟨rfl, rfl, rfl, rfl, rfl, rfl, trivial⟩
   ·skip
    refine wc rfl rfl (eql0 (by omega)) rfl rfl <| wa rfl rfl rfl <| zAd <| zAb K76 <| zAf rfl <| zAa ?_
    by_cases c90 : g.kind = 3
    ·skip
     refine wc rfl rfl (eql1 (by omega)) rfl rfl <| wa rfl rfl rfl <| zAd <| zAb K75 <| zAl rfl <| zAa <| wm rfl rfl rfl <| wm rfl rfl rfl ?_
     refine wi (q := i) (i := i) el163 rfl rfl (by omega) (by omega) rfl rfl ?_
     obtain ⟨w91, r92, O93, hs94⟩ := zAp (o := i) (n := 1) (O71.re [1, 0, 2, 3] rfl) ty23 (.int .u64 18446744073709551615) _ (cs' := (bvCs (ws.set i (BitVec.allOnes 64))).toArray) rfl rfl rfl (by simp [bvCs] <;> omega) (setW ws i (BitVec.allOnes 64) _ ones_nat)
     refine zAv (fun ρ e => r92 ρ _ _ _ _ _ _ (e _ _ rfl) (e _ _ rfl)) rfl <| zAd <| zAn <| zAb K73 <| zAc fun _ K95 => zAa <| wf (q := 2) zB0 rfl rfl rfl rfl <| wd ty57 rfl (O93.cell 1 2 rfl rfl) rfl rfl ?_
     refine wz el57 rfl rfl rfl <| wm rfl rfl rfl <| zAd <| zAb K95 <| zAh ?_
     have O96 := O93
     refine zA8 (ι := Nat × BitVec 64) (fun q => [(4, VP g2), (8, .map (some g20)), (11, VS0 g46 B.length B.length), (12, .int .i64 (i : Int)), (13, VP g63), (51, .slice (some ⟨b, o, none⟩) B.length c), (52, .int .i64 ((B.length : Nat) : Int)), (53, .int .i64 (i : Int)), (91, .slice A2 g.inp.length c2), (92, .int .i64 ((g.inp.length : Nat) : Int)), (93, .int .i64 (q.1 : Int))]) (fun q X => (q.1 ≤ g.inp.length) ∧ (∀ k, k < 64 → q.2.getLsbD k = nodeP B g (asgF l k) q.1) ∧ Own Z0 W X [.blk g46 23 ((bvCs (ws.set i q.2)).toArray), .blk g63 73 #[.int .i64 g.kind, .int .i64 g.lit, .slice A2 g.inp.length c2], .map g20 (encL intE ml), .blk g2 39 #[.int .i64 N, .slice (some ⟨b, o, none⟩) B.length c]]) (fun q => g.inp.length - q.1) (0, (BitVec.allOnes 64)) ⟨Nat.zero_le _, (nodeP_all (by omega)), O96⟩ ⟨rfl, rfl, rfl, rfl, rfl, rfl, rfl, rfl, rfl, rfl, rfl, trivial⟩ (fun q w97 hJ F98 K99 => ?_)
     obtain ⟨j, X1⟩ := q
     obtain ⟨hj0, hX, O100⟩ := hJ
     dsimp only at hj0 hX O100 ⊢
     by_cases hk2 : j < g.inp.length
     ·skip
      obtain ⟨x0, hxk⟩ : ∃ x, g.inp[j]? = some x := ⟨g.inp[j], List.getElem?_eq_getElem hk2⟩
      have hxr := zE9 hok (List.mem_of_getElem? hxk)
      obtain ⟨x, rfl⟩ : ∃ n : Nat, x0 = n := ⟨x0.toNat, by omega⟩
      have hwx : ws[x]? = some (ws.getD x 0#64) := zBh (by omega)
      obtain ⟨b2, o2, c3, hv3⟩ := hI.form (by omega)
      injection hv3 with hA _ hc
      subst hA hc
      refine zAc fun _ K101 => zAa <| wc rfl rfl (lss1 (by omega)) rfl rfl <| zAd <| zAb K101 <| zAc fun _ K102 => zAl rfl <| zAj ?_
      refine zAb K102 <| zAc fun _ K103 => zAh <| zAc fun _ K104 => zAa <| wi (q := o2 + j) (i := j) el57 rfl rfl (by omega) (by omega) rfl rfl <| wd (v := .int .i64 (x : Int)) ty3 rfl ((zBs O100.old hI (fun k hk => hk)).at_ hxk) rfl rfl <| wa rfl rfl rfl ?_
      refine nx K104 fun _ K105 => wf (q := 0) zBy rfl rfl rfl rfl <| wd ty3 rfl (O100.cell 1 0 rfl rfl) rfl rfl <| wc rfl rfl (eql1 (by omega)) rfl rfl <| zAd <| zAb K105 <| zAl rfl ?_
      refine zA1 (fun X => Own Z0 W X [.blk g46 23 ((bvCs (ws.set i X1)).toArray), .blk g63 73 #[.int .i64 g.kind, .int .i64 g.lit, .slice (some ⟨b2, o2, none⟩) g.inp.length c2], .map g20 (encL intE ml), .blk g2 39 #[.int .i64 N, .slice (some ⟨b, o, none⟩) B.length c]]) 10 [(0, 1), (1, 1), (2, 1), (3, 0), (4, 1), (5, 1), (6, 1), (7, 0), (8, 1), (9, 1), (10, 3)] (by kernel_rfl) (by kernel_rfl) (PQ.block (PQ.then_ (PQ.then_ (PQ.block (PQ.block (PQ.then_ (PQ.then_ (PQ.block (PQ.then_ PQ.body))))))))) (O100).drew ?_
      have O106 := O100.drew
      refine tm rfl rfl rfl rfl <| tm rfl rfl rfl rfl <| wt1 (v := .pointer (some ⟨g46, i, none⟩)) rfl (fun ρ e W => zA9 (q := i) (i := i) el163 (e _ _ rfl) (e _ _ rfl) (by omega) (by omega)) rfl rfl <| wt0 (v := .int .u64 ((X1).toNat : Int)) rfl (fun ρ e W hW => zAm ty23 (e _ _ rfl) (hW.cell 0 i rfl (getW (zG3 (by omega))))) rfl rfl <| tm rfl rfl rfl rfl <| tm rfl rfl rfl rfl <| wt1 (v := .pointer (some ⟨g46, x, none⟩)) rfl (fun ρ e W => zA9 (q := x) (i := x) el163 (e _ _ rfl) (e _ _ rfl) (by omega) (by omega)) rfl rfl <| wt0 (v := .int .u64 ((ws.getD x 0#64).toNat : Int)) rfl (fun ρ e W hW => zAm ty23 (e _ _ rfl) (hW.cell 0 x rfl (getW (setget_ne hwx (by omega))))) rfl rfl ?_
      refine wt1 (v := .int .u64 (((X1) &&& (ws.getD x 0#64)).toNat : Int)) rfl (fun ρ e W => zBp (a := (X1).toNat) (b := (ws.getD x 0#64).toNat) (q := ((X1) &&& (ws.getD x 0#64)).toNat) (e _ _ rfl) (e _ _ rfl) (bv_and _ _) (zAx (BitVec.isLt _))) rfl rfl <| wt1 (v := .pointer (some ⟨g46, i, none⟩)) rfl (fun ρ e W => zA9 (q := i) (i := i) el163 (e _ _ rfl) (e _ _ rfl) (by omega) (by omega)) rfl rfl ?_
      obtain ⟨w107, r108, O109, hs110⟩ := zAp (o := i) (n := 1) O106 ty23 (.int .u64 (((X1) &&& (ws.getD x 0#64)).toNat : Int)) _ (cs' := (bvCs (ws.set i ((X1) &&& (ws.getD x 0#64)))).toArray) rfl rfl rfl (by simp [bvCs] <;> omega) ((setW _ i ((X1) &&& (ws.getD x 0#64)) _ rfl).trans (by rw [List.set_set]))
      refine zBf rfl (fun ρ e => r108 ρ _ _ _ _ _ _ (e _ _ rfl) (e _ _ rfl)) rfl <| zBc <| zAn <| zAb K103 <| zAa <| zAe (v := .int .i64 ((j + 1 : Nat) : Int)) (fun ρ e => zAi (k := .i64) (u := (j : Int)) (v := 1) (e _ _ rfl) (e _ _ rfl) (congrArg some ((congrArg _ (by omega)).trans (zAo (u := ((j + 1 : Nat) : Int)) (by omega) (by omega))))) rfl rfl <| wm rfl rfl rfl <| zAd ?_
      refine zAt K99 (j + 1, ((X1) &&& (ws.getD x 0#64))) (by show g.inp.length - (j + 1) < g.inp.length - j; omega) ⟨(by show j + 1 ≤ g.inp.length; omega), (nodeP_and (by omega) hxk hX (fun k hk => hwd x k (by omega) hk)), O109⟩ ⟨rfl, rfl, rfl, rfl, rfl, rfl, rfl, rfl, rfl, rfl, rfl, trivial⟩
     ·have hje : j = g.inp.length := by omega
      subst hje
      refine zAc fun _ K111 => zAa <| wc rfl rfl (lss0 (by omega)) rfl rfl <| zAd <| zAb K111 <| zAc fun _ K112 => zAf rfl <| zA6 ?_
      refine zAg (by intro h; cases h) ?_
      refine zAg (by intro h; cases h) ?_
      refine zA4 <| zAn <| zAb K61 <| zAa <| zAe (v := .int .i64 ((i + 1 : Nat) : Int)) (fun ρ e => zAi (k := .i64) (u := (i : Int)) (v := 1) (e _ _ rfl) (e _ _ rfl) (congrArg some ((congrArg _ (by omega)).trans (zAo (u := ((i + 1 : Nat) : Int)) (by omega) (by omega))))) rfl rfl <| wm rfl rfl rfl <| zAd ?_
      refine zAt K57 (i + 1, (ws.set i X1)) (by show B.length - (i + 1) < B.length - i; omega) ⟨(by show i + 1 ≤ B.length; omega), (by show (List.set _ _ _).length = _; rw [List.length_set]; exact hwl), (zDo hwl hi hwd (fun k hk => (hX k hk).trans (zDu hw hx _))), (fun j' h1 h2 => (setget_ne' (by omega)).trans (hwz j' (by omega) h2)), (O100.re [0, 2, 3] rfl)⟩ ⟨rfl, rfl, rfl, rfl, rfl, rfl, trivial⟩
    ·skip
     refine wc rfl rfl (eql0 (by omega)) rfl rfl <| wa rfl rfl rfl <| zAd <| zAb K75 <| zAf rfl <| zAc fun _ K113 => zAa ?_
     by_cases c114 : g.kind = 2
     ·skip
      refine wc rfl rfl (eql1 (by omega)) rfl rfl <| wa rfl rfl rfl <| zAd <| zAb K113 <| zAl rfl <| zAc fun _ K115 => zAa <| wm rfl rfl rfl ?_
      refine wm rfl rfl rfl <| wm rfl rfl rfl <| wf (q := 1) zCm rfl rfl rfl rfl <| wd ty3 rfl (O71.cell 0 1 rfl rfl) rfl rfl <| wf (q := 1) zCm rfl rfl rfl rfl <| wd ty3 rfl (O71.cell 0 1 rfl rfl) rfl rfl <| zAe (v := .int .i64 (-g.lit)) (fun ρ e => zGw (e _ _ rfl) (zAo (by omega) (by omega))) rfl rfl <| zAe (v := .int .i64 (litVar g.lit)) (fun ρ e => ex_max2 (e _ _ rfl) (e _ _ rfl) (max_lit (hlk (by omega)) hN1)) rfl rfl ?_
      refine zAe (v := .int .u64 ((f (litVar g.lit)).toNat : Int)) (fun ρ e => zIi intKey Tryz.underlying162 Tryz.underlying3 ze23 (O71.map 2 rfl) (litVar g.lit) (hml _) (e _ _ rfl) (e _ _ rfl)) rfl rfl <| wi (q := i) (i := i) el163 rfl rfl (by omega) (by omega) rfl rfl ?_
      obtain ⟨w116, r117, O118, hs119⟩ := zAp (o := i) (n := 1) (O71.re [1, 0, 2, 3] rfl) ty23 (.int .u64 ((f (litVar g.lit)).toNat : Int)) _ (cs' := (bvCs (ws.set i (f (litVar g.lit)))).toArray) rfl rfl rfl (by simp [bvCs] <;> omega) (setW ws i (f (litVar g.lit)) _ rfl)
      refine zAv (fun ρ e => r117 ρ _ _ _ _ _ _ (e _ _ rfl) (e _ _ rfl)) rfl <| nx K115 fun _ K120 => wf (q := 1) zCm rfl rfl rfl rfl <| wd ty3 rfl (O118.cell 1 1 rfl rfl) rfl rfl ?_
      by_cases c121 : g.lit < 0
      ·skip
       refine wc rfl rfl (lss1 (by omega)) rfl rfl <| zAd <| zAb K120 <| zAl rfl <| zAa <| wm rfl rfl rfl <| wm rfl rfl rfl <| wm rfl rfl rfl ?_
       refine wm rfl rfl rfl <| wi (q := i) (i := i) el163 rfl rfl (by omega) (by omega) rfl rfl <| wd (v := .int .u64 ((f (litVar g.lit)).toNat : Int)) ty23 rfl (O118.cell 0 i rfl (getW (zG3 (by omega)))) rfl rfl <| zAe (v := .int .u64 ((~~~(f (litVar g.lit))).toNat : Int)) (fun ρ e => ex_cplN (e _ _ rfl)) rfl rfl <| wi (q := i) (i := i) el163 rfl rfl (by omega) (by omega) rfl rfl ?_
       obtain ⟨w122, r123, O124, hs125⟩ := zAp (o := i) (n := 1) O118 ty23 (.int .u64 ((~~~(f (litVar g.lit))).toNat : Int)) _ (cs' := (bvCs (ws.set i (~~~(f (litVar g.lit))))).toArray) rfl rfl rfl (by simp [bvCs] <;> omega) ((setW _ i (~~~(f (litVar g.lit))) _ rfl).trans (by rw [List.set_set]))
       refine zAv (fun ρ e => r123 ρ _ _ _ _ _ _ (e _ _ rfl) (e _ _ rfl)) rfl <| zAd <| zAn <| zAb K73 <| zAc fun _ K126 => zAa <| wf (q := 2) zB0 rfl rfl rfl rfl <| wd ty57 rfl (O124.cell 1 2 rfl rfl) rfl rfl ?_
       refine wz el57 rfl rfl rfl <| wm rfl rfl rfl <| zAd <| zAb K126 <| zAh ?_
       have O127 := O124
       refine zA8 (ι := Nat × BitVec 64) (fun q => [(4, VP g2), (8, .map (some g20)), (11, VS0 g46 B.length B.length), (12, .int .i64 (i : Int)), (13, VP g63), (51, .slice (some ⟨b, o, none⟩) B.length c), (52, .int .i64 ((B.length : Nat) : Int)), (53, .int .i64 (i : Int)), (91, .slice A2 g.inp.length c2), (92, .int .i64 ((g.inp.length : Nat) : Int)), (93, .int .i64 (q.1 : Int))]) (fun q X => (q.1 ≤ g.inp.length) ∧ (∀ k, k < 64 → q.2.getLsbD k = nodeP B g (asgF l k) q.1) ∧ Own Z0 W X [.blk g46 23 ((bvCs (ws.set i q.2)).toArray), .blk g63 73 #[.int .i64 g.kind, .int .i64 g.lit, .slice A2 g.inp.length c2], .map g20 (encL intE ml), .blk g2 39 #[.int .i64 N, .slice (some ⟨b, o, none⟩) B.length c]]) (fun q => g.inp.length - q.1) (0, (~~~(f (litVar g.lit)))) ⟨Nat.zero_le _, (nodeP_lit0 hl1 hN1 hf (hlk (by omega)) (by omega) (by omega)), O127⟩ ⟨rfl, rfl, rfl, rfl, rfl, rfl, rfl, rfl, rfl, rfl, rfl, trivial⟩ (fun q w128 hJ F129 K130 => ?_)
       obtain ⟨j, X1⟩ := q
       obtain ⟨hj0, hX, O131⟩ := hJ
       dsimp only at hj0 hX O131 ⊢
       by_cases hk2 : j < g.inp.length
       ·exact absurd hk2 (by have := (h2 (by omega)).2; omega)
       ·have hje : j = g.inp.length := by omega
        subst hje
        refine zAc fun _ K132 => zAa <| wc rfl rfl (lss0 (by omega)) rfl rfl <| zAd <| zAb K132 <| zAc fun _ K133 => zAf rfl <| zA6 ?_
        refine zAg (by intro h; cases h) ?_
        refine zAg (by intro h; cases h) ?_
        refine zA4 <| zAn <| zAb K61 <| zAa <| zAe (v := .int .i64 ((i + 1 : Nat) : Int)) (fun ρ e => zAi (k := .i64) (u := (i : Int)) (v := 1) (e _ _ rfl) (e _ _ rfl) (congrArg some ((congrArg _ (by omega)).trans (zAo (u := ((i + 1 : Nat) : Int)) (by omega) (by omega))))) rfl rfl <| wm rfl rfl rfl <| zAd ?_
        refine zAt K57 (i + 1, (ws.set i X1)) (by show B.length - (i + 1) < B.length - i; omega) ⟨(by show i + 1 ≤ B.length; omega), (by show (List.set _ _ _).length = _; rw [List.length_set]; exact hwl), (zDo hwl hi hwd (fun k hk => (hX k hk).trans (zDu hw hx _))), (fun j' h1 h2 => (setget_ne' (by omega)).trans (hwz j' (by omega) h2)), (O131.re [0, 2, 3] rfl)⟩ ⟨rfl, rfl, rfl, rfl, rfl, rfl, trivial⟩
      ·skip
       refine wc rfl rfl (lss0 (by omega)) rfl rfl <| zAd <| zAb K120 <| zAf rfl <| zAj <| zAn <| zAb K73 <| zAc fun _ K134 => ?_
       refine zAa <| wf (q := 2) zB0 rfl rfl rfl rfl <| wd ty57 rfl (O118.cell 1 2 rfl rfl) rfl rfl <| wz el57 rfl rfl rfl <| wm rfl rfl rfl <| zAd <| zAb K134 <| zAh ?_
       have O135 := O118
       refine zA8 (ι := Nat × BitVec 64) (fun q => [(4, VP g2), (8, .map (some g20)), (11, VS0 g46 B.length B.length), (12, .int .i64 (i : Int)), (13, VP g63), (51, .slice (some ⟨b, o, none⟩) B.length c), (52, .int .i64 ((B.length : Nat) : Int)), (53, .int .i64 (i : Int)), (91, .slice A2 g.inp.length c2), (92, .int .i64 ((g.inp.length : Nat) : Int)), (93, .int .i64 (q.1 : Int))]) (fun q X => (q.1 ≤ g.inp.length) ∧ (∀ k, k < 64 → q.2.getLsbD k = nodeP B g (asgF l k) q.1) ∧ Own Z0 W X [.blk g46 23 ((bvCs (ws.set i q.2)).toArray), .blk g63 73 #[.int .i64 g.kind, .int .i64 g.lit, .slice A2 g.inp.length c2], .map g20 (encL intE ml), .blk g2 39 #[.int .i64 N, .slice (some ⟨b, o, none⟩) B.length c]]) (fun q => g.inp.length - q.1) (0, (f (litVar g.lit))) ⟨Nat.zero_le _, (nodeP_lit1 hl1 hN1 hf (hlk (by omega)) (by omega) (by omega)), O135⟩ ⟨rfl, rfl, rfl, rfl, rfl, rfl, rfl, rfl, rfl, rfl, rfl, trivial⟩ (fun q w136 hJ F137 K138 => ?_)
       obtain ⟨j, X1⟩ := q
       obtain ⟨hj0, hX, O139⟩ := hJ
       dsimp only at hj0 hX O139 ⊢
       by_cases hk2 : j < g.inp.length
       ·exact absurd hk2 (by have := (h2 (by omega)).2; omega)
       ·have hje : j = g.inp.length := by omega
        subst hje
        refine zAc fun _ K140 => zAa <| wc rfl rfl (lss0 (by omega)) rfl rfl <| zAd <| zAb K140 <| zAc fun _ K141 => zAf rfl <| zA6 ?_
        refine zAg (by intro h; cases h) ?_
        refine zAg (by intro h; cases h) ?_
        refine zA4 <| zAn <| zAb K61 <| zAa <| zAe (v := .int .i64 ((i + 1 : Nat) : Int)) (fun ρ e => zAi (k := .i64) (u := (i : Int)) (v := 1) (e _ _ rfl) (e _ _ rfl) (congrArg some ((congrArg _ (by omega)).trans (zAo (u := ((i + 1 : Nat) : Int)) (by omega) (by omega))))) rfl rfl <| wm rfl rfl rfl <| zAd ?_
        refine zAt K57 (i + 1, (ws.set i X1)) (by show B.length - (i + 1) < B.length - i; omega) ⟨(by show i + 1 ≤ B.length; omega), (by show (List.set _ _ _).length = _; rw [List.length_set]; exact hwl), (zDo hwl hi hwd (fun k hk => (hX k hk).trans (zDu hw hx _))), (fun j' h1 h2 => (setget_ne' (by omega)).trans (hwz j' (by omega) h2)), (O139.re [0, 2, 3] rfl)⟩ ⟨rfl, rfl, rfl, rfl, rfl, rfl, trivial⟩
     ·skip
      refine wc rfl rfl (eql0 (by omega)) rfl rfl <| wa rfl rfl rfl <| zAd <| zAb K113 <| zAf rfl <| zAj <| zAn <| zAb K73 ?_
      refine zAc fun _ K142 => zAa <| wf (q := 2) zB0 rfl rfl rfl rfl <| wd ty57 rfl (O71.cell 0 2 rfl rfl) rfl rfl <| wz el57 rfl rfl rfl <| wm rfl rfl rfl <| zAd <| zAb K142 ?_
      refine zAh ?_
      have hset0 : ws.set i 0#64 = ws := set_same hwi
      have O143 : Own Z0 W w69 [.blk g46 23 ((bvCs (ws.set i 0#64)).toArray), .blk g63 73 #[.int .i64 g.kind, .int .i64 g.lit, .slice A2 g.inp.length c2], .map g20 (encL intE ml), .blk g2 39 #[.int .i64 N, .slice (some ⟨b, o, none⟩) B.length c]] := by rw [hset0]; exact (O71.re [1, 0, 2, 3] rfl)
      refine zA8 (ι := Nat × BitVec 64) (fun q => [(4, VP g2), (8, .map (some g20)), (11, VS0 g46 B.length B.length), (12, .int .i64 (i : Int)), (13, VP g63), (51, .slice (some ⟨b, o, none⟩) B.length c), (52, .int .i64 ((B.length : Nat) : Int)), (53, .int .i64 (i : Int)), (91, .slice A2 g.inp.length c2), (92, .int .i64 ((g.inp.length : Nat) : Int)), (93, .int .i64 (q.1 : Int))]) (fun q X => (q.1 ≤ g.inp.length) ∧ (∀ k, k < 64 → q.2.getLsbD k = nodeP B g (asgF l k) q.1) ∧ Own Z0 W X [.blk g46 23 ((bvCs (ws.set i q.2)).toArray), .blk g63 73 #[.int .i64 g.kind, .int .i64 g.lit, .slice A2 g.inp.length c2], .map g20 (encL intE ml), .blk g2 39 #[.int .i64 N, .slice (some ⟨b, o, none⟩) B.length c]]) (fun q => g.inp.length - q.1) (0, (0#64)) ⟨Nat.zero_le _, (nodeP_none (by omega) (by omega) (by omega)), O143⟩ ⟨rfl, rfl, rfl, rfl, rfl, rfl, rfl, rfl, rfl, rfl, rfl, trivial⟩ (fun q w144 hJ F145 K146 => ?_)
      obtain ⟨j, X1⟩ := q
      obtain ⟨hj0, hX, O147⟩ := hJ
      dsimp only at hj0 hX O147 ⊢
      by_cases hk2 : j < g.inp.length
      ·skip
       obtain ⟨x0, hxk⟩ : ∃ x, g.inp[j]? = some x := ⟨g.inp[j], List.getElem?_eq_getElem hk2⟩
       have hxr := zE9 hok (List.mem_of_getElem? hxk)
       obtain ⟨x, rfl⟩ : ∃ n : Nat, x0 = n := ⟨x0.toNat, by omega⟩
       have hk4 : g.kind = 4 := by rcases hkk with h | h | h | h | h <;> first | omega | (have := (h01 (.inl h)).2; omega)
       have hwx : ws[x]? = some (ws.getD x 0#64) := zBh (by omega)
       obtain ⟨b2, o2, c3, hv3⟩ := hI.form (by omega)
       injection hv3 with hA _ hc
       subst hA hc
       refine zAc fun _ K148 => zAa <| wc rfl rfl (lss1 (by omega)) rfl rfl <| zAd <| zAb K148 <| zAc fun _ K149 => zAl rfl <| zAj ?_
       refine zAb K149 <| zAc fun _ K150 => zAh <| zAc fun _ K151 => zAa <| wi (q := o2 + j) (i := j) el57 rfl rfl (by omega) (by omega) rfl rfl <| wd (v := .int .i64 (x : Int)) ty3 rfl ((zBs O147.old hI (fun k hk => hk)).at_ hxk) rfl rfl <| wa rfl rfl rfl ?_
       refine nx K151 fun _ K152 => wf (q := 0) zBy rfl rfl rfl rfl <| wd ty3 rfl (O147.cell 1 0 rfl rfl) rfl rfl <| wc rfl rfl (eql0 (by omega)) rfl rfl <| zAd <| zAb K152 <| zAf rfl ?_
       refine zA1 (fun X => Own Z0 W X [.blk g46 23 ((bvCs (ws.set i X1)).toArray), .blk g63 73 #[.int .i64 g.kind, .int .i64 g.lit, .slice (some ⟨b2, o2, none⟩) g.inp.length c2], .map g20 (encL intE ml), .blk g2 39 #[.int .i64 N, .slice (some ⟨b, o, none⟩) B.length c]]) 10 [(0, 1), (1, 1), (2, 1), (3, 0), (4, 1), (5, 1), (6, 1), (7, 0), (8, 1), (9, 1), (10, 3)] (by kernel_rfl) (by kernel_rfl) (PQ.block (PQ.then_ (PQ.then_ (PQ.block (PQ.block (PQ.then_ (PQ.then_ (PQ.block (PQ.then_ PQ.body))))))))) (O147).drew ?_
       have O153 := O147.drew
       refine tm rfl rfl rfl rfl <| tm rfl rfl rfl rfl <| wt1 (v := .pointer (some ⟨g46, i, none⟩)) rfl (fun ρ e W => zA9 (q := i) (i := i) el163 (e _ _ rfl) (e _ _ rfl) (by omega) (by omega)) rfl rfl <| wt0 (v := .int .u64 ((X1).toNat : Int)) rfl (fun ρ e W hW => zAm ty23 (e _ _ rfl) (hW.cell 0 i rfl (getW (zG3 (by omega))))) rfl rfl <| tm rfl rfl rfl rfl <| tm rfl rfl rfl rfl <| wt1 (v := .pointer (some ⟨g46, x, none⟩)) rfl (fun ρ e W => zA9 (q := x) (i := x) el163 (e _ _ rfl) (e _ _ rfl) (by omega) (by omega)) rfl rfl <| wt0 (v := .int .u64 ((ws.getD x 0#64).toNat : Int)) rfl (fun ρ e W hW => zAm ty23 (e _ _ rfl) (hW.cell 0 x rfl (getW (setget_ne hwx (by omega))))) rfl rfl ?_
       refine wt1 (v := .int .u64 (((X1) ||| (ws.getD x 0#64)).toNat : Int)) rfl (fun ρ e W => zBp (a := (X1).toNat) (b := (ws.getD x 0#64).toNat) (q := ((X1) ||| (ws.getD x 0#64)).toNat) (e _ _ rfl) (e _ _ rfl) (bv_or _ _) (zAx (BitVec.isLt _))) rfl rfl <| wt1 (v := .pointer (some ⟨g46, i, none⟩)) rfl (fun ρ e W => zA9 (q := i) (i := i) el163 (e _ _ rfl) (e _ _ rfl) (by omega) (by omega)) rfl rfl ?_
       obtain ⟨w154, r155, O156, hs157⟩ := zAp (o := i) (n := 1) O153 ty23 (.int .u64 (((X1) ||| (ws.getD x 0#64)).toNat : Int)) _ (cs' := (bvCs (ws.set i ((X1) ||| (ws.getD x 0#64)))).toArray) rfl rfl rfl (by simp [bvCs] <;> omega) ((setW _ i ((X1) ||| (ws.getD x 0#64)) _ rfl).trans (by rw [List.set_set]))
       refine zBf rfl (fun ρ e => r155 ρ _ _ _ _ _ _ (e _ _ rfl) (e _ _ rfl)) rfl <| zBc <| zAn <| zAb K150 <| zAa <| zAe (v := .int .i64 ((j + 1 : Nat) : Int)) (fun ρ e => zAi (k := .i64) (u := (j : Int)) (v := 1) (e _ _ rfl) (e _ _ rfl) (congrArg some ((congrArg _ (by omega)).trans (zAo (u := ((j + 1 : Nat) : Int)) (by omega) (by omega))))) rfl rfl <| wm rfl rfl rfl <| zAd ?_
       refine zAt K146 (j + 1, ((X1) ||| (ws.getD x 0#64))) (by show g.inp.length - (j + 1) < g.inp.length - j; omega) ⟨(by show j + 1 ≤ g.inp.length; omega), (nodeP_or (by omega) hxk hX (fun k hk => hwd x k (by omega) hk)), O156⟩ ⟨rfl, rfl, rfl, rfl, rfl, rfl, rfl, rfl, rfl, rfl, rfl, trivial⟩
      ·have hje : j = g.inp.length := by omega
       subst hje
       refine zAc fun _ K158 => zAa <| wc rfl rfl (lss0 (by omega)) rfl rfl <| zAd <| zAb K158 <| zAc fun _ K159 => zAf rfl <| zA6 ?_
       refine zAg (by intro h; cases h) ?_
       refine zAg (by intro h; cases h) ?_
       refine zA4 <| zAn <| zAb K61 <| zAa <| zAe (v := .int .i64 ((i + 1 : Nat) : Int)) (fun ρ e => zAi (k := .i64) (u := (i : Int)) (v := 1) (e _ _ rfl) (e _ _ rfl) (congrArg some ((congrArg _ (by omega)).trans (zAo (u := ((i + 1 : Nat) : Int)) (by omega) (by omega))))) rfl rfl <| wm rfl rfl rfl <| zAd ?_
       refine zAt K57 (i + 1, (ws.set i X1)) (by show B.length - (i + 1) < B.length - i; omega) ⟨(by show i + 1 ≤ B.length; omega), (by show (List.set _ _ _).length = _; rw [List.length_set]; exact hwl), (zDo hwl hi hwd (fun k hk => (hX k hk).trans (zDu hw hx _))), (fun j' h1 h2 => (setget_ne' (by omega)).trans (hwz j' (by omega) h2)), (O147.re [0, 2, 3] rfl)⟩ ⟨rfl, rfl, rfl, rfl, rfl, rfl, trivial⟩
  ·have hie : i = B.length := by omega
   subst hie
   refine zAc fun _ K160 => zAa <| wc rfl rfl (lss0 (by omega)) rfl rfl <| zAd <| zAb K160 <| zAc fun _ K161 => zAf rfl <| zA6 ?_
   refine zAg (by intro h; cases h) ?_
   refine zAg (by intro h; cases h) ?_
   refine zA4 <| zAb K52 <| zAc fun _ K162 => zAa <| wm rfl rfl rfl <| wm rfl rfl rfl <| wz el163 rfl rfl rfl <| zAe (v := .int .i64 ((B.length - 1 : Nat) : Int)) (fun ρ e => zAi (k := .i64) (u := ((B.length : Nat) : Int)) (v := 1) (e _ _ rfl) (e _ _ rfl) (congrArg some ((congrArg _ (show _ = ((B.length - 1 : Nat) : Int) by omega)).trans (zAo (by omega) (by omega))))) rfl rfl ?_
   refine wi (q := B.length - 1) (i := B.length - 1) el163 rfl rfl (by omega) (by omega) rfl rfl <| wd (v := .int .u64 ((ws.getD (B.length - 1) 0#64).toNat : Int)) ty23 rfl (O58.cell 0 (B.length - 1) rfl (getW (zBh (by omega)))) rfl rfl <| wa rfl rfl rfl <| zAd <| zAb K162 <| zAz ?_
   refine zAy (v := .int .u64 ((ws.getD (B.length - 1) 0#64).toNat : Int)) (fun T hT => res1 rfl T _ (hT 6 _ rfl)) ?_
   exact ⟨_, rfl, fun k hk => hwd (B.length - 1) k (by omega) hk, O58.old⟩

end Go.Proofs.YtliiclmhpphpmaaGreatDoor
namespace Go.Proofs.YtliiclmhpphpmaaGreatDoor
open Go Go.RowKit
theorem zG5 {i : Nat} (h : i ≤ 6) : 2 ^ i ≤ 64 := Nat.pow_le_pow_right (n := 2) (by decide) h
theorem idx_take {s : VS} {l : List Int} (hl : l.length ≤ 6) (i : Nat) : idxF (l.take i) s < 64 := by
 refine Nat.lt_of_lt_of_le (zD3 s _) (zG5 ?_)
 rw [List.length_take]; omega
theorem zC4 {l : List Int} {i q : Nat} {v : Int} : (l.take i)[q]? = some v ↔ q < i ∧ l[q]? = some v := by
 rw [List.getElem?_take]
 split <;> simp [*]
theorem idx_step {s : VS} {l : List Int} {i : Nat} {y : Int} (hy : l[i]? = some y) : idxF (l.take (i + 1)) s = if s.has y then idxF (l.take i) s ||| 2 ^ i else idxF (l.take i) s := by
 apply Nat.eq_of_testBit_eq
 intro q
 rw [Bool.eq_iff_iff, zCo]
 have h1 : ∀ h : s.has y = true, (∃ v, (l.take (i + 1))[q]? = some v ∧ s.has v = true) ↔ (idxF (l.take i) s ||| 2 ^ i).testBit q = true := by
  intro h
  rw [Nat.testBit_or, Bool.or_eq_true, zCo]
  constructor
  ·rintro ⟨v, hv, hs⟩
   obtain ⟨h1, h2⟩ := zC4.1 hv
   by_cases e : q = i
   ·subst e; exact .inr Nat.testBit_two_pow_self
   ·exact .inl ⟨v, zC4.2 ⟨by omega, h2⟩, hs⟩
  ·rintro (⟨v, hv, hs⟩ | hb)
   ·obtain ⟨h1, h2⟩ := zC4.1 hv
    exact ⟨v, zC4.2 ⟨by omega, h2⟩, hs⟩
   ·have e : i = q := by
     by_cases e : i = q
     ·exact e
     ·rw [Nat.testBit_two_pow_of_ne e] at hb; cases hb
    subst e
    exact ⟨y, zC4.2 ⟨by omega, hy⟩, h⟩
 by_cases h : s.has y = true
 ·rw [if_pos h]; exact h1 h
 ·rw [if_neg h, zCo]
  constructor
  ·rintro ⟨v, hv, hs⟩
   obtain ⟨h3, h2⟩ := zC4.1 hv
   by_cases e : q = i
   ·subst e; rw [hy] at h2; injection h2 with h2; subst h2; exact absurd hs h
   ·exact ⟨v, zC4.2 ⟨by omega, h2⟩, hs⟩
  ·rintro ⟨v, hv, hs⟩
   obtain ⟨h3, h2⟩ := zC4.1 hv
   exact ⟨v, zC4.2 ⟨by omega, h2⟩, hs⟩
theorem index_ {W : World} {D1 : Nat → Prop} {V1 : Value} {l : List Int} {tk : Nat} (htk : tk < W.heap.size) (hc1 : W.cell? ⟨tk, 1, none⟩ = some V1) (hV1 : IntsD D1 W V1 l) (hD1 : ∀ k, D1 k → k < W.heap.size) (hl6 : l.length ≤ 6) (s : VS) :
  Calls Tryz.prog 36 #[.pointer (some ⟨tk, 0, none⟩), .agg #[.int .u64 (s.a.toNat : Int), .int .u64 (s.b.toNat : Int)]] W fun e w' => e = .returned (.int .i64 ((idxF l s : Nat) : Int)) ∧ Below W.heap.size W w' := by
 obtain ⟨A1, c1, rfl⟩ := hV1.slice
 have O0 := (Own.start W).oldro (D := D1) (p := (fun w => IntsD D1 w (.slice A1 l.length c1) l)) (zDw hV1 hD1)
 refine zAu (args := [VP tk, .agg #[.int .u64 (s.a.toNat : Int), .int .u64 (s.b.toNat : Int)]]) Tryz.func36 rfl rfl (by simp) ?_
 refine zAc fun _ K1 => zAa ?_
 obtain ⟨g2, w3, r4, O5, hg6, hs7⟩ := zA5 O0 25 (.agg #[.int .u64 (s.a.toNat : Int), .int .u64 (s.b.toNat : Int)]) rfl
 refine zAe (v := VP g2) (fun ρ e => r4 ρ _ _ _ _ _ _ (e _ _ rfl)) rfl rfl <| wa rfl rfl rfl <| nx K1 fun _ K8 => wa rfl rfl rfl <| zAd <| zAb K8 <| zAc fun _ K9 => zAc fun _ K10 => ?_
 refine zAa <| wm rfl rfl rfl <| wn rfl rfl rfl <| wf (q := 1) zHi rfl rfl rfl rfl <| wd (v := .slice A1 l.length c1) ty57 rfl (O5.old.cell (p := ⟨tk, 1, none⟩) htk |>.trans hc1) rfl rfl <| wz el57 rfl rfl rfl <| wm rfl rfl rfl <| zAd ?_
 refine zAb K10 <| zAh ?_
 have O11 := O5
 refine zA8 (ι := Nat × Nat) (fun q => [(3, VP g2), (11, .slice A1 l.length c1), (12, .int .i64 ((l.length : Nat) : Int)), (5, .int .i64 (q.2 : Int)), (13, .int .i64 (q.1 : Int))]) (fun q X => (q.1 ≤ l.length) ∧ (q.2 = idxF (l.take q.1) s) ∧ Own Z0 W X [.blk g2 25 #[.int .u64 (s.a.toNat : Int), .int .u64 (s.b.toNat : Int)], .ro D1 (fun w => IntsD D1 w (.slice A1 l.length c1) l)]) (fun q => l.length - q.1) (0, 0) ⟨Nat.zero_le _, rfl, O11⟩ ⟨rfl, rfl, rfl, rfl, rfl, trivial⟩ (fun q w12 hJ F13 K14 => ?_)
 obtain ⟨i, r⟩ := q
 obtain ⟨hi0, hr, O15⟩ := hJ
 dsimp only at hi0 hr O15 ⊢
 by_cases hi : i < l.length
 ·skip
  obtain ⟨y, hy⟩ : ∃ y, l[i]? = some y := ⟨l[i], List.getElem?_eq_getElem hi⟩
  obtain ⟨a1, o1, c3, hv1⟩ := (O15.ro 1 rfl : IntsD D1 _ _ l).form (by omega)
  injection hv1 with hA _ hc
  subst hA hc
  have hb1 := idx_take (s := s) hl6 i
  have hb2 := idx_take (s := s) hl6 (i + 1)
  have hst := idx_step (s := s) hy
  obtain ⟨p2, hp2e⟩ : ∃ p, p = 2 ^ i := ⟨_, rfl⟩
  have hp2 : p2 ≤ 64 := by rw [hp2e]; exact zG5 (by omega)
  rw [← hp2e, ← hr] at hst
  rw [← hr] at hb1
  cases hhas : s.has y
  ·skip
   rw [hhas] at hst
   simp only [Bool.false_eq_true, if_false] at hst
   refine zAc fun _ K16 => zAa <| wc rfl rfl (lss1 (by omega)) rfl rfl <| zAd <| zAb K16 <| zAc fun _ K17 => zAl rfl <| zAj ?_
   refine zAb K17 <| zAc fun _ K18 => zAh <| zAc fun _ K19 => zAa <| wm rfl rfl rfl <| wi (q := o1 + i) (i := i) el57 rfl rfl (by omega) (by omega) rfl rfl <| wd (v := .int .i64 y) ty3 rfl ((O15.ro 1 rfl : IntsD D1 _ _ l).at_ hy) rfl rfl ?_
   refine wa rfl rfl rfl <| wa rfl rfl rfl <| nx K19 fun _ K20 => zAe (v := .agg #[.int .u64 (s.a.toNat : Int), .int .u64 (s.b.toNat : Int)]) (fun ρ e => zAk (vs := [.int .u64 (s.a.toNat : Int), .int .u64 (s.b.toNat : Int)]) ty25 (e _ _ rfl) rfl (O15.cells 0 0 rfl rfl)) rfl rfl <| wm rfl rfl rfl ?_
   refine zAs (args := [.agg #[.int .u64 (s.a.toNat : Int), .int .u64 (s.b.toNat : Int)], .int .i64 y]) zIt rfl rfl rfl ?_
   have hc21 := zC2 s.a s.b y w12
   rw [show VS.has ⟨s.a, s.b⟩ y = false from hhas] at hc21
   refine hc21.mono ?_
   rintro _ w22 ⟨rfl, hb23⟩
   have O24 := O15.below hb23
   refine ⟨_, rfl, ?_⟩
   refine zAd <| zAb K20 <| zAf rfl <| zAj <| zAn <| zAb K18 <| zAa <| zAe (v := .int .i64 ((i + 1 : Nat) : Int)) (fun ρ e => zAi (k := .i64) (u := (i : Int)) (v := 1) (e _ _ rfl) (e _ _ rfl) (congrArg some ((congrArg _ (by omega)).trans (zAo (u := ((i + 1 : Nat) : Int)) (by omega) (by omega))))) rfl rfl ?_
   refine wm rfl rfl rfl <| zAd ?_
   refine zAt K14 (i + 1, r) (by show l.length - (i + 1) < l.length - i; omega) ⟨(by show i + 1 ≤ l.length; omega), hst.symm, O24⟩ ⟨rfl, rfl, rfl, rfl, rfl, trivial⟩
  ·skip
   rw [hhas] at hst
   simp only [if_true] at hst
   refine zAc fun _ K25 => zAa <| wc rfl rfl (lss1 (by omega)) rfl rfl <| zAd <| zAb K25 <| zAc fun _ K26 => zAl rfl <| zAj ?_
   refine zAb K26 <| zAc fun _ K27 => zAh <| zAc fun _ K28 => zAa <| wm rfl rfl rfl <| wi (q := o1 + i) (i := i) el57 rfl rfl (by omega) (by omega) rfl rfl <| wd (v := .int .i64 y) ty3 rfl ((O15.ro 1 rfl : IntsD D1 _ _ l).at_ hy) rfl rfl ?_
   refine wa rfl rfl rfl <| wa rfl rfl rfl <| nx K28 fun _ K29 => zAe (v := .agg #[.int .u64 (s.a.toNat : Int), .int .u64 (s.b.toNat : Int)]) (fun ρ e => zAk (vs := [.int .u64 (s.a.toNat : Int), .int .u64 (s.b.toNat : Int)]) ty25 (e _ _ rfl) rfl (O15.cells 0 0 rfl rfl)) rfl rfl <| wm rfl rfl rfl ?_
   refine zAs (args := [.agg #[.int .u64 (s.a.toNat : Int), .int .u64 (s.b.toNat : Int)], .int .i64 y]) zIt rfl rfl rfl ?_
   have hc30 := zC2 s.a s.b y w12
   rw [show VS.has ⟨s.a, s.b⟩ y = true from hhas] at hc30
   refine hc30.mono ?_
   rintro _ w31 ⟨rfl, hb32⟩
   have O33 := O15.below hb32
   refine ⟨_, rfl, ?_⟩
   refine zAd <| zAb K29 <| zAl rfl <| zAa <| wm rfl rfl rfl <| wm rfl rfl rfl <| zAe (v := .int .u64 (i : Int)) (fun ρ e => zBi (u := (i : Int)) (v := (i : Int)) (e _ _ rfl) (zAx (by omega))) rfl rfl <| zAe (v := .int .i64 (p2 : Int)) (fun ρ e => zCa (k := .i64) (a := 1) (s := i) (r := (p2 : Int)) (e _ _ rfl) (e _ _ rfl) (show _ ≤ 64 by omega) ((congrArg _ (congrArg Nat.cast ((Nat.one_mul _).trans hp2e.symm))).trans (zAo (by omega) (by omega)))) rfl rfl ?_
   refine zAe (v := .int .i64 ((idxF (l.take (i + 1)) s : Nat) : Int)) (fun ρ e => zBp (a := r) (b := p2) (q := idxF (l.take (i + 1)) s) (e _ _ rfl) (e _ _ rfl) ((n_or (show _ < 2 ^ 64 by omega) (show _ < 2 ^ 64 by omega)).trans (congrArg some hst.symm)) (zAo (by omega) (by omega))) rfl rfl <| wa rfl rfl rfl <| zAd <| zAn <| zAb K27 <| zAa <| zAe (v := .int .i64 ((i + 1 : Nat) : Int)) (fun ρ e => zAi (k := .i64) (u := (i : Int)) (v := 1) (e _ _ rfl) (e _ _ rfl) (congrArg some ((congrArg _ (by omega)).trans (zAo (u := ((i + 1 : Nat) : Int)) (by omega) (by omega))))) rfl rfl ?_
   refine wm rfl rfl rfl <| zAd ?_
   refine zAt K14 (i + 1, (idxF (l.take (i + 1)) s)) (by show l.length - (i + 1) < l.length - i; omega) ⟨(by show i + 1 ≤ l.length; omega), rfl, O33⟩ ⟨rfl, rfl, rfl, rfl, rfl, trivial⟩
 ·have hie : i = l.length := by omega
  subst hie
  refine zAc fun _ K34 => zAa <| wc rfl rfl (lss0 (by omega)) rfl rfl <| zAd <| zAb K34 <| zAc fun _ K35 => zAf rfl <| zA6 ?_
  refine zAg (by intro h; cases h) ?_
  refine zAg (by intro h; cases h) ?_
  refine zA4 <| zAb K9 <| zAc fun _ K36 => zAa <| wm rfl rfl rfl <| wa rfl rfl rfl <| zAd <| zAb K36 ?_
  refine zAz ?_
  refine zAy (v := .int .i64 (r : Int)) (fun T hT => res1 rfl T _ (hT 4 _ rfl)) ?_
  skip
  exact ⟨by rw [hr, List.take_length], O15.old⟩

end Go.Proofs.YtliiclmhpphpmaaGreatDoor
namespace Go.Proofs.YtliiclmhpphpmaaGreatDoor
open Go Go.RowKit
def padO (B : List Gate) (i : Nat) : List VS := ownTo B i ++ List.replicate (B.length - i) VS.empty
def partO (g : Gate) (o : List VS) (k : Nat) : VS := (g.inp.take k).foldl (fun s k => s.union (sv o k)) (VS.empty.with_ (litVar g.lit))
theorem padO_zero (B : List Gate) : padO B 0 = List.replicate B.length VS.empty := rfl
theorem padO_all (B : List Gate) : padO B B.length = ownTo B B.length := by unfold padO; rw [Nat.sub_self]; simp
theorem zH5 (B : List Gate) {i : Nat} (h : i ≤ B.length) : (padO B i).length = B.length := by unfold padO; rw [List.length_append, zCf, List.length_replicate]; omega
theorem padO_next {B : List Gate} {i : Nat} {g : Gate} (hx : B[i]? = some g) : (padO B i).set i (partO g (ownTo B i) g.inp.length) = padO B (i + 1) := by
 have hi := (List.getElem?_eq_some_iff.1 hx).1
 unfold padO partO
 rw [List.take_length, List.set_append_right _ _ (by rw [zCf]; exact Nat.le_refl _), zCf, Nat.sub_self, show B.length - i = (B.length - (i + 1)) + 1 by omega, List.replicate_succ, List.set_cons_zero]
 conv => rhs; unfold ownTo
 rw [hx]
 simp [nodeO]
theorem padO_self {B : List Gate} {i : Nat} {g : Gate} {s : VS} (hx : B[i]? = some g) : ((padO B i).set i s)[i]? = some s := by
 have hi := (List.getElem?_eq_some_iff.1 hx).1
 rw [List.getElem?_set, if_pos rfl, if_pos (by rw [zH5 B (by omega)]; exact hi)]
theorem padO_kid {B : List Gate} {i n : Nat} {s : VS} (hn : n < i) (hi : i < B.length) : ((padO B i).set i s)[n]? = some (sv (ownTo B i) (n : Int)) := by
 rw [List.getElem?_set, if_neg (by omega)]
 unfold padO sv
 rw [List.getElem?_append_left (by rw [zCf]; exact hn), Int.toNat_natCast, List.getD_eq_getElem?_getD, List.getElem?_eq_getElem (by rw [zCf]; exact hn)]
 rfl
theorem partO_next {g : Gate} {o : List VS} {k : Nat} {x : Int} (hk : g.inp[k]? = some x) : (partO g o k).union (sv o x) = partO g o (k + 1) := by
 unfold partO
 rw [List.take_add_one, hk, List.foldl_append]
 rfl
theorem vars_union (s t : VS) (W : World) : Calls Tryz.prog 81 #[.agg #[.int .u64 (s.a.toNat : Int), .int .u64 (s.b.toNat : Int)], .agg #[.int .u64 (t.a.toNat : Int), .int .u64 (t.b.toNat : Int)]] W fun e w' => e = .returned (.agg #[.int .u64 ((s.union t).a.toNat : Int), .int .u64 ((s.union t).b.toNat : Int)]) ∧ Below W.heap.size W w' := by
 have O0 : Own Z0 W W [] := Own.start W
 refine zAu (args := [.agg #[.int .u64 (s.a.toNat : Int), .int .u64 (s.b.toNat : Int)], .agg #[.int .u64 (t.a.toNat : Int), .int .u64 (t.b.toNat : Int)]]) Tryz.func81 rfl rfl (by simp) ?_
 refine zAc fun _ K1 => zAa ?_
 obtain ⟨g2, w3, r4, O5, hg6, hs7⟩ := zA5 O0 25 (.agg #[.int .u64 (s.a.toNat : Int), .int .u64 (s.b.toNat : Int)]) rfl
 refine zAe (v := VP g2) (fun ρ e => r4 ρ _ _ _ _ _ _ (e _ _ rfl)) rfl rfl ?_
 obtain ⟨g8, w9, r10, O11, hg12, hs13⟩ := zA5 O5 25 (.agg #[.int .u64 (t.a.toNat : Int), .int .u64 (t.b.toNat : Int)]) rfl
 refine zAe (v := VP g8) (fun ρ e => r10 ρ _ _ _ _ _ _ (e _ _ rfl)) rfl rfl ?_
 obtain ⟨g14, w15, r16, O17, hg18, hs19⟩ := zAw O11 25 ze25 rfl
 refine zAe (v := VP g14) (fun ρ e => r16 ρ _ _ _ _ _) rfl rfl <| nx K1 fun _ K20 => zAe (v := VP g2) (fun ρ e => zCe (q := 0) (i := 0) an25 (e _ _ rfl) (e _ _ rfl) (by omega) (by omega)) rfl rfl <| wd ty23 rfl (O17.cell 2 0 rfl rfl) rfl rfl <| zAe (v := VP g8) (fun ρ e => zCe (q := 0) (i := 0) an25 (e _ _ rfl) (e _ _ rfl) (by omega) (by omega)) rfl rfl <| wd ty23 rfl (O17.cell 1 0 rfl rfl) rfl rfl <| zAe (v := .int .u64 ((s.union t).a.toNat : Int)) (fun ρ e => zBp (op := .or) (k := .u64) (a := s.a.toNat) (b := t.a.toNat) (q := (s.union t).a.toNat) (e _ _ rfl) (e _ _ rfl) (bv_or _ _) (zAx (s.union t).a.isLt)) rfl rfl ?_
 refine zAe (v := .pointer (some ⟨g2, 1, none⟩)) (fun ρ e => zCe (q := 1) (i := 1) an25 (e _ _ rfl) (e _ _ rfl) (by omega) (by omega)) rfl rfl <| wd ty23 rfl (O17.cell 2 1 rfl rfl) rfl rfl <| zAe (v := .pointer (some ⟨g8, 1, none⟩)) (fun ρ e => zCe (q := 1) (i := 1) an25 (e _ _ rfl) (e _ _ rfl) (by omega) (by omega)) rfl rfl <| wd ty23 rfl (O17.cell 1 1 rfl rfl) rfl rfl <| zAe (v := .int .u64 ((s.union t).b.toNat : Int)) (fun ρ e => zBp (op := .or) (k := .u64) (a := s.b.toNat) (b := t.b.toNat) (q := (s.union t).b.toNat) (e _ _ rfl) (e _ _ rfl) (bv_or _ _) (zAx (s.union t).b.isLt)) rfl rfl ?_
 refine zAe (v := .agg #[.int .u64 ((s.union t).a.toNat : Int), .int .u64 ((s.union t).b.toNat : Int)]) (fun ρ e => zBl (cells := #[.int .u64 ((s.union t).a.toNat : Int), .int .u64 ((s.union t).b.toNat : Int)]) ar25 (e.parts rfl) rfl) rfl rfl ?_
 obtain ⟨w21, r22, O23, hs24⟩ := zAp (o := 0) (n := 2) O17 ty25 (.agg #[.int .u64 ((s.union t).a.toNat : Int), .int .u64 ((s.union t).b.toNat : Int)]) _ (cs' := #[.int .u64 ((s.union t).a.toNat : Int), .int .u64 ((s.union t).b.toNat : Int)]) rfl rfl rfl (Nat.le_of_ble_eq_true rfl) rfl
 refine zAv (fun ρ e => r22 ρ _ _ _ _ _ _ (e _ _ rfl) (e _ _ rfl)) rfl <| zAd <| zAb K20 <| zAz ?_
 refine zAy (v := .agg #[.int .u64 ((s.union t).a.toNat : Int), .int .u64 ((s.union t).b.toNat : Int)]) (fun T hT => res1c rfl T _ (hT 4 _ rfl) (zBj (vs := [.int .u64 ((s.union t).a.toNat : Int), .int .u64 ((s.union t).b.toNat : Int)]) ty25 rfl (O23.cells 0 0 rfl rfl))) ?_
 exact ⟨rfl, O23.old⟩
theorem vars_of1 {W : World} {g : Nat} {v : Int} (hg : g < W.heap.size) (hc : W.cell? ⟨g, 0, none⟩ = some (.int .i64 v)) : Calls Tryz.prog 84 #[.slice (some ⟨g, 0, none⟩) 1 1] W fun e w' => e = .returned (.agg #[.int .u64 ((VS.empty.with_ v).a.toNat : Int), .int .u64 ((VS.empty.with_ v).b.toNat : Int)]) ∧ Below W.heap.size W w' := by
 have O0 : Own Z0 W W [] := Own.start W
 refine zAu (args := [VS0 g 1 1]) Tryz.func84 rfl rfl (by simp) ?_
 refine zAc fun _ K1 => zAa ?_
 obtain ⟨g2, w3, r4, O5, hg6, hs7⟩ := zAw O0 25 ze25 rfl
 refine zAe (v := VP g2) (fun ρ e => r4 ρ _ _ _ _ _) rfl rfl <| nx K1 fun _ K8 => ?_
 obtain ⟨g9, w10, r11, O12, hg13, hs14⟩ := zAw O5 25 ze25 rfl
 refine zAe (v := VP g9) (fun ρ e => r11 ρ _ _ _ _ _) rfl rfl <| zAd <| zAb K8 <| zAc fun _ K15 => zAc fun _ K16 => zAa <| wm rfl rfl rfl <| wz el57 rfl rfl rfl ?_
 refine wm rfl rfl rfl <| zAd <| zAb K16 <| zAh ?_
 have O17 := O12
 refine zA8 (ι := Nat) (fun q => [(2, VP g2), (3, VP g9), (6, VS0 g 1 1), (7, .int .i64 (1 : Int)), (8, .int .i64 (q : Int))]) (fun q X => (q ≤ 1) ∧ Own Z0 W X [.blk g9 25 #[.int .u64 ((if q = 0 then VS.empty else VS.empty.with_ v).a.toNat : Int), .int .u64 ((if q = 0 then VS.empty else VS.empty.with_ v).b.toNat : Int)], .blk g2 25 #[.int .u64 0, .int .u64 0]]) (fun q => 1 - q) 0 ⟨Nat.zero_le _, O17⟩ ⟨rfl, rfl, rfl, rfl, rfl, trivial⟩ (fun q w18 hJ F19 K20 => ?_)
 obtain ⟨i, rfl⟩ : ∃ x, x = q := ⟨_, rfl⟩
 obtain ⟨hi0, O21⟩ := hJ
 try dsimp only at hi0 O21 ⊢
 rcases (show i = 0 ∨ i = 1 by omega) with rfl | rfl
 ·skip
  have O22 := O21
  refine zAc fun _ K23 => zAa <| wc rfl rfl (lss1 (by omega)) rfl rfl <| zAd <| zAb K23 <| zAc fun _ K24 => zAl rfl <| zAj ?_
  refine zAb K24 <| zAc fun _ K25 => zAh <| zAc fun _ K26 => zAa <| wi (q := 0) (i := 0) el57 rfl rfl (by omega) (by omega) rfl rfl <| wd (v := .int .i64 v) ty3 rfl ((O22.old.cell (p := ⟨g, 0, none⟩) hg).trans hc) rfl rfl <| wa rfl rfl rfl ?_
  refine zAd <| zAb K26 <| zAa <| zAe (v := .agg #[.int .u64 0, .int .u64 0]) (fun ρ e => zAk (vs := [.int .u64 0, .int .u64 0]) ty25 (e _ _ rfl) rfl (O22.cells 0 0 rfl rfl)) rfl rfl <| wm rfl rfl rfl ?_
  refine zAs (args := [.agg #[.int .u64 0, .int .u64 0], .int .i64 v]) in_19 rfl rfl rfl ?_
  refine (zDq 0#64 0#64 v w18).mono ?_
  rintro _ w27 ⟨rfl, hb28⟩
  have O29 := O22.below hb28
  refine ⟨_, rfl, ?_⟩
  obtain ⟨w30, r31, O32, hs33⟩ := zAp (o := 0) (n := 2) O29 ty25 (.agg #[.int .u64 ((VS.empty.with_ v).a.toNat : Int), .int .u64 ((VS.empty.with_ v).b.toNat : Int)]) _ (cs' := #[.int .u64 ((VS.empty.with_ v).a.toNat : Int), .int .u64 ((VS.empty.with_ v).b.toNat : Int)]) rfl rfl rfl (Nat.le_of_ble_eq_true rfl) rfl
  refine zAv (fun ρ e => r31 ρ _ _ _ _ _ _ (e _ _ rfl) (e _ _ rfl)) rfl <| zAd <| zAn <| zAb K25 <| zAa <| zAe (v := .int .i64 1) (fun ρ e => zAi (k := .i64) (u := 0) (v := 1) (e _ _ rfl) (e _ _ rfl) (congrArg some (zAo (by omega) (by omega)))) rfl rfl <| wm rfl rfl rfl <| zAd ?_
  refine zAt K20 1 (by show 1 - 1 < 1 - 0; omega) ⟨Nat.le_refl _, O32⟩ ⟨rfl, rfl, rfl, rfl, rfl, trivial⟩
 ·skip
  have O34 := O21
  refine zAc fun _ K35 => zAa <| wc rfl rfl (lss0 (by omega)) rfl rfl <| zAd <| zAb K35 <| zAc fun _ K36 => zAf rfl <| zA6 ?_
  refine zAg (by intro h; cases h) ?_
  refine zAg (by intro h; cases h) ?_
  refine zA4 <| zAb K15 <| zAc fun _ K37 => zAa <| zAe (v := .agg #[.int .u64 ((VS.empty.with_ v).a.toNat : Int), .int .u64 ((VS.empty.with_ v).b.toNat : Int)]) (fun ρ e => zAk (vs := [.int .u64 ((VS.empty.with_ v).a.toNat : Int), .int .u64 ((VS.empty.with_ v).b.toNat : Int)]) ty25 (e _ _ rfl) rfl (O34.cells 0 0 rfl rfl)) rfl rfl ?_
  obtain ⟨w38, r39, O40, hs41⟩ := zAp (o := 0) (n := 2) (O34.re [1, 0] rfl) ty25 (.agg #[.int .u64 ((VS.empty.with_ v).a.toNat : Int), .int .u64 ((VS.empty.with_ v).b.toNat : Int)]) _ (cs' := #[.int .u64 ((VS.empty.with_ v).a.toNat : Int), .int .u64 ((VS.empty.with_ v).b.toNat : Int)]) rfl rfl rfl (Nat.le_of_ble_eq_true rfl) rfl
  refine zAv (fun ρ e => r39 ρ _ _ _ _ _ _ (e _ _ rfl) (e _ _ rfl)) rfl <| zAd <| zAb K37 <| zAz ?_
  refine zAy (v := .agg #[.int .u64 ((VS.empty.with_ v).a.toNat : Int), .int .u64 ((VS.empty.with_ v).b.toNat : Int)]) (fun T hT => res1c rfl T _ (hT 2 _ rfl) (zBj (vs := [.int .u64 ((VS.empty.with_ v).a.toNat : Int), .int .u64 ((VS.empty.with_ v).b.toNat : Int)]) ty25 rfl (O40.cells 0 0 rfl rfl))) ?_
  exact ⟨rfl, O40.old⟩
theorem zJh {W : World} {V : Value} {B : List Gate} {N : Int} (hG : GatesV W W.heap.size V B) (hw : WfN N B) (hp : 0 < B.length) (hlen : B.length ≤ 65536) (hN0 : 0 ≤ N) (hN1 : N ≤ 128) : Calls Tryz.prog 56 #[.agg #[.int .i64 N, V]] W fun e w' => ∃ g, e = .returned (.slice (some ⟨g, 0, none⟩) B.length B.length) ∧ Own Z0 W w' [.blk g 25 (vcells (ownTo B B.length)).toArray] := by
 obtain ⟨b, o, c, rfl, hbW⟩ := zCt hG hp
 have O0 : Own Z0 W W [] := Own.start W
 refine zAu (args := [.agg #[.int .i64 N, .slice (some ⟨b, o, none⟩) B.length c]]) Tryz.func56 rfl rfl (by simp) ?_
 refine zAc fun _ K1 => zAa ?_
 obtain ⟨g2, w3, r4, O5, hg6, hs7⟩ := zA5 O0 39 (.agg #[.int .i64 N, .slice (some ⟨b, o, none⟩) B.length c]) rfl
 refine zAe (v := VP g2) (fun ρ e => r4 ρ _ _ _ _ _ _ (e _ _ rfl)) rfl rfl <| wa rfl rfl rfl <| zAd <| zAb K1 <| zAc fun _ K8 => zAc fun _ K9 => zAa <| zAe (v := .agg #[.int .i64 N, .slice (some ⟨b, o, none⟩) B.length c]) (fun ρ e => zAk (vs := [.int .i64 N, .slice (some ⟨b, o, none⟩) B.length c]) ty39 (e _ _ rfl) rfl (O5.cells 0 0 rfl rfl)) rfl rfl ?_
 refine zAs (args := [.agg #[.int .i64 N, .slice (some ⟨b, o, none⟩) B.length c]]) zJp rfl rfl rfl ?_
 refine (zF3 (zBv hG O5.old) hw hp hlen hN0 hN1).mono ?_
 rintro _ w10 ⟨rfl, hb11⟩
 have O12 := O5.below hb11
 refine ⟨_, rfl, ?_⟩
 refine wc rfl rfl (neq0 (by omega)) rfl rfl <| zAd <| zAb K9 <| zAf rfl <| zAj <| zAb K8 <| zAc fun _ K13 => zAa ?_
 refine wf (q := 1) zCw rfl rfl rfl rfl <| wd ty37 rfl (O12.cell 0 1 rfl rfl) rfl rfl <| wz el37 rfl rfl rfl ?_
 obtain ⟨g14, w15, r16, O17, hg18, hs19⟩ := own_makeV O12 B.length (by omega) (cs := (vcells (padO B 0)).toArray) (by rw [padO_zero])
 refine zAe (v := VS0 g14 B.length B.length) (fun ρ e => r16 ρ _ _ _ _ _ _ _ (e _ _ rfl) (e _ _ rfl)) rfl rfl <| wa rfl rfl rfl <| zAd <| zAb K13 <| zAc fun _ K20 => zAc fun _ K21 => zAa <| wf (q := 1) zCw rfl rfl rfl rfl ?_
 refine wd ty37 rfl (O17.cell 1 1 rfl rfl) rfl rfl <| wz el37 rfl rfl rfl <| wm rfl rfl rfl <| zAd <| zAb K21 <| zAh ?_
 have O22 := (O17.re [0] rfl)
 refine zA8 (ι := Nat) (fun q => [(3, VS0 g14 B.length B.length), (16, .slice (some ⟨b, o, none⟩) B.length c), (17, .int .i64 ((B.length : Nat) : Int)), (18, .int .i64 (q : Int))]) (fun q X => (q ≤ B.length) ∧ Own Z0 W X [.blk g14 25 ((vcells (padO B q)).toArray)]) (fun q => B.length - q) 0 ⟨Nat.zero_le _, O22⟩ ⟨rfl, rfl, rfl, rfl, trivial⟩ (fun q w23 hJ F24 K25 => ?_)
 obtain ⟨i, rfl⟩ : ∃ x, x = q := ⟨_, rfl⟩
 obtain ⟨hi0, O26⟩ := hJ
 try dsimp only at hi0 O26 ⊢
 by_cases hi : i < B.length
 ·skip
  obtain ⟨g, hx⟩ : ∃ g, B[i]? = some g := ⟨B[i], List.getElem?_eq_getElem hi⟩
  obtain ⟨u, q0, q1, q2, hI⟩ := zHa hG hx
  have hok := hw i g hx
  have hil := hI.small
  obtain ⟨A2, c2, rfl⟩ := hI.slice
  refine zAc fun _ K27 => zAa <| wc rfl rfl (lss1 (by omega)) rfl rfl <| zAd <| zAb K27 <| zAc fun _ K28 => zAl rfl <| zAj ?_
  refine zAb K28 <| zAc fun _ K29 => zAh <| zAc fun _ K30 => zAa <| wm rfl rfl rfl <| wi (q := o + i * 3) (i := i) el37 rfl rfl (by omega) (by omega) rfl rfl <| zAe (v := .agg #[.int .i64 g.kind, .int .i64 g.lit, .slice A2 g.inp.length c2]) (fun ρ e => zAk (vs := [.int .i64 g.kind, .int .i64 g.lit, .slice A2 g.inp.length c2]) ty73 (e _ _ rfl) rfl (cells3 ((O26.old.cell (p := ⟨b, o + i * 3, none⟩) hbW).trans q0) ((O26.old.cell (p := ⟨b, o + i * 3 + 1, none⟩) hbW).trans q1) ((O26.old.cell (p := ⟨b, o + i * 3 + 2, none⟩) hbW).trans q2))) rfl rfl ?_
  obtain ⟨g31, w32, r33, O34, hg35, hs36⟩ := zAw O26 73 ze73 rfl
  refine zAe (v := VP g31) (fun ρ e => r33 ρ _ _ _ _ _) rfl rfl <| wa rfl rfl rfl ?_
  obtain ⟨w37, r38, O39, hs40⟩ := zAp (o := 0) (n := 3) O34 ty73 (.agg #[.int .i64 g.kind, .int .i64 g.lit, .slice A2 g.inp.length c2]) _ (cs' := #[.int .i64 g.kind, .int .i64 g.lit, .slice A2 g.inp.length c2]) rfl rfl rfl (Nat.le_of_ble_eq_true rfl) rfl
  refine zAv (fun ρ e => r38 ρ _ _ _ _ _ _ (e _ _ rfl) (e _ _ rfl)) rfl <| nx K30 fun _ K41 => wm rfl rfl rfl <| wm rfl rfl rfl <| wf (q := 1) zCm rfl rfl rfl rfl <| wd ty3 rfl (O39.cell 0 1 rfl rfl) rfl rfl ?_
  refine zAs (args := [.int .i64 g.lit]) in_68 rfl rfl rfl ?_
  refine (zI1 g.lit w37).mono ?_
  rintro _ w42 ⟨rfl, rfl⟩
  refine ⟨_, rfl, ?_⟩
  obtain ⟨g43, w44, r45, O46, hg47, hs48⟩ := zBg O39 el57 ze3 1 [(0, .int .i64 (litVar g.lit))] (cs := #[.int .i64 (litVar g.lit)]) (by decide) (by kernel_rfl)
  refine zAe (v := VS0 g43 1 1) (fun ρ e => r45 ρ _ _ _ _ _ _ (e.parts rfl)) rfl rfl ?_
  refine zAs (args := [VS0 g43 1 1]) in_84 rfl rfl rfl ?_
  refine (vars_of1 (W := w44) ((O46.blk 0 rfl).lt) (O46.cell 0 0 rfl rfl)).mono ?_
  rintro _ w49 ⟨rfl, hb50⟩
  have O51 := O46.below hb50
  refine ⟨_, rfl, ?_⟩
  refine wi (q := i * 2) (i := i) el58 rfl rfl (by omega) (by omega) rfl rfl ?_
  obtain ⟨w52, r53, O54, hs55⟩ := zAp (o := i * 2) (n := 2) (O51.re [2, 0, 1] rfl) ty25 (.agg #[.int .u64 ((VS.empty.with_ (litVar g.lit)).a.toNat : Int), .int .u64 ((VS.empty.with_ (litVar g.lit)).b.toNat : Int)]) _ (cs' := (vcells ((padO B i).set i (partO g (ownTo B i) 0))).toArray) rfl rfl rfl (by simp [zC8, zH5 B (Nat.le_of_lt hi)]; omega) (setV _ i (VS.empty.with_ (litVar g.lit)))
  refine zAv (fun ρ e => r53 ρ _ _ _ _ _ _ (e _ _ rfl) (e _ _ rfl)) rfl <| nx K41 fun _ K56 => wf (q := 2) zB0 rfl rfl rfl rfl <| wd ty57 rfl (O54.cell 2 2 rfl rfl) rfl rfl <| wz el57 rfl rfl rfl <| wm rfl rfl rfl <| zAd <| zAb K56 ?_
  refine zAh ?_
  have O57 := (O54.re [0] rfl)
  refine zA8 (ι := Nat) (fun q => [(3, VS0 g14 B.length B.length), (4, .int .i64 (i : Int)), (16, .slice (some ⟨b, o, none⟩) B.length c), (17, .int .i64 ((B.length : Nat) : Int)), (18, .int .i64 (i : Int)), (32, .slice A2 g.inp.length c2), (33, .int .i64 ((g.inp.length : Nat) : Int)), (34, .int .i64 (q : Int))]) (fun q X => (q ≤ g.inp.length) ∧ Own Z0 W X [.blk g14 25 ((vcells ((padO B i).set i (partO g (ownTo B i) q))).toArray)]) (fun q => g.inp.length - q) 0 ⟨Nat.zero_le _, O57⟩ ⟨rfl, rfl, rfl, rfl, rfl, rfl, rfl, rfl, trivial⟩ (fun q w58 hJ F59 K60 => ?_)
  obtain ⟨k, rfl⟩ : ∃ x, x = q := ⟨_, rfl⟩
  obtain ⟨hk0, O61⟩ := hJ
  try dsimp only at hk0 O61 ⊢
  by_cases hk : k < g.inp.length
  ·skip
   obtain ⟨xv, hk2⟩ : ∃ x, g.inp[k]? = some x := ⟨g.inp[k], List.getElem?_eq_getElem hk⟩
   obtain ⟨hv0, hv1⟩ := hok.1 xv (List.mem_of_getElem? hk2)
   obtain ⟨n, rfl⟩ : ∃ n : Nat, xv = (n : Int) := ⟨xv.toNat, by omega⟩
   obtain ⟨b2, o2, c3, hv⟩ := hI.form (by omega)
   injection hv with hA _ hc3
   subst hA hc3
   refine zAc fun _ K62 => zAa <| wc rfl rfl (lss1 (by omega)) rfl rfl <| zAd <| zAb K62 <| zAc fun _ K63 => zAl rfl <| zAj ?_
   refine zAb K63 <| zAc fun _ K64 => zAh <| zAc fun _ K65 => zAa <| wi (q := o2 + k) (i := k) el57 rfl rfl (by omega) (by omega) rfl rfl <| wd (v := .int .i64 (n : Int)) ty3 rfl ((zBs O61.old hI (fun k hk => hk)).at_ hk2) rfl rfl <| wa rfl rfl rfl ?_
   refine zAd <| zAb K65 ?_
   refine zA1 (fun X => Own Z0 W X [.blk g14 25 ((vcells ((padO B i).set i (partO g (ownTo B i) k))).toArray)]) 12 [(0, 1), (1, 1), (2, 1), (3, 1), (4, 1), (5, 0), (6, 1), (7, 1), (8, 1), (9, 0), (10, 2), (11, 1), (12, 3)] (by kernel_rfl) (by kernel_rfl) (PQ.block (PQ.then_ (PQ.then_ (PQ.block (PQ.block (PQ.then_ (PQ.then_ (PQ.block (PQ.then_ PQ.body))))))))) (O61).drew ?_
   have O66 := O61.drew
   refine tm rfl rfl rfl rfl <| tm rfl rfl rfl rfl <| tm rfl rfl rfl rfl <| tm rfl rfl rfl rfl <| wt1 (v := .pointer (some ⟨g14, i * 2, none⟩)) rfl (fun ρ e W => zA9 (q := i * 2) (i := i) el58 (e _ _ rfl) (e _ _ rfl) (by omega) (by omega)) rfl rfl <| wt0 (v := .agg #[.int .u64 ((partO g (ownTo B i) k).a.toNat : Int), .int .u64 ((partO g (ownTo B i) k).b.toNat : Int)]) rfl (fun ρ e W hW => zAk (vs := [.int .u64 ((partO g (ownTo B i) k).a.toNat : Int), .int .u64 ((partO g (ownTo B i) k).b.toNat : Int)]) ty25 (e _ _ rfl) rfl (cells2 (((hW.blk 0 rfl).cell _).trans (getV0 (padO_self hx))) (((hW.blk 0 rfl).cell _).trans (getV1 (padO_self hx))))) rfl rfl ?_
   refine tm rfl rfl rfl rfl <| tm rfl rfl rfl rfl <| wt1 (v := .pointer (some ⟨g14, n * 2, none⟩)) rfl (fun ρ e W => zA9 (q := n * 2) (i := n) el58 (e _ _ rfl) (e _ _ rfl) (by omega) (by omega)) rfl rfl <| wt0 (v := .agg #[.int .u64 ((sv (ownTo B i) (n : Int)).a.toNat : Int), .int .u64 ((sv (ownTo B i) (n : Int)).b.toNat : Int)]) rfl (fun ρ e W hW => zAk (vs := [.int .u64 ((sv (ownTo B i) (n : Int)).a.toNat : Int), .int .u64 ((sv (ownTo B i) (n : Int)).b.toNat : Int)]) ty25 (e _ _ rfl) rfl (cells2 (((hW.blk 0 rfl).cell _).trans (getV0 (padO_kid (by omega) hi))) (((hW.blk 0 rfl).cell _).trans (getV1 (padO_kid (by omega) hi))))) rfl rfl ?_
   refine zA7 (args := [.agg #[.int .u64 ((partO g (ownTo B i) k).a.toNat : Int), .int .u64 ((partO g (ownTo B i) k).b.toNat : Int)], .agg #[.int .u64 ((sv (ownTo B i) (n : Int)).a.toNat : Int), .int .u64 ((sv (ownTo B i) (n : Int)).b.toNat : Int)]]) rfl in_81 rfl rfl rfl ?_
   refine (vars_union (partO g (ownTo B i) k) (sv (ownTo B i) (n : Int)) w58.drew).mono ?_
   rintro _ w67 ⟨rfl, hb68⟩
   have O69 := O66.below hb68
   refine ⟨_, rfl, O69, ?_⟩
   refine wt1 (v := .pointer (some ⟨g14, i * 2, none⟩)) rfl (fun ρ e W => zA9 (q := i * 2) (i := i) el58 (e _ _ rfl) (e _ _ rfl) (by omega) (by omega)) rfl rfl ?_
   obtain ⟨w70, r71, O72, hs73⟩ := zAp (o := i * 2) (n := 2) O69 ty25 (.agg #[.int .u64 (((partO g (ownTo B i) k).union (sv (ownTo B i) (n : Int))).a.toNat : Int), .int .u64 (((partO g (ownTo B i) k).union (sv (ownTo B i) (n : Int))).b.toNat : Int)]) _ (cs' := (vcells ((padO B i).set i (partO g (ownTo B i) (k + 1)))).toArray) rfl rfl rfl (by simp [zC8, zH5 B (Nat.le_of_lt hi)]; omega) ((setV _ i ((partO g (ownTo B i) k).union (sv (ownTo B i) (n : Int)))).trans (by rw [List.set_set, partO_next hk2]))
   refine zBf rfl (fun ρ e => r71 ρ _ _ _ _ _ _ (e _ _ rfl) (e _ _ rfl)) rfl <| zBc <| zAn <| zAb K64 <| zAa <| zAe (v := .int .i64 ((k + 1 : Nat) : Int)) (fun ρ e => zAi (k := .i64) (u := (k : Int)) (v := 1) (e _ _ rfl) (e _ _ rfl) (congrArg some ((congrArg _ (by omega)).trans (zAo (u := ((k + 1 : Nat) : Int)) (by omega) (by omega))))) rfl rfl <| wm rfl rfl rfl <| zAd ?_
   refine zAt K60 (k + 1) (by show g.inp.length - (k + 1) < g.inp.length - k; omega) ⟨(by show k + 1 ≤ g.inp.length; omega), O72⟩ ⟨rfl, rfl, rfl, rfl, rfl, rfl, rfl, rfl, trivial⟩
  ·have hke : k = g.inp.length := by omega
   subst hke
   refine zAc fun _ K74 => zAa <| wc rfl rfl (lss0 (by omega)) rfl rfl <| zAd <| zAb K74 <| zAc fun _ K75 => zAf rfl <| zA6 ?_
   refine zAg (by intro h; cases h) ?_
   refine zAg (by intro h; cases h) ?_
   refine zA4 <| zAn <| zAb K29 <| zAa <| zAe (v := .int .i64 ((i + 1 : Nat) : Int)) (fun ρ e => zAi (k := .i64) (u := (i : Int)) (v := 1) (e _ _ rfl) (e _ _ rfl) (congrArg some ((congrArg _ (by omega)).trans (zAo (u := ((i + 1 : Nat) : Int)) (by omega) (by omega))))) rfl rfl <| wm rfl rfl rfl <| zAd ?_
   have O76 : Own Z0 W w58 [.blk g14 25 ((vcells (padO B (i + 1))).toArray)] := by rw [← padO_next hx]; exact O61
   refine zAt K25 (i + 1) (by show B.length - (i + 1) < B.length - i; omega) ⟨(by show i + 1 ≤ B.length; omega), O76⟩ ⟨rfl, rfl, rfl, rfl, trivial⟩
 ·have hie : i = B.length := by omega
  subst hie
  refine zAc fun _ K77 => zAa <| wc rfl rfl (lss0 (by omega)) rfl rfl <| zAd <| zAb K77 <| zAc fun _ K78 => zAf rfl <| zA6 ?_
  refine zAg (by intro h; cases h) ?_
  refine zAg (by intro h; cases h) ?_
  refine zA4 <| zAb K20 <| zAc fun _ K79 => zAa <| wm rfl rfl rfl <| wa rfl rfl rfl <| zAd <| zAb K79 ?_
  refine zAz ?_
  refine zAy (v := VS0 g14 B.length B.length) (fun T hT => res1 rfl T _ (hT 2 _ rfl)) ?_
  have hpf := padO_all B
  rw [hpf] at O26
  exact ⟨g14, rfl, O26⟩

end Go.Proofs.YtliiclmhpphpmaaGreatDoor
namespace Go.Proofs.YtliiclmhpphpmaaGreatDoor
open Go
def Small (s : VS) : Prop := ∀ v, s.has v = true → v ≤ 6
theorem Small.b {s : VS} (h : Small s) : s.b.toNat = 0 := by
 have : s.b = 0#64 := by
  apply BitVec.eq_of_getLsbD_eq
  intro i hi
  have h2 : s.has ((i : Int) + 65) = false := by rw [Bool.eq_false_iff]; intro q; have := h _ q; omega
  unfold VS.has at h2
  rw [if_neg (by omega), if_pos (by omega), show ((i : Int) + 65).toNat - 65 = i by omega] at h2
  rw [h2]; simp
 rw [this]; rfl
theorem zHe (s : VS) {i : Nat} (hi : i < 64) : s.has ((i : Int) + 1) = s.a.toNat.testBit i := by
 unfold VS.has
 rw [if_pos (by omega), show ((i : Int) + 1).toNat - 1 = i by omega]
 rw [BitVec.testBit_toNat]
theorem Small.a {s : VS} (h : Small s) : s.a.toNat < 64 := by
 refine Nat.lt_pow_two_of_testBit (n := 6) _ (fun i hi => ?_)
 by_cases h64 : i < 64
 ·rw [← zHe s h64, Bool.eq_false_iff]
  intro q
  have := h _ q
  omega
 ·exact Nat.testBit_lt_two_pow (Nat.lt_of_lt_of_le s.a.isLt (Nat.pow_le_pow_right (by decide) (by omega)))
theorem szTo_high {s : VS} {N : Nat} (h : ∀ v, s.has v = true → v ≤ (N : Int)) : ∀ k, szTo s (N + k) = szTo s N
 | 0 => rfl
 | k + 1 => by
  rw [← Nat.add_assoc, zB9, szTo_high h k]
  have : s.has (((N + k : Nat) : Int) + 1) = false := by rw [Bool.eq_false_iff]; intro q; have := h _ q; omega
  rw [this]; rfl
theorem Small.len {s : VS} (h : Small s) : (bitsL s.a.toNat).length = s.sz := by
 unfold VS.sz bitsL
 rw [show 128 = 6 + 122 by rfl, szTo_high (N := 6) h 122, List.length_map, ← List.countP_eq_length_filter]
 unfold szTo
 refine List.countP_congr (fun i hi => ?_)
 rw [zHe s (by have := List.mem_range.1 hi; omega)]
theorem Small.mem {s : VS} (h : Small s) (v : Int) : v ∈ bitsL s.a.toNat ↔ s.has v = true := by
 unfold bitsL
 rw [List.mem_map]
 constructor
 ·rintro ⟨t, ht, rfl⟩
  obtain ⟨h1, h2⟩ := List.mem_filter.1 ht
  have := List.mem_range.1 h1
  rw [zHe s (by omega)]; exact h2
 ·intro hv
  have h1 := VS.has_in hv
  have h2 := h v hv
  refine ⟨v.toNat - 1, List.mem_filter.2 ⟨List.mem_range.2 (by omega), ?_⟩, by omega⟩
  have := zHe s (i := v.toNat - 1) (by omega)
  rw [show ((v.toNat - 1 : Nat) : Int) + 1 = v by omega, hv] at this
  exact this.symm
theorem Small.minus {s t : VS} (h : Small s) : Small (s.minus t) := fun v hv => h v (by rw [VS.has_minus, Bool.and_eq_true] at hv; exact hv.1)
section
variable {N : Nat} {B : List Gate}
theorem zG7 (hw : WfN N B) (hN : N ≤ 6) {i : Int} (hi : inB B i) : Small (own B i) := fun v hv => by
 have := zI0 hw (i.toNat + 1) i (by omega) hi v hv; omega
theorem all_small (hN : N ≤ 6) : Small (VS.all (N : Int)) := fun v hv => by
 rw [VS.has_all] at hv; simp at hv; omega
theorem zGa {i : Nat} {g : Gate} (hx : B[i]? = some g) : gateAt B (i : Int) = g := by
 unfold gateAt; rw [Int.toNat_natCast, List.getD_eq_getElem?_getD, hx]; rfl
theorem zEh {i : Nat} {g : Gate} (hx : B[i]? = some g) : inB B (i : Int) := ⟨by omega, by have := (List.getElem?_eq_some_iff.1 hx).1; omega⟩
theorem pow6 (hN : N ≤ 6) : 2 ^ N ≤ 64 := Nat.pow_le_pow_right (by decide) hN
theorem cc_kid (hw : WfN N B) {i : Nat} {g : Gate} (hx : B[i]? = some g) {x : Int} (hk : x ∈ g.inp) : cc (cntTo B i) x = cntN B x := by
 have h1 := (hw i g hx).1 x hk
 have hi := (List.getElem?_eq_some_iff.1 hx).1
 unfold cntN cc
 rw [zDy B x.toNat i (by omega), zDy B x.toNat B.length (by omega)]
theorem zJq (hw : WfN N B) (hd : DD B) (hN : N ≤ 6) {i : Nat} {g : Gate} (hx : B[i]? = some g) {x : Int} (hk : x ∈ g.inp) : cc (cntTo B i) x ≤ 64 := by
 rw [cc_kid hw hx hk]
 have hin : inB B x := zFn hw (zEh hx) (by rw [zGa hx]; exact hk)
 have h1 := cnt_le hw hd (by omega) hin
 have h2 := zHt hw hin
 exact Nat.le_trans h1 (Nat.le_trans (Nat.pow_le_pow_right (by decide) h2) (pow6 hN))
theorem zDb (hw : WfN N B) (hd : DD B) (hN : N ≤ 6) {i : Nat} {g : Gate} (hx : B[i]? = some g) (h3 : g.kind = 3) (k : Nat) : prodC (cntTo B i) (g.inp.take k) ≤ 64 := by
 have h := prod_le hw hd (show N ≤ 64 by omega) (zEh hx) (by rw [zGa hx]; exact h3) k
 rw [zGa hx] at h
 rw [zE7 (d := cntTo B B.length) (fun y hy => (cc_kid hw hx (List.mem_of_mem_take hy)))]
 exact Nat.le_trans h (pow6 hN)
theorem zDs (hw : WfN N B) (hd : DD B) (hN : N ≤ 6) {i : Nat} {g : Gate} (hx : B[i]? = some g) (h4 : g.kind = 4) (k : Nat) : sumC (ownTo B B.length) (own B (i : Int)) (cntTo B i) (g.inp.take k) ≤ 64 := by
 have h := sum_le hw hd (show N ≤ 64 by omega) (zEh hx) (by rw [zGa hx]; exact h4) k
 rw [zGa hx] at h
 rw [zFz (d := cntTo B B.length) (fun y hy => (cc_kid hw hx (List.mem_of_mem_take hy)))]
 exact Nat.le_trans h (pow6 hN)
theorem wide_small (hw : WfN N B) (hd : DD B) (hN : N ≤ 6) {x : Int} (hin : inB B x) {s : VS} (hs : ∀ v, (own B x).has v = true → s.has v = true) (hsm : Small s) (hsN : s.sz ≤ N) {r : Nat} (hr : r ≤ (s.minus (own B x)).sz) : cntN B x * 2 ^ r ≤ 64 :=
 Nat.le_trans (cnt_wide hw hd (by omega) hin hs hsN hr) (pow6 hN)
theorem zI3 (hw : WfN N B) {i : Nat} {g : Gate} (hx : B[i]? = some g) {x : Int} (hk : x ∈ g.inp) : inB B x ∧ ∀ v, (own B x).has v = true → (own B (i : Int)).has v = true := by
 have h1 : x ∈ (gateAt B (i : Int)).inp := by rw [zGa hx]; exact hk
 exact ⟨zFn hw (zEh hx) h1, zIz hw (zEh hx) h1⟩
theorem zGs {s t : VS} (h : ∀ v, t.has v = true → s.has v = true) : (s.minus t).sz ≤ s.sz := by
 have : (s.minus t).sz + t.sz = s.sz := zDr h 128
 omega
end
def padC (B : List Gate) (i : Nat) : List Nat := cntTo B i ++ List.replicate (B.length - i) 0
theorem padC_zero (B : List Gate) : padC B 0 = List.replicate B.length 0 := rfl
theorem zCn (B : List Gate) {i : Nat} (h : i ≤ B.length) : (padC B i).length = B.length := by unfold padC; rw [List.length_append, zCb, List.length_replicate]; omega
theorem zDc {B : List Gate} {i : Nat} {g : Gate} {m : Nat} (hx : B[i]? = some g) (hm : nodeC g (ownTo B B.length) (own B (i : Int)) (cntTo B i) = m) : (padC B i).set i m = padC B (i + 1) := by
 subst hm
 have hi := (List.getElem?_eq_some_iff.1 hx).1
 unfold padC
 rw [List.set_append_right _ _ (by rw [zCb]; exact Nat.le_refl _), zCb, Nat.sub_self, show B.length - i = (B.length - (i + 1)) + 1 by omega, List.replicate_succ, List.set_cons_zero]
 conv => rhs; unfold cntTo
 rw [hx]
 simp
theorem zG6 {B : List Gate} {i : Nat} {m : Nat} (hi : i < B.length) : ((padC B i).set i m)[i]? = some m := by
 rw [List.getElem?_set, if_pos rfl, if_pos (by rw [zCn B (by omega)]; exact hi)]
theorem zH6 {B : List Gate} {i n : Nat} {m : Nat} (hn : n < i) (hi : i < B.length) : ((padC B i).set i m)[n]? = some (cc (cntTo B i) (n : Int)) := by
 rw [List.getElem?_set, if_neg (by omega)]
 unfold padC cc
 rw [List.getElem?_append_left (by rw [zCb]; exact hn), Int.toNat_natCast, List.getD_eq_getElem?_getD, List.getElem?_eq_getElem (by rw [zCb]; exact hn)]
 rfl
theorem zGo {B : List Gate} {i n : Nat} (hn : n < i) (hi : i ≤ B.length) : (padC B i)[n]? = some (cc (cntTo B i) (n : Int)) := by
 unfold padC cc
 rw [List.getElem?_append_left (by rw [zCb]; exact hn), Int.toNat_natCast, List.getD_eq_getElem?_getD, List.getElem?_eq_getElem (by rw [zCb]; exact hn)]
 rfl
theorem zEw {c : List Nat} {l : List Int} {k : Nat} {x : Int} (hk : l[k]? = some x) : prodC c (l.take (k + 1)) = prodC c (l.take k) * cc c x := by
 rw [List.take_add_one, hk]; exact prodC_snoc c x _
theorem zG0 {o : List VS} {so : VS} {c : List Nat} {l : List Int} {k : Nat} {x : Int} (hk : l[k]? = some x) : sumC o so c (l.take (k + 1)) = sumC o so c (l.take k) + cc c x * 2 ^ (so.minus (sv o x)).sz := by
 rw [List.take_add_one, hk]; exact sumC_snoc o so c x _
end Go.Proofs.YtliiclmhpphpmaaGreatDoor
namespace Go.Proofs.YtliiclmhpphpmaaGreatDoor
open Go Go.RowKit
def cumU (o : List VS) (l : List Int) : VS := l.foldl (fun s k => s.union (sv o k)) VS.empty
theorem cumU_next {o : List VS} {l : List Int} {k : Nat} {x : Int} (hk : l[k]? = some x) : (cumU o (l.take k)).union (sv o x) = cumU o (l.take (k + 1)) := by
 unfold cumU
 rw [List.take_add_one, hk, List.foldl_append]
 rfl
theorem cut_none {s t : VS} (h : ∀ v, ¬ (s.has v = true ∧ t.has v = true)) : VS.cut ⟨s.a, s.b⟩ ⟨t.a, t.b⟩ = VS.empty := VS.ext_has (fun v _ _ => by
 have := h v
 rw [VS.has_empty, VS.eta, VS.eta, VS.has_cut]
 cases h1 : s.has v <;> cases h2 : t.has v <;> simp [h1, h2] at this ⊢)
theorem cumU_apart {B : List Gate} {l : List Int} (hp : l.Pairwise (RA B)) {k : Nat} {x : Int} (hk : l[k]? = some x) : ∀ v, ¬ ((cumU (ownTo B B.length) (l.take k)).has v = true ∧ (sv (ownTo B B.length) x).has v = true) := by
 rintro v ⟨h1, h2⟩
 unfold cumU at h1
 rcases (zHg _ _ _ _).1 h1 with h | ⟨y, hy, h⟩
 ·rw [VS.has_empty] at h; cases h
 ·obtain ⟨j, hj, e⟩ := List.getElem_of_mem hy
  rw [List.length_take] at hj
  obtain ⟨hkl, e2⟩ := List.getElem?_eq_some_iff.1 hk
  have h3 := List.pairwise_iff_getElem.1 hp j k (by omega) hkl (by omega)
  rw [List.getElem_take] at e
  rw [e, e2] at h3
  exact h3 v ⟨h, h2⟩
theorem zB4 {B : List Gate} {n : Nat} (hn : n < B.length) : (ownTo B B.length)[n]? = some (sv (ownTo B B.length) (n : Int)) := by
 unfold sv
 rw [Int.toNat_natCast, List.getD_eq_getElem?_getD, List.getElem?_eq_getElem (by rw [zCf]; exact hn)]
 rfl
theorem set_eq25 (a b : Int) (w : World) : (Op.equalIn 10000 25 (.agg #[.int .u64 a, .int .u64 b]) (.agg #[.int .u64 a, .int .u64 b])).run Tryz.prog w = .ok true w := by
 have h2 : List.range' 0 2 = [0, 1] := rfl
 unfold Op.equalIn
 simp [go_sem, h2]
theorem ex_nesame25 {ρ : Operand → Value} {d : Option Tmp} {t : TypeId} {pos : String} {aft : Array Edge} {gd : Option (Nat × Bool)} {w : World} {x y : Operand} {a b : Int} (hx : ρ x = .agg #[.int .u64 a, .int .u64 b]) (hy : ρ y = .agg #[.int .u64 a, .int .u64 b]) : (execOp ρ ⟨d, .binOp .neq 25 x y 25, t, pos, aft, gd⟩).run Tryz.prog w = .ok (.value (.bool false)) w := by
 have h1 : (eqGuard .neq 25 x y (.agg #[.int .u64 a, .int .u64 b]) (.agg #[.int .u64 a, .int .u64 b])).run Tryz.prog w = .ok () w := by
  have hg : (Tryz.prog.eqGuardType Tryz.prog.depth 25) = false := by kernel_rfl
  simp [eqGuard, hg]
 have h2 : binOp .neq 25 (.agg #[.int .u64 a, .int .u64 b]) (.agg #[.int .u64 a, .int .u64 b]) = (do pure (.bool (!(← Op.equal 25 (.agg #[.int .u64 a, .int .u64 b]) (.agg #[.int .u64 a, .int .u64 b]))))) := rfl
 have h3 : (Op.equal 25 (.agg #[.int .u64 a, .int .u64 b]) (.agg #[.int .u64 a, .int .u64 b])).run Tryz.prog w = .ok true w := set_eq25 a b w
 simp only [execOp, hx, hy, Sem.run_bind, h1, h2, h3, Result.andThen_ok, Sem.run_pure]
 rfl
theorem ndecomp_ {W : World} {V : Value} {B : List Gate} {N : Int} (hG : GatesV W W.heap.size V B) (hw : WfN N B) (hp : 0 < B.length) (hlen : B.length ≤ 65536) (hN0 : 0 ≤ N) (hN1 : N ≤ 128) (hd : DD B) : Calls Tryz.prog 54 #[.agg #[.int .i64 N, V]] W fun e w' => e = .returned (.bool true) ∧ Below W.heap.size W w' := by
 obtain ⟨b, o, c, rfl, hbW⟩ := zCt hG hp
 have O0 : Own Z0 W W [] := Own.start W
 refine zAu (args := [.agg #[.int .i64 N, .slice (some ⟨b, o, none⟩) B.length c]]) Tryz.func54 rfl rfl (by simp) ?_
 refine zAc fun _ K1 => zAa ?_
 obtain ⟨g2, w3, r4, O5, hg6, hs7⟩ := zA5 O0 39 (.agg #[.int .i64 N, .slice (some ⟨b, o, none⟩) B.length c]) rfl
 refine zAe (v := VP g2) (fun ρ e => r4 ρ _ _ _ _ _ _ (e _ _ rfl)) rfl rfl <| wa rfl rfl rfl <| zAd <| zAb K1 <| zAc fun _ K8 => zAc fun _ K9 => zAa <| zAe (v := .agg #[.int .i64 N, .slice (some ⟨b, o, none⟩) B.length c]) (fun ρ e => zAk (vs := [.int .i64 N, .slice (some ⟨b, o, none⟩) B.length c]) ty39 (e _ _ rfl) rfl (O5.cells 0 0 rfl rfl)) rfl rfl ?_
 refine zAs (args := [.agg #[.int .i64 N, .slice (some ⟨b, o, none⟩) B.length c]]) zJp rfl rfl rfl ?_
 refine (zF3 (zBv hG O5.old) hw hp hlen hN0 hN1).mono ?_
 rintro _ w10 ⟨rfl, hb11⟩
 have O12 := O5.below hb11
 refine ⟨_, rfl, ?_⟩
 refine wc rfl rfl (neq0 (by omega)) rfl rfl <| zAd <| zAb K9 <| zAf rfl <| zAj <| zAb K8 <| zAc fun _ K13 => zAa ?_
 refine zAe (v := .agg #[.int .i64 N, .slice (some ⟨b, o, none⟩) B.length c]) (fun ρ e => zAk (vs := [.int .i64 N, .slice (some ⟨b, o, none⟩) B.length c]) ty39 (e _ _ rfl) rfl (O12.cells 0 0 rfl rfl)) rfl rfl ?_
 refine zAs (args := [.agg #[.int .i64 N, .slice (some ⟨b, o, none⟩) B.length c]]) in_56 rfl rfl rfl ?_
 refine (zJh (zBv hG O12.old) hw hp hlen hN0 hN1).mono ?_
 rintro _ w15 ⟨g14, rfl, h16⟩
 have O17 := zBr O12 h16
 refine ⟨_, rfl, ?_⟩
 refine wa rfl rfl rfl <| zAd <| zAb K13 <| zAc fun _ K18 => zAc fun _ K19 => zAa <| wf (q := 1) zCw rfl rfl rfl rfl <| wd ty37 rfl (O17.cell 1 1 rfl rfl) rfl rfl ?_
 refine wz el37 rfl rfl rfl <| wm rfl rfl rfl <| zAd <| zAb K19 <| zAh ?_
 have O20 := (O17.re [0] rfl)
 refine zA8 (ι := Nat) (fun q => [(3, VS0 g14 B.length B.length), (15, .slice (some ⟨b, o, none⟩) B.length c), (16, .int .i64 ((B.length : Nat) : Int)), (17, .int .i64 (q : Int))]) (fun q X => (q ≤ B.length) ∧ Own Z0 W X [.blk g14 25 ((vcells (ownTo B B.length)).toArray)]) (fun q => B.length - q) 0 ⟨Nat.zero_le _, O20⟩ ⟨rfl, rfl, rfl, rfl, trivial⟩ (fun q w21 hJ F22 K23 => ?_)
 obtain ⟨i, rfl⟩ : ∃ x, x = q := ⟨_, rfl⟩
 obtain ⟨hi0, O24⟩ := hJ
 try dsimp only at hi0 O24 ⊢
 by_cases hi : i < B.length
 ·skip
  obtain ⟨g, hx⟩ : ∃ g, B[i]? = some g := ⟨B[i], List.getElem?_eq_getElem hi⟩
  obtain ⟨u, q0, q1, q2, hI⟩ := zHa hG hx
  have hok := hw i g hx
  have hil := hI.small
  obtain ⟨A2, c2, rfl⟩ := hI.slice
  refine zAc fun _ K25 => zAa <| wc rfl rfl (lss1 (by omega)) rfl rfl <| zAd <| zAb K25 <| zAc fun _ K26 => zAl rfl <| zAj ?_
  refine zAb K26 <| zAc fun _ K27 => zAh <| zAc fun _ K28 => zAa <| wi (q := o + i * 3) (i := i) el37 rfl rfl (by omega) (by omega) rfl rfl <| zAe (v := .agg #[.int .i64 g.kind, .int .i64 g.lit, .slice A2 g.inp.length c2]) (fun ρ e => zAk (vs := [.int .i64 g.kind, .int .i64 g.lit, .slice A2 g.inp.length c2]) ty73 (e _ _ rfl) rfl (cells3 ((O24.old.cell (p := ⟨b, o + i * 3, none⟩) hbW).trans q0) ((O24.old.cell (p := ⟨b, o + i * 3 + 1, none⟩) hbW).trans q1) ((O24.old.cell (p := ⟨b, o + i * 3 + 2, none⟩) hbW).trans q2))) rfl rfl ?_
  obtain ⟨g29, w30, r31, O32, hg33, hs34⟩ := zAw O24 73 ze73 rfl
  refine zAe (v := VP g29) (fun ρ e => r31 ρ _ _ _ _ _) rfl rfl ?_
  obtain ⟨w35, r36, O37, hs38⟩ := zAp (o := 0) (n := 3) O32 ty73 (.agg #[.int .i64 g.kind, .int .i64 g.lit, .slice A2 g.inp.length c2]) _ (cs' := #[.int .i64 g.kind, .int .i64 g.lit, .slice A2 g.inp.length c2]) rfl rfl rfl (Nat.le_of_ble_eq_true rfl) rfl
  refine zAv (fun ρ e => r36 ρ _ _ _ _ _ _ (e _ _ rfl) (e _ _ rfl)) rfl <| zAd <| zAb K28 <| zAc fun _ K39 => zAc fun _ K40 => zAa <| wf (q := 0) zBy rfl rfl rfl rfl <| wd ty3 rfl (O37.cell 0 0 rfl rfl) rfl rfl ?_
  by_cases c41 : g.kind ≠ 3
  ·skip
   refine wc rfl rfl (neq1 (by omega)) rfl rfl <| zAd <| zAb K40 <| zAl rfl <| zA6 ?_
   refine zAg (by intro h; cases h) ?_
   refine zA4 <| zAb K27 <| zAa <| zAe (v := .int .i64 ((i + 1 : Nat) : Int)) (fun ρ e => zAi (k := .i64) (u := (i : Int)) (v := 1) (e _ _ rfl) (e _ _ rfl) (congrArg some ((congrArg _ (by omega)).trans (zAo (u := ((i + 1 : Nat) : Int)) (by omega) (by omega))))) rfl rfl <| wm rfl rfl rfl <| zAd ?_
   refine zAt K23 (i + 1) (by show B.length - (i + 1) < B.length - i; omega) ⟨(by show i + 1 ≤ B.length; omega), (O37.re [1] rfl)⟩ ⟨rfl, rfl, rfl, rfl, trivial⟩
  ·skip
   have hk3 : g.kind = 3 := by omega
   refine wc rfl rfl (neq0 (by omega)) rfl rfl <| zAd <| zAb K40 <| zAf rfl <| zAj <| zAb K39 <| zAc fun _ K42 => zAa ?_
   obtain ⟨g43, w44, r45, O46, hg47, hs48⟩ := zAw O37 25 ze25 rfl
   refine zAe (v := VP g43) (fun ρ e => r45 ρ _ _ _ _ _) rfl rfl <| nx K42 fun _ K49 => wf (q := 2) zB0 rfl rfl rfl rfl <| wd ty57 rfl (O46.cell 1 2 rfl rfl) rfl rfl <| wz el57 rfl rfl rfl <| wm rfl rfl rfl <| zAd <| zAb K49 ?_
   refine zAh ?_
   have hdd := (hd i g hx).1
   have O50 := (O46.re [0, 2] rfl)
   refine zA8 (ι := Nat) (fun q => [(3, VS0 g14 B.length B.length), (6, VP g43), (15, .slice (some ⟨b, o, none⟩) B.length c), (16, .int .i64 ((B.length : Nat) : Int)), (17, .int .i64 (i : Int)), (25, .slice A2 g.inp.length c2), (26, .int .i64 ((g.inp.length : Nat) : Int)), (27, .int .i64 (q : Int))]) (fun q X => (q ≤ g.inp.length) ∧ Own Z0 W X [.blk g43 25 #[.int .u64 ((cumU (ownTo B B.length) (g.inp.take q)).a.toNat : Int), .int .u64 ((cumU (ownTo B B.length) (g.inp.take q)).b.toNat : Int)], .blk g14 25 ((vcells (ownTo B B.length)).toArray)]) (fun q => g.inp.length - q) 0 ⟨Nat.zero_le _, O50⟩ ⟨rfl, rfl, rfl, rfl, rfl, rfl, rfl, rfl, trivial⟩ (fun q w51 hJ F52 K53 => ?_)
   obtain ⟨k, rfl⟩ : ∃ x, x = q := ⟨_, rfl⟩
   obtain ⟨hk0, O54⟩ := hJ
   try dsimp only at hk0 O54 ⊢
   by_cases hk : k < g.inp.length
   ·skip
    obtain ⟨xv, hk2⟩ : ∃ x, g.inp[k]? = some x := ⟨g.inp[k], List.getElem?_eq_getElem hk⟩
    obtain ⟨hv0, hv1⟩ := hok.1 xv (List.mem_of_getElem? hk2)
    obtain ⟨n, rfl⟩ : ∃ n : Nat, xv = (n : Int) := ⟨xv.toNat, by omega⟩
    obtain ⟨b2, o2, c3, hv⟩ := hI.form (by omega)
    injection hv with hA _ hc3
    subst hA hc3
    refine zAc fun _ K55 => zAa <| wc rfl rfl (lss1 (by omega)) rfl rfl <| zAd <| zAb K55 <| zAc fun _ K56 => zAl rfl <| zAj ?_
    refine zAb K56 <| zAc fun _ K57 => zAh <| zAc fun _ K58 => zAa <| wi (q := o2 + k) (i := k) el57 rfl rfl (by omega) (by omega) rfl rfl <| wd (v := .int .i64 (n : Int)) ty3 rfl ((zBs O54.old hI (fun k hk => hk)).at_ hk2) rfl rfl <| wa rfl rfl rfl ?_
    refine zAd <| zAb K58 <| zAc fun _ K59 => zAc fun _ K60 => ?_
    refine zA1 (fun X => Own Z0 W X [.blk g43 25 #[.int .u64 ((cumU (ownTo B B.length) (g.inp.take k)).a.toNat : Int), .int .u64 ((cumU (ownTo B B.length) (g.inp.take k)).b.toNat : Int)], .blk g14 25 ((vcells (ownTo B B.length)).toArray)]) 8 [(0, 0), (1, 1), (2, 1), (3, 1), (4, 0), (6, 1), (5, 2), (7, 1)] (by kernel_rfl) (by kernel_rfl) (PQ.then_ (PQ.then_ (PQ.block (PQ.then_ (PQ.then_ (PQ.block (PQ.block (PQ.then_ (PQ.then_ (PQ.block (PQ.then_ PQ.body))))))))))) (O54).drew ?_
    have O61 := O54.drew
    refine wt0 (v := .agg #[.int .u64 ((cumU (ownTo B B.length) (g.inp.take k)).a.toNat : Int), .int .u64 ((cumU (ownTo B B.length) (g.inp.take k)).b.toNat : Int)]) rfl (fun ρ e W hW => zAk (vs := [.int .u64 ((cumU (ownTo B B.length) (g.inp.take k)).a.toNat : Int), .int .u64 ((cumU (ownTo B B.length) (g.inp.take k)).b.toNat : Int)]) ty25 (e _ _ rfl) rfl (hW.cells 0 0 rfl rfl)) rfl rfl <| tm rfl rfl rfl rfl <| tm rfl rfl rfl rfl <| wt1 (v := .pointer (some ⟨g14, n * 2, none⟩)) rfl (fun ρ e W => zA9 (q := n * 2) (i := n) el58 (e _ _ rfl) (e _ _ rfl) (by omega) (by omega)) rfl rfl <| wt0 (v := .agg #[.int .u64 ((sv (ownTo B B.length) (n : Int)).a.toNat : Int), .int .u64 ((sv (ownTo B B.length) (n : Int)).b.toNat : Int)]) rfl (fun ρ e W hW => zAk (vs := [.int .u64 ((sv (ownTo B B.length) (n : Int)).a.toNat : Int), .int .u64 ((sv (ownTo B B.length) (n : Int)).b.toNat : Int)]) ty25 (e _ _ rfl) rfl (cells2 (((hW.blk 1 rfl).cell _).trans (getV0 (zB4 (by omega)))) (((hW.blk 1 rfl).cell _).trans (getV1 (zB4 (by omega)))))) rfl rfl ?_
    refine wt1 (v := .agg #[.int .u64 0, .int .u64 0]) rfl (fun ρ e W => zBl (cells := #[.int .u64 0, .int .u64 0]) ar25 (e.parts rfl) rfl) rfl rfl ?_
    refine zA7 (args := [.agg #[.int .u64 ((cumU (ownTo B B.length) (g.inp.take k)).a.toNat : Int), .int .u64 ((cumU (ownTo B B.length) (g.inp.take k)).b.toNat : Int)], .agg #[.int .u64 ((sv (ownTo B B.length) (n : Int)).a.toNat : Int), .int .u64 ((sv (ownTo B B.length) (n : Int)).b.toNat : Int)]]) rfl in_80 rfl rfl rfl ?_
    have hc62 : Calls Tryz.prog 80 #[.agg #[.int .u64 ((cumU (ownTo B B.length) (g.inp.take k)).a.toNat : Int), .int .u64 ((cumU (ownTo B B.length) (g.inp.take k)).b.toNat : Int)], .agg #[.int .u64 ((sv (ownTo B B.length) (n : Int)).a.toNat : Int), .int .u64 ((sv (ownTo B B.length) (n : Int)).b.toNat : Int)]] w51.drew (fun e w' => e = .returned (.agg #[.int .u64 0, .int .u64 0]) ∧ Below w51.drew.heap.size w51.drew w') := by
     have h := vars_cut (cumU (ownTo B B.length) (g.inp.take k)).a (cumU (ownTo B B.length) (g.inp.take k)).b (sv (ownTo B B.length) (n : Int)).a (sv (ownTo B B.length) (n : Int)).b w51.drew
     rw [show VS.cut ⟨(cumU (ownTo B B.length) (g.inp.take k)).a, (cumU (ownTo B B.length) (g.inp.take k)).b⟩ ⟨(sv (ownTo B B.length) (n : Int)).a, (sv (ownTo B B.length) (n : Int)).b⟩ = VS.empty from cut_none (cumU_apart (hdd hk3) hk2)] at h
     exact h
    refine hc62.mono ?_
    rintro _ w63 ⟨rfl, hb64⟩
    have O65 := O61.below hb64
    refine ⟨_, rfl, O65, ?_⟩
    refine wt1 (v := .bool false) rfl (fun ρ e W => ex_nesame25 (e _ _ rfl) (e _ _ rfl)) rfl rfl <| zBc <| zAb K60 <| zAf rfl <| zAj <| zAb K59 ?_
    refine zA1 (fun X => Own Z0 W X [.blk g43 25 #[.int .u64 ((cumU (ownTo B B.length) (g.inp.take k)).a.toNat : Int), .int .u64 ((cumU (ownTo B B.length) (g.inp.take k)).b.toNat : Int)], .blk g14 25 ((vcells (ownTo B B.length)).toArray)]) 6 [(0, 0), (1, 1), (2, 1), (3, 1), (4, 0), (5, 2), (6, 3)] (by kernel_rfl) (by kernel_rfl) (PQ.block (PQ.then_ (PQ.then_ (PQ.block (PQ.block (PQ.then_ (PQ.then_ (PQ.block (PQ.then_ PQ.body))))))))) (O65).drew ?_
    have O66 := O65.drew
    refine wt0 (v := .agg #[.int .u64 ((cumU (ownTo B B.length) (g.inp.take k)).a.toNat : Int), .int .u64 ((cumU (ownTo B B.length) (g.inp.take k)).b.toNat : Int)]) rfl (fun ρ e W hW => zAk (vs := [.int .u64 ((cumU (ownTo B B.length) (g.inp.take k)).a.toNat : Int), .int .u64 ((cumU (ownTo B B.length) (g.inp.take k)).b.toNat : Int)]) ty25 (e _ _ rfl) rfl (hW.cells 0 0 rfl rfl)) rfl rfl <| tm rfl rfl rfl rfl <| tm rfl rfl rfl rfl <| wt1 (v := .pointer (some ⟨g14, n * 2, none⟩)) rfl (fun ρ e W => zA9 (q := n * 2) (i := n) el58 (e _ _ rfl) (e _ _ rfl) (by omega) (by omega)) rfl rfl <| wt0 (v := .agg #[.int .u64 ((sv (ownTo B B.length) (n : Int)).a.toNat : Int), .int .u64 ((sv (ownTo B B.length) (n : Int)).b.toNat : Int)]) rfl (fun ρ e W hW => zAk (vs := [.int .u64 ((sv (ownTo B B.length) (n : Int)).a.toNat : Int), .int .u64 ((sv (ownTo B B.length) (n : Int)).b.toNat : Int)]) ty25 (e _ _ rfl) rfl (cells2 (((hW.blk 1 rfl).cell _).trans (getV0 (zB4 (by omega)))) (((hW.blk 1 rfl).cell _).trans (getV1 (zB4 (by omega)))))) rfl rfl ?_
    refine zA7 (args := [.agg #[.int .u64 ((cumU (ownTo B B.length) (g.inp.take k)).a.toNat : Int), .int .u64 ((cumU (ownTo B B.length) (g.inp.take k)).b.toNat : Int)], .agg #[.int .u64 ((sv (ownTo B B.length) (n : Int)).a.toNat : Int), .int .u64 ((sv (ownTo B B.length) (n : Int)).b.toNat : Int)]]) rfl in_81 rfl rfl rfl ?_
    refine (vars_union (cumU (ownTo B B.length) (g.inp.take k)) (sv (ownTo B B.length) (n : Int)) w63.drew).mono ?_
    rintro _ w67 ⟨rfl, hb68⟩
    have O69 := O66.below hb68
    refine ⟨_, rfl, O69, ?_⟩
    obtain ⟨w70, r71, O72, hs73⟩ := zAp (o := 0) (n := 2) O69 ty25 (.agg #[.int .u64 (((cumU (ownTo B B.length) (g.inp.take k)).union (sv (ownTo B B.length) (n : Int))).a.toNat : Int), .int .u64 (((cumU (ownTo B B.length) (g.inp.take k)).union (sv (ownTo B B.length) (n : Int))).b.toNat : Int)]) _ (cs' := #[.int .u64 (((cumU (ownTo B B.length) (g.inp.take k)).union (sv (ownTo B B.length) (n : Int))).a.toNat : Int), .int .u64 (((cumU (ownTo B B.length) (g.inp.take k)).union (sv (ownTo B B.length) (n : Int))).b.toNat : Int)]) rfl rfl rfl (Nat.le_of_ble_eq_true rfl) rfl
    refine zBf rfl (fun ρ e => r71 ρ _ _ _ _ _ _ (e _ _ rfl) (e _ _ rfl)) rfl <| zBc <| zAn <| zAb K57 <| zAa <| zAe (v := .int .i64 ((k + 1 : Nat) : Int)) (fun ρ e => zAi (k := .i64) (u := (k : Int)) (v := 1) (e _ _ rfl) (e _ _ rfl) (congrArg some ((congrArg _ (by omega)).trans (zAo (u := ((k + 1 : Nat) : Int)) (by omega) (by omega))))) rfl rfl <| wm rfl rfl rfl <| zAd ?_
    have O74 : Own Z0 W w70 [.blk g43 25 #[.int .u64 ((cumU (ownTo B B.length) (g.inp.take (k + 1))).a.toNat : Int), .int .u64 ((cumU (ownTo B B.length) (g.inp.take (k + 1))).b.toNat : Int)], .blk g14 25 ((vcells (ownTo B B.length)).toArray)] := by rw [← cumU_next hk2]; exact O72
    refine zAt K53 (k + 1) (by show g.inp.length - (k + 1) < g.inp.length - k; omega) ⟨(by show k + 1 ≤ g.inp.length; omega), O74⟩ ⟨rfl, rfl, rfl, rfl, rfl, rfl, rfl, rfl, trivial⟩
   ·skip
    refine zAc fun _ K75 => zAa <| wc rfl rfl (lss0 (by omega)) rfl rfl <| zAd <| zAb K75 <| zAc fun _ K76 => zAf rfl <| zA6 ?_
    refine zAg (by intro h; cases h) ?_
    refine zAg (by intro h; cases h) ?_
    refine zA4 <| zAn <| zAb K27 <| zAa <| zAe (v := .int .i64 ((i + 1 : Nat) : Int)) (fun ρ e => zAi (k := .i64) (u := (i : Int)) (v := 1) (e _ _ rfl) (e _ _ rfl) (congrArg some ((congrArg _ (by omega)).trans (zAo (u := ((i + 1 : Nat) : Int)) (by omega) (by omega))))) rfl rfl <| wm rfl rfl rfl <| zAd ?_
    refine zAt K23 (i + 1) (by show B.length - (i + 1) < B.length - i; omega) ⟨(by show i + 1 ≤ B.length; omega), (O54.re [1] rfl)⟩ ⟨rfl, rfl, rfl, rfl, trivial⟩
 ·have hie : i = B.length := by omega
  subst hie
  refine zAc fun _ K77 => zAa <| wc rfl rfl (lss0 (by omega)) rfl rfl <| zAd <| zAb K77 <| zAc fun _ K78 => zAf rfl <| zA6 ?_
  refine zAg (by intro h; cases h) ?_
  refine zAg (by intro h; cases h) ?_
  refine zA4 <| zAb K18 <| zAc fun _ K79 => zAa <| wa rfl rfl rfl <| zAd <| zAb K79 <| zAz ?_
  refine zAy (v := .bool true) (fun T hT => res1 rfl T _ (hT 2 _ rfl)) ?_
  exact ⟨rfl, O24.old⟩

end Go.Proofs.YtliiclmhpphpmaaGreatDoor
namespace Go.Proofs.YtliiclmhpphpmaaGreatDoor
open Go Go.RowKit
def TabE (k : Nat) : Prop := k = 0
theorem zB7 {w : World} (h : TabT w) : (En.ro TabE TabT).holds w := by
 refine ⟨h, fun k hk => ?_, fun w1 w2 _ hk h => fun t ht => (zDf (hk 0 rfl)).trans (h t ht)⟩
 have h0 := h 0 (by decide)
 unfold TabE at hk
 subst hk
 unfold World.cell? at h0
 rcases Nat.lt_or_ge 0 w.heap.size with h1 | h1
 ·exact h1
 ·have e : w.heap[0]? = none := Array.getElem?_eq_none h1
  dsimp only at h0
  rw [e] at h0
  cases h0
theorem Own.newrow1 {Z : Bool → Nat → Prop} {w0 W w' : World} {L : List En} {v : Value} {T : TypeId} {sz n : Nat} {xs : List Value} (O : Own Z w0 W L) (hr : w'.ownsRow W.heap.size T sz v n xs) (hb : Below W.heap.size W w') : Own Z w0 w' (.row v T sz n xs :: L) :=
 O.add hb (e := .row v T sz n xs) (row_zero hr) (fun k hk => (hr.lt k hk).1)
theorem zFk {Z : Bool → Nat → Prop} {w0 W w' : World} {L : List En} {v : Value} {T : TypeId} {sz n : Nat} {xs : List Value} (O : Own Z w0 W L) (h : Own Z0 W w' [.row v T sz n xs]) : Own Z w0 w' (.row v T sz n xs :: L) := O.newrow1 (h.newrow 0 rfl) h.old
theorem members_ {W : World} (x0 : Nat) : Calls Tryz.prog 86 #[.agg #[.int .u64 (x0 : Int), .int .u64 0]] W fun e w' => ∃ g, e = .returned (.func (.func 101) #[] #[.pointer (some ⟨g, 0, none⟩)]) ∧ Own Z0 W w' [.blk g 25 #[.int .u64 (x0 : Int), .int .u64 0]] := by
 have O0 : Own Z0 W W [] := Own.start W
 refine zAu (args := [.agg #[.int .u64 (x0 : Int), .int .u64 0]]) Tryz.func86 rfl rfl (by simp) ?_
 refine zAc fun _ K1 => zAa ?_
 obtain ⟨g2, w3, r4, O5, hg6, hs7⟩ := zA5 O0 25 (.agg #[.int .u64 (x0 : Int), .int .u64 0]) rfl
 refine zAe (v := VP g2) (fun ρ e => r4 ρ _ _ _ _ _ _ (e _ _ rfl)) rfl rfl <| wa rfl rfl rfl <| nx K1 fun _ K8 => zAe (v := .func (.func 101) #[] #[VP g2]) (fun ρ e => zB2 (us := []) (vs := [VP g2]) (e.list rfl) (e.list rfl)) rfl rfl <| wa rfl rfl rfl <| zAd <| zAb K8 <| zAz ?_
 refine zAy (v := .func (.func 101) #[] #[VP g2]) (fun T hT => res1 rfl T _ (hT 2 _ rfl)) ?_
 exact ⟨g2, rfl, O5⟩
theorem collect_ {W : World} {Bn : Nat} (x0 : Nat) (hx0 : x0 < 64) (hBn : Bn < W.heap.size) (hB0 : W.cell? ⟨Bn, 0, none⟩ = some (.int .u64 (x0 : Int))) (hB1 : W.cell? ⟨Bn, 1, none⟩ = some (.int .u64 0)) (hT : TabT W) :
  Calls Tryz.prog 85 #[.func (.func 101) #[] #[.pointer (some ⟨Bn, 0, none⟩)]] W fun e w' => ∃ A c, e = .returned (.slice A (bitsL x0).length c) ∧ Own Z0 W w' [.row (.slice A (bitsL x0).length c) 3 1 (bitsL x0).length (intCs (bitsL x0))] := by
 have O0 : Own Z0 W W [] := Own.start W
 refine zAu (args := [.func (.func 101) #[] #[VP Bn]]) Tryz.func85 rfl rfl (by simp) ?_
 refine zAc fun _ K1 => zAa <| wa rfl rfl rfl <| nx K1 fun _ K2 => wm rfl rfl rfl ?_
 refine zAs (args := [.slice none 0 0, .func (.func 101) #[] #[VP Bn]]) in_100 rfl rfl rfl ?_
 refine (appendSeq_ (W := W) x0 hx0 hBn hB0 hB1 hT).mono ?_
 rintro _ w4 ⟨v3, rfl, hr5, hb6⟩
 obtain ⟨A, c, rfl⟩ := zGp hr5
 have O7 := O0.newrow1 hr5 hb6
 refine ⟨_, rfl, ?_⟩
 refine wa rfl rfl rfl <| zAd <| zAb K2 <| zAz ?_
 refine zAy (v := .slice A ((bitsL x0).length) c) (fun T hT => res1 rfl T _ (hT 2 _ rfl)) ?_
 exact ⟨A, c, rfl, O7⟩
theorem list_ {W : World} (x0 : Nat) (hx0 : x0 < 64) (hT : TabT W) : Calls Tryz.prog 58 #[.agg #[.int .u64 (x0 : Int), .int .u64 0]] W fun e w' => ∃ A c, e = .returned (.slice A (bitsL x0).length c) ∧ Own Z0 W w' [.row (.slice A (bitsL x0).length c) 3 1 (bitsL x0).length (intCs (bitsL x0))] := by
 have O0 := (Own.start W).oldro (D := TabE) (p := TabT) (zB7 hT)
 refine zAu (args := [.agg #[.int .u64 (x0 : Int), .int .u64 0]]) Tryz.func58 rfl rfl (by simp) ?_
 refine zAc fun _ K1 => zAa ?_
 obtain ⟨g2, w3, r4, O5, hg6, hs7⟩ := zA5 O0 25 (.agg #[.int .u64 (x0 : Int), .int .u64 0]) rfl
 refine zAe (v := VP g2) (fun ρ e => r4 ρ _ _ _ _ _ _ (e _ _ rfl)) rfl rfl <| wa rfl rfl rfl <| nx K1 fun _ K8 => zAe (v := .agg #[.int .u64 (x0 : Int), .int .u64 0]) (fun ρ e => zAk (vs := [.int .u64 (x0 : Int), .int .u64 0]) ty25 (e _ _ rfl) rfl (O5.cells 0 0 rfl rfl)) rfl rfl ?_
 refine zAs (args := [.agg #[.int .u64 (x0 : Int), .int .u64 0]]) in_86 rfl rfl rfl ?_
 refine (members_ (W := w3) x0).mono ?_
 rintro _ w10 ⟨g9, rfl, h11⟩
 have O12 := zBr O5 h11
 refine ⟨_, rfl, ?_⟩
 refine zAs (args := [.func (.func 101) #[] #[VP g9]]) in_85 rfl rfl rfl ?_
 refine (collect_ (W := w10) (Bn := g9) x0 hx0 (O12.blk 0 rfl).lt (O12.cell 0 0 rfl rfl) (O12.cell 0 1 rfl rfl) (O12.ro 2 rfl)).mono ?_
 rintro _ w13 ⟨A, c, rfl, h14⟩
 have O15 := zFk O12 h14
 refine ⟨_, rfl, ?_⟩
 refine wa rfl rfl rfl <| zAd <| zAb K8 <| zAz ?_
 refine zAy (v := .slice A ((bitsL x0).length) c) (fun T hT => res1 rfl T _ (hT 2 _ rfl)) ?_
 exact ⟨A, c, rfl, (O15.re [0] rfl)⟩

end Go.Proofs.YtliiclmhpphpmaaGreatDoor
namespace Go.Proofs.YtliiclmhpphpmaaGreatDoor
open Go Go.RowKit
theorem own_copy1 {Z : Bool → Nat → Prop} {w0 w : World} {L : List En} {T e bytes g n c c2 : Nat} {a : Addr} {z v : Value} {cs cs' : Array Value} (O : Own Z w0 w (.blk g e cs :: L)) (E : El T e 1 bytes z) (hn : 1 ≤ n) (hs : 0 < cs.size) (hv : w.cell? a = some v) (h1 : v.oneCell' = true) (hc : cs.setIfInBounds 0 v = cs') :
  ∃ w', (∀ (ρ : Operand → Value) x y d t pos aft gd, ρ x = VS0 g n c → ρ y = .slice (some a) 1 c2 → (execOp ρ ⟨d, .call ⟨.builtin .copy, #[x, y], #[T, T]⟩, t, pos, aft, gd⟩).run Tryz.prog w = .ok (.value (.int .i64 1)) w') ∧ Own Z w0 w' (.blk g e cs' :: L) := by
 subst hc
 obtain ⟨i, hi, hz, hsz, hby⟩ := info_parts E.info
 have hb := O.blk 0 rfl
 have ha : a.add 0 = a := by cases a with | mk b o s => unfold Addr.add; cases s <;> simp
 have hrun : ∀ t, (Builtin.copy_ #[T, T] t #[VS0 g n c, .slice (some a) 1 c2]).run Tryz.prog w = .ok (goInt 1) (w.setCell ⟨g, 0, none⟩ v) := fun t =>
  run_copy_cells (P := Tryz.prog) w T T t e g 0 n c a 1 c2 [v] E.under (by rw [hi]; exact congrArg some hsz) (by show 1 = Nat.min 1 n; exact (Nat.min_eq_left hn).symm) (fun j u hj => by
   cases j with
   | zero =>
    have e : v = u := Option.some.inj hj
    rw [← e, ha]
    exact hv
   | succ j => simp at hj) (fun j hj => by
   have hj2 : j = 0 := Nat.lt_one_iff.1 hj
   have hc := (hb.cell (0 + j)).trans (Array.getElem?_eq_getElem (show 0 + j < cs.size by omega))
   exact Option.isSome_iff_exists.2 ⟨_, hc⟩) (fun j hj => hb.free _) (fun x hx => by rw [List.mem_singleton.1 hx]; exact h1)
 refine ⟨_, fun ρ x y d t pos aft gd hx hy => ?_, O.put 0 v⟩
 simp [execOp, resolve, invoke, builtin, hx, hy, hrun, Result.andThen]
 rfl
theorem zIj {ρ : Operand → Value} {x y : Operand} {d : Option Tmp} {t T e bytes : Nat} {z : Value} {pos : String} {aft : Array Edge} {gd : Option (Nat × Bool)} {w : World} {A B : Option Addr} {n c m c2 : Nat} (E : El T e 1 bytes z) (hx : ρ x = .slice A n c) (hy : ρ y = .slice B m c2) (h : m = 0) :
  (execOp ρ ⟨d, .call ⟨.builtin .copy, #[x, y], #[T, T]⟩, t, pos, aft, gd⟩).run Tryz.prog w = .ok (.value (.int .i64 0)) w := by
 subst h
 obtain ⟨i, hi, hz, hsz, hby⟩ := info_parts E.info
 have hrun := run_copy_none (P := Tryz.prog) w T T t e A B n c 0 c2 E.under (by rw [hi]; exact congrArg some hsz) (Nat.zero_min n)
 simp [execOp, resolve, invoke, builtin, hx, hy, hrun, Result.andThen]
 rfl
theorem add_ {W : World} {a b : Nat} (h : a + b < 256) : Calls Tryz.prog 63 #[.agg #[.string (natB a)], .agg #[.string (natB b)]] W fun e w' => e = .returned (.agg #[.string (natB (a + b))]) ∧ Below W.heap.size W w' := by
 rcases (show (a = 0 ∧ b = 0) ∨ (a = 0 ∧ 0 < b) ∨ (0 < a ∧ b = 0) ∨ (0 < a ∧ 0 < b) by omega) with ⟨ha, hb⟩ | ⟨ha, hb⟩ | ⟨ha, hb⟩ | ⟨ha, hb⟩
 ·skip
  have O0 : Own Z0 W W [] := Own.start W
  refine zAu (args := [.agg #[.string (natB a)], .agg #[.string (natB b)]]) Tryz.func63 rfl rfl (by simp) ?_
  refine zAc fun _ K1 => zAa ?_
  obtain ⟨g2, w3, r4, O5, hg6, hs7⟩ := zA5 O0 43 (.agg #[.string (natB a)]) rfl
  refine zAe (v := VP g2) (fun ρ e => r4 ρ _ _ _ _ _ _ (e _ _ rfl)) rfl rfl ?_
  obtain ⟨g8, w9, r10, O11, hg12, hs13⟩ := zA5 O5 43 (.agg #[.string (natB b)]) rfl
  refine zAe (v := VP g8) (fun ρ e => r10 ρ _ _ _ _ _ _ (e _ _ rfl)) rfl rfl ?_
  obtain ⟨g14, w15, r16, O17, hg18, hs19⟩ := zAw O11 43 ze43 rfl
  refine zAe (v := VP g14) (fun ρ e => r16 ρ _ _ _ _ _) rfl rfl <| zAd <| zAb K1 <| zAc fun _ K20 => ?_
  refine zA1 (fun X => Own Z0 W X [.blk g14 43 #[.string (⟨#[]⟩)], .blk g8 43 #[.string (natB b)], .blk g2 43 #[.string (natB a)]]) 6 [(0, 0), (2, 0), (1, 2), (3, 2), (4, 2), (5, 2)] (by kernel_rfl) (by kernel_rfl) (PQ.then_ PQ.body) (O17).drew ?_
  have O21 := O17.drew
  refine wt0 (v := .agg #[.string (natB a)]) rfl (fun ρ e W hW => zAk (vs := [.string (natB a)]) ty43 (e _ _ rfl) rfl (hW.cells 2 0 rfl rfl)) rfl rfl <| wt0 (v := .agg #[.string (natB b)]) rfl (fun ρ e W hW => zAk (vs := [.string (natB b)]) ty43 (e _ _ rfl) rfl (hW.cells 1 0 rfl rfl)) rfl rfl ?_
  refine zA7 (args := [.agg #[.string (natB a)]]) rfl zE4 rfl rfl rfl ?_
  refine (zEa (m := a) (by omega)).mono ?_
  rintro _ w23 ⟨g22, rfl, O24n⟩
  have O24 := zBr O21 O24n
  refine ⟨_, rfl, (O24.re [1, 2, 3] rfl), ?_⟩
  refine zA7 (args := [.agg #[.string (natB b)]]) rfl zE4 rfl rfl rfl ?_
  refine (zEa (m := b) (by omega)).mono ?_
  rintro _ w26 ⟨g25, rfl, O27n⟩
  have O27 := zBr O24 O27n
  refine ⟨_, rfl, (O27.re [2, 3, 4] rfl), ?_⟩
  refine wt2 (v := VS0 g22 0 0) rfl (fun ρ e => zBb (e _ _ rfl)) rfl rfl (O27.re [2, 3, 4] rfl) ?_
  refine wt2 (v := VS0 g25 0 0) rfl (fun ρ e => zBb (e _ _ rfl)) rfl rfl (O27.re [2, 3, 4] rfl) ?_
  refine zBc <| zAb K20 <| zAc fun _ K28 => zAc fun _ K29 => zAa <| wm rfl rfl rfl <| wz el96 rfl rfl rfl <| wm rfl rfl rfl ?_
  refine wz el96 rfl rfl rfl <| wc rfl rfl (lss0 (by omega)) rfl rfl <| zAd <| zAb K29 <| zAf rfl <| zAj <| zAb K28 <| zAc fun _ K30 => ?_
  refine zAa <| wm rfl rfl rfl <| wz el96 rfl rfl rfl <| zAe (v := .int .i64 1) (fun ρ e => zAi (k := .i64) (u := (0 : Int)) (v := 1) (e _ _ rfl) (e _ _ rfl) (congrArg some (zAo (by omega) (by omega)))) rfl rfl ?_
  obtain ⟨g31, w32, r33, O34, hg35, hs36⟩ := zBo O27 ap96 rfl 1 (by decide) (by omega) (cs := #[.int .u32 0]) rfl
  refine zAe (v := VS0 g31 1 1) (fun ρ e => r33 ρ _ _ _ _ _ _ _ (e _ _ rfl) (e _ _ rfl)) rfl rfl <| wa rfl rfl rfl <| nx K30 fun _ K37 => wm rfl rfl rfl <| wm rfl rfl rfl <| zAe (v := .int .i64 0) (fun ρ e => zIj ap96 (e _ _ rfl) (e _ _ rfl) rfl) rfl rfl <| nx K37 fun _ K38 => wa rfl rfl rfl ?_
  refine zAd <| zAb K38 <| zAc fun _ K39 => zAc fun _ K40 => zAa <| wm rfl rfl rfl <| wz el96 rfl rfl rfl <| wm rfl rfl rfl ?_
  refine zAd <| zAb K40 <| zAh ?_
  have O41 := (O34.re [0, 2, 3] rfl)
  refine zA8 (ι := Nat) (fun q => [(4, VP g14), (5, VS0 g22 0 0), (7, VS0 g31 1 1), (29, .int .i64 (0 : Int)), (30, .int .i64 (q : Int)), (8, .int .u64 (0 : Int))]) (fun q X => (q ≤ 0) ∧ Own Z0 W X [.blk g31 95 #[.int .u32 0], .blk g22 95 #[], .blk g14 43 #[.string (⟨#[]⟩)]]) (fun q => 1 - q) 0 ⟨Nat.le_refl _, O41⟩ ⟨rfl, rfl, rfl, rfl, rfl, rfl, trivial⟩ (fun q w42 hJ F43 K44 => ?_)
  obtain ⟨i, rfl⟩ : ∃ x, x = q := ⟨_, rfl⟩
  obtain ⟨hi0, O45⟩ := hJ
  try dsimp only at hi0 O45 ⊢
  obtain rfl : i = 0 := by omega
  refine zAc fun _ K46 => zAa <| wc rfl rfl (lss0 (by omega)) rfl rfl <| zAd <| zAb K46 <| zAc fun _ K47 => zAf rfl <| zA6 ?_
  refine zAg (by intro h; cases h) ?_
  refine zAg (by intro h; cases h) ?_
  refine zA4 <| zAb K39 <| zAc fun _ K48 => zAa <| wm rfl rfl rfl <| wm rfl rfl rfl <| wz el96 rfl rfl rfl <| wm rfl rfl rfl ?_
  refine zAe (v := .int .u32 (0 : Int)) (fun ρ e => zBq (u := (0 : Int)) (v := (0 : Int)) (e _ _ rfl) (by decide)) rfl rfl <| wi (q := 0) (i := 0) el96 rfl rfl (by omega) (by omega) rfl rfl ?_
  obtain ⟨w49, r50, O51, hs52⟩ := zAp (o := 0) (n := 1) O45 ty95 (.int .u32 (0 : Int)) _ (cs' := #[.int .u32 (0 : Int)]) rfl rfl rfl (Nat.le_of_ble_eq_true rfl) rfl
  refine zAv (fun ρ e => r50 ρ _ _ _ _ _ _ (e _ _ rfl) (e _ _ rfl)) rfl <| nx K48 fun _ K53 => wm rfl rfl rfl ?_
  refine zAs (args := [VS0 g31 1 1]) zHp rfl rfl rfl ?_
  refine (zHq (W := w49) (g := g31) (n := 1) (m := 0) (by omega) (by omega) (by omega) ((O51.blk 0 rfl).lt) (fun j hj => ((O51.blk 0 rfl).cell j).trans (zEs hj))).mono ?_
  rintro _ w54 ⟨rfl, hb55⟩
  have O56 := O51.below hb55
  refine ⟨_, rfl, ?_⟩
  obtain ⟨w57, r58, O59, hs60⟩ := zAp (o := 0) (n := 1) (O56.re [2, 0, 1] rfl) ty43 (.agg #[.string (natB 0)]) _ (cs' := #[.string (natB 0)]) rfl rfl rfl (Nat.le_of_ble_eq_true rfl) rfl
  refine zAv (fun ρ e => r58 ρ _ _ _ _ _ _ (e _ _ rfl) (e _ _ rfl)) rfl <| zAd <| zAb K53 <| zAz ?_
  refine zAy (v := .agg #[.string (natB 0)]) (fun T hT => res1c rfl T _ (hT 4 _ rfl) (zBj (vs := [.string (natB 0)]) ty43 rfl (O59.cells 0 0 rfl rfl))) ?_
  rw [show a + b = 0 by omega]
  exact ⟨rfl, O59.old⟩
 ·skip
  have O0 : Own Z0 W W [] := Own.start W
  refine zAu (args := [.agg #[.string (natB a)], .agg #[.string (natB b)]]) Tryz.func63 rfl rfl (by simp) ?_
  refine zAc fun _ K1 => zAa ?_
  obtain ⟨g2, w3, r4, O5, hg6, hs7⟩ := zA5 O0 43 (.agg #[.string (natB a)]) rfl
  refine zAe (v := VP g2) (fun ρ e => r4 ρ _ _ _ _ _ _ (e _ _ rfl)) rfl rfl ?_
  obtain ⟨g8, w9, r10, O11, hg12, hs13⟩ := zA5 O5 43 (.agg #[.string (natB b)]) rfl
  refine zAe (v := VP g8) (fun ρ e => r10 ρ _ _ _ _ _ _ (e _ _ rfl)) rfl rfl ?_
  obtain ⟨g14, w15, r16, O17, hg18, hs19⟩ := zAw O11 43 ze43 rfl
  refine zAe (v := VP g14) (fun ρ e => r16 ρ _ _ _ _ _) rfl rfl <| zAd <| zAb K1 <| zAc fun _ K20 => ?_
  refine zA1 (fun X => Own Z0 W X [.blk g14 43 #[.string (⟨#[]⟩)], .blk g8 43 #[.string (natB b)], .blk g2 43 #[.string (natB a)]]) 6 [(0, 0), (2, 0), (1, 2), (3, 2), (4, 2), (5, 2)] (by kernel_rfl) (by kernel_rfl) (PQ.then_ PQ.body) (O17).drew ?_
  have O21 := O17.drew
  refine wt0 (v := .agg #[.string (natB a)]) rfl (fun ρ e W hW => zAk (vs := [.string (natB a)]) ty43 (e _ _ rfl) rfl (hW.cells 2 0 rfl rfl)) rfl rfl <| wt0 (v := .agg #[.string (natB b)]) rfl (fun ρ e W hW => zAk (vs := [.string (natB b)]) ty43 (e _ _ rfl) rfl (hW.cells 1 0 rfl rfl)) rfl rfl ?_
  refine zA7 (args := [.agg #[.string (natB a)]]) rfl zE4 rfl rfl rfl ?_
  refine (zEa (m := a) (by omega)).mono ?_
  rintro _ w23 ⟨g22, rfl, O24n⟩
  have O24 := zBr O21 O24n
  refine ⟨_, rfl, (O24.re [1, 2, 3] rfl), ?_⟩
  refine zA7 (args := [.agg #[.string (natB b)]]) rfl zE4 rfl rfl rfl ?_
  refine (zD9 (m := b) (by omega) (by omega)).mono ?_
  rintro _ w26 ⟨g25, rfl, O27n⟩
  have O27 := zBr O24 O27n
  refine ⟨_, rfl, (O27.re [2, 3, 4] rfl), ?_⟩
  refine wt2 (v := VS0 g22 0 0) rfl (fun ρ e => zBb (e _ _ rfl)) rfl rfl (O27.re [2, 3, 4] rfl) ?_
  refine wt2 (v := VS0 g25 1 1) rfl (fun ρ e => zBb (e _ _ rfl)) rfl rfl (O27.re [2, 3, 4] rfl) ?_
  refine zBc <| zAb K20 <| zAc fun _ K28 => zAc fun _ K29 => zAa <| wm rfl rfl rfl <| wz el96 rfl rfl rfl <| wm rfl rfl rfl ?_
  refine wz el96 rfl rfl rfl <| wc rfl rfl (lss1 (by omega)) rfl rfl <| zAd <| zAb K29 <| zAl rfl <| zAa <| wm rfl rfl rfl <| wm rfl rfl rfl ?_
  refine wa rfl rfl rfl <| wa rfl rfl rfl <| nx K28 fun _ K30 => wm rfl rfl rfl <| wz el96 rfl rfl rfl <| zAe (v := .int .i64 2) (fun ρ e => zAi (k := .i64) (u := (1 : Int)) (v := 1) (e _ _ rfl) (e _ _ rfl) (congrArg some (zAo (by omega) (by omega)))) rfl rfl ?_
  obtain ⟨g31, w32, r33, O34, hg35, hs36⟩ := zBo O27 ap96 rfl 2 (by decide) (by omega) (cs := #[.int .u32 0, .int .u32 0]) rfl
  refine zAe (v := VS0 g31 2 2) (fun ρ e => r33 ρ _ _ _ _ _ _ _ (e _ _ rfl) (e _ _ rfl)) rfl rfl <| wa rfl rfl rfl <| nx K30 fun _ K37 => wm rfl rfl rfl <| wm rfl rfl rfl <| zAe (v := .int .i64 0) (fun ρ e => zIj ap96 (e _ _ rfl) (e _ _ rfl) rfl) rfl rfl <| nx K37 fun _ K38 => wa rfl rfl rfl ?_
  refine zAd <| zAb K38 <| zAc fun _ K39 => zAc fun _ K40 => zAa <| wm rfl rfl rfl <| wz el96 rfl rfl rfl <| wm rfl rfl rfl ?_
  refine zAd <| zAb K40 <| zAh ?_
  have O41 := (O34.re [0, 1, 3] rfl)
  refine zA8 (ι := Nat) (fun q => [(4, VP g14), (5, VS0 g25 1 1), (7, VS0 g31 2 2), (29, .int .i64 (1 : Int)), (30, .int .i64 (q : Int)), (8, .int .u64 ((if q = 0 then 0 else 0 : Nat) : Int))]) (fun q X => (q ≤ 1) ∧ Own Z0 W X [.blk g31 95 #[.int .u32 ((if q = 0 then 0 else b : Nat) : Int), .int .u32 0], .blk g25 95 #[.int .u32 (b : Int)], .blk g14 43 #[.string (⟨#[]⟩)]]) (fun q => 1 - q) 0 ⟨Nat.zero_le _, O41⟩ ⟨rfl, rfl, rfl, rfl, rfl, rfl, trivial⟩ (fun q w42 hJ F43 K44 => ?_)
  obtain ⟨i, rfl⟩ : ∃ x, x = q := ⟨_, rfl⟩
  obtain ⟨hi0, O45⟩ := hJ
  try dsimp only at hi0 O45 ⊢
  rcases (show i = 0 ∨ i = 1 by omega) with rfl | rfl
  ·skip
   have O46 := O45
   refine zAc fun _ K47 => zAa <| wc rfl rfl (lss1 (by omega)) rfl rfl <| zAd <| zAb K47 <| zAc fun _ K48 => zAl rfl <| zAj ?_
   refine zAb K48 <| zAc fun _ K49 => zAh <| zAc fun _ K50 => zAa <| wm rfl rfl rfl <| wa rfl rfl rfl <| zAd ?_
   refine zAb K50 <| zAc fun _ K51 => ?_
   refine zA1 (fun X => Own Z0 W X [.blk g31 95 #[.int .u32 0, .int .u32 0], .blk g25 95 #[.int .u32 (b : Int)], .blk g14 43 #[.string (⟨#[]⟩)]]) 13 [(0, 1), (1, 1), (2, 1), (3, 1), (4, 0), (5, 1), (6, 1), (7, 1), (8, 1), (9, 0), (10, 1), (11, 1), (12, 1), (13, 3)] (by kernel_rfl) (by kernel_rfl) (PQ.then_ (PQ.block (PQ.then_ (PQ.then_ (PQ.block (PQ.then_ PQ.body)))))) (O46).drew ?_
   have O52 := O46.drew
   refine tm rfl rfl rfl rfl <| tm rfl rfl rfl rfl <| tm rfl rfl rfl rfl <| wt1 (v := VP g31) rfl (fun ρ e W => zA9 (q := 0) (i := 0) el96 (e _ _ rfl) (e _ _ rfl) (by omega) (by omega)) rfl rfl <| wt0 (v := .int .u32 0) rfl (fun ρ e W hW => zAm ty95 (e _ _ rfl) (hW.cell 0 0 rfl rfl)) rfl rfl <| wt1 (v := .int .u64 0) rfl (fun ρ e W => zB1 (u := 0) (v := 0) (e _ _ rfl) (by decide)) rfl rfl <| tm rfl rfl rfl rfl <| tm rfl rfl rfl rfl ?_
   refine wt1 (v := VP g25) rfl (fun ρ e W => zA9 (q := 0) (i := 0) el96 (e _ _ rfl) (e _ _ rfl) (by omega) (by omega)) rfl rfl <| wt0 (v := .int .u32 (b : Int)) rfl (fun ρ e W hW => zAm ty95 (e _ _ rfl) (hW.cell 1 0 rfl rfl)) rfl rfl <| wt1 (v := .int .u64 (b : Int)) rfl (fun ρ e W => zB1 (u := (b : Int)) (v := (b : Int)) (e _ _ rfl) (zAx (by omega))) rfl rfl <| wt1 (v := .int .u64 (b : Int)) rfl (fun ρ e W => zAi (k := .u64) (u := 0) (v := (b : Int)) (e _ _ rfl) (e _ _ rfl) (congrArg some ((congrArg _ (show _ = (b : Int) by omega)).trans (zAx (by omega))))) rfl rfl ?_
   refine wt1 (v := .int .u64 (b : Int)) rfl (fun ρ e W => zAi (k := .u64) (u := (0 : Int)) (v := (b : Int)) (e _ _ rfl) (e _ _ rfl) (congrArg some ((congrArg _ (show _ = (b : Int) by omega)).trans (zAx (by omega))))) rfl rfl <| wt3 (v := .int .u64 (b : Int)) rfl (fun ρ e => zBb (e _ _ rfl)) rfl rfl <| zBc <| zAb K51 <| zAc fun _ K53 => zAa <| wm rfl rfl rfl <| wm rfl rfl rfl ?_
   refine wm rfl rfl rfl <| zAe (v := .int .u32 (b : Int)) (fun ρ e => zBq (u := (b : Int)) (v := (b : Int)) (e _ _ rfl) (zC1 (by omega))) rfl rfl <| wi (q := 0) (i := 0) el96 rfl rfl (by omega) (by omega) rfl rfl ?_
   obtain ⟨w54, r55, O56, hs57⟩ := zAp (o := 0) (n := 1) O52 ty95 (.int .u32 (b : Int)) _ (cs' := #[.int .u32 (b : Int), .int .u32 0]) rfl rfl rfl (Nat.le_of_ble_eq_true rfl) rfl
   refine zAv (fun ρ e => r55 ρ _ _ _ _ _ _ (e _ _ rfl) (e _ _ rfl)) rfl <| zAd <| zAb K53 <| zAa <| wm rfl rfl rfl <| zAe (v := .int .u64 (0 : Int)) (fun ρ e => zEn (k := .u64) (a := b) (s := 32) (q := 0) (e _ _ rfl) (e _ _ rfl) (by decide) (Nat.div_eq_of_lt (show b < 2 ^ 32 by omega))) rfl rfl <| wa rfl rfl rfl <| zAd ?_
   refine zAn <| zAb K49 <| zAa <| zAe (v := .int .i64 1) (fun ρ e => zAi (k := .i64) (u := 0) (v := 1) (e _ _ rfl) (e _ _ rfl) (congrArg some (zAo (by omega) (by omega)))) rfl rfl <| wm rfl rfl rfl <| zAd ?_
   refine zAt K44 1 (by show 1 - 1 < 1 - 0; omega) ⟨Nat.le_refl _, O56⟩ ⟨rfl, rfl, rfl, rfl, rfl, rfl, trivial⟩
  ·skip
   have O58 := O45
   refine zAc fun _ K59 => zAa <| wc rfl rfl (lss0 (by omega)) rfl rfl <| zAd <| zAb K59 <| zAc fun _ K60 => zAf rfl <| zA6 ?_
   refine zAg (by intro h; cases h) ?_
   refine zAg (by intro h; cases h) ?_
   refine zA4 <| zAb K39 <| zAc fun _ K61 => zAa <| wm rfl rfl rfl <| wm rfl rfl rfl <| wz el96 rfl rfl rfl <| wm rfl rfl rfl ?_
   refine zAe (v := .int .u32 (0 : Int)) (fun ρ e => zBq (u := (0 : Int)) (v := (0 : Int)) (e _ _ rfl) (by decide)) rfl rfl <| wi (q := 1) (i := 1) el96 rfl rfl (by omega) (by omega) rfl rfl ?_
   obtain ⟨w62, r63, O64, hs65⟩ := zAp (o := 1) (n := 1) O58 ty95 (.int .u32 (0 : Int)) _ (cs' := #[.int .u32 (b : Int), .int .u32 (0 : Int)]) rfl rfl rfl (Nat.le_of_ble_eq_true rfl) rfl
   refine zAv (fun ρ e => r63 ρ _ _ _ _ _ _ (e _ _ rfl) (e _ _ rfl)) rfl <| nx K61 fun _ K66 => wm rfl rfl rfl ?_
   refine zAs (args := [VS0 g31 2 2]) zHp rfl rfl rfl ?_
   refine (zHq (W := w62) (g := g31) (n := 2) (m := b) (by omega) (by omega) (by omega) ((O64.blk 0 rfl).lt) (fun j hj => ((O64.blk 0 rfl).cell j).trans (zDp hj))).mono ?_
   rintro _ w67 ⟨rfl, hb68⟩
   have O69 := O64.below hb68
   refine ⟨_, rfl, ?_⟩
   obtain ⟨w70, r71, O72, hs73⟩ := zAp (o := 0) (n := 1) (O69.re [2, 0, 1] rfl) ty43 (.agg #[.string (natB b)]) _ (cs' := #[.string (natB b)]) rfl rfl rfl (Nat.le_of_ble_eq_true rfl) rfl
   refine zAv (fun ρ e => r71 ρ _ _ _ _ _ _ (e _ _ rfl) (e _ _ rfl)) rfl <| zAd <| zAb K66 <| zAz ?_
   refine zAy (v := .agg #[.string (natB b)]) (fun T hT => res1c rfl T _ (hT 4 _ rfl) (zBj (vs := [.string (natB b)]) ty43 rfl (O72.cells 0 0 rfl rfl))) ?_
   rw [show a + b = b by omega]
   exact ⟨rfl, O72.old⟩
 ·skip
  have O0 : Own Z0 W W [] := Own.start W
  refine zAu (args := [.agg #[.string (natB a)], .agg #[.string (natB b)]]) Tryz.func63 rfl rfl (by simp) ?_
  refine zAc fun _ K1 => zAa ?_
  obtain ⟨g2, w3, r4, O5, hg6, hs7⟩ := zA5 O0 43 (.agg #[.string (natB a)]) rfl
  refine zAe (v := VP g2) (fun ρ e => r4 ρ _ _ _ _ _ _ (e _ _ rfl)) rfl rfl ?_
  obtain ⟨g8, w9, r10, O11, hg12, hs13⟩ := zA5 O5 43 (.agg #[.string (natB b)]) rfl
  refine zAe (v := VP g8) (fun ρ e => r10 ρ _ _ _ _ _ _ (e _ _ rfl)) rfl rfl ?_
  obtain ⟨g14, w15, r16, O17, hg18, hs19⟩ := zAw O11 43 ze43 rfl
  refine zAe (v := VP g14) (fun ρ e => r16 ρ _ _ _ _ _) rfl rfl <| zAd <| zAb K1 <| zAc fun _ K20 => ?_
  refine zA1 (fun X => Own Z0 W X [.blk g14 43 #[.string (⟨#[]⟩)], .blk g8 43 #[.string (natB b)], .blk g2 43 #[.string (natB a)]]) 6 [(0, 0), (2, 0), (1, 2), (3, 2), (4, 2), (5, 2)] (by kernel_rfl) (by kernel_rfl) (PQ.then_ PQ.body) (O17).drew ?_
  have O21 := O17.drew
  refine wt0 (v := .agg #[.string (natB a)]) rfl (fun ρ e W hW => zAk (vs := [.string (natB a)]) ty43 (e _ _ rfl) rfl (hW.cells 2 0 rfl rfl)) rfl rfl <| wt0 (v := .agg #[.string (natB b)]) rfl (fun ρ e W hW => zAk (vs := [.string (natB b)]) ty43 (e _ _ rfl) rfl (hW.cells 1 0 rfl rfl)) rfl rfl ?_
  refine zA7 (args := [.agg #[.string (natB a)]]) rfl zE4 rfl rfl rfl ?_
  refine (zD9 (m := a) (by omega) (by omega)).mono ?_
  rintro _ w23 ⟨g22, rfl, O24n⟩
  have O24 := zBr O21 O24n
  refine ⟨_, rfl, (O24.re [1, 2, 3] rfl), ?_⟩
  refine zA7 (args := [.agg #[.string (natB b)]]) rfl zE4 rfl rfl rfl ?_
  refine (zEa (m := b) (by omega)).mono ?_
  rintro _ w26 ⟨g25, rfl, O27n⟩
  have O27 := zBr O24 O27n
  refine ⟨_, rfl, (O27.re [2, 3, 4] rfl), ?_⟩
  refine wt2 (v := VS0 g22 1 1) rfl (fun ρ e => zBb (e _ _ rfl)) rfl rfl (O27.re [2, 3, 4] rfl) ?_
  refine wt2 (v := VS0 g25 0 0) rfl (fun ρ e => zBb (e _ _ rfl)) rfl rfl (O27.re [2, 3, 4] rfl) ?_
  refine zBc <| zAb K20 <| zAc fun _ K28 => zAc fun _ K29 => zAa <| wm rfl rfl rfl <| wz el96 rfl rfl rfl <| wm rfl rfl rfl ?_
  refine wz el96 rfl rfl rfl <| wc rfl rfl (lss0 (by omega)) rfl rfl <| zAd <| zAb K29 <| zAf rfl <| zAj <| zAb K28 <| zAc fun _ K30 => ?_
  refine zAa <| wm rfl rfl rfl <| wz el96 rfl rfl rfl <| zAe (v := .int .i64 2) (fun ρ e => zAi (k := .i64) (u := (1 : Int)) (v := 1) (e _ _ rfl) (e _ _ rfl) (congrArg some (zAo (by omega) (by omega)))) rfl rfl ?_
  obtain ⟨g31, w32, r33, O34, hg35, hs36⟩ := zBo O27 ap96 rfl 2 (by decide) (by omega) (cs := #[.int .u32 0, .int .u32 0]) rfl
  refine zAe (v := VS0 g31 2 2) (fun ρ e => r33 ρ _ _ _ _ _ _ _ (e _ _ rfl) (e _ _ rfl)) rfl rfl <| wa rfl rfl rfl <| nx K30 fun _ K37 => wm rfl rfl rfl <| wm rfl rfl rfl <| zAe (v := .int .i64 0) (fun ρ e => zIj ap96 (e _ _ rfl) (e _ _ rfl) rfl) rfl rfl <| nx K37 fun _ K38 => wa rfl rfl rfl ?_
  refine zAd <| zAb K38 <| zAc fun _ K39 => zAc fun _ K40 => zAa <| wm rfl rfl rfl <| wz el96 rfl rfl rfl <| wm rfl rfl rfl ?_
  refine zAd <| zAb K40 <| zAh ?_
  have O41 := (O34.re [0, 2, 3] rfl)
  refine zA8 (ι := Nat) (fun q => [(4, VP g14), (5, VS0 g22 1 1), (7, VS0 g31 2 2), (29, .int .i64 (1 : Int)), (30, .int .i64 (q : Int)), (8, .int .u64 ((if q = 0 then 0 else 0 : Nat) : Int))]) (fun q X => (q ≤ 1) ∧ Own Z0 W X [.blk g31 95 #[.int .u32 ((if q = 0 then 0 else a : Nat) : Int), .int .u32 0], .blk g22 95 #[.int .u32 (a : Int)], .blk g14 43 #[.string (⟨#[]⟩)]]) (fun q => 1 - q) 0 ⟨Nat.zero_le _, O41⟩ ⟨rfl, rfl, rfl, rfl, rfl, rfl, trivial⟩ (fun q w42 hJ F43 K44 => ?_)
  obtain ⟨i, rfl⟩ : ∃ x, x = q := ⟨_, rfl⟩
  obtain ⟨hi0, O45⟩ := hJ
  try dsimp only at hi0 O45 ⊢
  rcases (show i = 0 ∨ i = 1 by omega) with rfl | rfl
  ·skip
   have O46 := O45
   refine zAc fun _ K47 => zAa <| wc rfl rfl (lss1 (by omega)) rfl rfl <| zAd <| zAb K47 <| zAc fun _ K48 => zAl rfl <| zAj ?_
   refine zAb K48 <| zAc fun _ K49 => zAh <| zAc fun _ K50 => zAa <| wm rfl rfl rfl <| wa rfl rfl rfl <| zAd ?_
   refine zAb K50 <| zAc fun _ K51 => ?_
   refine zA1 (fun X => Own Z0 W X [.blk g31 95 #[.int .u32 0, .int .u32 0], .blk g22 95 #[.int .u32 (a : Int)], .blk g14 43 #[.string (⟨#[]⟩)]]) 13 [(0, 1), (1, 1), (2, 1), (3, 1), (4, 0), (5, 1), (6, 1), (7, 1), (8, 1), (9, 0), (10, 1), (11, 1), (12, 1), (13, 3)] (by kernel_rfl) (by kernel_rfl) (PQ.then_ (PQ.block (PQ.then_ (PQ.then_ (PQ.block (PQ.then_ PQ.body)))))) (O46).drew ?_
   have O52 := O46.drew
   refine tm rfl rfl rfl rfl <| tm rfl rfl rfl rfl <| tm rfl rfl rfl rfl <| wt1 (v := VP g31) rfl (fun ρ e W => zA9 (q := 0) (i := 0) el96 (e _ _ rfl) (e _ _ rfl) (by omega) (by omega)) rfl rfl <| wt0 (v := .int .u32 0) rfl (fun ρ e W hW => zAm ty95 (e _ _ rfl) (hW.cell 0 0 rfl rfl)) rfl rfl <| wt1 (v := .int .u64 0) rfl (fun ρ e W => zB1 (u := 0) (v := 0) (e _ _ rfl) (by decide)) rfl rfl <| tm rfl rfl rfl rfl <| tm rfl rfl rfl rfl ?_
   refine wt1 (v := VP g22) rfl (fun ρ e W => zA9 (q := 0) (i := 0) el96 (e _ _ rfl) (e _ _ rfl) (by omega) (by omega)) rfl rfl <| wt0 (v := .int .u32 (a : Int)) rfl (fun ρ e W hW => zAm ty95 (e _ _ rfl) (hW.cell 1 0 rfl rfl)) rfl rfl <| wt1 (v := .int .u64 (a : Int)) rfl (fun ρ e W => zB1 (u := (a : Int)) (v := (a : Int)) (e _ _ rfl) (zAx (by omega))) rfl rfl <| wt1 (v := .int .u64 (a : Int)) rfl (fun ρ e W => zAi (k := .u64) (u := 0) (v := (a : Int)) (e _ _ rfl) (e _ _ rfl) (congrArg some ((congrArg _ (show _ = (a : Int) by omega)).trans (zAx (by omega))))) rfl rfl ?_
   refine wt1 (v := .int .u64 (a : Int)) rfl (fun ρ e W => zAi (k := .u64) (u := (0 : Int)) (v := (a : Int)) (e _ _ rfl) (e _ _ rfl) (congrArg some ((congrArg _ (show _ = (a : Int) by omega)).trans (zAx (by omega))))) rfl rfl <| wt3 (v := .int .u64 (a : Int)) rfl (fun ρ e => zBb (e _ _ rfl)) rfl rfl <| zBc <| zAb K51 <| zAc fun _ K53 => zAa <| wm rfl rfl rfl <| wm rfl rfl rfl ?_
   refine wm rfl rfl rfl <| zAe (v := .int .u32 (a : Int)) (fun ρ e => zBq (u := (a : Int)) (v := (a : Int)) (e _ _ rfl) (zC1 (by omega))) rfl rfl <| wi (q := 0) (i := 0) el96 rfl rfl (by omega) (by omega) rfl rfl ?_
   obtain ⟨w54, r55, O56, hs57⟩ := zAp (o := 0) (n := 1) O52 ty95 (.int .u32 (a : Int)) _ (cs' := #[.int .u32 (a : Int), .int .u32 0]) rfl rfl rfl (Nat.le_of_ble_eq_true rfl) rfl
   refine zAv (fun ρ e => r55 ρ _ _ _ _ _ _ (e _ _ rfl) (e _ _ rfl)) rfl <| zAd <| zAb K53 <| zAa <| wm rfl rfl rfl <| zAe (v := .int .u64 (0 : Int)) (fun ρ e => zEn (k := .u64) (a := a) (s := 32) (q := 0) (e _ _ rfl) (e _ _ rfl) (by decide) (Nat.div_eq_of_lt (show a < 2 ^ 32 by omega))) rfl rfl <| wa rfl rfl rfl <| zAd ?_
   refine zAn <| zAb K49 <| zAa <| zAe (v := .int .i64 1) (fun ρ e => zAi (k := .i64) (u := 0) (v := 1) (e _ _ rfl) (e _ _ rfl) (congrArg some (zAo (by omega) (by omega)))) rfl rfl <| wm rfl rfl rfl <| zAd ?_
   refine zAt K44 1 (by show 1 - 1 < 1 - 0; omega) ⟨Nat.le_refl _, O56⟩ ⟨rfl, rfl, rfl, rfl, rfl, rfl, trivial⟩
  ·skip
   have O58 := O45
   refine zAc fun _ K59 => zAa <| wc rfl rfl (lss0 (by omega)) rfl rfl <| zAd <| zAb K59 <| zAc fun _ K60 => zAf rfl <| zA6 ?_
   refine zAg (by intro h; cases h) ?_
   refine zAg (by intro h; cases h) ?_
   refine zA4 <| zAb K39 <| zAc fun _ K61 => zAa <| wm rfl rfl rfl <| wm rfl rfl rfl <| wz el96 rfl rfl rfl <| wm rfl rfl rfl ?_
   refine zAe (v := .int .u32 (0 : Int)) (fun ρ e => zBq (u := (0 : Int)) (v := (0 : Int)) (e _ _ rfl) (by decide)) rfl rfl <| wi (q := 1) (i := 1) el96 rfl rfl (by omega) (by omega) rfl rfl ?_
   obtain ⟨w62, r63, O64, hs65⟩ := zAp (o := 1) (n := 1) O58 ty95 (.int .u32 (0 : Int)) _ (cs' := #[.int .u32 (a : Int), .int .u32 (0 : Int)]) rfl rfl rfl (Nat.le_of_ble_eq_true rfl) rfl
   refine zAv (fun ρ e => r63 ρ _ _ _ _ _ _ (e _ _ rfl) (e _ _ rfl)) rfl <| nx K61 fun _ K66 => wm rfl rfl rfl ?_
   refine zAs (args := [VS0 g31 2 2]) zHp rfl rfl rfl ?_
   refine (zHq (W := w62) (g := g31) (n := 2) (m := a) (by omega) (by omega) (by omega) ((O64.blk 0 rfl).lt) (fun j hj => ((O64.blk 0 rfl).cell j).trans (zDp hj))).mono ?_
   rintro _ w67 ⟨rfl, hb68⟩
   have O69 := O64.below hb68
   refine ⟨_, rfl, ?_⟩
   obtain ⟨w70, r71, O72, hs73⟩ := zAp (o := 0) (n := 1) (O69.re [2, 0, 1] rfl) ty43 (.agg #[.string (natB a)]) _ (cs' := #[.string (natB a)]) rfl rfl rfl (Nat.le_of_ble_eq_true rfl) rfl
   refine zAv (fun ρ e => r71 ρ _ _ _ _ _ _ (e _ _ rfl) (e _ _ rfl)) rfl <| zAd <| zAb K66 <| zAz ?_
   refine zAy (v := .agg #[.string (natB a)]) (fun T hT => res1c rfl T _ (hT 4 _ rfl) (zBj (vs := [.string (natB a)]) ty43 rfl (O72.cells 0 0 rfl rfl))) ?_
   rw [show a + b = a by omega]
   exact ⟨rfl, O72.old⟩
 ·skip
  have O0 : Own Z0 W W [] := Own.start W
  refine zAu (args := [.agg #[.string (natB a)], .agg #[.string (natB b)]]) Tryz.func63 rfl rfl (by simp) ?_
  refine zAc fun _ K1 => zAa ?_
  obtain ⟨g2, w3, r4, O5, hg6, hs7⟩ := zA5 O0 43 (.agg #[.string (natB a)]) rfl
  refine zAe (v := VP g2) (fun ρ e => r4 ρ _ _ _ _ _ _ (e _ _ rfl)) rfl rfl ?_
  obtain ⟨g8, w9, r10, O11, hg12, hs13⟩ := zA5 O5 43 (.agg #[.string (natB b)]) rfl
  refine zAe (v := VP g8) (fun ρ e => r10 ρ _ _ _ _ _ _ (e _ _ rfl)) rfl rfl ?_
  obtain ⟨g14, w15, r16, O17, hg18, hs19⟩ := zAw O11 43 ze43 rfl
  refine zAe (v := VP g14) (fun ρ e => r16 ρ _ _ _ _ _) rfl rfl <| zAd <| zAb K1 <| zAc fun _ K20 => ?_
  refine zA1 (fun X => Own Z0 W X [.blk g14 43 #[.string (⟨#[]⟩)], .blk g8 43 #[.string (natB b)], .blk g2 43 #[.string (natB a)]]) 6 [(0, 0), (2, 0), (1, 2), (3, 2), (4, 2), (5, 2)] (by kernel_rfl) (by kernel_rfl) (PQ.then_ PQ.body) (O17).drew ?_
  have O21 := O17.drew
  refine wt0 (v := .agg #[.string (natB a)]) rfl (fun ρ e W hW => zAk (vs := [.string (natB a)]) ty43 (e _ _ rfl) rfl (hW.cells 2 0 rfl rfl)) rfl rfl <| wt0 (v := .agg #[.string (natB b)]) rfl (fun ρ e W hW => zAk (vs := [.string (natB b)]) ty43 (e _ _ rfl) rfl (hW.cells 1 0 rfl rfl)) rfl rfl ?_
  refine zA7 (args := [.agg #[.string (natB a)]]) rfl zE4 rfl rfl rfl ?_
  refine (zD9 (m := a) (by omega) (by omega)).mono ?_
  rintro _ w23 ⟨g22, rfl, O24n⟩
  have O24 := zBr O21 O24n
  refine ⟨_, rfl, (O24.re [1, 2, 3] rfl), ?_⟩
  refine zA7 (args := [.agg #[.string (natB b)]]) rfl zE4 rfl rfl rfl ?_
  refine (zD9 (m := b) (by omega) (by omega)).mono ?_
  rintro _ w26 ⟨g25, rfl, O27n⟩
  have O27 := zBr O24 O27n
  refine ⟨_, rfl, (O27.re [2, 3, 4] rfl), ?_⟩
  refine wt2 (v := VS0 g22 1 1) rfl (fun ρ e => zBb (e _ _ rfl)) rfl rfl (O27.re [2, 3, 4] rfl) ?_
  refine wt2 (v := VS0 g25 1 1) rfl (fun ρ e => zBb (e _ _ rfl)) rfl rfl (O27.re [2, 3, 4] rfl) ?_
  refine zBc <| zAb K20 <| zAc fun _ K28 => zAc fun _ K29 => zAa <| wm rfl rfl rfl <| wz el96 rfl rfl rfl <| wm rfl rfl rfl ?_
  refine wz el96 rfl rfl rfl <| wc rfl rfl (lss0 (by omega)) rfl rfl <| zAd <| zAb K29 <| zAf rfl <| zAj <| zAb K28 <| zAc fun _ K30 => ?_
  refine zAa <| wm rfl rfl rfl <| wz el96 rfl rfl rfl <| zAe (v := .int .i64 2) (fun ρ e => zAi (k := .i64) (u := (1 : Int)) (v := 1) (e _ _ rfl) (e _ _ rfl) (congrArg some (zAo (by omega) (by omega)))) rfl rfl ?_
  obtain ⟨g31, w32, r33, O34, hg35, hs36⟩ := zBo O27 ap96 rfl 2 (by decide) (by omega) (cs := #[.int .u32 0, .int .u32 0]) rfl
  refine zAe (v := VS0 g31 2 2) (fun ρ e => r33 ρ _ _ _ _ _ _ _ (e _ _ rfl) (e _ _ rfl)) rfl rfl <| wa rfl rfl rfl <| nx K30 fun _ K37 => wm rfl rfl rfl <| wm rfl rfl rfl ?_
  obtain ⟨w38, r39, O40⟩ := own_copy1 O34 ap96 (n := 2) (by decide) (Nat.le_of_ble_eq_true rfl) ((O34).cell 1 0 rfl rfl) rfl (cs' := #[.int .u32 (b : Int), .int .u32 0]) rfl
  refine zAe (v := .int .i64 1) (fun ρ e => r39 ρ _ _ _ _ _ _ _ (e _ _ rfl) (e _ _ rfl)) rfl rfl <| nx K37 fun _ K41 => wa rfl rfl rfl <| zAd <| zAb K41 <| zAc fun _ K42 => zAc fun _ K43 => zAa ?_
  refine wm rfl rfl rfl <| wz el96 rfl rfl rfl <| wm rfl rfl rfl <| zAd <| zAb K43 <| zAh ?_
  have O44 := (O40.re [0, 2, 3] rfl)
  refine zA8 (ι := Nat) (fun q => [(4, VP g14), (5, VS0 g22 1 1), (7, VS0 g31 2 2), (29, .int .i64 (1 : Int)), (30, .int .i64 (q : Int)), (8, .int .u64 ((if q = 0 then 0 else 0 : Nat) : Int))]) (fun q X => (q ≤ 1) ∧ Own Z0 W X [.blk g31 95 #[.int .u32 ((if q = 0 then b else b + a : Nat) : Int), .int .u32 0], .blk g22 95 #[.int .u32 (a : Int)], .blk g14 43 #[.string (⟨#[]⟩)]]) (fun q => 1 - q) 0 ⟨Nat.zero_le _, O44⟩ ⟨rfl, rfl, rfl, rfl, rfl, rfl, trivial⟩ (fun q w45 hJ F46 K47 => ?_)
  obtain ⟨i, rfl⟩ : ∃ x, x = q := ⟨_, rfl⟩
  obtain ⟨hi0, O48⟩ := hJ
  try dsimp only at hi0 O48 ⊢
  rcases (show i = 0 ∨ i = 1 by omega) with rfl | rfl
  ·skip
   have O49 := O48
   refine zAc fun _ K50 => zAa <| wc rfl rfl (lss1 (by omega)) rfl rfl <| zAd <| zAb K50 <| zAc fun _ K51 => zAl rfl <| zAj ?_
   refine zAb K51 <| zAc fun _ K52 => zAh <| zAc fun _ K53 => zAa <| wm rfl rfl rfl <| wa rfl rfl rfl <| zAd ?_
   refine zAb K53 <| zAc fun _ K54 => ?_
   refine zA1 (fun X => Own Z0 W X [.blk g31 95 #[.int .u32 (b : Int), .int .u32 0], .blk g22 95 #[.int .u32 (a : Int)], .blk g14 43 #[.string (⟨#[]⟩)]]) 13 [(0, 1), (1, 1), (2, 1), (3, 1), (4, 0), (5, 1), (6, 1), (7, 1), (8, 1), (9, 0), (10, 1), (11, 1), (12, 1), (13, 3)] (by kernel_rfl) (by kernel_rfl) (PQ.then_ (PQ.block (PQ.then_ (PQ.then_ (PQ.block (PQ.then_ PQ.body)))))) (O49).drew ?_
   have O55 := O49.drew
   refine tm rfl rfl rfl rfl <| tm rfl rfl rfl rfl <| tm rfl rfl rfl rfl <| wt1 (v := VP g31) rfl (fun ρ e W => zA9 (q := 0) (i := 0) el96 (e _ _ rfl) (e _ _ rfl) (by omega) (by omega)) rfl rfl <| wt0 (v := .int .u32 (b : Int)) rfl (fun ρ e W hW => zAm ty95 (e _ _ rfl) (hW.cell 0 0 rfl rfl)) rfl rfl <| wt1 (v := .int .u64 (b : Int)) rfl (fun ρ e W => zB1 (u := (b : Int)) (v := (b : Int)) (e _ _ rfl) (zAx (by omega))) rfl rfl <| tm rfl rfl rfl rfl <| tm rfl rfl rfl rfl ?_
   refine wt1 (v := VP g22) rfl (fun ρ e W => zA9 (q := 0) (i := 0) el96 (e _ _ rfl) (e _ _ rfl) (by omega) (by omega)) rfl rfl <| wt0 (v := .int .u32 (a : Int)) rfl (fun ρ e W hW => zAm ty95 (e _ _ rfl) (hW.cell 1 0 rfl rfl)) rfl rfl <| wt1 (v := .int .u64 (a : Int)) rfl (fun ρ e W => zB1 (u := (a : Int)) (v := (a : Int)) (e _ _ rfl) (zAx (by omega))) rfl rfl <| wt1 (v := .int .u64 ((b + a : Nat) : Int)) rfl (fun ρ e W => zAi (k := .u64) (u := (b : Int)) (v := (a : Int)) (e _ _ rfl) (e _ _ rfl) (congrArg some ((congrArg _ (show _ = ((b + a : Nat) : Int) by omega)).trans (zAx (by omega))))) rfl rfl ?_
   refine wt1 (v := .int .u64 ((b + a : Nat) : Int)) rfl (fun ρ e W => zAi (k := .u64) (u := (0 : Int)) (v := ((b + a : Nat) : Int)) (e _ _ rfl) (e _ _ rfl) (congrArg some ((congrArg _ (show _ = ((b + a : Nat) : Int) by omega)).trans (zAx (by omega))))) rfl rfl <| wt3 (v := .int .u64 ((b + a : Nat) : Int)) rfl (fun ρ e => zBb (e _ _ rfl)) rfl rfl <| zBc <| zAb K54 <| zAc fun _ K56 => zAa <| wm rfl rfl rfl <| wm rfl rfl rfl ?_
   refine wm rfl rfl rfl <| zAe (v := .int .u32 ((b + a : Nat) : Int)) (fun ρ e => zBq (u := ((b + a : Nat) : Int)) (v := ((b + a : Nat) : Int)) (e _ _ rfl) (zC1 (by omega))) rfl rfl <| wi (q := 0) (i := 0) el96 rfl rfl (by omega) (by omega) rfl rfl ?_
   obtain ⟨w57, r58, O59, hs60⟩ := zAp (o := 0) (n := 1) O55 ty95 (.int .u32 ((b + a : Nat) : Int)) _ (cs' := #[.int .u32 ((b + a : Nat) : Int), .int .u32 0]) rfl rfl rfl (Nat.le_of_ble_eq_true rfl) rfl
   refine zAv (fun ρ e => r58 ρ _ _ _ _ _ _ (e _ _ rfl) (e _ _ rfl)) rfl <| zAd <| zAb K56 <| zAa <| wm rfl rfl rfl <| zAe (v := .int .u64 (0 : Int)) (fun ρ e => zEn (k := .u64) (a := b + a) (s := 32) (q := 0) (e _ _ rfl) (e _ _ rfl) (by decide) (Nat.div_eq_of_lt (show b + a < 2 ^ 32 by omega))) rfl rfl <| wa rfl rfl rfl <| zAd ?_
   refine zAn <| zAb K52 <| zAa <| zAe (v := .int .i64 1) (fun ρ e => zAi (k := .i64) (u := 0) (v := 1) (e _ _ rfl) (e _ _ rfl) (congrArg some (zAo (by omega) (by omega)))) rfl rfl <| wm rfl rfl rfl <| zAd ?_
   refine zAt K47 1 (by show 1 - 1 < 1 - 0; omega) ⟨Nat.le_refl _, O59⟩ ⟨rfl, rfl, rfl, rfl, rfl, rfl, trivial⟩
  ·skip
   have O61 := O48
   refine zAc fun _ K62 => zAa <| wc rfl rfl (lss0 (by omega)) rfl rfl <| zAd <| zAb K62 <| zAc fun _ K63 => zAf rfl <| zA6 ?_
   refine zAg (by intro h; cases h) ?_
   refine zAg (by intro h; cases h) ?_
   refine zA4 <| zAb K42 <| zAc fun _ K64 => zAa <| wm rfl rfl rfl <| wm rfl rfl rfl <| wz el96 rfl rfl rfl <| wm rfl rfl rfl ?_
   refine zAe (v := .int .u32 (0 : Int)) (fun ρ e => zBq (u := (0 : Int)) (v := (0 : Int)) (e _ _ rfl) (by decide)) rfl rfl <| wi (q := 1) (i := 1) el96 rfl rfl (by omega) (by omega) rfl rfl ?_
   obtain ⟨w65, r66, O67, hs68⟩ := zAp (o := 1) (n := 1) O61 ty95 (.int .u32 (0 : Int)) _ (cs' := #[.int .u32 ((b + a : Nat) : Int), .int .u32 (0 : Int)]) rfl rfl rfl (Nat.le_of_ble_eq_true rfl) rfl
   refine zAv (fun ρ e => r66 ρ _ _ _ _ _ _ (e _ _ rfl) (e _ _ rfl)) rfl <| nx K64 fun _ K69 => wm rfl rfl rfl ?_
   refine zAs (args := [VS0 g31 2 2]) zHp rfl rfl rfl ?_
   refine (zHq (W := w65) (g := g31) (n := 2) (m := b + a) (by omega) (by omega) (by omega) ((O67.blk 0 rfl).lt) (fun j hj => ((O67.blk 0 rfl).cell j).trans (zDp hj))).mono ?_
   rintro _ w70 ⟨rfl, hb71⟩
   have O72 := O67.below hb71
   refine ⟨_, rfl, ?_⟩
   obtain ⟨w73, r74, O75, hs76⟩ := zAp (o := 0) (n := 1) (O72.re [2, 0, 1] rfl) ty43 (.agg #[.string (natB (b + a))]) _ (cs' := #[.string (natB (b + a))]) rfl rfl rfl (Nat.le_of_ble_eq_true rfl) rfl
   refine zAv (fun ρ e => r74 ρ _ _ _ _ _ _ (e _ _ rfl) (e _ _ rfl)) rfl <| zAd <| zAb K69 <| zAz ?_
   refine zAy (v := .agg #[.string (natB (b + a))]) (fun T hT => res1c rfl T _ (hT 4 _ rfl) (zBj (vs := [.string (natB (b + a))]) ty43 rfl (O75.cells 0 0 rfl rfl))) ?_
   rw [show a + b = b + a by omega]
   exact ⟨rfl, O75.old⟩
theorem mul_ {W : World} {a b : Nat} (h : a * b < 256) (ha1 : a < 256) (hb1 : b < 256) : Calls Tryz.prog 64 #[.agg #[.string (natB a)], .agg #[.string (natB b)]] W fun e w' => e = .returned (.agg #[.string (natB (a * b))]) ∧ Below W.heap.size W w' := by
 rcases (show (a = 0 ∧ b = 0) ∨ (a = 0 ∧ 0 < b) ∨ (0 < a ∧ b = 0) ∨ (0 < a ∧ 0 < b) by omega) with ⟨ha, hb⟩ | ⟨ha, hb⟩ | ⟨ha, hb⟩ | ⟨ha, hb⟩
 ·skip
  have O0 : Own Z0 W W [] := Own.start W
  refine zAu (args := [.agg #[.string (natB a)], .agg #[.string (natB b)]]) Tryz.func64 rfl rfl (by simp) ?_
  refine zAc fun _ K1 => zAa ?_
  obtain ⟨g2, w3, r4, O5, hg6, hs7⟩ := zA5 O0 43 (.agg #[.string (natB a)]) rfl
  refine zAe (v := VP g2) (fun ρ e => r4 ρ _ _ _ _ _ _ (e _ _ rfl)) rfl rfl ?_
  obtain ⟨g8, w9, r10, O11, hg12, hs13⟩ := zA5 O5 43 (.agg #[.string (natB b)]) rfl
  refine zAe (v := VP g8) (fun ρ e => r10 ρ _ _ _ _ _ _ (e _ _ rfl)) rfl rfl ?_
  obtain ⟨g14, w15, r16, O17, hg18, hs19⟩ := zAw O11 43 ze43 rfl
  refine zAe (v := VP g14) (fun ρ e => r16 ρ _ _ _ _ _) rfl rfl <| zAd <| zAb K1 <| zAc fun _ K20 => ?_
  refine zA1 (fun X => Own Z0 W X [.blk g14 43 #[.string (⟨#[]⟩)], .blk g8 43 #[.string (natB b)], .blk g2 43 #[.string (natB a)]]) 6 [(0, 0), (2, 0), (1, 2), (3, 2), (4, 2), (5, 2)] (by kernel_rfl) (by kernel_rfl) (PQ.then_ PQ.body) (O17).drew ?_
  have O21 := O17.drew
  refine wt0 (v := .agg #[.string (natB a)]) rfl (fun ρ e W hW => zAk (vs := [.string (natB a)]) ty43 (e _ _ rfl) rfl (hW.cells 2 0 rfl rfl)) rfl rfl <| wt0 (v := .agg #[.string (natB b)]) rfl (fun ρ e W hW => zAk (vs := [.string (natB b)]) ty43 (e _ _ rfl) rfl (hW.cells 1 0 rfl rfl)) rfl rfl ?_
  refine zA7 (args := [.agg #[.string (natB a)]]) rfl zE4 rfl rfl rfl ?_
  refine (zEa (m := a) (by omega)).mono ?_
  rintro _ w23 ⟨g22, rfl, O24n⟩
  have O24 := zBr O21 O24n
  refine ⟨_, rfl, (O24.re [1, 2, 3] rfl), ?_⟩
  refine zA7 (args := [.agg #[.string (natB b)]]) rfl zE4 rfl rfl rfl ?_
  refine (zEa (m := b) (by omega)).mono ?_
  rintro _ w26 ⟨g25, rfl, O27n⟩
  have O27 := zBr O24 O27n
  refine ⟨_, rfl, (O27.re [2, 3, 4] rfl), ?_⟩
  refine wt2 (v := VS0 g22 0 0) rfl (fun ρ e => zBb (e _ _ rfl)) rfl rfl (O27.re [2, 3, 4] rfl) ?_
  refine wt2 (v := VS0 g25 0 0) rfl (fun ρ e => zBb (e _ _ rfl)) rfl rfl (O27.re [2, 3, 4] rfl) ?_
  refine zBc <| zAb K20 <| zAc fun _ K28 => zAa <| wm rfl rfl rfl <| wz el96 rfl rfl rfl <| wm rfl rfl rfl <| wz el96 rfl rfl rfl ?_
  refine zAe (v := .int .i64 0) (fun ρ e => zAi (k := .i64) (u := (0 : Int)) (v := (0 : Int)) (e _ _ rfl) (e _ _ rfl) (congrArg some (zAo (by omega) (by omega)))) rfl rfl ?_
  obtain ⟨g29, w30, r31, O32, hg33, hs34⟩ := zBo O27 ap96 rfl 0 (by decide) (by omega) (cs := #[]) rfl
  refine zAe (v := VS0 g29 0 0) (fun ρ e => r31 ρ _ _ _ _ _ _ _ (e _ _ rfl) (e _ _ rfl)) rfl rfl <| wa rfl rfl rfl <| zAd <| zAb K28 <| zAc fun _ K35 => zAc fun _ K36 => zAa <| wm rfl rfl rfl ?_
  refine wz el96 rfl rfl rfl <| wm rfl rfl rfl <| zAd <| zAb K36 <| zAh ?_
  have O37 := (O32.re [0, 2, 1, 3] rfl)
  refine zA8 (ι := Nat) (fun q => [(4, VP g14), (5, VS0 g22 0 0), (6, VS0 g25 0 0), (7, VS0 g29 0 0), (22, VS0 g22 0 0), (23, .int .i64 (0 : Int)), (24, .int .i64 (q : Int))]) (fun q X => (q ≤ 0) ∧ Own Z0 W X [.blk g29 95 #[], .blk g22 95 #[], .blk g25 95 #[], .blk g14 43 #[.string (⟨#[]⟩)]]) (fun q => 1 - q) 0 ⟨Nat.le_refl _, O37⟩ ⟨rfl, rfl, rfl, rfl, rfl, rfl, rfl, trivial⟩ (fun q w38 hJ F39 K40 => ?_)
  obtain ⟨i, rfl⟩ : ∃ x, x = q := ⟨_, rfl⟩
  obtain ⟨hi0, O41⟩ := hJ
  try dsimp only at hi0 O41 ⊢
  obtain rfl : i = 0 := by omega
  refine zAc fun _ K42 => zAa <| wc rfl rfl (lss0 (by omega)) rfl rfl <| zAd <| zAb K42 <| zAc fun _ K43 => zAf rfl <| zA6 ?_
  refine zAg (by intro h; cases h) ?_
  refine zAg (by intro h; cases h) ?_
  refine zA4 <| zAb K35 <| zAc fun _ K44 => zAa <| wm rfl rfl rfl ?_
  refine zAs (args := [VS0 g29 0 0]) zHp rfl rfl rfl ?_
  refine (zHq (W := w38) (g := g29) (n := 0) (m := 0) (by omega) (by omega) (by omega) ((O41.blk 0 rfl).lt) (fun j hj => ((O41.blk 0 rfl).cell j).trans (words_get0 hj))).mono ?_
  rintro _ w45 ⟨rfl, hb46⟩
  have O47 := O41.below hb46
  refine ⟨_, rfl, ?_⟩
  obtain ⟨w48, r49, O50, hs51⟩ := zAp (o := 0) (n := 1) (O47.re [3, 0, 1, 2] rfl) ty43 (.agg #[.string (natB 0)]) _ (cs' := #[.string (natB 0)]) rfl rfl rfl (Nat.le_of_ble_eq_true rfl) rfl
  refine zAv (fun ρ e => r49 ρ _ _ _ _ _ _ (e _ _ rfl) (e _ _ rfl)) rfl <| zAd <| zAb K44 <| zAz ?_
  refine zAy (v := .agg #[.string (natB 0)]) (fun T hT => res1c rfl T _ (hT 4 _ rfl) (zBj (vs := [.string (natB 0)]) ty43 rfl (O50.cells 0 0 rfl rfl))) ?_
  rw [show a * b = 0 by rw [ha]; simp]
  exact ⟨rfl, O50.old⟩
 ·skip
  have O0 : Own Z0 W W [] := Own.start W
  refine zAu (args := [.agg #[.string (natB a)], .agg #[.string (natB b)]]) Tryz.func64 rfl rfl (by simp) ?_
  refine zAc fun _ K1 => zAa ?_
  obtain ⟨g2, w3, r4, O5, hg6, hs7⟩ := zA5 O0 43 (.agg #[.string (natB a)]) rfl
  refine zAe (v := VP g2) (fun ρ e => r4 ρ _ _ _ _ _ _ (e _ _ rfl)) rfl rfl ?_
  obtain ⟨g8, w9, r10, O11, hg12, hs13⟩ := zA5 O5 43 (.agg #[.string (natB b)]) rfl
  refine zAe (v := VP g8) (fun ρ e => r10 ρ _ _ _ _ _ _ (e _ _ rfl)) rfl rfl ?_
  obtain ⟨g14, w15, r16, O17, hg18, hs19⟩ := zAw O11 43 ze43 rfl
  refine zAe (v := VP g14) (fun ρ e => r16 ρ _ _ _ _ _) rfl rfl <| zAd <| zAb K1 <| zAc fun _ K20 => ?_
  refine zA1 (fun X => Own Z0 W X [.blk g14 43 #[.string (⟨#[]⟩)], .blk g8 43 #[.string (natB b)], .blk g2 43 #[.string (natB a)]]) 6 [(0, 0), (2, 0), (1, 2), (3, 2), (4, 2), (5, 2)] (by kernel_rfl) (by kernel_rfl) (PQ.then_ PQ.body) (O17).drew ?_
  have O21 := O17.drew
  refine wt0 (v := .agg #[.string (natB a)]) rfl (fun ρ e W hW => zAk (vs := [.string (natB a)]) ty43 (e _ _ rfl) rfl (hW.cells 2 0 rfl rfl)) rfl rfl <| wt0 (v := .agg #[.string (natB b)]) rfl (fun ρ e W hW => zAk (vs := [.string (natB b)]) ty43 (e _ _ rfl) rfl (hW.cells 1 0 rfl rfl)) rfl rfl ?_
  refine zA7 (args := [.agg #[.string (natB a)]]) rfl zE4 rfl rfl rfl ?_
  refine (zEa (m := a) (by omega)).mono ?_
  rintro _ w23 ⟨g22, rfl, O24n⟩
  have O24 := zBr O21 O24n
  refine ⟨_, rfl, (O24.re [1, 2, 3] rfl), ?_⟩
  refine zA7 (args := [.agg #[.string (natB b)]]) rfl zE4 rfl rfl rfl ?_
  refine (zD9 (m := b) (by omega) (by omega)).mono ?_
  rintro _ w26 ⟨g25, rfl, O27n⟩
  have O27 := zBr O24 O27n
  refine ⟨_, rfl, (O27.re [2, 3, 4] rfl), ?_⟩
  refine wt2 (v := VS0 g22 0 0) rfl (fun ρ e => zBb (e _ _ rfl)) rfl rfl (O27.re [2, 3, 4] rfl) ?_
  refine wt2 (v := VS0 g25 1 1) rfl (fun ρ e => zBb (e _ _ rfl)) rfl rfl (O27.re [2, 3, 4] rfl) ?_
  refine zBc <| zAb K20 <| zAc fun _ K28 => zAa <| wm rfl rfl rfl <| wz el96 rfl rfl rfl <| wm rfl rfl rfl <| wz el96 rfl rfl rfl ?_
  refine zAe (v := .int .i64 1) (fun ρ e => zAi (k := .i64) (u := (0 : Int)) (v := (1 : Int)) (e _ _ rfl) (e _ _ rfl) (congrArg some (zAo (by omega) (by omega)))) rfl rfl ?_
  obtain ⟨g29, w30, r31, O32, hg33, hs34⟩ := zBo O27 ap96 rfl 1 (by decide) (by omega) (cs := #[.int .u32 0]) rfl
  refine zAe (v := VS0 g29 1 1) (fun ρ e => r31 ρ _ _ _ _ _ _ _ (e _ _ rfl) (e _ _ rfl)) rfl rfl <| wa rfl rfl rfl <| zAd <| zAb K28 <| zAc fun _ K35 => zAc fun _ K36 => zAa <| wm rfl rfl rfl ?_
  refine wz el96 rfl rfl rfl <| wm rfl rfl rfl <| zAd <| zAb K36 <| zAh ?_
  have O37 := (O32.re [0, 2, 1, 3] rfl)
  refine zA8 (ι := Nat) (fun q => [(4, VP g14), (5, VS0 g22 0 0), (6, VS0 g25 1 1), (7, VS0 g29 1 1), (22, VS0 g22 0 0), (23, .int .i64 (0 : Int)), (24, .int .i64 (q : Int))]) (fun q X => (q ≤ 0) ∧ Own Z0 W X [.blk g29 95 #[.int .u32 0], .blk g22 95 #[], .blk g25 95 #[.int .u32 (b : Int)], .blk g14 43 #[.string (⟨#[]⟩)]]) (fun q => 1 - q) 0 ⟨Nat.le_refl _, O37⟩ ⟨rfl, rfl, rfl, rfl, rfl, rfl, rfl, trivial⟩ (fun q w38 hJ F39 K40 => ?_)
  obtain ⟨i, rfl⟩ : ∃ x, x = q := ⟨_, rfl⟩
  obtain ⟨hi0, O41⟩ := hJ
  try dsimp only at hi0 O41 ⊢
  obtain rfl : i = 0 := by omega
  refine zAc fun _ K42 => zAa <| wc rfl rfl (lss0 (by omega)) rfl rfl <| zAd <| zAb K42 <| zAc fun _ K43 => zAf rfl <| zA6 ?_
  refine zAg (by intro h; cases h) ?_
  refine zAg (by intro h; cases h) ?_
  refine zA4 <| zAb K35 <| zAc fun _ K44 => zAa <| wm rfl rfl rfl ?_
  refine zAs (args := [VS0 g29 1 1]) zHp rfl rfl rfl ?_
  refine (zHq (W := w38) (g := g29) (n := 1) (m := 0) (by omega) (by omega) (by omega) ((O41.blk 0 rfl).lt) (fun j hj => ((O41.blk 0 rfl).cell j).trans (zEs hj))).mono ?_
  rintro _ w45 ⟨rfl, hb46⟩
  have O47 := O41.below hb46
  refine ⟨_, rfl, ?_⟩
  obtain ⟨w48, r49, O50, hs51⟩ := zAp (o := 0) (n := 1) (O47.re [3, 0, 1, 2] rfl) ty43 (.agg #[.string (natB 0)]) _ (cs' := #[.string (natB 0)]) rfl rfl rfl (Nat.le_of_ble_eq_true rfl) rfl
  refine zAv (fun ρ e => r49 ρ _ _ _ _ _ _ (e _ _ rfl) (e _ _ rfl)) rfl <| zAd <| zAb K44 <| zAz ?_
  refine zAy (v := .agg #[.string (natB 0)]) (fun T hT => res1c rfl T _ (hT 4 _ rfl) (zBj (vs := [.string (natB 0)]) ty43 rfl (O50.cells 0 0 rfl rfl))) ?_
  rw [show a * b = 0 by rw [ha]; simp]
  exact ⟨rfl, O50.old⟩
 ·skip
  have O0 : Own Z0 W W [] := Own.start W
  refine zAu (args := [.agg #[.string (natB a)], .agg #[.string (natB b)]]) Tryz.func64 rfl rfl (by simp) ?_
  refine zAc fun _ K1 => zAa ?_
  obtain ⟨g2, w3, r4, O5, hg6, hs7⟩ := zA5 O0 43 (.agg #[.string (natB a)]) rfl
  refine zAe (v := VP g2) (fun ρ e => r4 ρ _ _ _ _ _ _ (e _ _ rfl)) rfl rfl ?_
  obtain ⟨g8, w9, r10, O11, hg12, hs13⟩ := zA5 O5 43 (.agg #[.string (natB b)]) rfl
  refine zAe (v := VP g8) (fun ρ e => r10 ρ _ _ _ _ _ _ (e _ _ rfl)) rfl rfl ?_
  obtain ⟨g14, w15, r16, O17, hg18, hs19⟩ := zAw O11 43 ze43 rfl
  refine zAe (v := VP g14) (fun ρ e => r16 ρ _ _ _ _ _) rfl rfl <| zAd <| zAb K1 <| zAc fun _ K20 => ?_
  refine zA1 (fun X => Own Z0 W X [.blk g14 43 #[.string (⟨#[]⟩)], .blk g8 43 #[.string (natB b)], .blk g2 43 #[.string (natB a)]]) 6 [(0, 0), (2, 0), (1, 2), (3, 2), (4, 2), (5, 2)] (by kernel_rfl) (by kernel_rfl) (PQ.then_ PQ.body) (O17).drew ?_
  have O21 := O17.drew
  refine wt0 (v := .agg #[.string (natB a)]) rfl (fun ρ e W hW => zAk (vs := [.string (natB a)]) ty43 (e _ _ rfl) rfl (hW.cells 2 0 rfl rfl)) rfl rfl <| wt0 (v := .agg #[.string (natB b)]) rfl (fun ρ e W hW => zAk (vs := [.string (natB b)]) ty43 (e _ _ rfl) rfl (hW.cells 1 0 rfl rfl)) rfl rfl ?_
  refine zA7 (args := [.agg #[.string (natB a)]]) rfl zE4 rfl rfl rfl ?_
  refine (zD9 (m := a) (by omega) (by omega)).mono ?_
  rintro _ w23 ⟨g22, rfl, O24n⟩
  have O24 := zBr O21 O24n
  refine ⟨_, rfl, (O24.re [1, 2, 3] rfl), ?_⟩
  refine zA7 (args := [.agg #[.string (natB b)]]) rfl zE4 rfl rfl rfl ?_
  refine (zEa (m := b) (by omega)).mono ?_
  rintro _ w26 ⟨g25, rfl, O27n⟩
  have O27 := zBr O24 O27n
  refine ⟨_, rfl, (O27.re [2, 3, 4] rfl), ?_⟩
  refine wt2 (v := VS0 g22 1 1) rfl (fun ρ e => zBb (e _ _ rfl)) rfl rfl (O27.re [2, 3, 4] rfl) ?_
  refine wt2 (v := VS0 g25 0 0) rfl (fun ρ e => zBb (e _ _ rfl)) rfl rfl (O27.re [2, 3, 4] rfl) ?_
  refine zBc <| zAb K20 <| zAc fun _ K28 => zAa <| wm rfl rfl rfl <| wz el96 rfl rfl rfl <| wm rfl rfl rfl <| wz el96 rfl rfl rfl ?_
  refine zAe (v := .int .i64 1) (fun ρ e => zAi (k := .i64) (u := (1 : Int)) (v := (0 : Int)) (e _ _ rfl) (e _ _ rfl) (congrArg some (zAo (by omega) (by omega)))) rfl rfl ?_
  obtain ⟨g29, w30, r31, O32, hg33, hs34⟩ := zBo O27 ap96 rfl 1 (by decide) (by omega) (cs := #[.int .u32 0]) rfl
  refine zAe (v := VS0 g29 1 1) (fun ρ e => r31 ρ _ _ _ _ _ _ _ (e _ _ rfl) (e _ _ rfl)) rfl rfl <| wa rfl rfl rfl <| zAd <| zAb K28 <| zAc fun _ K35 => zAc fun _ K36 => zAa <| wm rfl rfl rfl ?_
  refine wz el96 rfl rfl rfl <| wm rfl rfl rfl <| zAd <| zAb K36 <| zAh ?_
  have O37 := (O32.re [0, 2, 1, 3] rfl)
  refine zA8 (ι := Nat) (fun q => [(4, VP g14), (5, VS0 g22 1 1), (6, VS0 g25 0 0), (7, VS0 g29 1 1), (22, VS0 g22 1 1), (23, .int .i64 (1 : Int)), (24, .int .i64 (q : Int))]) (fun q X => (q ≤ 1) ∧ Own Z0 W X [.blk g29 95 #[.int .u32 ((if q = 0 then 0 else 0 : Nat) : Int)], .blk g22 95 #[.int .u32 (a : Int)], .blk g25 95 #[], .blk g14 43 #[.string (⟨#[]⟩)]]) (fun q => 1 - q) 0 ⟨Nat.zero_le _, O37⟩ ⟨rfl, rfl, rfl, rfl, rfl, rfl, rfl, trivial⟩ (fun q w38 hJ F39 K40 => ?_)
  obtain ⟨i, rfl⟩ : ∃ x, x = q := ⟨_, rfl⟩
  obtain ⟨hi0, O41⟩ := hJ
  try dsimp only at hi0 O41 ⊢
  rcases (show i = 0 ∨ i = 1 by omega) with rfl | rfl
  ·skip
   have O42 := O41
   refine zAc fun _ K43 => zAa <| wc rfl rfl (lss1 (by omega)) rfl rfl <| zAd <| zAb K43 <| zAc fun _ K44 => zAl rfl <| zAj ?_
   refine zAb K44 <| zAc fun _ K45 => zAh <| zAc fun _ K46 => zAa <| wm rfl rfl rfl <| wi (q := 0) (i := 0) el96 rfl rfl (by omega) (by omega) rfl rfl <| wd ty95 rfl (O42.cell 1 0 rfl rfl) rfl rfl ?_
   refine wa rfl rfl rfl <| wa rfl rfl rfl <| nx K46 fun _ K47 => wa rfl rfl rfl <| zAd <| zAb K47 <| zAc fun _ K48 => zAc fun _ K49 => ?_
   refine zAa <| wm rfl rfl rfl <| wz el96 rfl rfl rfl <| wm rfl rfl rfl <| zAd <| zAb K49 <| zAh ?_
   have O50 := O42
   refine zA8 (ι := Nat) (fun q => [(4, VP g14), (5, VS0 g22 1 1), (6, VS0 g25 0 0), (7, VS0 g29 1 1), (8, .int .i64 0), (9, .int .u32 (a : Int)), (22, VS0 g22 1 1), (23, .int .i64 (1 : Int)), (24, .int .i64 0), (30, .int .i64 (0 : Int)), (31, .int .i64 (q : Int)), (10, .int .u64 (0 : Int))]) (fun q X => (q ≤ 0) ∧ Own Z0 W X [.blk g29 95 #[.int .u32 0], .blk g22 95 #[.int .u32 (a : Int)], .blk g25 95 #[], .blk g14 43 #[.string (⟨#[]⟩)]]) (fun q => 1 - q) 0 ⟨Nat.le_refl _, O50⟩ ⟨rfl, rfl, rfl, rfl, rfl, rfl, rfl, rfl, rfl, rfl, rfl, rfl, trivial⟩ (fun q w51 hJ F52 K53 => ?_)
   obtain ⟨i, rfl⟩ : ∃ x, x = q := ⟨_, rfl⟩
   obtain ⟨hi0, O54⟩ := hJ
   try dsimp only at hi0 O54 ⊢
   obtain rfl : i = 0 := by omega
   refine zAc fun _ K55 => zAa <| wc rfl rfl (lss0 (by omega)) rfl rfl <| zAd <| zAb K55 <| zAc fun _ K56 => zAf rfl <| zA6 ?_
   refine zAg (by intro h; cases h) ?_
   refine zAg (by intro h; cases h) ?_
   refine zA4 <| zAb K48 <| zAa <| wm rfl rfl rfl <| wm rfl rfl rfl <| wm rfl rfl rfl <| wz el96 rfl rfl rfl <| zAe (v := .int .i64 0) (fun ρ e => zAi (k := .i64) (u := 0) (v := (0 : Int)) (e _ _ rfl) (e _ _ rfl) (congrArg some (zAo (by omega) (by omega)))) rfl rfl ?_
   refine wm rfl rfl rfl <| zAe (v := .int .u32 (0 : Int)) (fun ρ e => zBq (u := (0 : Int)) (v := (0 : Int)) (e _ _ rfl) (by decide)) rfl rfl <| wi (q := 0) (i := 0) el96 rfl rfl (by omega) (by omega) rfl rfl ?_
   obtain ⟨w57, r58, O59, hs60⟩ := zAp (o := 0) (n := 1) O54 ty95 (.int .u32 (0 : Int)) _ (cs' := #[.int .u32 (0 : Int)]) rfl rfl rfl (Nat.le_of_ble_eq_true rfl) rfl
   refine zAv (fun ρ e => r58 ρ _ _ _ _ _ _ (e _ _ rfl) (e _ _ rfl)) rfl <| zAd <| zAn <| zAb K45 <| zAa <| zAe (v := .int .i64 1) (fun ρ e => zAi (k := .i64) (u := 0) (v := 1) (e _ _ rfl) (e _ _ rfl) (congrArg some (zAo (by omega) (by omega)))) rfl rfl <| wm rfl rfl rfl <| zAd ?_
   refine zAt K40 1 (by show 1 - 1 < 1 - 0; omega) ⟨Nat.le_refl _, O59⟩ ⟨rfl, rfl, rfl, rfl, rfl, rfl, rfl, trivial⟩
  ·skip
   have O61 := O41
   refine zAc fun _ K62 => zAa <| wc rfl rfl (lss0 (by omega)) rfl rfl <| zAd <| zAb K62 <| zAc fun _ K63 => zAf rfl <| zA6 ?_
   refine zAg (by intro h; cases h) ?_
   refine zAg (by intro h; cases h) ?_
   refine zA4 <| zAb K35 <| zAc fun _ K64 => zAa <| wm rfl rfl rfl ?_
   refine zAs (args := [VS0 g29 1 1]) zHp rfl rfl rfl ?_
   refine (zHq (W := w38) (g := g29) (n := 1) (m := 0) (by omega) (by omega) (by omega) ((O61.blk 0 rfl).lt) (fun j hj => ((O61.blk 0 rfl).cell j).trans (zEs hj))).mono ?_
   rintro _ w65 ⟨rfl, hb66⟩
   have O67 := O61.below hb66
   refine ⟨_, rfl, ?_⟩
   obtain ⟨w68, r69, O70, hs71⟩ := zAp (o := 0) (n := 1) (O67.re [3, 0, 1, 2] rfl) ty43 (.agg #[.string (natB 0)]) _ (cs' := #[.string (natB 0)]) rfl rfl rfl (Nat.le_of_ble_eq_true rfl) rfl
   refine zAv (fun ρ e => r69 ρ _ _ _ _ _ _ (e _ _ rfl) (e _ _ rfl)) rfl <| zAd <| zAb K64 <| zAz ?_
   refine zAy (v := .agg #[.string (natB 0)]) (fun T hT => res1c rfl T _ (hT 4 _ rfl) (zBj (vs := [.string (natB 0)]) ty43 rfl (O70.cells 0 0 rfl rfl))) ?_
   rw [show a * b = 0 by rw [hb]; simp]
   exact ⟨rfl, O70.old⟩
 ·skip
  have O0 : Own Z0 W W [] := Own.start W
  refine zAu (args := [.agg #[.string (natB a)], .agg #[.string (natB b)]]) Tryz.func64 rfl rfl (by simp) ?_
  refine zAc fun _ K1 => zAa ?_
  obtain ⟨g2, w3, r4, O5, hg6, hs7⟩ := zA5 O0 43 (.agg #[.string (natB a)]) rfl
  refine zAe (v := VP g2) (fun ρ e => r4 ρ _ _ _ _ _ _ (e _ _ rfl)) rfl rfl ?_
  obtain ⟨g8, w9, r10, O11, hg12, hs13⟩ := zA5 O5 43 (.agg #[.string (natB b)]) rfl
  refine zAe (v := VP g8) (fun ρ e => r10 ρ _ _ _ _ _ _ (e _ _ rfl)) rfl rfl ?_
  obtain ⟨g14, w15, r16, O17, hg18, hs19⟩ := zAw O11 43 ze43 rfl
  refine zAe (v := VP g14) (fun ρ e => r16 ρ _ _ _ _ _) rfl rfl <| zAd <| zAb K1 <| zAc fun _ K20 => ?_
  refine zA1 (fun X => Own Z0 W X [.blk g14 43 #[.string (⟨#[]⟩)], .blk g8 43 #[.string (natB b)], .blk g2 43 #[.string (natB a)]]) 6 [(0, 0), (2, 0), (1, 2), (3, 2), (4, 2), (5, 2)] (by kernel_rfl) (by kernel_rfl) (PQ.then_ PQ.body) (O17).drew ?_
  have O21 := O17.drew
  refine wt0 (v := .agg #[.string (natB a)]) rfl (fun ρ e W hW => zAk (vs := [.string (natB a)]) ty43 (e _ _ rfl) rfl (hW.cells 2 0 rfl rfl)) rfl rfl <| wt0 (v := .agg #[.string (natB b)]) rfl (fun ρ e W hW => zAk (vs := [.string (natB b)]) ty43 (e _ _ rfl) rfl (hW.cells 1 0 rfl rfl)) rfl rfl ?_
  refine zA7 (args := [.agg #[.string (natB a)]]) rfl zE4 rfl rfl rfl ?_
  refine (zD9 (m := a) (by omega) (by omega)).mono ?_
  rintro _ w23 ⟨g22, rfl, O24n⟩
  have O24 := zBr O21 O24n
  refine ⟨_, rfl, (O24.re [1, 2, 3] rfl), ?_⟩
  refine zA7 (args := [.agg #[.string (natB b)]]) rfl zE4 rfl rfl rfl ?_
  refine (zD9 (m := b) (by omega) (by omega)).mono ?_
  rintro _ w26 ⟨g25, rfl, O27n⟩
  have O27 := zBr O24 O27n
  refine ⟨_, rfl, (O27.re [2, 3, 4] rfl), ?_⟩
  refine wt2 (v := VS0 g22 1 1) rfl (fun ρ e => zBb (e _ _ rfl)) rfl rfl (O27.re [2, 3, 4] rfl) ?_
  refine wt2 (v := VS0 g25 1 1) rfl (fun ρ e => zBb (e _ _ rfl)) rfl rfl (O27.re [2, 3, 4] rfl) ?_
  refine zBc <| zAb K20 <| zAc fun _ K28 => zAa <| wm rfl rfl rfl <| wz el96 rfl rfl rfl <| wm rfl rfl rfl <| wz el96 rfl rfl rfl ?_
  refine zAe (v := .int .i64 2) (fun ρ e => zAi (k := .i64) (u := (1 : Int)) (v := (1 : Int)) (e _ _ rfl) (e _ _ rfl) (congrArg some (zAo (by omega) (by omega)))) rfl rfl ?_
  obtain ⟨g29, w30, r31, O32, hg33, hs34⟩ := zBo O27 ap96 rfl 2 (by decide) (by omega) (cs := #[.int .u32 0, .int .u32 0]) rfl
  refine zAe (v := VS0 g29 2 2) (fun ρ e => r31 ρ _ _ _ _ _ _ _ (e _ _ rfl) (e _ _ rfl)) rfl rfl <| wa rfl rfl rfl <| zAd <| zAb K28 <| zAc fun _ K35 => zAc fun _ K36 => zAa <| wm rfl rfl rfl ?_
  refine wz el96 rfl rfl rfl <| wm rfl rfl rfl <| zAd <| zAb K36 <| zAh ?_
  have O37 := (O32.re [0, 2, 1, 3] rfl)
  refine zA8 (ι := Nat) (fun q => [(4, VP g14), (5, VS0 g22 1 1), (6, VS0 g25 1 1), (7, VS0 g29 2 2), (22, VS0 g22 1 1), (23, .int .i64 (1 : Int)), (24, .int .i64 (q : Int))]) (fun q X => (q ≤ 1) ∧ Own Z0 W X [.blk g29 95 #[.int .u32 ((if q = 0 then 0 else a * b : Nat) : Int), .int .u32 0], .blk g22 95 #[.int .u32 (a : Int)], .blk g25 95 #[.int .u32 (b : Int)], .blk g14 43 #[.string (⟨#[]⟩)]]) (fun q => 1 - q) 0 ⟨Nat.zero_le _, O37⟩ ⟨rfl, rfl, rfl, rfl, rfl, rfl, rfl, trivial⟩ (fun q w38 hJ F39 K40 => ?_)
  obtain ⟨i, rfl⟩ : ∃ x, x = q := ⟨_, rfl⟩
  obtain ⟨hi0, O41⟩ := hJ
  try dsimp only at hi0 O41 ⊢
  rcases (show i = 0 ∨ i = 1 by omega) with rfl | rfl
  ·skip
   have O42 := O41
   refine zAc fun _ K43 => zAa <| wc rfl rfl (lss1 (by omega)) rfl rfl <| zAd <| zAb K43 <| zAc fun _ K44 => zAl rfl <| zAj ?_
   refine zAb K44 <| zAc fun _ K45 => zAh <| zAc fun _ K46 => zAa <| wm rfl rfl rfl <| wi (q := 0) (i := 0) el96 rfl rfl (by omega) (by omega) rfl rfl <| wd ty95 rfl (O42.cell 1 0 rfl rfl) rfl rfl ?_
   refine wa rfl rfl rfl <| wa rfl rfl rfl <| nx K46 fun _ K47 => wa rfl rfl rfl <| zAd <| zAb K47 <| zAc fun _ K48 => zAc fun _ K49 => ?_
   refine zAa <| wm rfl rfl rfl <| wz el96 rfl rfl rfl <| wm rfl rfl rfl <| zAd <| zAb K49 <| zAh ?_
   have O50 := O42
   refine zA8 (ι := Nat) (fun q => [(4, VP g14), (5, VS0 g22 1 1), (6, VS0 g25 1 1), (7, VS0 g29 2 2), (8, .int .i64 0), (9, .int .u32 (a : Int)), (22, VS0 g22 1 1), (23, .int .i64 (1 : Int)), (24, .int .i64 0), (30, .int .i64 (1 : Int)), (31, .int .i64 (q : Int)), (10, .int .u64 ((if q = 0 then 0 else 0 : Nat) : Int))]) (fun q X => (q ≤ 1) ∧ Own Z0 W X [.blk g29 95 #[.int .u32 ((if q = 0 then 0 else a * b : Nat) : Int), .int .u32 0], .blk g22 95 #[.int .u32 (a : Int)], .blk g25 95 #[.int .u32 (b : Int)], .blk g14 43 #[.string (⟨#[]⟩)]]) (fun q => 1 - q) 0 ⟨Nat.zero_le _, O50⟩ ⟨rfl, rfl, rfl, rfl, rfl, rfl, rfl, rfl, rfl, rfl, rfl, rfl, trivial⟩ (fun q w51 hJ F52 K53 => ?_)
   obtain ⟨i, rfl⟩ : ∃ x, x = q := ⟨_, rfl⟩
   obtain ⟨hi0, O54⟩ := hJ
   try dsimp only at hi0 O54 ⊢
   rcases (show i = 0 ∨ i = 1 by omega) with rfl | rfl
   ·skip
    have O55 := O54
    refine zAc fun _ K56 => zAa <| wc rfl rfl (lss1 (by omega)) rfl rfl <| zAd <| zAb K56 <| zAc fun _ K57 => zAl rfl <| zAj ?_
    refine zAb K57 <| zAc fun _ K58 => zAh <| zAc fun _ K59 => zAa <| wm rfl rfl rfl <| wa rfl rfl rfl <| zAd ?_
    refine zAb K59 <| zAc fun _ K60 => ?_
    refine zA1 (fun X => Own Z0 W X [.blk g29 95 #[.int .u32 0, .int .u32 0], .blk g22 95 #[.int .u32 (a : Int)], .blk g25 95 #[.int .u32 (b : Int)], .blk g14 43 #[.string (⟨#[]⟩)]]) 18 [(0, 1), (1, 1), (2, 1), (3, 1), (4, 1), (5, 1), (6, 0), (7, 1), (8, 1), (9, 1), (10, 1), (11, 1), (12, 1), (13, 0), (14, 1), (15, 1), (16, 1), (17, 1), (18, 3)] (by kernel_rfl) (by kernel_rfl) (PQ.then_ (PQ.block (PQ.then_ (PQ.then_ (PQ.block (PQ.then_ (PQ.block (PQ.then_ (PQ.then_ (PQ.block (PQ.then_ PQ.body))))))))))) (O55).drew ?_
    have O61 := O55.drew
    refine tm rfl rfl rfl rfl <| tm rfl rfl rfl rfl <| tm rfl rfl rfl rfl <| tm rfl rfl rfl rfl <| wt1 (v := .int .i64 0) rfl (fun ρ e W => zAi (k := .i64) (u := 0) (v := 0) (e _ _ rfl) (e _ _ rfl) (congrArg some (zAo (by omega) (by omega)))) rfl rfl <| wt1 (v := VP g29) rfl (fun ρ e W => zA9 (q := 0) (i := 0) el96 (e _ _ rfl) (e _ _ rfl) (by omega) (by omega)) rfl rfl <| wt0 (v := .int .u32 0) rfl (fun ρ e W hW => zAm ty95 (e _ _ rfl) (hW.cell 0 0 rfl rfl)) rfl rfl <| wt1 (v := .int .u64 0) rfl (fun ρ e W => zB1 (u := 0) (v := 0) (e _ _ rfl) (by decide)) rfl rfl ?_
    refine tm rfl rfl rfl rfl <| wt1 (v := .int .u64 (a : Int)) rfl (fun ρ e W => zB1 (u := (a : Int)) (v := (a : Int)) (e _ _ rfl) (zAx (by omega))) rfl rfl <| tm rfl rfl rfl rfl <| tm rfl rfl rfl rfl <| wt1 (v := VP g25) rfl (fun ρ e W => zA9 (q := 0) (i := 0) el96 (e _ _ rfl) (e _ _ rfl) (by omega) (by omega)) rfl rfl <| wt0 (v := .int .u32 (b : Int)) rfl (fun ρ e W hW => zAm ty95 (e _ _ rfl) (hW.cell 2 0 rfl rfl)) rfl rfl <| wt1 (v := .int .u64 (b : Int)) rfl (fun ρ e W => zB1 (u := (b : Int)) (v := (b : Int)) (e _ _ rfl) (zAx (by omega))) rfl rfl ?_
    refine wt1 (v := .int .u64 ((a * b : Nat) : Int)) rfl (fun ρ e W => zAi (k := .u64) (u := (a : Int)) (v := (b : Int)) (e _ _ rfl) (e _ _ rfl) (congrArg some ((congrArg _ (show _ = ((a * b : Nat) : Int) by simp)).trans (zAx (by omega))))) rfl rfl <| wt1 (v := .int .u64 ((a * b : Nat) : Int)) rfl (fun ρ e W => zAi (k := .u64) (u := 0) (v := ((a * b : Nat) : Int)) (e _ _ rfl) (e _ _ rfl) (congrArg some ((congrArg _ (show _ = ((a * b : Nat) : Int) by omega)).trans (zAx (by omega))))) rfl rfl <| wt1 (v := .int .u64 ((a * b : Nat) : Int)) rfl (fun ρ e W => zAi (k := .u64) (u := (0 : Int)) (v := ((a * b : Nat) : Int)) (e _ _ rfl) (e _ _ rfl) (congrArg some ((congrArg _ (show _ = ((a * b : Nat) : Int) by omega)).trans (zAx (by omega))))) rfl rfl ?_
    refine wt3 (v := .int .u64 ((a * b : Nat) : Int)) rfl (fun ρ e => zBb (e _ _ rfl)) rfl rfl <| zBc <| zAb K60 <| zAc fun _ K62 => zAa <| wm rfl rfl rfl <| wm rfl rfl rfl <| wm rfl rfl rfl ?_
    refine zAe (v := .int .i64 0) (fun ρ e => zAi (k := .i64) (u := 0) (v := 0) (e _ _ rfl) (e _ _ rfl) (congrArg some (zAo (by omega) (by omega)))) rfl rfl <| wm rfl rfl rfl <| zAe (v := .int .u32 ((a * b : Nat) : Int)) (fun ρ e => zBq (u := ((a * b : Nat) : Int)) (v := ((a * b : Nat) : Int)) (e _ _ rfl) (zC1 (by omega))) rfl rfl <| wi (q := 0) (i := 0) el96 rfl rfl (by omega) (by omega) rfl rfl ?_
    obtain ⟨w63, r64, O65, hs66⟩ := zAp (o := 0) (n := 1) O61 ty95 (.int .u32 ((a * b : Nat) : Int)) _ (cs' := #[.int .u32 ((a * b : Nat) : Int), .int .u32 0]) rfl rfl rfl (Nat.le_of_ble_eq_true rfl) rfl
    refine zAv (fun ρ e => r64 ρ _ _ _ _ _ _ (e _ _ rfl) (e _ _ rfl)) rfl <| zAd <| zAb K62 <| zAa <| wm rfl rfl rfl <| zAe (v := .int .u64 (0 : Int)) (fun ρ e => zEn (k := .u64) (a := a * b) (s := 32) (q := 0) (e _ _ rfl) (e _ _ rfl) (by decide) (Nat.div_eq_of_lt (show a * b < 2 ^ 32 by omega))) rfl rfl <| wa rfl rfl rfl <| zAd ?_
    refine zAn <| zAb K58 <| zAa <| zAe (v := .int .i64 1) (fun ρ e => zAi (k := .i64) (u := 0) (v := 1) (e _ _ rfl) (e _ _ rfl) (congrArg some (zAo (by omega) (by omega)))) rfl rfl <| wm rfl rfl rfl <| zAd ?_
    refine zAt K53 1 (by show 1 - 1 < 1 - 0; omega) ⟨Nat.le_refl _, O65⟩ ⟨rfl, rfl, rfl, rfl, rfl, rfl, rfl, rfl, rfl, rfl, rfl, rfl, trivial⟩
   ·skip
    have O67 := O54
    refine zAc fun _ K68 => zAa <| wc rfl rfl (lss0 (by omega)) rfl rfl <| zAd <| zAb K68 <| zAc fun _ K69 => zAf rfl <| zA6 ?_
    refine zAg (by intro h; cases h) ?_
    refine zAg (by intro h; cases h) ?_
    refine zA4 <| zAb K48 <| zAa <| wm rfl rfl rfl <| wm rfl rfl rfl <| wm rfl rfl rfl <| wz el96 rfl rfl rfl <| zAe (v := .int .i64 1) (fun ρ e => zAi (k := .i64) (u := 0) (v := (1 : Int)) (e _ _ rfl) (e _ _ rfl) (congrArg some (zAo (by omega) (by omega)))) rfl rfl ?_
    refine wm rfl rfl rfl <| zAe (v := .int .u32 (0 : Int)) (fun ρ e => zBq (u := (0 : Int)) (v := (0 : Int)) (e _ _ rfl) (by decide)) rfl rfl <| wi (q := 1) (i := 1) el96 rfl rfl (by omega) (by omega) rfl rfl ?_
    obtain ⟨w70, r71, O72, hs73⟩ := zAp (o := 1) (n := 1) O67 ty95 (.int .u32 (0 : Int)) _ (cs' := #[.int .u32 ((a * b : Nat) : Int), .int .u32 (0 : Int)]) rfl rfl rfl (Nat.le_of_ble_eq_true rfl) rfl
    refine zAv (fun ρ e => r71 ρ _ _ _ _ _ _ (e _ _ rfl) (e _ _ rfl)) rfl <| zAd <| zAn <| zAb K45 <| zAa <| zAe (v := .int .i64 1) (fun ρ e => zAi (k := .i64) (u := 0) (v := 1) (e _ _ rfl) (e _ _ rfl) (congrArg some (zAo (by omega) (by omega)))) rfl rfl <| wm rfl rfl rfl <| zAd ?_
    refine zAt K40 1 (by show 1 - 1 < 1 - 0; omega) ⟨Nat.le_refl _, O72⟩ ⟨rfl, rfl, rfl, rfl, rfl, rfl, rfl, trivial⟩
  ·skip
   have O74 := O41
   refine zAc fun _ K75 => zAa <| wc rfl rfl (lss0 (by omega)) rfl rfl <| zAd <| zAb K75 <| zAc fun _ K76 => zAf rfl <| zA6 ?_
   refine zAg (by intro h; cases h) ?_
   refine zAg (by intro h; cases h) ?_
   refine zA4 <| zAb K35 <| zAc fun _ K77 => zAa <| wm rfl rfl rfl ?_
   refine zAs (args := [VS0 g29 2 2]) zHp rfl rfl rfl ?_
   refine (zHq (W := w38) (g := g29) (n := 2) (m := a * b) (by omega) (by omega) (by omega) ((O74.blk 0 rfl).lt) (fun j hj => ((O74.blk 0 rfl).cell j).trans (zDp hj))).mono ?_
   rintro _ w78 ⟨rfl, hb79⟩
   have O80 := O74.below hb79
   refine ⟨_, rfl, ?_⟩
   obtain ⟨w81, r82, O83, hs84⟩ := zAp (o := 0) (n := 1) (O80.re [3, 0, 1, 2] rfl) ty43 (.agg #[.string (natB (a * b))]) _ (cs' := #[.string (natB (a * b))]) rfl rfl rfl (Nat.le_of_ble_eq_true rfl) rfl
   refine zAv (fun ρ e => r82 ρ _ _ _ _ _ _ (e _ _ rfl) (e _ _ rfl)) rfl <| zAd <| zAb K77 <| zAz ?_
   refine zAy (v := .agg #[.string (natB (a * b))]) (fun T hT => res1c rfl T _ (hT 4 _ rfl) (zBj (vs := [.string (natB (a * b))]) ty43 rfl (O83.cells 0 0 rfl rfl))) ?_
   exact ⟨rfl, O83.old⟩

end Go.Proofs.YtliiclmhpphpmaaGreatDoor
