/-
  Lemmas and contracts, joined: Tn4 Ts Tey Tez Tbi Tvo.
-/
import Derived.Test.YtliiclmhpphpmaaGreatDoorPf2
import Derived.Test.YtliiclmhpphpmaaGreatDoorPf6
import Derived.Test.YtliiclmhpphpmaaGreatDoorPf1
import Derived.Test.YtliiclmhpphpmaaGreatDoorPf3
import Derived.Test.YtliiclmhpphpmaaGreatDoorPf4
namespace Go.Proofs.YtliiclmhpphpmaaGreatDoor
open Go Go.RowKit
def len8S : ByteArray := ⟨(List.toArray (List.append (List.append [0, 1, 2, 2, 3, 3, 3, 3, 4, 4, 4, 4, 4, 4, 4, 4, 5, 5, 5, 5, 5, 5, 5, 5, 5, 5, 5, 5, 5, 5, 5, 5, 6, 6, 6, 6, 6, 6, 6, 6, 6, 6, 6, 6, 6, 6, 6, 6, 6, 6, 6, 6, 6, 6, 6, 6, 6, 6, 6, 6, 6, 6, 6, 6] [7, 7, 7, 7, 7, 7, 7, 7, 7, 7, 7, 7, 7, 7, 7, 7, 7, 7, 7, 7, 7, 7, 7, 7, 7, 7, 7, 7, 7, 7, 7, 7, 7, 7, 7, 7, 7, 7, 7, 7, 7, 7, 7, 7, 7, 7, 7, 7, 7, 7, 7, 7, 7, 7, 7, 7, 7, 7, 7, 7, 7, 7, 7, 7]) (List.append [8, 8, 8, 8, 8, 8, 8, 8, 8, 8, 8, 8, 8, 8, 8, 8, 8, 8, 8, 8, 8, 8, 8, 8, 8, 8, 8, 8, 8, 8, 8, 8, 8, 8, 8, 8, 8, 8, 8, 8, 8, 8, 8, 8, 8, 8, 8, 8, 8, 8, 8, 8, 8, 8, 8, 8, 8, 8, 8, 8, 8, 8, 8, 8] [8, 8, 8, 8, 8, 8, 8, 8, 8, 8, 8, 8, 8, 8, 8, 8, 8, 8, 8, 8, 8, 8, 8, 8, 8, 8, 8, 8, 8, 8, 8, 8, 8, 8, 8, 8, 8, 8, 8, 8, 8, 8, 8, 8, 8, 8, 8, 8, 8, 8, 8, 8, 8, 8, 8, 8, 8, 8, 8, 8, 8, 8, 8, 8])))⟩
theorem len8_size : len8S.data.toList.length = 256 := by decide +kernel
theorem ex_strIdx8 {ρ : Operand → Value} {d : Option Tmp} {x y : Operand} {t : TypeId} {pos : String} {aft : Array Edge} {gd : Option (Nat × Bool)} {w : World} {s : ByteArray} {i : Nat} {c : UInt8} (hx : ρ x = .string s) (hy : ρ y = .int .u8 ((i : Nat) : Int)) (hc : s.data.toList[i]? = some c) : (execOp ρ ⟨d, .index 9 x y, t, pos, aft, gd⟩).run Tryz.prog w = .ok (.value (.int .u8 (c.toNat : Int))) w := by
 have h : s[i]? = some c := by
  have h2 : s.data[i]? = some c := by simpa using hc
  obtain ⟨hl, h3⟩ := Array.getElem?_eq_some_iff.1 h2
  rw [getElem?_pos s i hl]
  exact congrArg some h3
 simp [execOp, Instr.index, asIntOf, run_underlying Tryz.underlying9, hx, hy, h]
theorem nat_same (a b : ByteArray) (w : World) : (Op.equalIn 10000 43 (.agg #[.string a]) (.agg #[.string b])).run Tryz.prog w = .ok (decide (a = b)) w := by
 have hst : Tryz.prog.stoodInHeld 43 = false := by kernel_rfl
 unfold Op.equalIn
 have e := (beq_toListBytes a b).symm.trans (ba_beq a b)
 by_cases h1 : a = b <;> simp [go_sem, hst, e, h1]
theorem zFr {ρ : Operand → Value} {d : Option Tmp} {x y : Operand} {t : TypeId} {pos : String} {aft : Array Edge} {gd : Option (Nat × Bool)} {w : World} {a b : ByteArray} {r : Bool} (hx : ρ x = .agg #[.string a]) (hy : ρ y = .agg #[.string b]) (hr : decide (a = b) = r) : (execOp ρ ⟨d, .binOp .eql 43 x y 43, t, pos, aft, gd⟩).run Tryz.prog w = .ok (.value (.bool r)) w := by
 subst hr
 have h1 : (eqGuard .eql 43 x y (.agg #[.string a]) (.agg #[.string b])).run Tryz.prog w = .ok () w := by
  have hg : (Tryz.prog.eqGuardType Tryz.prog.depth 43) = false := by kernel_rfl
  simp [eqGuard, hg]
 have h2 : binOp .eql 43 (.agg #[.string a]) (.agg #[.string b]) = (do pure (.bool (← Op.equal 43 (.agg #[.string a]) (.agg #[.string b])))) := rfl
 have h3 : (Op.equal 43 (.agg #[.string a]) (.agg #[.string b])).run Tryz.prog w = .ok (decide (a = b)) w := nat_same a b w
 simp only [execOp, hx, hy, Sem.run_bind, h1, h2, h3, Result.andThen_ok, Sem.run_pure]
theorem zGr {a b : Nat} (ha : a < 256) (hb : b < 256) (h : natB a = natB b) : a = b := by
 have h2 : (if a = 0 then [] else [UInt8.ofNat a]) = if b = 0 then [] else [UInt8.ofNat b] := by
  have := congrArg (fun s : ByteArray => s.data.toList) h
  simpa [natB] using this
 by_cases h0 : a = 0 <;> by_cases h1 : b = 0
 ·omega
 ·rw [if_pos h0, if_neg h1] at h2; cases h2
 ·rw [if_neg h0, if_pos h1] at h2; cases h2
 ·rw [if_neg h0, if_neg h1] at h2
  injection h2 with h3
  have := congrArg UInt8.toNat h3
  rw [UInt8.toNat_ofNat', UInt8.toNat_ofNat', Nat.mod_eq_of_lt (by simpa using ha), Nat.mod_eq_of_lt (by simpa using hb)] at this
  exact this
theorem len8_ {W : World} {m : Nat} (hm : m < 256) : Calls Tryz.prog 99 #[.int .u8 (m : Int)] W fun e w' => ∃ r : Nat, r < 256 ∧ e = .returned (.int .i64 (r : Int)) ∧ Below W.heap.size W w' := by
 obtain ⟨c1, hc1⟩ : ∃ c, len8S.data.toList[m]? = some c := ⟨_, List.getElem?_eq_getElem (by rw [len8_size]; omega)⟩
 have O0 : Own Z0 W W [] := Own.start W
 refine zAu (args := [.int .u8 (m : Int)]) Tryz.func99 rfl rfl (by simp) ?_
 refine zAc fun _ K1 => zAa <| wa rfl rfl rfl <| nx K1 fun _ K2 => wm rfl rfl rfl <| zAe (v := .int .u8 (c1.toNat : Int)) (fun ρ e => ex_strIdx8 (c := c1) (e _ _ rfl) (e _ _ rfl) hc1) rfl rfl <| zAe (v := .int .i64 (c1.toNat : Int)) (fun ρ e => ex_conv5_3 (u := (c1.toNat : Int)) (v := (c1.toNat : Int)) (e _ _ rfl) (zAo (by have := c1.toNat_lt; omega) (by have := c1.toNat_lt; omega))) rfl rfl <| wa rfl rfl rfl ?_
 refine zAd <| zAb K2 <| zAz ?_
 refine zAy (v := .int .i64 (c1.toNat : Int)) (fun T hT => res1 rfl T _ (hT 2 _ rfl)) ?_
 exact ⟨(c1.toNat : Nat), by have := c1.toNat_lt; omega, rfl, O0.old⟩
theorem len_ {W : World} {m : Nat} (hm : m < 256) : Calls Tryz.prog 83 #[.agg #[.string (natB m)]] W fun e w' => ∃ r : Nat, r < 256 ∧ e = .returned (.int .i64 (r : Int)) ∧ Below W.heap.size W w' := by
 rcases Nat.eq_zero_or_pos m with h0 | h0
 ·skip
  have O0 : Own Z0 W W [] := Own.start W
  refine zAu (args := [.agg #[.string (natB m)]]) Tryz.func83 rfl rfl (by simp) ?_
  refine zAc fun _ K1 => zAa ?_
  obtain ⟨g2, w3, r4, O5, hg6, hs7⟩ := zA5 O0 43 (.agg #[.string (natB m)]) rfl
  refine zAe (v := VP g2) (fun ρ e => r4 ρ _ _ _ _ _ _ (e _ _ rfl)) rfl rfl <| wa rfl rfl rfl <| nx K1 fun _ K8 => wf (q := 0) zB3 rfl rfl rfl rfl <| wd ty9 rfl (O5.cell 0 0 rfl rfl) rfl rfl <| zAe (v := .int .i64 0) (fun ρ e => zBx (n := 0) (e _ _ rfl) (zHb (by omega))) rfl rfl <| wa rfl rfl rfl <| zAd ?_
  refine zAb K8 <| zAc fun _ K9 => zAc fun _ K10 => zAa <| wm rfl rfl rfl <| wc rfl rfl (eql1 (by omega)) rfl rfl <| zAd <| zAb K10 ?_
  refine zAl rfl <| zAc fun _ K11 => zAa <| wa rfl rfl rfl <| zAd <| zAb K11 <| zAz ?_
  refine zAg (by intro h; cases h) ?_
  refine zAy (v := .int .i64 0) (fun T hT => res1 rfl T _ (hT 2 _ rfl)) ?_
  exact ⟨0, by omega, rfl, O5.old⟩
 ·skip
  have O0 : Own Z0 W W [] := Own.start W
  refine zAu (args := [.agg #[.string (natB m)]]) Tryz.func83 rfl rfl (by simp) ?_
  refine zAc fun _ K1 => zAa ?_
  obtain ⟨g2, w3, r4, O5, hg6, hs7⟩ := zA5 O0 43 (.agg #[.string (natB m)]) rfl
  refine zAe (v := VP g2) (fun ρ e => r4 ρ _ _ _ _ _ _ (e _ _ rfl)) rfl rfl <| wa rfl rfl rfl <| nx K1 fun _ K8 => wf (q := 0) zB3 rfl rfl rfl rfl <| wd ty9 rfl (O5.cell 0 0 rfl rfl) rfl rfl <| zAe (v := .int .i64 1) (fun ρ e => zBx (n := 1) (e _ _ rfl) (zDv (by omega))) rfl rfl <| wa rfl rfl rfl <| zAd ?_
  refine zAb K8 <| zAc fun _ K9 => zAc fun _ K10 => zAa <| wm rfl rfl rfl <| wc rfl rfl (eql0 (by omega)) rfl rfl <| zAd <| zAb K10 ?_
  refine zAf rfl <| zAj <| zAb K9 <| zAc fun _ K11 => zAa <| wm rfl rfl rfl <| zAe (v := .int .i64 0) (fun ρ e => zAi (k := .i64) (u := 1) (v := 1) (e _ _ rfl) (e _ _ rfl) (congrArg some (zAo (by omega) (by omega)))) rfl rfl <| zAe (v := .int .i64 0) (fun ρ e => zAi (k := .i64) (u := 8) (v := 0) (e _ _ rfl) (e _ _ rfl) (congrArg some (zAo (by omega) (by omega)))) rfl rfl ?_
  refine wf (q := 0) zB3 rfl rfl rfl rfl <| wd ty9 rfl (O5.cell 0 0 rfl rfl) rfl rfl <| wm rfl rfl rfl <| zAe (v := .int .i64 0) (fun ρ e => zAi (k := .i64) (u := 1) (v := 1) (e _ _ rfl) (e _ _ rfl) (congrArg some (zAo (by omega) (by omega)))) rfl rfl <| zAe (v := .int .u8 (m : Int)) (fun ρ e => zEm (e _ _ rfl) (e _ _ rfl) (by omega) hm) rfl rfl ?_
  refine zAs (args := [.int .u8 (m : Int)]) in_99 rfl rfl rfl ?_
  refine (len8_ (W := w3) (m := m) hm).mono ?_
  rintro _ w14 ⟨r12, hr13, rfl, hb15⟩
  have O16 := O5.below hb15
  refine ⟨_, rfl, ?_⟩
  refine zAe (v := .int .i64 (r12 : Int)) (fun ρ e => zAi (k := .i64) (u := 0) (v := (r12 : Int)) (e _ _ rfl) (e _ _ rfl) (congrArg some (show IntKind.i64.wrap _ = _ from (congrArg _ (by omega)).trans (zAo (u := (r12 : Int)) (by omega) (by omega))))) rfl rfl <| wa rfl rfl rfl <| zAd <| zAb K11 <| zAz ?_
  refine zAy (v := .int .i64 (r12 : Int)) (fun T hT => res1 rfl T _ (hT 2 _ rfl)) ?_
  exact ⟨r12, by omega, rfl, O16.old⟩
theorem cmp_ {W : World} {a b : Nat} (ha : a < 256) (hb : b < 256) : Calls Tryz.prog 12 #[.agg #[.string (natB a)], .agg #[.string (natB b)]] W fun e w' => ∃ r : Int, (r = 0 → a = b) ∧ (a = b → r = 0) ∧ e = .returned (.int .i64 r) ∧ Below W.heap.size W w' := by
 rcases (show a = b ∨ (a ≠ b ∧ a = 0 ∧ 0 < b) ∨ (a ≠ b ∧ 0 < a ∧ b = 0) ∨ (a ≠ b ∧ 0 < a ∧ 0 < b ∧ a < b) ∨ (a ≠ b ∧ 0 < a ∧ 0 < b ∧ b < a) by omega) with hab | ⟨hab, h1, h2⟩ | ⟨hab, h1, h2⟩ | ⟨hab, h1, h2, h3⟩ | ⟨hab, h1, h2, h3⟩
 ·skip
  have O0 : Own Z0 W W [] := Own.start W
  refine zAu (args := [.agg #[.string (natB a)], .agg #[.string (natB b)]]) Tryz.func12 rfl rfl (by simp) ?_
  refine zAc fun _ K1 => zAa ?_
  obtain ⟨g2, w3, r4, O5, hg6, hs7⟩ := zA5 O0 43 (.agg #[.string (natB a)]) rfl
  refine zAe (v := VP g2) (fun ρ e => r4 ρ _ _ _ _ _ _ (e _ _ rfl)) rfl rfl ?_
  obtain ⟨g8, w9, r10, O11, hg12, hs13⟩ := zA5 O5 43 (.agg #[.string (natB b)]) rfl
  refine zAe (v := VP g8) (fun ρ e => r10 ρ _ _ _ _ _ _ (e _ _ rfl)) rfl rfl <| wa rfl rfl rfl <| zAd <| zAb K1 <| zAc fun _ K14 => zAh <| zAc fun _ K15 => zAa ?_
  refine zAe (v := .agg #[.string (natB a)]) (fun ρ e => zAk (vs := [.string (natB a)]) ty43 (e _ _ rfl) rfl (O11.cells 1 0 rfl rfl)) rfl rfl <| zAe (v := .agg #[.string (natB b)]) (fun ρ e => zAk (vs := [.string (natB b)]) ty43 (e _ _ rfl) rfl (O11.cells 0 0 rfl rfl)) rfl rfl <| zAe (v := .bool true) (fun ρ e => zFr (e _ _ rfl) (e _ _ rfl) (decide_eq_true (by rw [hab]))) rfl rfl <| wa rfl rfl rfl <| zAd <| zAb K15 <| zAl rfl <| zAc fun _ K16 => ?_
  refine zAa <| wa rfl rfl rfl <| zAd <| zAb K16 <| zAz ?_
  refine zA3 ?_
  refine zAg (by intro h; cases h) ?_
  refine zAy (v := .int .i64 0) (fun T hT => res1 rfl T _ (hT 4 _ rfl)) ?_
  exact ⟨_, fun _ => hab, fun _ => rfl, rfl, O11.old⟩
 ·skip
  have O0 : Own Z0 W W [] := Own.start W
  refine zAu (args := [.agg #[.string (natB a)], .agg #[.string (natB b)]]) Tryz.func12 rfl rfl (by simp) ?_
  refine zAc fun _ K1 => zAa ?_
  obtain ⟨g2, w3, r4, O5, hg6, hs7⟩ := zA5 O0 43 (.agg #[.string (natB a)]) rfl
  refine zAe (v := VP g2) (fun ρ e => r4 ρ _ _ _ _ _ _ (e _ _ rfl)) rfl rfl ?_
  obtain ⟨g8, w9, r10, O11, hg12, hs13⟩ := zA5 O5 43 (.agg #[.string (natB b)]) rfl
  refine zAe (v := VP g8) (fun ρ e => r10 ρ _ _ _ _ _ _ (e _ _ rfl)) rfl rfl <| wa rfl rfl rfl <| zAd <| zAb K1 <| zAc fun _ K14 => zAh <| zAc fun _ K15 => zAa ?_
  refine zAe (v := .agg #[.string (natB a)]) (fun ρ e => zAk (vs := [.string (natB a)]) ty43 (e _ _ rfl) rfl (O11.cells 1 0 rfl rfl)) rfl rfl <| zAe (v := .agg #[.string (natB b)]) (fun ρ e => zAk (vs := [.string (natB b)]) ty43 (e _ _ rfl) rfl (O11.cells 0 0 rfl rfl)) rfl rfl <| zAe (v := .bool false) (fun ρ e => zFr (e _ _ rfl) (e _ _ rfl) (decide_eq_false (fun h => hab (zGr ha hb h)))) rfl rfl <| wa rfl rfl rfl <| zAd <| zAb K15 <| zAf rfl <| zAc fun _ K16 => ?_
  refine zAa <| wf (q := 0) zB3 rfl rfl rfl rfl <| wd ty9 rfl (O11.cell 1 0 rfl rfl) rfl rfl <| zAe (v := .int .i64 0) (fun ρ e => zBx (n := 0) (e _ _ rfl) (zHb (by omega))) rfl rfl <| wf (q := 0) zB3 rfl rfl rfl rfl <| wd ty9 rfl (O11.cell 0 0 rfl rfl) rfl rfl <| zAe (v := .int .i64 1) (fun ρ e => zBx (n := 1) (e _ _ rfl) (zDv (by omega))) rfl rfl <| wc rfl rfl (neq1 (by omega)) rfl rfl ?_
  refine wa rfl rfl rfl <| zAd <| zAb K16 <| zAl rfl <| zAc fun _ K17 => zAc fun _ K18 => zAa <| wf (q := 0) zB3 rfl rfl rfl rfl ?_
  refine wd ty9 rfl (O11.cell 1 0 rfl rfl) rfl rfl <| zAe (v := .int .i64 0) (fun ρ e => zBx (n := 0) (e _ _ rfl) (zHb (by omega))) rfl rfl <| wf (q := 0) zB3 rfl rfl rfl rfl <| wd ty9 rfl (O11.cell 0 0 rfl rfl) rfl rfl <| zAe (v := .int .i64 1) (fun ρ e => zBx (n := 1) (e _ _ rfl) (zDv (by omega))) rfl rfl <| wc rfl rfl (lss1 (by omega)) rfl rfl <| zAd <| zAb K18 ?_
  refine zAl rfl <| zAc fun _ K19 => zAa <| wa rfl rfl rfl <| zAd <| zAb K19 <| zAz ?_
  refine zAg (by intro h; cases h) ?_
  refine zA3 ?_
  refine zAg (by intro h; cases h) ?_
  refine zAy (v := .int .i64 (-1)) (fun T hT => res1 rfl T _ (hT 4 _ rfl)) ?_
  exact ⟨_, fun h => absurd h (by decide), fun h => absurd h hab, rfl, O11.old⟩
 ·skip
  have O0 : Own Z0 W W [] := Own.start W
  refine zAu (args := [.agg #[.string (natB a)], .agg #[.string (natB b)]]) Tryz.func12 rfl rfl (by simp) ?_
  refine zAc fun _ K1 => zAa ?_
  obtain ⟨g2, w3, r4, O5, hg6, hs7⟩ := zA5 O0 43 (.agg #[.string (natB a)]) rfl
  refine zAe (v := VP g2) (fun ρ e => r4 ρ _ _ _ _ _ _ (e _ _ rfl)) rfl rfl ?_
  obtain ⟨g8, w9, r10, O11, hg12, hs13⟩ := zA5 O5 43 (.agg #[.string (natB b)]) rfl
  refine zAe (v := VP g8) (fun ρ e => r10 ρ _ _ _ _ _ _ (e _ _ rfl)) rfl rfl <| wa rfl rfl rfl <| zAd <| zAb K1 <| zAc fun _ K14 => zAh <| zAc fun _ K15 => zAa ?_
  refine zAe (v := .agg #[.string (natB a)]) (fun ρ e => zAk (vs := [.string (natB a)]) ty43 (e _ _ rfl) rfl (O11.cells 1 0 rfl rfl)) rfl rfl <| zAe (v := .agg #[.string (natB b)]) (fun ρ e => zAk (vs := [.string (natB b)]) ty43 (e _ _ rfl) rfl (O11.cells 0 0 rfl rfl)) rfl rfl <| zAe (v := .bool false) (fun ρ e => zFr (e _ _ rfl) (e _ _ rfl) (decide_eq_false (fun h => hab (zGr ha hb h)))) rfl rfl <| wa rfl rfl rfl <| zAd <| zAb K15 <| zAf rfl <| zAc fun _ K16 => ?_
  refine zAa <| wf (q := 0) zB3 rfl rfl rfl rfl <| wd ty9 rfl (O11.cell 1 0 rfl rfl) rfl rfl <| zAe (v := .int .i64 1) (fun ρ e => zBx (n := 1) (e _ _ rfl) (zDv (by omega))) rfl rfl <| wf (q := 0) zB3 rfl rfl rfl rfl <| wd ty9 rfl (O11.cell 0 0 rfl rfl) rfl rfl <| zAe (v := .int .i64 0) (fun ρ e => zBx (n := 0) (e _ _ rfl) (zHb (by omega))) rfl rfl <| wc rfl rfl (neq1 (by omega)) rfl rfl ?_
  refine wa rfl rfl rfl <| zAd <| zAb K16 <| zAl rfl <| zAc fun _ K17 => zAc fun _ K18 => zAa <| wf (q := 0) zB3 rfl rfl rfl rfl ?_
  refine wd ty9 rfl (O11.cell 1 0 rfl rfl) rfl rfl <| zAe (v := .int .i64 1) (fun ρ e => zBx (n := 1) (e _ _ rfl) (zDv (by omega))) rfl rfl <| wf (q := 0) zB3 rfl rfl rfl rfl <| wd ty9 rfl (O11.cell 0 0 rfl rfl) rfl rfl <| zAe (v := .int .i64 0) (fun ρ e => zBx (n := 0) (e _ _ rfl) (zHb (by omega))) rfl rfl <| wc rfl rfl (lss0 (by omega)) rfl rfl <| zAd <| zAb K18 ?_
  refine zAf rfl <| zAj <| zAb K17 <| zAc fun _ K19 => zAa <| wa rfl rfl rfl <| zAd <| zAb K19 ?_
  refine zAz ?_
  refine zA3 ?_
  refine zAg (by intro h; cases h) ?_
  refine zAy (v := .int .i64 1) (fun T hT => res1 rfl T _ (hT 4 _ rfl)) ?_
  exact ⟨_, fun h => absurd h (by decide), fun h => absurd h hab, rfl, O11.old⟩
 ·skip
  have O0 : Own Z0 W W [] := Own.start W
  refine zAu (args := [.agg #[.string (natB a)], .agg #[.string (natB b)]]) Tryz.func12 rfl rfl (by simp) ?_
  refine zAc fun _ K1 => zAa ?_
  obtain ⟨g2, w3, r4, O5, hg6, hs7⟩ := zA5 O0 43 (.agg #[.string (natB a)]) rfl
  refine zAe (v := VP g2) (fun ρ e => r4 ρ _ _ _ _ _ _ (e _ _ rfl)) rfl rfl ?_
  obtain ⟨g8, w9, r10, O11, hg12, hs13⟩ := zA5 O5 43 (.agg #[.string (natB b)]) rfl
  refine zAe (v := VP g8) (fun ρ e => r10 ρ _ _ _ _ _ _ (e _ _ rfl)) rfl rfl <| wa rfl rfl rfl <| zAd <| zAb K1 <| zAc fun _ K14 => zAh <| zAc fun _ K15 => zAa ?_
  refine zAe (v := .agg #[.string (natB a)]) (fun ρ e => zAk (vs := [.string (natB a)]) ty43 (e _ _ rfl) rfl (O11.cells 1 0 rfl rfl)) rfl rfl <| zAe (v := .agg #[.string (natB b)]) (fun ρ e => zAk (vs := [.string (natB b)]) ty43 (e _ _ rfl) rfl (O11.cells 0 0 rfl rfl)) rfl rfl <| zAe (v := .bool false) (fun ρ e => zFr (e _ _ rfl) (e _ _ rfl) (decide_eq_false (fun h => hab (zGr ha hb h)))) rfl rfl <| wa rfl rfl rfl <| zAd <| zAb K15 <| zAf rfl <| zAc fun _ K16 => ?_
  refine zAa <| wf (q := 0) zB3 rfl rfl rfl rfl <| wd ty9 rfl (O11.cell 1 0 rfl rfl) rfl rfl <| zAe (v := .int .i64 1) (fun ρ e => zBx (n := 1) (e _ _ rfl) (zDv (by omega))) rfl rfl <| wf (q := 0) zB3 rfl rfl rfl rfl <| wd ty9 rfl (O11.cell 0 0 rfl rfl) rfl rfl <| zAe (v := .int .i64 1) (fun ρ e => zBx (n := 1) (e _ _ rfl) (zDv (by omega))) rfl rfl <| wc rfl rfl (neq0 (by omega)) rfl rfl ?_
  refine wa rfl rfl rfl <| zAd <| zAb K16 <| zAf rfl <| zAj <| zAn <| zAb K14 <| zAc fun _ K17 => ?_
  refine zAc fun _ K18 => zAa <| wf (q := 0) zB3 rfl rfl rfl rfl <| wd ty9 rfl (O11.cell 1 0 rfl rfl) rfl rfl <| zAe (v := .int .i64 1) (fun ρ e => zBx (n := 1) (e _ _ rfl) (zDv (by omega))) rfl rfl <| zAe (v := .int .i64 0) (fun ρ e => zAi (k := .i64) (u := 1) (v := 1) (e _ _ rfl) (e _ _ rfl) (congrArg some (zAo (by omega) (by omega)))) rfl rfl <| wa rfl rfl rfl <| zAd ?_
  refine zAb K18 <| zAh ?_
  have O19 := O11
  refine zA8 (ι := Nat) (fun q => [(2, VP g2), (3, VP g8), (5, .int .i64 (q : Int))]) (fun q X => (q ≤ 0) ∧ Own Z0 W X [.blk g8 43 #[.string (natB b)], .blk g2 43 #[.string (natB a)]]) (fun q => 1 - q) 0 ⟨Nat.le_refl _, O19⟩ ⟨rfl, rfl, rfl, trivial⟩ (fun q w20 hJ F21 K22 => ?_)
  obtain ⟨i, rfl⟩ : ∃ x, x = q := ⟨_, rfl⟩
  obtain ⟨hi0, O23⟩ := hJ
  try dsimp only at hi0 O23 ⊢
  obtain rfl : i = 0 := by omega
  refine zAc fun _ K24 => zAc fun _ K25 => zAa <| wm rfl rfl rfl <| wc rfl rfl (geq1 (by omega)) rfl rfl <| zAd <| zAb K25 <| zAl rfl ?_
  refine zAj <| zAb K24 <| zAc fun _ K26 => zAh <| zAc fun _ K27 => zAc fun _ K28 => ?_
  refine zA1 (fun X => Own Z0 W X [.blk g8 43 #[.string (natB b)], .blk g2 43 #[.string (natB a)]]) 9 [(0, 1), (1, 0), (2, 1), (3, 1), (4, 1), (5, 0), (6, 1), (7, 1), (8, 1)] (by kernel_rfl) (by kernel_rfl) (PQ.then_ (PQ.then_ (PQ.block (PQ.then_ (PQ.then_ (PQ.block (PQ.then_ PQ.body))))))) (O23).drew ?_
  have O29 := O23.drew
  refine wt1 (v := VP g2) rfl (fun ρ e W => zBd (q := 0) zB3 (e _ _ rfl) rfl) rfl rfl <| wt0 (v := .string (natB a)) rfl (fun ρ e W hW => zAm ty9 (e _ _ rfl) (hW.cell 1 0 rfl rfl)) rfl rfl <| tm rfl rfl rfl rfl <| wt1 (v := .int .u8 (a : Int)) rfl (fun ρ e W => zEm (e _ _ rfl) (e _ _ rfl) (by omega) ha) rfl rfl <| wt1 (v := VP g8) rfl (fun ρ e W => zBd (q := 0) zB3 (e _ _ rfl) rfl) rfl rfl <| wt0 (v := .string (natB b)) rfl (fun ρ e W hW => zAm ty9 (e _ _ rfl) (hW.cell 0 0 rfl rfl)) rfl rfl <| tm rfl rfl rfl rfl <| wt1 (v := .int .u8 (b : Int)) rfl (fun ρ e W => zEm (e _ _ rfl) (e _ _ rfl) (by omega) hb) rfl rfl ?_
  refine wt1 (v := .bool true) rfl (fun ρ e W => zCx (u := (a : Int)) (v := (b : Int)) (e _ _ rfl) (e _ _ rfl) (lss1 (by omega))) rfl rfl <| zBc <| zAb K28 <| zAl rfl <| zAc fun _ K30 => zAa <| wa rfl rfl rfl <| zAd ?_
  refine zAb K30 <| zAz ?_
  refine zAg (by intro h; cases h) ?_
  refine zA3 ?_
  refine zAg (by intro h; cases h) ?_
  refine zAg (by intro h; cases h) ?_
  refine zA3 ?_
  refine zAg (by intro h; cases h) ?_
  refine zAy (v := .int .i64 (-1)) (fun T hT => res1 rfl T _ (hT 4 _ rfl)) ?_
  exact ⟨_, fun h => absurd h (by decide), fun h => absurd h hab, rfl, O29.old⟩
 ·skip
  have O0 : Own Z0 W W [] := Own.start W
  refine zAu (args := [.agg #[.string (natB a)], .agg #[.string (natB b)]]) Tryz.func12 rfl rfl (by simp) ?_
  refine zAc fun _ K1 => zAa ?_
  obtain ⟨g2, w3, r4, O5, hg6, hs7⟩ := zA5 O0 43 (.agg #[.string (natB a)]) rfl
  refine zAe (v := VP g2) (fun ρ e => r4 ρ _ _ _ _ _ _ (e _ _ rfl)) rfl rfl ?_
  obtain ⟨g8, w9, r10, O11, hg12, hs13⟩ := zA5 O5 43 (.agg #[.string (natB b)]) rfl
  refine zAe (v := VP g8) (fun ρ e => r10 ρ _ _ _ _ _ _ (e _ _ rfl)) rfl rfl <| wa rfl rfl rfl <| zAd <| zAb K1 <| zAc fun _ K14 => zAh <| zAc fun _ K15 => zAa ?_
  refine zAe (v := .agg #[.string (natB a)]) (fun ρ e => zAk (vs := [.string (natB a)]) ty43 (e _ _ rfl) rfl (O11.cells 1 0 rfl rfl)) rfl rfl <| zAe (v := .agg #[.string (natB b)]) (fun ρ e => zAk (vs := [.string (natB b)]) ty43 (e _ _ rfl) rfl (O11.cells 0 0 rfl rfl)) rfl rfl <| zAe (v := .bool false) (fun ρ e => zFr (e _ _ rfl) (e _ _ rfl) (decide_eq_false (fun h => hab (zGr ha hb h)))) rfl rfl <| wa rfl rfl rfl <| zAd <| zAb K15 <| zAf rfl <| zAc fun _ K16 => ?_
  refine zAa <| wf (q := 0) zB3 rfl rfl rfl rfl <| wd ty9 rfl (O11.cell 1 0 rfl rfl) rfl rfl <| zAe (v := .int .i64 1) (fun ρ e => zBx (n := 1) (e _ _ rfl) (zDv (by omega))) rfl rfl <| wf (q := 0) zB3 rfl rfl rfl rfl <| wd ty9 rfl (O11.cell 0 0 rfl rfl) rfl rfl <| zAe (v := .int .i64 1) (fun ρ e => zBx (n := 1) (e _ _ rfl) (zDv (by omega))) rfl rfl <| wc rfl rfl (neq0 (by omega)) rfl rfl ?_
  refine wa rfl rfl rfl <| zAd <| zAb K16 <| zAf rfl <| zAj <| zAn <| zAb K14 <| zAc fun _ K17 => ?_
  refine zAc fun _ K18 => zAa <| wf (q := 0) zB3 rfl rfl rfl rfl <| wd ty9 rfl (O11.cell 1 0 rfl rfl) rfl rfl <| zAe (v := .int .i64 1) (fun ρ e => zBx (n := 1) (e _ _ rfl) (zDv (by omega))) rfl rfl <| zAe (v := .int .i64 0) (fun ρ e => zAi (k := .i64) (u := 1) (v := 1) (e _ _ rfl) (e _ _ rfl) (congrArg some (zAo (by omega) (by omega)))) rfl rfl <| wa rfl rfl rfl <| zAd ?_
  refine zAb K18 <| zAh ?_
  have O19 := O11
  refine zA8 (ι := Nat) (fun q => [(2, VP g2), (3, VP g8), (5, .int .i64 (q : Int))]) (fun q X => (q ≤ 0) ∧ Own Z0 W X [.blk g8 43 #[.string (natB b)], .blk g2 43 #[.string (natB a)]]) (fun q => 1 - q) 0 ⟨Nat.le_refl _, O19⟩ ⟨rfl, rfl, rfl, trivial⟩ (fun q w20 hJ F21 K22 => ?_)
  obtain ⟨i, rfl⟩ : ∃ x, x = q := ⟨_, rfl⟩
  obtain ⟨hi0, O23⟩ := hJ
  try dsimp only at hi0 O23 ⊢
  obtain rfl : i = 0 := by omega
  refine zAc fun _ K24 => zAc fun _ K25 => zAa <| wm rfl rfl rfl <| wc rfl rfl (geq1 (by omega)) rfl rfl <| zAd <| zAb K25 <| zAl rfl ?_
  refine zAj <| zAb K24 <| zAc fun _ K26 => zAh <| zAc fun _ K27 => zAc fun _ K28 => ?_
  refine zA1 (fun X => Own Z0 W X [.blk g8 43 #[.string (natB b)], .blk g2 43 #[.string (natB a)]]) 9 [(0, 1), (1, 0), (2, 1), (3, 1), (4, 1), (5, 0), (6, 1), (7, 1), (8, 1)] (by kernel_rfl) (by kernel_rfl) (PQ.then_ (PQ.then_ (PQ.block (PQ.then_ (PQ.then_ (PQ.block (PQ.then_ PQ.body))))))) (O23).drew ?_
  have O29 := O23.drew
  refine wt1 (v := VP g2) rfl (fun ρ e W => zBd (q := 0) zB3 (e _ _ rfl) rfl) rfl rfl <| wt0 (v := .string (natB a)) rfl (fun ρ e W hW => zAm ty9 (e _ _ rfl) (hW.cell 1 0 rfl rfl)) rfl rfl <| tm rfl rfl rfl rfl <| wt1 (v := .int .u8 (a : Int)) rfl (fun ρ e W => zEm (e _ _ rfl) (e _ _ rfl) (by omega) ha) rfl rfl <| wt1 (v := VP g8) rfl (fun ρ e W => zBd (q := 0) zB3 (e _ _ rfl) rfl) rfl rfl <| wt0 (v := .string (natB b)) rfl (fun ρ e W hW => zAm ty9 (e _ _ rfl) (hW.cell 0 0 rfl rfl)) rfl rfl <| tm rfl rfl rfl rfl <| wt1 (v := .int .u8 (b : Int)) rfl (fun ρ e W => zEm (e _ _ rfl) (e _ _ rfl) (by omega) hb) rfl rfl ?_
  refine wt1 (v := .bool false) rfl (fun ρ e W => zCx (u := (a : Int)) (v := (b : Int)) (e _ _ rfl) (e _ _ rfl) (lss0 (by omega))) rfl rfl <| zBc <| zAb K28 <| zAf rfl <| zAj <| zAb K27 <| zAc fun _ K30 => ?_
  refine zA1 (fun X => Own Z0 W X [.blk g8 43 #[.string (natB b)], .blk g2 43 #[.string (natB a)]]) 9 [(0, 1), (1, 0), (2, 1), (3, 1), (4, 1), (5, 0), (6, 1), (7, 1), (8, 1)] (by kernel_rfl) (by kernel_rfl) (PQ.then_ (PQ.block (PQ.then_ (PQ.then_ (PQ.block (PQ.then_ PQ.body)))))) (O29).drew ?_
  have O31 := O29.drew
  refine wt1 (v := VP g2) rfl (fun ρ e W => zBd (q := 0) zB3 (e _ _ rfl) rfl) rfl rfl <| wt0 (v := .string (natB a)) rfl (fun ρ e W hW => zAm ty9 (e _ _ rfl) (hW.cell 1 0 rfl rfl)) rfl rfl <| tm rfl rfl rfl rfl <| wt1 (v := .int .u8 (a : Int)) rfl (fun ρ e W => zEm (e _ _ rfl) (e _ _ rfl) (by omega) ha) rfl rfl <| wt1 (v := VP g8) rfl (fun ρ e W => zBd (q := 0) zB3 (e _ _ rfl) rfl) rfl rfl <| wt0 (v := .string (natB b)) rfl (fun ρ e W hW => zAm ty9 (e _ _ rfl) (hW.cell 0 0 rfl rfl)) rfl rfl <| tm rfl rfl rfl rfl <| wt1 (v := .int .u8 (b : Int)) rfl (fun ρ e W => zEm (e _ _ rfl) (e _ _ rfl) (by omega) hb) rfl rfl ?_
  refine wt1 (v := .bool true) rfl (fun ρ e W => zCx (u := (a : Int)) (v := (b : Int)) (e _ _ rfl) (e _ _ rfl) (gtr1 (by omega))) rfl rfl <| zBc <| zAb K30 <| zAl rfl <| zAc fun _ K32 => zAa <| wa rfl rfl rfl <| zAd ?_
  refine zAb K32 <| zAz ?_
  refine zA3 ?_
  refine zAg (by intro h; cases h) ?_
  refine zAg (by intro h; cases h) ?_
  refine zA3 ?_
  refine zAg (by intro h; cases h) ?_
  refine zAy (v := .int .i64 1) (fun T hT => res1 rfl T _ (hT 4 _ rfl)) ?_
  exact ⟨_, fun h => absurd h (by decide), fun h => absurd h hab, rfl, O31.old⟩

end Go.Proofs.YtliiclmhpphpmaaGreatDoor
namespace Go.Proofs.YtliiclmhpphpmaaGreatDoor
open Go Go.RowKit
theorem zJm {W : World} (s : VS) (hs : Small s) (hT : TabT W) : Calls Tryz.prog 58 #[.agg #[.int .u64 (s.a.toNat : Int), .int .u64 (s.b.toNat : Int)]] W fun e w' => ∃ A c, e = .returned (.slice A s.sz c) ∧ Own Z0 W w' [.row (.slice A s.sz c) 3 1 s.sz (intCs (bitsL s.a.toNat))] := by
 have h := list_ s.a.toNat hs.a hT
 rw [hs.len] at h
 rw [hs.b]
 exact h
def natCs (l : List Nat) : List Value := l.map fun m => .string (natB m)
theorem natCs_zero (n : Nat) : List.replicate n (Value.string ⟨#[]⟩) = natCs (List.replicate n 0) := by unfold natCs; rw [List.map_replicate]; rfl
theorem zCh {l : List Nat} {k m : Nat} (h : l[k]? = some m) : (natCs l).toArray[k]? = some (.string (natB m)) := by simp [natCs, h]
theorem zCg (l : List Nat) (k m : Nat) : setN (natCs l).toArray k [.string (natB m)] = (natCs (l.set k m)).toArray := by simp [setN, natCs, List.map_set]
theorem cells1 {w : World} {g o : Nat} {a : Value} (h0 : w.cell? ⟨g, o, none⟩ = some a) : ∀ j v, [a][j]? = some v → w.cell? ⟨g, o + j, none⟩ = some v := by
 intro j v hj
 cases j with
 | zero => exact h0.trans hj
 | succ j => simp at hj
theorem own_makeU {Z : Bool → Nat → Prop} {w0 w : World} {L : List En} (O : Own Z w0 w L) {T e bytes : Nat} {z u : Value} (E : El T e 1 bytes z) (hz1 : z.cells = #[u]) (n : Nat) (hb : bytes ≤ 16) (hn : n ≤ 1000000000) {cs : Array Value} (hc : (List.replicate n u).toArray = cs) :
  ∃ g w', (∀ (ρ : Operand → Value) x y d t pos aft gd, ρ x = .int .i64 (n : Int) → ρ y = .int .i64 (n : Int) → (execOp ρ ⟨d, .makeSlice T x y, t, pos, aft, gd⟩).run Tryz.prog w = .ok (.value (VS0 g n n)) w') ∧ Own Z w0 w' (.blk g e cs :: L) ∧ w.heap.size = g ∧ w'.heap.size = g + 1 := by
 subst hc
 obtain ⟨i, hi, hz, hsz, hby⟩ := info_parts E.info
 have hb8 : ((i.bytes : Nat) : Int) * (n : Int) ≤ 281474976710656 := by
  rw [hby]
  have h1 : bytes * n ≤ 16 * n := Nat.mul_le_mul_right n hb
  have h2 : ((bytes * n : Nat) : Int) ≤ 281474976710656 := by omega
  rwa [Int.natCast_mul] at h2
 have hr := run_make (P := Tryz.prog) w T e i z E.under hi hz .i64 .i64 n n (by omega) (by omega) hb8 (by omega)
 rw [hsz, hz1, Int.toNat_natCast, Nat.mul_one, made1] at hr
 refine ⟨w.heap.size, _, fun ρ x y d t pos aft gd hx hy => ?_, O.newb ((Below.refl _ _).alloc (Nat.le_refl _) _) (Blk.new w e _) rfl, rfl, by simp⟩
 simp only [execOp, hx, hy, Sem.run_bind, hr, Result.andThen_ok, Sem.run_pure]
theorem zG9 {g : Gate} {o : List VS} {so : VS} {c : List Nat} (h : g.kind = 0 ∨ g.kind = 4) : nodeC g o so c = sumC o so c (g.inp.take g.inp.length) := by unfold nodeC; rw [if_pos h, List.take_length]
theorem zF2 {g : Gate} {o : List VS} {so : VS} {c : List Nat} (h : ¬ (g.kind = 0 ∨ g.kind = 4)) : nodeC g o so c = prodC c (g.inp.take g.inp.length) := by unfold nodeC; rw [if_neg h, List.take_length]
theorem nshort_ {W : World} {V : Value} {B : List Gate} {N : Nat} (hG : GatesV W W.heap.size V B) (hw : WfN (N : Int) B) (hp : 0 < B.length) (hlen : B.length ≤ 65536) (hN6 : N ≤ 6) (hd : DD B) (hT : TabT W) : Calls Tryz.prog 55 #[.agg #[.int .i64 (N : Int), V]] W fun e w' => e = .returned (.bool true) ∧ Below W.heap.size W w' := by
 obtain ⟨b, o, c, rfl, hbW⟩ := zCt hG hp
 have O0 := (Own.start W).oldro (D := TabE) (p := TabT) (zB7 hT)
 refine zAu (args := [.agg #[.int .i64 (N : Int), .slice (some ⟨b, o, none⟩) B.length c]]) Tryz.func55 rfl rfl (by simp) ?_
 refine zAc fun _ K1 => zAa ?_
 obtain ⟨g2, w3, r4, O5, hg6, hs7⟩ := zA5 O0 39 (.agg #[.int .i64 (N : Int), .slice (some ⟨b, o, none⟩) B.length c]) rfl
 refine zAe (v := VP g2) (fun ρ e => r4 ρ _ _ _ _ _ _ (e _ _ rfl)) rfl rfl <| wa rfl rfl rfl <| nx K1 fun _ K8 => zAe (v := .agg #[.int .i64 (N : Int), .slice (some ⟨b, o, none⟩) B.length c]) (fun ρ e => zAk (vs := [.int .i64 (N : Int), .slice (some ⟨b, o, none⟩) B.length c]) ty39 (e _ _ rfl) rfl (O5.cells 0 0 rfl rfl)) rfl rfl ?_
 refine zAs (args := [.agg #[.int .i64 (N : Int), .slice (some ⟨b, o, none⟩) B.length c]]) in_56 rfl rfl rfl ?_
 refine (zJh (zBv hG O5.old) hw hp hlen (by omega) (by omega)).mono ?_
 rintro _ w10 ⟨g9, rfl, h11⟩
 have O12 := zBr O5 h11
 refine ⟨_, rfl, ?_⟩
 refine wa rfl rfl rfl <| nx K8 fun _ K13 => wf (q := 1) zCw rfl rfl rfl rfl <| wd ty37 rfl (O12.cell 1 1 rfl rfl) rfl rfl <| wz el37 rfl rfl rfl ?_
 obtain ⟨g14, w15, r16, O17, hg18, hs19⟩ := own_makeU O12 ap116 rfl B.length (by decide) (by omega) (cs := (natCs (padC B 0)).toArray) (by rw [padC_zero, natCs_zero])
 refine zAe (v := VS0 g14 B.length B.length) (fun ρ e => r16 ρ _ _ _ _ _ _ _ (e _ _ rfl) (e _ _ rfl)) rfl rfl <| wa rfl rfl rfl <| zAd <| zAb K13 <| zAc fun _ K20 => zAc fun _ K21 => zAa <| wf (q := 1) zCw rfl rfl rfl rfl ?_
 refine wd ty37 rfl (O17.cell 2 1 rfl rfl) rfl rfl <| wz el37 rfl rfl rfl <| wm rfl rfl rfl <| zAd <| zAb K21 <| zAh ?_
 have O22 := (O17.re [0, 1, 3] rfl)
 refine zA8 (ι := Nat) (fun q => [(3, VS0 g9 B.length B.length), (4, VS0 g14 B.length B.length), (17, .slice (some ⟨b, o, none⟩) B.length c), (18, .int .i64 ((B.length : Nat) : Int)), (19, .int .i64 (q : Int))]) (fun q X => (q ≤ B.length) ∧ Own Z0 W X [.blk g14 43 ((natCs (padC B q)).toArray), .blk g9 25 ((vcells (ownTo B B.length)).toArray), .ro TabE TabT]) (fun q => B.length - q) 0 ⟨Nat.zero_le _, O22⟩ ⟨rfl, rfl, rfl, rfl, rfl, trivial⟩ (fun q w23 hJ F24 K25 => ?_)
 obtain ⟨i, rfl⟩ : ∃ x, x = q := ⟨_, rfl⟩
 obtain ⟨hi0, O26⟩ := hJ
 try dsimp only at hi0 O26 ⊢
 by_cases hi : i < B.length
 ·skip
  obtain ⟨g, hx⟩ : ∃ g, B[i]? = some g := ⟨B[i], List.getElem?_eq_getElem hi⟩
  obtain ⟨u, q0, q1, q2, hI⟩ := zHa hG hx
  have hok := hw i g hx
  have hil := hI.small
  obtain ⟨A2, c2, rfl⟩ := hI.slice
  refine zAc fun _ K27 => zAa <| wc rfl rfl (lss1 (by omega)) rfl rfl <| zAd <| zAb K27 <| zAc fun _ K28 => zAl rfl <| zAj ?_
  refine zAb K28 <| zAc fun _ K29 => zAh <| zAc fun _ K30 => zAa <| wm rfl rfl rfl <| wi (q := o + i * 3) (i := i) el37 rfl rfl (by omega) (by omega) rfl rfl <| zAe (v := .agg #[.int .i64 g.kind, .int .i64 g.lit, .slice A2 g.inp.length c2]) (fun ρ e => zAk (vs := [.int .i64 g.kind, .int .i64 g.lit, .slice A2 g.inp.length c2]) ty73 (e _ _ rfl) rfl (cells3 ((O26.old.cell (p := ⟨b, o + i * 3, none⟩) hbW).trans q0) ((O26.old.cell (p := ⟨b, o + i * 3 + 1, none⟩) hbW).trans q1) ((O26.old.cell (p := ⟨b, o + i * 3 + 2, none⟩) hbW).trans q2))) rfl rfl ?_
  obtain ⟨g31, w32, r33, O34, hg35, hs36⟩ := zAw O26 73 ze73 rfl
  refine zAe (v := VP g31) (fun ρ e => r33 ρ _ _ _ _ _) rfl rfl <| wa rfl rfl rfl ?_
  obtain ⟨w37, r38, O39, hs40⟩ := zAp (o := 0) (n := 3) O34 ty73 (.agg #[.int .i64 g.kind, .int .i64 g.lit, .slice A2 g.inp.length c2]) _ (cs' := #[.int .i64 g.kind, .int .i64 g.lit, .slice A2 g.inp.length c2]) rfl rfl rfl (Nat.le_of_ble_eq_true rfl) rfl
  refine zAv (fun ρ e => r38 ρ _ _ _ _ _ _ (e _ _ rfl) (e _ _ rfl)) rfl <| nx K30 fun _ K41 => ?_
  refine zAs (args := [.int .u64 1]) in_13 rfl rfl rfl ?_
  refine (of_ (W := w37) (m := 1) (by decide)).mono ?_
  rintro _ w42 ⟨rfl, hb43⟩
  have O44 := O39.below hb43
  refine ⟨_, rfl, ?_⟩
  obtain ⟨g45, w46, r47, O48, hg49, hs50⟩ := zAw O44 43 ze43 rfl
  refine zAe (v := VP g45) (fun ρ e => r47 ρ _ _ _ _ _) rfl rfl ?_
  obtain ⟨w51, r52, O53, hs54⟩ := zAp (o := 0) (n := 1) O48 ty43 (.agg #[.string (natB 1)]) _ (cs' := #[.string (natB 1)]) rfl rfl rfl (Nat.le_of_ble_eq_true rfl) rfl
  refine zAv (fun ρ e => r52 ρ _ _ _ _ _ _ (e _ _ rfl) (e _ _ rfl)) rfl <| zAd <| zAb K41 <| zAc fun _ K55 => zAc fun _ K56 => zAa <| wf (q := 0) zBy rfl rfl rfl rfl <| wd ty3 rfl (O53.cell 1 0 rfl rfl) rfl rfl ?_
  by_cases c57 : g.kind = 0
  ·skip
   have hks : g.kind = 0 ∨ g.kind = 4 := by omega
   refine wc rfl rfl (eql1 (by omega)) rfl rfl <| wm rfl rfl rfl <| zAq rfl rfl <| zAq rfl rfl <| zAq rfl rfl <| zAe (v := .bool true) (fun ρ e => zBa (e _ _ rfl) (e _ _ rfl)) rfl rfl <| zAd <| zAb K56 ?_
   refine zAl rfl <| zAa <| zAe (v := .agg #[.string (⟨#[]⟩)]) (fun ρ e => zBe (cells := #[.string (⟨#[]⟩)]) st43 (e.parts rfl) rfl) rfl rfl ?_
   obtain ⟨w58, r59, O60, hs61⟩ := zAp (o := 0) (n := 1) O53 ty43 (.agg #[.string (⟨#[]⟩)]) [.string (⟨#[]⟩)] (cs' := #[.string (⟨#[]⟩)]) rfl rfl rfl (Nat.le_of_ble_eq_true rfl) rfl
   refine zAv (fun ρ e => r59 ρ _ _ _ _ _ _ (e _ _ rfl) (e _ _ rfl)) rfl <| zAd <| zAb K55 <| zAc fun _ K62 => zAc fun _ K63 => zAa <| wf (q := 2) zB0 rfl rfl rfl rfl <| wd ty57 rfl (O60.cell 1 2 rfl rfl) rfl rfl ?_
   refine wz el57 rfl rfl rfl <| wm rfl rfl rfl <| zAd <| zAb K63 <| zAh ?_
   have O64 := (O60.re [0, 2, 3, 1, 4] rfl)
   refine zA8 (ι := Nat) (fun q => [(3, VS0 g9 B.length B.length), (4, VS0 g14 B.length B.length), (5, .int .i64 (i : Int)), (6, VP g31), (7, VP g45), (17, .slice (some ⟨b, o, none⟩) B.length c), (18, .int .i64 ((B.length : Nat) : Int)), (19, .int .i64 (i : Int)), (35, .slice A2 g.inp.length c2), (36, .int .i64 ((g.inp.length : Nat) : Int)), (37, .int .i64 (q : Int))]) (fun q X => (q ≤ g.inp.length) ∧ Own Z0 W X [.blk g45 43 #[.string (natB (sumC (ownTo B B.length) (own B (i : Int)) (cntTo B i) (g.inp.take q)))], .blk g14 43 ((natCs (padC B i)).toArray), .blk g9 25 ((vcells (ownTo B B.length)).toArray), .blk g31 73 #[.int .i64 g.kind, .int .i64 g.lit, .slice A2 g.inp.length c2], .ro TabE TabT]) (fun q => g.inp.length - q) 0 ⟨Nat.zero_le _, O64⟩ ⟨rfl, rfl, rfl, rfl, rfl, rfl, rfl, rfl, rfl, rfl, rfl, trivial⟩ (fun q w65 hJ F66 K67 => ?_)
   obtain ⟨k, rfl⟩ : ∃ x, x = q := ⟨_, rfl⟩
   obtain ⟨hk0, O68⟩ := hJ
   try dsimp only at hk0 O68 ⊢
   by_cases hk : k < g.inp.length
   ·skip
    obtain ⟨xv, hk2⟩ : ∃ x, g.inp[k]? = some x := ⟨g.inp[k], List.getElem?_eq_getElem hk⟩
    obtain ⟨hv0, hv1⟩ := hok.1 xv (List.mem_of_getElem? hk2)
    obtain ⟨n, rfl⟩ : ∃ n : Nat, xv = (n : Int) := ⟨xv.toNat, by omega⟩
    obtain ⟨b2, o2, c3, hv⟩ := hI.form (by omega)
    injection hv with hA _ hc3
    subst hA hc3
    obtain ⟨h01, h2, h34, hkk⟩ := zCv hok
    have hcc := zJq hw hd hN6 hx (List.mem_of_getElem? hk2)
    have hk4 : g.kind = 4 := by omega
    have hpk := zDs hw hd hN6 hx hk4 k
    have hpk2 := zDs hw hd hN6 hx hk4 (k + 1)
    have hpe := zG0 (o := ownTo B B.length) (so := (own B (i : Int))) (c := cntTo B i) hk2
    obtain ⟨hin, hsub⟩ := zI3 hw hx (List.mem_of_getElem? hk2)
    have hsm : Small ((own B (i : Int)).minus (sv (ownTo B B.length) (n : Int))) := (zG7 hw hN6 (zEh hx)).minus
    have hsz : ((own B (i : Int)).minus (sv (ownTo B B.length) (n : Int))).sz ≤ 6 := Nat.le_trans (zGs hsub) (Nat.le_trans (zHt hw (zEh hx)) hN6)
    have hpw : 2 ^ ((own B (i : Int)).minus (sv (ownTo B B.length) (n : Int))).sz ≤ 2 ^ 6 := Nat.pow_le_pow_right (by decide) hsz
    refine zAc fun _ K69 => zAa <| wc rfl rfl (lss1 (by omega)) rfl rfl <| zAd <| zAb K69 <| zAc fun _ K70 => zAl rfl <| zAj ?_
    refine zAb K70 <| zAc fun _ K71 => zAh <| zAc fun _ K72 => zAa <| wi (q := o2 + k) (i := k) el57 rfl rfl (by omega) (by omega) rfl rfl <| wd (v := .int .i64 (n : Int)) ty3 rfl ((zBs O68.old hI (fun k hk => hk)).at_ hk2) rfl rfl <| wa rfl rfl rfl ?_
    refine zAd <| zAb K72 <| zAc fun _ K73 => zAc fun _ K74 => zAa <| wf (q := 0) zBy rfl rfl rfl rfl <| wd ty3 rfl (O68.cell 3 0 rfl rfl) rfl rfl <| wc rfl rfl (eql0 (by omega)) rfl rfl ?_
    refine zAd <| zAb K74 <| zAf rfl ?_
    refine zA1 (fun X => Own Z0 W X [.blk g45 43 #[.string (natB (sumC (ownTo B B.length) (own B (i : Int)) (cntTo B i) (g.inp.take k)))], .blk g14 43 ((natCs (padC B i)).toArray), .blk g9 25 ((vcells (ownTo B B.length)).toArray), .blk g31 73 #[.int .i64 g.kind, .int .i64 g.lit, .slice (some ⟨b2, o2, none⟩) g.inp.length c2], .ro TabE TabT]) 19 [(0, 0), (1, 1), (2, 1), (3, 1), (4, 0), (5, 1), (6, 1), (7, 1), (8, 0), (9, 1), (10, 1), (11, 1), (12, 0), (13, 2), (14, 2), (15, 1), (16, 2), (17, 2), (18, 2), (19, 3)] (by kernel_rfl) (by kernel_rfl) (PQ.then_ (PQ.block (PQ.then_ (PQ.then_ (PQ.block (PQ.then_ (PQ.block (PQ.then_ (PQ.then_ (PQ.block (PQ.then_ PQ.body))))))))))) (O68).drew ?_
    have O75 := O68.drew
    refine wt0 (v := .agg #[.string (natB (sumC (ownTo B B.length) (own B (i : Int)) (cntTo B i) (g.inp.take k)))]) rfl (fun ρ e W hW => zAk (vs := [.string (natB (sumC (ownTo B B.length) (own B (i : Int)) (cntTo B i) (g.inp.take k)))]) ty43 (e _ _ rfl) rfl (hW.cells 0 0 rfl rfl)) rfl rfl <| tm rfl rfl rfl rfl <| tm rfl rfl rfl rfl <| wt1 (v := .pointer (some ⟨g14, n, none⟩)) rfl (fun ρ e W => zA9 (q := n) (i := n) el116 (e _ _ rfl) (e _ _ rfl) (by omega) (by omega)) rfl rfl <| wt0 (v := .agg #[.string (natB (cc (cntTo B i) (n : Int)))]) rfl (fun ρ e W hW => zAk (vs := [.string (natB (cc (cntTo B i) (n : Int)))]) ty43 (e _ _ rfl) rfl (cells1 (((hW.blk 1 rfl).cell _).trans (zCh (zGo (by omega) hi0))))) rfl rfl ?_
    refine tm rfl rfl rfl rfl <| tm rfl rfl rfl rfl <| wt1 (v := .pointer (some ⟨g9, i * 2, none⟩)) rfl (fun ρ e W => zA9 (q := i * 2) (i := i) el58 (e _ _ rfl) (e _ _ rfl) (by omega) (by omega)) rfl rfl <| wt0 (v := .agg #[.int .u64 ((own B (i : Int)).a.toNat : Int), .int .u64 ((own B (i : Int)).b.toNat : Int)]) rfl (fun ρ e W hW => zAk (vs := [.int .u64 ((own B (i : Int)).a.toNat : Int), .int .u64 ((own B (i : Int)).b.toNat : Int)]) ty25 (e _ _ rfl) rfl (cells2 (((hW.blk 2 rfl).cell _).trans (getV0 (zB4 (by omega)))) (((hW.blk 2 rfl).cell _).trans (getV1 (zB4 (by omega)))))) rfl rfl ?_
    refine tm rfl rfl rfl rfl <| tm rfl rfl rfl rfl <| wt1 (v := .pointer (some ⟨g9, n * 2, none⟩)) rfl (fun ρ e W => zA9 (q := n * 2) (i := n) el58 (e _ _ rfl) (e _ _ rfl) (by omega) (by omega)) rfl rfl <| wt0 (v := .agg #[.int .u64 ((sv (ownTo B B.length) (n : Int)).a.toNat : Int), .int .u64 ((sv (ownTo B B.length) (n : Int)).b.toNat : Int)]) rfl (fun ρ e W hW => zAk (vs := [.int .u64 ((sv (ownTo B B.length) (n : Int)).a.toNat : Int), .int .u64 ((sv (ownTo B B.length) (n : Int)).b.toNat : Int)]) ty25 (e _ _ rfl) rfl (cells2 (((hW.blk 2 rfl).cell _).trans (getV0 (zB4 (by omega)))) (((hW.blk 2 rfl).cell _).trans (getV1 (zB4 (by omega)))))) rfl rfl ?_
    refine zA7 (args := [.agg #[.int .u64 ((own B (i : Int)).a.toNat : Int), .int .u64 ((own B (i : Int)).b.toNat : Int)], .agg #[.int .u64 ((sv (ownTo B B.length) (n : Int)).a.toNat : Int), .int .u64 ((sv (ownTo B B.length) (n : Int)).b.toNat : Int)]]) rfl in_59 rfl rfl rfl ?_
    refine (zEt (own B (i : Int)).a (own B (i : Int)).b (sv (ownTo B B.length) (n : Int)).a (sv (ownTo B B.length) (n : Int)).b w65.drew).mono ?_
    rintro _ w76 ⟨rfl, hb77⟩
    have O78 := O75.below hb77
    refine ⟨_, rfl, O78, ?_⟩
    refine zA7 (args := [.agg #[.int .u64 (((own B (i : Int)).minus (sv (ownTo B B.length) (n : Int))).a.toNat : Int), .int .u64 (((own B (i : Int)).minus (sv (ownTo B B.length) (n : Int))).b.toNat : Int)]]) rfl in_58 rfl rfl rfl ?_
    refine (zJm (W := w76) ((own B (i : Int)).minus (sv (ownTo B B.length) (n : Int))) hsm (O78.ro 4 rfl)).mono ?_
    rintro _ w81 ⟨A79, c80, rfl, h82⟩
    have O83 := zFk O78 h82
    refine ⟨_, rfl, (O83.re [1, 2, 3, 4, 5] rfl), ?_⟩
    refine wt1 (v := .int .i64 ((((own B (i : Int)).minus (sv (ownTo B B.length) (n : Int))).sz : Nat) : Int)) rfl (fun ρ e W => zGn el57 (e _ _ rfl)) rfl rfl ?_
    refine zA7 (args := [.int .i64 ((((own B (i : Int)).minus (sv (ownTo B B.length) (n : Int))).sz : Nat) : Int)]) rfl in_82 rfl rfl rfl ?_
    refine (pow2_ (W := w81) (k := ((own B (i : Int)).minus (sv (ownTo B B.length) (n : Int))).sz) (by omega)).mono ?_
    rintro _ w84 ⟨rfl, hb85⟩
    have O86 := O83.below hb85
    refine ⟨_, rfl, (O86.re [1, 2, 3, 4, 5] rfl), ?_⟩
    refine zA7 (args := [.agg #[.string (natB (cc (cntTo B i) (n : Int)))], .agg #[.string (natB (2 ^ ((own B (i : Int)).minus (sv (ownTo B B.length) (n : Int))).sz))]]) rfl zJo rfl rfl rfl ?_
    refine (mul_ (W := w84) (a := (cc (cntTo B i) (n : Int))) (b := 2 ^ ((own B (i : Int)).minus (sv (ownTo B B.length) (n : Int))).sz) (by omega) (by omega) (by omega)).mono ?_
    rintro _ w87 ⟨rfl, hb88⟩
    have O89 := O86.below hb88
    refine ⟨_, rfl, (O89.re [1, 2, 3, 4, 5] rfl), ?_⟩
    refine zA7 (args := [.agg #[.string (natB (sumC (ownTo B B.length) (own B (i : Int)) (cntTo B i) (g.inp.take k)))], .agg #[.string (natB ((cc (cntTo B i) (n : Int)) * 2 ^ ((own B (i : Int)).minus (sv (ownTo B B.length) (n : Int))).sz))]]) rfl in_63 rfl rfl rfl ?_
    refine (add_ (W := w87) (a := (sumC (ownTo B B.length) (own B (i : Int)) (cntTo B i) (g.inp.take k))) (b := (cc (cntTo B i) (n : Int)) * 2 ^ ((own B (i : Int)).minus (sv (ownTo B B.length) (n : Int))).sz) (by omega)).mono ?_
    rintro _ w90 ⟨rfl, hb91⟩
    have O92 := O89.below hb91
    refine ⟨_, rfl, (O92.re [1, 2, 3, 4, 5] rfl), ?_⟩
    obtain ⟨w93, r94, O95, hs96⟩ := zAp (o := 0) (n := 1) (O92.re [1, 0, 2, 3, 4, 5] rfl) ty43 (.agg #[.string (natB ((sumC (ownTo B B.length) (own B (i : Int)) (cntTo B i) (g.inp.take k)) + (cc (cntTo B i) (n : Int)) * 2 ^ ((own B (i : Int)).minus (sv (ownTo B B.length) (n : Int))).sz))]) _ (cs' := #[.string (natB ((sumC (ownTo B B.length) (own B (i : Int)) (cntTo B i) (g.inp.take k)) + (cc (cntTo B i) (n : Int)) * 2 ^ ((own B (i : Int)).minus (sv (ownTo B B.length) (n : Int))).sz))]) rfl rfl rfl (Nat.le_of_ble_eq_true rfl) rfl
    refine zBf rfl (fun ρ e => r94 ρ _ _ _ _ _ _ (e _ _ rfl) (e _ _ rfl)) rfl <| zBc <| zAb K73 <| zAc fun _ K97 => zAa <| zAe (v := .agg #[.string (natB ((sumC (ownTo B B.length) (own B (i : Int)) (cntTo B i) (g.inp.take k)) + (cc (cntTo B i) (n : Int)) * 2 ^ ((own B (i : Int)).minus (sv (ownTo B B.length) (n : Int))).sz))]) (fun ρ e => zAk (vs := [.string (natB ((sumC (ownTo B B.length) (own B (i : Int)) (cntTo B i) (g.inp.take k)) + (cc (cntTo B i) (n : Int)) * 2 ^ ((own B (i : Int)).minus (sv (ownTo B B.length) (n : Int))).sz))]) ty43 (e _ _ rfl) rfl (O95.cells 0 0 rfl rfl)) rfl rfl ?_
    refine zAs (args := [.agg #[.string (natB ((sumC (ownTo B B.length) (own B (i : Int)) (cntTo B i) (g.inp.take k)) + (cc (cntTo B i) (n : Int)) * 2 ^ ((own B (i : Int)).minus (sv (ownTo B B.length) (n : Int))).sz))]]) in_83 rfl rfl rfl ?_
    refine (len_ (W := w93) (m := ((sumC (ownTo B B.length) (own B (i : Int)) (cntTo B i) (g.inp.take k)) + (cc (cntTo B i) (n : Int)) * 2 ^ ((own B (i : Int)).minus (sv (ownTo B B.length) (n : Int))).sz)) (by omega)).mono ?_
    rintro _ w100 ⟨r98, hr99, rfl, hb101⟩
    have O102 := O95.below hb101
    refine ⟨_, rfl, ?_⟩
    refine wc rfl rfl (gtr0 (by omega)) rfl rfl <| zAd <| zAb K97 <| zAf rfl <| zAj <| zAn <| zAb K71 <| zAa ?_
    refine zAe (v := .int .i64 ((k + 1 : Nat) : Int)) (fun ρ e => zAi (k := .i64) (u := (k : Int)) (v := 1) (e _ _ rfl) (e _ _ rfl) (congrArg some ((congrArg _ (by omega)).trans (zAo (u := ((k + 1 : Nat) : Int)) (by omega) (by omega))))) rfl rfl <| wm rfl rfl rfl <| zAd ?_
    have O103 : Own Z0 W w100 [.blk g45 43 #[.string (natB (sumC (ownTo B B.length) (own B (i : Int)) (cntTo B i) (g.inp.take (k + 1))))], .blk g14 43 ((natCs (padC B i)).toArray), .blk g9 25 ((vcells (ownTo B B.length)).toArray), .blk g31 73 #[.int .i64 g.kind, .int .i64 g.lit, .slice (some ⟨b2, o2, none⟩) g.inp.length c2], .ro TabE TabT] := by rw [hpe]; exact (O102.re [0, 2, 3, 4, 5] rfl)
    refine zAt K67 (k + 1) (by show g.inp.length - (k + 1) < g.inp.length - k; omega) ⟨(by show k + 1 ≤ g.inp.length; omega), O103⟩ ⟨rfl, rfl, rfl, rfl, rfl, rfl, rfl, rfl, rfl, rfl, rfl, trivial⟩
   ·have hke : k = g.inp.length := by omega
    subst hke
    refine zAc fun _ K104 => zAa <| wc rfl rfl (lss0 (by omega)) rfl rfl <| zAd <| zAb K104 <| zAc fun _ K105 => zAf rfl <| zA6 ?_
    refine zAg (by intro h; cases h) ?_
    refine zAg (by intro h; cases h) ?_
    refine zA4 <| zAb K62 <| zAa <| wm rfl rfl rfl <| wm rfl rfl rfl <| zAe (v := .agg #[.string (natB (sumC (ownTo B B.length) (own B (i : Int)) (cntTo B i) (g.inp.take g.inp.length)))]) (fun ρ e => zAk (vs := [.string (natB (sumC (ownTo B B.length) (own B (i : Int)) (cntTo B i) (g.inp.take g.inp.length)))]) ty43 (e _ _ rfl) rfl (O68.cells 0 0 rfl rfl)) rfl rfl <| wi (q := i) (i := i) el116 rfl rfl (by omega) (by omega) rfl rfl ?_
    obtain ⟨w106, r107, O108, hs109⟩ := zAp (o := i) (n := 1) (O68.re [1, 0, 2, 3, 4] rfl) ty43 (.agg #[.string (natB (sumC (ownTo B B.length) (own B (i : Int)) (cntTo B i) (g.inp.take g.inp.length)))]) _ (cs' := (natCs (padC B (i + 1))).toArray) rfl rfl rfl (by simp [natCs, zCn B (Nat.le_of_lt hi)]; omega) ((zCg _ _ _).trans (by rw [zDc hx (zG9 hks)]))
    refine zAv (fun ρ e => r107 ρ _ _ _ _ _ _ (e _ _ rfl) (e _ _ rfl)) rfl <| zAd <| zAn <| zAb K29 <| zAa <| zAe (v := .int .i64 ((i + 1 : Nat) : Int)) (fun ρ e => zAi (k := .i64) (u := (i : Int)) (v := 1) (e _ _ rfl) (e _ _ rfl) (congrArg some ((congrArg _ (by omega)).trans (zAo (u := ((i + 1 : Nat) : Int)) (by omega) (by omega))))) rfl rfl <| wm rfl rfl rfl <| zAd ?_
    refine zAt K25 (i + 1) (by show B.length - (i + 1) < B.length - i; omega) ⟨(by show i + 1 ≤ B.length; omega), (O108.re [0, 2, 4] rfl)⟩ ⟨rfl, rfl, rfl, rfl, rfl, trivial⟩
  ·skip
   refine wc rfl rfl (eql0 (by omega)) rfl rfl <| wm rfl rfl rfl <| wf (q := 0) zBy rfl rfl rfl rfl <| wd ty3 rfl (O53.cell 1 0 rfl rfl) rfl rfl ?_
   by_cases c110 : g.kind = 4
   ·skip
    have hks : g.kind = 0 ∨ g.kind = 4 := by omega
    refine wc rfl rfl (eql1 (by omega)) rfl rfl <| zAe (v := .bool true) (fun ρ e => zA2 (e _ _ rfl) (e _ _ rfl)) rfl rfl <| zAd <| zAb K56 <| zAl rfl <| zAa <| zAe (v := .agg #[.string (⟨#[]⟩)]) (fun ρ e => zBe (cells := #[.string (⟨#[]⟩)]) st43 (e.parts rfl) rfl) rfl rfl ?_
    obtain ⟨w111, r112, O113, hs114⟩ := zAp (o := 0) (n := 1) O53 ty43 (.agg #[.string (⟨#[]⟩)]) [.string (⟨#[]⟩)] (cs' := #[.string (⟨#[]⟩)]) rfl rfl rfl (Nat.le_of_ble_eq_true rfl) rfl
    refine zAv (fun ρ e => r112 ρ _ _ _ _ _ _ (e _ _ rfl) (e _ _ rfl)) rfl <| zAd <| zAb K55 <| zAc fun _ K115 => zAc fun _ K116 => zAa <| wf (q := 2) zB0 rfl rfl rfl rfl <| wd ty57 rfl (O113.cell 1 2 rfl rfl) rfl rfl ?_
    refine wz el57 rfl rfl rfl <| wm rfl rfl rfl <| zAd <| zAb K116 <| zAh ?_
    have O117 := (O113.re [0, 2, 3, 1, 4] rfl)
    refine zA8 (ι := Nat) (fun q => [(3, VS0 g9 B.length B.length), (4, VS0 g14 B.length B.length), (5, .int .i64 (i : Int)), (6, VP g31), (7, VP g45), (17, .slice (some ⟨b, o, none⟩) B.length c), (18, .int .i64 ((B.length : Nat) : Int)), (19, .int .i64 (i : Int)), (35, .slice A2 g.inp.length c2), (36, .int .i64 ((g.inp.length : Nat) : Int)), (37, .int .i64 (q : Int))]) (fun q X => (q ≤ g.inp.length) ∧ Own Z0 W X [.blk g45 43 #[.string (natB (sumC (ownTo B B.length) (own B (i : Int)) (cntTo B i) (g.inp.take q)))], .blk g14 43 ((natCs (padC B i)).toArray), .blk g9 25 ((vcells (ownTo B B.length)).toArray), .blk g31 73 #[.int .i64 g.kind, .int .i64 g.lit, .slice A2 g.inp.length c2], .ro TabE TabT]) (fun q => g.inp.length - q) 0 ⟨Nat.zero_le _, O117⟩ ⟨rfl, rfl, rfl, rfl, rfl, rfl, rfl, rfl, rfl, rfl, rfl, trivial⟩ (fun q w118 hJ F119 K120 => ?_)
    obtain ⟨k, rfl⟩ : ∃ x, x = q := ⟨_, rfl⟩
    obtain ⟨hk0, O121⟩ := hJ
    try dsimp only at hk0 O121 ⊢
    by_cases hk : k < g.inp.length
    ·skip
     obtain ⟨xv, hk2⟩ : ∃ x, g.inp[k]? = some x := ⟨g.inp[k], List.getElem?_eq_getElem hk⟩
     obtain ⟨hv0, hv1⟩ := hok.1 xv (List.mem_of_getElem? hk2)
     obtain ⟨n, rfl⟩ : ∃ n : Nat, xv = (n : Int) := ⟨xv.toNat, by omega⟩
     obtain ⟨b2, o2, c3, hv⟩ := hI.form (by omega)
     injection hv with hA _ hc3
     subst hA hc3
     obtain ⟨h01, h2, h34, hkk⟩ := zCv hok
     have hcc := zJq hw hd hN6 hx (List.mem_of_getElem? hk2)
     have hk4 : g.kind = 4 := by omega
     have hpk := zDs hw hd hN6 hx hk4 k
     have hpk2 := zDs hw hd hN6 hx hk4 (k + 1)
     have hpe := zG0 (o := ownTo B B.length) (so := (own B (i : Int))) (c := cntTo B i) hk2
     obtain ⟨hin, hsub⟩ := zI3 hw hx (List.mem_of_getElem? hk2)
     have hsm : Small ((own B (i : Int)).minus (sv (ownTo B B.length) (n : Int))) := (zG7 hw hN6 (zEh hx)).minus
     have hsz : ((own B (i : Int)).minus (sv (ownTo B B.length) (n : Int))).sz ≤ 6 := Nat.le_trans (zGs hsub) (Nat.le_trans (zHt hw (zEh hx)) hN6)
     have hpw : 2 ^ ((own B (i : Int)).minus (sv (ownTo B B.length) (n : Int))).sz ≤ 2 ^ 6 := Nat.pow_le_pow_right (by decide) hsz
     refine zAc fun _ K122 => zAa <| wc rfl rfl (lss1 (by omega)) rfl rfl <| zAd <| zAb K122 <| zAc fun _ K123 => zAl rfl <| zAj ?_
     refine zAb K123 <| zAc fun _ K124 => zAh <| zAc fun _ K125 => zAa <| wi (q := o2 + k) (i := k) el57 rfl rfl (by omega) (by omega) rfl rfl <| wd (v := .int .i64 (n : Int)) ty3 rfl ((zBs O121.old hI (fun k hk => hk)).at_ hk2) rfl rfl <| wa rfl rfl rfl ?_
     refine zAd <| zAb K125 <| zAc fun _ K126 => zAc fun _ K127 => zAa <| wf (q := 0) zBy rfl rfl rfl rfl <| wd ty3 rfl (O121.cell 3 0 rfl rfl) rfl rfl <| wc rfl rfl (eql0 (by omega)) rfl rfl ?_
     refine zAd <| zAb K127 <| zAf rfl ?_
     refine zA1 (fun X => Own Z0 W X [.blk g45 43 #[.string (natB (sumC (ownTo B B.length) (own B (i : Int)) (cntTo B i) (g.inp.take k)))], .blk g14 43 ((natCs (padC B i)).toArray), .blk g9 25 ((vcells (ownTo B B.length)).toArray), .blk g31 73 #[.int .i64 g.kind, .int .i64 g.lit, .slice (some ⟨b2, o2, none⟩) g.inp.length c2], .ro TabE TabT]) 19 [(0, 0), (1, 1), (2, 1), (3, 1), (4, 0), (5, 1), (6, 1), (7, 1), (8, 0), (9, 1), (10, 1), (11, 1), (12, 0), (13, 2), (14, 2), (15, 1), (16, 2), (17, 2), (18, 2), (19, 3)] (by kernel_rfl) (by kernel_rfl) (PQ.then_ (PQ.block (PQ.then_ (PQ.then_ (PQ.block (PQ.then_ (PQ.block (PQ.then_ (PQ.then_ (PQ.block (PQ.then_ PQ.body))))))))))) (O121).drew ?_
     have O128 := O121.drew
     refine wt0 (v := .agg #[.string (natB (sumC (ownTo B B.length) (own B (i : Int)) (cntTo B i) (g.inp.take k)))]) rfl (fun ρ e W hW => zAk (vs := [.string (natB (sumC (ownTo B B.length) (own B (i : Int)) (cntTo B i) (g.inp.take k)))]) ty43 (e _ _ rfl) rfl (hW.cells 0 0 rfl rfl)) rfl rfl <| tm rfl rfl rfl rfl <| tm rfl rfl rfl rfl <| wt1 (v := .pointer (some ⟨g14, n, none⟩)) rfl (fun ρ e W => zA9 (q := n) (i := n) el116 (e _ _ rfl) (e _ _ rfl) (by omega) (by omega)) rfl rfl <| wt0 (v := .agg #[.string (natB (cc (cntTo B i) (n : Int)))]) rfl (fun ρ e W hW => zAk (vs := [.string (natB (cc (cntTo B i) (n : Int)))]) ty43 (e _ _ rfl) rfl (cells1 (((hW.blk 1 rfl).cell _).trans (zCh (zGo (by omega) hi0))))) rfl rfl ?_
     refine tm rfl rfl rfl rfl <| tm rfl rfl rfl rfl <| wt1 (v := .pointer (some ⟨g9, i * 2, none⟩)) rfl (fun ρ e W => zA9 (q := i * 2) (i := i) el58 (e _ _ rfl) (e _ _ rfl) (by omega) (by omega)) rfl rfl <| wt0 (v := .agg #[.int .u64 ((own B (i : Int)).a.toNat : Int), .int .u64 ((own B (i : Int)).b.toNat : Int)]) rfl (fun ρ e W hW => zAk (vs := [.int .u64 ((own B (i : Int)).a.toNat : Int), .int .u64 ((own B (i : Int)).b.toNat : Int)]) ty25 (e _ _ rfl) rfl (cells2 (((hW.blk 2 rfl).cell _).trans (getV0 (zB4 (by omega)))) (((hW.blk 2 rfl).cell _).trans (getV1 (zB4 (by omega)))))) rfl rfl ?_
     refine tm rfl rfl rfl rfl <| tm rfl rfl rfl rfl <| wt1 (v := .pointer (some ⟨g9, n * 2, none⟩)) rfl (fun ρ e W => zA9 (q := n * 2) (i := n) el58 (e _ _ rfl) (e _ _ rfl) (by omega) (by omega)) rfl rfl <| wt0 (v := .agg #[.int .u64 ((sv (ownTo B B.length) (n : Int)).a.toNat : Int), .int .u64 ((sv (ownTo B B.length) (n : Int)).b.toNat : Int)]) rfl (fun ρ e W hW => zAk (vs := [.int .u64 ((sv (ownTo B B.length) (n : Int)).a.toNat : Int), .int .u64 ((sv (ownTo B B.length) (n : Int)).b.toNat : Int)]) ty25 (e _ _ rfl) rfl (cells2 (((hW.blk 2 rfl).cell _).trans (getV0 (zB4 (by omega)))) (((hW.blk 2 rfl).cell _).trans (getV1 (zB4 (by omega)))))) rfl rfl ?_
     refine zA7 (args := [.agg #[.int .u64 ((own B (i : Int)).a.toNat : Int), .int .u64 ((own B (i : Int)).b.toNat : Int)], .agg #[.int .u64 ((sv (ownTo B B.length) (n : Int)).a.toNat : Int), .int .u64 ((sv (ownTo B B.length) (n : Int)).b.toNat : Int)]]) rfl in_59 rfl rfl rfl ?_
     refine (zEt (own B (i : Int)).a (own B (i : Int)).b (sv (ownTo B B.length) (n : Int)).a (sv (ownTo B B.length) (n : Int)).b w118.drew).mono ?_
     rintro _ w129 ⟨rfl, hb130⟩
     have O131 := O128.below hb130
     refine ⟨_, rfl, O131, ?_⟩
     refine zA7 (args := [.agg #[.int .u64 (((own B (i : Int)).minus (sv (ownTo B B.length) (n : Int))).a.toNat : Int), .int .u64 (((own B (i : Int)).minus (sv (ownTo B B.length) (n : Int))).b.toNat : Int)]]) rfl in_58 rfl rfl rfl ?_
     refine (zJm (W := w129) ((own B (i : Int)).minus (sv (ownTo B B.length) (n : Int))) hsm (O131.ro 4 rfl)).mono ?_
     rintro _ w134 ⟨A132, c133, rfl, h135⟩
     have O136 := zFk O131 h135
     refine ⟨_, rfl, (O136.re [1, 2, 3, 4, 5] rfl), ?_⟩
     refine wt1 (v := .int .i64 ((((own B (i : Int)).minus (sv (ownTo B B.length) (n : Int))).sz : Nat) : Int)) rfl (fun ρ e W => zGn el57 (e _ _ rfl)) rfl rfl ?_
     refine zA7 (args := [.int .i64 ((((own B (i : Int)).minus (sv (ownTo B B.length) (n : Int))).sz : Nat) : Int)]) rfl in_82 rfl rfl rfl ?_
     refine (pow2_ (W := w134) (k := ((own B (i : Int)).minus (sv (ownTo B B.length) (n : Int))).sz) (by omega)).mono ?_
     rintro _ w137 ⟨rfl, hb138⟩
     have O139 := O136.below hb138
     refine ⟨_, rfl, (O139.re [1, 2, 3, 4, 5] rfl), ?_⟩
     refine zA7 (args := [.agg #[.string (natB (cc (cntTo B i) (n : Int)))], .agg #[.string (natB (2 ^ ((own B (i : Int)).minus (sv (ownTo B B.length) (n : Int))).sz))]]) rfl zJo rfl rfl rfl ?_
     refine (mul_ (W := w137) (a := (cc (cntTo B i) (n : Int))) (b := 2 ^ ((own B (i : Int)).minus (sv (ownTo B B.length) (n : Int))).sz) (by omega) (by omega) (by omega)).mono ?_
     rintro _ w140 ⟨rfl, hb141⟩
     have O142 := O139.below hb141
     refine ⟨_, rfl, (O142.re [1, 2, 3, 4, 5] rfl), ?_⟩
     refine zA7 (args := [.agg #[.string (natB (sumC (ownTo B B.length) (own B (i : Int)) (cntTo B i) (g.inp.take k)))], .agg #[.string (natB ((cc (cntTo B i) (n : Int)) * 2 ^ ((own B (i : Int)).minus (sv (ownTo B B.length) (n : Int))).sz))]]) rfl in_63 rfl rfl rfl ?_
     refine (add_ (W := w140) (a := (sumC (ownTo B B.length) (own B (i : Int)) (cntTo B i) (g.inp.take k))) (b := (cc (cntTo B i) (n : Int)) * 2 ^ ((own B (i : Int)).minus (sv (ownTo B B.length) (n : Int))).sz) (by omega)).mono ?_
     rintro _ w143 ⟨rfl, hb144⟩
     have O145 := O142.below hb144
     refine ⟨_, rfl, (O145.re [1, 2, 3, 4, 5] rfl), ?_⟩
     obtain ⟨w146, r147, O148, hs149⟩ := zAp (o := 0) (n := 1) (O145.re [1, 0, 2, 3, 4, 5] rfl) ty43 (.agg #[.string (natB ((sumC (ownTo B B.length) (own B (i : Int)) (cntTo B i) (g.inp.take k)) + (cc (cntTo B i) (n : Int)) * 2 ^ ((own B (i : Int)).minus (sv (ownTo B B.length) (n : Int))).sz))]) _ (cs' := #[.string (natB ((sumC (ownTo B B.length) (own B (i : Int)) (cntTo B i) (g.inp.take k)) + (cc (cntTo B i) (n : Int)) * 2 ^ ((own B (i : Int)).minus (sv (ownTo B B.length) (n : Int))).sz))]) rfl rfl rfl (Nat.le_of_ble_eq_true rfl) rfl
     refine zBf rfl (fun ρ e => r147 ρ _ _ _ _ _ _ (e _ _ rfl) (e _ _ rfl)) rfl <| zBc <| zAb K126 <| zAc fun _ K150 => zAa <| zAe (v := .agg #[.string (natB ((sumC (ownTo B B.length) (own B (i : Int)) (cntTo B i) (g.inp.take k)) + (cc (cntTo B i) (n : Int)) * 2 ^ ((own B (i : Int)).minus (sv (ownTo B B.length) (n : Int))).sz))]) (fun ρ e => zAk (vs := [.string (natB ((sumC (ownTo B B.length) (own B (i : Int)) (cntTo B i) (g.inp.take k)) + (cc (cntTo B i) (n : Int)) * 2 ^ ((own B (i : Int)).minus (sv (ownTo B B.length) (n : Int))).sz))]) ty43 (e _ _ rfl) rfl (O148.cells 0 0 rfl rfl)) rfl rfl ?_
     refine zAs (args := [.agg #[.string (natB ((sumC (ownTo B B.length) (own B (i : Int)) (cntTo B i) (g.inp.take k)) + (cc (cntTo B i) (n : Int)) * 2 ^ ((own B (i : Int)).minus (sv (ownTo B B.length) (n : Int))).sz))]]) in_83 rfl rfl rfl ?_
     refine (len_ (W := w146) (m := ((sumC (ownTo B B.length) (own B (i : Int)) (cntTo B i) (g.inp.take k)) + (cc (cntTo B i) (n : Int)) * 2 ^ ((own B (i : Int)).minus (sv (ownTo B B.length) (n : Int))).sz)) (by omega)).mono ?_
     rintro _ w153 ⟨r151, hr152, rfl, hb154⟩
     have O155 := O148.below hb154
     refine ⟨_, rfl, ?_⟩
     refine wc rfl rfl (gtr0 (by omega)) rfl rfl <| zAd <| zAb K150 <| zAf rfl <| zAj <| zAn <| zAb K124 <| zAa ?_
     refine zAe (v := .int .i64 ((k + 1 : Nat) : Int)) (fun ρ e => zAi (k := .i64) (u := (k : Int)) (v := 1) (e _ _ rfl) (e _ _ rfl) (congrArg some ((congrArg _ (by omega)).trans (zAo (u := ((k + 1 : Nat) : Int)) (by omega) (by omega))))) rfl rfl <| wm rfl rfl rfl <| zAd ?_
     have O156 : Own Z0 W w153 [.blk g45 43 #[.string (natB (sumC (ownTo B B.length) (own B (i : Int)) (cntTo B i) (g.inp.take (k + 1))))], .blk g14 43 ((natCs (padC B i)).toArray), .blk g9 25 ((vcells (ownTo B B.length)).toArray), .blk g31 73 #[.int .i64 g.kind, .int .i64 g.lit, .slice (some ⟨b2, o2, none⟩) g.inp.length c2], .ro TabE TabT] := by rw [hpe]; exact (O155.re [0, 2, 3, 4, 5] rfl)
     refine zAt K120 (k + 1) (by show g.inp.length - (k + 1) < g.inp.length - k; omega) ⟨(by show k + 1 ≤ g.inp.length; omega), O156⟩ ⟨rfl, rfl, rfl, rfl, rfl, rfl, rfl, rfl, rfl, rfl, rfl, trivial⟩
    ·have hke : k = g.inp.length := by omega
     subst hke
     refine zAc fun _ K157 => zAa <| wc rfl rfl (lss0 (by omega)) rfl rfl <| zAd <| zAb K157 <| zAc fun _ K158 => zAf rfl <| zA6 ?_
     refine zAg (by intro h; cases h) ?_
     refine zAg (by intro h; cases h) ?_
     refine zA4 <| zAb K115 <| zAa <| wm rfl rfl rfl <| wm rfl rfl rfl <| zAe (v := .agg #[.string (natB (sumC (ownTo B B.length) (own B (i : Int)) (cntTo B i) (g.inp.take g.inp.length)))]) (fun ρ e => zAk (vs := [.string (natB (sumC (ownTo B B.length) (own B (i : Int)) (cntTo B i) (g.inp.take g.inp.length)))]) ty43 (e _ _ rfl) rfl (O121.cells 0 0 rfl rfl)) rfl rfl <| wi (q := i) (i := i) el116 rfl rfl (by omega) (by omega) rfl rfl ?_
     obtain ⟨w159, r160, O161, hs162⟩ := zAp (o := i) (n := 1) (O121.re [1, 0, 2, 3, 4] rfl) ty43 (.agg #[.string (natB (sumC (ownTo B B.length) (own B (i : Int)) (cntTo B i) (g.inp.take g.inp.length)))]) _ (cs' := (natCs (padC B (i + 1))).toArray) rfl rfl rfl (by simp [natCs, zCn B (Nat.le_of_lt hi)]; omega) ((zCg _ _ _).trans (by rw [zDc hx (zG9 hks)]))
     refine zAv (fun ρ e => r160 ρ _ _ _ _ _ _ (e _ _ rfl) (e _ _ rfl)) rfl <| zAd <| zAn <| zAb K29 <| zAa <| zAe (v := .int .i64 ((i + 1 : Nat) : Int)) (fun ρ e => zAi (k := .i64) (u := (i : Int)) (v := 1) (e _ _ rfl) (e _ _ rfl) (congrArg some ((congrArg _ (by omega)).trans (zAo (u := ((i + 1 : Nat) : Int)) (by omega) (by omega))))) rfl rfl <| wm rfl rfl rfl <| zAd ?_
     refine zAt K25 (i + 1) (by show B.length - (i + 1) < B.length - i; omega) ⟨(by show i + 1 ≤ B.length; omega), (O161.re [0, 2, 4] rfl)⟩ ⟨rfl, rfl, rfl, rfl, rfl, trivial⟩
   ·skip
    have hks : ¬ (g.kind = 0 ∨ g.kind = 4) := by omega
    refine wc rfl rfl (eql0 (by omega)) rfl rfl <| zAe (v := .bool false) (fun ρ e => zA2 (e _ _ rfl) (e _ _ rfl)) rfl rfl <| zAd <| zAb K56 <| zAf rfl <| zAj <| zAb K55 <| zAc fun _ K163 => ?_
    refine zAc fun _ K164 => zAa <| wf (q := 2) zB0 rfl rfl rfl rfl <| wd ty57 rfl (O53.cell 1 2 rfl rfl) rfl rfl <| wz el57 rfl rfl rfl <| wm rfl rfl rfl <| zAd <| zAb K164 ?_
    refine zAh ?_
    have O165 := (O53.re [0, 2, 3, 1, 4] rfl)
    refine zA8 (ι := Nat) (fun q => [(3, VS0 g9 B.length B.length), (4, VS0 g14 B.length B.length), (5, .int .i64 (i : Int)), (6, VP g31), (7, VP g45), (17, .slice (some ⟨b, o, none⟩) B.length c), (18, .int .i64 ((B.length : Nat) : Int)), (19, .int .i64 (i : Int)), (35, .slice A2 g.inp.length c2), (36, .int .i64 ((g.inp.length : Nat) : Int)), (37, .int .i64 (q : Int))]) (fun q X => (q ≤ g.inp.length) ∧ Own Z0 W X [.blk g45 43 #[.string (natB (prodC (cntTo B i) (g.inp.take q)))], .blk g14 43 ((natCs (padC B i)).toArray), .blk g9 25 ((vcells (ownTo B B.length)).toArray), .blk g31 73 #[.int .i64 g.kind, .int .i64 g.lit, .slice A2 g.inp.length c2], .ro TabE TabT]) (fun q => g.inp.length - q) 0 ⟨Nat.zero_le _, O165⟩ ⟨rfl, rfl, rfl, rfl, rfl, rfl, rfl, rfl, rfl, rfl, rfl, trivial⟩ (fun q w166 hJ F167 K168 => ?_)
    obtain ⟨k, rfl⟩ : ∃ x, x = q := ⟨_, rfl⟩
    obtain ⟨hk0, O169⟩ := hJ
    try dsimp only at hk0 O169 ⊢
    by_cases hk : k < g.inp.length
    ·skip
     obtain ⟨xv, hk2⟩ : ∃ x, g.inp[k]? = some x := ⟨g.inp[k], List.getElem?_eq_getElem hk⟩
     obtain ⟨hv0, hv1⟩ := hok.1 xv (List.mem_of_getElem? hk2)
     obtain ⟨n, rfl⟩ : ∃ n : Nat, xv = (n : Int) := ⟨xv.toNat, by omega⟩
     obtain ⟨b2, o2, c3, hv⟩ := hI.form (by omega)
     injection hv with hA _ hc3
     subst hA hc3
     obtain ⟨h01, h2, h34, hkk⟩ := zCv hok
     have hcc := zJq hw hd hN6 hx (List.mem_of_getElem? hk2)
     have hk3 : g.kind = 3 := by omega
     have hpk := zDb hw hd hN6 hx hk3 k
     have hpk2 := zDb hw hd hN6 hx hk3 (k + 1)
     have hpe := zEw (c := cntTo B i) hk2
     refine zAc fun _ K170 => zAa <| wc rfl rfl (lss1 (by omega)) rfl rfl <| zAd <| zAb K170 <| zAc fun _ K171 => zAl rfl <| zAj ?_
     refine zAb K171 <| zAc fun _ K172 => zAh <| zAc fun _ K173 => zAa <| wi (q := o2 + k) (i := k) el57 rfl rfl (by omega) (by omega) rfl rfl <| wd (v := .int .i64 (n : Int)) ty3 rfl ((zBs O169.old hI (fun k hk => hk)).at_ hk2) rfl rfl <| wa rfl rfl rfl ?_
     refine zAd <| zAb K173 <| zAc fun _ K174 => zAc fun _ K175 => zAa <| wf (q := 0) zBy rfl rfl rfl rfl <| wd ty3 rfl (O169.cell 3 0 rfl rfl) rfl rfl <| wc rfl rfl (eql1 hk3) rfl rfl ?_
     refine zAd <| zAb K175 <| zAl rfl ?_
     refine zA1 (fun X => Own Z0 W X [.blk g45 43 #[.string (natB (prodC (cntTo B i) (g.inp.take k)))], .blk g14 43 ((natCs (padC B i)).toArray), .blk g9 25 ((vcells (ownTo B B.length)).toArray), .blk g31 73 #[.int .i64 g.kind, .int .i64 g.lit, .slice (some ⟨b2, o2, none⟩) g.inp.length c2], .ro TabE TabT]) 6 [(0, 0), (1, 1), (2, 1), (3, 1), (4, 0), (5, 2), (6, 3)] (by kernel_rfl) (by kernel_rfl) (PQ.then_ (PQ.block (PQ.then_ (PQ.then_ (PQ.block (PQ.then_ (PQ.block (PQ.then_ (PQ.then_ (PQ.block (PQ.then_ PQ.body))))))))))) (O169).drew ?_
     have O176 := O169.drew
     refine wt0 (v := .agg #[.string (natB (prodC (cntTo B i) (g.inp.take k)))]) rfl (fun ρ e W hW => zAk (vs := [.string (natB (prodC (cntTo B i) (g.inp.take k)))]) ty43 (e _ _ rfl) rfl (hW.cells 0 0 rfl rfl)) rfl rfl <| tm rfl rfl rfl rfl <| tm rfl rfl rfl rfl <| wt1 (v := .pointer (some ⟨g14, n, none⟩)) rfl (fun ρ e W => zA9 (q := n) (i := n) el116 (e _ _ rfl) (e _ _ rfl) (by omega) (by omega)) rfl rfl <| wt0 (v := .agg #[.string (natB (cc (cntTo B i) (n : Int)))]) rfl (fun ρ e W hW => zAk (vs := [.string (natB (cc (cntTo B i) (n : Int)))]) ty43 (e _ _ rfl) rfl (cells1 (((hW.blk 1 rfl).cell _).trans (zCh (zGo (by omega) hi0))))) rfl rfl ?_
     refine zA7 (args := [.agg #[.string (natB (prodC (cntTo B i) (g.inp.take k)))], .agg #[.string (natB (cc (cntTo B i) (n : Int)))]]) rfl zJo rfl rfl rfl ?_
     refine (mul_ (W := w166.drew) (a := (prodC (cntTo B i) (g.inp.take k))) (b := (cc (cntTo B i) (n : Int))) (by rw [← zEw hk2]; omega) (by omega) (by omega)).mono ?_
     rintro _ w177 ⟨rfl, hb178⟩
     have O179 := O176.below hb178
     refine ⟨_, rfl, O179, ?_⟩
     obtain ⟨w180, r181, O182, hs183⟩ := zAp (o := 0) (n := 1) O179 ty43 (.agg #[.string (natB ((prodC (cntTo B i) (g.inp.take k)) * (cc (cntTo B i) (n : Int))))]) _ (cs' := #[.string (natB ((prodC (cntTo B i) (g.inp.take k)) * (cc (cntTo B i) (n : Int))))]) rfl rfl rfl (Nat.le_of_ble_eq_true rfl) rfl
     refine zBf rfl (fun ρ e => r181 ρ _ _ _ _ _ _ (e _ _ rfl) (e _ _ rfl)) rfl <| zBc <| zAb K174 <| zAc fun _ K184 => zAa <| zAe (v := .agg #[.string (natB ((prodC (cntTo B i) (g.inp.take k)) * (cc (cntTo B i) (n : Int))))]) (fun ρ e => zAk (vs := [.string (natB ((prodC (cntTo B i) (g.inp.take k)) * (cc (cntTo B i) (n : Int))))]) ty43 (e _ _ rfl) rfl (O182.cells 0 0 rfl rfl)) rfl rfl ?_
     refine zAs (args := [.agg #[.string (natB ((prodC (cntTo B i) (g.inp.take k)) * (cc (cntTo B i) (n : Int))))]]) in_83 rfl rfl rfl ?_
     refine (len_ (W := w180) (m := ((prodC (cntTo B i) (g.inp.take k)) * (cc (cntTo B i) (n : Int)))) (by omega)).mono ?_
     rintro _ w187 ⟨r185, hr186, rfl, hb188⟩
     have O189 := O182.below hb188
     refine ⟨_, rfl, ?_⟩
     refine wc rfl rfl (gtr0 (by omega)) rfl rfl <| zAd <| zAb K184 <| zAf rfl <| zAj <| zAn <| zAb K172 <| zAa ?_
     refine zAe (v := .int .i64 ((k + 1 : Nat) : Int)) (fun ρ e => zAi (k := .i64) (u := (k : Int)) (v := 1) (e _ _ rfl) (e _ _ rfl) (congrArg some ((congrArg _ (by omega)).trans (zAo (u := ((k + 1 : Nat) : Int)) (by omega) (by omega))))) rfl rfl <| wm rfl rfl rfl <| zAd ?_
     have O190 : Own Z0 W w187 [.blk g45 43 #[.string (natB (prodC (cntTo B i) (g.inp.take (k + 1))))], .blk g14 43 ((natCs (padC B i)).toArray), .blk g9 25 ((vcells (ownTo B B.length)).toArray), .blk g31 73 #[.int .i64 g.kind, .int .i64 g.lit, .slice (some ⟨b2, o2, none⟩) g.inp.length c2], .ro TabE TabT] := by rw [hpe]; exact O189
     refine zAt K168 (k + 1) (by show g.inp.length - (k + 1) < g.inp.length - k; omega) ⟨(by show k + 1 ≤ g.inp.length; omega), O190⟩ ⟨rfl, rfl, rfl, rfl, rfl, rfl, rfl, rfl, rfl, rfl, rfl, trivial⟩
    ·have hke : k = g.inp.length := by omega
     subst hke
     refine zAc fun _ K191 => zAa <| wc rfl rfl (lss0 (by omega)) rfl rfl <| zAd <| zAb K191 <| zAc fun _ K192 => zAf rfl <| zA6 ?_
     refine zAg (by intro h; cases h) ?_
     refine zAg (by intro h; cases h) ?_
     refine zA4 <| zAb K163 <| zAa <| wm rfl rfl rfl <| wm rfl rfl rfl <| zAe (v := .agg #[.string (natB (prodC (cntTo B i) (g.inp.take g.inp.length)))]) (fun ρ e => zAk (vs := [.string (natB (prodC (cntTo B i) (g.inp.take g.inp.length)))]) ty43 (e _ _ rfl) rfl (O169.cells 0 0 rfl rfl)) rfl rfl <| wi (q := i) (i := i) el116 rfl rfl (by omega) (by omega) rfl rfl ?_
     obtain ⟨w193, r194, O195, hs196⟩ := zAp (o := i) (n := 1) (O169.re [1, 0, 2, 3, 4] rfl) ty43 (.agg #[.string (natB (prodC (cntTo B i) (g.inp.take g.inp.length)))]) _ (cs' := (natCs (padC B (i + 1))).toArray) rfl rfl rfl (by simp [natCs, zCn B (Nat.le_of_lt hi)]; omega) ((zCg _ _ _).trans (by rw [zDc hx (zF2 hks)]))
     refine zAv (fun ρ e => r194 ρ _ _ _ _ _ _ (e _ _ rfl) (e _ _ rfl)) rfl <| zAd <| zAn <| zAb K29 <| zAa <| zAe (v := .int .i64 ((i + 1 : Nat) : Int)) (fun ρ e => zAi (k := .i64) (u := (i : Int)) (v := 1) (e _ _ rfl) (e _ _ rfl) (congrArg some ((congrArg _ (by omega)).trans (zAo (u := ((i + 1 : Nat) : Int)) (by omega) (by omega))))) rfl rfl <| wm rfl rfl rfl <| zAd ?_
     refine zAt K25 (i + 1) (by show B.length - (i + 1) < B.length - i; omega) ⟨(by show i + 1 ≤ B.length; omega), (O195.re [0, 2, 4] rfl)⟩ ⟨rfl, rfl, rfl, rfl, rfl, trivial⟩
 ·have hie : i = B.length := by omega
  subst hie
  refine zAc fun _ K197 => zAa <| wc rfl rfl (lss0 (by omega)) rfl rfl <| zAd <| zAb K197 <| zAc fun _ K198 => zAf rfl <| zA6 ?_
  refine zAg (by intro h; cases h) ?_
  refine zAg (by intro h; cases h) ?_
  refine zA4 <| zAb K20 <| zAc fun _ K199 => zAa <| wa rfl rfl rfl <| zAd <| zAb K199 <| zAz ?_
  refine zAy (v := .bool true) (fun T hT => res1 rfl T _ (hT 2 _ rfl)) ?_
  exact ⟨rfl, O26.old⟩

end Go.Proofs.YtliiclmhpphpmaaGreatDoor
namespace Go.Proofs.YtliiclmhpphpmaaGreatDoor
open Go Go.RowKit
def tabS (n : Nat) (f : Nat → Bool) : List Bool := (List.range n).map f
theorem tabS_zero (n : Nat) : tabS n (fun _ => false) = List.replicate n false := by
 unfold tabS
 rw [List.map_const', List.length_range]
theorem zDj {n : Nat} {f : Nat → Bool} {i : Nat} (h : i < n) : (tabS n f)[i]? = some (f i) := by
 unfold tabS
 rw [List.getElem?_map, List.getElem?_range h]
 rfl
theorem zC9 {n : Nat} {f g : Nat → Bool} (h : ∀ k, k < n → f k = g k) : tabS n f = tabS n g := by
 unfold tabS
 exact List.map_congr_left fun k hk => h k (List.mem_range.1 hk)
theorem tabS_set {n : Nat} {f : Nat → Bool} {i : Nat} {b : Bool} (h : i < n) : (tabS n f).set i b = tabS n (fun k => if k = i then b else f k) := by
 apply List.ext_getElem?
 intro j
 rw [List.getElem?_set]
 have hl : (tabS n f).length = n := by simp [tabS]
 have hl2 : (tabS n (fun k => if k = i then b else f k)).length = n := by simp [tabS]
 by_cases e : i = j
 ·subst e
  rw [if_pos rfl, if_pos (by omega), zDj h, if_pos rfl]
 ·rw [if_neg e]
  by_cases hj : j < n
  ·rw [zDj hj, zDj hj, if_neg (by omega)]
  ·rw [List.getElem?_eq_none (by omega), List.getElem?_eq_none (by omega)]
theorem tab_none {n : Nat} {f : Nat → Bool} : tabS n (fun k => if k < 0 then f k else false) = tabS n (fun _ => false) := zC9 (fun k _ => by simp)
theorem zH0 {n i : Nat} {f : Nat → Bool} {b : Bool} (h : i < n) (hb : f i = b) : (tabS n (fun k => if k < i then f k else false)).set i b = tabS n (fun k => if k < i + 1 then f k else false) := by
 rw [tabS_set h]
 refine zC9 (fun k hk => ?_)
 by_cases e : k = i
 ·subst e; rw [if_pos rfl, if_pos (by omega), hb]
 ·rw [if_neg e]
  by_cases h2 : k < i
  ·rw [if_pos h2, if_pos (by omega)]
  ·rw [if_neg h2, if_neg (by omega)]
theorem tab_full {Xw : BitVec 64} {f : Nat → Bool} {n : Nat} (hX : ∀ k, k < 64 → Xw.getLsbD k = f k) (hn : n ≤ 64) : tabS n (fun k => if k < n then Xw.getLsbD k else false) = tabS n f := zC9 (fun k hk => by rw [if_pos hk]; exact hX k (by omega))
theorem zJn (Xw : BitVec 64) (i : Nat) : Xw.toNat / 2 ^ i < 2 ^ 64 := Nat.lt_of_le_of_lt (Nat.div_le_self _ _) (BitVec.isLt Xw)
theorem and_lt {a b : Nat} (h : a < 2 ^ 64) : a &&& b < 2 ^ 64 := Nat.lt_of_le_of_lt Nat.and_le_left h
theorem bit_eq (Xw : BitVec 64) (i : Nat) : Xw.toNat / 2 ^ i &&& 1 = if Xw.getLsbD i then 1 else 0 := by
 rw [Nat.and_one_is_mod]
 have h : Xw.getLsbD i = Xw.toNat.testBit i := rfl
 rw [h, Nat.testBit_eq_decide_div_mod_eq]
 by_cases e : Xw.toNat / 2 ^ i % 2 = 1
 ·simp [e]
 ·have : Xw.toNat / 2 ^ i % 2 = 0 := by omega
  simp [this]
theorem bit_true {Xw : BitVec 64} {i : Nat} (h : Xw.getLsbD i = true) : ((Xw.toNat / 2 ^ i &&& 1 : Nat) : Int) = 1 := by rw [bit_eq, h]; rfl
theorem bit_false {Xw : BitVec 64} {i : Nat} (h : Xw.getLsbD i = false) : ¬ ((Xw.toNat / 2 ^ i &&& 1 : Nat) : Int) = 1 := by rw [bit_eq, h]; decide
theorem listV_ {W : World} (s : VS) (hs : Small s) (hT : TabT W) : Calls Tryz.prog 58 #[.agg #[.int .u64 (s.a.toNat : Int), .int .u64 (s.b.toNat : Int)]] W fun e w' => ∃ A c, e = .returned (.slice A (bitsL s.a.toNat).length c) ∧ Own Z0 W w' [.row (.slice A (bitsL s.a.toNat).length c) 3 1 (bitsL s.a.toNat).length (intCs (bitsL s.a.toNat))] := by
 rw [hs.len]; exact zJm s hs hT
theorem bitsL_nodup : ∀ x : Nat, x < 64 → (bitsL x).Nodup := by decide +kernel
theorem bitsL_rng : ∀ x : Nat, x < 64 → ∀ v ∈ bitsL x, 1 ≤ v ∧ v ≤ 128 := by decide +kernel
def vl (B : List Gate) : List Int := bitsL (own B ((B.length - 1 : Nat) : Int)).a.toNat
set_option maxHeartbeats 2000000 in
theorem tabled_ {W : World} {V : Value} {B : List Gate} {N : Int} (hG : GatesV W W.heap.size V B) (hw : WfN N B) (hp : 0 < B.length) (hlen : B.length ≤ 65536) (hN0 : 0 ≤ N) (hN1 : N ≤ 128) (hT : TabT W) (hsm : Small (own B ((B.length - 1 : Nat) : Int))) :
  Calls Tryz.prog 66 #[.agg #[.int .i64 N, V]] W fun e w' => ∃ tk A1 c1 tg, e = .returned (.tuple #[.pointer (some ⟨tk, 0, none⟩), .int .i64 0]) ∧
   Own Z0 W w' [.blk tk 123 #[.int .i64 N, .slice A1 (vl B).length c1, .slice (some ⟨tg, 0, none⟩) (2 ^ (vl B).length) (2 ^ (vl B).length)], .row (.slice A1 (vl B).length c1) 3 1 (vl B).length (intCs (vl B)), .blk tg 4 (boolCs (tabS (2 ^ (vl B).length) (fun k => nv B (asgF (vl B) k) ((B.length - 1 : Nat) : Int)))).toArray] := by
 obtain ⟨b, o, c, rfl, hbW⟩ := zCt hG hp
 have hl6 : (vl B).length ≤ 6 := zEr _ hsm.a
 have hnd : (vl B).Nodup := bitsL_nodup _ hsm.a
 have hl1 : ∀ x ∈ vl B, 1 ≤ x ∧ x ≤ 128 := bitsL_rng _ hsm.a
 obtain ⟨l, hl⟩ : ∃ l, l = vl B := ⟨_, rfl⟩
 rw [← hl] at hl6 hnd hl1
 rw [← hl]
 unfold vl at hl
 obtain ⟨p2, hp2e⟩ : ∃ p, p = 2 ^ l.length := ⟨_, rfl⟩
 rw [← hp2e]
 have hpn : p2 ≤ 64 := by rw [hp2e]; exact zG5 hl6
 have hp20 : 0 < p2 := by rw [hp2e]; exact Nat.two_pow_pos _
 have O0 := (Own.start W).oldro (D := TabE) (p := TabT) (zB7 hT)
 refine zAu (args := [.agg #[.int .i64 N, .slice (some ⟨b, o, none⟩) B.length c]]) Tryz.func66 rfl rfl (by simp) ?_
 refine zAc fun _ K1 => zAa ?_
 obtain ⟨g2, w3, r4, O5, hg6, hs7⟩ := zA5 O0 39 (.agg #[.int .i64 N, .slice (some ⟨b, o, none⟩) B.length c]) rfl
 refine zAe (v := VP g2) (fun ρ e => r4 ρ _ _ _ _ _ _ (e _ _ rfl)) rfl rfl <| wa rfl rfl rfl <| wa rfl rfl rfl <| zAd <| zAb K1 <| zAc fun _ K8 => zAc fun _ K9 => zAa ?_
 refine zAe (v := .agg #[.int .i64 N, .slice (some ⟨b, o, none⟩) B.length c]) (fun ρ e => zAk (vs := [.int .i64 N, .slice (some ⟨b, o, none⟩) B.length c]) ty39 (e _ _ rfl) rfl (O5.cells 0 0 rfl rfl)) rfl rfl ?_
 refine zAs (args := [.agg #[.int .i64 N, .slice (some ⟨b, o, none⟩) B.length c]]) zJp rfl rfl rfl ?_
 refine (zF3 (zBv hG O5.old) hw hp hlen hN0 hN1).mono ?_
 rintro _ w10 ⟨rfl, hb11⟩
 have O12 := O5.below hb11
 refine ⟨_, rfl, ?_⟩
 refine wc rfl rfl (neq0 (by omega)) rfl rfl <| zAd <| zAb K9 <| zAf rfl <| zAj <| zAb K8 <| zAc fun _ K13 => zAa ?_
 refine zAe (v := .agg #[.int .i64 N, .slice (some ⟨b, o, none⟩) B.length c]) (fun ρ e => zAk (vs := [.int .i64 N, .slice (some ⟨b, o, none⟩) B.length c]) ty39 (e _ _ rfl) rfl (O12.cells 0 0 rfl rfl)) rfl rfl ?_
 refine zAs (args := [.agg #[.int .i64 N, .slice (some ⟨b, o, none⟩) B.length c]]) in_56 rfl rfl rfl ?_
 refine (zJh (zBv hG O12.old) hw hp hlen hN0 hN1).mono ?_
 rintro _ w15 ⟨g14, rfl, h16⟩
 have O17 := zBr O12 h16
 refine ⟨_, rfl, ?_⟩
 refine wa rfl rfl rfl <| zAd <| zAb K13 <| zAc fun _ K18 => ?_
 refine zA1 (fun X => Own Z0 W X [.blk g14 25 ((vcells (ownTo B B.length)).toArray), .blk g2 39 #[.int .i64 N, .slice (some ⟨b, o, none⟩) B.length c], .ro TabE TabT]) 11 [(0, 1), (1, 0), (2, 1), (3, 1), (4, 1), (5, 1), (6, 1), (7, 0), (8, 2), (9, 1), (10, 2), (11, 3)] (by kernel_rfl) (by kernel_rfl) (PQ.then_ PQ.body) (O17).drew ?_
 have O19 := O17.drew
 refine wt1 (v := VP g2) rfl (fun ρ e W => zBd (q := 0) zHu (e _ _ rfl) rfl) rfl rfl <| wt0 (v := .int .i64 N) rfl (fun ρ e W hW => zAm ty3 (e _ _ rfl) (hW.cell 1 0 rfl rfl)) rfl rfl <| tm rfl rfl rfl rfl <| tm rfl rfl rfl rfl <| wt1 (v := .int .i64 ((B.length : Nat) : Int)) rfl (fun ρ e W => zGn el58 (e _ _ rfl)) rfl rfl <| wt1 (v := .int .i64 ((B.length - 1 : Nat) : Int)) rfl (fun ρ e W => zAi (k := .i64) (u := ((B.length : Nat) : Int)) (v := 1) (e _ _ rfl) (e _ _ rfl) (congrArg some ((congrArg _ (show _ = ((B.length - 1 : Nat) : Int) by omega)).trans (zAo (by omega) (by omega))))) rfl rfl ?_
 refine wt1 (v := .pointer (some ⟨g14, (B.length - 1) * 2, none⟩)) rfl (fun ρ e W => zA9 (q := (B.length - 1) * 2) (i := B.length - 1) el58 (e _ _ rfl) (e _ _ rfl) (by omega) (by omega)) rfl rfl <| wt0 (v := .agg #[.int .u64 ((own B ((B.length - 1 : Nat) : Int)).a.toNat : Int), .int .u64 ((own B ((B.length - 1 : Nat) : Int)).b.toNat : Int)]) rfl (fun ρ e W hW => zAk (vs := [.int .u64 ((own B ((B.length - 1 : Nat) : Int)).a.toNat : Int), .int .u64 ((own B ((B.length - 1 : Nat) : Int)).b.toNat : Int)]) ty25 (e _ _ rfl) rfl (cells2 (((hW.blk 0 rfl).cell _).trans (getV0 (zB4 (by omega)))) (((hW.blk 0 rfl).cell _).trans (getV1 (zB4 (by omega)))))) rfl rfl ?_
 refine zA7 (args := [.agg #[.int .u64 ((own B ((B.length - 1 : Nat) : Int)).a.toNat : Int), .int .u64 ((own B ((B.length - 1 : Nat) : Int)).b.toNat : Int)]]) rfl in_58 rfl rfl rfl ?_
 refine (listV_ (W := w15.drew) (own B ((B.length - 1 : Nat) : Int)) hsm (O19.ro 2 rfl)).mono ?_
 rintro _ w20 ⟨A1, c1, rfl, h21⟩
 rw [← hl] at h21
 have O22 := zFk O19 h21
 try rw [← hl]
 refine ⟨_, rfl, (O22.re [1, 2, 3] rfl), ?_⟩
 refine wt1 (v := .agg #[.int .i64 N, .slice A1 l.length c1, .slice none 0 0]) rfl (fun ρ e W => zBe (cells := #[.int .i64 N, .slice A1 l.length c1, .slice none 0 0]) st123 (e.parts rfl) rfl) rfl rfl ?_
 obtain ⟨g23, w24, r25, O26, hg27, hs28⟩ := zA5 O22 123 (.agg #[.int .i64 N, .slice A1 l.length c1, .slice none 0 0]) rfl
 refine wt2 (v := VP g23) rfl (fun ρ e => r25 ρ _ _ _ _ _ _ (e _ _ rfl)) rfl rfl (O26.re [2, 3, 4] rfl) ?_
 refine wt3 (v := VP g23) rfl (fun ρ e => zBb (e _ _ rfl)) rfl rfl <| zBc <| zAb K18 <| zAc fun _ K29 => zAc fun _ K30 => zAa <| wm rfl rfl rfl <| wn rfl rfl rfl ?_
 refine wf (q := 1) zHi rfl rfl rfl rfl <| wd ty57 rfl (O26.cell 0 1 rfl rfl) rfl rfl <| wz el57 rfl rfl rfl <| wc rfl rfl (gtr0 (by omega)) rfl rfl <| zAd <| zAb K30 <| zAf rfl <| zAj ?_
 refine zAb K29 <| zAc fun _ K31 => zAa <| wm rfl rfl rfl <| wm rfl rfl rfl <| wn rfl rfl rfl <| wf (q := 1) zHi rfl rfl rfl rfl <| wd ty57 rfl (O26.cell 0 1 rfl rfl) rfl rfl ?_
 refine wz el57 rfl rfl rfl <| zAe (v := .int .u64 ((l.length : Nat) : Int)) (fun ρ e => zBi (u := ((l.length : Nat) : Int)) (v := ((l.length : Nat) : Int)) (e _ _ rfl) (zAx (by omega))) rfl rfl <| zAe (v := .int .i64 (p2 : Int)) (fun ρ e => zCa (k := .i64) (a := 1) (s := l.length) (r := (p2 : Int)) (e _ _ rfl) (e _ _ rfl) (show _ ≤ 64 by omega) ((congrArg _ (congrArg Nat.cast ((Nat.one_mul _).trans hp2e.symm))).trans (zAo (by omega) (by omega)))) rfl rfl ?_
 obtain ⟨g32, w33, r34, O35, hg36, hs37⟩ := zBo O26 ap89 rfl p2 (by decide) (by omega) (cs := (boolCs (tabS p2 (fun _ => false))).toArray) (by rw [tabS_zero]; simp [boolCs])
 refine zAe (v := VS0 g32 p2 p2) (fun ρ e => r34 ρ _ _ _ _ _ _ _ (e _ _ rfl) (e _ _ rfl)) rfl rfl <| wn rfl rfl rfl <| wf (q := 2) zD5 rfl rfl rfl rfl ?_
 obtain ⟨w38, r39, O40, hs41⟩ := zAp (o := 2) (n := 1) (O35.re [1, 0, 2, 3, 4, 5] rfl) ty89 (VS0 g32 p2 p2) _ (cs' := #[.int .i64 N, .slice A1 l.length c1, VS0 g32 p2 p2]) rfl rfl rfl (Nat.le_of_ble_eq_true rfl) rfl
 refine zAv (fun ρ e => r39 ρ _ _ _ _ _ _ (e _ _ rfl) (e _ _ rfl)) rfl <| zAd <| zAb K31 <| zAc fun _ K42 => zAc fun _ K43 => zAa <| wa rfl rfl rfl <| zAd ?_
 refine zAb K43 <| zAh ?_
 have O44 := (O40.re [1, 0, 2, 4] rfl)
 refine zA8 (ι := Nat × Nat) (fun q => [(1, VP g2), (5, VP g23), (6, .int .i64 (q.2 : Int))]) (fun q X => (q.1 ≤ 1) ∧ (q.2 = q.1 * 64) ∧ Own Z0 W X [.blk g32 4 ((boolCs (tabS p2 (if q.1 = 0 then (fun _ => false) else (fun k => nv B (asgF l k) ((B.length - 1 : Nat) : Int))))).toArray), .blk g23 123 #[.int .i64 N, .slice A1 l.length c1, VS0 g32 p2 p2], .row (.slice A1 l.length c1) 3 1 l.length (intCs l), .blk g2 39 #[.int .i64 N, .slice (some ⟨b, o, none⟩) B.length c]]) (fun q => 1 - q.1) (0, 0) ⟨(Nat.zero_le _), rfl, O44⟩ ⟨rfl, rfl, rfl, trivial⟩ (fun q w45 hJ F46 K47 => ?_)
 obtain ⟨a, t⟩ := q
 obtain ⟨ha1, hta, O48⟩ := hJ
 dsimp only at ha1 hta O48 ⊢
 by_cases ha : a = 0
 ·skip
  subst ha
  obtain rfl : t = 0 := by omega
  have O49 := O48
  refine zAc fun _ K50 => zAc fun _ K51 => zAa <| wm rfl rfl rfl <| wm rfl rfl rfl <| wn rfl rfl rfl <| wf (q := 2) zD5 rfl rfl rfl rfl <| wd ty89 rfl (O49.cell 1 2 rfl rfl) rfl rfl ?_
  refine wz el89 rfl rfl rfl <| wc rfl rfl (lss1 (by omega)) rfl rfl <| zAd <| zAb K51 <| zAl rfl <| zAj <| zAb K50 <| zAc fun _ K52 => ?_
  refine zAh <| zAc fun _ K53 => zAa <| wm rfl rfl rfl <| zAe (v := .agg #[.int .i64 N, .slice (some ⟨b, o, none⟩) B.length c]) (fun ρ e => zAk (vs := [.int .i64 N, .slice (some ⟨b, o, none⟩) B.length c]) ty39 (e _ _ rfl) rfl (O49.cells 3 0 rfl rfl)) rfl rfl <| wm rfl rfl rfl ?_
  refine zAs (args := [VP g23, .agg #[.int .i64 N, .slice (some ⟨b, o, none⟩) B.length c], .int .i64 0]) in_88 rfl rfl rfl ?_
  refine (word_ (W := w45) (zBv hG O49.old) hw hp hlen hN0 hN1 (l := l) (tk := g23) (O49.blk 1 rfl).lt (O49.cell 1 1 rfl rfl) (IntsD.of_row (O49.row 2 rfl)) (fun k hk => (World.ownsRow.lt (O49.row 2 rfl) k hk).2) hl6 hnd hl1).mono ?_
  rintro _ w54 ⟨Xw, rfl, hX, hb55⟩
  have O56 := O49.below hb55
  refine ⟨_, rfl, ?_⟩
  refine wa rfl rfl rfl <| nx K53 fun _ K57 => wm rfl rfl rfl <| wn rfl rfl rfl <| wf (q := 2) zD5 rfl rfl rfl rfl <| wd ty89 rfl (O56.cell 1 2 rfl rfl) rfl rfl <| wz el89 rfl rfl rfl <| wm rfl rfl rfl ?_
  refine zAe (v := .int .i64 (p2 : Int)) (fun ρ e => zAi (k := .i64) (u := (p2 : Int)) (v := 0) (e _ _ rfl) (e _ _ rfl) (congrArg some ((congrArg _ (show _ = (p2 : Int) by omega)).trans (zAo (by omega) (by omega))))) rfl rfl <| zAe (v := .int .i64 (p2 : Int)) (fun ρ e => ex_min2 (e _ _ rfl) (e _ _ rfl) (by omega)) rfl rfl <| wm rfl rfl rfl <| zAd <| zAb K57 <| zAh ?_
  have O58 : Own Z0 W w54 [.blk g32 4 ((boolCs (tabS p2 (fun k => if k < 0 then Xw.getLsbD k else false))).toArray), .blk g23 123 #[.int .i64 N, .slice A1 l.length c1, VS0 g32 p2 p2], .row (.slice A1 l.length c1) 3 1 l.length (intCs l), .blk g2 39 #[.int .i64 N, .slice (some ⟨b, o, none⟩) B.length c]] := by rw [tab_none]; exact O56
  refine zA8 (ι := Nat) (fun q => [(1, VP g2), (5, VP g23), (6, .int .i64 0), (7, .int .u64 (Xw.toNat : Int)), (62, .int .i64 (p2 : Int)), (63, .int .i64 (q : Int))]) (fun q X => (q ≤ p2) ∧ Own Z0 W X [.blk g32 4 ((boolCs (tabS p2 (fun k => if k < q then Xw.getLsbD k else false))).toArray), .blk g23 123 #[.int .i64 N, .slice A1 l.length c1, VS0 g32 p2 p2], .row (.slice A1 l.length c1) 3 1 l.length (intCs l), .blk g2 39 #[.int .i64 N, .slice (some ⟨b, o, none⟩) B.length c]]) (fun q => p2 - q) 0 ⟨Nat.zero_le _, O58⟩ ⟨rfl, rfl, rfl, rfl, rfl, rfl, trivial⟩ (fun q w59 hJ F60 K61 => ?_)
  obtain ⟨i, rfl⟩ : ∃ x, x = q := ⟨_, rfl⟩
  obtain ⟨hi0, O62⟩ := hJ
  try dsimp only at hi0 O62 ⊢
  by_cases hi : i < p2
  ·skip
   cases hxi : Xw.getLsbD i
   ·skip
    refine zAc fun _ K63 => zAa <| wc rfl rfl (lss1 (by omega)) rfl rfl <| zAd <| zAb K63 <| zAc fun _ K64 => zAl rfl <| zAj ?_
    refine zAb K64 <| zAc fun _ K65 => zAh <| zAc fun _ K66 => zAa <| wm rfl rfl rfl <| wa rfl rfl rfl <| zAd ?_
    refine zAb K66 <| zAa <| wm rfl rfl rfl <| wn rfl rfl rfl <| wf (q := 2) zD5 rfl rfl rfl rfl <| wd ty89 rfl (O62.cell 1 2 rfl rfl) rfl rfl <| wm rfl rfl rfl <| wm rfl rfl rfl ?_
    refine zAe (v := .int .i64 (i : Int)) (fun ρ e => zAi (k := .i64) (u := 0) (v := (i : Int)) (e _ _ rfl) (e _ _ rfl) (congrArg some ((congrArg _ (show _ = (i : Int) by omega)).trans (zAo (by omega) (by omega))))) rfl rfl <| wm rfl rfl rfl <| wm rfl rfl rfl <| zAe (v := .int .u64 (i : Int)) (fun ρ e => zBi (u := (i : Int)) (v := (i : Int)) (e _ _ rfl) (zAx (by omega))) rfl rfl <| zAe (v := .int .u64 ((Xw.toNat / 2 ^ i : Nat) : Int)) (fun ρ e => zEn (k := .u64) (a := Xw.toNat) (s := i) (q := Xw.toNat / 2 ^ i) (e _ _ rfl) (e _ _ rfl) (show _ ≤ 64 by omega) rfl) rfl rfl ?_
    refine zAe (v := .int .u64 ((Xw.toNat / 2 ^ i &&& 1 : Nat) : Int)) (fun ρ e => zBp (a := Xw.toNat / 2 ^ i) (b := 1) (q := Xw.toNat / 2 ^ i &&& 1) (e _ _ rfl) (e _ _ rfl) (n_and (zJn Xw i) (by decide)) (zAx (and_lt (zJn Xw i)))) rfl rfl <| wc rfl rfl (eql0 (bit_false hxi)) rfl rfl <| wi (q := i) (i := i) el89 rfl rfl (by omega) (by omega) rfl rfl ?_
    obtain ⟨w67, r68, O69, hs70⟩ := zAp (o := i) (n := 1) O62 ty4 (.bool false) _ (cs' := (boolCs (tabS p2 (fun k => if k < i + 1 then Xw.getLsbD k else false))).toArray) rfl rfl rfl (by simp [boolCs, tabS] <;> omega) ((setBo _ i false).trans (congrArg (fun l => (boolCs l).toArray) (zH0 (by omega) hxi)))
    refine zAv (fun ρ e => r68 ρ _ _ _ _ _ _ (e _ _ rfl) (e _ _ rfl)) rfl <| zAd <| zAn <| zAb K65 <| zAa <| zAe (v := .int .i64 ((i + 1 : Nat) : Int)) (fun ρ e => zAi (k := .i64) (u := (i : Int)) (v := 1) (e _ _ rfl) (e _ _ rfl) (congrArg some ((congrArg _ (by omega)).trans (zAo (u := ((i + 1 : Nat) : Int)) (by omega) (by omega))))) rfl rfl <| wm rfl rfl rfl <| zAd ?_
    refine zAt K61 (i + 1) (by show p2 - (i + 1) < p2 - i; omega) ⟨(by show i + 1 ≤ p2; omega), O69⟩ ⟨rfl, rfl, rfl, rfl, rfl, rfl, trivial⟩
   ·skip
    refine zAc fun _ K71 => zAa <| wc rfl rfl (lss1 (by omega)) rfl rfl <| zAd <| zAb K71 <| zAc fun _ K72 => zAl rfl <| zAj ?_
    refine zAb K72 <| zAc fun _ K73 => zAh <| zAc fun _ K74 => zAa <| wm rfl rfl rfl <| wa rfl rfl rfl <| zAd ?_
    refine zAb K74 <| zAa <| wm rfl rfl rfl <| wn rfl rfl rfl <| wf (q := 2) zD5 rfl rfl rfl rfl <| wd ty89 rfl (O62.cell 1 2 rfl rfl) rfl rfl <| wm rfl rfl rfl <| wm rfl rfl rfl ?_
    refine zAe (v := .int .i64 (i : Int)) (fun ρ e => zAi (k := .i64) (u := 0) (v := (i : Int)) (e _ _ rfl) (e _ _ rfl) (congrArg some ((congrArg _ (show _ = (i : Int) by omega)).trans (zAo (by omega) (by omega))))) rfl rfl <| wm rfl rfl rfl <| wm rfl rfl rfl <| zAe (v := .int .u64 (i : Int)) (fun ρ e => zBi (u := (i : Int)) (v := (i : Int)) (e _ _ rfl) (zAx (by omega))) rfl rfl <| zAe (v := .int .u64 ((Xw.toNat / 2 ^ i : Nat) : Int)) (fun ρ e => zEn (k := .u64) (a := Xw.toNat) (s := i) (q := Xw.toNat / 2 ^ i) (e _ _ rfl) (e _ _ rfl) (show _ ≤ 64 by omega) rfl) rfl rfl ?_
    refine zAe (v := .int .u64 ((Xw.toNat / 2 ^ i &&& 1 : Nat) : Int)) (fun ρ e => zBp (a := Xw.toNat / 2 ^ i) (b := 1) (q := Xw.toNat / 2 ^ i &&& 1) (e _ _ rfl) (e _ _ rfl) (n_and (zJn Xw i) (by decide)) (zAx (and_lt (zJn Xw i)))) rfl rfl <| wc rfl rfl (eql1 (bit_true hxi)) rfl rfl <| wi (q := i) (i := i) el89 rfl rfl (by omega) (by omega) rfl rfl ?_
    obtain ⟨w75, r76, O77, hs78⟩ := zAp (o := i) (n := 1) O62 ty4 (.bool true) _ (cs' := (boolCs (tabS p2 (fun k => if k < i + 1 then Xw.getLsbD k else false))).toArray) rfl rfl rfl (by simp [boolCs, tabS] <;> omega) ((setBo _ i true).trans (congrArg (fun l => (boolCs l).toArray) (zH0 (by omega) hxi)))
    refine zAv (fun ρ e => r76 ρ _ _ _ _ _ _ (e _ _ rfl) (e _ _ rfl)) rfl <| zAd <| zAn <| zAb K73 <| zAa <| zAe (v := .int .i64 ((i + 1 : Nat) : Int)) (fun ρ e => zAi (k := .i64) (u := (i : Int)) (v := 1) (e _ _ rfl) (e _ _ rfl) (congrArg some ((congrArg _ (by omega)).trans (zAo (u := ((i + 1 : Nat) : Int)) (by omega) (by omega))))) rfl rfl <| wm rfl rfl rfl <| zAd ?_
    refine zAt K61 (i + 1) (by show p2 - (i + 1) < p2 - i; omega) ⟨(by show i + 1 ≤ p2; omega), O77⟩ ⟨rfl, rfl, rfl, rfl, rfl, rfl, trivial⟩
  ·obtain rfl : p2 = i := by omega
   refine zAc fun _ K79 => zAa <| wc rfl rfl (lss0 (by omega)) rfl rfl <| zAd <| zAb K79 <| zAc fun _ K80 => zAf rfl <| zA6 ?_
   refine zAg (by intro h; cases h) ?_
   refine zAg (by intro h; cases h) ?_
   refine zA4 <| zAn <| zAb K52 <| zAa <| wm rfl rfl rfl <| zAe (v := .int .i64 64) (fun ρ e => zAi (k := .i64) (u := 0) (v := 64) (e _ _ rfl) (e _ _ rfl) (congrArg some (by decide))) rfl rfl <| wa rfl rfl rfl <| zAd ?_
   have O81 : Own Z0 W w59 [.blk g32 4 ((boolCs (tabS p2 (if 1 = 0 then (fun _ => false) else (fun k => nv B (asgF l k) ((B.length - 1 : Nat) : Int))))).toArray), .blk g23 123 #[.int .i64 N, .slice A1 l.length c1, VS0 g32 p2 p2], .row (.slice A1 l.length c1) 3 1 l.length (intCs l), .blk g2 39 #[.int .i64 N, .slice (some ⟨b, o, none⟩) B.length c]] := by rw [if_neg (by decide), ← tab_full hX hpn]; exact O62
   refine zAt K47 (1, 64) (by show 1 - 1 < 1 - 0; omega) ⟨(by show 1 ≤ 1; omega), rfl, O81⟩ ⟨rfl, rfl, rfl, trivial⟩
 ·skip
  obtain rfl : t = 64 := by omega
  have O82 : Own Z0 W w45 [.blk g32 4 ((boolCs (tabS p2 (fun k => nv B (asgF l k) ((B.length - 1 : Nat) : Int)))).toArray), .blk g23 123 #[.int .i64 N, .slice A1 l.length c1, VS0 g32 p2 p2], .row (.slice A1 l.length c1) 3 1 l.length (intCs l), .blk g2 39 #[.int .i64 N, .slice (some ⟨b, o, none⟩) B.length c]] := by rw [if_neg ha] at O48; exact O48
  refine zAc fun _ K83 => zAc fun _ K84 => zAa <| wm rfl rfl rfl <| wm rfl rfl rfl <| wn rfl rfl rfl <| wf (q := 2) zD5 rfl rfl rfl rfl <| wd ty89 rfl (O82.cell 1 2 rfl rfl) rfl rfl ?_
  refine wz el89 rfl rfl rfl <| wc rfl rfl (lss0 (by omega)) rfl rfl <| zAd <| zAb K84 <| zAf rfl <| zA6 ?_
  refine zAg (by intro h; cases h) ?_
  refine zAg (by intro h; cases h) ?_
  refine zA4 <| zAb K42 <| zAc fun _ K85 => zAa <| wm rfl rfl rfl <| wa rfl rfl rfl <| wa rfl rfl rfl <| zAd ?_
  refine zAb K85 <| zAz ?_
  refine zAy (v := .tuple #[VP g23, .int .i64 0]) (fun T hT => res2 rfl T _ (hT 2 _ rfl) (hT 3 _ rfl)) ?_
  exact ⟨g23, A1, c1, g32, rfl, (O82.re [1, 2, 0] rfl)⟩

end Go.Proofs.YtliiclmhpphpmaaGreatDoor
namespace Go.Proofs.YtliiclmhpphpmaaGreatDoor
open Go Go.RowKit
theorem zDe {ρ : Operand → Value} {d : Option Tmp} {x0 y0 : Operand} {t : TypeId} {pos0 : String} {aft : Array Edge} {gd : Option (Nat × Bool)} {w : World} {a b r : Bool} (hx : ρ x0 = .bool a) (hy : ρ y0 = .bool b) (hr : (!(a == b)) = r) : (execOp ρ ⟨d, .binOp .neq 4 x0 y0 4, t, pos0, aft, gd⟩).run Tryz.prog w = .ok (.value (.bool r)) w := by
 subst hr
 simp [go_sem, hx, hy]
def dif (g : Nat → Bool) (a k : Nat) : Bool := decide (g (a ^^^ k) ≠ g a)
theorem dif_eq (g : Nat → Bool) (a j : Nat) : (!(g (a ^^^ j) == g a)) = dif g a j := by
 unfold dif
 cases g (a ^^^ j) <;> cases g a <;> rfl
theorem tabS_or {n j mm : Nat} {f : Nat → Bool} {v : Bool} (hj : j < n) (hv : v = (f j || f (andn j mm))) : (tabS n f).set j v = tabS n (fun k => if k = j then (f j || f (andn j mm)) else f k) := by
 rw [tabS_set hj, hv]
theorem tab_all {n : Nat} {f g : Nat → Bool} : tabS n (fun k => if k < n then f k else g k) = tabS n f := zC9 (fun k hk => if_pos hk)
theorem andn_le {j m : Nat} (hj : j < 2 ^ 64) : andn j m ≤ j := sub_le (fun q hq => by rw [zE3 hj, Bool.and_eq_true] at hq; exact hq.1)
theorem andn_idem {j m : Nat} (hj : j < 2 ^ 64) : andn (andn j m) m = andn j m := by
 apply Nat.eq_of_testBit_eq
 intro q
 rw [zE3 (j := andn j m) (m := m) (show andn j m < 2 ^ 64 from BitVec.isLt _) q, zE3 hj]
 cases j.testBit q <;> cases m.testBit q <;> rfl
theorem pass_zero {n i : Nat} {d : Nat → Bool} : tabS n (fun k => if k < 0 then zeta d (i + 1) k else zeta d i k) = tabS n (zeta d i) := zC9 (fun k _ => if_neg (Nat.not_lt_zero k))
theorem pass_step {n i j : Nat} {d : Nat → Bool} (hn : n ≤ 64) (hj : j < n) :
  tabS n (fun k => if k = j then ((fun k => if k < j then zeta d (i + 1) k else zeta d i k) j || (fun k => if k < j then zeta d (i + 1) k else zeta d i k) (andn j (2 ^ i))) else (fun k => if k < j then zeta d (i + 1) k else zeta d i k) k) = tabS n (fun k => if k < j + 1 then zeta d (i + 1) k else zeta d i k) := by
 have h64 : j < 2 ^ 64 := by omega
 refine zC9 (fun k hk => ?_)
 dsimp only
 by_cases e : k = j
 ·subst e
  rw [if_pos rfl, if_neg (Nat.lt_irrefl k), if_pos (show k < k + 1 by omega)]
  show _ = (zeta d i k || zeta d i (andn k (2 ^ i)))
  congr 1
  have hle := andn_le (m := 2 ^ i) h64
  by_cases h : andn k (2 ^ i) < k
  ·rw [if_pos h]
   show (zeta d i (andn k (2 ^ i)) || zeta d i (andn (andn k (2 ^ i)) (2 ^ i))) = _
   rw [andn_idem h64, Bool.or_self]
  ·rw [if_neg h]
 ·rw [if_neg e]
  by_cases h : k < j
  ·rw [if_pos h, if_pos (by omega)]
  ·rw [if_neg h, if_neg (by omega)]
theorem chg1_ {Z : Bool → Nat → Prop} {w0 W : World} {cb mb cg n j mm : Nat} {f : Nat → Bool} (O0 : Own Z w0 W [.blk cb 89 #[.slice (some ⟨cg, 0, none⟩) n n], .blk mb 3 #[.int .i64 (mm : Int)], .blk cg 4 ((boolCs (tabS n f)).toArray)]) (hj : j < n) (hand : andn j mm < n) (hn : n ≤ 64) (hm : mm ≤ 64) :
  Calls Tryz.prog 67 #[.int .i64 (j : Int), .pointer (some ⟨cb, 0, none⟩), .pointer (some ⟨mb, 0, none⟩)] W fun e w' => e = .returned (.tuple #[]) ∧ Own Z w0 w' [.blk cb 89 #[.slice (some ⟨cg, 0, none⟩) n n], .blk mb 3 #[.int .i64 (mm : Int)], .blk cg 4 ((boolCs (tabS n (fun k => if k = j then (f j || f (andn j mm)) else f k))).toArray)] := by
 obtain ⟨bj, hfj⟩ : ∃ b, f j = b := ⟨_, rfl⟩
 cases bj
 ·skip
  refine zAu (args := [.int .i64 (j : Int), VP cb, VP mb]) Tryz.func67 rfl rfl (by simp) ?_
  refine zA1 (fun X => Own Z w0 X [.blk cb 89 #[VS0 cg n n], .blk mb 3 #[.int .i64 (mm : Int)], .blk cg 4 ((boolCs (tabS n f)).toArray)]) 15 [(0, 0), (1, 1), (2, 0), (3, 1), (4, 1), (5, 0), (6, 1), (7, 0), (8, 1), (9, 0), (10, 1), (11, 1), (12, 0), (13, 1), (14, 1), (15, 3)] (by kernel_rfl) (by kernel_rfl) PQ.body (O0).drew ?_
  have O1 := O0.drew
  refine wt0 (v := VS0 cg n n) rfl (fun ρ e W hW => zAm ty89 (e _ _ rfl) (hW.cell 0 0 rfl rfl)) rfl rfl <| tm rfl rfl rfl rfl <| wt0 (v := VS0 cg n n) rfl (fun ρ e W hW => zAm ty89 (e _ _ rfl) (hW.cell 0 0 rfl rfl)) rfl rfl <| tm rfl rfl rfl rfl <| wt1 (v := .pointer (some ⟨cg, j, none⟩)) rfl (fun ρ e W => zA9 (q := j) (i := j) el89 (e _ _ rfl) (e _ _ rfl) (by omega) (by omega)) rfl rfl <| wt0 (v := .bool false) rfl (fun ρ e W hW => zAm ty4 (e _ _ rfl) (hW.cell 2 j rfl (getBo ((zDj hj).trans (congrArg some hfj))))) rfl rfl <| tm rfl rfl rfl rfl ?_
  refine wt0 (v := VS0 cg n n) rfl (fun ρ e W hW => zAm ty89 (e _ _ rfl) (hW.cell 0 0 rfl rfl)) rfl rfl <| tm rfl rfl rfl rfl <| wt0 (v := .int .i64 (mm : Int)) rfl (fun ρ e W hW => zAm ty3 (e _ _ rfl) (hW.cell 1 0 rfl rfl)) rfl rfl <| wt1 (v := .int .i64 ((andn j mm : Nat) : Int)) rfl (fun ρ e W => zBp (a := j) (b := mm) (q := andn j mm) (e _ _ rfl) (e _ _ rfl) rfl (zAo (by omega) (by omega))) rfl rfl <| wt1 (v := .pointer (some ⟨cg, andn j mm, none⟩)) rfl (fun ρ e W => zA9 (q := andn j mm) (i := andn j mm) el89 (e _ _ rfl) (e _ _ rfl) (by omega) (by omega)) rfl rfl ?_
  refine wt0 (v := .bool (f (andn j mm))) rfl (fun ρ e W hW => zAm ty4 (e _ _ rfl) (hW.cell 2 (andn j mm) rfl (getBo (zDj hand)))) rfl rfl <| wt1 (v := .bool (f (andn j mm))) rfl (fun ρ e W => zA2 (e _ _ rfl) (e _ _ rfl)) rfl rfl <| wt1 (v := .pointer (some ⟨cg, j, none⟩)) rfl (fun ρ e W => zA9 (q := j) (i := j) el89 (e _ _ rfl) (e _ _ rfl) (by omega) (by omega)) rfl rfl ?_
  obtain ⟨w2, r3, O4, hs5⟩ := zAp (o := j) (n := 1) (O1.re [2, 0, 1] rfl) ty4 (.bool (f (andn j mm))) _ (cs' := (boolCs (tabS n (fun k => if k = j then (f j || f (andn j mm)) else f k))).toArray) rfl rfl rfl (by simp [boolCs, tabS] <;> omega) ((setBo _ j (f (andn j mm))).trans (congrArg (fun l => (boolCs l).toArray) (tabS_or hj (by rw [hfj]; rfl))))
  refine zBf rfl (fun ρ e => r3 ρ _ _ _ _ _ _ (e _ _ rfl) (e _ _ rfl)) rfl <| zBc ?_
  refine zDh (v := .tuple #[]) (fun T hT => res0 rfl T _) ?_
  exact ⟨rfl, (O4.re [1, 2, 0] rfl)⟩
 ·skip
  refine zAu (args := [.int .i64 (j : Int), VP cb, VP mb]) Tryz.func67 rfl rfl (by simp) ?_
  refine zA1 (fun X => Own Z w0 X [.blk cb 89 #[VS0 cg n n], .blk mb 3 #[.int .i64 (mm : Int)], .blk cg 4 ((boolCs (tabS n f)).toArray)]) 15 [(0, 0), (1, 1), (2, 0), (3, 1), (4, 1), (5, 0), (6, 1), (7, 0), (8, 1), (9, 0), (10, 1), (11, 1), (12, 0), (13, 1), (14, 1), (15, 3)] (by kernel_rfl) (by kernel_rfl) PQ.body (O0).drew ?_
  have O1 := O0.drew
  refine wt0 (v := VS0 cg n n) rfl (fun ρ e W hW => zAm ty89 (e _ _ rfl) (hW.cell 0 0 rfl rfl)) rfl rfl <| tm rfl rfl rfl rfl <| wt0 (v := VS0 cg n n) rfl (fun ρ e W hW => zAm ty89 (e _ _ rfl) (hW.cell 0 0 rfl rfl)) rfl rfl <| tm rfl rfl rfl rfl <| wt1 (v := .pointer (some ⟨cg, j, none⟩)) rfl (fun ρ e W => zA9 (q := j) (i := j) el89 (e _ _ rfl) (e _ _ rfl) (by omega) (by omega)) rfl rfl <| wt0 (v := .bool true) rfl (fun ρ e W hW => zAm ty4 (e _ _ rfl) (hW.cell 2 j rfl (getBo ((zDj hj).trans (congrArg some hfj))))) rfl rfl <| tm rfl rfl rfl rfl ?_
  refine zBm rfl rfl rfl <| zA0 rfl rfl rfl <| zBm rfl rfl rfl <| zA0 rfl rfl rfl <| zA0 rfl rfl rfl <| zBm rfl rfl rfl <| wt1 (v := .bool true) rfl (fun ρ e W => zBa (e _ _ rfl) (e _ _ rfl)) rfl rfl <| wt1 (v := .pointer (some ⟨cg, j, none⟩)) rfl (fun ρ e W => zA9 (q := j) (i := j) el89 (e _ _ rfl) (e _ _ rfl) (by omega) (by omega)) rfl rfl ?_
  obtain ⟨w2, r3, O4, hs5⟩ := zAp (o := j) (n := 1) (O1.re [2, 0, 1] rfl) ty4 (.bool true) _ (cs' := (boolCs (tabS n (fun k => if k = j then (f j || f (andn j mm)) else f k))).toArray) rfl rfl rfl (by simp [boolCs, tabS] <;> omega) ((setBo _ j true).trans (congrArg (fun l => (boolCs l).toArray) (tabS_or hj (by rw [hfj]; rfl))))
  refine zBf rfl (fun ρ e => r3 ρ _ _ _ _ _ _ (e _ _ rfl) (e _ _ rfl)) rfl <| zBc ?_
  refine zDh (v := .tuple #[]) (fun T hT => res0 rfl T _) ?_
  exact ⟨rfl, (O4.re [1, 2, 0] rfl)⟩
theorem changes_ {W : World} {tk tg n m c1 a : Nat} {A1 : Option Addr} {g : Nat → Bool} (htk : tk < W.heap.size) (htg : tg < W.heap.size) (hc1 : W.cell? ⟨tk, 1, none⟩ = some (.slice A1 m c1)) (hc2 : W.cell? ⟨tk, 2, none⟩ = some (.slice (some ⟨tg, 0, none⟩) n n)) (hg : ∀ k, k < n → W.cell? ⟨tg, k, none⟩ = some (.bool (g k))) (hm6 : m ≤ 6) (hn2 : n = 2 ^ m) (ha : a < n) :
  Calls Tryz.prog 35 #[.pointer (some ⟨tk, 0, none⟩), .int .i64 (a : Int)] W fun e w' => ∃ cg, e = .returned (.slice (some ⟨cg, 0, none⟩) n n) ∧ Own Z0 W w' [.blk cg 4 (boolCs (tabS n (zeta (dif g a) m))).toArray] := by
 have hn : n ≤ 64 := by rw [hn2]; exact zG5 hm6
 have O0 : Own Z0 W W [] := Own.start W
 refine zAu (args := [VP tk, .int .i64 (a : Int)]) Tryz.func35 rfl rfl (by simp) ?_
 refine zAc fun _ K1 => zAa <| wa rfl rfl rfl <| nx K1 fun _ K2 => wm rfl rfl rfl <| wn rfl rfl rfl <| wf (q := 2) zD5 rfl rfl rfl rfl <| wd (v := VS0 tg n n) ty89 rfl (O0.old.cell (p := ⟨tk, 2, none⟩) htk |>.trans hc2) rfl rfl ?_
 refine wz el89 rfl rfl rfl ?_
 obtain ⟨g3, w4, r5, O6, hg7, hs8⟩ := zBo O0 ap89 rfl n (by decide) (by omega) (cs := (boolCs (tabS n (fun _ => false))).toArray) (by rw [tabS_zero]; simp [boolCs])
 refine zAe (v := VS0 g3 n n) (fun ρ e => r5 ρ _ _ _ _ _ _ _ (e _ _ rfl) (e _ _ rfl)) rfl rfl ?_
 obtain ⟨g9, w10, r11, O12, hg13, hs14⟩ := zAw O6 89 ze89 rfl
 refine zAe (v := VP g9) (fun ρ e => r11 ρ _ _ _ _ _) rfl rfl ?_
 obtain ⟨w15, r16, O17, hs18⟩ := zAp (o := 0) (n := 1) O12 ty89 (VS0 g3 n n) _ (cs' := #[VS0 g3 n n]) rfl rfl rfl (Nat.le_of_ble_eq_true rfl) rfl
 refine zAv (fun ρ e => r16 ρ _ _ _ _ _ _ (e _ _ rfl) (e _ _ rfl)) rfl <| zAd <| zAb K2 <| zAc fun _ K19 => zAc fun _ K20 => zAa <| wd ty89 rfl (O17.cell 0 0 rfl rfl) rfl rfl <| wz el89 rfl rfl rfl ?_
 refine wm rfl rfl rfl <| zAd <| zAb K20 <| zAh ?_
 have O21 := (O17.re [1, 0] rfl)
 have O22 : Own Z0 W w15 [.blk g3 4 ((boolCs (tabS n (fun k => if k < 0 then (dif g a) k else false))).toArray), .blk g9 89 #[VS0 g3 n n]] := by rw [tab_none]; exact O21
 refine zA8 (ι := Nat) (fun q => [(0, VP tk), (1, .int .i64 (a : Int)), (5, VP g9), (18, .int .i64 (n : Int)), (19, .int .i64 (q : Int))]) (fun q X => (q ≤ n) ∧ Own Z0 W X [.blk g3 4 ((boolCs (tabS n (fun k => if k < q then (dif g a) k else false))).toArray), .blk g9 89 #[VS0 g3 n n]]) (fun q => n - q) 0 ⟨Nat.zero_le _, O22⟩ ⟨rfl, rfl, rfl, rfl, rfl, trivial⟩ (fun q w23 hJ F24 K25 => ?_)
 obtain ⟨j, rfl⟩ : ∃ x, x = q := ⟨_, rfl⟩
 obtain ⟨hj0, O26⟩ := hJ
 try dsimp only at hj0 O26 ⊢
 by_cases hj : j < n
 ·skip
  have hxj : a ^^^ j < n := by rw [hn2] at *; exact Nat.xor_lt_two_pow ha hj
  refine zAc fun _ K27 => zAa <| wc rfl rfl (lss1 (by omega)) rfl rfl <| zAd <| zAb K27 <| zAc fun _ K28 => zAl rfl <| zAj ?_
  refine zAb K28 <| zAc fun _ K29 => zAh <| zAc fun _ K30 => zAa <| wm rfl rfl rfl <| wa rfl rfl rfl <| zAd ?_
  refine zAb K30 ?_
  refine zA1 (fun X => Own Z0 W X [.blk g3 4 ((boolCs (tabS n (fun k => if k < j then (dif g a) k else false))).toArray), .blk g9 89 #[VS0 g3 n n]]) 20 [(0, 0), (1, 1), (2, 1), (3, 1), (4, 1), (5, 0), (6, 1), (7, 1), (8, 1), (9, 1), (10, 0), (11, 1), (12, 1), (13, 1), (14, 0), (15, 1), (16, 1), (17, 0), (18, 1), (19, 1), (20, 3)] (by kernel_rfl) (by kernel_rfl) (PQ.block (PQ.then_ (PQ.then_ (PQ.block (PQ.then_ PQ.body))))) (O26).drew ?_
  have O31 := O26.drew
  refine wt0 (v := VS0 g3 n n) rfl (fun ρ e W hW => zAm ty89 (e _ _ rfl) (hW.cell 1 0 rfl rfl)) rfl rfl <| tm rfl rfl rfl rfl <| tm rfl rfl rfl rfl <| tn rfl rfl rfl rfl <| wt1 (v := .pointer (some ⟨tk, 2, none⟩)) rfl (fun ρ e W => zBd (q := 2) zD5 (e _ _ rfl) rfl) rfl rfl <| wt0 (v := VS0 tg n n) rfl (fun ρ e W hW => zAm ty89 (e _ _ rfl) (hW.old.cell (p := ⟨tk, 2, none⟩) htk |>.trans hc2)) rfl rfl <| tm rfl rfl rfl rfl <| tm rfl rfl rfl rfl ?_
  refine wt1 (v := .int .i64 ((a ^^^ j : Nat) : Int)) rfl (fun ρ e W => zBp (a := a) (b := j) (q := a ^^^ j) (e _ _ rfl) (e _ _ rfl) (n_xor (show _ < 2 ^ 64 by omega) (show _ < 2 ^ 64 by omega)) (zAo (by omega) (by omega))) rfl rfl <| wt1 (v := .pointer (some ⟨tg, a ^^^ j, none⟩)) rfl (fun ρ e W => zA9 (q := a ^^^ j) (i := a ^^^ j) el89 (e _ _ rfl) (e _ _ rfl) (by omega) (by omega)) rfl rfl <| wt0 (v := .bool (g (a ^^^ j))) rfl (fun ρ e W hW => zAm ty4 (e _ _ rfl) (hW.old.cell (p := ⟨tg, (a ^^^ j), none⟩) htg |>.trans (hg (a ^^^ j) (by omega)))) rfl rfl <| tm rfl rfl rfl rfl <| tn rfl rfl rfl rfl ?_
  refine wt1 (v := .pointer (some ⟨tk, 2, none⟩)) rfl (fun ρ e W => zBd (q := 2) zD5 (e _ _ rfl) rfl) rfl rfl <| wt0 (v := VS0 tg n n) rfl (fun ρ e W hW => zAm ty89 (e _ _ rfl) (hW.old.cell (p := ⟨tk, 2, none⟩) htk |>.trans hc2)) rfl rfl <| tm rfl rfl rfl rfl <| wt1 (v := .pointer (some ⟨tg, a, none⟩)) rfl (fun ρ e W => zA9 (q := a) (i := a) el89 (e _ _ rfl) (e _ _ rfl) (by omega) (by omega)) rfl rfl <| wt0 (v := .bool (g a)) rfl (fun ρ e W hW => zAm ty4 (e _ _ rfl) (hW.old.cell (p := ⟨tg, a, none⟩) htg |>.trans (hg a (by omega)))) rfl rfl <| wt1 (v := .bool (dif g a j)) rfl (fun ρ e W => zDe (r := dif g a j) (e _ _ rfl) (e _ _ rfl) (dif_eq g a j)) rfl rfl ?_
  refine wt1 (v := .pointer (some ⟨g3, j, none⟩)) rfl (fun ρ e W => zA9 (q := j) (i := j) el89 (e _ _ rfl) (e _ _ rfl) (by omega) (by omega)) rfl rfl ?_
  obtain ⟨w32, r33, O34, hs35⟩ := zAp (o := j) (n := 1) O31 ty4 (.bool (dif g a j)) _ (cs' := (boolCs (tabS n (fun k => if k < (j + 1) then (dif g a) k else false))).toArray) rfl rfl rfl (by simp [boolCs, tabS] <;> omega) ((setBo _ j _).trans (congrArg (fun l => (boolCs l).toArray) (zH0 (by omega) rfl)))
  refine zBf rfl (fun ρ e => r33 ρ _ _ _ _ _ _ (e _ _ rfl) (e _ _ rfl)) rfl <| zBc <| zAn <| zAb K29 <| zAa <| zAe (v := .int .i64 ((j + 1 : Nat) : Int)) (fun ρ e => zAi (k := .i64) (u := (j : Int)) (v := 1) (e _ _ rfl) (e _ _ rfl) (congrArg some ((congrArg _ (by omega)).trans (zAo (u := ((j + 1 : Nat) : Int)) (by omega) (by omega))))) rfl rfl <| wm rfl rfl rfl <| zAd ?_
  refine zAt K25 (j + 1) (by show n - (j + 1) < n - j; omega) ⟨(by show j + 1 ≤ n; omega), O34⟩ ⟨rfl, rfl, rfl, rfl, rfl, trivial⟩
 ·obtain rfl : n = j := by omega
  have O36 : Own Z0 W w23 [.blk g3 4 ((boolCs (tabS n (zeta (dif g a) 0))).toArray), .blk g9 89 #[VS0 g3 n n]] := by rw [← tab_all]; exact O26
  refine zAc fun _ K37 => zAa <| wc rfl rfl (lss0 (by omega)) rfl rfl <| zAd <| zAb K37 <| zAc fun _ K38 => zAf rfl <| zA6 ?_
  refine zAg (by intro h; cases h) ?_
  refine zAg (by intro h; cases h) ?_
  refine zA4 <| zAb K19 <| zAc fun _ K39 => zAc fun _ K40 => zAa <| wm rfl rfl rfl <| wn rfl rfl rfl <| wf (q := 1) zHi rfl rfl rfl rfl ?_
  refine wd (v := .slice A1 m c1) ty57 rfl (O36.old.cell (p := ⟨tk, 1, none⟩) htk |>.trans hc1) rfl rfl <| wz el57 rfl rfl rfl <| wm rfl rfl rfl <| zAd <| zAb K40 <| zAh ?_
  refine zA8 (ι := Nat) (fun q => [(0, VP tk), (1, .int .i64 (a : Int)), (5, VP g9), (47, .int .i64 (m : Int)), (48, .int .i64 (q : Int))]) (fun q X => (q ≤ m) ∧ Own Z0 W X [.blk g3 4 ((boolCs (tabS n (zeta (dif g a) q))).toArray), .blk g9 89 #[VS0 g3 n n]]) (fun q => m - q) 0 ⟨Nat.zero_le _, O36⟩ ⟨rfl, rfl, rfl, rfl, rfl, trivial⟩ (fun q w41 hJ F42 K43 => ?_)
  obtain ⟨i, rfl⟩ : ∃ x, x = q := ⟨_, rfl⟩
  obtain ⟨hi0, O44⟩ := hJ
  try dsimp only at hi0 O44 ⊢
  by_cases hi : i < m
  ·skip
   obtain ⟨p2, hp2e⟩ : ∃ p, p = 2 ^ i := ⟨_, rfl⟩
   have hp2 : p2 ≤ 32 := by rw [hp2e]; exact Nat.pow_le_pow_right (n := 2) (by decide) (show i ≤ 5 by omega)
   refine zAc fun _ K45 => zAa <| wc rfl rfl (lss1 (by omega)) rfl rfl <| zAd <| zAb K45 <| zAc fun _ K46 => zAl rfl <| zAj ?_
   refine zAb K46 <| zAc fun _ K47 => zAh <| zAc fun _ K48 => zAa <| wm rfl rfl rfl <| wa rfl rfl rfl <| nx K48 fun _ K49 => ?_
   refine wm rfl rfl rfl <| zAe (v := .int .u64 (i : Int)) (fun ρ e => zBi (u := (i : Int)) (v := (i : Int)) (e _ _ rfl) (zAx (by omega))) rfl rfl <| zAe (v := .int .i64 (p2 : Int)) (fun ρ e => zCa (k := .i64) (a := 1) (s := i) (r := (p2 : Int)) (e _ _ rfl) (e _ _ rfl) (show _ ≤ 64 by omega) ((congrArg _ (congrArg Nat.cast ((Nat.one_mul _).trans hp2e.symm))).trans (zAo (by omega) (by omega)))) rfl rfl ?_
   obtain ⟨g50, w51, r52, O53, hg54, hs55⟩ := zAw O44 3 ze3 rfl
   refine zAe (v := VP g50) (fun ρ e => r52 ρ _ _ _ _ _) rfl rfl ?_
   obtain ⟨w56, r57, O58, hs59⟩ := zAp (o := 0) (n := 1) O53 ty3 (.int .i64 (p2 : Int)) _ (cs' := #[.int .i64 (p2 : Int)]) rfl rfl rfl (Nat.le_of_ble_eq_true rfl) rfl
   refine zAv (fun ρ e => r57 ρ _ _ _ _ _ _ (e _ _ rfl) (e _ _ rfl)) rfl <| nx K49 fun _ K60 => zAe (v := .func (.func 67) #[] #[VP g9, VP g50]) (fun ρ e => zB2 (us := []) (vs := [VP g9, VP g50]) (e.list rfl) (e.list rfl)) rfl rfl <| wa rfl rfl rfl <| nx K60 fun _ K61 => wd ty89 rfl (O58.cell 2 0 rfl rfl) rfl rfl <| wz el89 rfl rfl rfl <| wm rfl rfl rfl ?_
   refine zAd <| zAb K61 <| zAh ?_
   have O62 := (O58.re [2, 0, 1] rfl)
   have O63 : Own Z0 W w56 [.blk g9 89 #[VS0 g3 n n], .blk g50 3 #[.int .i64 (p2 : Int)], .blk g3 4 ((boolCs (tabS n (fun k => if k < 0 then zeta (dif g a) (i + 1) k else zeta (dif g a) i k))).toArray)] := by rw [pass_zero]; exact O62
   refine zA8 (ι := Nat) (fun q => [(0, VP tk), (1, .int .i64 (a : Int)), (5, VP g9), (7, .int .i64 (i : Int)), (8, VP g50), (9, .func (.func 67) #[] #[VP g9, VP g50]), (47, .int .i64 (m : Int)), (48, .int .i64 (i : Int)), (56, .int .i64 (n : Int)), (57, .int .i64 (q : Int))]) (fun q X => (q ≤ n) ∧ Own Z0 W X [.blk g9 89 #[VS0 g3 n n], .blk g50 3 #[.int .i64 (p2 : Int)], .blk g3 4 ((boolCs (tabS n (fun k => if k < q then zeta (dif g a) (i + 1) k else zeta (dif g a) i k))).toArray)]) (fun q => n - q) 0 ⟨Nat.zero_le _, O63⟩ ⟨rfl, rfl, rfl, rfl, rfl, rfl, rfl, rfl, rfl, rfl, trivial⟩ (fun q w64 hJ F65 K66 => ?_)
   obtain ⟨j, rfl⟩ : ∃ x, x = q := ⟨_, rfl⟩
   obtain ⟨hj0, O67⟩ := hJ
   try dsimp only at hj0 O67 ⊢
   by_cases hj : j < n
   ·skip
    have hal : andn j p2 ≤ j := andn_le (show j < 2 ^ 64 by omega)
    refine zAc fun _ K68 => zAa <| wc rfl rfl (lss1 (by omega)) rfl rfl <| zAd <| zAb K68 <| zAc fun _ K69 => zAl rfl <| zAj ?_
    refine zAb K69 <| zAc fun _ K70 => zAh <| zAc fun _ K71 => zAa <| wm rfl rfl rfl <| wa rfl rfl rfl <| zAd ?_
    refine zAb K71 <| zAa <| wm rfl rfl rfl <| wm rfl rfl rfl ?_
    refine zBz (args := [.int .i64 (j : Int)]) (all := [.int .i64 (j : Int), VP g9, VP g50]) in_67 rfl rfl rfl rfl rfl ?_
    refine (chg1_ (j := j) (mm := p2) O67 hj (by omega) (by omega) (by omega)).mono ?_
    rintro _ w72 ⟨rfl, h73⟩
    rw [hp2e, pass_step (by omega) hj, ← hp2e] at h73
    refine ⟨_, rfl, ?_⟩
    refine zAd <| zAn <| zAb K70 <| zAa <| zAe (v := .int .i64 ((j + 1 : Nat) : Int)) (fun ρ e => zAi (k := .i64) (u := (j : Int)) (v := 1) (e _ _ rfl) (e _ _ rfl) (congrArg some ((congrArg _ (by omega)).trans (zAo (u := ((j + 1 : Nat) : Int)) (by omega) (by omega))))) rfl rfl <| wm rfl rfl rfl <| zAd ?_
    refine zAt K66 (j + 1) (by show n - (j + 1) < n - j; omega) ⟨(by show j + 1 ≤ n; omega), h73⟩ ⟨rfl, rfl, rfl, rfl, rfl, rfl, rfl, rfl, rfl, rfl, trivial⟩
   ·obtain rfl : n = j := by omega
    have O74 : Own Z0 W w64 [.blk g9 89 #[VS0 g3 n n], .blk g50 3 #[.int .i64 (p2 : Int)], .blk g3 4 ((boolCs (tabS n (zeta (dif g a) (i + 1)))).toArray)] := by rw [← tab_all (g := zeta (dif g a) i)]; exact O67
    refine zAc fun _ K75 => zAa <| wc rfl rfl (lss0 (by omega)) rfl rfl <| zAd <| zAb K75 <| zAc fun _ K76 => zAf rfl <| zA6 ?_
    refine zAg (by intro h; cases h) ?_
    refine zAg (by intro h; cases h) ?_
    refine zA4 <| zAn <| zAb K47 <| zAa <| zAe (v := .int .i64 ((i + 1 : Nat) : Int)) (fun ρ e => zAi (k := .i64) (u := (i : Int)) (v := 1) (e _ _ rfl) (e _ _ rfl) (congrArg some ((congrArg _ (by omega)).trans (zAo (u := ((i + 1 : Nat) : Int)) (by omega) (by omega))))) rfl rfl <| wm rfl rfl rfl <| zAd ?_
    refine zAt K43 (i + 1) (by show m - (i + 1) < m - i; omega) ⟨(by show i + 1 ≤ m; omega), (O74.re [2, 0] rfl)⟩ ⟨rfl, rfl, rfl, rfl, rfl, trivial⟩
  ·obtain rfl : m = i := by omega
   refine zAc fun _ K77 => zAa <| wc rfl rfl (lss0 (by omega)) rfl rfl <| zAd <| zAb K77 <| zAc fun _ K78 => zAf rfl <| zA6 ?_
   refine zAg (by intro h; cases h) ?_
   refine zAg (by intro h; cases h) ?_
   refine zA4 <| zAb K39 <| zAc fun _ K79 => zAa <| wd ty89 rfl (O44.cell 1 0 rfl rfl) rfl rfl <| wa rfl rfl rfl <| zAd <| zAb K79 ?_
   refine zAz ?_
   refine zAy (v := VS0 g3 n n) (fun T hT => res1 rfl T _ (hT 4 _ rfl)) ?_
   exact ⟨g3, rfl, (O44.re [0] rfl)⟩

end Go.Proofs.YtliiclmhpphpmaaGreatDoor
namespace Go.Proofs.YtliiclmhpphpmaaGreatDoor
open Go Go.RowKit
theorem own_join {Z : Bool → Nat → Prop} {w0 W W' : World} {L A : List En} (h : Own Z w0 W L) (h' : Own Z0 W W' A) (ho : ∀ e ∈ A, e.own) : Own Z w0 W' (A ++ L) := h.join h' ho
section
variable {W : World} {V : Value} {B : List Gate} {N : Int}
theorem xopen_ (hG : GatesV W W.heap.size V B) (hw : WfN N B) (hp : 0 < B.length) (hlen : B.length ≤ 65536) (hN0 : 0 ≤ N) (hN1 : N ≤ 128) (hT : TabT W) (hsm : Small (own B ((B.length - 1 : Nat) : Int))) {a : VS} (hsub : a.sub (VS.all N) = true) :
  Calls Tryz.prog 34 #[.agg #[.int .i64 N, V], .agg #[.int .u64 (a.a.toNat : Int), .int .u64 (a.b.toNat : Int)]] W fun e w' => ∃ tk A1 c1 tg, e = .returned (.tuple #[.pointer (some ⟨tk, 0, none⟩), .int .i64 ((idxF (vl B) a : Nat) : Int), .int .i64 0]) ∧ Own Z0 W w' [.blk tk 123 #[.int .i64 N, .slice A1 ((vl B).length) c1, .slice (some ⟨tg, 0, none⟩) (2 ^ (vl B).length) (2 ^ (vl B).length)], .row (.slice A1 ((vl B).length) c1) 3 1 ((vl B).length) (intCs (vl B)), .blk tg 4 ((boolCs (tabS (2 ^ (vl B).length) (fun k => nv B (asgF (vl B) k) ((B.length - 1 : Nat) : Int)))).toArray)] := by
 obtain ⟨b, o, c, rfl, hbW⟩ := zCt hG hp
 have hl6 : (vl B).length ≤ 6 := zEr _ hsm.a
 have O0 := (Own.start W).oldro (D := TabE) (p := TabT) (zB7 hT)
 refine zAu (args := [.agg #[.int .i64 N, .slice (some ⟨b, o, none⟩) B.length c], .agg #[.int .u64 (a.a.toNat : Int), .int .u64 (a.b.toNat : Int)]]) Tryz.func34 rfl rfl (by simp) ?_
 refine zAc fun _ K1 => zAa ?_
 obtain ⟨g2, w3, r4, O5, hg6, hs7⟩ := zA5 O0 39 (.agg #[.int .i64 N, .slice (some ⟨b, o, none⟩) B.length c]) rfl
 refine zAe (v := VP g2) (fun ρ e => r4 ρ _ _ _ _ _ _ (e _ _ rfl)) rfl rfl ?_
 obtain ⟨g8, w9, r10, O11, hg12, hs13⟩ := zA5 O5 25 (.agg #[.int .u64 (a.a.toNat : Int), .int .u64 (a.b.toNat : Int)]) rfl
 refine zAe (v := VP g8) (fun ρ e => r10 ρ _ _ _ _ _ _ (e _ _ rfl)) rfl rfl <| wa rfl rfl rfl <| wa rfl rfl rfl <| wa rfl rfl rfl <| zAd <| zAb K1 <| zAc fun _ K14 => zAc fun _ K15 => ?_
 refine zA1 (fun X => Own Z0 W X [.blk g8 25 #[.int .u64 (a.a.toNat : Int), .int .u64 (a.b.toNat : Int)], .blk g2 39 #[.int .i64 N, .slice (some ⟨b, o, none⟩) B.length c], .ro TabE TabT]) 11 [(0, 0), (1, 2), (2, 1), (3, 1), (4, 0), (5, 1), (6, 0), (7, 2), (8, 2), (9, 1), (10, 1)] (by kernel_rfl) (by kernel_rfl) (PQ.then_ (PQ.then_ PQ.body)) (O11).drew ?_
 have O16 := O11.drew
 refine wt0 (v := .agg #[.int .i64 N, .slice (some ⟨b, o, none⟩) B.length c]) rfl (fun ρ e W hW => zAk (vs := [.int .i64 N, .slice (some ⟨b, o, none⟩) B.length c]) ty39 (e _ _ rfl) rfl (hW.cells 1 0 rfl rfl)) rfl rfl ?_
 refine zA7 (args := [.agg #[.int .i64 N, .slice (some ⟨b, o, none⟩) B.length c]]) rfl zJp rfl rfl rfl ?_
 refine (zF3 (zBv hG O16.old) hw hp hlen hN0 hN1).mono ?_
 rintro _ w17 ⟨rfl, hb18⟩
 have O19 := O16.below hb18
 refine ⟨_, rfl, O19, ?_⟩
 refine wt1 (v := .bool false) rfl (fun ρ e W => zCx (u := 0) (v := 0) (e _ _ rfl) (e _ _ rfl) (neq0 (by omega))) rfl rfl <| tm rfl rfl rfl rfl <| wt0 (v := .agg #[.int .u64 (a.a.toNat : Int), .int .u64 (a.b.toNat : Int)]) rfl (fun ρ e W hW => zAk (vs := [.int .u64 (a.a.toNat : Int), .int .u64 (a.b.toNat : Int)]) ty25 (e _ _ rfl) rfl (hW.cells 0 0 rfl rfl)) rfl rfl <| wt1 (v := VP g2) rfl (fun ρ e W => zBd (q := 0) zHu (e _ _ rfl) rfl) rfl rfl <| wt0 (v := .int .i64 N) rfl (fun ρ e W hW => zAm ty3 (e _ _ rfl) (hW.cell 1 0 rfl rfl)) rfl rfl ?_
 refine zA7 (args := [.int .i64 N]) rfl in_45 rfl rfl rfl ?_
 refine (zHx N w17 (by omega) (by omega)).mono ?_
 rintro _ w20 ⟨rfl, hb21⟩
 have O22 := O19.below hb21
 refine ⟨_, rfl, O22, ?_⟩
 refine zA7 (args := [.agg #[.int .u64 (a.a.toNat : Int), .int .u64 (a.b.toNat : Int)], .agg #[.int .u64 ((VS.all N).a.toNat : Int), .int .u64 ((VS.all N).b.toNat : Int)]]) rfl in_44 rfl rfl rfl ?_
 have hc23 := vars_sub a.a a.b (VS.all N).a (VS.all N).b w20
 rw [show VS.sub ⟨a.a, a.b⟩ ⟨(VS.all N).a, (VS.all N).b⟩ = true from hsub] at hc23
 refine hc23.mono ?_
 rintro _ w24 ⟨rfl, hb25⟩
 have O26 := O22.below hb25
 refine ⟨_, rfl, O26, ?_⟩
 refine wt1 (v := .bool false) rfl (fun ρ e W => zBw (b := true) (e _ _ rfl)) rfl rfl <| wt1 (v := .bool false) rfl (fun ρ e W => zA2 (e _ _ rfl) (e _ _ rfl)) rfl rfl <| zBc <| zAb K15 <| zAf rfl <| zAj <| zAb K14 <| zAc fun _ K27 => ?_
 refine zAa <| zAe (v := .agg #[.int .i64 N, .slice (some ⟨b, o, none⟩) B.length c]) (fun ρ e => zAk (vs := [.int .i64 N, .slice (some ⟨b, o, none⟩) B.length c]) ty39 (e _ _ rfl) rfl (O26.cells 1 0 rfl rfl)) rfl rfl ?_
 refine zAs (args := [.agg #[.int .i64 N, .slice (some ⟨b, o, none⟩) B.length c]]) in_66 rfl rfl rfl ?_
 refine (tabled_ (zBv hG O26.old) hw hp hlen hN0 hN1 (O26.ro 2 rfl) hsm).mono ?_
 rintro _ w28 ⟨tk, A1, c1, tg, rfl, h29⟩
 have O30 := own_join O26 h29 (by intro e he; simp at he; rcases he with rfl | rfl | rfl <;> trivial)
 refine ⟨_, rfl, ?_⟩
 refine wm rfl rfl rfl <| we rfl rfl rfl rfl <| we rfl rfl rfl rfl <| wa rfl rfl rfl <| wa rfl rfl rfl <| zAd <| zAb K27 <| zAc fun _ K31 => ?_
 refine zAc fun _ K32 => zAa <| wm rfl rfl rfl <| wc rfl rfl (neq0 (by omega)) rfl rfl <| zAd <| zAb K32 <| zAf rfl <| zAj ?_
 refine zAb K31 <| zAc fun _ K33 => zAa <| wm rfl rfl rfl <| wm rfl rfl rfl <| zAe (v := .agg #[.int .u64 (a.a.toNat : Int), .int .u64 (a.b.toNat : Int)]) (fun ρ e => zAk (vs := [.int .u64 (a.a.toNat : Int), .int .u64 (a.b.toNat : Int)]) ty25 (e _ _ rfl) rfl (O30.cells 3 0 rfl rfl)) rfl rfl ?_
 refine zAs (args := [VP tk, .agg #[.int .u64 (a.a.toNat : Int), .int .u64 (a.b.toNat : Int)]]) in_36 rfl rfl rfl ?_
 refine (index_ (W := w28) (l := vl B) (tk := tk) (O30.blk 0 rfl).lt (O30.cell 0 1 rfl rfl) (IntsD.of_row (O30.row 1 rfl)) (fun k hk => (World.ownsRow.lt (O30.row 1 rfl) k hk).2) hl6 a).mono ?_
 rintro _ w34 ⟨rfl, hb35⟩
 have O36 := O30.below hb35
 refine ⟨_, rfl, ?_⟩
 refine wa rfl rfl rfl <| wa rfl rfl rfl <| wa rfl rfl rfl <| zAd <| zAb K33 <| zAz ?_
 refine zAy (v := .tuple #[VP tk, .int .i64 ((idxF (vl B) a : Nat) : Int), .int .i64 0]) (fun T hT => res3 rfl T _ (hT 4 _ rfl) (hT 5 _ rfl) (hT 6 _ rfl)) ?_
 exact ⟨tk, A1, c1, tg, rfl, (O36.re [0, 1, 2] rfl)⟩
theorem biased0_ (hG : GatesV W W.heap.size V B) (hw : WfN N B) (hp : 0 < B.length) (hlen : B.length ≤ 65536) (hN0 : 0 ≤ N) (hN1 : N ≤ 128) (hT : TabT W) (hsm : Small (own B ((B.length - 1 : Nat) : Int))) {a : VS} (P : VS) (hsub : a.sub (VS.all N) = true) :
  Calls Tryz.prog 9 #[.agg #[.int .i64 N, V], .agg #[.int .u64 (a.a.toNat : Int), .int .u64 (a.b.toNat : Int)], .agg #[.int .u64 (P.a.toNat : Int), .int .u64 (P.b.toNat : Int)]] W fun e w' => e = .returned (.tuple #[.bool (zeta (dif (fun k => nv B (asgF (vl B) k) ((B.length - 1 : Nat) : Int)) (idxF (vl B) a)) (vl B).length (idxF (vl B) P)), .int .i64 0]) ∧ Below W.heap.size W w' := by
 obtain ⟨b, o, c, rfl, hbW⟩ := zCt hG hp
 have hl6 : (vl B).length ≤ 6 := zEr _ hsm.a
 have O0 := (Own.start W).oldro (D := TabE) (p := TabT) (zB7 hT)
 refine zAu (args := [.agg #[.int .i64 N, .slice (some ⟨b, o, none⟩) B.length c], .agg #[.int .u64 (a.a.toNat : Int), .int .u64 (a.b.toNat : Int)], .agg #[.int .u64 (P.a.toNat : Int), .int .u64 (P.b.toNat : Int)]]) Tryz.func9 rfl rfl (by simp) ?_
 refine zAc fun _ K1 => zAa ?_
 obtain ⟨g2, w3, r4, O5, hg6, hs7⟩ := zA5 O0 39 (.agg #[.int .i64 N, .slice (some ⟨b, o, none⟩) B.length c]) rfl
 refine zAe (v := VP g2) (fun ρ e => r4 ρ _ _ _ _ _ _ (e _ _ rfl)) rfl rfl ?_
 obtain ⟨g8, w9, r10, O11, hg12, hs13⟩ := zA5 O5 25 (.agg #[.int .u64 (a.a.toNat : Int), .int .u64 (a.b.toNat : Int)]) rfl
 refine zAe (v := VP g8) (fun ρ e => r10 ρ _ _ _ _ _ _ (e _ _ rfl)) rfl rfl ?_
 obtain ⟨g14, w15, r16, O17, hg18, hs19⟩ := zA5 O11 25 (.agg #[.int .u64 (P.a.toNat : Int), .int .u64 (P.b.toNat : Int)]) rfl
 refine zAe (v := VP g14) (fun ρ e => r16 ρ _ _ _ _ _ _ (e _ _ rfl)) rfl rfl <| wa rfl rfl rfl <| wa rfl rfl rfl <| nx K1 fun _ K20 => zAe (v := .agg #[.int .i64 N, .slice (some ⟨b, o, none⟩) B.length c]) (fun ρ e => zAk (vs := [.int .i64 N, .slice (some ⟨b, o, none⟩) B.length c]) ty39 (e _ _ rfl) rfl (O17.cells 2 0 rfl rfl)) rfl rfl <| zAe (v := .agg #[.int .u64 (a.a.toNat : Int), .int .u64 (a.b.toNat : Int)]) (fun ρ e => zAk (vs := [.int .u64 (a.a.toNat : Int), .int .u64 (a.b.toNat : Int)]) ty25 (e _ _ rfl) rfl (O17.cells 1 0 rfl rfl)) rfl rfl ?_
 refine zAs (args := [.agg #[.int .i64 N, .slice (some ⟨b, o, none⟩) B.length c], .agg #[.int .u64 (a.a.toNat : Int), .int .u64 (a.b.toNat : Int)]]) in_34 rfl rfl rfl ?_
 refine (xopen_ (zBv hG O17.old) hw hp hlen hN0 hN1 (O17.ro 3 rfl) hsm hsub).mono ?_
 rintro _ w21 ⟨tk, A1, c1, tg, rfl, h22⟩
 have O23 := own_join O17 h22 (by intro e he; simp at he; rcases he with rfl | rfl | rfl <;> trivial)
 refine ⟨_, rfl, ?_⟩
 refine wm rfl rfl rfl <| we rfl rfl rfl rfl <| we rfl rfl rfl rfl <| we rfl rfl rfl rfl <| wa rfl rfl rfl <| wa rfl rfl rfl <| wa rfl rfl rfl <| zAd ?_
 refine zAb K20 <| zAc fun _ K24 => zAc fun _ K25 => zAa <| wm rfl rfl rfl <| wc rfl rfl (neq0 (by omega)) rfl rfl <| zAd <| zAb K25 ?_
 refine zAf rfl <| zAj <| zAb K24 <| zAc fun _ K26 => ?_
 refine zA1 (fun X => Own Z0 W X [.blk tk 123 #[.int .i64 N, .slice A1 ((vl B).length) c1, VS0 tg (2 ^ (vl B).length) (2 ^ (vl B).length)], .blk tg 4 ((boolCs (tabS (2 ^ (vl B).length) (fun k => nv B (asgF (vl B) k) ((B.length - 1 : Nat) : Int)))).toArray), .blk g14 25 #[.int .u64 (P.a.toNat : Int), .int .u64 (P.b.toNat : Int)], .blk g8 25 #[.int .u64 (a.a.toNat : Int), .int .u64 (a.b.toNat : Int)], .blk g2 39 #[.int .i64 N, .slice (some ⟨b, o, none⟩) B.length c], .ro TabE TabT]) 8 [(0, 1), (1, 1), (3, 1), (4, 0), (2, 2), (5, 2), (6, 1), (7, 2), (8, 3), (9, 3)] (by kernel_rfl) (by kernel_rfl) (PQ.then_ PQ.body) ((O23.re [0, 2, 3, 4, 5, 6] rfl)).drew ?_
 have O27 := O23.drew
 refine tm rfl rfl rfl rfl <| tm rfl rfl rfl rfl <| tm rfl rfl rfl rfl <| wt0 (v := .agg #[.int .u64 (P.a.toNat : Int), .int .u64 (P.b.toNat : Int)]) rfl (fun ρ e W hW => zAk (vs := [.int .u64 (P.a.toNat : Int), .int .u64 (P.b.toNat : Int)]) ty25 (e _ _ rfl) rfl (hW.cells 2 0 rfl rfl)) rfl rfl ?_
 refine zA7 (args := [VP tk, .int .i64 ((idxF (vl B) a : Nat) : Int)]) rfl in_35 rfl rfl rfl ?_
 refine (changes_ (W := w21.drew) (tk := tk) (tg := tg) (a := idxF (vl B) a) (g := (fun k => nv B (asgF (vl B) k) ((B.length - 1 : Nat) : Int))) (O27.blk 0 rfl).lt (O27.blk 2 rfl).lt (O27.cell 0 1 rfl rfl) (O27.cell 0 2 rfl rfl) (fun k hk => O27.cell 2 k rfl (getBo (zDj hk))) hl6 rfl (zD3 a _)).mono ?_
 rintro _ w28 ⟨cg31, rfl, h29⟩
 have O30 := zBr O27 h29
 refine ⟨_, rfl, (O30.re [1, 3, 4, 5, 6, 7] rfl), ?_⟩
 refine zA7 (args := [VP tk, .agg #[.int .u64 (P.a.toNat : Int), .int .u64 (P.b.toNat : Int)]]) rfl in_36 rfl rfl rfl ?_
 refine (index_ (W := w28) (l := vl B) (tk := tk) (O30.blk 1 rfl).lt (O30.cell 1 1 rfl rfl) (IntsD.of_row (O30.row 2 rfl)) (fun k hk => (World.ownsRow.lt (O30.row 2 rfl) k hk).2) hl6 P).mono ?_
 rintro _ w32 ⟨rfl, hb33⟩
 have O34 := O30.below hb33
 refine ⟨_, rfl, (O34.re [1, 3, 4, 5, 6, 7] rfl), ?_⟩
 refine wt1 (v := .pointer (some ⟨cg31, idxF (vl B) P, none⟩)) rfl (fun ρ e W => zA9 (q := idxF (vl B) P) (i := idxF (vl B) P) el89 (e _ _ rfl) (e _ _ rfl) (zD3 P _) (by omega)) rfl rfl ?_
 refine wt2 (v := .bool (zeta (dif (fun k => nv B (asgF (vl B) k) ((B.length - 1 : Nat) : Int)) (idxF (vl B) a)) (vl B).length (idxF (vl B) P))) rfl (fun ρ e => zAm ty4 (e _ _ rfl) (O34.cell 0 (idxF (vl B) P) rfl (getBo (zDj (zD3 P _))))) rfl rfl (O34.re [1, 3, 4, 5, 6, 7] rfl) ?_
 refine wt3 (v := .bool (zeta (dif (fun k => nv B (asgF (vl B) k) ((B.length - 1 : Nat) : Int)) (idxF (vl B) a)) (vl B).length (idxF (vl B) P))) rfl (fun ρ e => zBb (e _ _ rfl)) rfl rfl <| wt3 (v := .int .i64 0) rfl (fun ρ e => zBb (e _ _ rfl)) rfl rfl <| zBc <| zAb K26 <| zAz ?_
 refine zAy (v := .tuple #[.bool (zeta (dif (fun k => nv B (asgF (vl B) k) ((B.length - 1 : Nat) : Int)) (idxF (vl B) a)) (vl B).length (idxF (vl B) P)), .int .i64 0]) (fun T hT => res2 rfl T _ (hT 6 _ rfl) (hT 7 _ rfl)) ?_
 exact ⟨rfl, O34.old⟩
end

end Go.Proofs.YtliiclmhpphpmaaGreatDoor
namespace Go.Proofs.YtliiclmhpphpmaaGreatDoor
open Go Go.RowKit
theorem zId {T : Nat} {w : World} {A : Option Addr} {n c : Nat} {gs : List Gate} {vs : List Value} {D : Nat → Prop} (hr : w.ownsRow 0 T 3 (.slice A n c) n (gcells gs vs)) (hI : Ins D gs vs w) (hD : ∀ k, D k → k < w.heap.size) : GatesV w w.heap.size (.slice A n c) gs := by
 have hlen : n = gs.length := by
  have h1 := hr.1
  have h2 : ∀ (L : List Gate) (v : List Value), L.length = v.length → (gcells L v).length = L.length * 3 := by
   intro L
   induction L with
   | nil => intro v _; rfl
   | cons g L ih =>
    intro v hv
    cases v with
    | nil => cases hv
    | cons u v =>
     show (gcell g u ++ gcells L v).length = _
     rw [List.length_append, ih v (by simpa using hv)]
     simp [gcell]; omega
  rw [h2 gs vs hI.1] at h1
  omega
 rcases hr.2 with ⟨h1, h2⟩ | ⟨g, cap, cur, h1, _, hg, h3, h4, _, _⟩
 ·injection h1 with h5 h6 h7
  subst h5 h7
  have : gs = [] := List.length_eq_zero_iff.1 (by omega)
  subst this
  exact ⟨none, 0, by rw [h2]; rfl, Nat.le_refl _, Nat.zero_le _, fun h => absurd h (Nat.lt_irrefl _)⟩
 ·injection h1 with h5 h6 h7
  subst h5 h7
  exact gatesV_of (fun j v hj => rowcell hr hj) hI hD (Array.getElem?_eq_some_iff.1 hg).1 hlen h3 h4
def fs3 : List (List TN) := [[⟨1, 1, 2, false⟩, ⟨0, 0, 0, false⟩, ⟨0, 0, 0, true⟩], [⟨2, 1, 2, false⟩, ⟨0, 0, 0, false⟩, ⟨0, 0, 0, true⟩], [⟨3, 1, 2, false⟩, ⟨0, 0, 0, false⟩, ⟨0, 0, 0, true⟩]]
theorem ck1 : chkT [⟨1, 1, 2, false⟩, ⟨0, 0, 0, false⟩, ⟨0, 0, 0, true⟩] 128 = 0 := by decide +kernel
theorem ck2 : chkT [⟨2, 1, 2, false⟩, ⟨0, 0, 0, false⟩, ⟨0, 0, 0, true⟩] 128 = 0 := by decide +kernel
theorem ck3 : chkT [⟨3, 1, 2, false⟩, ⟨0, 0, 0, false⟩, ⟨0, 0, 0, true⟩] 128 = 0 := by decide +kernel
theorem ck_all : ∀ ts ∈ fs3, chkT ts 3 = 0 ∧ ts.length ≤ 30 := by decide +kernel
theorem vote5 : voteOf fs3 (asg 5) = true := by decide +kernel
theorem vote2 : voteOf fs3 (asg 2) = false := by decide +kernel
theorem sub5 : (asg 5).sub (VS.all 3) = true := by decide +kernel
theorem eval5 : evalOf 3 (forestG fs3) (asg 5) = true := (eval_forest (by decide) (by decide) ck_all (by decide) sub5).trans vote5
theorem forest_len : sizeOf (forestG fs3) ≤ 1000 := by decide +kernel
section
variable {W : World} {D : Nat → Prop} {V : Value} {fs : List (List TN)} {m : Nat}
theorem asg_a (hm : m < 2 ^ 64) : (asg m).a.toNat = m := by unfold asg; rw [BitVec.toNat_ofNat, Nat.mod_eq_of_lt hm]
theorem voteb_ (hF : ForestD D W V fs) (hD : ∀ k, D k → k < W.heap.size) (hm : m < 2 ^ 64) (hsz : fs.length ≤ 1000000) {r : Bool} (hr : voteOf fs (asg m) = r) : Calls Tryz.prog 15 #[V, .agg #[.int .u64 (m : Int), .int .u64 0]] W fun e w' => e = .returned (.bool r) ∧ Below W.heap.size W w' := by
 have h := vote_ hF hD (asg m) hsz
 rw [asg_a hm, hr] at h
 exact h
theorem zCz {ts : List TN} (hT : TreeD D W V ts) (hD : ∀ k, D k → k < W.heap.size) (hm : m < 2 ^ 64) {r : Bool} (hr : classOf ts (asg m) = r) : Calls Tryz.prog 10 #[V, .agg #[.int .u64 (m : Int), .int .u64 0]] W fun e w' => e = .returned (.bool r) ∧ Below W.heap.size W w' := by
 have h := classify_ hT hD (asg m)
 rw [asg_a hm, hr] at h
 exact h
theorem evalb_ {gs : List Gate} {N : Int} (hG : GatesV W W.heap.size V gs) (hN0 : 0 ≤ N) (hN1 : N ≤ 128) (hm : m < 2 ^ 64) (hsz : sizeOf gs ≤ 4611686018427387904) {r : Bool} (hr : evalOf N gs (asg m) = r) : Calls Tryz.prog 14 #[.agg #[.int .i64 N, V], .agg #[.int .u64 (m : Int), .int .u64 0]] W fun e w' => e = .returned (.bool r) ∧ Below W.heap.size W w' := by
 have h := circ_eval N V gs (asg m).a (asg m).b W W.heap.size (Nat.le_refl _) hG hsz (by omega) (by omega)
 rw [asg_a hm, show evalOf N gs ⟨(asg m).a, (asg m).b⟩ = r from hr] at h
 exact h
end
theorem zEb {w : World} {g n1 n2 n3 c1 c2 c3 : Nat} (hb : Blk w g 28 #[.slice (some ⟨n1, 0, none⟩) 3 c1, .slice (some ⟨n2, 0, none⟩) 3 c2, .slice (some ⟨n3, 0, none⟩) 3 c3])
  (h1 : TreeD (fun k => k = n1) w (VS0 n1 3 c1) [⟨1, 1, 2, false⟩, ⟨0, 0, 0, false⟩, ⟨0, 0, 0, true⟩]) (h2 : TreeD (fun k => k = n2) w (VS0 n2 3 c2) [⟨2, 1, 2, false⟩, ⟨0, 0, 0, false⟩, ⟨0, 0, 0, true⟩]) (h3 : TreeD (fun k => k = n3) w (VS0 n3 3 c3) [⟨3, 1, 2, false⟩, ⟨0, 0, 0, false⟩, ⟨0, 0, 0, true⟩]) :
  ForestD (fun k => k = g ∨ k = n1 ∨ k = n2 ∨ k = n3) w (VS0 g 3 3) fs3 := by
 have mono : ∀ {D D' : Nat → Prop} {v : Value} {ts : List TN}, TreeD D w v ts → (∀ k, D k → D' k) → TreeD D' w v ts := by
  rintro D D' v ts ⟨A, c, q1, q2, q3, q4⟩ h
  exact ⟨A, c, q1, q2, q3, fun hp => by obtain ⟨b, o, hb, hA, hc⟩ := q4 hp; exact ⟨b, o, h b hb, hA, hc⟩⟩
 refine ⟨some ⟨g, 0, none⟩, 3, rfl, Nat.le_refl _, by decide, fun _ => ⟨g, 0, .inl rfl, rfl, fun i ts hx => ?_⟩⟩
 rcases (show i = 0 ∨ i = 1 ∨ i = 2 by have := (List.getElem?_eq_some_iff.1 hx).1; simp [fs3] at this; omega) with rfl | rfl | rfl
 ·simp [fs3] at hx; subst hx
  exact ⟨_, hb.cell 0, mono h1 (fun k hk => .inr (.inl hk))⟩
 ·simp [fs3] at hx; subst hx
  exact ⟨_, hb.cell 1, mono h2 (fun k hk => .inr (.inr (.inl hk)))⟩
 ·simp [fs3] at hx; subst hx
  exact ⟨_, hb.cell 2, mono h3 (fun k hk => .inr (.inr (.inr hk)))⟩
theorem zHz {g n1 n2 n3 B : Nat} (h0 : g < B) (h1 : n1 < B) (h2 : n2 < B) (h3 : n3 < B) : ∀ k, (fun k => k = g ∨ k = n1 ∨ k = n2 ∨ k = n3) k → k < B := by
 rintro k (h | h | h | h) <;> omega
theorem zHr (W : World) : Calls Tryz.prog 4 #[] W fun e w' => e = .returned (.bool true) ∧ Below W.heap.size W w' := by
 have O0 : Own Z0 W W [] := Own.start W
 refine zAu (args := []) Tryz.func4 rfl rfl (by simp) ?_
 refine zAc fun _ K1 => zAa <| wa rfl rfl rfl <| nx K1 fun _ K2 => ?_
 refine zAs (args := [.string (⟨#[40, 49, 32, 45, 32, 43, 41]⟩)]) in_16 rfl rfl rfl ?_
 refine (parse_ (W := W) (d := 49) (v := 1) (by decide) (by decide) (by decide) rfl ck1).mono ?_
 rintro _ w3 ⟨n1, c1, rfl, hT4, hl5, hb6, hn7⟩
 have O8 : Own Z0 W w3 [.ro (fun k => k = n1) (fun w => TreeD (fun k => k = n1) w (VS0 n1 3 c1) [⟨1, 1, 2, false⟩, ⟨0, 0, 0, false⟩, ⟨0, 0, 0, true⟩])] := O0.add hb6 (e := treeE (fun k => k = n1) (VS0 n1 3 c1) [⟨1, 1, 2, false⟩, ⟨0, 0, 0, false⟩, ⟨0, 0, 0, true⟩]) (zB8 hT4 (fun k hk => by subst hk; exact hl5)) (fun k hk => by have : k = n1 := hk; rw [this]; exact hn7)
 refine ⟨_, rfl, ?_⟩
 refine wm rfl rfl rfl <| we rfl rfl rfl rfl <| we rfl rfl rfl rfl <| wa rfl rfl rfl <| wa rfl rfl rfl <| nx K2 fun _ K9 => ?_
 refine zAs (args := [.string (⟨#[40, 50, 32, 45, 32, 43, 41]⟩)]) in_16 rfl rfl rfl ?_
 refine (parse_ (W := w3) (d := 50) (v := 2) (by decide) (by decide) (by decide) rfl ck2).mono ?_
 rintro _ w10 ⟨n2, c2, rfl, hT11, hl12, hb13, hn14⟩
 have O15 : Own Z0 W w10 [.ro (fun k => k = n2) (fun w => TreeD (fun k => k = n2) w (VS0 n2 3 c2) [⟨2, 1, 2, false⟩, ⟨0, 0, 0, false⟩, ⟨0, 0, 0, true⟩]), .ro (fun k => k = n1) (fun w => TreeD (fun k => k = n1) w (VS0 n1 3 c1) [⟨1, 1, 2, false⟩, ⟨0, 0, 0, false⟩, ⟨0, 0, 0, true⟩])] := O8.add hb13 (e := treeE (fun k => k = n2) (VS0 n2 3 c2) [⟨2, 1, 2, false⟩, ⟨0, 0, 0, false⟩, ⟨0, 0, 0, true⟩]) (zB8 hT11 (fun k hk => by subst hk; exact hl12)) (fun k hk => by have : k = n2 := hk; rw [this]; exact hn14)
 refine ⟨_, rfl, ?_⟩
 refine wm rfl rfl rfl <| we rfl rfl rfl rfl <| we rfl rfl rfl rfl <| wa rfl rfl rfl <| wa rfl rfl rfl <| nx K9 fun _ K16 => ?_
 refine zAs (args := [.string (⟨#[40, 51, 32, 45, 32, 43, 41]⟩)]) in_16 rfl rfl rfl ?_
 refine (parse_ (W := w10) (d := 51) (v := 3) (by decide) (by decide) (by decide) rfl ck3).mono ?_
 rintro _ w17 ⟨n3, c3, rfl, hT18, hl19, hb20, hn21⟩
 have O22 : Own Z0 W w17 [.ro (fun k => k = n3) (fun w => TreeD (fun k => k = n3) w (VS0 n3 3 c3) [⟨3, 1, 2, false⟩, ⟨0, 0, 0, false⟩, ⟨0, 0, 0, true⟩]), .ro (fun k => k = n2) (fun w => TreeD (fun k => k = n2) w (VS0 n2 3 c2) [⟨2, 1, 2, false⟩, ⟨0, 0, 0, false⟩, ⟨0, 0, 0, true⟩]), .ro (fun k => k = n1) (fun w => TreeD (fun k => k = n1) w (VS0 n1 3 c1) [⟨1, 1, 2, false⟩, ⟨0, 0, 0, false⟩, ⟨0, 0, 0, true⟩])] := O15.add hb20 (e := treeE (fun k => k = n3) (VS0 n3 3 c3) [⟨3, 1, 2, false⟩, ⟨0, 0, 0, false⟩, ⟨0, 0, 0, true⟩]) (zB8 hT18 (fun k hk => by subst hk; exact hl19)) (fun k hk => by have : k = n3 := hk; rw [this]; exact hn21)
 refine ⟨_, rfl, ?_⟩
 refine wm rfl rfl rfl <| we rfl rfl rfl rfl <| we rfl rfl rfl rfl <| wa rfl rfl rfl <| wa rfl rfl rfl <| nx K16 fun _ K23 => wm rfl rfl rfl <| wm rfl rfl rfl ?_
 refine wm rfl rfl rfl ?_
 obtain ⟨g24, w25, r26, O27, hg28, hs29⟩ := zBg O22 el22 ze28 3 [(0, VS0 n1 3 c1), (1, VS0 n2 3 c2), (2, VS0 n3 3 c3)] (cs := #[VS0 n1 3 c1, VS0 n2 3 c2, VS0 n3 3 c3]) (by decide) (by kernel_rfl)
 refine zAe (v := VS0 g24 3 3) (fun ρ e => r26 ρ _ _ _ _ _ _ (e.parts rfl)) rfl rfl ?_
 refine zAs (args := [VS0 g24 3 3, .int .i64 3]) in_6 rfl rfl rfl ?_
 have hF30 := zEb (O27.blk 0 rfl) (O27.ro 3 rfl) (O27.ro 2 rfl) (O27.ro 1 rfl)
 have hD31 : ∀ k, (fun k => k = g24 ∨ k = n1 ∨ k = n2 ∨ k = n3) k → k < w25.heap.size := zHz (O27.blk 0 rfl).lt ((O27.get 3 rfl).2.1 _ rfl) ((O27.get 2 rfl).2.1 _ rfl) ((O27.get 1 rfl).2.1 _ rfl)
 have O35 : Own Z0 W w25 [.ro (fun k => k = g24 ∨ k = n1 ∨ k = n2 ∨ k = n3) (fun w => ForestD (fun k => k = g24 ∨ k = n1 ∨ k = n2 ∨ k = n3) w (VS0 g24 3 3) fs3), .ro (fun k => k = n1) (fun w => TreeD (fun k => k = n1) w (VS0 n1 3 c1) [⟨1, 1, 2, false⟩, ⟨0, 0, 0, false⟩, ⟨0, 0, 0, true⟩]), .ro (fun k => k = n2) (fun w => TreeD (fun k => k = n2) w (VS0 n2 3 c2) [⟨2, 1, 2, false⟩, ⟨0, 0, 0, false⟩, ⟨0, 0, 0, true⟩]), .ro (fun k => k = n3) (fun w => TreeD (fun k => k = n3) w (VS0 n3 3 c3) [⟨3, 1, 2, false⟩, ⟨0, 0, 0, false⟩, ⟨0, 0, 0, true⟩])] := Own.roonly (O27.re [3, 2, 1] rfl) (by intro e he ho; simp only [List.mem_cons, List.not_mem_nil, or_false] at he; rcases he with rfl | rfl | rfl <;> exact ho) ⟨hF30, hD31, fun _ _ _ hk h => h.move hk⟩
 refine (gforest_ hF30 hD31 (n := 3) (by decide) (by decide) ck_all (by decide)).mono ?_
 rintro _ w32 ⟨R, c, D, vs, rfl, h33⟩
 have O34 : Own Z0 W w32 [.row (.slice R ((forestG fs3).length) c) 65 3 ((forestG fs3).length) (gcells (forestG fs3) vs), .ro D (Ins D (forestG fs3) vs), .ro (fun k => k = g24 ∨ k = n1 ∨ k = n2 ∨ k = n3) (fun w => ForestD (fun k => k = g24 ∨ k = n1 ∨ k = n2 ∨ k = n3) w (VS0 g24 3 3) fs3), .ro (fun k => k = n1) (fun w => TreeD (fun k => k = n1) w (VS0 n1 3 c1) [⟨1, 1, 2, false⟩, ⟨0, 0, 0, false⟩, ⟨0, 0, 0, true⟩]), .ro (fun k => k = n2) (fun w => TreeD (fun k => k = n2) w (VS0 n2 3 c2) [⟨2, 1, 2, false⟩, ⟨0, 0, 0, false⟩, ⟨0, 0, 0, true⟩]), .ro (fun k => k = n3) (fun w => TreeD (fun k => k = n3) w (VS0 n3 3 c3) [⟨3, 1, 2, false⟩, ⟨0, 0, 0, false⟩, ⟨0, 0, 0, true⟩])] := own_joinZ O35 (List.Mem.head _) h33
 refine ⟨_, rfl, ?_⟩
 refine wm rfl rfl rfl <| we rfl rfl rfl rfl <| we rfl rfl rfl rfl ?_
 obtain ⟨g36, w37, r38, O39, hg40, hs41⟩ := zAw O34 33 ze33 rfl
 refine zAe (v := VP g36) (fun ρ e => r38 ρ _ _ _ _ _) rfl rfl ?_
 obtain ⟨w42, r43, O44, hs45⟩ := zAp (o := 0) (n := 2) O39 ty33 (.agg #[.int .i64 3, .slice R ((forestG fs3).length) c]) _ (cs' := #[.int .i64 3, .slice R ((forestG fs3).length) c]) rfl rfl rfl (Nat.le_of_ble_eq_true rfl) rfl
 refine zAv (fun ρ e => r43 ρ _ _ _ _ _ _ (e _ _ rfl) (e _ _ rfl)) rfl <| wa rfl rfl rfl <| nx K23 fun _ K46 => wm rfl rfl rfl <| wc rfl rfl (eql1 (by omega)) rfl rfl <| wm rfl rfl rfl <| wm rfl rfl rfl <| wc rfl rfl (eql1 (by omega)) rfl rfl ?_
 refine zAe (v := .bool true) (fun ρ e => zBa (e _ _ rfl) (e _ _ rfl)) rfl rfl <| wm rfl rfl rfl <| wm rfl rfl rfl <| wc rfl rfl (eql1 (by omega)) rfl rfl <| zAe (v := .bool true) (fun ρ e => zBa (e _ _ rfl) (e _ _ rfl)) rfl rfl <| wm rfl rfl rfl <| wm rfl rfl rfl <| wc rfl rfl (eql1 (by omega)) rfl rfl ?_
 refine zAe (v := .bool true) (fun ρ e => zBa (e _ _ rfl) (e _ _ rfl)) rfl rfl <| wm rfl rfl rfl <| wm rfl rfl rfl <| wm rfl rfl rfl <| wm rfl rfl rfl ?_
 obtain ⟨g47, w48, r49, O50, hg51, hs52⟩ := zBg O44 el22 ze28 3 [(0, VS0 n1 3 c1), (1, VS0 n2 3 c2), (2, VS0 n3 3 c3)] (cs := #[VS0 n1 3 c1, VS0 n2 3 c2, VS0 n3 3 c3]) (by decide) (by kernel_rfl)
 refine zAe (v := VS0 g47 3 3) (fun ρ e => r49 ρ _ _ _ _ _ _ (e.parts rfl)) rfl rfl <| zAe (v := .agg #[.int .u64 5, .int .u64 0]) (fun ρ e => zBl (cells := #[.int .u64 5, .int .u64 0]) ar25 (e.parts rfl) rfl) rfl rfl ?_
 refine zAs (args := [VS0 g47 3 3, .agg #[.int .u64 5, .int .u64 0]]) in_15 rfl rfl rfl ?_
 have hF53 := zEb (O50.blk 0 rfl) (O50.ro 5 rfl) (O50.ro 6 rfl) (O50.ro 7 rfl)
 have hD54 : ∀ k, (fun k => k = g47 ∨ k = n1 ∨ k = n2 ∨ k = n3) k → k < w48.heap.size := zHz (O50.blk 0 rfl).lt ((O50.get 5 rfl).2.1 _ rfl) ((O50.get 6 rfl).2.1 _ rfl) ((O50.get 7 rfl).2.1 _ rfl)
 refine (voteb_ hF53 hD54 (m := 5) (by decide) (by decide) vote5).mono ?_
 rintro _ w55 ⟨rfl, hb56⟩
 have O57 := O50.below hb56
 refine ⟨_, rfl, ?_⟩
 refine zAe (v := .bool true) (fun ρ e => zBa (e _ _ rfl) (e _ _ rfl)) rfl rfl <| wm rfl rfl rfl <| wm rfl rfl rfl <| wm rfl rfl rfl <| wm rfl rfl rfl ?_
 obtain ⟨g58, w59, r60, O61, hg62, hs63⟩ := zBg O57 el22 ze28 3 [(0, VS0 n1 3 c1), (1, VS0 n2 3 c2), (2, VS0 n3 3 c3)] (cs := #[VS0 n1 3 c1, VS0 n2 3 c2, VS0 n3 3 c3]) (by decide) (by kernel_rfl)
 refine zAe (v := VS0 g58 3 3) (fun ρ e => r60 ρ _ _ _ _ _ _ (e.parts rfl)) rfl rfl <| zAe (v := .agg #[.int .u64 2, .int .u64 0]) (fun ρ e => zBl (cells := #[.int .u64 2, .int .u64 0]) ar25 (e.parts rfl) rfl) rfl rfl ?_
 refine zAs (args := [VS0 g58 3 3, .agg #[.int .u64 2, .int .u64 0]]) in_15 rfl rfl rfl ?_
 have hF64 := zEb (O61.blk 0 rfl) (O61.ro 6 rfl) (O61.ro 7 rfl) (O61.ro 8 rfl)
 have hD65 : ∀ k, (fun k => k = g58 ∨ k = n1 ∨ k = n2 ∨ k = n3) k → k < w59.heap.size := zHz (O61.blk 0 rfl).lt ((O61.get 6 rfl).2.1 _ rfl) ((O61.get 7 rfl).2.1 _ rfl) ((O61.get 8 rfl).2.1 _ rfl)
 refine (voteb_ hF64 hD65 (m := 2) (by decide) (by decide) vote2).mono ?_
 rintro _ w66 ⟨rfl, hb67⟩
 have O68 := O61.below hb67
 refine ⟨_, rfl, ?_⟩
 refine zAe (v := .bool true) (fun ρ e => zBw (b := false) (e _ _ rfl)) rfl rfl <| zAe (v := .bool true) (fun ρ e => zBa (e _ _ rfl) (e _ _ rfl)) rfl rfl <| wm rfl rfl rfl <| zAe (v := .agg #[.int .i64 3, .slice R ((forestG fs3).length) c]) (fun ρ e => zAk (vs := [.int .i64 3, .slice R ((forestG fs3).length) c]) ty33 (e _ _ rfl) rfl (O68.cells 2 0 rfl rfl)) rfl rfl <| zAe (v := .agg #[.int .u64 5, .int .u64 0]) (fun ρ e => zBl (cells := #[.int .u64 5, .int .u64 0]) ar25 (e.parts rfl) rfl) rfl rfl ?_
 refine zAs (args := [.agg #[.int .i64 3, .slice R ((forestG fs3).length) c], .agg #[.int .u64 5, .int .u64 0]]) in_14 rfl rfl rfl ?_
 refine (evalb_ (W := w66) (zId (O68.row 3 rfl) (O68.ro 4 rfl) (O68.get 4 rfl).2.1) (by decide) (by decide) (m := 5) (by decide) (by have := forest_len; omega) eval5).mono ?_
 rintro _ w69 ⟨rfl, hb70⟩
 have O71 := O68.below hb70
 refine ⟨_, rfl, ?_⟩
 refine zAe (v := .bool true) (fun ρ e => zBa (e _ _ rfl) (e _ _ rfl)) rfl rfl <| wa rfl rfl rfl <| zAd <| zAb K46 <| zAz ?_
 refine zAy (v := .bool true) (fun T hT => res1 rfl T _ (hT 0 _ rfl)) ?_
 exact ⟨rfl, O71.old⟩

end Go.Proofs.YtliiclmhpphpmaaGreatDoor
