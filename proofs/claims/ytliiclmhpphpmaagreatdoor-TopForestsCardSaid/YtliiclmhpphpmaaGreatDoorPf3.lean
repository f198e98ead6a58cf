/-
  Lemmas and contracts, joined: Tpa Tf Tfo Tforest1 Tforest2 Tforest3 Key Fold0 Tb Tb2 Tb3.
-/
import Derived.Test.YtliiclmhpphpmaaGreatDoorPf2
import Derived.Test.YtliiclmhpphpmaaGreatDoorPf1
import Derived.Lib.ItoaNum
namespace Go.Proofs.YtliiclmhpphpmaaGreatDoor
open Go Go.RowKit
theorem ba_from (l : List UInt8) (k : Nat) : (⟨l.toArray⟩ : ByteArray).extract k (⟨l.toArray⟩ : ByteArray).size = ⟨(l.drop k).toArray⟩ := by
 apply ByteArray.ext
 apply Array.ext'
 have h1 : (⟨l.toArray⟩ : ByteArray).size = l.length := by show l.toArray.size = _; simp
 simp [h1]
 rw [List.take_of_length_le (by simp)]
theorem ba_to (l : List UInt8) (k : Nat) : (⟨l.toArray⟩ : ByteArray).extract 0 k = ⟨(l.take k).toArray⟩ := by
 apply ByteArray.ext
 apply Array.ext'
 simp
theorem ex_strFrom {ρ : Operand → Value} {d : Option Tmp} {x y : Operand} {t : TypeId} {pos : String} {aft : Array Edge} {gd : Option (Nat × Bool)} {w : World} {l : List UInt8} {k : Nat} (hx : ρ x = .string ⟨l.toArray⟩) (hy : ρ y = .int .i64 (k : Int)) (hk : k ≤ l.length) : (execOp ρ ⟨d, .slice 9 x (some y) none none, t, pos, aft, gd⟩).run Tryz.prog w = .ok (.value (.string ⟨(l.drop k).toArray⟩)) w := by
 have h1 : (⟨l.toArray⟩ : ByteArray).size = l.length := by show l.toArray.size = _; simp
 have h := run_slice_string_l (P := Tryz.prog) w 9 ⟨l.toArray⟩ Tryz.underlying9 .i64 (k : Int) (by omega) (by rw [h1]; omega)
 rw [Int.toNat_natCast, ba_from] at h
 simp [execOp, hx, hy, run_sliceAt_string _ _ _ _ _ _ Tryz.underlying9, h]
theorem ex_strTo {ρ : Operand → Value} {d : Option Tmp} {x y : Operand} {t : TypeId} {pos : String} {aft : Array Edge} {gd : Option (Nat × Bool)} {w : World} {l : List UInt8} {k : Nat} (hx : ρ x = .string ⟨l.toArray⟩) (hy : ρ y = .int .i64 (k : Int)) (hk : k ≤ l.length) : (execOp ρ ⟨d, .slice 9 x none (some y) none, t, pos, aft, gd⟩).run Tryz.prog w = .ok (.value (.string ⟨(l.take k).toArray⟩)) w := by
 have h1 : (⟨l.toArray⟩ : ByteArray).size = l.length := by show l.toArray.size = _; simp
 have h := run_slice_string_h (P := Tryz.prog) w 9 ⟨l.toArray⟩ Tryz.underlying9 .i64 (k : Int) (by omega) (by rw [h1]; omega)
 rw [Int.toNat_natCast, ba_to] at h
 simp [execOp, hx, hy, run_sliceAt_string _ _ _ _ _ _ Tryz.underlying9, h]
theorem ex_strneq {ρ : Operand → Value} {d : Option Tmp} {x y : Operand} {t T1 : TypeId} {pos : String} {aft : Array Edge} {gd : Option (Nat × Bool)} {w : World} {s : ByteArray} (hx : ρ x = .string s) (hy : ρ y = .string s) : (execOp ρ ⟨d, .binOp .neq 9 x y T1, t, pos, aft, gd⟩).run Tryz.prog w = .ok (.value (.bool false)) w := by
 simp [execOp, hx, hy, binOp, eqGuard, Op.stringOp]
theorem atoi_ {W : World} {d : UInt8} {v : Int} (hat : Lib.atoi [d] = some v) : Calls Tryz.prog 91 #[.string ⟨([d]).toArray⟩] W fun e w' => e = .returned (.tuple #[.int .i64 v, .nilIface]) ∧ Below W.heap.size W w' := by
 refine (Tryz.strconv_Atoi ⟨([d]).toArray⟩ v (by show (List.toArray _).size ≤ 18; rw [List.size_toArray]; simp) (by show Lib.atoi (List.toArray [d]).toList = _; exact hat) W).mono ?_
 rintro _ w' ⟨rfl, t, rfl⟩
 exact ⟨rfl, rfl, rfl, rfl, by rw [Lib.bytesWorld_size]; omega, fun j hj => Lib.bytesWorld_at_old W 5 t j hj⟩
section
variable {Z : Bool → Nat → Prop} {w0 W : World} {LL : List En} {rb n c : Nat} {R : Option Addr} {xs : List Value} {NV : Value} {x d : UInt8} {t : List UInt8} {ch v : Int}
theorem Own.rowblk {g T sz : Nat} (h : Own Z w0 W (.row (.slice (some ⟨g, 0, none⟩) n c) T sz n xs :: LL)) : ∃ cur, cur.toList.take (n * sz) = xs ∧ cur.size = c * sz ∧ n ≤ c ∧ c ≤ maxLen ∧ Own Z w0 W (.blk g T cur :: LL) := by
 have hr := h.row 0 rfl
 obtain ⟨hlen, hr⟩ := hr
 rcases hr with ⟨h1, _⟩ | ⟨g', cap, cur, h1, _, hg, h2, h3, h4, h5⟩
 ·cases h1
 ·injection h1 with h1 _ hcap
  injection h1 with h1
  injection h1 with h1
  subst h1 hcap
  exact ⟨cur, h5, h4, h2, h3, h.as (e' := .blk g T cur) hg (fun k hk => by show some g = some k; rw [show k = g from hk]) (fun _ => trivial)⟩
theorem zIx {w : World} {g cc : Nat} {cur : Array Value} (hb : Blk w g 60 (setN cur 0 [.int .i64 v, .int .i64 1, .int .i64 2, .bool false])) (hcu : cur.toList.take (3 * 4) = ((([] ++ [.int .i64 0, .int .i64 0, .int .i64 0, .bool false]) ++ [.int .i64 0, .int .i64 0, .int .i64 0, .bool false]) ++ [.int .i64 0, .int .i64 0, .int .i64 0, .bool true])) (hcs : cur.size = cc * 4) (hcl : 3 ≤ cc) (hcm : cc ≤ maxLen) :
  TreeD (fun k => k = g) w (VS0 g 3 cc) [⟨v, 1, 2, false⟩, ⟨0, 0, 0, false⟩, ⟨0, 0, 0, true⟩] := by
 have hat : ∀ j (u : Value), 4 ≤ j → (([] ++ [.int .i64 0, .int .i64 0, .int .i64 0, .bool false] ++ [.int .i64 0, .int .i64 0, .int .i64 0, .bool false] ++ [.int .i64 0, .int .i64 0, .int .i64 0, .bool true] : List Value))[j]? = some u → w.cell? ⟨g, j, none⟩ = some u := by
  intro j u h4 hu
  have hj : j < 12 := by have := (List.getElem?_eq_some_iff.1 hu).1; simpa using this
  rw [hb.cell j]
  rw [← hcu, List.getElem?_take_of_lt (by omega)] at hu
  simp only [setN]
  rw [Array.getElem?_setIfInBounds_ne (by omega), Array.getElem?_setIfInBounds_ne (by omega), Array.getElem?_setIfInBounds_ne (by omega), Array.getElem?_setIfInBounds_ne (by omega)]
  rw [← Array.getElem?_toList]; exact hu
 have hsz : 12 ≤ cur.size := by omega
 refine ⟨_, cc, rfl, hcl, hcm, fun _ => ⟨g, 0, rfl, rfl, fun i x hx => ?_⟩⟩
 rcases (show i = 0 ∨ i = 1 ∨ i = 2 by have := (List.getElem?_eq_some_iff.1 hx).1; simp at this; omega) with rfl | rfl | rfl
 ·simp at hx; subst hx
  refine ⟨?_, ?_, ?_, ?_⟩ <;> (rw [hb.cell]; simp [setN, Array.getElem?_setIfInBounds, show 0 < cur.size by omega, show 1 < cur.size by omega, show 2 < cur.size by omega, show 3 < cur.size by omega])
 ·simp at hx; subst hx
  exact ⟨hat 4 _ (by omega) rfl, hat 5 _ (by omega) rfl, hat 6 _ (by omega) rfl, hat 7 _ (by omega) rfl⟩
 ·simp at hx; subst hx
  exact ⟨hat 8 _ (by omega) rfl, hat 9 _ (by omega) rfl, hat 10 _ (by omega) rfl, hat 11 _ (by omega) rfl⟩
theorem zGg (O0 : Own Z w0 W [.blk rb 104 #[NV, .string (⟨(x :: t).toArray⟩)]]) (hx : (x.toNat : Int) = ch) : Calls Tryz.prog 72 #[.pointer (some ⟨rb, 0, none⟩), .int .u8 ch] W fun e w' => e = .returned (.bool true) ∧ Own Z w0 w' [.blk rb 104 #[NV, .string (⟨(t).toArray⟩)]] := by
 refine zAu (args := [VP rb, .int .u8 ch]) Tryz.func72 rfl rfl (by simp) ?_
 refine zAc fun _ K1 => zAa <| wa rfl rfl rfl <| zAd <| zAb K1 <| zAc fun _ K2 => zAc fun _ K3 => zAa ?_
 refine wm rfl rfl rfl <| wn rfl rfl rfl <| wf (q := 1) zCl rfl rfl rfl rfl <| wd ty9 rfl (O0.cell 0 1 rfl rfl) rfl rfl <| zAe (v := .int .i64 (((x :: t).length : Nat) : Int)) (fun ρ e => zBx (n := (x :: t).length) (e _ _ rfl) (by show (List.toArray _).size = _; rw [List.size_toArray])) rfl rfl <| wc rfl rfl (eql0 (by simp <;> omega)) rfl rfl <| wm rfl rfl rfl <| wm rfl rfl rfl ?_
 refine wn rfl rfl rfl <| wf (q := 1) zCl rfl rfl rfl rfl <| wd ty9 rfl (O0.cell 0 1 rfl rfl) rfl rfl <| zAe (v := .int .u8 ((x).toNat : Int)) (fun ρ e => zDx (i := 0) (c := x) (e _ _ rfl) (e _ _ rfl) (by first | rfl | simp)) rfl rfl <| wm rfl rfl rfl <| wc rfl rfl (neq0 (by omega)) rfl rfl <| zAe (v := .bool false) (fun ρ e => zA2 (e _ _ rfl) (e _ _ rfl)) rfl rfl <| zAd ?_
 refine zAb K3 <| zAf rfl <| zAj <| zAb K2 <| zAc fun _ K4 => zAa <| wm rfl rfl rfl <| wm rfl rfl rfl ?_
 refine wn rfl rfl rfl <| wf (q := 1) zCl rfl rfl rfl rfl <| wd ty9 rfl (O0.cell 0 1 rfl rfl) rfl rfl <| zAe (v := .string (⟨(t).toArray⟩)) (fun ρ e => ex_strFrom (l := x :: t) (k := 1) (e _ _ rfl) (e _ _ rfl) (by simp)) rfl rfl <| wn rfl rfl rfl <| wf (q := 1) zCl rfl rfl rfl rfl ?_
 obtain ⟨w5, r6, O7, hs8⟩ := zAp (o := 1) (n := 1) O0 ty9 (.string (⟨(t).toArray⟩)) _ (cs' := #[NV, .string (⟨(t).toArray⟩)]) rfl rfl rfl (Nat.le_of_ble_eq_true rfl) rfl
 refine zAv (fun ρ e => r6 ρ _ _ _ _ _ _ (e _ _ rfl) (e _ _ rfl)) rfl <| nx K4 fun _ K9 => wa rfl rfl rfl <| zAd <| zAb K9 <| zAz ?_
 refine zAy (v := .bool true) (fun T hT => res1 rfl T _ (hT 4 _ rfl)) ?_
 exact ⟨rfl, O7⟩
theorem eat_no (O0 : Own Z w0 W [.blk rb 104 #[NV, .string (⟨(x :: t).toArray⟩)]]) (hx : (x.toNat : Int) ≠ ch) : Calls Tryz.prog 72 #[.pointer (some ⟨rb, 0, none⟩), .int .u8 ch] W fun e w' => e = .returned (.bool false) ∧ Own Z w0 w' [.blk rb 104 #[NV, .string (⟨(x :: t).toArray⟩)]] := by
 refine zAu (args := [VP rb, .int .u8 ch]) Tryz.func72 rfl rfl (by simp) ?_
 refine zAc fun _ K1 => zAa <| wa rfl rfl rfl <| zAd <| zAb K1 <| zAc fun _ K2 => zAc fun _ K3 => zAa ?_
 refine wm rfl rfl rfl <| wn rfl rfl rfl <| wf (q := 1) zCl rfl rfl rfl rfl <| wd ty9 rfl (O0.cell 0 1 rfl rfl) rfl rfl <| zAe (v := .int .i64 (((x :: t).length : Nat) : Int)) (fun ρ e => zBx (n := (x :: t).length) (e _ _ rfl) (by show (List.toArray _).size = _; rw [List.size_toArray])) rfl rfl <| wc rfl rfl (eql0 (by simp <;> omega)) rfl rfl <| wm rfl rfl rfl <| wm rfl rfl rfl ?_
 refine wn rfl rfl rfl <| wf (q := 1) zCl rfl rfl rfl rfl <| wd ty9 rfl (O0.cell 0 1 rfl rfl) rfl rfl <| zAe (v := .int .u8 ((x).toNat : Int)) (fun ρ e => zDx (i := 0) (c := x) (e _ _ rfl) (e _ _ rfl) (by first | rfl | simp)) rfl rfl <| wm rfl rfl rfl <| wc rfl rfl (neq1 (by omega)) rfl rfl <| zAe (v := .bool true) (fun ρ e => zA2 (e _ _ rfl) (e _ _ rfl)) rfl rfl <| zAd ?_
 refine zAb K3 <| zAl rfl <| zAc fun _ K4 => zAa <| wa rfl rfl rfl <| zAd <| zAb K4 <| zAz ?_
 refine zAg (by intro h; cases h) ?_
 refine zAy (v := .bool false) (fun T hT => res1 rfl T _ (hT 4 _ rfl)) ?_
 exact ⟨rfl, O0⟩
theorem num1_ (O0 : Own Z w0 W [.blk rb 104 #[NV, .string (⟨(d :: 32 :: t).toArray⟩)]]) (hd0 : 48 ≤ (d.toNat : Int)) (hd1 : (d.toNat : Int) ≤ 57) (hat : Lib.atoi [d] = some v) : Calls Tryz.prog 73 #[.pointer (some ⟨rb, 0, none⟩)] W fun e w' => e = .returned (.tuple #[.int .i64 v, .bool true]) ∧ Own Z w0 w' [.blk rb 104 #[NV, .string (⟨(32 :: t).toArray⟩)]] := by
 refine zAu (args := [VP rb]) Tryz.func73 rfl rfl (by simp) ?_
 refine zAc fun _ K1 => zAa <| wa rfl rfl rfl <| wa rfl rfl rfl <| nx K1 fun _ K2 => wa rfl rfl rfl <| zAd <| zAb K2 ?_
 refine zAc fun _ K3 => zAh ?_
 refine zA8 (ι := Nat) (fun q => [(0, VP rb), (4, .int .i64 (q : Int))]) (fun q X => (q ≤ 1) ∧ Own Z w0 X [.blk rb 104 #[NV, .string (⟨(d :: 32 :: t).toArray⟩)]]) (fun q => 1 - q) 0 ⟨Nat.zero_le _, O0⟩ ⟨rfl, rfl, trivial⟩ (fun q w4 hJ F5 K6 => ?_)
 obtain ⟨i, rfl⟩ : ∃ x, x = q := ⟨_, rfl⟩
 obtain ⟨hi, O7⟩ := hJ
 try dsimp only at hi O7 ⊢
 by_cases h0 : i = 0
 ·subst h0
  refine zAc fun _ K8 => zAc fun _ K9 => zAa <| wm rfl rfl rfl <| wm rfl rfl rfl <| wn rfl rfl rfl <| wf (q := 1) zCl rfl rfl rfl rfl <| wd ty9 rfl (O7.cell 0 1 rfl rfl) rfl rfl ?_
  refine zAe (v := .int .i64 (((d :: 32 :: t).length : Nat) : Int)) (fun ρ e => zBx (n := (d :: 32 :: t).length) (e _ _ rfl) (by show (List.toArray _).size = _; rw [List.size_toArray])) rfl rfl <| wc rfl rfl (lss1 (by simp <;> omega)) rfl rfl <| wm rfl rfl rfl <| wm rfl rfl rfl <| wc rfl rfl (lss1 (by omega)) rfl rfl <| zAe (v := .bool true) (fun ρ e => zBa (e _ _ rfl) (e _ _ rfl)) rfl rfl <| wm rfl rfl rfl <| wm rfl rfl rfl ?_
  refine wn rfl rfl rfl <| wf (q := 1) zCl rfl rfl rfl rfl <| wd ty9 rfl (O7.cell 0 1 rfl rfl) rfl rfl <| wm rfl rfl rfl <| zAe (v := .int .u8 ((d).toNat : Int)) (fun ρ e => zDx (i := 0) (c := d) (e _ _ rfl) (e _ _ rfl) (by first | rfl | simp)) rfl rfl <| wc rfl rfl (geq1 (by omega)) rfl rfl <| zAe (v := .bool true) (fun ρ e => zBa (e _ _ rfl) (e _ _ rfl)) rfl rfl <| wm rfl rfl rfl ?_
  refine wm rfl rfl rfl <| wn rfl rfl rfl <| wf (q := 1) zCl rfl rfl rfl rfl <| wd ty9 rfl (O7.cell 0 1 rfl rfl) rfl rfl <| wm rfl rfl rfl <| zAe (v := .int .u8 ((d).toNat : Int)) (fun ρ e => zDx (i := 0) (c := d) (e _ _ rfl) (e _ _ rfl) (by first | rfl | simp)) rfl rfl <| wc rfl rfl (leq1 (by omega)) rfl rfl <| zAe (v := .bool true) (fun ρ e => zBa (e _ _ rfl) (e _ _ rfl)) rfl rfl ?_
  refine zAd <| zAb K9 <| zAl rfl <| zAj <| zAb K8 <| zAh <| zAa <| wm rfl rfl rfl ?_
  refine zAe (v := .int .i64 1) (fun ρ e => zAi (k := .i64) (u := 0) (v := 1) (e _ _ rfl) (e _ _ rfl) (congrArg some (zAo (by omega) (by omega)))) rfl rfl <| wa rfl rfl rfl <| zAd <| zAn ?_
  refine zAt K6 1 (by show 1 - 1 < 1 - 0; omega) ⟨(by show 1 ≤ 1; omega), O7⟩ ⟨rfl, rfl, trivial⟩
 ·obtain rfl : i = 1 := by omega
  refine zAc fun _ K10 => zAc fun _ K11 => zAa <| wm rfl rfl rfl <| wm rfl rfl rfl <| wn rfl rfl rfl <| wf (q := 1) zCl rfl rfl rfl rfl <| wd ty9 rfl (O7.cell 0 1 rfl rfl) rfl rfl ?_
  refine zAe (v := .int .i64 (((d :: 32 :: t).length : Nat) : Int)) (fun ρ e => zBx (n := (d :: 32 :: t).length) (e _ _ rfl) (by show (List.toArray _).size = _; rw [List.size_toArray])) rfl rfl <| wc rfl rfl (lss1 (by simp <;> omega)) rfl rfl <| wm rfl rfl rfl <| wm rfl rfl rfl <| wc rfl rfl (lss1 (by omega)) rfl rfl <| zAe (v := .bool true) (fun ρ e => zBa (e _ _ rfl) (e _ _ rfl)) rfl rfl <| wm rfl rfl rfl <| wm rfl rfl rfl ?_
  refine wn rfl rfl rfl <| wf (q := 1) zCl rfl rfl rfl rfl <| wd ty9 rfl (O7.cell 0 1 rfl rfl) rfl rfl <| wm rfl rfl rfl <| zAe (v := .int .u8 (((32 : UInt8)).toNat : Int)) (fun ρ e => zDx (i := 1) (c := (32 : UInt8)) (e _ _ rfl) (e _ _ rfl) (by first | rfl | simp)) rfl rfl <| wc rfl rfl (geq0 (by decide)) rfl rfl <| zAe (v := .bool false) (fun ρ e => zBa (e _ _ rfl) (e _ _ rfl)) rfl rfl <| wm rfl rfl rfl ?_
  refine zAq rfl rfl <| zAq rfl rfl <| zAq rfl rfl <| zAq rfl rfl <| zAq rfl rfl <| zAq rfl rfl <| zAq rfl rfl <| zAe (v := .bool false) (fun ρ e => zA2 (e _ _ rfl) (e _ _ rfl)) rfl rfl ?_
  refine zAd <| zAb K11 <| zAf rfl <| zA6 ?_
  refine zAg (by intro h; cases h) ?_
  refine zAg (by intro h; cases h) ?_
  refine zA4 <| zAb K3 <| zAc fun _ K12 => zAc fun _ K13 => zAa <| wm rfl rfl rfl <| wc rfl rfl (eql0 (by omega)) rfl rfl <| wm rfl rfl rfl ?_
  refine wm rfl rfl rfl <| wc rfl rfl (gtr0 (by omega)) rfl rfl <| zAe (v := .bool false) (fun ρ e => zA2 (e _ _ rfl) (e _ _ rfl)) rfl rfl <| wm rfl rfl rfl <| wm rfl rfl rfl <| wc rfl rfl (gtr0 (by omega)) rfl rfl <| wm rfl rfl rfl <| zAq rfl rfl ?_
  refine zAq rfl rfl <| zAq rfl rfl <| zAq rfl rfl <| zAq rfl rfl <| zAq rfl rfl <| zAe (v := .bool false) (fun ρ e => zA2 (e _ _ rfl) (e _ _ rfl)) rfl rfl <| zAe (v := .bool false) (fun ρ e => zA2 (e _ _ rfl) (e _ _ rfl)) rfl rfl <| zAd ?_
  refine zAb K13 <| zAf rfl <| zAj <| zAb K12 <| zAc fun _ K14 => zAa <| wm rfl rfl rfl <| wn rfl rfl rfl ?_
  refine wf (q := 1) zCl rfl rfl rfl rfl <| wd ty9 rfl (O7.cell 0 1 rfl rfl) rfl rfl <| wm rfl rfl rfl <| zAe (v := .string (⟨([d]).toArray⟩)) (fun ρ e => ex_strTo (l := d :: 32 :: t) (k := 1) (e _ _ rfl) (e _ _ rfl) (by simp)) rfl rfl ?_
  refine zAs (args := [.string (⟨([d]).toArray⟩)]) in_91 rfl rfl rfl ?_
  refine (atoi_ (W := w4) hat).mono ?_
  rintro _ w15 ⟨rfl, hb16⟩
  have O17 := O7.below hb16
  refine ⟨_, rfl, ?_⟩
  refine wm rfl rfl rfl <| we rfl rfl rfl rfl <| we rfl rfl rfl rfl <| wa rfl rfl rfl <| wa rfl rfl rfl <| nx K14 fun _ K18 => wm rfl rfl rfl <| wm rfl rfl rfl ?_
  refine wn rfl rfl rfl <| wf (q := 1) zCl rfl rfl rfl rfl <| wd ty9 rfl (O17.cell 0 1 rfl rfl) rfl rfl <| wm rfl rfl rfl <| zAe (v := .string (⟨(32 :: t).toArray⟩)) (fun ρ e => ex_strFrom (l := d :: 32 :: t) (k := 1) (e _ _ rfl) (e _ _ rfl) (by simp)) rfl rfl <| wn rfl rfl rfl <| wf (q := 1) zCl rfl rfl rfl rfl ?_
  obtain ⟨w19, r20, O21, hs22⟩ := zAp (o := 1) (n := 1) O17 ty9 (.string (⟨(32 :: t).toArray⟩)) _ (cs' := #[NV, .string (⟨(32 :: t).toArray⟩)]) rfl rfl rfl (Nat.le_of_ble_eq_true rfl) rfl
  refine zAv (fun ρ e => r20 ρ _ _ _ _ _ _ (e _ _ rfl) (e _ _ rfl)) rfl <| nx K18 fun _ K23 => wm rfl rfl rfl <| wa rfl rfl rfl <| wa rfl rfl rfl <| zAd <| zAb K23 <| zAz ?_
  refine zAy (v := .tuple #[.int .i64 v, .bool true]) (fun T hT => res2 rfl T _ (hT 2 _ rfl) (hT 3 _ rfl)) ?_
  exact ⟨rfl, O21⟩
theorem node_plus (O0 : Own Z w0 W [.blk rb 104 #[.slice R n c, .string (⟨(43 :: t).toArray⟩)], .row (.slice R n c) 60 4 n xs]) (hn : n ≤ 1000) : Calls Tryz.prog 48 #[.pointer (some ⟨rb, 0, none⟩)] W fun e w' => ∃ R' c', e = .returned (.bool true) ∧ Own Z w0 w' [.blk rb 104 #[.slice R' (n + 1) c', .string (⟨(t).toArray⟩)], .row (.slice R' (n + 1) c') 60 4 (n + 1) (xs ++ [.int .i64 0, .int .i64 0, .int .i64 0, .bool true])] := by
 refine zAu (args := [VP rb]) Tryz.func48 rfl rfl (by simp) ?_
 refine zAc fun _ K1 => zAa <| wa rfl rfl rfl <| nx K1 fun _ K2 => wm rfl rfl rfl <| wn rfl rfl rfl <| wf (q := 0) zCp rfl rfl rfl rfl <| wd ty28 rfl (O0.cell 0 0 rfl rfl) rfl rfl ?_
 refine wz el28 rfl rfl rfl <| wa rfl rfl rfl <| zAd <| zAb K2 <| zAc fun _ K3 => zAc fun _ K4 => zAa <| wm rfl rfl rfl ?_
 refine zAs (args := [VP rb, .int .u8 43]) zIc rfl rfl rfl ?_
 obtain ⟨O7h, O7f⟩ := Own.split (A := [.blk rb 104 #[.slice R n c, .string (⟨(43 :: t).toArray⟩)]]) (R := [.row (.slice R n c) 60 4 n xs]) O0
 refine (zGg (x := 43) (t := t) O7h (by decide)).mono ?_
 rintro _ w5 ⟨rfl, h6⟩
 have O7 := O7f h6
 refine ⟨_, rfl, ?_⟩
 refine zAd <| zAb K4 <| zAl rfl <| zAc fun _ K8 => zAa <| wm rfl rfl rfl <| wm rfl rfl rfl <| wn rfl rfl rfl ?_
 refine wf (q := 0) zCp rfl rfl rfl rfl <| wd ty28 rfl (O7.cell 0 0 rfl rfl) rfl rfl <| zAe (v := .agg #[.int .i64 0, .int .i64 0, .int .i64 0, .bool true]) (fun ρ e => zBe (cells := #[.int .i64 0, .int .i64 0, .int .i64 0, .bool true]) st60 (e.parts rfl) rfl) rfl rfl ?_
 obtain ⟨g9, w10, r11, O12, hg13, hs14⟩ := zBg O7 el28 ze60 1 [(0, .agg #[.int .i64 0, .int .i64 0, .int .i64 0, .bool true])] (cs := #[.int .i64 0, .int .i64 0, .int .i64 0, .bool true]) (by decide) (by kernel_rfl)
 refine zAe (v := VS0 g9 1 1) (fun ρ e => r11 ρ _ _ _ _ _ _ (e.parts rfl)) rfl rfl ?_
 obtain ⟨A15, c16, w17, r18, O19, hz20, hc21⟩ := zC5 (O12.re [2, 0, 1] rfl) ap28 ((O12.re [2, 0, 1] rfl).blk 1 rfl) (cells := [.int .i64 0, .int .i64 0, .int .i64 0, .bool true]) rfl rfl (by omega) (by omega) (ys := xs ++ [.int .i64 0, .int .i64 0, .int .i64 0, .bool true]) rfl
 refine zAe (v := .slice A15 (n + 1) c16) (fun ρ e => r18 ρ _ _ _ _ _ _ _ (e _ _ rfl) (e _ _ rfl)) rfl rfl <| wn rfl rfl rfl <| wf (q := 0) zCp rfl rfl rfl rfl ?_
 obtain ⟨w22, r23, O24, hs25⟩ := zAp (o := 0) (n := 1) (O19.re [2, 0, 1] rfl) ty28 (.slice A15 (n + 1) c16) _ (cs' := #[.slice A15 (n + 1) c16, .string (⟨(t).toArray⟩)]) rfl rfl rfl (Nat.le_of_ble_eq_true rfl) rfl
 refine zAv (fun ρ e => r23 ρ _ _ _ _ _ _ (e _ _ rfl) (e _ _ rfl)) rfl <| nx K8 fun _ K26 => wa rfl rfl rfl <| zAd <| zAb K26 <| zAz ?_
 refine zAg (by intro h; cases h) ?_
 refine zAy (v := .bool true) (fun T hT => res1 rfl T _ (hT 2 _ rfl)) ?_
 exact ⟨A15, c16, rfl, (O24.re [0, 1] rfl)⟩
theorem node_minus (O0 : Own Z w0 W [.blk rb 104 #[.slice R n c, .string (⟨(45 :: t).toArray⟩)], .row (.slice R n c) 60 4 n xs]) (hn : n ≤ 1000) : Calls Tryz.prog 48 #[.pointer (some ⟨rb, 0, none⟩)] W fun e w' => ∃ R' c', e = .returned (.bool true) ∧ Own Z w0 w' [.blk rb 104 #[.slice R' (n + 1) c', .string (⟨(t).toArray⟩)], .row (.slice R' (n + 1) c') 60 4 (n + 1) (xs ++ [.int .i64 0, .int .i64 0, .int .i64 0, .bool false])] := by
 refine zAu (args := [VP rb]) Tryz.func48 rfl rfl (by simp) ?_
 refine zAc fun _ K1 => zAa <| wa rfl rfl rfl <| nx K1 fun _ K2 => wm rfl rfl rfl <| wn rfl rfl rfl <| wf (q := 0) zCp rfl rfl rfl rfl <| wd ty28 rfl (O0.cell 0 0 rfl rfl) rfl rfl ?_
 refine wz el28 rfl rfl rfl <| wa rfl rfl rfl <| zAd <| zAb K2 <| zAc fun _ K3 => zAc fun _ K4 => zAa <| wm rfl rfl rfl ?_
 refine zAs (args := [VP rb, .int .u8 43]) zIc rfl rfl rfl ?_
 obtain ⟨O7h, O7f⟩ := Own.split (A := [.blk rb 104 #[.slice R n c, .string (⟨(45 :: t).toArray⟩)]]) (R := [.row (.slice R n c) 60 4 n xs]) O0
 refine (eat_no (x := 45) (t := t) O7h (by decide)).mono ?_
 rintro _ w5 ⟨rfl, h6⟩
 have O7 := O7f h6
 refine ⟨_, rfl, ?_⟩
 refine zAd <| zAb K4 <| zAf rfl <| zAj <| zAb K3 <| zAc fun _ K8 => zAa <| wm rfl rfl rfl ?_
 refine wm rfl rfl rfl <| wn rfl rfl rfl <| wf (q := 0) zCp rfl rfl rfl rfl <| wd ty28 rfl (O7.cell 0 0 rfl rfl) rfl rfl <| zAe (v := .agg #[.int .i64 0, .int .i64 0, .int .i64 0, .bool false]) (fun ρ e => zBe (cells := #[.int .i64 0, .int .i64 0, .int .i64 0, .bool false]) st60 (e.parts rfl) rfl) rfl rfl ?_
 obtain ⟨g9, w10, r11, O12, hg13, hs14⟩ := zBg O7 el28 ze60 1 [(0, .agg #[.int .i64 0, .int .i64 0, .int .i64 0, .bool false])] (cs := #[.int .i64 0, .int .i64 0, .int .i64 0, .bool false]) (by decide) (by kernel_rfl)
 refine zAe (v := VS0 g9 1 1) (fun ρ e => r11 ρ _ _ _ _ _ _ (e.parts rfl)) rfl rfl ?_
 obtain ⟨A15, c16, w17, r18, O19, hz20, hc21⟩ := zC5 (O12.re [2, 0, 1] rfl) ap28 ((O12.re [2, 0, 1] rfl).blk 1 rfl) (cells := [.int .i64 0, .int .i64 0, .int .i64 0, .bool false]) rfl rfl (by omega) (by omega) (ys := xs ++ [.int .i64 0, .int .i64 0, .int .i64 0, .bool false]) rfl
 refine zAe (v := .slice A15 (n + 1) c16) (fun ρ e => r18 ρ _ _ _ _ _ _ _ (e _ _ rfl) (e _ _ rfl)) rfl rfl <| wn rfl rfl rfl <| wf (q := 0) zCp rfl rfl rfl rfl ?_
 obtain ⟨w22, r23, O24, hs25⟩ := zAp (o := 0) (n := 1) (O19.re [2, 0, 1] rfl) ty28 (.slice A15 (n + 1) c16) _ (cs' := #[.slice A15 (n + 1) c16, .string (⟨(45 :: t).toArray⟩)]) rfl rfl rfl (Nat.le_of_ble_eq_true rfl) rfl
 refine zAv (fun ρ e => r23 ρ _ _ _ _ _ _ (e _ _ rfl) (e _ _ rfl)) rfl <| zAd <| zAb K8 <| zAc fun _ K26 => zAc fun _ K27 => zAa <| wm rfl rfl rfl ?_
 refine zAs (args := [VP rb, .int .u8 45]) zIc rfl rfl rfl ?_
 obtain ⟨O30h, O30f⟩ := Own.split (A := [.blk rb 104 #[.slice A15 (n + 1) c16, .string (⟨(45 :: t).toArray⟩)]]) (R := [.row (.slice A15 (n + 1) c16) 60 4 (n + 1) (xs ++ [.int .i64 0, .int .i64 0, .int .i64 0, .bool false]), .blk g9 60 #[.int .i64 0, .int .i64 0, .int .i64 0, .bool false]]) O24
 refine (zGg (x := 45) (t := t) O30h (by decide)).mono ?_
 rintro _ w28 ⟨rfl, h29⟩
 have O30 := O30f h29
 refine ⟨_, rfl, ?_⟩
 refine zAd <| zAb K27 <| zAl rfl <| zAc fun _ K31 => zAa <| wa rfl rfl rfl <| zAd <| zAb K31 ?_
 refine zAz ?_
 refine zAg (by intro h; cases h) ?_
 refine zAy (v := .bool true) (fun T hT => res1 rfl T _ (hT 2 _ rfl)) ?_
 exact ⟨A15, c16, rfl, (O30.re [0, 1] rfl)⟩
theorem node_top (O0 : Own Z w0 W [.blk rb 104 #[.slice none 0 0, .string (⟨([40, d, 32, 45, 32, 43, 41]).toArray⟩)]]) (hd0 : 48 ≤ (d.toNat : Int)) (hd1 : (d.toNat : Int) ≤ 57) (hd2 : 0 ≤ v) (hat : Lib.atoi [d] = some v) : Calls Tryz.prog 48 #[.pointer (some ⟨rb, 0, none⟩)] W fun e w' => ∃ ng cc cur, e = .returned (.bool true) ∧ cur.toList.take (3 * 4) = ((([] ++ [.int .i64 0, .int .i64 0, .int .i64 0, .bool false]) ++ [.int .i64 0, .int .i64 0, .int .i64 0, .bool false]) ++ [.int .i64 0, .int .i64 0, .int .i64 0, .bool true]) ∧ cur.size = cc * 4 ∧ 3 ≤ cc ∧ cc ≤ maxLen ∧ Own Z w0 w' [.blk rb 104 #[.slice (some ⟨ng, 0, none⟩) 3 cc, .string (⟨([]).toArray⟩)], .blk ng 60 (setN cur 0 [.int .i64 v, .int .i64 1, .int .i64 2, .bool false])] := by
 have O1 := O0.nilrow 60 4
 refine zAu (args := [VP rb]) Tryz.func48 rfl rfl (by simp) ?_
 refine zAc fun _ K1 => zAa <| wa rfl rfl rfl <| nx K1 fun _ K2 => wm rfl rfl rfl <| wn rfl rfl rfl <| wf (q := 0) zCp rfl rfl rfl rfl <| wd ty28 rfl (O1.cell 1 0 rfl rfl) rfl rfl ?_
 refine wz el28 rfl rfl rfl <| wa rfl rfl rfl <| zAd <| zAb K2 <| zAc fun _ K3 => zAc fun _ K4 => zAa <| wm rfl rfl rfl ?_
 refine zAs (args := [VP rb, .int .u8 43]) zIc rfl rfl rfl ?_
 obtain ⟨O7h, O7f⟩ := Own.split (A := [.blk rb 104 #[.slice none 0 0, .string (⟨([40, d, 32, 45, 32, 43, 41]).toArray⟩)]]) (R := [.row (.slice none 0 0) 60 4 0 ([])]) (O1.re [1, 0] rfl)
 refine (eat_no (x := 40) (t := [d, 32, 45, 32, 43, 41]) O7h (by decide)).mono ?_
 rintro _ w5 ⟨rfl, h6⟩
 have O7 := O7f h6
 refine ⟨_, rfl, ?_⟩
 refine zAd <| zAb K4 <| zAf rfl <| zAj <| zAb K3 <| zAc fun _ K8 => zAa <| wm rfl rfl rfl ?_
 refine wm rfl rfl rfl <| wn rfl rfl rfl <| wf (q := 0) zCp rfl rfl rfl rfl <| wd ty28 rfl (O7.cell 0 0 rfl rfl) rfl rfl <| zAe (v := .agg #[.int .i64 0, .int .i64 0, .int .i64 0, .bool false]) (fun ρ e => zBe (cells := #[.int .i64 0, .int .i64 0, .int .i64 0, .bool false]) st60 (e.parts rfl) rfl) rfl rfl ?_
 obtain ⟨g9, w10, r11, O12, hg13, hs14⟩ := zBg O7 el28 ze60 1 [(0, .agg #[.int .i64 0, .int .i64 0, .int .i64 0, .bool false])] (cs := #[.int .i64 0, .int .i64 0, .int .i64 0, .bool false]) (by decide) (by kernel_rfl)
 refine zAe (v := VS0 g9 1 1) (fun ρ e => r11 ρ _ _ _ _ _ _ (e.parts rfl)) rfl rfl ?_
 obtain ⟨A15, c16, w17, r18, O19, hz20, hc21⟩ := zC5 (O12.re [2, 0, 1] rfl) ap28 ((O12.re [2, 0, 1] rfl).blk 1 rfl) (cells := [.int .i64 0, .int .i64 0, .int .i64 0, .bool false]) rfl rfl (by omega) (by omega) (ys := [.int .i64 0, .int .i64 0, .int .i64 0, .bool false]) rfl
 refine zAe (v := .slice A15 1 c16) (fun ρ e => r18 ρ _ _ _ _ _ _ _ (e _ _ rfl) (e _ _ rfl)) rfl rfl <| wn rfl rfl rfl <| wf (q := 0) zCp rfl rfl rfl rfl ?_
 obtain ⟨w22, r23, O24, hs25⟩ := zAp (o := 0) (n := 1) (O19.re [2, 0, 1] rfl) ty28 (.slice A15 1 c16) _ (cs' := #[.slice A15 1 c16, .string (⟨([40, d, 32, 45, 32, 43, 41]).toArray⟩)]) rfl rfl rfl (Nat.le_of_ble_eq_true rfl) rfl
 refine zAv (fun ρ e => r23 ρ _ _ _ _ _ _ (e _ _ rfl) (e _ _ rfl)) rfl <| zAd <| zAb K8 <| zAc fun _ K26 => zAc fun _ K27 => zAa <| wm rfl rfl rfl ?_
 refine zAs (args := [VP rb, .int .u8 45]) zIc rfl rfl rfl ?_
 obtain ⟨O30h, O30f⟩ := Own.split (A := [.blk rb 104 #[.slice A15 1 c16, .string (⟨([40, d, 32, 45, 32, 43, 41]).toArray⟩)]]) (R := [.row (.slice A15 1 c16) 60 4 1 ([.int .i64 0, .int .i64 0, .int .i64 0, .bool false]), .blk g9 60 #[.int .i64 0, .int .i64 0, .int .i64 0, .bool false]]) O24
 refine (eat_no (x := 40) (t := [d, 32, 45, 32, 43, 41]) O30h (by decide)).mono ?_
 rintro _ w28 ⟨rfl, h29⟩
 have O30 := O30f h29
 refine ⟨_, rfl, ?_⟩
 refine zAd <| zAb K27 <| zAf rfl <| zAj <| zAb K26 <| zAc fun _ K31 => zAc fun _ K32 => zAa ?_
 refine wm rfl rfl rfl ?_
 refine zAs (args := [VP rb, .int .u8 40]) zIc rfl rfl rfl ?_
 obtain ⟨O35h, O35f⟩ := Own.split (A := [.blk rb 104 #[.slice A15 1 c16, .string (⟨([40, d, 32, 45, 32, 43, 41]).toArray⟩)]]) (R := [.row (.slice A15 1 c16) 60 4 1 ([.int .i64 0, .int .i64 0, .int .i64 0, .bool false]), .blk g9 60 #[.int .i64 0, .int .i64 0, .int .i64 0, .bool false]]) O30
 refine (zGg (x := 40) (t := [d, 32, 45, 32, 43, 41]) O35h (by decide)).mono ?_
 rintro _ w33 ⟨rfl, h34⟩
 have O35 := O35f h34
 refine ⟨_, rfl, ?_⟩
 refine zAe (v := .bool false) (fun ρ e => zBw (b := true) (e _ _ rfl)) rfl rfl <| zAd <| zAb K32 <| zAf rfl <| zAj <| zAb K31 <| zAc fun _ K36 => zAa ?_
 refine wm rfl rfl rfl ?_
 refine zAs (args := [VP rb]) in_73 rfl rfl rfl ?_
 obtain ⟨O39h, O39f⟩ := Own.split (A := [.blk rb 104 #[.slice A15 1 c16, .string (⟨([d, 32, 45, 32, 43, 41]).toArray⟩)]]) (R := [.row (.slice A15 1 c16) 60 4 1 ([.int .i64 0, .int .i64 0, .int .i64 0, .bool false]), .blk g9 60 #[.int .i64 0, .int .i64 0, .int .i64 0, .bool false]]) O35
 refine (num1_ (d := d) (t := [45, 32, 43, 41]) (v := v) O39h hd0 hd1 hat).mono ?_
 rintro _ w37 ⟨rfl, h38⟩
 have O39 := O39f h38
 refine ⟨_, rfl, ?_⟩
 refine wm rfl rfl rfl <| we rfl rfl rfl rfl <| we rfl rfl rfl rfl <| wa rfl rfl rfl <| wa rfl rfl rfl <| zAd <| zAb K36 <| zAc fun _ K40 => ?_
 refine zAc fun _ K41 => zAa <| wm rfl rfl rfl <| zAe (v := .bool false) (fun ρ e => zBw (b := true) (e _ _ rfl)) rfl rfl <| wm rfl rfl rfl <| wm rfl rfl rfl ?_
 refine zAs (args := [VP rb, .int .u8 32]) zIc rfl rfl rfl ?_
 obtain ⟨O44h, O44f⟩ := Own.split (A := [.blk rb 104 #[.slice A15 1 c16, .string (⟨(32 :: [45, 32, 43, 41]).toArray⟩)]]) (R := [.row (.slice A15 1 c16) 60 4 1 ([.int .i64 0, .int .i64 0, .int .i64 0, .bool false]), .blk g9 60 #[.int .i64 0, .int .i64 0, .int .i64 0, .bool false]]) O39
 refine (zGg (x := 32) (t := [45, 32, 43, 41]) O44h (by decide)).mono ?_
 rintro _ w42 ⟨rfl, h43⟩
 have O44 := O44f h43
 refine ⟨_, rfl, ?_⟩
 refine zAe (v := .bool false) (fun ρ e => zBw (b := true) (e _ _ rfl)) rfl rfl <| zAe (v := .bool false) (fun ρ e => zA2 (e _ _ rfl) (e _ _ rfl)) rfl rfl <| zAd <| zAb K41 <| zAf rfl <| zAj <| zAb K40 <| zAc fun _ K45 => ?_
 refine zAa <| wm rfl rfl rfl <| wn rfl rfl rfl <| wf (q := 0) zCp rfl rfl rfl rfl <| wd ty28 rfl (O44.cell 0 0 rfl rfl) rfl rfl <| wz el28 rfl rfl rfl <| wa rfl rfl rfl <| zAd ?_
 refine zAb K45 <| zAc fun _ K46 => zAc fun _ K47 => zAa <| wm rfl rfl rfl ?_
 refine zAs (args := [VP rb]) in_48 rfl rfl rfl ?_
 obtain ⟨O50h, O50f⟩ := Own.split (A := [.blk rb 104 #[.slice A15 1 c16, .string (⟨([45, 32, 43, 41]).toArray⟩)], .row (.slice A15 1 c16) 60 4 1 ([.int .i64 0, .int .i64 0, .int .i64 0, .bool false])]) (R := [.blk g9 60 #[.int .i64 0, .int .i64 0, .int .i64 0, .bool false]]) O44
 refine (node_minus (t := [32, 43, 41]) O50h (by omega)).mono ?_
 rintro _ w48 ⟨R51, c52, rfl, h49⟩
 have O50 := O50f h49
 refine ⟨_, rfl, ?_⟩
 refine zAe (v := .bool false) (fun ρ e => zBw (b := true) (e _ _ rfl)) rfl rfl <| wm rfl rfl rfl <| wm rfl rfl rfl ?_
 refine zAs (args := [VP rb, .int .u8 32]) zIc rfl rfl rfl ?_
 obtain ⟨O55h, O55f⟩ := Own.split (A := [.blk rb 104 #[.slice R51 2 c52, .string (⟨([32, 43, 41]).toArray⟩)]]) (R := [.row (.slice R51 2 c52) 60 4 2 ([.int .i64 0, .int .i64 0, .int .i64 0, .bool false] ++ [.int .i64 0, .int .i64 0, .int .i64 0, .bool false]), .blk g9 60 #[.int .i64 0, .int .i64 0, .int .i64 0, .bool false]]) O50
 refine (zGg (x := 32) (t := [43, 41]) O55h (by decide)).mono ?_
 rintro _ w53 ⟨rfl, h54⟩
 have O55 := O55f h54
 refine ⟨_, rfl, ?_⟩
 refine zAe (v := .bool false) (fun ρ e => zBw (b := true) (e _ _ rfl)) rfl rfl <| zAe (v := .bool false) (fun ρ e => zA2 (e _ _ rfl) (e _ _ rfl)) rfl rfl <| zAd <| zAb K47 <| zAf rfl <| zAj <| zAb K46 <| zAc fun _ K56 => ?_
 refine zAa <| wm rfl rfl rfl <| wn rfl rfl rfl <| wf (q := 0) zCp rfl rfl rfl rfl <| wd ty28 rfl (O55.cell 0 0 rfl rfl) rfl rfl <| wz el28 rfl rfl rfl <| wa rfl rfl rfl <| zAd ?_
 refine zAb K56 <| zAc fun _ K57 => zAc fun _ K58 => zAa <| wm rfl rfl rfl ?_
 refine zAs (args := [VP rb]) in_48 rfl rfl rfl ?_
 obtain ⟨O61h, O61f⟩ := Own.split (A := [.blk rb 104 #[.slice R51 2 c52, .string (⟨([43, 41]).toArray⟩)], .row (.slice R51 2 c52) 60 4 2 ([.int .i64 0, .int .i64 0, .int .i64 0, .bool false] ++ [.int .i64 0, .int .i64 0, .int .i64 0, .bool false])]) (R := [.blk g9 60 #[.int .i64 0, .int .i64 0, .int .i64 0, .bool false]]) O55
 refine (node_plus (t := [41]) O61h (by omega)).mono ?_
 rintro _ w59 ⟨R62, c63, rfl, h60⟩
 have O61 := O61f h60
 refine ⟨_, rfl, ?_⟩
 refine zAe (v := .bool false) (fun ρ e => zBw (b := true) (e _ _ rfl)) rfl rfl <| wm rfl rfl rfl <| wm rfl rfl rfl ?_
 refine zAs (args := [VP rb, .int .u8 41]) zIc rfl rfl rfl ?_
 obtain ⟨O66h, O66f⟩ := Own.split (A := [.blk rb 104 #[.slice R62 3 c63, .string (⟨([41]).toArray⟩)]]) (R := [.row (.slice R62 3 c63) 60 4 3 (([.int .i64 0, .int .i64 0, .int .i64 0, .bool false] ++ [.int .i64 0, .int .i64 0, .int .i64 0, .bool false]) ++ [.int .i64 0, .int .i64 0, .int .i64 0, .bool true]), .blk g9 60 #[.int .i64 0, .int .i64 0, .int .i64 0, .bool false]]) O61
 refine (zGg (x := 41) (t := []) O66h (by decide)).mono ?_
 rintro _ w64 ⟨rfl, h65⟩
 have O66 := O66f h65
 refine ⟨_, rfl, ?_⟩
 refine zAe (v := .bool false) (fun ρ e => zBw (b := true) (e _ _ rfl)) rfl rfl <| zAe (v := .bool false) (fun ρ e => zA2 (e _ _ rfl) (e _ _ rfl)) rfl rfl <| zAd <| zAb K58 <| zAf rfl <| zAj <| zAb K57 <| zAc fun _ K67 => ?_
 obtain ⟨ng, hng⟩ := rowaddr (O66.row 1 rfl) (by decide)
 subst hng
 obtain ⟨cur, hcu, hcs, hcl, hcm, O68⟩ := Own.rowblk (O66.re [1, 0, 2] rfl)
 refine zAa <| wm rfl rfl rfl <| wn rfl rfl rfl <| wf (q := 0) zCp rfl rfl rfl rfl <| wd ty28 rfl (O68.cell 1 0 rfl rfl) rfl rfl <| wm rfl rfl rfl <| wm rfl rfl rfl <| wm rfl rfl rfl ?_
 refine wm rfl rfl rfl <| zAe (v := .agg #[.int .i64 v, .int .i64 (1 : Int), .int .i64 (2 : Int), .bool false]) (fun ρ e => zBe (cells := #[.int .i64 v, .int .i64 (1 : Int), .int .i64 (2 : Int), .bool false]) st60 (e.parts rfl) rfl) rfl rfl <| wi (q := 0) (i := 0) el28 rfl rfl (by omega) (by omega) rfl rfl ?_
 obtain ⟨w69, r70, O71, hs72⟩ := zAp (o := 0) (n := 4) O68 ty60 (.agg #[.int .i64 v, .int .i64 (1 : Int), .int .i64 (2 : Int), .bool false]) _ (cs' := (setN cur 0 [.int .i64 v, .int .i64 1, .int .i64 2, .bool false])) rfl rfl rfl (by omega) rfl
 refine zAv (fun ρ e => r70 ρ _ _ _ _ _ _ (e _ _ rfl) (e _ _ rfl)) rfl <| nx K67 fun _ K73 => wa rfl rfl rfl <| zAd <| zAb K73 <| zAz ?_
 refine zAy (v := .bool true) (fun T hT => res1 rfl T _ (hT 2 _ rfl)) ?_
 exact ⟨ng, c63, cur, rfl, hcu, hcs, hcl, hcm, (O71.re [1, 0] rfl)⟩
theorem parse_ (hd0 : 48 ≤ (d.toNat : Int)) (hd1 : (d.toNat : Int) ≤ 57) (hd2 : 0 ≤ v) (hat : Lib.atoi [d] = some v) (hck : chkT [⟨v, 1, 2, false⟩, ⟨0, 0, 0, false⟩, ⟨0, 0, 0, true⟩] 128 = 0) : Calls Tryz.prog 16 #[.string (⟨([40, d, 32, 45, 32, 43, 41]).toArray⟩)] W fun e w' => ∃ ng cc, e = .returned (.tuple #[.slice (some ⟨ng, 0, none⟩) 3 cc, .int .i64 0]) ∧ TreeD (fun k => k = ng) w' (.slice (some ⟨ng, 0, none⟩) 3 cc) [⟨v, 1, 2, false⟩, ⟨0, 0, 0, false⟩, ⟨0, 0, 0, true⟩] ∧ ng < w'.heap.size ∧ Below W.heap.size W w' ∧ W.heap.size ≤ ng := by
 have O0 : Own Z0 W W [] := Own.start W
 refine zAu (args := [.string (⟨([40, d, 32, 45, 32, 43, 41]).toArray⟩)]) Tryz.func16 rfl rfl (by simp) ?_
 refine zAc fun _ K1 => zAa <| wa rfl rfl rfl <| wa rfl rfl rfl <| zAd <| zAb K1 <| zAc fun _ K2 => zAc fun _ K3 => ?_
 refine zAa <| wm rfl rfl rfl <| zAe (v := .int .i64 ((([40, d, 32, 45, 32, 43, 41]).length : Nat) : Int)) (fun ρ e => zBx (n := ([40, d, 32, 45, 32, 43, 41]).length) (e _ _ rfl) (by show (List.toArray _).size = _; rw [List.size_toArray])) rfl rfl <| wc rfl rfl (gtr0 (by simp)) rfl rfl <| zAd <| zAb K3 <| zAf rfl <| zAj ?_
 refine zAb K2 <| zAc fun _ K4 => zAa <| wm rfl rfl rfl <| zAe (v := .agg #[.slice none 0 0, .string (⟨([40, d, 32, 45, 32, 43, 41]).toArray⟩)]) (fun ρ e => zBe (cells := #[.slice none 0 0, .string (⟨([40, d, 32, 45, 32, 43, 41]).toArray⟩)]) st104 (e.parts rfl) rfl) rfl rfl ?_
 obtain ⟨g5, w6, r7, O8, hg9, hs10⟩ := zA5 O0 104 (.agg #[.slice none 0 0, .string (⟨([40, d, 32, 45, 32, 43, 41]).toArray⟩)]) rfl
 refine zAe (v := VP g5) (fun ρ e => r7 ρ _ _ _ _ _ _ (e _ _ rfl)) rfl rfl <| wa rfl rfl rfl <| zAd <| zAb K4 <| zAc fun _ K11 => zAc fun _ K12 => zAa <| wm rfl rfl rfl ?_
 refine zAs (args := [VP g5]) in_48 rfl rfl rfl ?_
 obtain ⟨O15h, O15f⟩ := Own.split (A := [.blk g5 104 #[.slice none 0 0, .string (⟨([40, d, 32, 45, 32, 43, 41]).toArray⟩)]]) (R := []) O8
 refine (node_top (d := d) (v := v) O15h hd0 hd1 hd2 hat).mono ?_
 rintro _ w13 ⟨ng, cc, cur, rfl, hcu, hcs, hcl, hcm, h14⟩
 have O15 := O15f h14
 have hTr := zIx (O15.blk 1 rfl) hcu hcs hcl hcm
 refine ⟨_, rfl, ?_⟩
 refine zAe (v := .bool false) (fun ρ e => zBw (b := true) (e _ _ rfl)) rfl rfl <| wm rfl rfl rfl <| wm rfl rfl rfl <| wn rfl rfl rfl <| wf (q := 1) zCl rfl rfl rfl rfl <| wd ty9 rfl (O15.cell 0 1 rfl rfl) rfl rfl <| zAe (v := .bool false) (fun ρ e => ex_strneq (e _ _ rfl) (e _ _ rfl)) rfl rfl <| zAe (v := .bool false) (fun ρ e => zA2 (e _ _ rfl) (e _ _ rfl)) rfl rfl ?_
 refine zAd <| zAb K12 <| zAf rfl <| zAj <| zAb K11 <| zAc fun _ K16 => zAc fun _ K17 => zAa ?_
 refine wm rfl rfl rfl <| wn rfl rfl rfl <| wf (q := 0) zCp rfl rfl rfl rfl <| wd ty28 rfl (O15.cell 0 0 rfl rfl) rfl rfl ?_
 refine zAs (args := [VS0 ng 3 cc, .int .i64 128]) in_5 rfl rfl rfl ?_
 refine (zFf (zIx (O15.blk 1 rfl) hcu hcs hcl hcm) (fun k hk => by subst hk; exact (O15.blk 1 rfl).lt) 128 hck).mono ?_
 rintro _ w18 ⟨rfl, hb19⟩
 have O20 := O15.below hb19
 refine ⟨_, rfl, ?_⟩
 refine wa rfl rfl rfl <| nx K17 fun _ K21 => wm rfl rfl rfl <| wc rfl rfl (neq0 (by omega)) rfl rfl <| zAd <| zAb K21 <| zAf rfl <| zAj ?_
 refine zAb K16 <| zAc fun _ K22 => zAa <| wm rfl rfl rfl <| wn rfl rfl rfl <| wf (q := 0) zCp rfl rfl rfl rfl <| wd ty28 rfl (O20.cell 0 0 rfl rfl) rfl rfl <| wa rfl rfl rfl ?_
 refine wa rfl rfl rfl <| zAd <| zAb K22 <| zAz ?_
 refine zAy (v := .tuple #[VS0 ng 3 cc, .int .i64 0]) (fun T hT => res2 rfl T _ (hT 2 _ rfl) (hT 3 _ rfl)) ?_
 refine ⟨ng, cc, rfl, zIx (O20.blk 1 rfl) hcu hcs hcl hcm, (O20.blk 1 rfl).lt, O20.old, ?_⟩
 have := O20.free _ (List.mem_of_getElem? (i := 1) rfl) ng rfl
 rcases this with h9 | h9
 ·exact absurd (h9.2 trivial) (by simp [Z0])
 ·exact h9
end

end Go.Proofs.YtliiclmhpphpmaaGreatDoor
namespace Go.Proofs.YtliiclmhpphpmaaGreatDoor
open Go Go.RowKit
def gcell (g : Gate) (v : Value) : List Value := [.int .i64 g.kind, .int .i64 g.lit, v]
def gcells : List Gate → List Value → List Value
 | g :: L, v :: vs => gcell g v ++ gcells L vs
 | _, _ => []
theorem zBt : ∀ {L : List Gate} {vs : List Value} {i : Nat} {g : Gate} {v : Value}, L[i]? = some g → vs[i]? = some v →
  (gcells L vs)[i * 3]? = some (.int .i64 g.kind) ∧ (gcells L vs)[i * 3 + 1]? = some (.int .i64 g.lit) ∧ (gcells L vs)[i * 3 + 2]? = some v
 | [], _, _, _, _, h, _ => by simp at h
 | _ :: _, [], _, _, _, _, h => by simp at h
 | g' :: L, v' :: vs, 0, g, v, h, h' => by
  simp at h h'
  subst h h'
  exact ⟨rfl, rfl, rfl⟩
 | g' :: L, v' :: vs, i + 1, g, v, h, h' => by
  have := zBt (L := L) (vs := vs) (i := i) (g := g) (v := v) (by simpa using h) (by simpa using h')
  have e : ∀ k, (gcells (g' :: L) (v' :: vs))[(i + 1) * 3 + k]? = (gcells L vs)[i * 3 + k]? := fun k => by
   rw [show (i + 1) * 3 + k = (i * 3 + k) + 1 + 1 + 1 by omega]
   rfl
  have e0 := e 0
  simp only [Nat.add_zero] at e0
  rw [e0, e 1, e 2]
  exact this
theorem zD4 (g : Gate) (v : Value) : ∀ (L : List Gate) (vs : List Value), L.length = vs.length → gcells (L ++ [g]) (vs ++ [v]) = gcells L vs ++ gcell g v
 | [], [], _ => rfl
 | [], _ :: _, h => by cases h
 | _ :: _, [], h => by cases h
 | g' :: L, v' :: vs, h => by
  show gcell g' v' ++ gcells (L ++ [g]) (vs ++ [v]) = (gcell g' v' ++ gcells L vs) ++ gcell g v
  rw [zD4 g v L vs (by simpa using h), List.append_assoc]
def Ins (D : Nat → Prop) (L : List Gate) (vs : List Value) (w : World) : Prop := L.length = vs.length ∧ ∀ (i : Nat) (g : Gate) (v : Value), L[i]? = some g → vs[i]? = some v → IntsD D w v g.inp
theorem Ins.move {D : Nat → Prop} {L : List Gate} {vs : List Value} {w w' : World} (h : Ins D L vs w) (hk : ∀ k, D k → w'.heap[k]? = w.heap[k]?) : Ins D L vs w' := ⟨h.1, fun i g v h1 h2 => (h.2 i g v h1 h2).move hk⟩
theorem Ins.snoc {D D2 : Nat → Prop} {L : List Gate} {vs : List Value} {w : World} (h : Ins D L vs w) {g : Gate} {v : Value} (hg : IntsD D2 w v g.inp) : Ins (fun k => D k ∨ D2 k) (L ++ [g]) (vs ++ [v]) w := by
 refine ⟨by simp [h.1], fun i g' v' h1 h2 => ?_⟩
 by_cases hi : i < L.length
 ·rw [List.getElem?_append_left hi] at h1
  rw [List.getElem?_append_left (by rw [← h.1]; exact hi)] at h2
  exact (h.2 i g' v' h1 h2).mono (fun k q => .inl q)
 ·rw [List.getElem?_append_right (by omega)] at h1
  rw [List.getElem?_append_right (by rw [← h.1]; omega)] at h2
  have e1 : i - L.length = 0 := by
   rcases Nat.eq_zero_or_pos (i - L.length) with q | q
   ·exact q
   ·rw [List.getElem?_eq_none (by simp; omega)] at h1; cases h1
  rw [e1] at h1
  rw [← h.1, e1] at h2
  simp at h1 h2
  subst h1 h2
  exact hg.mono (fun k q => .inr q)
def insE (D : Nat → Prop) (L : List Gate) (vs : List Value) : En := .ro D (Ins D L vs)
theorem Ins.nil (D : Nat → Prop) (w : World) : Ins D [] [] w := ⟨rfl, fun i g v h => by simp at h⟩
theorem Ins.cons {D : Nat → Prop} {w : World} {g : Gate} {v : Value} {L : List Gate} {vs : List Value} (h : IntsD D w v g.inp) (hs : Ins D L vs w) : Ins D (g :: L) (v :: vs) w := by
 refine ⟨by simp [hs.1], fun i g' v' h1 h2 => ?_⟩
 cases i with
 | zero =>
  simp at h1 h2
  subst h1 h2
  exact h
 | succ i => exact hs.2 i g' v' (by simpa using h1) (by simpa using h2)
theorem ins_nil (w : World) : (insE (fun _ => False) [] []).holds w := ⟨⟨rfl, fun i g v h => by simp at h⟩, fun _ hk => hk.elim, fun _ _ _ _ _ => ⟨rfl, fun i g v h => by simp at h⟩⟩
section
variable {Z : Bool → Nat → Prop} {w0 W w' : World} {LL rest : List En} {m c k : Nat} {R : Option Addr} {D D2 : Nat → Prop} {L : List Gate} {vs : List Value} {V : Value} {g : Gate} {A : List En}
theorem Own.nilin (h : Own Z w0 W LL) : Own Z w0 W (inE (fun _ => False) (.slice none 0 0) [] :: LL) :=
 h.add (Below.refl _ _) (e := inE (fun _ => False) (.slice none 0 0) []) (zDw (IntsD.nil _ _) (fun _ hk => hk.elim)) (fun _ hk => hk.elim)
theorem Own.blkin {b n : Nat} {T : TypeId} {cs : Array Value} {l : List Int} (h : Own Z w0 W (.blk b T cs :: LL)) (hc : cs = (intCs l).toArray) (hn : n = l.length) (hm : n ≤ 1000000) : Own Z w0 W (inE (fun k => k = b) (.slice (some ⟨b, 0, none⟩) n n) l :: LL) := by
 subst hc
 exact h.as (e' := inE (fun k => k = b) (.slice (some ⟨b, 0, none⟩) n n) l) (zDw (IntsD.of_blk (h.blk 0 rfl) hn (by unfold maxLen; omega)) (fun k hk => by subst hk; exact (h.blk 0 rfl).lt)) (fun _ hk => hk) (fun ho => ho.elim)
theorem Own.rowin {v : Value} {n : Nat} {T : TypeId} {l : List Int} (h : Own Z w0 W (.row v T 1 n (intCs l) :: LL)) : Own Z w0 W (inE (fun k => v.ownBlock = some k) v l :: LL) :=
 h.as (e' := inE (fun k => v.ownBlock = some k) v l) (zDw (IntsD.of_row (h.row 0 rfl)) (fun k hk => (World.ownsRow.lt (h.row 0 rfl) k hk).2)) (fun _ hk => hk) (fun ho => ho.elim)
theorem Own.insSnoc (O : Own Z w0 W (insE D L vs :: inE D2 V g.inp :: rest)) : Own Z w0 W (insE (fun k => D k ∨ D2 k) (L ++ [g]) (vs ++ [V]) :: rest) := by
 have i1 : Ins D L vs W := O.ro 0 rfl
 have i2 : IntsD D2 W V g.inp := O.ro 1 rfl
 have O1 : Own Z w0 W ([insE D L vs, inE D2 V g.inp] ++ rest) := O
 exact O1.step (A' := [insE (fun k => D k ∨ D2 k) (L ++ [g]) (vs ++ [V])]) (Frame.refl NoB W) (fun _ _ hn => hn.elim)
  (fun e he => by
   rw [List.mem_singleton.1 he]
   exact ⟨i1.snoc i2, fun k hk => hk.elim (fun q => (O.get 0 rfl).2.1 k q) (fun q => (O.get 1 rfl).2.1 k q), fun _ _ _ hk h => h.move hk⟩)
  (List.pairwise_singleton _ _)
  (fun e he k hk => by
   rw [List.mem_singleton.1 he] at hk ⊢
   refine .inl ?_
   rcases hk with q | q
   ·exact ⟨insE D L vs, by simp, q, fun h => h.elim⟩
   ·exact ⟨inE D2 V g.inp, by simp, q, fun h => h.elim⟩)
end
theorem gatesV_of {w : World} {g n c B : Nat} {gs : List Gate} {vs : List Value} {D : Nat → Prop} (hc : ∀ j v, (gcells gs vs)[j]? = some v → w.cell? ⟨g, j, none⟩ = some v) (hI : Ins D gs vs w) (hD : ∀ k, D k → k < B) (hg : g < B) (hn : n = gs.length) (h1 : n ≤ c) (h2 : c ≤ maxLen) : GatesV w B (.slice (some ⟨g, 0, none⟩) n c) gs := by
 subst hn
 refine ⟨_, c, rfl, h1, h2, fun _ => ⟨g, 0, hg, rfl, fun i x hx => ?_⟩⟩
 have hi := (List.getElem?_eq_some_iff.1 hx).1
 have hi' : i < vs.length := by rw [← hI.1]; exact hi
 have hv : vs[i]? = some vs[i] := List.getElem?_eq_getElem hi'
 obtain ⟨q0, q1, q2⟩ := zBt hx hv
 rw [Nat.zero_add]
 exact ⟨hc _ _ q0, hc _ _ q1, _, hc _ _ q2, (hI.2 i _ _ hx hv).V hD⟩
end Go.Proofs.YtliiclmhpphpmaaGreatDoor
namespace Go.Proofs.YtliiclmhpphpmaaGreatDoor
def addG (G : List Gate) (g : Gate) : List Gate × Int := if G.length ≤ 4096 then (G ++ [g], (G.length : Int)) else (G, ((G.length - 1 : Nat) : Int))
def chooseG3 (G : List Gate) (a b c : Int) : List Gate × Int := if b = c then (G, b) else addG G ⟨8, 0, [a, b, c]⟩
def askG (G : List Gate) (v no yes : Int) : List Gate × Int := chooseG3 (addG G ⟨2, v, []⟩).1 (addG G ⟨2, v, []⟩).2 yes no
def foldG (ts : List TN) (G : List Gate) : Nat → List Gate × List Int
 | 0 => (G, List.replicate ts.length 0)
 | m + 1 => match ts[ts.length - 1 - m]? with
  | none => foldG ts G m
  | some x => if x.v = 0 then ((foldG ts G m).1, (foldG ts G m).2.set (ts.length - 1 - m) (if x.c then 1 else 0))
   else ((askG (foldG ts G m).1 x.v ((foldG ts G m).2.getD x.no.toNat 0) ((foldG ts G m).2.getD x.yes.toNat 0)).1,
    (foldG ts G m).2.set (ts.length - 1 - m) (askG (foldG ts G m).1 x.v ((foldG ts G m).2.getD x.no.toNat 0) ((foldG ts G m).2.getD x.yes.toNat 0)).2)
def treeG (ts : List TN) (G : List Gate) : List Gate × Int := ((foldG ts G ts.length).1, (foldG ts G ts.length).2.getD 0 0)
def lestG (r : Int) (K : Nat) (G : List Gate) (l : List Int) : Nat → List Gate × List Int
 | 0 => (G, l)
 | q + 1 => ((chooseG3 (lestG r K G l q).1 r ((lestG r K G l q).2.getD (K - q - 1) 0) ((lestG r K G l q).2.getD (K - q) 0)).1,
   (lestG r K G l q).2.set (K - q) (chooseG3 (lestG r K G l q).1 r ((lestG r K G l q).2.getD (K - q - 1) 0) ((lestG r K G l q).2.getD (K - q) 0)).2)
def forG (fs : List (List TN)) : Nat → List Gate × List Int
 | 0 => ([⟨0, 0, []⟩, ⟨1, 0, []⟩], [1])
 | j + 1 => match fs[j]? with
  | none => forG fs j
  | some ts => lestG (treeG ts (forG fs j).1).2 (forG fs j).2.length (treeG ts (forG fs j).1).1 ((forG fs j).2 ++ [0]) (forG fs j).2.length
def forestG (fs : List (List TN)) : List Gate := (addG (forG fs fs.length).1 ⟨4, 0, [(forG fs fs.length).2.getD (fs.length / 2 + 1) 0]⟩).1
theorem zFv (G : List Gate) (g : Gate) : G.length ≤ (addG G g).1.length ∧ (addG G g).1.length ≤ G.length + 1 ∧ (G.length ≤ 4097 → (addG G g).1.length ≤ 4097) := by
 unfold addG
 split
 ·simp only [List.length_append, List.length_cons, List.length_nil]; omega
 ·exact ⟨Nat.le_refl _, Nat.le_succ _, fun h => h⟩
theorem zGh (G : List Gate) (a b c : Int) : G.length ≤ (chooseG3 G a b c).1.length ∧ (chooseG3 G a b c).1.length ≤ G.length + 1 ∧ (G.length ≤ 4097 → (chooseG3 G a b c).1.length ≤ 4097) := by
 unfold chooseG3
 split
 ·exact ⟨Nat.le_refl _, Nat.le_succ _, fun h => h⟩
 ·exact zFv _ _
theorem ask_len (G : List Gate) (v no yes : Int) : G.length ≤ (askG G v no yes).1.length ∧ (askG G v no yes).1.length ≤ G.length + 2 ∧ (G.length ≤ 4097 → (askG G v no yes).1.length ≤ 4097) := by
 have h1 := zFv G ⟨2, v, []⟩
 have h2 := zGh (addG G ⟨2, v, []⟩).1 (addG G ⟨2, v, []⟩).2 yes no
 unfold askG
 omega
theorem zGv (ts : List TN) (G : List Gate) : ∀ m, (foldG ts G m).2.length = ts.length ∧ (G.length ≤ 4097 → (foldG ts G m).1.length ≤ 4097)
 | 0 => by simp [foldG]
 | m + 1 => by
  obtain ⟨h1, h2⟩ := zGv ts G m
  unfold foldG
  cases ts[ts.length - 1 - m]? with
  | none => exact ⟨h1, h2⟩
  | some x =>
   dsimp only
   split
   ·exact ⟨by rw [List.length_set]; exact h1, h2⟩
   ·exact ⟨by rw [List.length_set]; exact h1, fun h => (ask_len _ _ _ _).2.2 (h2 h)⟩
theorem zIa (r : Int) (K : Nat) (G : List Gate) (l : List Int) : ∀ q, (lestG r K G l q).2.length = l.length ∧ (G.length ≤ 4097 → (lestG r K G l q).1.length ≤ 4097)
 | 0 => ⟨rfl, fun h => h⟩
 | q + 1 => by
  obtain ⟨h1, h2⟩ := zIa r K G l q
  unfold lestG
  exact ⟨by rw [List.length_set]; exact h1, fun h => (zGh _ _ _ _).2.2 (h2 h)⟩
theorem zIf (fs : List (List TN)) : ∀ j, j ≤ fs.length → (forG fs j).2.length = j + 1 ∧ (forG fs j).1.length ≤ 4097
 | 0, _ => by simp [forG]
 | j + 1, hj => by
  obtain ⟨h1, h2⟩ := zIf fs j (by omega)
  unfold forG
  rw [List.getElem?_eq_getElem (show j < fs.length by omega)]
  dsimp only
  obtain ⟨q1, q2⟩ := zIa (treeG fs[j] (forG fs j).1).2 (forG fs j).2.length (treeG fs[j] (forG fs j).1).1 ((forG fs j).2 ++ [0]) (forG fs j).2.length
  refine ⟨by rw [q1]; simp [h1], q2 ((zGv fs[j] (forG fs j).1 fs[j].length).2 h2)⟩
theorem zE1 (ts : List TN) (G : List Gate) : ∀ m, (foldG ts G m).1.length ≤ G.length + 2 * m
 | 0 => by simp [foldG]
 | m + 1 => by
  have h := zE1 ts G m
  unfold foldG
  cases ts[ts.length - 1 - m]? with
  | none => dsimp only; omega
  | some x =>
   dsimp only
   split
   ·dsimp only; omega
   ·have := (ask_len (foldG ts G m).1 x.v ((foldG ts G m).2.getD x.no.toNat 0) ((foldG ts G m).2.getD x.yes.toNat 0)).2.1
    dsimp only; omega
theorem zF7 (r : Int) (K : Nat) (G : List Gate) (l : List Int) : ∀ q, (lestG r K G l q).1.length ≤ G.length + q
 | 0 => Nat.le_refl _
 | q + 1 => by
  have h := zF7 r K G l q
  have := (zGh (lestG r K G l q).1 r ((lestG r K G l q).2.getD (K - q - 1) 0) ((lestG r K G l q).2.getD (K - q) 0)).2.1
  unfold lestG
  dsimp only
  omega
theorem zEk {fs : List (List TN)} (h : ∀ ts ∈ fs, ts.length ≤ 30) (hl : fs.length ≤ 5) : ∀ j, j ≤ fs.length → (forG fs j).1.length ≤ 2 + 70 * j
 | 0, _ => by simp [forG]
 | j + 1, hj => by
  have ih := zEk h hl j (by omega)
  have h1 := (zIf fs j (by omega)).1
  unfold forG
  rw [List.getElem?_eq_getElem (show j < fs.length by omega)]
  dsimp only
  have h2 := zF7 (treeG fs[j] (forG fs j).1).2 (forG fs j).2.length (treeG fs[j] (forG fs j).1).1 ((forG fs j).2 ++ [0]) (forG fs j).2.length
  have h3 := zE1 fs[j] (forG fs j).1 fs[j].length
  have h4 := h fs[j] (List.getElem_mem _)
  unfold treeG at h2 ⊢
  dsimp only at h2 ⊢
  omega
theorem forest_small {fs : List (List TN)} (h : ∀ ts ∈ fs, ts.length ≤ 30) (hl : fs.length ≤ 5) : (forestG fs).length ≤ 360 := by
 have h1 := zEk h hl fs.length (Nat.le_refl _)
 have h2 := (zFv (forG fs fs.length).1 ⟨4, 0, [(forG fs fs.length).2.getD (fs.length / 2 + 1) 0]⟩).2.1
 unfold forestG
 omega
theorem forG_next {fs : List (List TN)} {j : Nat} {ts : List TN} (h : fs[j]? = some ts) : forG fs (j + 1) = lestG (treeG ts (forG fs j).1).2 (forG fs j).2.length (treeG ts (forG fs j).1).1 ((forG fs j).2 ++ [0]) (forG fs j).2.length := by
 conv => lhs; unfold forG
 rw [h]
end Go.Proofs.YtliiclmhpphpmaaGreatDoor
namespace Go.Proofs.YtliiclmhpphpmaaGreatDoor
open Go Go.RowKit
theorem gadd0_ {Z : Bool → Nat → Prop} {w0 W : World} {cb : Nat} {N : Int} {R : Option Addr} {c : Nat} {D : Nat → Prop} {G : List Gate} {vs : List Value} {D2 : Nat → Prop} {AV : Option Addr} {cV : Nat} {g : Gate} (O0 : Own Z w0 W [.blk cb 33 #[.int .i64 N, .slice R G.length c], .row (.slice R G.length c) 65 3 G.length (gcells G vs), .ro D (Ins D G vs), .ro D2 (fun w => IntsD D2 w (.slice AV g.inp.length cV) g.inp)]) (hG : G.length ≤ 4097) :
  Calls Tryz.prog 20 #[.agg #[.int .i64 g.kind, .int .i64 g.lit, .slice AV g.inp.length cV], .pointer (some ⟨cb, 0, none⟩)] W fun e w' => ∃ R' c' D' vs', e = .returned (.int .i64 (addG G g).2) ∧ Own Z w0 w' [.blk cb 33 #[.int .i64 N, .slice R' (((addG G g).1).length) c'], .row (.slice R' (((addG G g).1).length) c') 65 3 (((addG G g).1).length) (gcells ((addG G g).1) vs'), .ro D' (Ins D' ((addG G g).1) vs')] := by
 have hins : Ins D G vs W := O0.ro 2 rfl
 refine zAu (args := [.agg #[.int .i64 g.kind, .int .i64 g.lit, .slice AV g.inp.length cV], VP cb]) Tryz.func20 rfl rfl (by simp) ?_
 refine zAc fun _ K1 => zAa ?_
 obtain ⟨g2, w3, r4, O5, hg6, hs7⟩ := zA5 O0 65 (.agg #[.int .i64 g.kind, .int .i64 g.lit, .slice AV g.inp.length cV]) rfl
 refine zAe (v := VP g2) (fun ρ e => r4 ρ _ _ _ _ _ _ (e _ _ rfl)) rfl rfl <| wa rfl rfl rfl <| zAd <| zAb K1 <| zAc fun _ K8 => zAc fun _ K9 => zAa <| wf (q := 1) zHh rfl rfl rfl rfl ?_
 refine wd ty31 rfl (O5.cell 1 1 rfl rfl) rfl rfl <| wz el31 rfl rfl rfl ?_
 by_cases c10 : ((G.length : Nat) : Int) ≤ 4096
 ·skip
  refine wc rfl rfl (leq1 (by omega)) rfl rfl <| zAd <| zAb K9 <| zAl rfl <| zAa <| wf (q := 1) zHh rfl rfl rfl rfl <| wd ty31 rfl (O5.cell 1 1 rfl rfl) rfl rfl <| zAe (v := .agg #[.int .i64 g.kind, .int .i64 g.lit, .slice AV g.inp.length cV]) (fun ρ e => zAk (vs := [.int .i64 g.kind, .int .i64 g.lit, .slice AV g.inp.length cV]) ty65 (e _ _ rfl) rfl (O5.cells 0 0 rfl rfl)) rfl rfl ?_
  obtain ⟨g11, w12, r13, O14, hg15, hs16⟩ := zBg O5 el31 ze65 1 [(0, .agg #[.int .i64 g.kind, .int .i64 g.lit, .slice AV g.inp.length cV])] (cs := #[.int .i64 g.kind, .int .i64 g.lit, .slice AV g.inp.length cV]) (by decide) (by kernel_rfl)
  refine zAe (v := VS0 g11 1 1) (fun ρ e => r13 ρ _ _ _ _ _ _ (e.parts rfl)) rfl rfl ?_
  obtain ⟨A17, c18, w19, r20, O21, hz22, hc23⟩ := zC5 (O14.re [3, 0, 1, 2, 4, 5] rfl) ap31 ((O14.re [3, 0, 1, 2, 4, 5] rfl).blk 1 rfl) (cells := [.int .i64 g.kind, .int .i64 g.lit, .slice AV g.inp.length cV]) rfl rfl (by omega) (by omega) (ys := (gcells (G ++ [g]) (vs ++ [Value.slice AV g.inp.length cV]))) (zD4 g (.slice AV g.inp.length cV) G vs hins.1).symm
  refine zAe (v := .slice A17 (G.length + 1) c18) (fun ρ e => r20 ρ _ _ _ _ _ _ _ (e _ _ rfl) (e _ _ rfl)) rfl rfl <| wf (q := 1) zHh rfl rfl rfl rfl ?_
  obtain ⟨w24, r25, O26, hs27⟩ := zAp (o := 1) (n := 1) (O21.re [3, 0, 1, 2, 4, 5] rfl) ty31 (.slice A17 (G.length + 1) c18) _ (cs' := #[.int .i64 N, .slice A17 (G.length + 1) c18]) rfl rfl rfl (Nat.le_of_ble_eq_true rfl) rfl
  refine zAv (fun ρ e => r25 ρ _ _ _ _ _ _ (e _ _ rfl) (e _ _ rfl)) rfl <| nx K8 fun _ K28 => wf (q := 1) zHh rfl rfl rfl rfl <| wd ty31 rfl (O26.cell 0 1 rfl rfl) rfl rfl <| wz el31 rfl rfl rfl <| zAe (v := .int .i64 ((G.length + 1 - 1 : Nat) : Int)) (fun ρ e => zAi (k := .i64) (u := ((G.length + 1 : Nat) : Int)) (v := 1) (e _ _ rfl) (e _ _ rfl) (congrArg some ((congrArg _ (show _ = ((G.length + 1 - 1 : Nat) : Int) by omega)).trans (zAo (by omega) (by omega))))) rfl rfl <| wa rfl rfl rfl <| zAd ?_
  refine zAb K28 <| zAz ?_
  refine zAy (v := .int .i64 ((G.length + 1 - 1 : Nat) : Int)) (fun T hT => res1 rfl T _ (hT 3 _ rfl)) ?_
  have hq : addG G g = (G ++ [g], (G.length : Int)) := by unfold addG; rw [if_pos (by omega)]
  have O29 := Own.insSnoc (g := g) (O26.re [4, 5, 0, 1] rfl)
  have hl : (G ++ [g]).length = G.length + 1 := by simp
  rw [hq]
  dsimp only
  simp only [hl]
  exact ⟨A17, c18, (fun k => D k ∨ D2 k), vs ++ [Value.slice AV g.inp.length cV], congrArg (fun z : Nat => Ending.returned (.int .i64 (z : Int))) (show G.length + 1 - 1 = G.length by omega), O29.re [1, 2, 0] rfl⟩
 ·skip
  refine wc rfl rfl (leq0 (by omega)) rfl rfl <| zAd <| zAb K9 <| zAf rfl <| zAj <| zAb K8 <| zAc fun _ K30 => zAa ?_
  refine wf (q := 1) zHh rfl rfl rfl rfl <| wd ty31 rfl (O5.cell 1 1 rfl rfl) rfl rfl <| wz el31 rfl rfl rfl <| zAe (v := .int .i64 ((G.length - 1 : Nat) : Int)) (fun ρ e => zAi (k := .i64) (u := ((G.length : Nat) : Int)) (v := 1) (e _ _ rfl) (e _ _ rfl) (congrArg some ((congrArg _ (show _ = ((G.length - 1 : Nat) : Int) by omega)).trans (zAo (by omega) (by omega))))) rfl rfl <| wa rfl rfl rfl <| zAd <| zAb K30 <| zAz ?_
  refine zAy (v := .int .i64 ((G.length - 1 : Nat) : Int)) (fun T hT => res1 rfl T _ (hT 3 _ rfl)) ?_
  have hq : addG G g = (G, ((G.length - 1 : Nat) : Int)) := by unfold addG; rw [if_neg (by omega)]
  rw [hq]
  dsimp only
  exact ⟨R, c, D, vs, rfl, (O5.re [1, 2, 3] rfl)⟩
theorem gadd_ {Z : Bool → Nat → Prop} {w0 W : World} {cb : Nat} {N : Int} {R : Option Addr} {c : Nat} {D : Nat → Prop} {G : List Gate} {vs : List Value} {D2 : Nat → Prop} {V : Value} {g : Gate} (O0 : Own Z w0 W [.blk cb 33 #[.int .i64 N, .slice R G.length c], .row (.slice R G.length c) 65 3 G.length (gcells G vs), .ro D (Ins D G vs), inE D2 V g.inp]) (hG : G.length ≤ 4097) :
  Calls Tryz.prog 20 #[.agg #[.int .i64 g.kind, .int .i64 g.lit, V], .pointer (some ⟨cb, 0, none⟩)] W fun e w' => ∃ R' c' D' vs', e = .returned (.int .i64 (addG G g).2) ∧ Own Z w0 w' [.blk cb 33 #[.int .i64 N, .slice R' (((addG G g).1).length) c'], .row (.slice R' (((addG G g).1).length) c') 65 3 (((addG G g).1).length) (gcells ((addG G g).1) vs'), .ro D' (Ins D' ((addG G g).1) vs')] := by
 have hV : IntsD D2 W V g.inp := O0.ro 3 rfl
 obtain ⟨AV, cV, rfl⟩ := hV.slice
 exact gadd0_ O0 hG
theorem gchoose_ {Z : Bool → Nat → Prop} {w0 W : World} {cb ab : Nat} {N : Int} {R : Option Addr} {c : Nat} {D : Nat → Prop} {G : List Gate} {vs : List Value} {a b d : Int} (O0 : Own Z w0 W [.blk cb 33 #[.int .i64 N, .slice R G.length c], .row (.slice R G.length c) 65 3 G.length (gcells G vs), .ro D (Ins D G vs), .blk ab 66 #[.func (.func 20) #[] #[.pointer (some ⟨cb, 0, none⟩)]]]) (hG : G.length ≤ 4097) :
  Calls Tryz.prog 21 #[.int .i64 a, .int .i64 b, .int .i64 d, .pointer (some ⟨ab, 0, none⟩)] W fun e w' => ∃ R' c' D' vs', e = .returned (.int .i64 (chooseG3 G a b d).2) ∧ Own Z w0 w' [.blk cb 33 #[.int .i64 N, .slice R' (((chooseG3 G a b d).1).length) c'], .row (.slice R' (((chooseG3 G a b d).1).length) c') 65 3 (((chooseG3 G a b d).1).length) (gcells ((chooseG3 G a b d).1) vs'), .ro D' (Ins D' ((chooseG3 G a b d).1) vs'), .blk ab 66 #[.func (.func 20) #[] #[.pointer (some ⟨cb, 0, none⟩)]]] := by
 refine zAu (args := [.int .i64 a, .int .i64 b, .int .i64 d, VP ab]) Tryz.func21 rfl rfl (by simp) ?_
 refine zAc fun _ K1 => zAa <| wa rfl rfl rfl <| zAd <| zAb K1 <| zAc fun _ K2 => zAc fun _ K3 => zAa ?_
 refine wm rfl rfl rfl <| wm rfl rfl rfl ?_
 by_cases c4 : b = d
 ·skip
  refine wc rfl rfl (eql1 (by omega)) rfl rfl <| zAd <| zAb K3 <| zAl rfl <| zAc fun _ K5 => zAa <| wm rfl rfl rfl <| wa rfl rfl rfl ?_
  refine zAd <| zAb K5 <| zAz ?_
  refine zAg (by intro h; cases h) ?_
  refine zAy (v := .int .i64 b) (fun T hT => res1 rfl T _ (hT 7 _ rfl)) ?_
  have hq : chooseG3 G a b d = (G, b) := by unfold chooseG3; rw [if_pos (by omega)]
  rw [hq]
  exact ⟨R, c, D, vs, rfl, O0⟩
 ·skip
  refine wc rfl rfl (eql0 (by omega)) rfl rfl <| zAd <| zAb K3 <| zAf rfl <| zAj <| zAb K2 <| zAc fun _ K6 => zAa ?_
  refine wd ty66 rfl (O0.cell 3 0 rfl rfl) rfl rfl <| wm rfl rfl rfl <| wm rfl rfl rfl <| wm rfl rfl rfl ?_
  obtain ⟨g7, w8, r9, O10, hg11, hs12⟩ := zBg O0 el57 ze3 3 [(0, .int .i64 a), (1, .int .i64 b), (2, .int .i64 d)] (cs := #[.int .i64 a, .int .i64 b, .int .i64 d]) (by decide) (by kernel_rfl)
  refine zAe (v := VS0 g7 3 3) (fun ρ e => r9 ρ _ _ _ _ _ _ (e.parts rfl)) rfl rfl <| zAe (v := .agg #[.int .i64 8, .int .i64 0, VS0 g7 3 3]) (fun ρ e => zBe (cells := #[.int .i64 8, .int .i64 0, VS0 g7 3 3]) st65 (e.parts rfl) rfl) rfl rfl ?_
  refine zBz (args := [.agg #[.int .i64 8, .int .i64 0, VS0 g7 3 3]]) (all := [.agg #[.int .i64 8, .int .i64 0, VS0 g7 3 3], VP cb]) in_20 rfl rfl rfl rfl rfl ?_
  have O13 : Own Z w0 w8 [.ro (fun k => k = g7) (fun w => IntsD (fun k => k = g7) w (VS0 g7 3 3) [a, b, d]), .blk cb 33 #[.int .i64 N, .slice R G.length c], .row (.slice R G.length c) 65 3 G.length (gcells G vs), .ro D (Ins D G vs), .blk ab 66 #[.func (.func 20) #[] #[VP cb]]] := Own.blkin (l := [a, b, d]) O10 rfl rfl (by decide)
  obtain ⟨O20h, O20f⟩ := Own.split (A := [.blk cb 33 #[.int .i64 N, .slice R G.length c], .row (.slice R G.length c) 65 3 G.length (gcells G vs), .ro D (Ins D G vs), .ro (fun k => k = g7) (fun w => IntsD (fun k => k = g7) w (VS0 g7 3 3) [a, b, d])]) (R := [.blk ab 66 #[.func (.func 20) #[] #[VP cb]]]) (O13.re [1, 2, 3, 0, 4] rfl)
  refine (gadd_ (g := ⟨8, 0, [a, b, d]⟩) O20h hG).mono ?_
  rintro _ w18 ⟨R14, c15, D16, vs17, rfl, h19⟩
  have O20 := O20f h19
  refine ⟨_, rfl, ?_⟩
  refine wa rfl rfl rfl <| zAd <| zAb K6 <| zAz ?_
  refine zAy (v := .int .i64 ((addG G ⟨8, 0, [a, b, d]⟩).2)) (fun T hT => res1 rfl T _ (hT 7 _ rfl)) ?_
  have hq : chooseG3 G a b d = addG G ⟨8, 0, [a, b, d]⟩ := by unfold chooseG3; rw [if_neg (by omega)]
  rw [hq]
  exact ⟨R14, c15, D16, vs17, rfl, O20⟩
theorem gleaf_ (b : Bool) (W : World) : Calls Tryz.prog 23 #[.bool b] W fun e w' => e = .returned (.int .i64 (if b then 1 else 0)) ∧ Below W.heap.size W w' := by
 cases b
 ·skip
  have O0 : Own Z0 W W [] := Own.start W
  refine zAu (args := [.bool false]) Tryz.func23 rfl rfl (by simp) ?_
  refine zAc fun _ K1 => zAa <| wa rfl rfl rfl <| zAd <| zAb K1 <| zAc fun _ K2 => zAc fun _ K3 => zAa ?_
  refine wm rfl rfl rfl <| zAd <| zAb K3 <| zAf rfl <| zAj <| zAb K2 <| zAc fun _ K4 => zAa ?_
  refine wa rfl rfl rfl <| zAd <| zAb K4 <| zAz ?_
  refine zAy (v := .int .i64 0) (fun T hT => res1 rfl T _ (hT 2 _ rfl)) ?_
  exact ⟨rfl, O0.old⟩
 ·skip
  have O0 : Own Z0 W W [] := Own.start W
  refine zAu (args := [.bool true]) Tryz.func23 rfl rfl (by simp) ?_
  refine zAc fun _ K1 => zAa <| wa rfl rfl rfl <| zAd <| zAb K1 <| zAc fun _ K2 => zAc fun _ K3 => zAa ?_
  refine wm rfl rfl rfl <| zAd <| zAb K3 <| zAl rfl <| zAc fun _ K4 => zAa <| wa rfl rfl rfl <| zAd ?_
  refine zAb K4 <| zAz ?_
  refine zAg (by intro h; cases h) ?_
  refine zAy (v := .int .i64 1) (fun T hT => res1 rfl T _ (hT 2 _ rfl)) ?_
  exact ⟨rfl, O0.old⟩
theorem gask_ {Z : Bool → Nat → Prop} {w0 W : World} {cb ab hb : Nat} {N : Int} {R : Option Addr} {c : Nat} {D : Nat → Prop} {G : List Gate} {vs : List Value} {v no yes : Int} (O0 : Own Z w0 W [.blk cb 33 #[.int .i64 N, .slice R G.length c], .row (.slice R G.length c) 65 3 G.length (gcells G vs), .ro D (Ins D G vs), .blk ab 66 #[.func (.func 20) #[] #[.pointer (some ⟨cb, 0, none⟩)]], .blk hb 67 #[.func (.func 21) #[] #[.pointer (some ⟨ab, 0, none⟩)]]]) (hG : G.length ≤ 4097) :
  Calls Tryz.prog 24 #[.int .i64 v, .int .i64 no, .int .i64 yes, .pointer (some ⟨hb, 0, none⟩), .pointer (some ⟨ab, 0, none⟩)] W fun e w' => ∃ R' c' D' vs', e = .returned (.int .i64 (askG G v no yes).2) ∧ Own Z w0 w' [.blk cb 33 #[.int .i64 N, .slice R' (((askG G v no yes).1).length) c'], .row (.slice R' (((askG G v no yes).1).length) c') 65 3 (((askG G v no yes).1).length) (gcells ((askG G v no yes).1) vs'), .ro D' (Ins D' ((askG G v no yes).1) vs'), .blk ab 66 #[.func (.func 20) #[] #[.pointer (some ⟨cb, 0, none⟩)]], .blk hb 67 #[.func (.func 21) #[] #[.pointer (some ⟨ab, 0, none⟩)]]] := by
 refine zAu (args := [.int .i64 v, .int .i64 no, .int .i64 yes, VP hb, VP ab]) Tryz.func24 rfl rfl (by simp) ?_
 refine zAc fun _ K1 => zAa <| wa rfl rfl rfl <| zAd <| zAb K1 <| zAc fun _ K2 => ?_
 refine zA1 (fun X => Own Z w0 X [.blk ab 66 #[.func (.func 20) #[] #[VP cb]], .blk hb 67 #[.func (.func 21) #[] #[VP ab]]]) 8 [(0, 0), (1, 0), (2, 1), (3, 1), (5, 1), (6, 1), (4, 2), (7, 2), (8, 3)] (by kernel_rfl) (by kernel_rfl) (PQ.then_ PQ.body) ((O0.re [3, 4] rfl)).drew ?_
 have O3 := O0.drew
 refine wt0 (v := .func (.func 21) #[] #[VP ab]) rfl (fun ρ e W hW => zAm ty67 (e _ _ rfl) (hW.cell 1 0 rfl rfl)) rfl rfl <| wt0 (v := .func (.func 20) #[] #[VP cb]) rfl (fun ρ e W hW => zAm ty66 (e _ _ rfl) (hW.cell 0 0 rfl rfl)) rfl rfl <| tm rfl rfl rfl rfl <| wt1 (v := .agg #[.int .i64 2, .int .i64 v, .slice none 0 0]) rfl (fun ρ e W => zBe (cells := #[.int .i64 2, .int .i64 v, .slice none 0 0]) st65 (e.parts rfl) rfl) rfl rfl <| tm rfl rfl rfl rfl <| tm rfl rfl rfl rfl ?_
 refine zBn (args := [.agg #[.int .i64 2, .int .i64 v, .slice none 0 0]]) (all := [.agg #[.int .i64 2, .int .i64 v, .slice none 0 0], VP cb]) rfl in_20 rfl rfl rfl rfl rfl ?_
 have O4 := O3.nilin
 obtain ⟨O11h, O11f⟩ := Own.split (A := [.blk cb 33 #[.int .i64 N, .slice R G.length c], .row (.slice R G.length c) 65 3 G.length (gcells G vs), .ro D (Ins D G vs), .ro (fun _ => False) (fun w => IntsD (fun _ => False) w (.slice none 0 0) [])]) (R := [.blk ab 66 #[.func (.func 20) #[] #[VP cb]], .blk hb 67 #[.func (.func 21) #[] #[VP ab]]]) (O4.re [1, 2, 3, 0, 4, 5] rfl)
 refine (gadd_ (g := ⟨2, v, []⟩) O11h hG).mono ?_
 rintro _ w9 ⟨R5, c6, D7, vs8, rfl, h10⟩
 have O11 := O11f h10
 refine ⟨_, rfl, (O11.re [3, 4] rfl), ?_⟩
 refine zBn (args := [.int .i64 ((addG G ⟨2, v, []⟩).2), .int .i64 yes, .int .i64 no]) (all := [.int .i64 ((addG G ⟨2, v, []⟩).2), .int .i64 yes, .int .i64 no, VP ab]) rfl in_21 rfl rfl rfl rfl rfl ?_
 obtain ⟨O18h, O18f⟩ := Own.split (A := [.blk cb 33 #[.int .i64 N, .slice R5 (((addG G ⟨2, v, []⟩).1).length) c6], .row (.slice R5 (((addG G ⟨2, v, []⟩).1).length) c6) 65 3 (((addG G ⟨2, v, []⟩).1).length) (gcells ((addG G ⟨2, v, []⟩).1) vs8), .ro D7 (Ins D7 ((addG G ⟨2, v, []⟩).1) vs8), .blk ab 66 #[.func (.func 20) #[] #[VP cb]]]) (R := [.blk hb 67 #[.func (.func 21) #[] #[VP ab]]]) O11
 refine (gchoose_ (a := (addG G ⟨2, v, []⟩).2) (b := yes) (d := no) O18h ((zFv _ _).2.2 hG)).mono ?_
 rintro _ w16 ⟨R12, c13, D14, vs15, rfl, h17⟩
 have O18 := O18f h17
 refine ⟨_, rfl, (O18.re [3, 4] rfl), ?_⟩
 refine wt3 (v := .int .i64 ((chooseG3 ((addG G ⟨2, v, []⟩).1) ((addG G ⟨2, v, []⟩).2) yes no).2)) rfl (fun ρ e => zBb (e _ _ rfl)) rfl rfl <| zBc <| zAb K2 <| zAz ?_
 refine zAy (v := .int .i64 ((chooseG3 ((addG G ⟨2, v, []⟩).1) ((addG G ⟨2, v, []⟩).2) yes no).2)) (fun T hT => res1 rfl T _ (hT 8 _ rfl)) ?_
 exact ⟨R12, c13, D14, vs15, rfl, O18⟩

end Go.Proofs.YtliiclmhpphpmaaGreatDoor
namespace Go.Proofs.YtliiclmhpphpmaaGreatDoor
open Go Go.RowKit
theorem foldG_leaf {ts : List TN} {m : Nat} (G : List Gate) {x : TN} (hx : ts[ts.length - 1 - m]? = some x) (hv : x.v = 0) : foldG ts G (m + 1) = ((foldG ts G m).1, (foldG ts G m).2.set (ts.length - 1 - m) (if x.c then 1 else 0)) := by
 conv => lhs; unfold foldG
 rw [hx]
 dsimp only
 rw [if_pos hv]
theorem foldG_ask {ts : List TN} {m : Nat} (G : List Gate) {x : TN} (hx : ts[ts.length - 1 - m]? = some x) (hv : ¬ x.v = 0) : foldG ts G (m + 1) = ((askG (foldG ts G m).1 x.v ((foldG ts G m).2.getD x.no.toNat 0) ((foldG ts G m).2.getD x.yes.toNat 0)).1,
    (foldG ts G m).2.set (ts.length - 1 - m) (askG (foldG ts G m).1 x.v ((foldG ts G m).2.getD x.no.toNat 0) ((foldG ts G m).2.getD x.yes.toNat 0)).2) := by
 conv => lhs; unfold foldG
 rw [hx]
 dsimp only
 rw [if_neg hv]
theorem gfold_ {Z : Bool → Nat → Prop} {w0 W : World} {cb ab hb : Nat} {N : Int} {R : Option Addr} {c : Nat} {D : Nat → Prop} {G : List Gate} {vs : List Value} {ts : List TN} {b o ct : Nat} {DT : Nat → Prop} {nn : Int} {A : Nat → VS} (O0 : Own Z w0 W [.blk cb 33 #[.int .i64 N, .slice R G.length c], .row (.slice R G.length c) 65 3 G.length (gcells G vs), .ro D (Ins D G vs), .blk ab 66 #[.func (.func 20) #[] #[.pointer (some ⟨cb, 0, none⟩)]], .blk hb 67 #[.func (.func 21) #[] #[.pointer (some ⟨ab, 0, none⟩)]], .ro DT (fun w => TreeD DT w (.slice (some ⟨b, o, none⟩) ts.length ct) ts)]) (hV : ValT ts nn A) (hG : G.length ≤ 4097) (hlen : ts.length ≤ 4096) :
  Calls Tryz.prog 22 #[.slice (some ⟨b, o, none⟩) ts.length ct, .func (.func 23) #[] #[], .func (.func 24) #[] #[.pointer (some ⟨hb, 0, none⟩), .pointer (some ⟨ab, 0, none⟩)]] W fun e w' => ∃ R' c' D' vs', e = .returned (.int .i64 (treeG ts G).2) ∧ Own Z w0 w' [.blk cb 33 #[.int .i64 N, .slice R' (((treeG ts G).1).length) c'], .row (.slice R' (((treeG ts G).1).length) c') 65 3 (((treeG ts G).1).length) (gcells ((treeG ts G).1) vs'), .ro D' (Ins D' ((treeG ts G).1) vs'), .blk ab 66 #[.func (.func 20) #[] #[.pointer (some ⟨cb, 0, none⟩)]], .blk hb 67 #[.func (.func 21) #[] #[.pointer (some ⟨ab, 0, none⟩)]], .ro DT (fun w => TreeD DT w (.slice (some ⟨b, o, none⟩) ts.length ct) ts)] := by
 have hpos := hV.pos
 refine zAu (args := [.slice (some ⟨b, o, none⟩) ts.length ct, .func (.func 23) #[] #[], .func (.func 24) #[] #[VP hb, VP ab]]) Tryz.func22 rfl rfl (by simp) ?_
 refine zAc fun _ K1 => zAa <| wa rfl rfl rfl <| nx K1 fun _ K2 => wm rfl rfl rfl <| wz el28 rfl rfl rfl ?_
 obtain ⟨g3, w4, r5, O6, hg7, hs8⟩ := zBo O0 ap57 rfl ts.length (by decide) (by omega) (cs := (intCs (foldG ts G 0).2).toArray) (by simp [foldG, intCs])
 refine zAe (v := VS0 g3 ts.length ts.length) (fun ρ e => r5 ρ _ _ _ _ _ _ _ (e _ _ rfl) (e _ _ rfl)) rfl rfl <| wa rfl rfl rfl <| zAd <| zAb K2 <| zAc fun _ K9 => zAc fun _ K10 => zAa <| wm rfl rfl rfl ?_
 refine wz el28 rfl rfl rfl <| zAe (v := .int .i64 (((ts.length : Nat) : Int) - 1)) (fun ρ e => zAi (k := .i64) (u := ((ts.length : Nat) : Int)) (v := 1) (e _ _ rfl) (e _ _ rfl) (congrArg some (zAo (by omega) (by omega)))) rfl rfl <| wa rfl rfl rfl <| zAd <| zAb K10 <| zAh ?_
 have O11 := (O6.re [1, 2, 3, 4, 5, 6, 0] rfl)
 refine zA8 (ι := Nat × Int × Option Addr × Nat × (Nat → Prop) × List Value) (fun q => [(0, .slice (some ⟨b, o, none⟩) ts.length ct), (1, .func (.func 23) #[] #[]), (2, .func (.func 24) #[] #[VP hb, VP ab]), (7, VS0 g3 ts.length ts.length), (8, .int .i64 q.2.1)]) (fun q X => (q.2.1 = (ts.length : Int) - 1 - (q.1 : Int)) ∧ (q.1 ≤ ts.length) ∧ Own Z w0 X [.blk cb 33 #[.int .i64 N, .slice q.2.2.1 (((foldG ts G q.1).1).length) q.2.2.2.1], .row (.slice q.2.2.1 (((foldG ts G q.1).1).length) q.2.2.2.1) 65 3 (((foldG ts G q.1).1).length) (gcells ((foldG ts G q.1).1) q.2.2.2.2.2), .ro q.2.2.2.2.1 (Ins q.2.2.2.2.1 ((foldG ts G q.1).1) q.2.2.2.2.2), .blk ab 66 #[.func (.func 20) #[] #[VP cb]], .blk hb 67 #[.func (.func 21) #[] #[VP ab]], .ro DT (fun w => TreeD DT w (.slice (some ⟨b, o, none⟩) ts.length ct) ts), .blk g3 3 ((intCs (foldG ts G q.1).2).toArray)]) (fun q => ts.length - q.1) (0, ((ts.length : Int) - 1), R, c, D, vs) ⟨(by show (ts.length : Int) - 1 = (ts.length : Int) - 1 - ((0 : Nat) : Int); omega), Nat.zero_le _, O11⟩ ⟨rfl, rfl, rfl, rfl, rfl, trivial⟩ (fun q w12 hJ F13 K14 => ?_)
 obtain ⟨m, z, R1, c1, D1, vs1⟩ := q
 obtain ⟨hz, hml, O15⟩ := hJ
 dsimp only at hz hml O15 ⊢
 obtain ⟨hfl, hfg⟩ := zGv ts G m
 have hfg := hfg hG
 by_cases hz0 : 0 ≤ z
 ·obtain ⟨i, rfl⟩ : ∃ i : Nat, z = (i : Int) := ⟨z.toNat, by omega⟩
  have hi : i < ts.length := by omega
  have him : ts.length - 1 - m = i := by omega
  rcases hV.kind i _ (List.getElem?_eq_getElem hi) with ⟨h1, h2, h3⟩ | ⟨h1, h2, h3, a, b2, h4, h5, q1, q2, q3, q4, _⟩
  ·obtain ⟨⟨xv, xno, xyes, xc⟩, hx⟩ : ∃ x, ts[i]? = some x := ⟨ts[i], List.getElem?_eq_getElem hi⟩
   have hxe := (List.getElem?_eq_some_iff.1 hx).2
   rw [hxe] at h1 h2 h3
   dsimp only at h1 h2 h3
   refine zAc fun _ K16 => zAc fun _ K17 => zAa <| wm rfl rfl rfl <| wc rfl rfl (geq1 (by omega)) rfl rfl <| zAd <| zAb K17 <| zAl rfl ?_
   refine zAj <| zAb K16 <| zAc fun _ K18 => zAh <| zAc fun _ K19 => zAa <| wm rfl rfl rfl <| wm rfl rfl rfl ?_
   refine wi (q := o + i * 4) (i := i) el28 rfl rfl (by omega) (by omega) rfl rfl <| zAe (v := .agg #[.int .i64 xv, .int .i64 xno, .int .i64 xyes, .bool xc]) (fun ρ e => zAk (vs := [.int .i64 xv, .int .i64 xno, .int .i64 xyes, .bool xc]) ty60 (e _ _ rfl) rfl (cells4 (TreeD.c0 ((O15.ro 5 rfl : (fun w => TreeD DT w (.slice (some ⟨b, o, none⟩) ts.length ct) ts) _) : TreeD _ _ _ _) hx) (TreeD.c1 ((O15.ro 5 rfl : (fun w => TreeD DT w (.slice (some ⟨b, o, none⟩) ts.length ct) ts) _) : TreeD _ _ _ _) hx) (TreeD.c2 ((O15.ro 5 rfl : (fun w => TreeD DT w (.slice (some ⟨b, o, none⟩) ts.length ct) ts) _) : TreeD _ _ _ _) hx) (TreeD.c3 ((O15.ro 5 rfl : (fun w => TreeD DT w (.slice (some ⟨b, o, none⟩) ts.length ct) ts) _) : TreeD _ _ _ _) hx))) rfl rfl ?_
   obtain ⟨g20, w21, r22, O23, hg24, hs25⟩ := zAw O15 60 ze60 rfl
   refine zAe (v := VP g20) (fun ρ e => r22 ρ _ _ _ _ _) rfl rfl ?_
   obtain ⟨w26, r27, O28, hs29⟩ := zAp (o := 0) (n := 4) O23 ty60 (.agg #[.int .i64 xv, .int .i64 xno, .int .i64 xyes, .bool xc]) _ (cs' := #[.int .i64 xv, .int .i64 xno, .int .i64 xyes, .bool xc]) rfl rfl rfl (Nat.le_of_ble_eq_true rfl) rfl
   refine zAv (fun ρ e => r27 ρ _ _ _ _ _ _ (e _ _ rfl) (e _ _ rfl)) rfl <| nx K19 fun _ K30 => wf (q := 0) zCd rfl rfl rfl rfl <| wd ty3 rfl (O28.cell 0 0 rfl rfl) rfl rfl <| wc rfl rfl (eql1 (by omega)) rfl rfl <| zAd <| zAb K30 <| zAl rfl ?_
   refine zAa <| wm rfl rfl rfl <| wm rfl rfl rfl <| wm rfl rfl rfl <| wf (q := 3) zIv rfl rfl rfl rfl <| wd ty4 rfl (O28.cell 0 3 rfl rfl) rfl rfl ?_
   refine zBz (args := [.bool xc]) (all := [.bool xc]) in_23 rfl rfl rfl rfl rfl ?_
   refine (gleaf_ xc w26).mono ?_
   rintro _ w31 ⟨rfl, hb32⟩
   have O33 := O28.below hb32
   refine ⟨_, rfl, ?_⟩
   refine wi (q := i) (i := i) el57 rfl rfl (by omega) (by omega) rfl rfl ?_
   obtain ⟨w34, r35, O36, hs37⟩ := zAp (o := i) (n := 1) (O33.re [7, 0, 1, 2, 3, 4, 5, 6] rfl) ty3 (.int .i64 (if xc then 1 else 0)) _ (cs' := (intCs (((foldG ts G m).2).set i (if xc then 1 else 0))).toArray) rfl rfl rfl (by simp [intCs, hfl] <;> omega) (setI _ i (if xc then 1 else 0))
   refine zAv (fun ρ e => r35 ρ _ _ _ _ _ _ (e _ _ rfl) (e _ _ rfl)) rfl <| zAd <| zAn <| zAb K18 <| zAa <| wm rfl rfl rfl <| zAe (v := .int .i64 ((i : Int) - 1)) (fun ρ e => zAi (k := .i64) (u := (i : Int)) (v := 1) (e _ _ rfl) (e _ _ rfl) (congrArg some (zAo (by omega) (by omega)))) rfl rfl <| wa rfl rfl rfl ?_
   refine zAd ?_
   have hst := foldG_leaf (m := m) G (him.symm ▸ hx) (by dsimp only; omega)
   rw [him] at hst
   have O38 : Own Z w0 w34 [.blk cb 33 #[.int .i64 N, .slice R1 (((foldG ts G (m + 1)).1).length) c1], .row (.slice R1 (((foldG ts G (m + 1)).1).length) c1) 65 3 (((foldG ts G (m + 1)).1).length) (gcells ((foldG ts G (m + 1)).1) vs1), .ro D1 (Ins D1 ((foldG ts G (m + 1)).1) vs1), .blk ab 66 #[.func (.func 20) #[] #[VP cb]], .blk hb 67 #[.func (.func 21) #[] #[VP ab]], .ro DT (fun w => TreeD DT w (.slice (some ⟨b, o, none⟩) ts.length ct) ts), .blk g3 3 ((intCs (foldG ts G (m + 1)).2).toArray)] := by rw [hst]; exact (O36.re [2, 3, 4, 5, 6, 7, 0] rfl)
   refine zAt K14 (m + 1, ((i : Int) - 1), R1, c1, D1, vs1) (by show ts.length - (m + 1) < ts.length - m; omega) ⟨(by show (i : Int) - 1 = (ts.length : Int) - 1 - ((m + 1 : Nat) : Int); omega), (by show m + 1 ≤ ts.length; omega), O38⟩ ⟨rfl, rfl, rfl, rfl, rfl, trivial⟩
  ·obtain ⟨⟨xv, xno, xyes, xc⟩, hx⟩ : ∃ x, ts[i]? = some x := ⟨ts[i], List.getElem?_eq_getElem hi⟩
   have hxe := (List.getElem?_eq_some_iff.1 hx).2
   rw [hxe] at h1 h2 h3 h4 h5
   dsimp only at h1 h2 h3 h4 h5
   subst h4 h5
   refine zAc fun _ K39 => zAc fun _ K40 => zAa <| wm rfl rfl rfl <| wc rfl rfl (geq1 (by omega)) rfl rfl <| zAd <| zAb K40 <| zAl rfl ?_
   refine zAj <| zAb K39 <| zAc fun _ K41 => zAh <| zAc fun _ K42 => zAa <| wm rfl rfl rfl <| wm rfl rfl rfl ?_
   refine wi (q := o + i * 4) (i := i) el28 rfl rfl (by omega) (by omega) rfl rfl <| zAe (v := .agg #[.int .i64 xv, .int .i64 (a : Int), .int .i64 (b2 : Int), .bool xc]) (fun ρ e => zAk (vs := [.int .i64 xv, .int .i64 (a : Int), .int .i64 (b2 : Int), .bool xc]) ty60 (e _ _ rfl) rfl (cells4 (TreeD.c0 ((O15.ro 5 rfl : (fun w => TreeD DT w (.slice (some ⟨b, o, none⟩) ts.length ct) ts) _) : TreeD _ _ _ _) hx) (TreeD.c1 ((O15.ro 5 rfl : (fun w => TreeD DT w (.slice (some ⟨b, o, none⟩) ts.length ct) ts) _) : TreeD _ _ _ _) hx) (TreeD.c2 ((O15.ro 5 rfl : (fun w => TreeD DT w (.slice (some ⟨b, o, none⟩) ts.length ct) ts) _) : TreeD _ _ _ _) hx) (TreeD.c3 ((O15.ro 5 rfl : (fun w => TreeD DT w (.slice (some ⟨b, o, none⟩) ts.length ct) ts) _) : TreeD _ _ _ _) hx))) rfl rfl ?_
   obtain ⟨g43, w44, r45, O46, hg47, hs48⟩ := zAw O15 60 ze60 rfl
   refine zAe (v := VP g43) (fun ρ e => r45 ρ _ _ _ _ _) rfl rfl ?_
   obtain ⟨w49, r50, O51, hs52⟩ := zAp (o := 0) (n := 4) O46 ty60 (.agg #[.int .i64 xv, .int .i64 (a : Int), .int .i64 (b2 : Int), .bool xc]) _ (cs' := #[.int .i64 xv, .int .i64 (a : Int), .int .i64 (b2 : Int), .bool xc]) rfl rfl rfl (Nat.le_of_ble_eq_true rfl) rfl
   refine zAv (fun ρ e => r50 ρ _ _ _ _ _ _ (e _ _ rfl) (e _ _ rfl)) rfl <| nx K42 fun _ K53 => wf (q := 0) zCd rfl rfl rfl rfl <| wd ty3 rfl (O51.cell 0 0 rfl rfl) rfl rfl <| wc rfl rfl (eql0 (by omega)) rfl rfl <| zAd <| zAb K53 <| zAf rfl ?_
   refine zA1 (fun X => Own Z w0 X [.blk g43 60 #[.int .i64 xv, .int .i64 (a : Int), .int .i64 (b2 : Int), .bool xc], .blk g3 3 ((intCs (foldG ts G m).2).toArray)]) 17 [(0, 1), (1, 1), (2, 1), (3, 1), (4, 0), (5, 1), (6, 1), (7, 0), (8, 1), (9, 0), (10, 1), (11, 1), (12, 0), (13, 1), (14, 0), (15, 2), (16, 1), (17, 3)] (by kernel_rfl) (by kernel_rfl) (PQ.block (PQ.then_ (PQ.then_ (PQ.block (PQ.then_ PQ.body))))) ((O51.re [0, 7] rfl)).drew ?_
   have O54 := O51.drew
   refine tm rfl rfl rfl rfl <| tm rfl rfl rfl rfl <| tm rfl rfl rfl rfl <| wt1 (v := VP g43) rfl (fun ρ e W => zBd (q := 0) zCd (e _ _ rfl) rfl) rfl rfl <| wt0 (v := .int .i64 xv) rfl (fun ρ e W hW => zAm ty3 (e _ _ rfl) (hW.cell 0 0 rfl rfl)) rfl rfl <| tm rfl rfl rfl rfl <| wt1 (v := .pointer (some ⟨g43, 1, none⟩)) rfl (fun ρ e W => zBd (q := 1) zGl (e _ _ rfl) rfl) rfl rfl <| wt0 (v := .int .i64 (a : Int)) rfl (fun ρ e W hW => zAm ty3 (e _ _ rfl) (hW.cell 0 1 rfl rfl)) rfl rfl ?_
   refine wt1 (v := .pointer (some ⟨g3, a, none⟩)) rfl (fun ρ e W => zA9 (q := a) (i := a) el57 (e _ _ rfl) (e _ _ rfl) (by omega) (by omega)) rfl rfl <| wt0 (v := .int .i64 ((foldG ts G m).2.getD a 0)) rfl (fun ρ e W hW => zAm ty3 (e _ _ rfl) (((hW.blk 1 rfl).cell _).trans (getI (zBh (by omega))))) rfl rfl <| tm rfl rfl rfl rfl <| wt1 (v := .pointer (some ⟨g43, 2, none⟩)) rfl (fun ρ e W => zBd (q := 2) zGk (e _ _ rfl) rfl) rfl rfl <| wt0 (v := .int .i64 (b2 : Int)) rfl (fun ρ e W hW => zAm ty3 (e _ _ rfl) (hW.cell 0 2 rfl rfl)) rfl rfl <| wt1 (v := .pointer (some ⟨g3, b2, none⟩)) rfl (fun ρ e W => zA9 (q := b2) (i := b2) el57 (e _ _ rfl) (e _ _ rfl) (by omega) (by omega)) rfl rfl ?_
   refine wt0 (v := .int .i64 ((foldG ts G m).2.getD b2 0)) rfl (fun ρ e W hW => zAm ty3 (e _ _ rfl) (((hW.blk 1 rfl).cell _).trans (getI (zBh (by omega))))) rfl rfl ?_
   refine zBn (args := [.int .i64 xv, .int .i64 ((foldG ts G m).2.getD a 0), .int .i64 ((foldG ts G m).2.getD b2 0)]) (all := [.int .i64 xv, .int .i64 ((foldG ts G m).2.getD a 0), .int .i64 ((foldG ts G m).2.getD b2 0), VP hb, VP ab]) rfl in_24 rfl rfl rfl rfl rfl ?_
   obtain ⟨O61h, O61f⟩ := Own.split (A := [.blk cb 33 #[.int .i64 N, .slice R1 (((foldG ts G m).1).length) c1], .row (.slice R1 (((foldG ts G m).1).length) c1) 65 3 (((foldG ts G m).1).length) (gcells ((foldG ts G m).1) vs1), .ro D1 (Ins D1 ((foldG ts G m).1) vs1), .blk ab 66 #[.func (.func 20) #[] #[VP cb]], .blk hb 67 #[.func (.func 21) #[] #[VP ab]]]) (R := [.blk g43 60 #[.int .i64 xv, .int .i64 (a : Int), .int .i64 (b2 : Int), .bool xc], .ro DT (fun w => TreeD DT w (.slice (some ⟨b, o, none⟩) ts.length ct) ts), .blk g3 3 ((intCs (foldG ts G m).2).toArray)]) (O54.re [1, 2, 3, 4, 5, 0, 6, 7] rfl)
   refine (gask_ (v := xv) (no := ((foldG ts G m).2.getD a 0)) (yes := ((foldG ts G m).2.getD b2 0)) O61h hfg).mono ?_
   rintro _ w59 ⟨R55, c56, D57, vs58, rfl, h60⟩
   have O61 := O61f h60
   refine ⟨_, rfl, (O61.re [5, 7] rfl), ?_⟩
   refine wt1 (v := .pointer (some ⟨g3, i, none⟩)) rfl (fun ρ e W => zA9 (q := i) (i := i) el57 (e _ _ rfl) (e _ _ rfl) (by omega) (by omega)) rfl rfl ?_
   obtain ⟨w62, r63, O64, hs65⟩ := zAp (o := i) (n := 1) (O61.re [7, 0, 1, 2, 3, 4, 5, 6] rfl) ty3 (.int .i64 ((askG ((foldG ts G m).1) xv ((foldG ts G m).2.getD a 0) ((foldG ts G m).2.getD b2 0)).2)) _ (cs' := (intCs (((foldG ts G m).2).set i ((askG ((foldG ts G m).1) xv ((foldG ts G m).2.getD a 0) ((foldG ts G m).2.getD b2 0)).2))).toArray) rfl rfl rfl (by simp [intCs, hfl] <;> omega) (setI _ i ((askG ((foldG ts G m).1) xv ((foldG ts G m).2.getD a 0) ((foldG ts G m).2.getD b2 0)).2))
   refine zBf rfl (fun ρ e => r63 ρ _ _ _ _ _ _ (e _ _ rfl) (e _ _ rfl)) rfl <| zBc <| zAn <| zAb K41 <| zAa <| wm rfl rfl rfl <| zAe (v := .int .i64 ((i : Int) - 1)) (fun ρ e => zAi (k := .i64) (u := (i : Int)) (v := 1) (e _ _ rfl) (e _ _ rfl) (congrArg some (zAo (by omega) (by omega)))) rfl rfl <| wa rfl rfl rfl ?_
   refine zAd ?_
   have hst := foldG_ask (m := m) G (him.symm ▸ hx) (by dsimp only; omega)
   rw [him] at hst
   simp only [Int.toNat_natCast] at hst
   have O66 : Own Z w0 w62 [.blk cb 33 #[.int .i64 N, .slice R55 (((foldG ts G (m + 1)).1).length) c56], .row (.slice R55 (((foldG ts G (m + 1)).1).length) c56) 65 3 (((foldG ts G (m + 1)).1).length) (gcells ((foldG ts G (m + 1)).1) vs58), .ro D57 (Ins D57 ((foldG ts G (m + 1)).1) vs58), .blk ab 66 #[.func (.func 20) #[] #[VP cb]], .blk hb 67 #[.func (.func 21) #[] #[VP ab]], .ro DT (fun w => TreeD DT w (.slice (some ⟨b, o, none⟩) ts.length ct) ts), .blk g3 3 ((intCs (foldG ts G (m + 1)).2).toArray)] := by rw [hst]; exact (O64.re [1, 2, 3, 4, 5, 7, 0] rfl)
   refine zAt K14 (m + 1, ((i : Int) - 1), R55, c56, D57, vs58) (by show ts.length - (m + 1) < ts.length - m; omega) ⟨(by show (i : Int) - 1 = (ts.length : Int) - 1 - ((m + 1 : Nat) : Int); omega), (by show m + 1 ≤ ts.length; omega), O66⟩ ⟨rfl, rfl, rfl, rfl, rfl, trivial⟩
 ·have hzz : z = -1 := by omega
  subst hzz
  have hmm : m = ts.length := by omega
  subst hmm
  refine zAc fun _ K67 => zAc fun _ K68 => zAa <| wm rfl rfl rfl <| wc rfl rfl (geq0 (by omega)) rfl rfl <| zAd <| zAb K68 <| zAf rfl ?_
  refine zA6 ?_
  refine zAg (by intro h; cases h) ?_
  refine zAg (by intro h; cases h) ?_
  refine zA4 <| zAb K9 <| zAc fun _ K69 => zAa <| wm rfl rfl rfl <| wi (q := 0) (i := 0) el57 rfl rfl (by omega) (by omega) rfl rfl <| wd (v := .int .i64 ((foldG ts G ts.length).2.getD 0 0)) ty3 rfl (((O15.blk 6 rfl).cell _).trans (getI (zBh (by omega)))) rfl rfl <| wa rfl rfl rfl ?_
  refine zAd <| zAb K69 <| zAz ?_
  refine zAy (v := .int .i64 ((foldG ts G ts.length).2.getD 0 0)) (fun T hT => res1 rfl T _ (hT 6 _ rfl)) ?_
  exact ⟨R1, c1, D1, vs1, rfl, (O15.re [0, 1, 2, 3, 4, 5] rfl)⟩

end Go.Proofs.YtliiclmhpphpmaaGreatDoor
namespace Go.Proofs.YtliiclmhpphpmaaGreatDoor
open Go Go.RowKit
section
variable {Z : Bool → Nat → Prop} {w0 W : World} {L : List En}
theorem Own.putrowN {g T sz n c k : Nat} {xs : List Value} (h : Own Z w0 W (.row (.slice (some ⟨g, 0, none⟩) n c) T sz n xs :: L)) (hk : k < n * sz) (u : Value) :
  (∃ u0, W.cell? ⟨g, k, none⟩ = some u0) ∧ W.frozen? ⟨g, k, none⟩ = false ∧ Own Z w0 (W.setCell ⟨g, k, none⟩ u) (.row (VS0 g n c) T sz n (xs.set k u) :: L) := by
 have hr := h.row 0 rfl
 obtain ⟨hlen, hr⟩ := hr
 rcases hr with ⟨h1, _⟩ | ⟨g', cap, cur, h1, _, hg, h2, h3, h4, h5⟩
 ·cases h1
 ·injection h1 with h1 _ hcap
  injection h1 with h1
  injection h1 with h1
  subst h1 hcap
  have hb : Blk W g T cur := hg
  have hsz : k < cur.size := by
   have := Nat.mul_le_mul_right sz h2
   omega
  refine ⟨⟨cur[k], by rw [hb.cell k, Array.getElem?_eq_getElem hsz]⟩, hb.free k, ?_⟩
  refine h.one (e' := .row (VS0 g n c) T sz n (xs.set k u)) (Frame.put W g k u) trivial (fun k q1 q => by show some g = some k; rw [show k = g from q]) ?_ (fun k q => .inl q)
  refine ⟨by simpa using hlen, .inr ⟨g, c, cur.setIfInBounds k u, rfl, Nat.zero_le _, hb.put k u, h2, h3, by simpa using h4, ?_⟩⟩
  rw [Array.toList_setIfInBounds, List.take_set, h5]
theorem own_putrowN {A : Option Addr} {g T T0 sz n c k : Nat} {xs : List Value} (h : Own Z w0 W (.row (.slice A n c) T sz n xs :: L)) (hA : A = some ⟨g, 0, none⟩) (hT : TyB T0 1 false) (hk : k < n * sz) (u : Value) (hu : u.oneCell' = true) (hc : u.cells.toList = [u]) :
  ∃ w', (∀ (ρ : Operand → Value) x y t pos aft gd, ρ x = .pointer (some ⟨g, k, none⟩) → ρ y = u → (execOp ρ ⟨none, .store T0 x y, t, pos, aft, gd⟩).run Tryz.prog W = .ok .skip w') ∧ Own Z w0 w' (.row (.slice A n c) T sz n (xs.set k u) :: L) := by
 subst hA
 obtain ⟨⟨u0, h1⟩, h2, h3⟩ := h.putrowN hk u
 refine ⟨_, fun ρ x y t pos aft gd hx hy => ?_, h3⟩
 have hs : u.cells.size = 1 := by have := congrArg List.length hc; simpa using this
 simp [execOp, Instr.storeAt, Instr.sureAddr, hx, hy, storeVar, zCc hT.size, hs, hc, storeCells, zCj, run_store _ _ _ _ _ hu, h1, h2]
end
theorem ex_quo2 {ρ : Operand → Value} {d : Option Tmp} {x y : Operand} {t : TypeId} {pos : String} {aft : Array Edge} {gd : Option (Nat × Bool)} {w : World} {a : Nat} {T1 : TypeId} (hx : ρ x = .int .i64 ((a : Nat) : Int)) (hy : ρ y = .int .i64 2) (ha : a ≤ 1000000000) : (execOp ρ ⟨d, .binOp .quo 3 x y T1, t, pos, aft, gd⟩).run Tryz.prog w = .ok (.value (.int .i64 ((a / 2 : Nat) : Int))) w := by
 have h : IntKind.i64.wrap ((a : Int) / 2) = (a : Int) / 2 := by
  rw [IntKind.wrap_i64]
  omega
 simp [go_sem, hx, hy, h]
theorem intCs_set (l : List Int) (k : Nat) (x : Int) : (intCs l).set k (.int .i64 x) = intCs (l.set k x) := by simp [intCs, List.map_set]
theorem zHd {l : List Int} {k : Nat} {x : Int} (h : l[k]? = some x) : (intCs l)[k]? = some (.int .i64 x) := by simp [intCs, h]
theorem intCs_snoc (l : List Int) (x : Int) : intCs l ++ [.int .i64 x] = intCs (l ++ [x]) := by simp [intCs]
theorem Own.blkrowG {Z : Bool → Nat → Prop} {w0 W : World} {L : List En} {g T n : Nat} {cs : Array Value} {xs : List Value} (h : Own Z w0 W (.blk g T cs :: L)) (hc : cs = xs.toArray) (hn : xs.length = n * 3) (hm : n ≤ 1000000) : Own Z w0 W (.row (.slice (some ⟨g, 0, none⟩) n n) T 3 n xs :: L) := by
 subst hc
 refine h.as (e' := .row (VS0 g n n) T 3 n xs) ⟨hn, .inr ⟨g, n, xs.toArray, rfl, Nat.zero_le _, h.blk 0 rfl, Nat.le_refl _, by unfold maxLen; omega, by simp [hn], List.take_of_length_le (by simp [hn])⟩⟩ (fun k hk => ?_) (fun _ => trivial)
 have : some g = some k := hk
 injection this with this
 exact this.symm
theorem ins_two {w : World} : (insE (fun _ => False) [⟨0, 0, []⟩, ⟨1, 0, []⟩] [Value.slice none 0 0, Value.slice none 0 0]).holds w :=
 ⟨Ins.cons (IntsD.nil _ _) (Ins.cons (IntsD.nil _ _) (Ins.nil _ _)), fun _ hk => hk.elim, fun _ _ _ hk h => h.move hk⟩
theorem res2ct {P : Program} {fn : Func} {a g b : Nat} {u v : Value} {T0 : TypeId} (h : fn.results = #[.cell a T0, .tmp b]) (T : Array Value) (w : World) (h1 : T[a]? = some (.pointer (some ⟨g, 0, none⟩))) (hv : (loadVar T0 ⟨g, 0, none⟩).run P w = .ok v w) (h2 : T[b]? = some u) : (results fn T).run P w = .ok (.tuple #[v, u]) w := by
 simp [results, h, Array.getD_eq_getD_getElem?, h1, hv, asAddr, h2]
def ZD (D : Nat → Prop) : Bool → Nat → Prop := fun b k => b = false ∧ D k
section
variable {D : Nat → Prop} {w0 W W' : World} {L A : List En}
theorem Own.z0 (h : Own (ZD D) w0 W L) : Own Z0 w0 W L :=
 ⟨⟨h.fr.os, h.fr.tape, h.fr.output, h.fr.size, fun k hk _ => h.fr.block k hk (fun q => Bool.noConfusion q.1)⟩, h.has, h.dist, fun e he k hk => (h.free e he k hk).imp (fun q => ⟨q.1.1, fun ho => by have := (q.2 ho).1; cases this⟩) id⟩
theorem Own.oldroZ {p : World → Prop} (h : Own (ZD D) w0 W L) (he : (En.ro D p).holds w0) : Own (ZD D) w0 W (.ro D p :: L) := by
 have h0 := h.z0.oldro he
 refine ⟨h.fr, h0.has, h0.dist, fun e q k hk => ?_⟩
 rcases List.mem_cons.1 q with rfl | q
 ·exact .inl ⟨⟨rfl, hk⟩, fun ho => ho.elim⟩
 ·exact h.free e q k hk
theorem own_joinZ {q : World → Prop} (h : Own Z0 w0 W L) (hm : En.ro D q ∈ L) (h' : Own (ZD D) W W' A) : Own Z0 w0 W' (A ++ L) := by
 have hb := h'.z0.old
 have hL := h.below hb
 have hsz := h.fr.size
 refine ⟨hL.fr, fun e he => ?_, List.pairwise_append.2 ⟨h'.dist, hL.dist, fun a ha b hb2 ho k h1 h2 => ?_⟩, fun e he k hk => ?_⟩
 ·rcases List.mem_append.1 he with he | he
  ·exact h'.has e he
  ·exact hL.has e he
 ·rcases h'.free a ha k h1 with h3 | h3
  ·have hbo : b.own := ho.elim (fun ho => by have := (h3.2 ho).1; cases this) id
   obtain ⟨i, hi⟩ := List.mem_iff_getElem?.1 hm
   obtain ⟨j, hj⟩ := List.mem_iff_getElem?.1 hb2
   have hne : i ≠ j := fun e => by subst e; rw [hi] at hj; injection hj with hj; rw [← hj] at hbo; exact hbo
   exact pw_get h.dist hi hj hne (.inr hbo) k h3.1.2 h2
  ·have := En.lt (h.has b hb2) h2
   omega
 ·rcases List.mem_append.1 he with he | he
  ·rcases h'.free e he k hk with h3 | h3
   ·exact .inl ⟨rfl, fun ho => by have := (h3.2 ho).1; cases this⟩
   ·exact .inr (by omega)
  ·exact hL.free e he k hk
theorem Own.roonly {p : World → Prop} (h : Own Z0 w0 W L) (hno : ∀ e ∈ L, ¬ e.own) (he : (En.ro D p).holds W) : Own Z0 w0 W (.ro D p :: L) :=
 ⟨h.fr, fun e q => (List.mem_cons.1 q).elim (fun q => q ▸ he) (h.has e), List.Pairwise.cons (fun b hb ho => ho.elim (fun q => q.elim) (fun q => absurd q (hno b hb))) h.dist, fun e q k hk => (List.mem_cons.1 q).elim (fun q => .inl ⟨rfl, fun ho => by rw [q] at ho; exact ho.elim⟩) (fun q => h.free e q k hk)⟩
end
theorem gforest_ {W : World} {D : Nat → Prop} {V : Value} {fs : List (List TN)} (hF : ForestD D W V fs) (hD : ∀ k, D k → k < W.heap.size) {n : Int} (hn0 : 0 ≤ n) (hn1 : n ≤ 128) (hall : ∀ ts ∈ fs, chkT ts n = 0 ∧ ts.length ≤ 30) (hlen : fs.length ≤ 5) :
  Calls Tryz.prog 6 #[V, .int .i64 n] W fun e w' => ∃ R c D' vs, e = .returned (.tuple #[.agg #[.int .i64 n, .slice R (forestG fs).length c], .int .i64 0]) ∧ Own (ZD D) W w' [.row (.slice R (forestG fs).length c) 65 3 (forestG fs).length (gcells (forestG fs) vs), .ro D' (Ins D' (forestG fs) vs)] := by
 obtain ⟨A, ct, rfl⟩ := hF.slice
 rcases Nat.eq_zero_or_pos fs.length with h0 | h0
 ·skip
  have O0 : Own (ZD D) W W [] := Own.start W
  have hfg : forestG fs = (addG (forG fs fs.length).1 ⟨4, 0, [0]⟩).1 := by unfold forestG; rw [h0]; rfl
  refine zAu (args := [.slice A fs.length ct, .int .i64 n]) Tryz.func6 rfl rfl (by simp) ?_
  refine zAc fun _ K1 => zAa ?_
  obtain ⟨g2, w3, r4, O5, hg6, hs7⟩ := zAw O0 33 ze33 rfl
  refine zAe (v := VP g2) (fun ρ e => r4 ρ _ _ _ _ _) rfl rfl <| wa rfl rfl rfl <| zAd <| zAb K1 <| zAc fun _ K8 => zAc fun _ K9 => zAa <| wm rfl rfl rfl ?_
  refine wz el22 rfl rfl rfl <| wm rfl rfl rfl <| zAd <| zAb K9 <| zAh ?_
  have O10 := O5
  refine zA8 (ι := Nat) (fun q => [(0, .slice A fs.length ct), (1, .int .i64 n), (4, VP g2), (19, .slice A fs.length ct), (20, .int .i64 ((fs.length : Nat) : Int)), (21, .int .i64 (q : Int))]) (fun q X => (q ≤ fs.length) ∧ Own (ZD D) W X [.blk g2 33 #[.int .i64 0, .slice none 0 0]]) (fun q => fs.length - q) 0 ⟨Nat.zero_le _, O10⟩ ⟨rfl, rfl, rfl, rfl, rfl, rfl, trivial⟩ (fun q w11 hJ F12 K13 => ?_)
  obtain ⟨i, rfl⟩ : ∃ x, x = q := ⟨_, rfl⟩
  obtain ⟨hi0, O14⟩ := hJ
  try dsimp only at hi0 O14 ⊢
  by_cases hi : i < fs.length
  ·skip
   exact absurd hi (by omega)
  ·skip
   refine zAc fun _ K15 => zAa <| wc rfl rfl (lss0 (by omega)) rfl rfl <| zAd <| zAb K15 <| zAc fun _ K16 => zAf rfl <| zA6 ?_
   refine zAg (by intro h; cases h) ?_
   refine zAg (by intro h; cases h) ?_
   refine zA4 <| zAb K8 <| zAc fun _ K17 => zAc fun _ K18 => zAa <| wm rfl rfl rfl <| wc rfl rfl (lss0 (by omega)) rfl rfl <| wm rfl rfl rfl ?_
   refine wm rfl rfl rfl <| wc rfl rfl (gtr0 (by omega)) rfl rfl <| zAe (v := .bool false) (fun ρ e => zA2 (e _ _ rfl) (e _ _ rfl)) rfl rfl <| zAd <| zAb K18 <| zAf rfl <| zAj <| zAb K17 ?_
   refine zAc fun _ K19 => zAa <| wm rfl rfl rfl <| zAe (v := .agg #[.int .i64 0, .int .i64 0, .slice none 0 0]) (fun ρ e => zBe (cells := #[.int .i64 0, .int .i64 0, .slice none 0 0]) st65 (e.parts rfl) rfl) rfl rfl <| zAe (v := .agg #[.int .i64 1, .int .i64 0, .slice none 0 0]) (fun ρ e => zBe (cells := #[.int .i64 1, .int .i64 0, .slice none 0 0]) st65 (e.parts rfl) rfl) rfl rfl ?_
   obtain ⟨g20, w21, r22, O23, hg24, hs25⟩ := zBg O14 el31 ze65 2 [(0, .agg #[.int .i64 0, .int .i64 0, .slice none 0 0]), (1, .agg #[.int .i64 1, .int .i64 0, .slice none 0 0])] (cs := #[.int .i64 0, .int .i64 0, .slice none 0 0, .int .i64 1, .int .i64 0, .slice none 0 0]) (by decide) (by kernel_rfl)
   refine zAe (v := VS0 g20 2 2) (fun ρ e => r22 ρ _ _ _ _ _ _ (e.parts rfl)) rfl rfl <| zAe (v := .agg #[.int .i64 n, VS0 g20 2 2]) (fun ρ e => zBe (cells := #[.int .i64 n, VS0 g20 2 2]) st33 (e.parts rfl) rfl) rfl rfl ?_
   obtain ⟨g26, w27, r28, O29, hg30, hs31⟩ := zAw O23 33 ze33 rfl
   refine zAe (v := VP g26) (fun ρ e => r28 ρ _ _ _ _ _) rfl rfl ?_
   obtain ⟨w32, r33, O34, hs35⟩ := zAp (o := 0) (n := 2) O29 ty33 (.agg #[.int .i64 n, VS0 g20 2 2]) _ (cs' := #[.int .i64 n, VS0 g20 2 2]) rfl rfl rfl (Nat.le_of_ble_eq_true rfl) rfl
   refine zAv (fun ρ e => r33 ρ _ _ _ _ _ _ (e _ _ rfl) (e _ _ rfl)) rfl <| zAd <| zAb K19 <| zAc fun _ K36 => ?_
   have O37 := Own.blkrowG (xs := gcells [⟨0, 0, []⟩, ⟨1, 0, []⟩] [Value.slice none 0 0, Value.slice none 0 0]) (n := 2) (O34.re [1, 0, 2] rfl) rfl rfl (by decide)
   have O38 := (O37.add (Below.refl _ _) (e := insE (fun _ => False) [⟨0, 0, []⟩, ⟨1, 0, []⟩] [Value.slice none 0 0, Value.slice none 0 0]) ins_two (fun _ hk => hk.elim))
   have O39 := (O38.re [2, 1, 0, 3] rfl)
   refine zAa <| zAe (v := .func (.func 20) #[] #[VP g26]) (fun ρ e => zB2 (us := []) (vs := [VP g26]) (e.list rfl) (e.list rfl)) rfl rfl ?_
   obtain ⟨g40, w41, r42, O43, hg44, hs45⟩ := zAw O39 66 ze66 rfl
   refine zAe (v := VP g40) (fun ρ e => r42 ρ _ _ _ _ _) rfl rfl ?_
   obtain ⟨w46, r47, O48, hs49⟩ := zAp (o := 0) (n := 1) O43 ty66 (.func (.func 20) #[] #[VP g26]) [.func (.func 20) #[] #[VP g26]] (cs' := #[.func (.func 20) #[] #[VP g26]]) rfl rfl rfl (Nat.le_of_ble_eq_true rfl) rfl
   refine zAv (fun ρ e => r47 ρ _ _ _ _ _ _ (e _ _ rfl) (e _ _ rfl)) rfl <| nx K36 fun _ K50 => zAe (v := .func (.func 21) #[] #[VP g40]) (fun ρ e => zB2 (us := []) (vs := [VP g40]) (e.list rfl) (e.list rfl)) rfl rfl ?_
   obtain ⟨g51, w52, r53, O54, hg55, hs56⟩ := zAw O48 67 ze67 rfl
   refine zAe (v := VP g51) (fun ρ e => r53 ρ _ _ _ _ _) rfl rfl ?_
   obtain ⟨w57, r58, O59, hs60⟩ := zAp (o := 0) (n := 1) O54 ty67 (.func (.func 21) #[] #[VP g40]) [.func (.func 21) #[] #[VP g40]] (cs' := #[.func (.func 21) #[] #[VP g40]]) rfl rfl rfl (Nat.le_of_ble_eq_true rfl) rfl
   refine zAv (fun ρ e => r58 ρ _ _ _ _ _ _ (e _ _ rfl) (e _ _ rfl)) rfl <| nx K50 fun _ K61 => ?_
   obtain ⟨g62, w63, r64, O65, hg66, hs67⟩ := zBg O59 el57 ze3 1 [(0, .int .i64 1)] (cs := #[.int .i64 1]) (by decide) (by kernel_rfl)
   refine zAe (v := VS0 g62 1 1) (fun ρ e => r64 ρ _ _ _ _ _ _ (e.parts rfl)) rfl rfl <| wa rfl rfl rfl <| zAd <| zAb K61 <| zAc fun _ K68 => zAc fun _ K69 => ?_
   have O70 := Own.blkrow (xs := intCs [1]) (n := 1) O65 rfl rfl (by decide)
   refine zAa <| wm rfl rfl rfl <| wz el22 rfl rfl rfl <| wm rfl rfl rfl <| zAd <| zAb K69 <| zAh ?_
   have O71 := (O70.re [3, 4, 5, 2, 1, 0, 6] rfl)
   refine zA8 (ι := Nat × Option Addr × Nat × (Nat → Prop) × List Value × Option Addr × Nat × Nat) (fun q => [(0, .slice A fs.length ct), (1, .int .i64 n), (4, VP g2), (9, VP g26), (10, VP g40), (11, VP g51), (48, .slice A fs.length ct), (49, .int .i64 ((fs.length : Nat) : Int)), (12, .slice q.2.2.2.2.2.1 q.2.2.2.2.2.2.1 q.2.2.2.2.2.2.2), (50, .int .i64 (q.1 : Int))]) (fun q X => (q.1 ≤ fs.length) ∧ (q.2.2.2.2.2.2.1 = q.1 + 1) ∧ Own (ZD D) W X [.blk g26 33 #[.int .i64 n, .slice q.2.1 ((forG fs q.1).1.length) q.2.2.1], .row (.slice q.2.1 (((forG fs q.1).1).length) q.2.2.1) 65 3 (((forG fs q.1).1).length) (gcells ((forG fs q.1).1) q.2.2.2.2.1), .ro q.2.2.2.1 (Ins q.2.2.2.1 ((forG fs q.1).1) q.2.2.2.2.1), .blk g40 66 #[.func (.func 20) #[] #[VP g26]], .blk g51 67 #[.func (.func 21) #[] #[VP g40]], .row (.slice q.2.2.2.2.2.1 q.2.2.2.2.2.2.1 q.2.2.2.2.2.2.2) 3 1 q.2.2.2.2.2.2.1 (intCs (forG fs q.1).2), .blk g2 33 #[.int .i64 0, .slice none 0 0]]) (fun q => fs.length - q.1) (0, (some ⟨g20, 0, none⟩), 2, (fun _ => False), [Value.slice none 0 0, Value.slice none 0 0], (some ⟨g62, 0, none⟩), 1, 1) ⟨Nat.zero_le _, rfl, O71⟩ ⟨rfl, rfl, rfl, rfl, rfl, rfl, rfl, rfl, rfl, rfl, trivial⟩ (fun q w72 hJ F73 K74 => ?_)
   obtain ⟨j, R1, c1, D1, vs1, LR, ln, lc⟩ := q
   obtain ⟨hj0, hln, O75⟩ := hJ
   dsimp only at hj0 hln O75 ⊢
   subst hln
   obtain ⟨hfl1, hfl2⟩ := zIf fs j hj0
   by_cases hj : j < fs.length
   ·skip
    exact absurd hj (by omega)
   ·have hje : j = fs.length := by omega
    subst hje
    obtain ⟨g76, hg76⟩ := rowaddr (O75.row 5 rfl) (by omega)
    subst hg76
    refine zAc fun _ K77 => zAa <| wc rfl rfl (lss0 (by omega)) rfl rfl <| zAd <| zAb K77 <| zAc fun _ K78 => zAf rfl <| zA6 ?_
    refine zAg (by intro h; cases h) ?_
    refine zAg (by intro h; cases h) ?_
    refine zA4 <| zAb K68 <| zAc fun _ K79 => zAa <| wa rfl rfl rfl <| zAd <| zAb K79 <| zAc fun _ K80 => ?_
    refine zAc fun _ K81 => zAa <| wm rfl rfl rfl <| wz el22 rfl rfl rfl <| zAe (v := .int .i64 ((fs.length / 2 : Nat) : Int)) (fun ρ e => ex_quo2 (e _ _ rfl) (e _ _ rfl) (by omega)) rfl rfl <| zAe (v := .int .i64 ((fs.length / 2 + 1 : Nat) : Int)) (fun ρ e => zAi (k := .i64) (u := ((fs.length / 2 : Nat) : Int)) (v := 1) (e _ _ rfl) (e _ _ rfl) (congrArg some ((congrArg _ (show _ = ((fs.length / 2 + 1 : Nat) : Int) by omega)).trans (zAo (by omega) (by omega))))) rfl rfl <| wa rfl rfl rfl <| nx K81 fun _ K82 => ?_
    refine wm rfl rfl rfl <| wm rfl rfl rfl <| wz el57 rfl rfl rfl <| wc rfl rfl (lss0 (by omega)) rfl rfl <| zAd <| zAb K82 <| zAf rfl <| zAj ?_
    refine zAb K80 <| zAc fun _ K83 => zAa <| wd ty66 rfl (O75.cell 3 0 rfl rfl) rfl rfl <| wm rfl rfl rfl ?_
    obtain ⟨g84, w85, r86, O87, hg88, hs89⟩ := zBg O75 el57 ze3 1 [(0, .int .i64 0)] (cs := #[.int .i64 0]) (by decide) (by kernel_rfl)
    refine zAe (v := VS0 g84 1 1) (fun ρ e => r86 ρ _ _ _ _ _ _ (e.parts rfl)) rfl rfl <| zAe (v := .agg #[.int .i64 4, .int .i64 0, VS0 g84 1 1]) (fun ρ e => zBe (cells := #[.int .i64 4, .int .i64 0, VS0 g84 1 1]) st65 (e.parts rfl) rfl) rfl rfl ?_
    refine zBz (args := [.agg #[.int .i64 4, .int .i64 0, VS0 g84 1 1]]) (all := [.agg #[.int .i64 4, .int .i64 0, VS0 g84 1 1], VP g26]) in_20 rfl rfl rfl rfl rfl ?_
    have O90 : Own (ZD D) W w85 [.ro (fun k => k = g84) (fun w => IntsD (fun k => k = g84) w (VS0 g84 1 1) [0]), .blk g26 33 #[.int .i64 n, .slice R1 ((forG fs fs.length).1.length) c1], .row (.slice R1 (((forG fs fs.length).1).length) c1) 65 3 (((forG fs fs.length).1).length) (gcells ((forG fs fs.length).1) vs1), .ro D1 (Ins D1 ((forG fs fs.length).1) vs1), .blk g40 66 #[.func (.func 20) #[] #[VP g26]], .blk g51 67 #[.func (.func 21) #[] #[VP g40]], .row (VS0 g76 (fs.length + 1) lc) 3 1 (fs.length + 1) (intCs (forG fs fs.length).2), .blk g2 33 #[.int .i64 0, .slice none 0 0]] := Own.blkin (l := [0]) O87 rfl rfl (by decide)
    obtain ⟨O97h, O97f⟩ := Own.split (A := [.blk g26 33 #[.int .i64 n, .slice R1 ((forG fs fs.length).1.length) c1], .row (.slice R1 (((forG fs fs.length).1).length) c1) 65 3 (((forG fs fs.length).1).length) (gcells ((forG fs fs.length).1) vs1), .ro D1 (Ins D1 ((forG fs fs.length).1) vs1), .ro (fun k => k = g84) (fun w => IntsD (fun k => k = g84) w (VS0 g84 1 1) [0])]) (R := [.blk g40 66 #[.func (.func 20) #[] #[VP g26]], .blk g51 67 #[.func (.func 21) #[] #[VP g40]], .row (VS0 g76 (fs.length + 1) lc) 3 1 (fs.length + 1) (intCs (forG fs fs.length).2), .blk g2 33 #[.int .i64 0, .slice none 0 0]]) (O90.re [1, 2, 3, 0, 4, 5, 6, 7] rfl)
    refine (gadd_ (g := ⟨4, 0, [0]⟩) O97h hfl2).mono ?_
    rintro _ w95 ⟨R91, c92, D93, vs94, rfl, h96⟩
    have O97 := O97f h96
    refine ⟨_, rfl, ?_⟩
    refine zAd <| zAb K83 <| zAc fun _ K98 => zAc fun _ K99 => zAa <| wf (q := 1) zHh rfl rfl rfl rfl <| wd ty31 rfl (O97.cell 0 1 rfl rfl) rfl rfl <| wz el31 rfl rfl rfl ?_
    refine wc rfl rfl (gtr0 (by have := forest_small (fun ts h => (hall ts h).2) hlen; rw [hfg] at this; omega)) rfl rfl <| zAd <| zAb K99 <| zAf rfl <| zAj <| zAb K98 <| zAc fun _ K100 => zAa ?_
    refine zAe (v := .agg #[.int .i64 n, .slice R91 (((addG ((forG fs fs.length).1) ⟨4, 0, [0]⟩).1).length) c92]) (fun ρ e => zAk (vs := [.int .i64 n, .slice R91 (((addG ((forG fs fs.length).1) ⟨4, 0, [0]⟩).1).length) c92]) ty33 (e _ _ rfl) rfl (O97.cells 0 0 rfl rfl)) rfl rfl ?_
    obtain ⟨w101, r102, O103, hs104⟩ := zAp (o := 0) (n := 2) (O97.re [6, 0, 1, 2, 3, 4, 5] rfl) ty33 (.agg #[.int .i64 n, .slice R91 (((addG ((forG fs fs.length).1) ⟨4, 0, [0]⟩).1).length) c92]) [.int .i64 n, .slice R91 (((addG ((forG fs fs.length).1) ⟨4, 0, [0]⟩).1).length) c92] (cs' := #[.int .i64 n, .slice R91 (((addG ((forG fs fs.length).1) ⟨4, 0, [0]⟩).1).length) c92]) rfl rfl rfl (Nat.le_of_ble_eq_true rfl) rfl
    refine zAv (fun ρ e => r102 ρ _ _ _ _ _ _ (e _ _ rfl) (e _ _ rfl)) rfl <| wa rfl rfl rfl <| zAd <| zAb K100 <| zAz ?_
    refine zAy (v := .tuple #[.agg #[.int .i64 n, .slice R91 (((addG ((forG fs fs.length).1) ⟨4, 0, [0]⟩).1).length) c92], .int .i64 0]) (fun T hT => res2ct rfl T _ (hT 4 _ rfl) (zBj (vs := [.int .i64 n, .slice R91 (((addG ((forG fs fs.length).1) ⟨4, 0, [0]⟩).1).length) c92]) ty33 rfl (O103.cells 0 0 rfl rfl)) (hT 5 _ rfl)) ?_
    rw [hfg]
    exact ⟨R91, c92, D93, vs94, rfl, (O103.re [2, 3] rfl)⟩
 ·obtain ⟨b, o, c', hv, hDb⟩ := hF.form h0
  injection hv with hA _ hc
  subst hA hc
  have O0 : Own (ZD D) W W [] := Own.start W
  refine zAu (args := [.slice (some ⟨b, o, none⟩) fs.length ct, .int .i64 n]) Tryz.func6 rfl rfl (by simp) ?_
  refine zAc fun _ K105 => zAa ?_
  obtain ⟨g106, w107, r108, O109, hg110, hs111⟩ := zAw O0 33 ze33 rfl
  refine zAe (v := VP g106) (fun ρ e => r108 ρ _ _ _ _ _) rfl rfl <| wa rfl rfl rfl <| zAd <| zAb K105 <| zAc fun _ K112 => zAc fun _ K113 => zAa <| wm rfl rfl rfl ?_
  refine wz el22 rfl rfl rfl <| wm rfl rfl rfl <| zAd <| zAb K113 <| zAh ?_
  have O114 := O109
  refine zA8 (ι := Nat) (fun q => [(0, .slice (some ⟨b, o, none⟩) fs.length ct), (1, .int .i64 n), (4, VP g106), (19, .slice (some ⟨b, o, none⟩) fs.length ct), (20, .int .i64 ((fs.length : Nat) : Int)), (21, .int .i64 (q : Int))]) (fun q X => (q ≤ fs.length) ∧ Own (ZD D) W X [.blk g106 33 #[.int .i64 0, .slice none 0 0]]) (fun q => fs.length - q) 0 ⟨Nat.zero_le _, O114⟩ ⟨rfl, rfl, rfl, rfl, rfl, rfl, trivial⟩ (fun q w115 hJ F116 K117 => ?_)
  obtain ⟨i, rfl⟩ : ∃ x, x = q := ⟨_, rfl⟩
  obtain ⟨hi0, O118⟩ := hJ
  try dsimp only at hi0 O118 ⊢
  by_cases hi : i < fs.length
  ·skip
   obtain ⟨ts, hx⟩ : ∃ x, fs[i]? = some x := ⟨fs[i], List.getElem?_eq_getElem hi⟩
   obtain ⟨u, hu, hT⟩ := hF.at_ hx
   have hck := (hall ts (List.mem_of_getElem? hx)).1
   refine zAc fun _ K119 => zAa <| wc rfl rfl (lss1 (by omega)) rfl rfl <| zAd <| zAb K119 <| zAc fun _ K120 => zAl rfl <| zAj ?_
   refine zAb K120 <| zAc fun _ K121 => zAh <| zAc fun _ K122 => zAa <| wi (q := o + i) (i := i) el22 rfl rfl (by omega) (by omega) rfl rfl <| wd (v := u) ty28 rfl (((O118.z0.old).cell (p := ⟨b, o + i, none⟩) (hD b hDb)).trans hu) rfl rfl <| wa rfl rfl rfl ?_
   refine nx K122 fun _ K123 => wm rfl rfl rfl <| wm rfl rfl rfl ?_
   refine zAs (args := [u, .int .i64 n]) in_5 rfl rfl rfl ?_
   refine (zFf (hT.move (fun k hk => (O118.z0.old).block k (hD k hk))) (fun k hk => Nat.lt_of_lt_of_le (hD k hk) (O118.z0.old).size) n hck).mono ?_
   rintro _ w124 ⟨rfl, hb125⟩
   have O126 := O118.below hb125
   refine ⟨_, rfl, ?_⟩
   refine wa rfl rfl rfl <| nx K123 fun _ K127 => wm rfl rfl rfl <| wc rfl rfl (neq0 rfl) rfl rfl <| zAd <| zAb K127 <| zAf rfl <| zAj ?_
   refine zAn <| zAb K121 <| zAa <| zAe (v := .int .i64 ((i + 1 : Nat) : Int)) (fun ρ e => zAi (k := .i64) (u := (i : Int)) (v := 1) (e _ _ rfl) (e _ _ rfl) (congrArg some ((congrArg _ (show _ = ((i + 1 : Nat) : Int) by omega)).trans (zAo (by omega) (by omega))))) rfl rfl <| wm rfl rfl rfl <| zAd ?_
   refine zAt K117 (i + 1) (by show fs.length - (i + 1) < fs.length - i; omega) ⟨(by show i + 1 ≤ fs.length; omega), O126⟩ ⟨rfl, rfl, rfl, rfl, rfl, rfl, trivial⟩
  ·skip
   refine zAc fun _ K128 => zAa <| wc rfl rfl (lss0 (by omega)) rfl rfl <| zAd <| zAb K128 <| zAc fun _ K129 => zAf rfl <| zA6 ?_
   refine zAg (by intro h; cases h) ?_
   refine zAg (by intro h; cases h) ?_
   refine zA4 <| zAb K112 <| zAc fun _ K130 => zAc fun _ K131 => zAa <| wm rfl rfl rfl <| wc rfl rfl (lss0 (by omega)) rfl rfl <| wm rfl rfl rfl ?_
   refine wm rfl rfl rfl <| wc rfl rfl (gtr0 (by omega)) rfl rfl <| zAe (v := .bool false) (fun ρ e => zA2 (e _ _ rfl) (e _ _ rfl)) rfl rfl <| zAd <| zAb K131 <| zAf rfl <| zAj <| zAb K130 ?_
   refine zAc fun _ K132 => zAa <| wm rfl rfl rfl <| zAe (v := .agg #[.int .i64 0, .int .i64 0, .slice none 0 0]) (fun ρ e => zBe (cells := #[.int .i64 0, .int .i64 0, .slice none 0 0]) st65 (e.parts rfl) rfl) rfl rfl <| zAe (v := .agg #[.int .i64 1, .int .i64 0, .slice none 0 0]) (fun ρ e => zBe (cells := #[.int .i64 1, .int .i64 0, .slice none 0 0]) st65 (e.parts rfl) rfl) rfl rfl ?_
   obtain ⟨g133, w134, r135, O136, hg137, hs138⟩ := zBg O118 el31 ze65 2 [(0, .agg #[.int .i64 0, .int .i64 0, .slice none 0 0]), (1, .agg #[.int .i64 1, .int .i64 0, .slice none 0 0])] (cs := #[.int .i64 0, .int .i64 0, .slice none 0 0, .int .i64 1, .int .i64 0, .slice none 0 0]) (by decide) (by kernel_rfl)
   refine zAe (v := VS0 g133 2 2) (fun ρ e => r135 ρ _ _ _ _ _ _ (e.parts rfl)) rfl rfl <| zAe (v := .agg #[.int .i64 n, VS0 g133 2 2]) (fun ρ e => zBe (cells := #[.int .i64 n, VS0 g133 2 2]) st33 (e.parts rfl) rfl) rfl rfl ?_
   obtain ⟨g139, w140, r141, O142, hg143, hs144⟩ := zAw O136 33 ze33 rfl
   refine zAe (v := VP g139) (fun ρ e => r141 ρ _ _ _ _ _) rfl rfl ?_
   obtain ⟨w145, r146, O147, hs148⟩ := zAp (o := 0) (n := 2) O142 ty33 (.agg #[.int .i64 n, VS0 g133 2 2]) _ (cs' := #[.int .i64 n, VS0 g133 2 2]) rfl rfl rfl (Nat.le_of_ble_eq_true rfl) rfl
   refine zAv (fun ρ e => r146 ρ _ _ _ _ _ _ (e _ _ rfl) (e _ _ rfl)) rfl <| zAd <| zAb K132 <| zAc fun _ K149 => ?_
   have O150 := Own.blkrowG (xs := gcells [⟨0, 0, []⟩, ⟨1, 0, []⟩] [Value.slice none 0 0, Value.slice none 0 0]) (n := 2) (O147.re [1, 0, 2] rfl) rfl rfl (by decide)
   have O151 := (O150.add (Below.refl _ _) (e := insE (fun _ => False) [⟨0, 0, []⟩, ⟨1, 0, []⟩] [Value.slice none 0 0, Value.slice none 0 0]) ins_two (fun _ hk => hk.elim))
   have O152 := (O151.re [2, 1, 0, 3] rfl)
   refine zAa <| zAe (v := .func (.func 20) #[] #[VP g139]) (fun ρ e => zB2 (us := []) (vs := [VP g139]) (e.list rfl) (e.list rfl)) rfl rfl ?_
   obtain ⟨g153, w154, r155, O156, hg157, hs158⟩ := zAw O152 66 ze66 rfl
   refine zAe (v := VP g153) (fun ρ e => r155 ρ _ _ _ _ _) rfl rfl ?_
   obtain ⟨w159, r160, O161, hs162⟩ := zAp (o := 0) (n := 1) O156 ty66 (.func (.func 20) #[] #[VP g139]) [.func (.func 20) #[] #[VP g139]] (cs' := #[.func (.func 20) #[] #[VP g139]]) rfl rfl rfl (Nat.le_of_ble_eq_true rfl) rfl
   refine zAv (fun ρ e => r160 ρ _ _ _ _ _ _ (e _ _ rfl) (e _ _ rfl)) rfl <| nx K149 fun _ K163 => zAe (v := .func (.func 21) #[] #[VP g153]) (fun ρ e => zB2 (us := []) (vs := [VP g153]) (e.list rfl) (e.list rfl)) rfl rfl ?_
   obtain ⟨g164, w165, r166, O167, hg168, hs169⟩ := zAw O161 67 ze67 rfl
   refine zAe (v := VP g164) (fun ρ e => r166 ρ _ _ _ _ _) rfl rfl ?_
   obtain ⟨w170, r171, O172, hs173⟩ := zAp (o := 0) (n := 1) O167 ty67 (.func (.func 21) #[] #[VP g153]) [.func (.func 21) #[] #[VP g153]] (cs' := #[.func (.func 21) #[] #[VP g153]]) rfl rfl rfl (Nat.le_of_ble_eq_true rfl) rfl
   refine zAv (fun ρ e => r171 ρ _ _ _ _ _ _ (e _ _ rfl) (e _ _ rfl)) rfl <| nx K163 fun _ K174 => ?_
   obtain ⟨g175, w176, r177, O178, hg179, hs180⟩ := zBg O172 el57 ze3 1 [(0, .int .i64 1)] (cs := #[.int .i64 1]) (by decide) (by kernel_rfl)
   refine zAe (v := VS0 g175 1 1) (fun ρ e => r177 ρ _ _ _ _ _ _ (e.parts rfl)) rfl rfl <| wa rfl rfl rfl <| zAd <| zAb K174 <| zAc fun _ K181 => zAc fun _ K182 => ?_
   have O183 := Own.blkrow (xs := intCs [1]) (n := 1) O178 rfl rfl (by decide)
   refine zAa <| wm rfl rfl rfl <| wz el22 rfl rfl rfl <| wm rfl rfl rfl <| zAd <| zAb K182 <| zAh ?_
   have O184 := (O183.re [3, 4, 5, 2, 1, 0, 6] rfl)
   refine zA8 (ι := Nat × Option Addr × Nat × (Nat → Prop) × List Value × Option Addr × Nat × Nat) (fun q => [(0, .slice (some ⟨b, o, none⟩) fs.length ct), (1, .int .i64 n), (4, VP g106), (9, VP g139), (10, VP g153), (11, VP g164), (48, .slice (some ⟨b, o, none⟩) fs.length ct), (49, .int .i64 ((fs.length : Nat) : Int)), (12, .slice q.2.2.2.2.2.1 q.2.2.2.2.2.2.1 q.2.2.2.2.2.2.2), (50, .int .i64 (q.1 : Int))]) (fun q X => (q.1 ≤ fs.length) ∧ (q.2.2.2.2.2.2.1 = q.1 + 1) ∧ Own (ZD D) W X [.blk g139 33 #[.int .i64 n, .slice q.2.1 ((forG fs q.1).1.length) q.2.2.1], .row (.slice q.2.1 (((forG fs q.1).1).length) q.2.2.1) 65 3 (((forG fs q.1).1).length) (gcells ((forG fs q.1).1) q.2.2.2.2.1), .ro q.2.2.2.1 (Ins q.2.2.2.1 ((forG fs q.1).1) q.2.2.2.2.1), .blk g153 66 #[.func (.func 20) #[] #[VP g139]], .blk g164 67 #[.func (.func 21) #[] #[VP g153]], .row (.slice q.2.2.2.2.2.1 q.2.2.2.2.2.2.1 q.2.2.2.2.2.2.2) 3 1 q.2.2.2.2.2.2.1 (intCs (forG fs q.1).2), .blk g106 33 #[.int .i64 0, .slice none 0 0]]) (fun q => fs.length - q.1) (0, (some ⟨g133, 0, none⟩), 2, (fun _ => False), [Value.slice none 0 0, Value.slice none 0 0], (some ⟨g175, 0, none⟩), 1, 1) ⟨Nat.zero_le _, rfl, O184⟩ ⟨rfl, rfl, rfl, rfl, rfl, rfl, rfl, rfl, rfl, rfl, trivial⟩ (fun q w185 hJ F186 K187 => ?_)
   obtain ⟨j, R1, c1, D1, vs1, LR, ln, lc⟩ := q
   obtain ⟨hj0, hln, O188⟩ := hJ
   dsimp only at hj0 hln O188 ⊢
   subst hln
   obtain ⟨hfl1, hfl2⟩ := zIf fs j hj0
   by_cases hj : j < fs.length
   ·skip
    obtain ⟨ts, hx⟩ : ∃ x, fs[j]? = some x := ⟨fs[j], List.getElem?_eq_getElem hj⟩
    obtain ⟨u, hu, hT⟩ := hF.at_ hx
    have hck := hall ts (List.mem_of_getElem? hx)
    obtain ⟨g1, g2, g3, g4, g5⟩ := zEp.1 hck.1
    obtain ⟨AS, hV⟩ := zGz g4 g5
    obtain ⟨tb, tof, tc, rfl, hDt⟩ := hT.form g4
    refine zAc fun _ K189 => zAa <| wc rfl rfl (lss1 (by omega)) rfl rfl <| zAd <| zAb K189 <| zAc fun _ K190 => zAl rfl <| zAj ?_
    refine zAb K190 <| zAc fun _ K191 => zAh <| zAc fun _ K192 => zAa <| wi (q := o + j) (i := j) el22 rfl rfl (by omega) (by omega) rfl rfl <| wd (v := .slice (some ⟨tb, tof, none⟩) ts.length tc) ty28 rfl (((O188.z0.old).cell (p := ⟨b, o + j, none⟩) (hD b hDb)).trans hu) rfl rfl <| wa rfl rfl rfl ?_
    refine nx K192 fun _ K193 => wm rfl rfl rfl <| zAe (v := .func (.func 24) #[] #[VP g164, VP g153]) (fun ρ e => zB2 (us := []) (vs := [VP g164, VP g153]) (e.list rfl) (e.list rfl)) rfl rfl ?_
    refine zAs (args := [.slice (some ⟨tb, tof, none⟩) ts.length tc, .func (.func 23) #[] #[], .func (.func 24) #[] #[VP g164, VP g153]]) in_22 rfl rfl rfl ?_
    have O194 := (O188).oldroZ (D := D) (p := (fun w => TreeD D w (.slice (some ⟨tb, tof, none⟩) ts.length tc) ts)) (zB8 hT hD) |>.re [1, 2, 3, 4, 5, 0, 6, 7] rfl
    obtain ⟨O201h, O201f⟩ := Own.split (A := [.blk g139 33 #[.int .i64 n, .slice R1 ((forG fs j).1.length) c1], .row (.slice R1 (((forG fs j).1).length) c1) 65 3 (((forG fs j).1).length) (gcells ((forG fs j).1) vs1), .ro D1 (Ins D1 ((forG fs j).1) vs1), .blk g153 66 #[.func (.func 20) #[] #[VP g139]], .blk g164 67 #[.func (.func 21) #[] #[VP g153]], .ro D (fun w => TreeD D w (.slice (some ⟨tb, tof, none⟩) ts.length tc) ts)]) (R := [.row (.slice LR (j + 1) lc) 3 1 (j + 1) (intCs (forG fs j).2), .blk g106 33 #[.int .i64 0, .slice none 0 0]]) O194
    refine (gfold_ O201h hV hfl2 (by omega)).mono ?_
    rintro _ w199 ⟨R195, c196, D197, vs198, rfl, h200⟩
    have O201 := O201f h200
    refine ⟨_, rfl, ?_⟩
    refine wa rfl rfl rfl <| nx K193 fun _ K202 => wm rfl rfl rfl ?_
    obtain ⟨g203, w204, r205, O206, hg207, hs208⟩ := zBg O201 el57 ze3 1 [(0, .int .i64 0)] (cs := #[.int .i64 0]) (by decide) (by kernel_rfl)
    refine zAe (v := VS0 g203 1 1) (fun ρ e => r205 ρ _ _ _ _ _ _ (e.parts rfl)) rfl rfl ?_
    obtain ⟨A209, c210, w211, r212, O213, hz214, hc215⟩ := zC5 (O206.re [7, 0, 1, 2, 3, 4, 5, 6, 8] rfl) ap57 ((O206.re [7, 0, 1, 2, 3, 4, 5, 6, 8] rfl).blk 1 rfl) (cells := [.int .i64 0]) rfl rfl (by omega) (by omega) (ys := (intCs ((forG fs j).2 ++ [0]))) (intCs_snoc _ _)
    refine zAe (v := .slice A209 ((j + 1) + 1) c210) (fun ρ e => r212 ρ _ _ _ _ _ _ _ (e _ _ rfl) (e _ _ rfl)) rfl rfl <| wa rfl rfl rfl <| nx K202 fun _ K216 => wm rfl rfl rfl <| wz el57 rfl rfl rfl <| zAe (v := .int .i64 ((j + 1 : Nat) : Int)) (fun ρ e => zAi (k := .i64) (u := (((j + 1) + 1 : Nat) : Int)) (v := 1) (e _ _ rfl) (e _ _ rfl) (congrArg some ((congrArg _ (show _ = ((j + 1 : Nat) : Int) by omega)).trans (zAo (by omega) (by omega))))) rfl rfl <| wa rfl rfl rfl <| zAd ?_
    refine zAb K216 <| zAh ?_
    obtain ⟨g217, hg217⟩ := rowaddr (O213.row 0 rfl) (by omega)
    subst hg217
    have O218 := (O213.re [2, 3, 4, 5, 6, 0, 8] rfl)
    have hG0 : ((treeG ts ((forG fs j).1)).1).length ≤ 4097 := ((zGv ts _ ts.length).2 hfl2)
    refine zA8 (ι := Nat × Nat × Option Addr × Nat × (Nat → Prop) × List Value) (fun q => [(0, .slice (some ⟨b, o, none⟩) fs.length ct), (1, .int .i64 n), (4, VP g106), (9, VP g139), (10, VP g153), (11, VP g164), (12, VS0 g217 ((j + 1) + 1) c210), (15, .int .i64 ((treeG ts ((forG fs j).1)).2)), (48, .slice (some ⟨b, o, none⟩) fs.length ct), (49, .int .i64 ((fs.length : Nat) : Int)), (50, .int .i64 (j : Int)), (16, .int .i64 (q.2.1 : Int))]) (fun q X => (q.2.1 + q.1 = j + 1) ∧ Own (ZD D) W X [.blk g139 33 #[.int .i64 n, .slice q.2.2.1 ((lestG ((treeG ts ((forG fs j).1)).2) (j + 1) ((treeG ts ((forG fs j).1)).1) ((forG fs j).2 ++ [0]) q.1).1.length) q.2.2.2.1], .row (.slice q.2.2.1 (((lestG ((treeG ts ((forG fs j).1)).2) (j + 1) ((treeG ts ((forG fs j).1)).1) ((forG fs j).2 ++ [0]) q.1).1).length) q.2.2.2.1) 65 3 (((lestG ((treeG ts ((forG fs j).1)).2) (j + 1) ((treeG ts ((forG fs j).1)).1) ((forG fs j).2 ++ [0]) q.1).1).length) (gcells ((lestG ((treeG ts ((forG fs j).1)).2) (j + 1) ((treeG ts ((forG fs j).1)).1) ((forG fs j).2 ++ [0]) q.1).1) q.2.2.2.2.2), .ro q.2.2.2.2.1 (Ins q.2.2.2.2.1 ((lestG ((treeG ts ((forG fs j).1)).2) (j + 1) ((treeG ts ((forG fs j).1)).1) ((forG fs j).2 ++ [0]) q.1).1) q.2.2.2.2.2), .blk g153 66 #[.func (.func 20) #[] #[VP g139]], .blk g164 67 #[.func (.func 21) #[] #[VP g153]], .row (VS0 g217 ((j + 1) + 1) c210) 3 1 ((j + 1) + 1) (intCs (lestG ((treeG ts ((forG fs j).1)).2) (j + 1) ((treeG ts ((forG fs j).1)).1) ((forG fs j).2 ++ [0]) q.1).2), .blk g106 33 #[.int .i64 0, .slice none 0 0]]) (fun q => j + 1 - q.1) (0, (j + 1), R195, c196, D197, vs198) ⟨(by show j + 1 + 0 = j + 1; omega), O218⟩ ⟨rfl, rfl, rfl, rfl, rfl, rfl, rfl, rfl, rfl, rfl, rfl, rfl, trivial⟩ (fun q w219 hJ F220 K221 => ?_)
    obtain ⟨q, kq, R2, c2, D2, vs2⟩ := q
    obtain ⟨hkq0, O222⟩ := hJ
    dsimp only at hkq0 O222 ⊢
    obtain ⟨hql, hqg⟩ := zIa ((treeG ts ((forG fs j).1)).2) (j + 1) ((treeG ts ((forG fs j).1)).1) ((forG fs j).2 ++ [0]) q
    have hqg := hqg hG0
    have hl0 : ((forG fs j).2 ++ [0]).length = j + 2 := by simp [hfl1]
    by_cases hk : 0 < kq
    ·skip
     refine zAc fun _ K223 => zAc fun _ K224 => zAa <| wm rfl rfl rfl <| wc rfl rfl (gtr1 (by omega)) rfl rfl <| zAd <| zAb K224 <| zAl rfl ?_
     refine zAj <| zAb K223 <| zAc fun _ K225 => zAh ?_
     refine zA1 (fun X => Own (ZD D) W X [.blk g153 66 #[.func (.func 20) #[] #[VP g139]], .blk g164 67 #[.func (.func 21) #[] #[VP g153]], .row (VS0 g217 ((j + 1) + 1) c210) 3 1 ((j + 1) + 1) (intCs (lestG ((treeG ts ((forG fs j).1)).2) (j + 1) ((treeG ts ((forG fs j).1)).1) ((forG fs j).2 ++ [0]) q).2)]) 15 [(0, 1), (1, 1), (2, 0), (3, 1), (4, 1), (5, 1), (6, 1), (7, 1), (8, 0), (9, 1), (10, 1), (11, 1), (12, 0), (13, 2), (14, 1), (15, 3)] (by kernel_rfl) (by kernel_rfl) (PQ.block (PQ.then_ (PQ.then_ (PQ.block (PQ.block (PQ.then_ (PQ.then_ (PQ.block (PQ.then_ PQ.body))))))))) ((O222.re [3, 4, 5] rfl)).drew ?_
     have O226 := O222.drew
     refine tm rfl rfl rfl rfl <| tm rfl rfl rfl rfl <| wt0 (v := .func (.func 21) #[] #[VP g153]) rfl (fun ρ e W hW => zAm ty67 (e _ _ rfl) (hW.cell 1 0 rfl rfl)) rfl rfl <| tm rfl rfl rfl rfl <| tm rfl rfl rfl rfl <| tm rfl rfl rfl rfl <| wt1 (v := .int .i64 ((kq - 1 : Nat) : Int)) rfl (fun ρ e W => zAi (k := .i64) (u := (kq : Int)) (v := 1) (e _ _ rfl) (e _ _ rfl) (congrArg some ((congrArg _ (show _ = ((kq - 1 : Nat) : Int) by omega)).trans (zAo (by omega) (by omega))))) rfl rfl <| wt1 (v := .pointer (some ⟨g217, kq - 1, none⟩)) rfl (fun ρ e W => zA9 (q := kq - 1) (i := kq - 1) el57 (e _ _ rfl) (e _ _ rfl) (by omega) (by omega)) rfl rfl ?_
     refine wt0 (v := .int .i64 ((lestG ((treeG ts ((forG fs j).1)).2) (j + 1) ((treeG ts ((forG fs j).1)).1) ((forG fs j).2 ++ [0]) q).2.getD (kq - 1) 0)) rfl (fun ρ e W hW => zAm ty3 (e _ _ rfl) (rowcell (hW.row 2 rfl) (zHd (zBh (by omega))))) rfl rfl <| tm rfl rfl rfl rfl <| tm rfl rfl rfl rfl <| wt1 (v := .pointer (some ⟨g217, kq, none⟩)) rfl (fun ρ e W => zA9 (q := kq) (i := kq) el57 (e _ _ rfl) (e _ _ rfl) (by omega) (by omega)) rfl rfl <| wt0 (v := .int .i64 ((lestG ((treeG ts ((forG fs j).1)).2) (j + 1) ((treeG ts ((forG fs j).1)).1) ((forG fs j).2 ++ [0]) q).2.getD kq 0)) rfl (fun ρ e W hW => zAm ty3 (e _ _ rfl) (rowcell (hW.row 2 rfl) (zHd (zBh (by omega))))) rfl rfl ?_
     refine zBn (args := [.int .i64 ((treeG ts ((forG fs j).1)).2), .int .i64 ((lestG ((treeG ts ((forG fs j).1)).2) (j + 1) ((treeG ts ((forG fs j).1)).1) ((forG fs j).2 ++ [0]) q).2.getD (kq - 1) 0), .int .i64 ((lestG ((treeG ts ((forG fs j).1)).2) (j + 1) ((treeG ts ((forG fs j).1)).1) ((forG fs j).2 ++ [0]) q).2.getD kq 0)]) (all := [.int .i64 ((treeG ts ((forG fs j).1)).2), .int .i64 ((lestG ((treeG ts ((forG fs j).1)).2) (j + 1) ((treeG ts ((forG fs j).1)).1) ((forG fs j).2 ++ [0]) q).2.getD (kq - 1) 0), .int .i64 ((lestG ((treeG ts ((forG fs j).1)).2) (j + 1) ((treeG ts ((forG fs j).1)).1) ((forG fs j).2 ++ [0]) q).2.getD kq 0), VP g153]) rfl in_21 rfl rfl rfl rfl rfl ?_
     obtain ⟨O233h, O233f⟩ := Own.split (A := [.blk g139 33 #[.int .i64 n, .slice R2 ((lestG ((treeG ts ((forG fs j).1)).2) (j + 1) ((treeG ts ((forG fs j).1)).1) ((forG fs j).2 ++ [0]) q).1.length) c2], .row (.slice R2 (((lestG ((treeG ts ((forG fs j).1)).2) (j + 1) ((treeG ts ((forG fs j).1)).1) ((forG fs j).2 ++ [0]) q).1).length) c2) 65 3 (((lestG ((treeG ts ((forG fs j).1)).2) (j + 1) ((treeG ts ((forG fs j).1)).1) ((forG fs j).2 ++ [0]) q).1).length) (gcells ((lestG ((treeG ts ((forG fs j).1)).2) (j + 1) ((treeG ts ((forG fs j).1)).1) ((forG fs j).2 ++ [0]) q).1) vs2), .ro D2 (Ins D2 ((lestG ((treeG ts ((forG fs j).1)).2) (j + 1) ((treeG ts ((forG fs j).1)).1) ((forG fs j).2 ++ [0]) q).1) vs2), .blk g153 66 #[.func (.func 20) #[] #[VP g139]]]) (R := [.blk g164 67 #[.func (.func 21) #[] #[VP g153]], .row (VS0 g217 ((j + 1) + 1) c210) 3 1 ((j + 1) + 1) (intCs (lestG ((treeG ts ((forG fs j).1)).2) (j + 1) ((treeG ts ((forG fs j).1)).1) ((forG fs j).2 ++ [0]) q).2), .blk g106 33 #[.int .i64 0, .slice none 0 0]]) O226
     refine (gchoose_ (a := (treeG ts ((forG fs j).1)).2) (b := ((lestG ((treeG ts ((forG fs j).1)).2) (j + 1) ((treeG ts ((forG fs j).1)).1) ((forG fs j).2 ++ [0]) q).2.getD (kq - 1) 0)) (d := ((lestG ((treeG ts ((forG fs j).1)).2) (j + 1) ((treeG ts ((forG fs j).1)).1) ((forG fs j).2 ++ [0]) q).2.getD kq 0)) O233h hqg).mono ?_
     rintro _ w231 ⟨R227, c228, D229, vs230, rfl, h232⟩
     have O233 := O233f h232
     refine ⟨_, rfl, (O233.re [3, 4, 5] rfl), ?_⟩
     refine wt1 (v := .pointer (some ⟨g217, kq, none⟩)) rfl (fun ρ e W => zA9 (q := kq) (i := kq) el57 (e _ _ rfl) (e _ _ rfl) (by omega) (by omega)) rfl rfl ?_
     obtain ⟨w234, r235, O236⟩ := own_putrowN (O233.re [5, 0, 1, 2, 3, 4, 6] rfl) rfl ty3 (k := kq) (show kq < ((j + 1) + 1) * 1 by omega) (.int .i64 ((chooseG3 ((lestG ((treeG ts ((forG fs j).1)).2) (j + 1) ((treeG ts ((forG fs j).1)).1) ((forG fs j).2 ++ [0]) q).1) ((treeG ts ((forG fs j).1)).2) ((lestG ((treeG ts ((forG fs j).1)).2) (j + 1) ((treeG ts ((forG fs j).1)).1) ((forG fs j).2 ++ [0]) q).2.getD (kq - 1) 0) ((lestG ((treeG ts ((forG fs j).1)).2) (j + 1) ((treeG ts ((forG fs j).1)).1) ((forG fs j).2 ++ [0]) q).2.getD kq 0)).2)) rfl rfl
     rw [intCs_set] at O236
     refine zBf rfl (fun ρ e => r235 ρ _ _ _ _ _ _ (e _ _ rfl) (e _ _ rfl)) rfl <| zBc <| zAn <| zAb K225 <| zAa <| wm rfl rfl rfl <| zAe (v := .int .i64 ((kq - 1 : Nat) : Int)) (fun ρ e => zAi (k := .i64) (u := (kq : Int)) (v := 1) (e _ _ rfl) (e _ _ rfl) (congrArg some ((congrArg _ (show _ = ((kq - 1 : Nat) : Int) by omega)).trans (zAo (by omega) (by omega))))) rfl rfl <| wa rfl rfl rfl ?_
     refine zAd ?_
     have hkq : kq = j + 1 - q := by omega
     have O237 : Own (ZD D) W w234 [.blk g139 33 #[.int .i64 n, .slice R227 ((lestG ((treeG ts ((forG fs j).1)).2) (j + 1) ((treeG ts ((forG fs j).1)).1) ((forG fs j).2 ++ [0]) (q + 1)).1.length) c228], .row (.slice R227 (((lestG ((treeG ts ((forG fs j).1)).2) (j + 1) ((treeG ts ((forG fs j).1)).1) ((forG fs j).2 ++ [0]) (q + 1)).1).length) c228) 65 3 (((lestG ((treeG ts ((forG fs j).1)).2) (j + 1) ((treeG ts ((forG fs j).1)).1) ((forG fs j).2 ++ [0]) (q + 1)).1).length) (gcells ((lestG ((treeG ts ((forG fs j).1)).2) (j + 1) ((treeG ts ((forG fs j).1)).1) ((forG fs j).2 ++ [0]) (q + 1)).1) vs230), .ro D229 (Ins D229 ((lestG ((treeG ts ((forG fs j).1)).2) (j + 1) ((treeG ts ((forG fs j).1)).1) ((forG fs j).2 ++ [0]) (q + 1)).1) vs230), .blk g153 66 #[.func (.func 20) #[] #[VP g139]], .blk g164 67 #[.func (.func 21) #[] #[VP g153]], .row (VS0 g217 ((j + 1) + 1) c210) 3 1 ((j + 1) + 1) (intCs (lestG ((treeG ts ((forG fs j).1)).2) (j + 1) ((treeG ts ((forG fs j).1)).1) ((forG fs j).2 ++ [0]) (q + 1)).2), .blk g106 33 #[.int .i64 0, .slice none 0 0]] := by unfold lestG; rw [← hkq]; exact (O236.re [1, 2, 3, 4, 5, 0, 6] rfl)
     refine zAt K221 (q + 1, (kq - 1), R227, c228, D229, vs230) (by show j + 1 - (q + 1) < j + 1 - q; omega) ⟨(by show kq - 1 + (q + 1) = j + 1; omega), O237⟩ ⟨rfl, rfl, rfl, rfl, rfl, rfl, rfl, rfl, rfl, rfl, rfl, rfl, trivial⟩
    ·have hkz : kq = 0 := by omega
     have hqe : q = j + 1 := by omega
     subst hqe
     refine zAc fun _ K238 => zAc fun _ K239 => zAa <| wm rfl rfl rfl <| wc rfl rfl (gtr0 (by omega)) rfl rfl <| zAd <| zAb K239 <| zAf rfl ?_
     refine zA6 ?_
     refine zAg (by intro h; cases h) ?_
     refine zAg (by intro h; cases h) ?_
     refine zA4 <| zAn <| zAb K191 <| zAa <| zAe (v := .int .i64 ((j + 1 : Nat) : Int)) (fun ρ e => zAi (k := .i64) (u := (j : Int)) (v := 1) (e _ _ rfl) (e _ _ rfl) (congrArg some ((congrArg _ (show _ = ((j + 1 : Nat) : Int) by omega)).trans (zAo (by omega) (by omega))))) rfl rfl <| wm rfl rfl rfl <| zAd ?_
     have O240 : Own (ZD D) W w219 [.blk g139 33 #[.int .i64 n, .slice R2 ((forG fs (j + 1)).1.length) c2], .row (.slice R2 (((forG fs (j + 1)).1).length) c2) 65 3 (((forG fs (j + 1)).1).length) (gcells ((forG fs (j + 1)).1) vs2), .ro D2 (Ins D2 ((forG fs (j + 1)).1) vs2), .blk g153 66 #[.func (.func 20) #[] #[VP g139]], .blk g164 67 #[.func (.func 21) #[] #[VP g153]], .row (VS0 g217 (j + 1 + 1) c210) 3 1 (j + 1 + 1) (intCs (forG fs (j + 1)).2), .blk g106 33 #[.int .i64 0, .slice none 0 0]] := by rw [forG_next hx, hfl1]; exact O222
     refine zAt K187 (j + 1, R2, c2, D2, vs2, (some ⟨g217, 0, none⟩), (j + 1 + 1), c210) (by show fs.length - (j + 1) < fs.length - j; omega) ⟨(by show j + 1 ≤ fs.length; omega), rfl, O240⟩ ⟨rfl, rfl, rfl, rfl, rfl, rfl, rfl, rfl, rfl, rfl, trivial⟩
   ·have hje : j = fs.length := by omega
    subst hje
    obtain ⟨g241, hg241⟩ := rowaddr (O188.row 5 rfl) (by omega)
    subst hg241
    refine zAc fun _ K242 => zAa <| wc rfl rfl (lss0 (by omega)) rfl rfl <| zAd <| zAb K242 <| zAc fun _ K243 => zAf rfl <| zA6 ?_
    refine zAg (by intro h; cases h) ?_
    refine zAg (by intro h; cases h) ?_
    refine zA4 <| zAb K181 <| zAc fun _ K244 => zAa <| wa rfl rfl rfl <| zAd <| zAb K244 <| zAc fun _ K245 => ?_
    refine zAc fun _ K246 => zAa <| wm rfl rfl rfl <| wz el22 rfl rfl rfl <| zAe (v := .int .i64 ((fs.length / 2 : Nat) : Int)) (fun ρ e => ex_quo2 (e _ _ rfl) (e _ _ rfl) (by omega)) rfl rfl <| zAe (v := .int .i64 ((fs.length / 2 + 1 : Nat) : Int)) (fun ρ e => zAi (k := .i64) (u := ((fs.length / 2 : Nat) : Int)) (v := 1) (e _ _ rfl) (e _ _ rfl) (congrArg some ((congrArg _ (show _ = ((fs.length / 2 + 1 : Nat) : Int) by omega)).trans (zAo (by omega) (by omega))))) rfl rfl <| wa rfl rfl rfl <| nx K246 fun _ K247 => ?_
    refine wm rfl rfl rfl <| wm rfl rfl rfl <| wz el57 rfl rfl rfl <| wc rfl rfl (lss1 (by omega)) rfl rfl <| zAd <| zAb K247 <| zAl rfl <| zAa ?_
    refine wm rfl rfl rfl <| wm rfl rfl rfl <| wi (q := fs.length / 2 + 1) (i := fs.length / 2 + 1) el57 rfl rfl (by omega) (by omega) rfl rfl <| wd (v := .int .i64 ((forG fs fs.length).2.getD (fs.length / 2 + 1) 0)) ty3 rfl (rowcell (O188.row 5 rfl) (zHd (zBh (by omega)))) rfl rfl <| wa rfl rfl rfl <| nx K245 fun _ K248 => wd ty66 rfl (O188.cell 3 0 rfl rfl) rfl rfl <| wm rfl rfl rfl ?_
    obtain ⟨g249, w250, r251, O252, hg253, hs254⟩ := zBg O188 el57 ze3 1 [(0, .int .i64 ((forG fs fs.length).2.getD (fs.length / 2 + 1) 0))] (cs := #[.int .i64 ((forG fs fs.length).2.getD (fs.length / 2 + 1) 0)]) (by decide) (by kernel_rfl)
    refine zAe (v := VS0 g249 1 1) (fun ρ e => r251 ρ _ _ _ _ _ _ (e.parts rfl)) rfl rfl <| zAe (v := .agg #[.int .i64 4, .int .i64 0, VS0 g249 1 1]) (fun ρ e => zBe (cells := #[.int .i64 4, .int .i64 0, VS0 g249 1 1]) st65 (e.parts rfl) rfl) rfl rfl ?_
    refine zBz (args := [.agg #[.int .i64 4, .int .i64 0, VS0 g249 1 1]]) (all := [.agg #[.int .i64 4, .int .i64 0, VS0 g249 1 1], VP g139]) in_20 rfl rfl rfl rfl rfl ?_
    have O255 : Own (ZD D) W w250 [.ro (fun k => k = g249) (fun w => IntsD (fun k => k = g249) w (VS0 g249 1 1) [((forG fs fs.length).2.getD (fs.length / 2 + 1) 0)]), .blk g139 33 #[.int .i64 n, .slice R1 ((forG fs fs.length).1.length) c1], .row (.slice R1 (((forG fs fs.length).1).length) c1) 65 3 (((forG fs fs.length).1).length) (gcells ((forG fs fs.length).1) vs1), .ro D1 (Ins D1 ((forG fs fs.length).1) vs1), .blk g153 66 #[.func (.func 20) #[] #[VP g139]], .blk g164 67 #[.func (.func 21) #[] #[VP g153]], .row (VS0 g241 (fs.length + 1) lc) 3 1 (fs.length + 1) (intCs (forG fs fs.length).2), .blk g106 33 #[.int .i64 0, .slice none 0 0]] := Own.blkin (l := [((forG fs fs.length).2.getD (fs.length / 2 + 1) 0)]) O252 rfl rfl (by decide)
    obtain ⟨O262h, O262f⟩ := Own.split (A := [.blk g139 33 #[.int .i64 n, .slice R1 ((forG fs fs.length).1.length) c1], .row (.slice R1 (((forG fs fs.length).1).length) c1) 65 3 (((forG fs fs.length).1).length) (gcells ((forG fs fs.length).1) vs1), .ro D1 (Ins D1 ((forG fs fs.length).1) vs1), .ro (fun k => k = g249) (fun w => IntsD (fun k => k = g249) w (VS0 g249 1 1) [((forG fs fs.length).2.getD (fs.length / 2 + 1) 0)])]) (R := [.blk g153 66 #[.func (.func 20) #[] #[VP g139]], .blk g164 67 #[.func (.func 21) #[] #[VP g153]], .row (VS0 g241 (fs.length + 1) lc) 3 1 (fs.length + 1) (intCs (forG fs fs.length).2), .blk g106 33 #[.int .i64 0, .slice none 0 0]]) (O255.re [1, 2, 3, 0, 4, 5, 6, 7] rfl)
    refine (gadd_ (g := ⟨4, 0, [((forG fs fs.length).2.getD (fs.length / 2 + 1) 0)]⟩) O262h hfl2).mono ?_
    rintro _ w260 ⟨R256, c257, D258, vs259, rfl, h261⟩
    have O262 := O262f h261
    refine ⟨_, rfl, ?_⟩
    refine zAd <| zAb K248 <| zAc fun _ K263 => zAc fun _ K264 => zAa <| wf (q := 1) zHh rfl rfl rfl rfl <| wd ty31 rfl (O262.cell 0 1 rfl rfl) rfl rfl <| wz el31 rfl rfl rfl ?_
    refine wc rfl rfl (gtr0 (by have := forest_small (fun ts h => (hall ts h).2) hlen; unfold forestG at this; omega)) rfl rfl <| zAd <| zAb K264 <| zAf rfl <| zAj <| zAb K263 <| zAc fun _ K265 => zAa ?_
    refine zAe (v := .agg #[.int .i64 n, .slice R256 (((addG ((forG fs fs.length).1) ⟨4, 0, [((forG fs fs.length).2.getD (fs.length / 2 + 1) 0)]⟩).1).length) c257]) (fun ρ e => zAk (vs := [.int .i64 n, .slice R256 (((addG ((forG fs fs.length).1) ⟨4, 0, [((forG fs fs.length).2.getD (fs.length / 2 + 1) 0)]⟩).1).length) c257]) ty33 (e _ _ rfl) rfl (O262.cells 0 0 rfl rfl)) rfl rfl ?_
    obtain ⟨w266, r267, O268, hs269⟩ := zAp (o := 0) (n := 2) (O262.re [6, 0, 1, 2, 3, 4, 5] rfl) ty33 (.agg #[.int .i64 n, .slice R256 (((addG ((forG fs fs.length).1) ⟨4, 0, [((forG fs fs.length).2.getD (fs.length / 2 + 1) 0)]⟩).1).length) c257]) [.int .i64 n, .slice R256 (((addG ((forG fs fs.length).1) ⟨4, 0, [((forG fs fs.length).2.getD (fs.length / 2 + 1) 0)]⟩).1).length) c257] (cs' := #[.int .i64 n, .slice R256 (((addG ((forG fs fs.length).1) ⟨4, 0, [((forG fs fs.length).2.getD (fs.length / 2 + 1) 0)]⟩).1).length) c257]) rfl rfl rfl (Nat.le_of_ble_eq_true rfl) rfl
    refine zAv (fun ρ e => r267 ρ _ _ _ _ _ _ (e _ _ rfl) (e _ _ rfl)) rfl <| wa rfl rfl rfl <| zAd <| zAb K265 <| zAz ?_
    refine zAy (v := .tuple #[.agg #[.int .i64 n, .slice R256 (((addG ((forG fs fs.length).1) ⟨4, 0, [((forG fs fs.length).2.getD (fs.length / 2 + 1) 0)]⟩).1).length) c257], .int .i64 0]) (fun T hT => res2ct rfl T _ (hT 4 _ rfl) (zBj (vs := [.int .i64 n, .slice R256 (((addG ((forG fs fs.length).1) ⟨4, 0, [((forG fs fs.length).2.getD (fs.length / 2 + 1) 0)]⟩).1).length) c257]) ty33 rfl (O268.cells 0 0 rfl rfl)) (hT 5 _ rfl)) ?_
    exact ⟨R256, c257, D258, vs259, rfl, (O268.re [2, 3] rfl)⟩

end Go.Proofs.YtliiclmhpphpmaaGreatDoor
namespace Go.Proofs.YtliiclmhpphpmaaGreatDoor
open Go

def digVal (l : List UInt8) : Nat := l.foldl (fun n d => 10 * n + (d.toNat - 48)) 0
theorem digVal_snoc (l : List UInt8) (d : UInt8) : digVal (l ++ [d]) = 10 * digVal l + (d.toNat - 48) := by
  unfold digVal; rw [List.foldl_append]; rfl
theorem zIk (u : Nat) (h : u < 10) : (UInt8.ofNat (48 + u)).toNat = 48 + u := by
  simp only [UInt8.toNat_ofNat']; omega
theorem digVal_dec (u : Nat) : digVal (Lib.decDigits u) = u := by
  induction u using Nat.strongRecOn with
  | _ u ih =>
    rw [Lib.decDigits]
    split
    · rename_i h
      show 10 * 0 + ((UInt8.ofNat (48 + u)).toNat - 48) = u
      rw [zIk u h]; omega
    · rename_i h
      rw [digVal_snoc, ih _ (by omega), zIk _ (by omega)]; omega
theorem zFs (u : Nat) : ∀ x ∈ Lib.decDigits u, 48 ≤ x.toNat ∧ x.toNat < 58 := by
  induction u using Nat.strongRecOn with
  | _ u ih =>
    intro x hx
    rw [Lib.decDigits] at hx
    split at hx
    · rename_i h
      simp only [List.mem_singleton] at hx
      subst hx
      rw [zIk u h]; omega
    · rename_i h
      rcases List.mem_append.1 hx with hx | hx
      · exact ih _ (by omega) x hx
      · simp only [List.mem_singleton] at hx
        subst hx
        rw [zIk _ (by omega)]; omega
theorem dec_inj {u v : Nat} (h : Lib.decDigits u = Lib.decDigits v) : u = v := by
  rw [← digVal_dec u, ← digVal_dec v, h]
theorem itoa_inj {a b : Int} (h : Lib.itoa a = Lib.itoa b) : a = b := by
  unfold Lib.itoa at h
  split at h
  · split at h
    · injection h with _ h
      have := dec_inj h; omega
    · have := zFs b.toNat 45 (by rw [← h]; simp)
      exact absurd this (by decide)
  · split at h
    · have := zFs a.toNat 45 (by rw [h]; simp)
      exact absurd this (by decide)
    · have := dec_inj h; omega
def noSp (l : List UInt8) : Prop := ∀ x ∈ l, x ≠ 32
theorem itoa_noSp (a : Int) : noSp (Lib.itoa a) := by
  intro x hx he
  subst he
  unfold Lib.itoa at hx
  split at hx
  · rcases List.mem_cons.1 hx with hx | hx
    · revert hx; decide
    · exact absurd (zFs _ _ hx) (by decide)
  · exact absurd (zFs _ _ hx) (by decide)
def spAhead (l : List UInt8) : Prop := l = [] ∨ ∃ r, l = 32 :: r
theorem split_sp : ∀ {a b r s : List UInt8}, noSp a → noSp b → spAhead r → spAhead s → a ++ r = b ++ s → a = b ∧ r = s
  | [], [], _, _, _, _, _, _, h => ⟨rfl, h⟩
  | [], y :: b, r, s, _, hb, hr, _, h => by
    rcases hr with rfl | ⟨r', rfl⟩
    · cases h
    · injection h with h1 _
      exact absurd h1.symm (hb y (by simp))
  | x :: a, [], r, s, ha, _, _, hs, h => by
    rcases hs with rfl | ⟨s', rfl⟩
    · cases h
    · injection h with h1 _
      exact absurd h1 (ha x (by simp))
  | x :: a, y :: b, r, s, ha, hb, hr, hs, h => by
    injection h with h1 h2
    obtain ⟨h3, h4⟩ := split_sp (fun z hz => ha z (by simp [hz])) (fun z hz => hb z (by simp [hz])) hr hs h2
    exact ⟨by rw [h1, h3], h4⟩
def keyIn (l : List Int) : List UInt8 := l.flatMap fun k => 32 :: Lib.itoa k
def keyOf (g : Gate) : List UInt8 := Lib.itoa g.kind ++ 32 :: (Lib.itoa g.lit ++ keyIn g.inp)
end Go.Proofs.YtliiclmhpphpmaaGreatDoor
namespace Go.Proofs.YtliiclmhpphpmaaGreatDoor
open Go

instance gateDec : DecidableEq Gate := fun a b => decidable_of_iff (a.kind = b.kind ∧ a.lit = b.lit ∧ a.inp = b.inp) (by cases a; cases b; simp)
def gidx (g : Gate) : List Gate → Nat → Option Nat
  | [], _ => none
  | h :: l, i => if g = h then some i else gidx g l (i + 1)
def findG (L : List Gate) (g : Gate) : List Gate × Int := match gidx g L 0 with
  | some i => (L, (i : Int))
  | none => (L ++ [g], (L.length : Int))
def gateAt (L : List Gate) (i : Int) : Gate := L.getD i.toNat ⟨0, 0, []⟩
def kindAt (L : List Gate) (i : Int) : Int := (gateAt L i).kind
def notG (L : List Gate) (i : Int) : List Gate × Int :=
  let g := gateAt L i
  if g.kind = 0 then findG L ⟨1, 0, []⟩ else if g.kind = 1 then findG L ⟨0, 0, []⟩ else if g.kind = 2 then findG L ⟨2, -g.lit, []⟩
  else if g.kind = 3 then (L, g.inp.getD 0 0) else findG L ⟨3, 0, [i]⟩
def manyGo (L : List Gate) (neutral decides : Int) : List Int → List Int → Int ⊕ List Int
  | [], left => .inr left
  | i :: r, left => if kindAt L i = decides then .inl i else if kindAt L i ≠ neutral ∧ i ∉ left then manyGo L neutral decides r (left ++ [i]) else manyGo L neutral decides r left
def manyG (L : List Gate) (kind : Int) (ins : List Int) : List Gate × Int :=
  let neutral : Int := if kind = 5 then 0 else 1
  let decides : Int := if kind = 5 then 1 else 0
  match manyGo L neutral decides ins [] with
  | .inl i => (L, i)
  | .inr [] => findG L ⟨neutral, 0, []⟩
  | .inr [x] => (L, x)
  | .inr left => findG L ⟨kind, 0, left⟩
def oddIn (x : Int) : List Int → Bool
  | [] => false
  | y :: l => (decide (x = y)) != oddIn x l
def xorGo (L : List Gate) (odd : Int → Bool) : List Int → List Int → Int → List Int × Int
  | [], left, last => (left, last)
  | i :: r, left, last =>
    if odd i = false ∨ kindAt L i = 0 then xorGo L odd r left last
    else if kindAt L i = 1 then xorGo L (fun x => if x = i then false else odd x) r left i
    else xorGo L (fun x => if x = i then false else odd x) r (left ++ [i]) last
def xorG (L : List Gate) (ins : List Int) : List Gate × Int :=
  match xorGo L (fun x => oddIn x ins) ins [] (-1) with
  | ([], last) => if last < 0 then findG L ⟨0, 0, []⟩ else (L, last)
  | ([x], last) => if last < 0 then (L, x) else notG L x
  | (left, last) => if 0 ≤ last then findG L ⟨6, 0, left ++ [last]⟩ else findG L ⟨6, 0, left⟩
def iffG (L : List Gate) (a b : Int) : List Gate × Int :=
  if a = b then findG L ⟨1, 0, []⟩ else if kindAt L a = 1 then (L, b) else if kindAt L b = 1 then (L, a) else if kindAt L a = 0 then notG L b else if kindAt L b = 0 then notG L a
  else findG L ⟨7, 0, [a, b]⟩
def chooseG (L : List Gate) (a b c : Int) : List Gate × Int :=
  if kindAt L a = 1 then (L, b) else if kindAt L a = 0 ∨ b = c then (L, c) else if kindAt L b = 1 ∧ kindAt L c = 0 then (L, a) else if kindAt L b = 0 ∧ kindAt L c = 1 then notG L a
  else findG L ⟨8, 0, [a, b, c]⟩
def stepG (L : List Gate) (g : Gate) (ins : List Int) : List Gate × Int :=
  if g.kind = 3 then notG L (ins.getD 0 0) else if g.kind = 4 ∨ g.kind = 5 then manyG L g.kind ins else if g.kind = 6 then xorG L ins
  else if g.kind = 7 then iffG L (ins.getD 0 0) (ins.getD 1 0) else if g.kind = 8 then chooseG L (ins.getD 0 0) (ins.getD 1 0) (ins.getD 2 0)
  else findG L ⟨g.kind, g.lit, []⟩
def foldGo : List Gate → List Gate × List Int → List Gate × List Int
  | [], s => s
  | g :: r, (L, found) => let q := stepG L g (g.inp.map fun k => found.getD k.toNat 0)
    foldGo r (q.1, found ++ [q.2])
/-! What is needed, renumbered. -/
def markIn (use : List Bool) (l : List Int) : List Bool := l.foldl (fun u k => u.set k.toNat true) use
def useGo (L : List Gate) : Nat → List Bool → List Bool
  | 0, u => u
  | i + 1, u => useGo L i (if u.getD i false then markIn u (gateAt L i).inp else u)
def useOf (L : List Gate) (root : Nat) : List Bool := useGo L (root + 1) ((List.replicate (root + 1) false).set root true)
def placeGo (use : List Bool) : List Gate → Nat → List Gate × List Int → List Gate × List Int
  | [], _, s => s
  | g :: r, i, (out, place) => if use.getD i false then placeGo use r (i + 1) (out ++ [⟨g.kind, g.lit, g.inp.map fun k => place.getD k.toNat 0⟩], place.set i (out.length : Int)) else placeGo use r (i + 1) (out, place)
def neededG (L : List Gate) (root : Int) : List Gate := (placeGo (useOf L root.toNat) (L.take (root.toNat + 1)) 0 ([], List.replicate (root.toNat + 1) 0)).1
def foldOf (gs : List Gate) : List Gate := let s := foldGo gs ([], []); neededG s.1 (s.2.getD (s.2.length - 1) 0)
end Go.Proofs.YtliiclmhpphpmaaGreatDoor
namespace Go.Proofs.YtliiclmhpphpmaaGreatDoor
open Go
/-! Nodes are told as gates: kinds 0 false, 1 true, 2 literal, 3 and, 4 or. -/
def okN (N : Int) (i : Nat) (g : Gate) : Prop :=
 (∀ k ∈ g.inp, 0 ≤ k ∧ k < (i : Int)) ∧ (((g.kind = 0 ∨ g.kind = 1) ∧ g.lit = 0 ∧ g.inp = []) ∨ (g.kind = 2 ∧ litOk g.lit N = true ∧ g.inp = []) ∨ ((g.kind = 3 ∨ g.kind = 4) ∧ g.lit = 0))
def WfN (N : Int) (B : List Gate) : Prop := ∀ (i : Nat) (g : Gate), B[i]? = some g → okN N i g
def bv (v : List Bool) (i : Int) : Bool := v.getD i.toNat false
def nodeV (g : Gate) (s : VS) (v : List Bool) : Bool :=
 if g.kind = 1 then true else if g.kind = 2 then litHolds s g.lit else if g.kind = 3 then g.inp.all (bv v) else if g.kind = 4 then g.inp.any (bv v) else false
def nvTo (B : List Gate) (s : VS) : Nat → List Bool
 | 0 => []
 | k + 1 => nvTo B s k ++ [match B[k]? with | some g => nodeV g s (nvTo B s k) | none => false]
def nv (B : List Gate) (s : VS) (i : Int) : Bool := bv (nvTo B s B.length) i
def sv (l : List VS) (i : Int) : VS := l.getD i.toNat VS.empty
def nodeO (g : Gate) (o : List VS) : VS := g.inp.foldl (fun s k => s.union (sv o k)) (VS.empty.with_ (litVar g.lit))
def ownTo (B : List Gate) : Nat → List VS
 | 0 => []
 | k + 1 => ownTo B k ++ [match B[k]? with | some g => nodeO g (ownTo B k) | none => VS.empty]
def own (B : List Gate) (i : Int) : VS := sv (ownTo B B.length) i
def inB (B : List Gate) (i : Int) : Prop := 0 ≤ i ∧ i < (B.length : Int)
theorem zCk (B : List Gate) (s : VS) : ∀ k, (nvTo B s k).length = k
 | 0 => rfl
 | k + 1 => by unfold nvTo; simp [zCk B s k]
theorem zCf (B : List Gate) : ∀ k, (ownTo B k).length = k
 | 0 => rfl
 | k + 1 => by unfold ownTo; simp [zCf B k]
theorem zHf {α : Type} (l m : List α) (d : α) {j : Nat} (h : j < l.length) : (l ++ m).getD j d = l.getD j d := by
 rw [List.getD_eq_getElem?_getD, List.getD_eq_getElem?_getD, List.getElem?_append_left h]
theorem zEy (B : List Gate) (s : VS) (i : Nat) : ∀ k, i < k → (nvTo B s k).getD i false = (nvTo B s (i + 1)).getD i false
 | 0, h => absurd h (by omega)
 | k + 1, h => by
  by_cases e : i = k
  ·rw [e]
  ·conv => lhs; unfold nvTo
   rw [zHf _ _ _ (by rw [zCk]; omega)]
   exact zEy B s i k (by omega)
theorem zDt (B : List Gate) (i : Nat) : ∀ k, i < k → (ownTo B k).getD i VS.empty = (ownTo B (i + 1)).getD i VS.empty
 | 0, h => absurd h (by omega)
 | k + 1, h => by
  by_cases e : i = k
  ·rw [e]
  ·conv => lhs; unfold ownTo
   rw [zHf _ _ _ (by rw [zCf]; omega)]
   exact zDt B i k (by omega)
theorem zFa {g : Gate} {s : VS} {v u : List Bool} (h : ∀ k ∈ g.inp, bv v k = bv u k) : nodeV g s v = nodeV g s u := by
 have h1 : g.inp.all (bv v) = g.inp.all (bv u) := by
  rw [Bool.eq_iff_iff, List.all_eq_true, List.all_eq_true]
  exact ⟨fun q k hk => by rw [← h k hk]; exact q k hk, fun q k hk => by rw [h k hk]; exact q k hk⟩
 have h2 : g.inp.any (bv v) = g.inp.any (bv u) := by
  rw [Bool.eq_iff_iff, List.any_eq_true, List.any_eq_true]
  exact ⟨fun ⟨k, hk, q⟩ => ⟨k, hk, by rw [← h k hk]; exact q⟩, fun ⟨k, hk, q⟩ => ⟨k, hk, by rw [h k hk]; exact q⟩⟩
 unfold nodeV
 rw [h1, h2]
theorem foldU_congr : ∀ (l : List Int) (o p : List VS) (s : VS), (∀ k ∈ l, sv o k = sv p k) → l.foldl (fun s k => s.union (sv o k)) s = l.foldl (fun s k => s.union (sv p k)) s
 | [], _, _, _, _ => rfl
 | x :: l, o, p, s, h => by
  rw [List.foldl_cons, List.foldl_cons, h x (by simp)]
  exact foldU_congr l o p _ (fun k hk => h k (by simp [hk]))
theorem nodeO_congr {g : Gate} {o p : List VS} (h : ∀ k ∈ g.inp, sv o k = sv p k) : nodeO g o = nodeO g p := foldU_congr _ _ _ _ h
section
variable {N : Int} {B : List Gate}
theorem nv_at (hw : WfN N B) (s : VS) {i : Nat} {g : Gate} (hg : B[i]? = some g) : nv B s (i : Int) = nodeV g s (nvTo B s B.length) := by
 have hi := (List.getElem?_eq_some_iff.1 hg).1
 unfold nv bv
 rw [Int.toNat_natCast, zEy B s i _ hi]
 conv => lhs; unfold nvTo
 rw [hg, List.getD_eq_getElem?_getD, List.getElem?_append_right (by rw [zCk]; exact Nat.le_refl _), zCk, Nat.sub_self]
 show nodeV g s (nvTo B s i) = _
 refine zFa (fun k hk => ?_)
 have h1 := (hw i g hg).1 k hk
 unfold bv
 rw [zEy B s k.toNat i (by omega), zEy B s k.toNat B.length (by omega)]
theorem own_at (hw : WfN N B) {i : Nat} {g : Gate} (hg : B[i]? = some g) : own B (i : Int) = nodeO g (ownTo B B.length) := by
 have hi := (List.getElem?_eq_some_iff.1 hg).1
 unfold own sv
 rw [Int.toNat_natCast, zDt B i _ hi]
 conv => lhs; unfold ownTo
 rw [hg, List.getD_eq_getElem?_getD, List.getElem?_append_right (by rw [zCf]; exact Nat.le_refl _), zCf, Nat.sub_self]
 show nodeO g (ownTo B i) = _
 refine nodeO_congr (fun k hk => ?_)
 have h1 := (hw i g hg).1 k hk
 unfold sv
 rw [zDt B k.toNat i (by omega), zDt B k.toNat B.length (by omega)]
theorem zHg : ∀ (l : List Int) (o : List VS) (s : VS) (v : Int), (l.foldl (fun s k => s.union (sv o k)) s).has v = true ↔ s.has v = true ∨ ∃ k ∈ l, (sv o k).has v = true
 | [], _, _, _ => by simp
 | x :: l, o, s, v => by
  rw [List.foldl_cons, zHg l o _ v, VS.has_union]
  simp only [Bool.or_eq_true, List.mem_cons, exists_eq_or_imp, or_assoc]
theorem zG8 (hw : WfN N B) {i : Nat} {g : Gate} (hg : B[i]? = some g) (v : Int) : (own B (i : Int)).has v = true ↔ (v = litVar g.lit ∧ 1 ≤ v ∧ v ≤ 128) ∨ ∃ k ∈ g.inp, (own B k).has v = true := by
 rw [own_at hw hg]
 unfold nodeO
 rw [zHg, VS.has_with, VS.has_empty]
 have : (false || (decide (1 ≤ litVar g.lit ∧ litVar g.lit ≤ 128) && decide (v = litVar g.lit))) = true ↔ v = litVar g.lit ∧ 1 ≤ v ∧ v ≤ 128 := by
  simp only [Bool.false_or, Bool.and_eq_true, decide_eq_true_eq]
  constructor
  ·rintro ⟨h, rfl⟩; exact ⟨rfl, h⟩
  ·rintro ⟨rfl, h⟩; exact ⟨h, rfl⟩
 rw [this]
 rfl
theorem nvTo_pre (M : List Gate) (s : VS) : ∀ k, k ≤ B.length → nvTo (B ++ M) s k = nvTo B s k
 | 0, _ => rfl
 | k + 1, h => by
  unfold nvTo
  rw [nvTo_pre M s k (by omega), List.getElem?_append_left (by omega)]
theorem ownTo_pre (M : List Gate) : ∀ k, k ≤ B.length → ownTo (B ++ M) k = ownTo B k
 | 0, _ => rfl
 | k + 1, h => by
  unfold ownTo
  rw [ownTo_pre M k (by omega), List.getElem?_append_left (by omega)]
theorem zJi (M : List Gate) (s : VS) {i : Int} (h : inB B i) : nv (B ++ M) s i = nv B s i := by
 obtain ⟨h0, h1⟩ := h
 unfold nv bv
 rw [zEy _ s i.toNat (B ++ M).length (by simp; omega), zEy _ s i.toNat B.length (by omega), nvTo_pre M s _ (by omega)]
theorem zH7 (M : List Gate) {i : Int} (h : inB B i) : own (B ++ M) i = own B i := by
 obtain ⟨h0, h1⟩ := h
 unfold own sv
 rw [zDt _ i.toNat (B ++ M).length (by simp; omega), zDt _ i.toNat B.length (by omega), ownTo_pre M _ (by omega)]
theorem WfN.snoc (hw : WfN N B) {g : Gate} (hg : okN N B.length g) : WfN N (B ++ [g]) := by
 intro i h hi
 by_cases hl : i < B.length
 ·rw [List.getElem?_append_left hl] at hi; exact hw i h hi
 ·rw [List.getElem?_append_right (by omega)] at hi
  have h1 := (List.getElem?_eq_some_iff.1 hi).1
  simp at h1
  have e : i = B.length := by omega
  subst e
  simp at hi
  rw [← hi]; exact hg
theorem zCi {i : Int} (h : inB B i) : B[i.toNat]? = some (gateAt B i) := by
 unfold gateAt
 rw [List.getD_eq_getElem?_getD, List.getElem?_eq_getElem (by unfold inB at h; omega)]
 rfl
theorem nvG (hw : WfN N B) (s : VS) {i : Int} (h : inB B i) : nv B s i = nodeV (gateAt B i) s (nvTo B s B.length) := by
 have := nv_at hw s (zCi h)
 rwa [Int.toNat_of_nonneg h.1] at this
theorem ownG (hw : WfN N B) {i : Int} (h : inB B i) (v : Int) : (own B i).has v = true ↔ (v = litVar (gateAt B i).lit ∧ 1 ≤ v ∧ v ≤ 128) ∨ ∃ k ∈ (gateAt B i).inp, (own B k).has v = true := by
 have := zG8 hw (zCi h) v
 rwa [Int.toNat_of_nonneg h.1] at this
theorem okG (hw : WfN N B) {i : Int} (h : inB B i) : okN N i.toNat (gateAt B i) := hw _ _ (zCi h)
theorem zJj (hw : WfN N B) (s t : VS) : ∀ (n : Nat) (i : Int), i.toNat < n → inB B i → (∀ v, (own B i).has v = true → s.has v = t.has v) → nv B s i = nv B t i
 | 0, _, h, _, _ => absurd h (by omega)
 | n + 1, i, hn, hi, h => by
  rw [nvG hw s hi, nvG hw t hi]
  obtain ⟨hk, hf⟩ := okG hw hi
  have hin : ∀ k ∈ (gateAt B i).inp, bv (nvTo B s B.length) k = bv (nvTo B t B.length) k := fun k hk2 => by
   have hk3 := hk k hk2
   exact zJj hw s t n k (by omega) ⟨hk3.1, by have := hi.2; have := hi.1; omega⟩ (fun v hv => h v ((ownG hw hi v).2 (.inr ⟨k, hk2, hv⟩)))
  rcases hf with ⟨hk0, _⟩ | ⟨hk2, hl, _⟩ | ⟨hk3, _⟩
  ·unfold nodeV
   rcases hk0 with e | e <;> simp [e]
  ·have hl2 : litHolds s (gateAt B i).lit = litHolds t (gateAt B i).lit := by
    have hv : litVar (gateAt B i).lit ≠ 0 := by
     unfold litOk at hl; simp at hl; exact hl.1
    have hr := zDk (gateAt B i).lit
    unfold litHolds
    rw [h _ ((ownG hw hi _).2 (.inl ⟨rfl, by omega, hr.2⟩))]
   unfold nodeV
   simp [hk2, hl2]
  ·rw [zFa (s := s) hin]
   unfold nodeV
   rcases hk3 with e | e <;> simp [e]
end
end Go.Proofs.YtliiclmhpphpmaaGreatDoor
namespace Go.Proofs.YtliiclmhpphpmaaGreatDoor
open Go
theorem lit_neg {s : VS} {l : Int} (h : litVar l ≠ 0) : litHolds s (-l) = !litHolds s l := by
 have h1 : litVar (-l) = litVar l := by
  unfold litVar at h ⊢
  split at h
  ·rw [if_neg (by omega), if_pos (by omega), if_pos (by omega)]; omega
  ·split at h
   ·rw [if_pos (by omega), if_neg (by omega), if_pos (by omega)]
   ·omega
 have h2 : l ≠ 0 := by
  intro e
  subst e
  exact h (by decide)
 unfold litHolds
 rw [h1]
 have h3 : decide (litVar l ≠ 0) = true := decide_eq_true h
 rw [h3]
 by_cases hp : 0 < l
 ·rw [decide_eq_true hp, decide_eq_false (show ¬ 0 < -l by omega)]
  cases s.has (litVar l) <;> rfl
 ·rw [decide_eq_false hp, decide_eq_true (show 0 < -l by omega)]
  cases s.has (litVar l) <;> rfl
theorem zI5 {g : Gate} : ∀ {L : List Gate} {i k : Nat}, gidx g L i = some k → i ≤ k ∧ k < i + L.length ∧ L[k - i]? = some g
 | [], _, _, h => by cases h
 | h' :: L, i, k, h => by
  unfold gidx at h
  split at h
  ·rename_i e
   injection h with h
   subst h e
   simp
  ·obtain ⟨h1, h2, h3⟩ := zI5 h
   refine ⟨by omega, by simp; omega, ?_⟩
   rw [show k - i = (k - (i + 1)) + 1 by omega]
   simpa using h3
structure InS where
 out : List Int
 lits : List Int
 opn : Bool
def addIn (B : List Gate) (drop fin : Int) (S : InS) (i : Int) : InS :=
 if kindAt B i = fin ∨ (kindAt B i = 2 ∧ -(gateAt B i).lit ∈ S.lits) then ⟨S.out, if kindAt B i = 2 then (gateAt B i).lit :: S.lits else S.lits, false⟩
 else ⟨if kindAt B i ≠ drop ∧ i ∉ S.out then S.out ++ [i] else S.out, if kindAt B i = 2 then (gateAt B i).lit :: S.lits else S.lits, S.opn⟩
def flatIn (B : List Gate) (kind : Int) (l : List Int) : List Int := l.flatMap fun i => if kindAt B i = kind then (gateAt B i).inp else [i]
def insN (B : List Gate) (kind drop fin : Int) (l : List Int) : InS := (flatIn B kind l).foldl (addIn B drop fin) ⟨[], [], true⟩
def sortI (l : List Int) : List Int := l.mergeSort fun x y => decide (x ≤ y)
def dropOf (kind : Int) : Int := if kind = 3 then 1 else 0
def finOf (kind : Int) : Int := if kind = 3 then 0 else 1
def addN (B : List Gate) (x : Gate) : List Gate × Int :=
 if x.kind = 3 ∨ x.kind = 4 then
  if (insN B x.kind (dropOf x.kind) (finOf x.kind) x.inp).opn = false then findG B ⟨finOf x.kind, 0, []⟩
  else if (insN B x.kind (dropOf x.kind) (finOf x.kind) x.inp).out = [] then findG B ⟨dropOf x.kind, 0, []⟩
  else if (insN B x.kind (dropOf x.kind) (finOf x.kind) x.inp).out.length = 1 then (B, (sortI (insN B x.kind (dropOf x.kind) (finOf x.kind) x.inp).out).getD 0 0)
  else findG B ⟨x.kind, 0, sortI (insN B x.kind (dropOf x.kind) (finOf x.kind) x.inp).out⟩
 else findG B ⟨x.kind, x.lit, []⟩
theorem zB6 {l : List Int} {x : Int} : x ∈ sortI l ↔ x ∈ l := by unfold sortI; exact List.mem_mergeSort
theorem zDa (l : List Int) : (sortI l).Perm l := List.mergeSort_perm _ _
structure InI (B : List Gate) (drop fin : Int) (p : List Int) (S : InS) : Prop where
 mem : ∀ i ∈ S.out, i ∈ p ∧ kindAt B i ≠ drop ∧ kindAt B i ≠ fin
 yes : S.opn = true → ∀ i ∈ p, kindAt B i ≠ fin ∧ (kindAt B i = drop ∨ i ∈ S.out)
 no : S.opn = false → (∃ i ∈ p, kindAt B i = fin) ∨ ∃ i ∈ p, ∃ j ∈ p, kindAt B i = 2 ∧ kindAt B j = 2 ∧ (gateAt B j).lit = -(gateAt B i).lit
 lits : ∀ l, l ∈ S.lits → ∃ i ∈ p, kindAt B i = 2 ∧ (gateAt B i).lit = l
 nd : S.out.Nodup
theorem InI.step {B : List Gate} {drop fin : Int} {p : List Int} {S : InS} (h : InI B drop fin p S) (i : Int) : InI B drop fin (p ++ [i]) (addIn B drop fin S i) := by
 have up : ∀ {x : Int}, x ∈ p → x ∈ p ++ [i] := fun hx => List.mem_append_left _ hx
 have me : i ∈ p ++ [i] := by simp
 have hl : ∀ l, l ∈ (if kindAt B i = 2 then (gateAt B i).lit :: S.lits else S.lits) → ∃ j ∈ p ++ [i], kindAt B j = 2 ∧ (gateAt B j).lit = l := fun l hl => by
  split at hl
  ·rename_i h2
   rcases List.mem_cons.1 hl with rfl | hl
   ·exact ⟨i, me, h2, rfl⟩
   ·obtain ⟨j, hj, q⟩ := h.lits l hl; exact ⟨j, up hj, q⟩
  ·obtain ⟨j, hj, q⟩ := h.lits l hl; exact ⟨j, up hj, q⟩
 unfold addIn
 split
 ·rename_i hb
  refine ⟨fun j hj => ⟨up (h.mem j hj).1, (h.mem j hj).2⟩, (fun q => by cases q), fun _ => ?_, hl, h.nd⟩
  rcases hb with e | ⟨e, hm⟩
  ·exact .inl ⟨i, me, e⟩
  ·obtain ⟨j, hj, q1, q2⟩ := h.lits _ hm
   exact .inr ⟨i, me, j, up hj, e, q1, q2⟩
 ·rename_i hb
  have hfin : kindAt B i ≠ fin := fun e => hb (.inl e)
  by_cases hd : kindAt B i ≠ drop ∧ i ∉ S.out
  ·rw [if_pos hd]
   refine ⟨fun j hj => ?_, fun q j hj => ?_, fun q => ?_, hl, ?_⟩
   ·rcases List.mem_append.1 hj with hj | hj
    ·exact ⟨up (h.mem j hj).1, (h.mem j hj).2⟩
    ·rw [List.mem_singleton.1 hj]; exact ⟨me, hd.1, hfin⟩
   ·rcases List.mem_append.1 hj with hj | hj
    ·obtain ⟨q1, q2⟩ := h.yes q j hj
     exact ⟨q1, q2.imp id (fun q3 => List.mem_append_left _ q3)⟩
    ·rw [List.mem_singleton.1 hj]; exact ⟨hfin, .inr (by simp)⟩
   ·rcases h.no q with ⟨j, hj, e⟩ | ⟨j, hj, k, hk, q⟩
    ·exact .inl ⟨j, up hj, e⟩
    ·exact .inr ⟨j, up hj, k, up hk, q⟩
   ·exact List.nodup_append.2 ⟨h.nd, by simp, fun a ha b hb e => by rw [List.mem_singleton.1 hb] at e; exact hd.2 (e ▸ ha)⟩
  ·rw [if_neg hd]
   refine ⟨fun j hj => ⟨up (h.mem j hj).1, (h.mem j hj).2⟩, fun q j hj => ?_, fun q => ?_, hl, h.nd⟩
   ·rcases List.mem_append.1 hj with hj | hj
    ·exact h.yes q j hj
    ·rw [List.mem_singleton.1 hj]
     refine ⟨hfin, ?_⟩
     by_cases e : kindAt B i = drop
     ·exact .inl e
     ·refine .inr (Classical.byContradiction fun hn => hd ⟨e, hn⟩)
   ·rcases h.no q with ⟨j, hj, e⟩ | ⟨j, hj, k, hk, q⟩
    ·exact .inl ⟨j, up hj, e⟩
    ·exact .inr ⟨j, up hj, k, up hk, q⟩
theorem InI.all {B : List Gate} {drop fin : Int} : ∀ (l p : List Int) (S : InS), InI B drop fin p S → InI B drop fin (p ++ l) (l.foldl (addIn B drop fin) S)
 | [], p, S, h => by rw [List.append_nil]; exact h
 | x :: l, p, S, h => by
  have := InI.all l (p ++ [x]) _ (h.step x)
  rw [List.append_assoc] at this
  exact this
theorem zIb (B : List Gate) (kind drop fin : Int) (l : List Int) : InI B drop fin (flatIn B kind l) (insN B kind drop fin l) := by
 have := InI.all (B := B) (drop := drop) (fin := fin) (flatIn B kind l) [] ⟨[], [], true⟩ ⟨(fun i hi => by simp at hi), (fun _ i hi => by simp at hi), (fun q => by cases q), (fun l hl => by simp at hl), List.nodup_nil⟩
 rwa [List.nil_append] at this
theorem zCu {B : List Gate} {kind : Int} {l : List Int} {x : Int} : x ∈ flatIn B kind l ↔ ∃ i ∈ l, (kindAt B i = kind ∧ x ∈ (gateAt B i).inp) ∨ (kindAt B i ≠ kind ∧ x = i) := by
 unfold flatIn
 rw [List.mem_flatMap]
 constructor
 ·rintro ⟨i, hi, hx⟩
  refine ⟨i, hi, ?_⟩
  split at hx
  ·rename_i e; exact .inl ⟨e, hx⟩
  ·rename_i e; exact .inr ⟨e, List.mem_singleton.1 hx⟩
 ·rintro ⟨i, hi, ⟨e, hx⟩ | ⟨e, hx⟩⟩
  ·exact ⟨i, hi, by rw [if_pos e]; exact hx⟩
  ·exact ⟨i, hi, by rw [if_neg e]; simp [hx]⟩
/-! ### Separations -/
theorem pw_all {R : Int → Int → Prop} (hs : ∀ a b, R a b → R b a) : ∀ {l : List Int}, l.Pairwise R → ∀ a ∈ l, ∀ b ∈ l, a ≠ b → R a b
 | [], _, a, ha, _, _, _ => by simp at ha
 | x :: l, h, a, ha, b, hb, hne => by
  obtain ⟨h1, h2⟩ := List.pairwise_cons.1 h
  rcases List.mem_cons.1 ha with ea | ha2
  ·rcases List.mem_cons.1 hb with eb | hb2
   ·exact absurd (ea.trans eb.symm) hne
   ·rw [ea]; exact h1 b hb2
  ·rcases List.mem_cons.1 hb with eb | hb2
   ·rw [eb]; exact hs _ _ (h1 a ha2)
   ·exact pw_all hs h2 a ha2 b hb2 hne
theorem zI7 {B : List Gate} {kind : Int} {R : Int → Int → Prop} (hs : ∀ a b, R a b → R b a) (hin : ∀ a b k, R a b → kindAt B a = kind → k ∈ (gateAt B a).inp → R k b) :
  ∀ {l : List Int}, l.Pairwise R → (∀ i ∈ l, kindAt B i = kind → (gateAt B i).inp.Pairwise R) → (flatIn B kind l).Pairwise R
 | [], _, _ => by simp [flatIn]
 | x :: l, h, hk => by
  obtain ⟨h1, h2⟩ := List.pairwise_cons.1 h
  have ih := zI7 hs hin h2 (fun i hi => hk i (by simp [hi]))
  have e : flatIn B kind (x :: l) = (if kindAt B x = kind then (gateAt B x).inp else [x]) ++ flatIn B kind l := by simp [flatIn]
  rw [e, List.pairwise_append]
  refine ⟨?_, ih, fun a ha b hb => ?_⟩
  ·split
   ·rename_i e; exact hk x (by simp) e
   ·simp
  ·obtain ⟨j, hj, hb⟩ := zCu.1 hb
   have hxj := h1 j hj
   have hxb : R x b := by
    rcases hb with ⟨e, hb⟩ | ⟨_, rfl⟩
    ·exact hs _ _ (hin j x b (hs _ _ hxj) e hb)
    ·exact hxj
   split at ha
   ·rename_i e; exact hin x b a hxb e ha
   ·rw [List.mem_singleton.1 ha]; exact hxb
def RA (B : List Gate) (a b : Int) : Prop := ∀ v, ¬ ((own B a).has v = true ∧ (own B b).has v = true)
def RO (B : List Gate) (a b : Int) : Prop := ∀ s, ¬ (nv B s a = true ∧ nv B s b = true)
def DD (B : List Gate) : Prop := ∀ (i : Nat) (g : Gate), B[i]? = some g → (g.kind = 3 → g.inp.Pairwise (RA B)) ∧ (g.kind = 4 → g.inp.Pairwise (RO B))
theorem RA.symm {B : List Gate} : ∀ a b, RA B a b → RA B b a := fun _ _ h v q => h v ⟨q.2, q.1⟩
theorem RO.symm {B : List Gate} : ∀ a b, RO B a b → RO B b a := fun _ _ h v q => h v ⟨q.2, q.1⟩
theorem out_pw {R : Int → Int → Prop} (hs : ∀ a b, R a b → R b a) {f out : List Int} (hf : f.Pairwise R) (hm : ∀ i ∈ out, i ∈ f) (hn : out.Nodup) : (sortI out).Pairwise R := by
 have hn2 : (sortI out).Nodup := ((zDa out).nodup_iff).2 hn
 exact List.Pairwise.imp_of_mem (fun {a b} ha hb hne => pw_all hs hf a (hm a (zB6.1 ha)) b (hm b (zB6.1 hb)) hne) hn2
/-! ### What Add makes -/
section
variable {N : Int} {B : List Gate}
theorem kv (hw : WfN N B) (s : VS) {i : Int} (h : inB B i) : (kindAt B i = 0 → nv B s i = false) ∧ (kindAt B i = 1 → nv B s i = true) ∧ (kindAt B i = 2 → nv B s i = litHolds s (gateAt B i).lit) ∧
  (kindAt B i = 3 → nv B s i = (gateAt B i).inp.all (fun k => nv B s k)) ∧ (kindAt B i = 4 → nv B s i = (gateAt B i).inp.any (fun k => nv B s k)) := by
 rw [nvG hw s h]
 unfold nodeV kindAt
 refine ⟨fun e => by simp [e], fun e => by simp [e], fun e => by simp [e], fun e => by simp [e]; rfl, fun e => by simp [e]; rfl⟩
theorem lit_op {s : VS} {a b : Int} {N : Int} (ha : litOk a N = true) (h : b = -a) : litHolds s b = !litHolds s a := by
 have hv : litVar a ≠ 0 := by unfold litOk at ha; simp at ha; exact ha.1
 rw [h]; exact lit_neg hv
theorem zFn (hw : WfN N B) {i k : Int} (h : inB B i) (hk : k ∈ (gateAt B i).inp) : inB B k := by
 have := (okG hw h).1 k hk
 exact ⟨this.1, by have := h.2; have := h.1; omega⟩
theorem flat_in (hw : WfN N B) {kind : Int} {l : List Int} (hl : ∀ k ∈ l, inB B k) {x : Int} (hx : x ∈ flatIn B kind l) : inB B x := by
 obtain ⟨i, hi, ⟨_, h⟩ | ⟨_, rfl⟩⟩ := zCu.1 hx
 ·exact zFn hw (hl i hi) h
 ·exact hl _ hi
theorem flat_own (hw : WfN N B) {kind : Int} {l : List Int} (hl : ∀ k ∈ l, inB B k) {x v : Int} (hx : x ∈ flatIn B kind l) (hv : (own B x).has v = true) : ∃ k ∈ l, (own B k).has v = true := by
 obtain ⟨i, hi, ⟨_, h⟩ | ⟨_, rfl⟩⟩ := zCu.1 hx
 ·exact ⟨i, hi, (ownG hw (hl i hi) v).2 (.inr ⟨x, h, hv⟩)⟩
 ·exact ⟨_, hi, hv⟩
theorem flat_all (hw : WfN N B) (s : VS) {l : List Int} (hl : ∀ k ∈ l, inB B k) : (flatIn B 3 l).all (fun k => nv B s k) = l.all (fun k => nv B s k) := by
 rw [Bool.eq_iff_iff, List.all_eq_true, List.all_eq_true]
 constructor
 ·intro h k hk
  by_cases e : kindAt B k = 3
  ·rw [(kv hw s (hl k hk)).2.2.2.1 e, List.all_eq_true]
   exact fun x hx => h x (zCu.2 ⟨k, hk, .inl ⟨e, hx⟩⟩)
  ·exact h k (zCu.2 ⟨k, hk, .inr ⟨e, rfl⟩⟩)
 ·intro h x hx
  obtain ⟨i, hi, ⟨e, hx⟩ | ⟨_, rfl⟩⟩ := zCu.1 hx
  ·have := h i hi
   rw [(kv hw s (hl i hi)).2.2.2.1 e, List.all_eq_true] at this
   exact this x hx
  ·exact h _ hi
theorem flat_any (hw : WfN N B) (s : VS) {l : List Int} (hl : ∀ k ∈ l, inB B k) : (flatIn B 4 l).any (fun k => nv B s k) = l.any (fun k => nv B s k) := by
 rw [Bool.eq_iff_iff, List.any_eq_true, List.any_eq_true]
 constructor
 ·rintro ⟨x, hx, q⟩
  obtain ⟨i, hi, ⟨e, hx⟩ | ⟨_, rfl⟩⟩ := zCu.1 hx
  ·exact ⟨i, hi, by rw [(kv hw s (hl i hi)).2.2.2.2 e, List.any_eq_true]; exact ⟨x, hx, q⟩⟩
  ·exact ⟨_, hi, q⟩
 ·rintro ⟨k, hk, q⟩
  by_cases e : kindAt B k = 4
  ·rw [(kv hw s (hl k hk)).2.2.2.2 e, List.any_eq_true] at q
   obtain ⟨x, hx, q⟩ := q
   exact ⟨x, zCu.2 ⟨k, hk, .inl ⟨e, hx⟩⟩, q⟩
  ·exact ⟨k, zCu.2 ⟨k, hk, .inr ⟨e, rfl⟩⟩, q⟩
structure Added (N : Int) (B : List Gate) (q : List Gate × Int) (val : VS → Bool) (vars : Int → Prop) : Prop where
 ext : q.1 = B ∨ ∃ g, q.1 = B ++ [g]
 wf : WfN N q.1
 dd : DD q.1
 at_ : inB q.1 q.2
 val : ∀ s, nv q.1 s q.2 = val s
 vars : ∀ v, (own q.1 q.2).has v = true → vars v
theorem DD.snoc (hw : WfN N B) (hd : DD B) {g : Gate} (hg : ∀ k ∈ g.inp, inB B k) (h3 : g.kind = 3 → g.inp.Pairwise (RA B)) (h4 : g.kind = 4 → g.inp.Pairwise (RO B)) : DD (B ++ [g]) := by
 have key : ∀ h : Gate, (∀ k ∈ h.inp, inB B k) → (h.kind = 3 → h.inp.Pairwise (RA B)) → (h.kind = 4 → h.inp.Pairwise (RO B)) → (h.kind = 3 → h.inp.Pairwise (RA (B ++ [g]))) ∧ (h.kind = 4 → h.inp.Pairwise (RO (B ++ [g]))) := fun h hh q3 q4 =>
  ⟨fun e => (q3 e).imp_of_mem (fun {a b} ha hb r v => by rw [zH7 _ (hh a ha), zH7 _ (hh b hb)]; exact r v),
   fun e => (q4 e).imp_of_mem (fun {a b} ha hb r s => by rw [zJi _ s (hh a ha), zJi _ s (hh b hb)]; exact r s)⟩
 intro i h hi
 by_cases hl : i < B.length
 ·rw [List.getElem?_append_left hl] at hi
  exact key h (fun k hk => by have := (hw i h hi).1 k hk; exact ⟨this.1, by omega⟩) (hd i h hi).1 (hd i h hi).2
 ·rw [List.getElem?_append_right (by omega)] at hi
  have h1 := (List.getElem?_eq_some_iff.1 hi).1
  simp at h1
  have e : i = B.length := by omega
  subst e
  simp at hi
  rw [← hi]
  exact key g hg h3 h4
theorem zGb (hw : WfN N B) (hd : DD B) {g : Gate} (hg : okN N B.length g) (h3 : g.kind = 3 → g.inp.Pairwise (RA B)) (h4 : g.kind = 4 → g.inp.Pairwise (RO B)) :
  Added N B (findG B g) (fun s => nodeV g s (nvTo B s B.length)) (fun v => (v = litVar g.lit ∧ 1 ≤ v ∧ v ≤ 128) ∨ ∃ k ∈ g.inp, (own B k).has v = true) := by
 unfold findG
 cases hx : gidx g B 0 with
 | some i =>
  obtain ⟨_, _, hgi⟩ := zI5 hx
  rw [Nat.sub_zero] at hgi
  have hi := (List.getElem?_eq_some_iff.1 hgi).1
  show Added N B (B, (i : Int)) _ _
  exact ⟨.inl rfl, hw, hd, ⟨by show (0 : Int) ≤ i; omega, by show (i : Int) < (B.length : Int); omega⟩, fun s => nv_at hw s hgi, fun v hv => (zG8 hw hgi v).1 hv⟩
 | none =>
  have hw2 := hw.snoc hg
  have hin : ∀ k ∈ g.inp, inB B k := fun k hk => by have := hg.1 k hk; exact ⟨this.1, this.2⟩
  have hge : (B ++ [g])[B.length]? = some g := by simp
  show Added N B (B ++ [g], (B.length : Int)) _ _
  refine ⟨.inr ⟨g, rfl⟩, hw2, hd.snoc hw hin h3 h4, ⟨by show (0 : Int) ≤ B.length; omega, by simp; omega⟩, fun s => ?_, fun v hv => ?_⟩
  ·refine (nv_at hw2 s hge).trans (zFa (fun k hk => ?_))
   exact zJi [g] s (hin k hk)
  ·rcases (zG8 hw2 hge v).1 hv with h | ⟨k, hk, h⟩
   ·exact .inl h
   ·exact .inr ⟨k, hk, by rw [← zH7 [g] (hin k hk)]; exact h⟩
theorem zD0 (hw : WfN N B) (hd : DD B) {x : Gate} (hx : okN N B.length x) (h3 : x.kind = 3 → x.inp.Pairwise (RA B)) (h4 : x.kind = 4 → x.inp.Pairwise (RO B)) :
  Added N B (addN B x) (fun s => nodeV x s (nvTo B s B.length)) (fun v => (v = litVar x.lit ∧ 1 ≤ v ∧ v ≤ 128) ∨ ∃ k ∈ x.inp, (own B k).has v = true) := by
 have hin : ∀ k ∈ x.inp, inB B k := fun k hk => by have := hx.1 k hk; exact ⟨this.1, this.2⟩
 unfold addN
 by_cases hk : x.kind = 3 ∨ x.kind = 4
 ·rw [if_pos hk]
  have hI := zIb B x.kind (dropOf x.kind) (finOf x.kind) x.inp
  generalize insN B x.kind (dropOf x.kind) (finOf x.kind) x.inp = S at hI
  have hfi : ∀ i ∈ flatIn B x.kind x.inp, inB B i := fun i hi => flat_in hw hin hi
  have hsub : ∀ i ∈ S.out, inB B i := fun i hi => hfi i (hI.mem i hi).1
  have hov : ∀ i ∈ S.out, ∀ v, (own B i).has v = true → ∃ k ∈ x.inp, (own B k).has v = true := fun i hi v hv => flat_own hw hin (hI.mem i hi).1 hv
  have hdk : (dropOf x.kind = 0 ∨ dropOf x.kind = 1) ∧ (finOf x.kind = 0 ∨ finOf x.kind = 1) := by unfold dropOf finOf; split <;> simp
  have okc : ∀ c : Int, c = 0 ∨ c = 1 → okN N B.length ⟨c, 0, []⟩ := fun c hc => ⟨fun k hk => by simp at hk, .inl ⟨hc, rfl, rfl⟩⟩
  have constA : ∀ c : Int, (c = 0 ∨ c = 1) → ∀ b : VS → Bool, (∀ s, decide (c = 1) = b s) → Added N B (findG B ⟨c, 0, []⟩) b (fun v => (v = litVar x.lit ∧ 1 ≤ v ∧ v ≤ 128) ∨ ∃ k ∈ x.inp, (own B k).has v = true) := fun c hc b hb => by
   have hA := zGb hw hd (okc c hc) (fun e => by simp at e; omega) (fun e => by simp at e; omega)
   refine ⟨hA.ext, hA.wf, hA.dd, hA.at_, fun s => ?_, fun v hv => ?_⟩
   ·rw [hA.val s, ← hb s]
    unfold nodeV
    rcases hc with rfl | rfl <;> simp
   ·rcases hA.vars v hv with ⟨h, h1, _⟩ | ⟨k, hk, _⟩
    ·have : litVar 0 = 0 := by decide
     simp only [this] at h; omega
    ·simp at hk
  have hval : ∀ s, (S.opn = false → nodeV x s (nvTo B s B.length) = decide (finOf x.kind = 1)) ∧ (S.opn = true → nodeV x s (nvTo B s B.length) = nodeV ⟨x.kind, 0, sortI S.out⟩ s (nvTo B s B.length)) := fun s => by
   rcases hk with e | e
   ·have hnx : nodeV x s (nvTo B s B.length) = (flatIn B 3 x.inp).all (fun k => nv B s k) := by rw [flat_all hw s hin]; unfold nodeV; simp [e]; rfl
    rw [hnx]
    rw [e] at hI hfi ⊢
    have ed : dropOf 3 = 1 := rfl
    have ef : finOf 3 = 0 := rfl
    rw [ed, ef] at hI
    refine ⟨fun q => ?_, fun q => ?_⟩
    ·rw [ef]
     have : (flatIn B 3 x.inp).all (fun k => nv B s k) = false := by
      rw [Bool.eq_false_iff]
      intro ha
      rw [List.all_eq_true] at ha
      rcases hI.no q with ⟨i, hi, ek⟩ | ⟨i, hi, j, hj, e1, e2, e3⟩
      ·have := ha i hi
       rw [(kv hw s (hfi i hi)).1 ek] at this; cases this
      ·have h1 := ha i hi
       have h2 := ha j hj
       rw [(kv hw s (hfi i hi)).2.2.1 e1] at h1
       rw [(kv hw s (hfi j hj)).2.2.1 e2] at h2
       have hok : litOk (gateAt B i).lit N = true := by
        rcases (okG hw (hfi i hi)).2 with ⟨h, _⟩ | ⟨_, h, _⟩ | ⟨h, _⟩
        ·unfold kindAt at e1; omega
        ·exact h
        ·unfold kindAt at e1; omega
       rw [lit_op hok e3, h1] at h2
       cases h2
     rw [this]; simp
    ·show _ = (if (3 : Int) = 1 then true else if (3 : Int) = 2 then _ else if (3 : Int) = 3 then (sortI S.out).all (bv (nvTo B s B.length)) else _)
     rw [if_neg (by decide), if_neg (by decide), if_pos rfl, Bool.eq_iff_iff, List.all_eq_true, List.all_eq_true]
     constructor
     ·intro h k hk
      exact h k (hI.mem k (zB6.1 hk)).1
     ·intro h k hk
      rcases (hI.yes q k hk).2 with e2 | e2
      ·exact (kv hw s (hfi k hk)).2.1 e2
      ·exact h k (zB6.2 e2)
   ·have hnx : nodeV x s (nvTo B s B.length) = (flatIn B 4 x.inp).any (fun k => nv B s k) := by rw [flat_any hw s hin]; unfold nodeV; simp [e]; rfl
    rw [hnx]
    rw [e] at hI hfi ⊢
    have ed : dropOf 4 = 0 := rfl
    have ef : finOf 4 = 1 := rfl
    rw [ed, ef] at hI
    refine ⟨fun q => ?_, fun q => ?_⟩
    ·rw [ef]
     have : (flatIn B 4 x.inp).any (fun k => nv B s k) = true := by
      rw [List.any_eq_true]
      rcases hI.no q with ⟨i, hi, ek⟩ | ⟨i, hi, j, hj, e1, e2, e3⟩
      ·exact ⟨i, hi, (kv hw s (hfi i hi)).2.1 ek⟩
      ·have hok : litOk (gateAt B i).lit N = true := by
        rcases (okG hw (hfi i hi)).2 with ⟨h, _⟩ | ⟨_, h, _⟩ | ⟨h, _⟩
        ·unfold kindAt at e1; omega
        ·exact h
        ·unfold kindAt at e1; omega
       cases h1 : litHolds s (gateAt B i).lit with
       | true => exact ⟨i, hi, by rw [(kv hw s (hfi i hi)).2.2.1 e1, h1]⟩
       | false => exact ⟨j, hj, by rw [(kv hw s (hfi j hj)).2.2.1 e2, lit_op hok e3, h1]; rfl⟩
     rw [this]; simp
    ·show _ = (if (4 : Int) = 1 then true else if (4 : Int) = 2 then _ else if (4 : Int) = 3 then _ else if (4 : Int) = 4 then (sortI S.out).any (bv (nvTo B s B.length)) else _)
     rw [if_neg (by decide), if_neg (by decide), if_neg (by decide), if_pos rfl, Bool.eq_iff_iff, List.any_eq_true, List.any_eq_true]
     constructor
     ·rintro ⟨k, hk, h⟩
      rcases (hI.yes q k hk).2 with e2 | e2
      ·rw [(kv hw s (hfi k hk)).1 e2] at h; cases h
      ·exact ⟨k, zB6.2 e2, h⟩
     ·rintro ⟨k, hk, h⟩
      exact ⟨k, (hI.mem k (zB6.1 hk)).1, h⟩
  by_cases ho : S.opn = false
  ·rw [if_pos ho]
   exact constA _ hdk.2 _ (fun s => ((hval s).1 ho).symm)
  ·rw [if_neg ho]
   have ho2 : S.opn = true := by simpa using ho
   by_cases hn : S.out = []
   ·rw [if_pos hn]
    refine constA _ hdk.1 _ (fun s => ?_)
    rw [(hval s).2 ho2, hn]
    rcases hk with e | e <;> simp [nodeV, e, dropOf, sortI]
   ·rw [if_neg hn]
    by_cases h1 : S.out.length = 1
    ·rw [if_pos h1]
     obtain ⟨a, ha⟩ := List.length_eq_one_iff.1 h1
     have hs1 : sortI S.out = [a] := by rw [ha]; simp [sortI]
     have haS : a ∈ S.out := by rw [ha]; simp
     rw [hs1]
     refine ⟨.inl rfl, hw, hd, hsub a haS, fun s => ?_, fun v hv => .inr (hov a haS v hv)⟩
     rw [(hval s).2 ho2, hs1]
     show nv B s a = _
     rcases hk with e | e <;> simp [nodeV, e] <;> rfl
    ·rw [if_neg h1]
     have hok : okN N B.length ⟨x.kind, 0, sortI S.out⟩ := ⟨fun k hk => by have := hsub k (zB6.1 hk); exact ⟨this.1, this.2⟩, .inr (.inr ⟨hk, rfl⟩)⟩
     have hA := zGb hw hd hok
      (fun e => out_pw RA.symm (zI7 RA.symm (fun a b k r e2 hk2 v q => by
        by_cases ha : inB B a
        ·exact r v ⟨(ownG hw ha v).2 (.inr ⟨k, hk2, q.1⟩), q.2⟩
        ·unfold gateAt at hk2
         by_cases h0 : 0 ≤ a
         ·rw [List.getD_eq_getElem?_getD, List.getElem?_eq_none (by unfold inB at ha; omega)] at hk2
          simp at hk2
         ·have e3 : a.toNat = 0 := by omega
          have := r v
          unfold own sv at this
          rw [e3] at this hk2
          by_cases hB : 0 < B.length
          ·have hz : inB B 0 := ⟨by omega, by omega⟩
           have hq := (ownG hw hz v).2 (.inr ⟨k, by unfold gateAt; exact hk2, q.1⟩)
           unfold own sv at hq
           exact this ⟨hq, q.2⟩
          ·rw [List.getD_eq_getElem?_getD, List.getElem?_eq_none (by omega)] at hk2
           simp at hk2) (h3 e) (fun i hi e2 => (hd _ _ (zCi (hin i hi))).1 (by have : (gateAt B i).kind = x.kind := e2; rw [this]; exact e))) (fun i hi => (hI.mem i hi).1) hI.nd)
      (fun e => out_pw RO.symm (zI7 RO.symm (fun a b k r e2 hk2 s q => by
        by_cases ha : inB B a
        ·exact r s ⟨by rw [(kv hw s ha).2.2.2.2 (e2.trans e), List.any_eq_true]; exact ⟨k, hk2, q.1⟩, q.2⟩
        ·unfold gateAt at hk2
         by_cases h0 : 0 ≤ a
         ·rw [List.getD_eq_getElem?_getD, List.getElem?_eq_none (by unfold inB at ha; omega)] at hk2
          simp at hk2
         ·have e3 : a.toNat = 0 := by omega
          have := r s
          unfold nv bv at this
          rw [e3] at this hk2
          unfold kindAt gateAt at e2
          rw [e3] at e2
          by_cases hB : 0 < B.length
          ·have hz : inB B 0 := ⟨by omega, by omega⟩
           have hq : nv B s 0 = true := by
            rw [(kv hw s hz).2.2.2.2 (by unfold kindAt gateAt; exact e2.trans e), List.any_eq_true]
            exact ⟨k, by unfold gateAt; exact hk2, q.1⟩
           unfold nv bv at hq
           exact this ⟨hq, q.2⟩
          ·rw [List.getD_eq_getElem?_getD, List.getElem?_eq_none (by omega)] at hk2
           simp at hk2) (h4 e) (fun i hi e2 => (hd _ _ (zCi (hin i hi))).2 (by have : (gateAt B i).kind = x.kind := e2; rw [this]; exact e))) (fun i hi => (hI.mem i hi).1) hI.nd)
     refine ⟨hA.ext, hA.wf, hA.dd, hA.at_, fun s => (hA.val s).trans ((hval s).2 ho2).symm, fun v hv => ?_⟩
     rcases hA.vars v hv with ⟨h, h5, _⟩ | ⟨k, hk2, h⟩
     ·have : litVar 0 = 0 := by decide
      simp only [this] at h; omega
     ·exact .inr (hov k (zB6.1 hk2) v h)
 ·rw [if_neg hk]
  have e : x.inp = [] := by
   rcases hx.2 with ⟨_, _, h⟩ | ⟨_, _, h⟩ | ⟨h, _⟩
   ·exact h
   ·exact h
   ·exact absurd h hk
  have e2 : x = ⟨x.kind, x.lit, []⟩ := by cases x; simp only at e; rw [e]
  have hA := zGb hw hd hx h3 h4
  rw [← e2]
  exact hA
end
end Go.Proofs.YtliiclmhpphpmaaGreatDoor
namespace Go.Proofs.YtliiclmhpphpmaaGreatDoor
open Go
def leafN (B : List Gate) (c : Bool) : List Gate × Int := addN B ⟨if c then 1 else 0, 0, []⟩
def ask1 (B : List Gate) (v : Int) : List Gate × Int := addN B ⟨2, -v, []⟩
def ask2 (B : List Gate) (v : Int) : List Gate × Int := addN (ask1 B v).1 ⟨2, v, []⟩
def ask3 (B : List Gate) (v no : Int) : List Gate × Int := addN (ask2 B v).1 ⟨3, 0, [(ask1 B v).2, no]⟩
def ask4 (B : List Gate) (v no yes : Int) : List Gate × Int := addN (ask3 B v no).1 ⟨3, 0, [(ask2 B v).2, yes]⟩
def ask5 (B : List Gate) (v no yes : Int) : List Gate × Int := addN (ask4 B v no yes).1 ⟨4, 0, [(ask3 B v no).2, (ask4 B v no yes).2]⟩
def askN (B : List Gate) (v no yes : Int) : List Gate × Int := if no = yes then (B, no) else ask5 B v no yes
def foldN (ts : List TN) : Nat → List Gate × List Int
  | 0 => ([], List.replicate ts.length 0)
  | m + 1 => match ts[ts.length - 1 - m]? with
    | none => foldN ts m
    | some x => if x.v = 0 then ((leafN (foldN ts m).1 x.c).1, (foldN ts m).2.set (ts.length - 1 - m) (leafN (foldN ts m).1 x.c).2)
      else ((askN (foldN ts m).1 x.v ((foldN ts m).2.getD x.no.toNat 0) ((foldN ts m).2.getD x.yes.toNat 0)).1,
        (foldN ts m).2.set (ts.length - 1 - m) (askN (foldN ts m).1 x.v ((foldN ts m).2.getD x.no.toNat 0) ((foldN ts m).2.getD x.yes.toNat 0)).2)
def treeN (ts : List TN) : List Gate × Int := ((foldN ts ts.length).1, (foldN ts ts.length).2.getD 0 0)
structure Grown (N : Int) (k : Nat) (B : List Gate) (q : List Gate × Int) (val : VS → Bool) (vars : Int → Prop) : Prop where
  ext : ∃ M, q.1 = B ++ M ∧ M.length ≤ k
  wf : WfN N q.1
  dd : DD q.1
  at_ : inB q.1 q.2
  val : ∀ s, nv q.1 s q.2 = val s
  vars : ∀ v, (own q.1 q.2).has v = true → vars v
section
variable {N : Int} {B : List Gate}
theorem zD6 {C : List Gate} (h : ∃ M, C = B ++ M) {i : Int} (hi : inB B i) : inB C i ∧ (∀ s, nv C s i = nv B s i) ∧ own C i = own B i := by
  obtain ⟨M, rfl⟩ := h
  exact ⟨⟨hi.1, by have := hi.2; simp; omega⟩, fun s => zJi _ s hi, zH7 _ hi⟩
theorem Added.grown {q : List Gate × Int} {val : VS → Bool} {vars : Int → Prop} (h : Added N B q val vars) {val' : VS → Bool} {vars' : Int → Prop} (hv : ∀ s, val s = val' s) (hr : ∀ v, vars v → vars' v) : Grown N 1 B q val' vars' :=
  ⟨by rcases h.ext with e | ⟨g, e⟩ <;> rw [e]
      · exact ⟨[], by simp⟩
      · exact ⟨[g], by simp⟩, h.wf, h.dd, h.at_, fun s => (h.val s).trans (hv s), fun v hv => hr v (h.vars v hv)⟩
theorem litN {s : VS} {v : Int} (h1 : 1 ≤ v) (h2 : v ≤ 128) : litHolds s v = s.has v ∧ litHolds s (-v) = !s.has v ∧ litVar v = v ∧ litVar (-v) = v := by
  have hl : litVar v = v := by unfold litVar; rw [if_pos ⟨h1, h2⟩]
  have hl2 : litVar (-v) = v := by unfold litVar; rw [if_neg (by omega), if_pos (by omega)]; omega
  have h3 : litHolds s v = s.has v := by
    unfold litHolds
    rw [hl, decide_eq_true (show v ≠ 0 by omega), decide_eq_true (show 0 < v by omega)]
    cases s.has v <;> rfl
  exact ⟨h3, by rw [lit_neg (by rw [hl]; omega), h3], hl, hl2⟩
theorem leaf_grown (hw : WfN N B) (hd : DD B) (c : Bool) : Grown N 1 B (leafN B c) (fun _ => c) (fun _ => False) := by
  have hok : okN N B.length ⟨if c then 1 else 0, 0, []⟩ := ⟨fun k hk => by simp at hk, .inl ⟨by cases c <;> simp, rfl, rfl⟩⟩
  refine (zD0 hw hd hok (fun e => by cases c <;> simp at e) (fun e => by cases c <;> simp at e)).grown (fun s => by cases c <;> simp [nodeV]) (fun v hv => ?_)
  rcases hv with ⟨h, h1, _⟩ | ⟨k, hk, _⟩
  · have : litVar 0 = 0 := by decide
    simp only [this] at h; omega
  · simp at hk
theorem ask_grown (hw : WfN N B) (hd : DD B) {v no yes : Int} (hN : N ≤ 128) (h1 : 1 ≤ v) (h2 : v ≤ N) (hno : inB B no) (hyes : inB B yes) (vno : (own B no).has v = false) (vyes : (own B yes).has v = false) :
    Grown N 5 B (askN B v no yes) (fun s => if s.has v then nv B s yes else nv B s no) (fun u => u = v ∨ (own B no).has u = true ∨ (own B yes).has u = true) := by
  unfold askN
  by_cases he : no = yes
  · rw [if_pos he]
    exact ⟨⟨[], by simp, by simp⟩, hw, hd, hno, fun s => by show nv B s no = _; rw [he]; split <;> rfl, fun u hu => .inr (.inl hu)⟩
  · rw [if_neg he]
    have hlit := fun s => litN (s := s) h1 (show v ≤ 128 by omega)
    have hlv := (hlit VS.empty).2.2
    have ok1 : okN N B.length ⟨2, -v, []⟩ := ⟨fun k hk => by simp at hk, .inr (.inl ⟨rfl, by unfold litOk; rw [hlv.2]; simp; omega, rfl⟩)⟩
    have a1 : Grown N 1 B (ask1 B v) (fun s => !s.has v) (fun u => u = v) := (zD0 hw hd ok1 (fun e => by simp at e) (fun e => by simp at e)).grown (fun s => by simp [nodeV, (hlit s).2.1]) (fun u hu => by
      rcases hu with ⟨h, _⟩ | ⟨k, hk, _⟩
      · exact h.trans hlv.2
      · simp at hk)
    have ok2 : okN N (ask1 B v).1.length ⟨2, v, []⟩ := ⟨fun k hk => by simp at hk, .inr (.inl ⟨rfl, by unfold litOk; rw [hlv.1]; simp; omega, rfl⟩)⟩
    have a2 : Grown N 1 (ask1 B v).1 (ask2 B v) (fun s => s.has v) (fun u => u = v) := (zD0 a1.wf a1.dd ok2 (fun e => by simp at e) (fun e => by simp at e)).grown (fun s => by simp [nodeV, (hlit s).1]) (fun u hu => by
      rcases hu with ⟨h, _⟩ | ⟨k, hk, _⟩
      · exact h.trans hlv.1
      · simp at hk)
    obtain ⟨M1, e1, l1⟩ := a1.ext
    obtain ⟨M2, e2, l2⟩ := a2.ext
    have x12 : ∃ M, (ask2 B v).1 = (ask1 B v).1 ++ M := ⟨M2, e2⟩
    have x02 : ∃ M, (ask2 B v).1 = B ++ M := ⟨M1 ++ M2, by rw [e2, e1, List.append_assoc]⟩
    have k1 := zD6 x12 a1.at_
    have kno := zD6 x02 hno
    have kyes := zD6 x02 hyes
    have ok3 : okN N (ask2 B v).1.length ⟨3, 0, [(ask1 B v).2, no]⟩ := ⟨fun k hk => by
      simp at hk
      rcases hk with rfl | rfl
      · exact k1.1
      · exact kno.1, .inr (.inr ⟨.inl rfl, rfl⟩)⟩
    have a3 : Grown N 1 (ask2 B v).1 (ask3 B v no) (fun s => !s.has v && nv B s no) (fun u => u = v ∨ (own B no).has u = true) := (zD0 a2.wf a2.dd ok3 (fun _ => by
      refine List.Pairwise.cons (fun b hb => ?_) (List.pairwise_singleton _ _)
      rw [List.mem_singleton.1 hb]
      intro u hu
      rw [k1.2.2, kno.2.2] at hu
      have := a1.vars u hu.1
      rw [this, vno] at hu
      exact absurd hu.2 (by simp)) (fun e => by simp at e)).grown (fun s => by
        show nodeV ⟨3, 0, [(ask1 B v).2, no]⟩ s _ = _
        have q1 : bv (nvTo (ask2 B v).1 s (ask2 B v).1.length) (ask1 B v).2 = !s.has v := (k1.2.1 s).trans (a1.val s)
        have q2 : bv (nvTo (ask2 B v).1 s (ask2 B v).1.length) no = nv B s no := kno.2.1 s
        simp [nodeV, q1, q2]) (fun u hu => by
      rcases hu with ⟨h, h3, _⟩ | ⟨k, hk, h⟩
      · have : litVar 0 = 0 := by decide
        simp only [this] at h; omega
      · simp at hk
        rcases hk with rfl | rfl
        · rw [k1.2.2] at h; exact .inl (a1.vars u h)
        · rw [kno.2.2] at h; exact .inr h)
    obtain ⟨M3, e3, l3⟩ := a3.ext
    have x23 : ∃ M, (ask3 B v no).1 = (ask2 B v).1 ++ M := ⟨M3, e3⟩
    have x03 : ∃ M, (ask3 B v no).1 = B ++ M := ⟨M1 ++ (M2 ++ M3), by rw [e3, e2, e1]; simp⟩
    have k2 := zD6 x23 a2.at_
    have kyes3 := zD6 x03 hyes
    have ok4 : okN N (ask3 B v no).1.length ⟨3, 0, [(ask2 B v).2, yes]⟩ := ⟨fun k hk => by
      simp at hk
      rcases hk with rfl | rfl
      · exact k2.1
      · exact kyes3.1, .inr (.inr ⟨.inl rfl, rfl⟩)⟩
    have a4 : Grown N 1 (ask3 B v no).1 (ask4 B v no yes) (fun s => s.has v && nv B s yes) (fun u => u = v ∨ (own B yes).has u = true) := (zD0 a3.wf a3.dd ok4 (fun _ => by
      refine List.Pairwise.cons (fun b hb => ?_) (List.pairwise_singleton _ _)
      rw [List.mem_singleton.1 hb]
      intro u hu
      rw [k2.2.2, kyes3.2.2] at hu
      have := a2.vars u hu.1
      rw [this, vyes] at hu
      exact absurd hu.2 (by simp)) (fun e => by simp at e)).grown (fun s => by
        show nodeV ⟨3, 0, [(ask2 B v).2, yes]⟩ s _ = _
        have q1 : bv (nvTo (ask3 B v no).1 s (ask3 B v no).1.length) (ask2 B v).2 = s.has v := (k2.2.1 s).trans (a2.val s)
        have q2 : bv (nvTo (ask3 B v no).1 s (ask3 B v no).1.length) yes = nv B s yes := kyes3.2.1 s
        simp [nodeV, q1, q2]) (fun u hu => by
      rcases hu with ⟨h, h3, _⟩ | ⟨k, hk, h⟩
      · have : litVar 0 = 0 := by decide
        simp only [this] at h; omega
      · simp at hk
        rcases hk with rfl | rfl
        · rw [k2.2.2] at h; exact .inl (a2.vars u h)
        · rw [kyes3.2.2] at h; exact .inr h)
    obtain ⟨M4, e4, l4⟩ := a4.ext
    have x34 : ∃ M, (ask4 B v no yes).1 = (ask3 B v no).1 ++ M := ⟨M4, e4⟩
    have k3 := zD6 x34 a3.at_
    have ok5 : okN N (ask4 B v no yes).1.length ⟨4, 0, [(ask3 B v no).2, (ask4 B v no yes).2]⟩ := ⟨fun k hk => by
      simp at hk
      rcases hk with rfl | rfl
      · exact k3.1
      · exact a4.at_, .inr (.inr ⟨.inr rfl, rfl⟩)⟩
    have a5 : Grown N 1 (ask4 B v no yes).1 (ask5 B v no yes) (fun s => if s.has v then nv B s yes else nv B s no) (fun u => u = v ∨ (own B no).has u = true ∨ (own B yes).has u = true) := (zD0 a4.wf a4.dd ok5 (fun e => by simp at e) (fun _ => by
      refine List.Pairwise.cons (fun b hb => ?_) (List.pairwise_singleton _ _)
      rw [List.mem_singleton.1 hb]
      intro s hs
      rw [k3.2.1, a3.val, a4.val] at hs
      cases hh : s.has v <;> simp [hh] at hs)).grown (fun s => by
        show nodeV ⟨4, 0, [(ask3 B v no).2, (ask4 B v no yes).2]⟩ s _ = _
        have q1 : bv (nvTo (ask4 B v no yes).1 s (ask4 B v no yes).1.length) (ask3 B v no).2 = (!s.has v && nv B s no) := (k3.2.1 s).trans (a3.val s)
        have q2 : bv (nvTo (ask4 B v no yes).1 s (ask4 B v no yes).1.length) (ask4 B v no yes).2 = (s.has v && nv B s yes) := a4.val s
        cases hh : s.has v <;> simp [nodeV, q1, q2, hh]) (fun u hu => by
      rcases hu with ⟨h, h3, _⟩ | ⟨k, hk, h⟩
      · have : litVar 0 = 0 := by decide
        simp only [this] at h; omega
      · simp at hk
        rcases hk with rfl | rfl
        · rw [k3.2.2] at h
          rcases a3.vars u h with q | q
          · exact .inl q
          · exact .inr (.inl q)
        · rcases a4.vars u h with q | q
          · exact .inl q
          · exact .inr (.inr q))
    obtain ⟨M5, e5, l5⟩ := a5.ext
    exact ⟨⟨M1 ++ (M2 ++ (M3 ++ (M4 ++ M5))), by rw [e5, e4, e3, e2, e1]; simp, by simp; omega⟩, a5.wf, a5.dd, a5.at_, a5.val, a5.vars⟩
end
structure NI (ts : List TN) (N : Int) (A : Nat → VS) (m : Nat) (B : List Gate) (l : List Int) : Prop where
  wf : WfN N B
  dd : DD B
  len : l.length = ts.length
  small : B.length ≤ 5 * m
  at_ : ∀ i, i < ts.length → ts.length ≤ i + m → inB B (l.getD i 0) ∧ (∀ s, nv B s (l.getD i 0) = clsA ts s i) ∧ ∀ v, (own B (l.getD i 0)).has v = true → (A i).has v = false
theorem zFp (p : List Int) (i j : Nat) (x : Int) (h : i < p.length) : (p.set i x).getD j 0 = if i = j then x else p.getD j 0 := by
  rw [List.getD_eq_getElem?_getD, List.getD_eq_getElem?_getD, List.getElem?_set]
  by_cases e : i = j
  · subst e; simp [h]
  · simp [e]
theorem NI.step {ts : List TN} {N : Int} {A : Nat → VS} {m : Nat} {B : List Gate} {l : List Int} (h : NI ts N A m B l) (hm : m < ts.length) {k : Nat} (hk : k ≤ 5) {q : List Gate × Int} {val : VS → Bool} {vars : Int → Prop} (g : Grown N k B q val vars)
    (hv : ∀ s, val s = clsA ts s (ts.length - 1 - m)) (hr : ∀ v, vars v → (A (ts.length - 1 - m)).has v = false) : NI ts N A (m + 1) q.1 (l.set (ts.length - 1 - m) q.2) := by
  obtain ⟨M, e, hl⟩ := g.ext
  refine ⟨g.wf, g.dd, by rw [List.length_set]; exact h.len, by rw [e, List.length_append]; have := h.small; omega, fun i hi hi2 => ?_⟩
  rw [zFp _ _ _ _ (by rw [h.len]; omega)]
  by_cases e2 : ts.length - 1 - m = i
  · rw [if_pos e2, ← e2]
    exact ⟨g.at_, fun s => (g.val s).trans (hv s), fun v hv => hr v (g.vars v hv)⟩
  · rw [if_neg e2]
    obtain ⟨q1, q2, q3⟩ := h.at_ i hi (by omega)
    have := zD6 ⟨M, e⟩ q1
    exact ⟨this.1, fun s => (this.2.1 s).trans (q2 s), fun v hv => q3 v (by rw [← this.2.2]; exact hv)⟩
theorem zEl {ts : List TN} {N : Int} {A : Nat → VS} (hV : ValT ts N A) (hN : N ≤ 128) : ∀ m, m ≤ ts.length → NI ts N A m (foldN ts m).1 (foldN ts m).2
  | 0, _ => ⟨fun i g h => by simp [foldN] at h, fun i g h => by simp [foldN] at h, by simp [foldN], by simp [foldN], fun i h1 h2 => by omega⟩
  | m + 1, hm => by
    have ih := zEl hV hN m (by omega)
    have hi : ts.length - 1 - m < ts.length := by omega
    have hx := List.getElem?_eq_getElem hi
    unfold foldN
    rw [hx]
    dsimp only
    rcases hV.kind _ _ hx with ⟨hv, _, _⟩ | ⟨hc, hv1, hv2, a, b, ea, eb, q1, q2, q3, q4, _, hA, hAa, hAb⟩
    · rw [if_pos hv]
      exact ih.step (by omega) (k := 1) (by omega) (leaf_grown ih.wf ih.dd _) (fun s => (zHn hV s hx hv).symm) (fun v h => h.elim)
    · rw [if_neg (by omega), ea, eb, Int.toNat_natCast, Int.toNat_natCast]
      obtain ⟨na, va, ra⟩ := ih.at_ a q3 (by omega)
      obtain ⟨nb, vb, rb⟩ := ih.at_ b q4 (by omega)
      have hself : ∀ u, ((A (ts.length - 1 - m)).with_ ts[ts.length - 1 - m].v).has u = false → (A (ts.length - 1 - m)).has u = false := fun u hu => by
        rw [VS.has_with, Bool.or_eq_false_iff] at hu; exact hu.1
      have hvv : ((A (ts.length - 1 - m)).with_ ts[ts.length - 1 - m].v).has ts[ts.length - 1 - m].v = true := by
        rw [VS.has_with]; simp; right; omega
      have g := ask_grown (v := ts[ts.length - 1 - m].v) ih.wf ih.dd hN hv1 hv2 na nb
        (by rw [Bool.eq_false_iff]; intro h; have := ra _ h; rw [hAa, hvv] at this; cases this)
        (by rw [Bool.eq_false_iff]; intro h; have := rb _ h; rw [hAb, hvv] at this; cases this)
      refine ih.step (by omega) (k := 5) (by omega) g (fun s => ?_) (fun u hu => ?_)
      · rw [zGx hV s hx (by omega) ea eb]
        split
        · exact vb s
        · exact va s
      · rcases hu with rfl | hu | hu
        · exact hA
        · have := ra u hu; rw [hAa] at this; exact hself u this
        · have := rb u hu; rw [hAb] at this; exact hself u this
theorem treeN_law {ts : List TN} {N : Int} {A : Nat → VS} (hV : ValT ts N A) (hN : N ≤ 128) : WfN N (treeN ts).1 ∧ DD (treeN ts).1 ∧ (treeN ts).1.length ≤ 5 * ts.length ∧ inB (treeN ts).1 (treeN ts).2 ∧ ∀ s, nv (treeN ts).1 s (treeN ts).2 = clsA ts s 0 := by
  have h := zEl hV hN ts.length (Nat.le_refl _)
  obtain ⟨h1, h2, _⟩ := h.at_ 0 hV.pos (by omega)
  exact ⟨h.wf, h.dd, h.small, h1, h2⟩
end Go.Proofs.YtliiclmhpphpmaaGreatDoor
