/-
  works() returns true.
-/
import Derived.Test.YtlifakbdgmdafaaWExtend
import Derived.Test.YtlifakbdgmdafaaLits
namespace Go.Proofs.Ytlifakbdgmdafaa
open Go Go.RowKit

set_option maxRecDepth 100000 in
set_option maxHeartbeats 3200000 in
theorem works_ok (w : World) : Calls Try.prog 12 #[] w fun e w' => e = .returned (.bool true) ∧ Below w.heap.size w w' := by
  have k1 := fun V W B (hB : B ≤ W.heap.size) (hg : GatesV W B V gsW) => tseitin_encode 2 V gsW W B hB hg (by decide)
  rw [encW] at k1
  have k2 : ∀ V W B, B ≤ W.heap.size → GatesV W B V gsW → Calls Try.prog 17 #[.agg #[.int .i64 2, V], .agg #[.int .u64 3, .int .u64 0]] W fun e w' => e = .returned (.tuple #[.agg #[.int .u64 7, .int .u64 0], .bool true]) ∧ Below W.heap.size W w' :=
    fun V W B hB hg => by
      have := tseitin_extend 2 V gsW ⟨3, 0⟩ W B hB hg (by decide) (by decide) (by decide)
      rw [extW] at this
      exact this
  have k3 : ∀ V W B, B ≤ W.heap.size → GatesV W B V gsW → Calls Try.prog 17 #[.agg #[.int .i64 2, V], .agg #[.int .u64 1, .int .u64 0]] W fun e w' => e = .returned (.tuple #[.agg #[.int .u64 0, .int .u64 0], .bool false]) ∧ Below W.heap.size W w' :=
    fun V W B hB hg => by
      have := tseitin_extend 2 V gsW ⟨1, 0⟩ W B hB hg (by decide) (by decide) (by decide)
      rw [extW'] at this
      exact this
  have K1 := Lib.hid k1
  have K2 := Lib.hid k2
  have K3 := Lib.hid k3
  clear k1 k2 k3
  go_enter Try.func12, Try.ntmps12
  go_wp2_with fail
  have b0 := ((Blk.new w 3 #[.int .i64 0, .int .i64 1]).alloc (.cells #[.int .i64 2, .int .i64 1, .slice none 0 0, .int .i64 2, .int .i64 2, .slice none 0 0, .int .i64 4, .int .i64 0, .slice (some ⟨w.heap.size, 0, none⟩) 2 2] 44)).alloc (.cells #[.int .i64 2, .slice (some ⟨w.heap.size + 1, 0, none⟩) 3 3] 24)
  have b1 := (Blk.new_ (w := w.alloc (.cells #[.int .i64 0, .int .i64 1] 3)) (g := w.heap.size + 1) (t := 44) (cs := #[.int .i64 2, .int .i64 1, .slice none 0 0, .int .i64 2, .int .i64 2, .slice none 0 0, .int .i64 4, .int .i64 0, .slice (some ⟨w.heap.size, 0, none⟩) 2 2]) (by simp)).alloc (.cells #[.int .i64 2, .slice (some ⟨w.heap.size + 1, 0, none⟩) 3 3] 24)
  have b2 := (Blk.new_ (w := (w.alloc (.cells #[.int .i64 0, .int .i64 1] 3)).alloc (.cells #[.int .i64 2, .int .i64 1, .slice none 0 0, .int .i64 2, .int .i64 2, .slice none 0 0, .int .i64 4, .int .i64 0, .slice (some ⟨w.heap.size, 0, none⟩) 2 2] 44)) (g := w.heap.size + 2) (t := 24) (cs := #[.int .i64 2, .slice (some ⟨w.heap.size + 1, 0, none⟩) 3 3]) (by simp))
  have hbW : Below w.heap.size w (((w.alloc (.cells #[.int .i64 0, .int .i64 1] 3)).alloc (.cells #[.int .i64 2, .int .i64 1, .slice none 0 0, .int .i64 2, .int .i64 2, .slice none 0 0, .int .i64 4, .int .i64 0, .slice (some ⟨w.heap.size, 0, none⟩) 2 2] 44)).alloc (.cells #[.int .i64 2, .slice (some ⟨w.heap.size + 1, 0, none⟩) 3 3] 24)) := by go_grown
  have hsz : w.heap.size + 3 = (((w.alloc (.cells #[.int .i64 0, .int .i64 1] 3)).alloc (.cells #[.int .i64 2, .int .i64 1, .slice none 0 0, .int .i64 2, .int .i64 2, .slice none 0 0, .int .i64 4, .int .i64 0, .slice (some ⟨w.heap.size, 0, none⟩) 2 2] 44)).alloc (.cells #[.int .i64 2, .slice (some ⟨w.heap.size + 1, 0, none⟩) 3 3] 24)).heap.size := by simp
  generalize (((w.alloc (.cells #[.int .i64 0, .int .i64 1] 3)).alloc (.cells #[.int .i64 2, .int .i64 1, .slice none 0 0, .int .i64 2, .int .i64 2, .slice none 0 0, .int .i64 4, .int .i64 0, .slice (some ⟨w.heap.size, 0, none⟩) 2 2] 44)).alloc (.cells #[.int .i64 2, .slice (some ⟨w.heap.size + 1, 0, none⟩) 3 3] 24)) = w0 at b0 b1 b2 hbW hsz ⊢
  have hg : GatesV w0 (w.heap.size + 2) (.slice (some ⟨w.heap.size + 1, 0, none⟩) 3 3) gsW := by
    refine gates_blk (gs := gsW) b1 (by omega) (by decide) (fun i x hx => ?_)
    match i with
    | 0 => injection hx with hx; subst hx; exact ⟨rfl, rfl, _, rfl, ints_nil _ _⟩
    | 1 => injection hx with hx; subst hx; exact ⟨rfl, rfl, _, rfl, ints_nil _ _⟩
    | 2 => injection hx with hx; subst hx; exact ⟨rfl, rfl, _, rfl, ints_blk (xs := [0, 1]) b0 (by omega) (by decide)⟩
    | n + 3 => simp [gsW] at hx
  have HG := Lib.hid hg
  have HC := Lib.hid b2
  clear b0 b1 b2 hg
  refine (K1.out _ w0 (w.heap.size + 2) (by omega) HG.out).mono ?_
  rintro e w1 ⟨⟨LV, GV, rfl, hLV, hGV⟩, hb1⟩
  obtain ⟨A2, c2, rfl, hl2, hm2, _⟩ := id hLV
  obtain ⟨A3, c3, rfl, hl3, hm3, _⟩ := id hGV
  have hc1 := HC.out.keep hb1
  have c0 := hc1.cell 0
  have c1 := hc1.cell 1
  simp at c0 c1
  have lt1 := hc1.lt
  have hbw1 := hbW.trans (hb1.mono hbW.size)
  have hg1 := HG.out.below (hb1.mono (by omega))
  have HG1 := Lib.hid hg1
  have HC1 := Lib.hid hc1
  have HL1 := Lib.hid hLV
  have HI1 := Lib.hid hGV
  have HBW1 := Lib.hid hbw1
  clear hb1 hbW hc1 hg1 hLV hGV hbw1 HG HC K1
  go_wp2_with fail
  refine (K2.out _ _ (w.heap.size + 2) (by simp; omega) (HG1.out.below (by go_grown))).mono ?_
  rintro e w2 ⟨rfl, hb2⟩
  have hc2 := (HC1.out.alloc (.cells #[.int .i64 3, .slice A2 4 c2] 29)).keep hb2
  have ht2 := (Blk.new w1 29 #[.int .i64 3, .slice A2 4 c2]).keep hb2
  have hb12 : Below w1.heap.size w1 w2 := Below.trans (by go_grown) (hb2.mono (by simp))
  have hg2 := HG1.out.below (hb12.mono (by omega))
  have hl2' := HL1.out.below hb12
  have hi2' := HI1.out.below hb12
  have hbw2 := HBW1.out.trans (hb12.mono HBW1.out.size)
  have c0 := hc2.cell 0
  have c1 := hc2.cell 1
  simp at c0 c1
  have lt2 := hc2.lt
  have lt3 := ht2.lt
  have HG2 := Lib.hid hg2
  have HC2 := Lib.hid hc2
  have HT2 := Lib.hid ht2
  have HL2 := Lib.hid hl2'
  have HI2 := Lib.hid hi2'
  have HBW2 := Lib.hid hbw2
  clear hb2 hb12 hc2 ht2 hg2 hl2' hi2' hbw2 HG1 HC1 HL1 HI1 HBW1 K2
  go_wp2_with fail
  refine (K3.out _ _ (w.heap.size + 2) (by simp; omega) (HG2.out.below (by go_grown))).mono ?_
  rintro e w3 ⟨rfl, hb3⟩
  have ha3 := (Blk.new w2 38 #[.int .u64 7, .int .u64 0]).keep hb3
  have ht3 := (HT2.out.alloc (.cells #[.int .u64 7, .int .u64 0] 38)).keep hb3
  have hb23 : Below w2.heap.size w2 w3 := Below.trans (by go_grown) (hb3.mono (by simp))
  have hl3' := HL2.out.below (hb23.mono (by omega))
  have hi3' := HI2.out.below (hb23.mono (by omega))
  have hbw3 := HBW2.out.trans (hb23.mono HBW2.out.size)
  have t0 := ht3.cell 0
  have t1 := ht3.cell 1
  have a0 := ha3.cell 0
  have a1 := ha3.cell 1
  simp at t0 t1 a0 a1
  have lt4 := ha3.lt
  have lt5 := ht3.lt
  have HT3 := Lib.hid ht3
  have HA3 := Lib.hid ha3
  have HL3 := Lib.hid hl3'
  have HI3 := Lib.hid hi3'
  have HBW3 := Lib.hid hbw3
  clear hb3 hb23 ht3 ha3 hl3' hi3' hbw3 HT2 HL2 HI2 HBW2 K3 HG2 HC2
  go_wp2_with fail
  refine (same_lit (w3.alloc (.cells #[.int .u64 0, .int .u64 0] 38)) (w3.heap.size + 1) (by simp) 3 3 w3.heap.size _ [[-3, 1], [-3, 2], [3, -1, -2], [3]] [[-3, 1], [-3, 2], [3, -1, -2], [3]] (by simp) ((HL3.out.more (by omega)).below ((Below.refl _ _).alloc (Nat.le_refl _) _)) (by decide) (by decide) true (by decide)).mono ?_
  rintro e w4 ⟨rfl, hb4⟩
  have hb34 : Below w3.heap.size w3 w4 := Below.trans (by go_grown) (hb4.mono (by simp))
  have hi4 := IntsV.below (HI3.out.more (Nat.le_of_lt lt5)) hb34
  have ha4 := HA3.out.keep hb34
  have a0 := ha4.cell 0
  have a1 := ha4.cell 1
  simp at a0 a1
  have lt6 := ha4.lt
  have HI4 := Lib.hid hi4
  have HA4 := Lib.hid ha4
  have HBW4 := Lib.hid (HBW3.out.trans (hb34.mono HBW3.out.size))
  have hsz4 := hb34.size
  clear hb4 hb34 hi4 ha4 HI3 HA3 HL3 HT3 HBW3
  go_wp2_with fail
  refine (same_ints_lit w4 w4.heap.size rfl w3.heap.size _ [1, 2, 3] [1, 2, 3] hsz4 HI4.out (by decide) true (by decide)).mono ?_
  rintro e w5 ⟨rfl, hb5⟩
  have ha5 := HA4.out.keep hb5
  have a0 := ha5.cell 0
  have a1 := ha5.cell 1
  simp at a0 a1
  have HBW5 := Lib.hid (HBW4.out.trans (hb5.mono HBW4.out.size))
  clear ha5 HI4 hb5
  have he := sets_eq 7 0 7 0 w5
  have he : (Op.equalIn 10000 38 (.agg #[.int .u64 7, .int .u64 0]) (.agg #[.int .u64 7, .int .u64 0])).run Try.prog w5 = .ok true w5 := he
  go_wp2
  go_ret
  exact ⟨rfl, HBW5.out⟩
end Go.Proofs.Ytlifakbdgmdafaa
