/-
  TseitinKnown returns true.
-/
import Derived.Test.YtlifakbdgmdafaaWWorks
import Derived.Test.YtlifakbdgmdafaaLits2
namespace Go.Proofs.Ytlifakbdgmdafaa
open Go Go.RowKit

set_option maxRecDepth 100000 in
set_option maxHeartbeats 6400000 in
theorem known_ok (w : World) : Calls Try.prog 9 #[] w fun e w' => e = .returned (.bool true) ∧ Below w.heap.size w w' := by
  have KW := Lib.hid works_ok
  go_enter Try.func9, Try.ntmps9
  go_wp2_with fail
  have bx := (Blk.new w 44 #[.int .i64 2, .int .i64 1, .slice none 0 0]).alloc (.cells (intCells [0, 0, 0]) 3)
  have bi : Blk ((w.alloc (.cells #[.int .i64 2, .int .i64 1, .slice none 0 0] 44)).alloc (.cells (intCells [0, 0, 0]) 3)) (w.heap.size + 1) 3 (intCells [0, 0, 0]) := Blk.new_ (by simp)
  refine (enc_lit ((w.alloc (.cells #[.int .i64 2, .int .i64 1, .slice none 0 0] 44)).alloc (.cells (intCells [0, 0, 0]) 3)) (w.heap.size + 2) (by simp) 1 [(⟨2, 1, []⟩, .slice none 0 0), (⟨6, 0, [0, 0, 0]⟩, .slice (some ⟨w.heap.size + 1, 0, none⟩) 3 3)] (fun p hp => by
    simp only [List.mem_cons, List.not_mem_nil, or_false] at hp
    rcases hp with rfl | rfl
    · exact ints_nil _ _
    · exact ints_blk (xs := [0, 0, 0]) bi (by omega) (by decide)) (by show 2 ≤ maxLen; decide) _ known1 (by show sizeOf [⟨2, 1, []⟩, ⟨6, 0, [0, 0, 0]⟩] ≤ _; decide)).mono ?_
  rintro e w1 ⟨A2, c2, A3, c3, rfl, hL, hG, hb⟩
  have hx1 := bx.keep hb
  have HB1 := Lib.hid (Below.trans (show Below w.heap.size w _ by go_grown) (hb.mono (by simp; omega)))
  have HX1 := Lib.hid hx1
  have HL := Lib.hid hL
  have HG := Lib.hid hG
  have ltx := hx1.lt
  unfold enc1
  clear bx bi hb hx1 hL hG
  go_wp2_with fail
  refine (same_lit (w1.alloc (.cells #[.int .i64 3, .slice A2 9 c2] 29)) (w1.heap.size + 1) (by simp) 3 3 w1.heap.size _ enc1.L [[-2, 1, 1], [-2, -1, -1], [2, -1, 1], [2, 1, -1], [-3, 2, 1], [-3, -2, -1], [3, -2, 1], [3, 2, -1], [3]] (by simp) (HL.out.below ((Below.refl _ _).alloc (Nat.le_refl _) _)) (by decide) (by decide) true (by decide)).mono ?_
  rintro e w2 ⟨rfl, hb⟩
  have hb2 : Below w1.heap.size w1 w2 := Below.trans (by go_grown) (hb.mono (by simp))
  have HG2 := Lib.hid (HG.out.below hb2)
  have HX2 := Lib.hid (HX1.out.keep hb2)
  have HB2 := Lib.hid (HB1.out.trans (hb2.mono HB1.out.size))
  have hs2 := hb2.size
  clear hb hb2 HL HG HX1 HB1
  go_wp2_with fail
  refine (same_ints_lit w2 w2.heap.size rfl w1.heap.size _ [1, 3] [1, 3] hs2 HG2.out (by decide) true (by decide)).mono ?_
  rintro e w3 ⟨rfl, hb⟩
  have hx3 := HX2.out.keep hb
  have HX3 := Lib.hid hx3
  have HB3 := Lib.hid (HB2.out.trans (hb.mono HB2.out.size))
  have x0 := hx3.cell 0
  have x1 := hx3.cell 1
  have x2 := hx3.cell 2
  simp at x0 x1 x2
  clear hb HG2 HX2 HB2 hx3
  go_wp2_with fail
  refine (enc_lit w3 w3.heap.size rfl 1 [(⟨2, -1, []⟩, .slice none 0 0)] (fun p hp => by
    simp only [List.mem_cons, List.not_mem_nil, or_false] at hp
    subst hp
    exact ints_nil _ _) (by decide) _ known2 (by decide)).mono ?_
  rintro e w4 ⟨A4, c4, A5, c5, rfl, hLu, -, hb⟩
  have HLU := Lib.hid hLu
  have hx4 := HX3.out.keep hb
  have HX4 := Lib.hid hx4
  have HB4 := Lib.hid (HB3.out.trans (hb.mono HB3.out.size))
  clear hb HX3 HB3 hx4 hLu x0 x1 x2 ltx
  go_wp2_with fail
  refine (enc_lit (w4.alloc (.cells #[.int .i64 1, .slice A4 1 c4] 29)) (w4.heap.size + 1) (by simp) 0 [(⟨1, 0, []⟩, .slice none 0 0)] (fun p hp => by
    simp only [List.mem_cons, List.not_mem_nil, or_false] at hp
    subst hp
    exact ints_nil _ _) (by decide) _ known3 (by decide)).mono ?_
  rintro e w5 ⟨A6, c6, A7, c7, rfl, hLv, -, hb⟩
  have hb5 : Below w4.heap.size w4 w5 := Below.trans (by go_grown) (hb.mono (by simp))
  have HU5 := Lib.hid ((Blk.new w4 29 #[.int .i64 1, .slice A4 1 c4]).keep hb)
  have HLU5 := Lib.hid (RowsV.below HLU.out hb5)
  have HLV := Lib.hid hLv
  have HX5 := Lib.hid (HX4.out.keep hb5)
  have HB5 := Lib.hid (HB4.out.trans (hb5.mono HB4.out.size))
  have lt5 := HU5.out.lt
  clear hb hb5 hLv HLU HX4 HB4
  go_wp2_with fail
  refine (tseitin_encode 0 _ [] _ (w5.heap.size + 1) (by simp) (by exact ⟨none, 0, rfl, Nat.le_refl _, by decide, fun h => absurd h (by simp)⟩) (by decide)).mono ?_
  rw [known4]
  rintro e w6 ⟨⟨LV6, GV6, rfl, hL6, hG6⟩, hb⟩
  obtain ⟨A8, c8, rfl, _⟩ := id hL6
  obtain ⟨A9, c9, rfl, _⟩ := id hG6
  have hb6 : Below w5.heap.size w5 w6 := Below.trans (by go_grown) (hb.mono (by simp))
  have HU6 := Lib.hid (HU5.out.keep hb6)
  have HV6 := Lib.hid ((Blk.new w5 29 #[.int .i64 1, .slice A6 2 c6]).keep hb)
  have HLU6 := Lib.hid (RowsV.below HLU5.out (hb6.mono (by omega)))
  have HLV6 := Lib.hid (RowsV.below HLV.out hb6)
  have hx6 := HX5.out.keep hb6
  have HX6 := Lib.hid hx6
  have HB6 := Lib.hid (HB5.out.trans (hb6.mono HB5.out.size))
  have lt6 := HV6.out.lt
  have x0 := hx6.cell 0
  have x1 := hx6.cell 1
  have x2 := hx6.cell 2
  simp at x0 x1 x2
  have ltx := hx6.lt
  clear hb hb6 HU5 HLU5 HLV HX5 HB5 hx6 hL6 hG6
  go_wp2_with fail
  have bi : Blk ((w6.alloc (.cells #[.int .i64 0, .slice A8 0 c8] 29)).alloc (.cells (intCells [0]) 3)) (w6.heap.size + 1) 3 (intCells [0]) := Blk.new_ (by simp)
  refine (enc_lit ((w6.alloc (.cells #[.int .i64 0, .slice A8 0 c8] 29)).alloc (.cells (intCells [0]) 3)) (w6.heap.size + 2) (by simp) 128 [(⟨2, 1, []⟩, .slice none 0 0), (⟨3, 0, [0]⟩, .slice (some ⟨w6.heap.size + 1, 0, none⟩) 1 1)] (fun p hp => by
    simp only [List.mem_cons, List.not_mem_nil, or_false] at hp
    rcases hp with rfl | rfl
    · exact ints_nil _ _
    · exact ints_blk (xs := [0]) bi (by omega) (by decide)) (by show 2 ≤ maxLen; decide) _ known5 (by show sizeOf [⟨2, 1, []⟩, ⟨3, 0, [0]⟩] ≤ _; decide)).mono ?_
  rintro e w7 ⟨A10, c10, A11, c11, rfl, -, -, hb⟩
  have hb7 : Below w6.heap.size w6 w7 := Below.trans (by go_grown) (hb.mono (by simp; omega))
  have HU7 := Lib.hid (HU6.out.keep hb7)
  have HV7 := Lib.hid (HV6.out.keep hb7)
  have HLU7 := Lib.hid (RowsV.below HLU6.out (hb7.mono (by omega)))
  have HLV7 := Lib.hid (RowsV.below HLV6.out (hb7.mono (by omega)))
  have hx7 := HX6.out.keep hb7
  have HB7 := Lib.hid (HB6.out.trans (hb7.mono HB6.out.size))
  have HS7 := Lib.hid hb7.size
  have x0 := hx7.cell 0
  have x1 := hx7.cell 1
  have x2 := hx7.cell 2
  simp at x0 x1 x2
  have ltx := hx7.lt
  clear hb hb7 HU6 HV6 HLU6 HLV6 HX6 HB6 hx7 bi
  go_wp2_with fail
  have bi : Blk (((w7.alloc (.cells #[.int .i64 0, .slice A10 0 c10] 29)).alloc (.cells (intCells [0]) 3)).alloc (.cells (intCells [0, 1, 0]) 3)) (w7.heap.size + 1) 3 (intCells [0]) := (Blk.new_ (by simp)).alloc _
  have bj : Blk (((w7.alloc (.cells #[.int .i64 0, .slice A10 0 c10] 29)).alloc (.cells (intCells [0]) 3)).alloc (.cells (intCells [0, 1, 0]) 3)) (w7.heap.size + 2) 3 (intCells [0, 1, 0]) := Blk.new_ (by simp)
  refine (enc_lit (((w7.alloc (.cells #[.int .i64 0, .slice A10 0 c10] 29)).alloc (.cells (intCells [0]) 3)).alloc (.cells (intCells [0, 1, 0]) 3)) (w7.heap.size + 3) (by simp) 1 [(⟨2, 1, []⟩, .slice none 0 0), (⟨3, 0, [0]⟩, .slice (some ⟨w7.heap.size + 1, 0, none⟩) 1 1), (⟨8, 0, [0, 1, 0]⟩, .slice (some ⟨w7.heap.size + 2, 0, none⟩) 3 3)] (fun p hp => by
    simp only [List.mem_cons, List.not_mem_nil, or_false] at hp
    rcases hp with rfl | rfl | rfl
    · exact ints_nil _ _
    · exact ints_blk (xs := [0]) bi (by omega) (by decide)
    · exact ints_blk (xs := [0, 1, 0]) bj (by omega) (by decide)) (by show 3 ≤ maxLen; decide) _ known6 (by show sizeOf [⟨2, 1, []⟩, ⟨3, 0, [0]⟩, ⟨8, 0, [0, 1, 0]⟩] ≤ _; decide)).mono ?_
  rintro e w8 ⟨A12, c12, A13, c13, rfl, hLw, -, hb⟩
  have hb8 : Below w7.heap.size w7 w8 := Below.trans (by go_grown) (hb.mono (by simp; omega))
  have hu8 := HU7.out.keep hb8
  have hv8 := HV7.out.keep hb8
  have hlu8 := RowsV.below HLU7.out (hb8.mono (by have := HS7.out; omega))
  have HV8 := Lib.hid hv8
  have HLV8 := Lib.hid (RowsV.below HLV7.out (hb8.mono (by have := HS7.out; omega)))
  have HLW := Lib.hid hLw
  have HB8 := Lib.hid (HB7.out.trans (hb8.mono HB7.out.size))
  have u0 := hu8.cell 0
  have u1 := hu8.cell 1
  simp at u0 u1
  have ltu := hu8.lt
  have HLU8 := Lib.hid hlu8
  have hs5 : w5.heap.size + 1 ≤ w8.heap.size := hv8.lt
  clear hb hb8 HU7 HV7 HLU7 HLV7 HB7 hu8 hv8 hlu8 hLw bi bj x0 x1 x2
  go_wp2_with fail
  refine (same_lit (w8.alloc (.cells #[.int .i64 3, .slice A12 7 c12] 29)) (w8.heap.size + 1) (by simp) 1 1 w8.heap.size _ [[-1]] [[-1]] (by simp) ((HLU8.out.more (by omega)).below ((Below.refl _ _).alloc (Nat.le_refl _) _)) (by decide) (by decide) true (by decide)).mono ?_
  rintro e w9 ⟨rfl, hb⟩
  have hb9 : Below w8.heap.size w8 w9 := Below.trans (by go_grown) (hb.mono (by simp))
  have hv9 := HV8.out.keep hb9
  have HW9 := Lib.hid ((Blk.new w8 29 #[.int .i64 3, .slice A12 7 c12]).keep hb)
  have HLV9 := Lib.hid (RowsV.below (HLV8.out.more (by omega : w5.heap.size ≤ w8.heap.size)) hb9)
  have HLW9 := Lib.hid (RowsV.below HLW.out hb9)
  have HB9 := Lib.hid (HB8.out.trans (hb9.mono HB8.out.size))
  have v0 := hv9.cell 0
  have v1 := hv9.cell 1
  simp at v0 v1
  have ltv := hv9.lt
  have hs9 := hb9.size
  clear hb hb9 hv9 HV8 HLV8 HLW HB8 HLU8 u0 u1
  go_wp2_with fail
  refine (same_lit w9 w9.heap.size rfl 1 1 w8.heap.size _ [[1], [1]] [[1], [1]] hs9 HLV9.out (by decide) (by decide) true (by decide)).mono ?_
  rintro e w10 ⟨rfl, hb⟩
  have hw10 := HW9.out.keep hb
  have HLW10 := Lib.hid (RowsV.below HLW9.out (hb.mono hs9))
  have HB10 := Lib.hid (HB9.out.trans (hb.mono HB9.out.size))
  have w0 := hw10.cell 0
  have w1' := hw10.cell 1
  simp at w0 w1'
  have ltw := hw10.lt
  clear hb hw10 HLV9 HB9 v0 v1 HW9 HLW9
  go_wp2_with fail
  refine (same_lit w10 w10.heap.size rfl 3 3 w8.heap.size _ [[-2, -1], [2, 1], [-3, -1, 2], [-3, 1, 1], [3, -1, -2], [3, 1, -1], [3]] [[-2, -1], [2, 1], [-3, -1, 2], [-3, 1, 1], [3, -1, -2], [3, 1, -1], [3]] (Nat.le_of_lt ltw) HLW10.out (by decide) (by decide) true (by decide)).mono ?_
  rintro e w11 ⟨rfl, hb⟩
  have HB11 := Lib.hid (HB10.out.trans (hb.mono HB10.out.size))
  clear hb HB10 HLW10 w0 w1'
  go_wp2_with fail
  refine (KW.out w11).mono ?_
  rintro e w12 ⟨rfl, hb⟩
  have HB12 := Lib.hid (HB11.out.trans (hb.mono HB11.out.size))
  clear hb HB11
  go_wp2
  go_ret
  exact ⟨rfl, HB12.out⟩
end Go.Proofs.Ytlifakbdgmdafaa
