/-
  The reference's Models of theories (censusref05).
-/
import Derived.Test.YtlifakbdgmdafaaOwnSets
import Derived.Test.YtlifakbdgmdafaaWRef05
namespace Go.Proofs.Ytlifakbdgmdafaa
open Go Go.RowKit

def modelsTo (n : Nat) (L : List (List Int)) (k : Nat) : List VS := ((List.range k).map fun k => assignOf k n).filter (thEval n L)
theorem modelsTo_succ (n : Nat) (L : List (List Int)) (k : Nat) : modelsTo n L (k + 1) = if thEval n L (assignOf k n) then modelsTo n L k ++ [assignOf k n] else modelsTo n L k := by
  unfold modelsTo
  rw [List.range_succ, List.map_append, List.filter_append]
  simp only [List.map_cons, List.map_nil, List.filter_cons, List.filter_nil]
  split <;> simp
theorem modelsTo_len (n : Nat) (L : List (List Int)) (k : Nat) : (modelsTo n L k).length ≤ k := by
  unfold modelsTo
  refine Nat.le_trans (List.length_filter_le _ _) ?_
  simp

set_option maxRecDepth 100000 in
set_option maxHeartbeats 1600000 in
theorem ref05_models (N : Nat) (V : Value) (L : List (List Int)) (w : World) (B : Nat) (hB : B ≤ w.heap.size) (hL : RowsV w B V L) (hN : N ≤ 11) (hc : thCheck N L = 0) :
    Calls Try.prog 23 #[.agg #[.int .i64 N, V]] w fun e w' => (∃ v, e = .returned v ∧ SetsV w' w'.heap.size v (modelsOf N L)) ∧ Below w.heap.size w w' := by
  obtain ⟨A, c, rfl, hlc, hcm, _⟩ := id hL
  unfold maxLen at hcm
  have k1 : ∀ w1, Below w.heap.size w w1 → Calls Try.prog 47 #[.agg #[.int .i64 N, .slice A L.length c]] w1 fun e w' => e = .returned (.int .i64 0) ∧ Below w1.heap.size w1 w' :=
    fun w1 hb => hc ▸ ref05_check N _ L w1 B (Nat.le_trans hB hb.size) (hL.below (hb.mono hB))
  have k2 : ∀ s w1, Below w.heap.size w w1 → Calls Try.prog 24 #[.agg #[.int .i64 N, .slice A L.length c], (.agg #[.int .u64 ((s).a.toNat : Int), .int .u64 ((s).b.toNat : Int)])] w1 fun e w' => e = .returned (.bool (thEval N L s)) ∧ Below w1.heap.size w1 w' :=
    fun s w1 hb => ref05_eval N _ L s w1 B (Nat.le_trans hB hb.size) (hL.below (hb.mono hB))
  have hp : IntKind.i64.wrap ((2 : Int) ^ N) = ((2 ^ N : Nat) : Int) := by
    have h1 : 2 ^ N ≤ 2 ^ 11 := Nat.pow_le_pow_right (by decide) hN
    have h2 : (2 : Int) ^ N = ((2 ^ N : Nat) : Int) := by simp
    rw [h2]
    generalize 2 ^ N = q at *
    rw [IntKind.wrap_i64]
    omega
  have hq : 2 ^ N ≤ 2048 := Nat.pow_le_pow_right (n := 2) (by decide) hN
  have hm : modelsOf N L = modelsTo N L (2 ^ N) := rfl
  rw [hm]
  clear hm
  have hs := modelsTo_succ N L
  have hln := modelsTo_len N L
  have h00 : modelsTo N L 0 = [] := rfl
  generalize thEval N L = f at k2 hs
  generalize modelsTo N L = g at hs h00 hln ⊢
  generalize hP : 2 ^ N = P at hp hq ⊢
  clear hP hc
  have K1 := Lib.hid k1
  have K2 := Lib.hid k2
  have HS := Lib.hid hs
  have HLN := Lib.hid hln
  have HPW := hp
  clear k1 k2 hs hln hp
  go_enter Try.func23, Try.ntmps23
  go_wp2_with fail
  have blk0 : Blk (w.alloc (.cells #[.int .i64 N, .slice A L.length c] 29)) w.heap.size 29 #[.int .i64 N, .slice A L.length c] := Blk.new _ _ _
  have hw : Below w.heap.size w (w.alloc (.cells #[.int .i64 N, .slice A L.length c] 29)) := by go_grown
  generalize w.alloc (.cells #[.int .i64 N, .slice A L.length c] 29) = w1 at *
  have B0 := Lib.hid blk0
  clear blk0
  refine (K1.out _ hw).mono ?_
  rintro e w2 ⟨rfl, hb2⟩
  have b0 := B0.out.keep hb2
  have c0 := b0.cell 0
  have c1 := b0.cell 1
  simp at c0 c1
  have lt0 := b0.lt
  have hw2 := hw.trans (hb2.mono hw.size)
  have B0 := Lib.hid b0
  clear b0 hb2
  go_wp2
  go_loopw [3, 4] (fun ov kv wr => ∃ k : Nat, k ≤ P ∧ kv = .int .i64 k ∧ OwnSets wr w2.heap.size ov (g k) ∧ Below w2.heap.size w2 wr) (fun _ kv _ => P - (intOf kv).toNat)
  case atStart => exact ⟨0, by omega, rfl, by rw [h00]; exact OwnSets.nil _ _, Below.refl _ _⟩
  case round =>
    obtain ⟨k, hk, rfl, hov, hb⟩ := hrel
    have b0 := B0.out.keep hb
    have c0 := b0.cell 0
    have c1 := b0.cell 1
    simp at c0 c1
    have lt0 := b0.lt
    have hbw := hw2.trans (hb.mono hw2.size)
    by_cases hlt : k < P
    · have KA := Lib.hid (fun W => ref05_assign k N W (by omega) (by omega))
      have hs := HS.out k
      have hlen := HLN.out k
      generalize assignOf k N = s at KA hs
      generalize g k = m at hov hlen hs
      have HS1 := Lib.hid hs
      have B0' := Lib.hid b0
      clear hs b0
      go_wp2_with fail
      refine (KA.out _).mono ?_
      rintro e w3 ⟨rfl, hb3⟩
      have b1 := B0'.out.keep hb3
      have c0 := b1.cell 0
      have c1 := b1.cell 1
      simp at c0 c1
      have lt1 := b1.lt
      have hbw3 := hbw.trans (hb3.mono hbw.size)
      have B1 := Lib.hid b1
      clear b1
      go_wp2_with fail
      have blkS : Blk (w3.alloc (.cells #[.int .u64 (s.a.toNat : Int), .int .u64 (s.b.toNat : Int)] 38)) w3.heap.size 38 #[.int .u64 (s.a.toNat : Int), .int .u64 (s.b.toNat : Int)] := Blk.new _ _ _
      have hb4 : Below w3.heap.size w3 (w3.alloc (.cells #[.int .u64 (s.a.toNat : Int), .int .u64 (s.b.toNat : Int)] 38)) := by go_grown
      generalize w3.alloc (.cells #[.int .u64 (s.a.toNat : Int), .int .u64 (s.b.toNat : Int)] 38) = w4 at *
      have hbw4 := hbw3.trans (hb4.mono hbw3.size)
      refine (K2.out s w4 hbw4).mono ?_
      rintro e w5 ⟨rfl, hb5⟩
      have s5 := blkS.keep hb5
      have d0 := s5.cell 0
      have d1 := s5.cell 1
      have ltS := s5.lt
      simp at d0 d1
      have hbw5 := hbw4.trans (hb5.mono hbw4.size)
      have hr5 : Below wr.heap.size wr w5 := hb3.trans ((hb4.trans (hb5.mono hb4.size)).mono hb3.size)
      have b5 := (B1.out.keep hb4).keep hb5
      have c0 := b5.cell 0
      have c1 := b5.cell 1
      simp at c0 c1
      have lt5 := b5.lt
      clear s5 b5 blkS
      obtain ⟨y, hy⟩ : ∃ y, y = f s := ⟨_, rfl⟩
      rw [← hy] at HS1 ⊢
      cases y
      · have hs1 := HS1.out
        rw [if_neg (by simp)] at hs1
        have HS2 := Lib.hid hs1
        clear hs1 hy
        go_wp2
        go_roundw
        case rel => exact ⟨k + 1, by omega, by go_num, by rw [HS2.out]; exact hov.below hr5, hb.trans (hr5.mono hb.size)⟩
        case measure => simp [intOf] <;> omega
      · have hs1 := HS1.out
        rw [if_pos rfl] at hs1
        have HS2 := Lib.hid hs1
        clear hs1 hy
        have hov5 := hov.below hr5
        go_wp2_with (first | (at_builtin; refine append_set w5 rfl (.tmp 29) (.tmp 31) rfl _ _ _ s rfl hov5 rfl (by omega) (hb.trans (hr5.mono hb.size)).size ?_; intro v' w6 hown' hgrow))
        have hge := fun (q : Nat) hq => (own_ge (g := q) hov hq).1
        have hb6 := (hb.trans (hr5.mono hb.size)).trans (below_of_grown hgrow (hb.trans (hr5.mono hb.size)).size hge)
        go_wp2
        go_roundw
        case rel => exact ⟨k + 1, by omega, by go_num, by rw [HS2.out]; exact hown', hb6⟩
        case measure => simp [intOf] <;> omega
    · have e : k = P := by omega
      subst e
      go_wp2
      go_ret
      exact ⟨⟨_, rfl, hov.V⟩, hbw⟩
end Go.Proofs.Ytlifakbdgmdafaa
