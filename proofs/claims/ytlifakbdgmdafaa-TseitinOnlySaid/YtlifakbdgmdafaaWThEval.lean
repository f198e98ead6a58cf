/-
  What theory.Eval computes.
-/
import Derived.Test.YtlifakbdgmdafaaWTheory
namespace Go.Proofs.Ytlifakbdgmdafaa
open Go Go.RowKit

set_option maxRecDepth 100000 in
set_option maxHeartbeats 3200000 in
theorem theory_eval (N : Int) (V : Value) (L : List (List Int)) (s : VS) (w : World) (B : Nat) (hB : B ≤ w.heap.size) (hL : RowsV w B V L) (hN : -9223372036854775808 ≤ N) (hN' : N ≤ 9223372036854775807) :
    Calls Try.prog 27 #[.agg #[.int .i64 N, V], (.agg #[.int .u64 ((s).a.toNat : Int), .int .u64 ((s).b.toNat : Int)])] w fun e w' => e = .returned (.bool (thEval N L s)) ∧ Below w.heap.size w w' := by
  obtain ⟨A, c, rfl, hlc, hcm, _⟩ := id hL
  unfold maxLen at hcm
  obtain ⟨r, hr⟩ : ∃ r, r = thEval N L s := ⟨_, rfl⟩
  rw [← hr]
  have k1 : ∀ w1, Below w.heap.size w w1 → Calls Try.prog 33 #[.agg #[.int .i64 N, .slice A L.length c]] w1 fun e w' => e = .returned (.int .i64 (thCheck N L)) ∧ Below w1.heap.size w1 w' :=
    fun w1 hb => theory_check N _ L w1 B (Nat.le_trans hB hb.size) (hL.below (hb.mono hB))
  have k2 : ∀ w1, Calls Try.prog 41 #[.int .i64 N] w1 fun e w' => e = .returned (.agg #[.int .u64 ((VS.all N).a.toNat : Int), .int .u64 ((VS.all N).b.toNat : Int)]) ∧ Below w1.heap.size w1 w' := fun w1 => vars_all N w1 hN' hN
  have k3 : ∀ w1, Calls Try.prog 51 #[(.agg #[.int .u64 ((s).a.toNat : Int), .int .u64 ((s).b.toNat : Int)]), (.agg #[.int .u64 ((VS.all N).a.toNat : Int), .int .u64 ((VS.all N).b.toNat : Int)])] w1 fun e w' => e = .returned (.bool (VS.sub s (VS.all N))) ∧ Below w1.heap.size w1 w' := fun w1 => vars_sub s.a s.b (VS.all N).a (VS.all N).b w1
  have k4 : ∀ (w1 : World) (B1 : Nat) (V1 : Value) (l : List Int), B1 ≤ w1.heap.size → IntsV w1 B1 V1 l → Calls Try.prog 53 #[(.agg #[.int .u64 ((s).a.toNat : Int), .int .u64 ((s).b.toNat : Int)]), V1] w1 fun e w' => e = .returned (.bool (rowTrue s l)) ∧ Below w1.heap.size w1 w' :=
    fun w1 B1 V1 l h1 h2 => lit_Any s.a s.b w1 B1 V1 l h1 h2
  obtain ⟨ck, hck⟩ : ∃ ck, ck = thCheck N L := ⟨_, rfl⟩
  obtain ⟨sb, hsb⟩ : ∃ sb, sb = VS.sub s (VS.all N) := ⟨_, rfl⟩
  have hcc := thCheck_cases N L
  rw [← hck] at k1 hcc
  rw [← hsb] at k3
  have hr' : r = (decide (ck = 0) && sb && L.all (rowTrue s)) := by rw [hr, hck, hsb]; rfl
  clear hr hck hsb
  have HR := Lib.hid hr'
  have K1 := Lib.hid k1
  have K2 := Lib.hid k2
  have K3 := Lib.hid k3
  have K4 := Lib.hid k4
  clear hr' k1 k2 k3 k4
  generalize VS.all N = al at K2 K3
  by_cases h0 : ck = 0
  · subst h0
    clear hcc
    go_enter Try.func27, Try.ntmps27
    go_wp2
    have blk0 : Blk ((w.alloc (.cells #[.int .i64 N, .slice A L.length c] 29)).alloc (.cells #[.int .u64 (s.a.toNat : Int), .int .u64 (s.b.toNat : Int)] 38)) w.heap.size 29 #[.int .i64 N, .slice A L.length c] := (Blk.new w _ _).alloc _
    have blk1 : Blk ((w.alloc (.cells #[.int .i64 N, .slice A L.length c] 29)).alloc (.cells #[.int .u64 (s.a.toNat : Int), .int .u64 (s.b.toNat : Int)] 38)) (w.heap.size + 1) 38 #[.int .u64 (s.a.toNat : Int), .int .u64 (s.b.toNat : Int)] := Blk.new_ (by simp)
    have hw : Below w.heap.size w ((w.alloc (.cells #[.int .i64 N, .slice A L.length c] 29)).alloc (.cells #[.int .u64 (s.a.toNat : Int), .int .u64 (s.b.toNat : Int)] 38)) := by go_grown
    generalize (w.alloc (.cells #[.int .i64 N, .slice A L.length c] 29)).alloc (.cells #[.int .u64 (s.a.toNat : Int), .int .u64 (s.b.toNat : Int)] 38) = w1 at *
    have C0 := blk0.later 0 _ rfl
    have C1 := blk0.later 1 _ rfl
    have D0 := blk1.later 0 _ rfl
    have D1 := blk1.later 1 _ rfl
    have hb0 : Below w1.heap.size w1 w1.drew := (Below.refl _ _).drew
    have k1' : ∀ W, Below w1.heap.size w1 W → Calls Try.prog 33 #[.agg #[.int .i64 N, .slice A L.length c]] W fun e w' => e = .returned (.int .i64 0) ∧ Below w1.heap.size w1 w' :=
      fun W hW => kept (K1.out W (hw.trans (hW.mono hw.size))) hW
    have K1' := Lib.hid k1'
    clear k1' K1
    go_region_held3 (fun w' => w'.cell? ⟨w.heap.size, 0, none⟩ = some (.int .i64 N) ∧ w'.cell? ⟨w.heap.size, 1, none⟩ = some (.slice A L.length c) ∧ w'.cell? ⟨w.heap.size + 1, 0, none⟩ = some (.int .u64 (s.a.toNat : Int)) ∧ w'.cell? ⟨w.heap.size + 1, 1, none⟩ = some (.int .u64 (s.b.toNat : Int)) ∧ Below w1.heap.size w1 w') (go_keep)
      (first | (go_at_call 33; refine (K1'.out _ (by simp [*])).mono ?_; rintro e w' ⟨rfl, hB'⟩) | (go_at_call 41; refine (kept (w1 := w1) (K2.out _) (by simp [*])).mono ?_; rintro e w' ⟨rfl, hB'⟩) | (go_at_call 51; refine (kept (w1 := w1) (K3.out _) (by simp [*])).mono ?_; rintro e w' ⟨rfl, hB'⟩))
    cases sb
    · go_wp2
      go_ret
      exact ⟨ret_bool (by rw [HR.out]; simp), hw.trans (hB'.mono hw.size)⟩
    · simp only [Bool.not_true]
      have b0 := blk0.keep hB'
      have b1 := blk1.keep hB'
      have hB2 := hw.trans (hB'.mono hw.size)
      clear C0 C1 D0 D1 hb0 blk0 blk1
      generalize w' = w2 at *
      have c0 := b0.cell 0
      have c1 := b0.cell 1
      simp at c0 c1
      have l0 := b0.lt
      have l1 := b1.lt
      have B1 := Lib.hid b1
      clear b0 b1
      go_wp2
      go_loopw [21] (fun i wr => ∃ k : Nat, k ≤ L.length ∧ i = .int .i64 k ∧ (L.take k).all (rowTrue s) = true ∧ Below w2.heap.size w2 wr) (fun i _ => L.length - (intOf i).toNat)
      case atStart => exact ⟨0, by omega, rfl, rfl, Below.refl _ _⟩
      case round =>
        obtain ⟨k, hk, rfl, hall, hb⟩ := hrel
        have HALL := Lib.hid hall
        have b1 := B1.out.keep hb
        have d0 := b1.cell 0
        have d1 := b1.cell 1
        simp at d0 d1
        have l2 := b1.lt
        have hb3 := hB2.trans (hb.mono hB2.size)
        clear hall b1
        by_cases hlt : k < L.length
        · obtain ⟨b, o, A', c', rfl, hbB, hcell, hI, hnc, hcm'⟩ := hL.at_ (hb3.mono hB) hlt
          have hbl : b < wr.heap.size := by have := hb3.size; omega
          have k4' := fun (W : World) (hW : Below w.heap.size wr W) => K4.out W B _ _ (by have := hb3.size; have := hW.size; omega) (hI.below (hW.mono hB))
          have htk := Lib.hid (List.take_succ_eq_append_getElem hlt)
          have hno : rowTrue s L[k] = false → L.all (rowTrue s) = false := fun h => by
            rw [List.all_eq_false]; exact ⟨_, List.getElem_mem hlt, by simp [h]⟩
          have HNO := Lib.hid hno
          clear hno
          generalize L[k] = row at hcell hI hnc k4' htk HNO
          obtain ⟨y, hy⟩ : ∃ y, y = rowTrue s row := ⟨_, rfl⟩
          rw [← hy] at k4' HNO
          have K4' := Lib.hid k4'
          have HY := Lib.hid hy
          clear k4' hy
          unfold maxLen at hcm'
          cases y
          · have e : r = false := by rw [HR.out, HNO.out rfl]; simp
            subst e
            go_wp2_with fail
            refine (K4'.out _ (by first | exact Below.refl _ _ | go_grown)).mono ?_
            rintro e w3 ⟨rfl, hb4⟩
            go_wp2
            go_ret
            exact ⟨rfl, hb3.trans (hb4.mono hb3.size)⟩
          · go_wp2_with fail
            refine (K4'.out _ (by first | exact Below.refl _ _ | go_grown)).mono ?_
            rintro e w3 ⟨rfl, hb4⟩
            go_wp2
            go_roundw
            case rel => exact ⟨k + 1, by omega, by go_num, by rw [htk.out, List.all_append, HALL.out]; simp [← HY.out], hb.trans (hb4.mono hb.size)⟩
            case measure => simp [intOf]; omega
        · have e : k = L.length := by omega
          subst e
          rw [List.take_length] at HALL
          have e : r = true := by rw [HR.out, HALL.out]; simp
          subst e
          go_wp2
          go_ret
          exact ⟨rfl, hb3⟩
  · rcases hcc with hc | hc | hc | hc
    · exact absurd hc h0
    all_goals
      have hrf : r = false := by rw [HR.out]; simp [h0]
      subst hrf
      subst hc
      clear h0
      go_enter Try.func27, Try.ntmps27
      go_wp2
      first | go_region_with (go_at_call 33; refine (K1.out _ (by go_grown)).mono ?_; rintro e w' ⟨rfl, hB'⟩) | fail
      all_goals
        go_wp2
        go_ret
        exact ⟨rfl, Below.trans (by go_grown) (hB'.mono (by simp <;> omega))⟩
end Go.Proofs.Ytlifakbdgmdafaa
