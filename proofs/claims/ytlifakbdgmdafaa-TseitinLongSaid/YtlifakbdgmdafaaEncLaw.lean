/-
  What TseitinEncodes and TseitinExtends compute. Single operations for TseitinLong; a slice of gates of the call's own. What TseitinLong computes.
-/
import Derived.Test.YtlifakbdgmdafaaEncode10
import Derived.Test.YtlifakbdgmdafaaSizes
import Derived.Test.YtlifakbdgmdafaaWExtend
namespace Go.Proofs.Ytlifakbdgmdafaa
open Go Go.RowKit

set_option maxRecDepth 100000 in
set_option maxHeartbeats 1600000 in
theorem encodes_ok (hworks : WorksOk) (N : Int) (V : Value) (gs : List Gate) (w : World) (B : Nat) (hB : B ≤ w.heap.size) (hg : GatesV w B V gs) :
    Calls Try.prog 3 #[.agg #[.int .i64 N, V]] w fun e w' => e = .returned (.bool true) ∧ Below w.heap.size w w' := by
  obtain ⟨A0, c0, rfl, hl0, hm0, _⟩ := id hg
  have a1 : ∀ (w1 : World), Below w.heap.size w w1 → Calls Try.prog 11 #[.agg #[.int .i64 N, .slice A0 gs.length c0]] w1 fun e w' => e = .returned (.bool (decide (gs.length ≤ 60) && gs.all fun g => decide (g.inp.length ≤ 150))) ∧ Below w1.heap.size w1 w' :=
    fun w1 hb => law10_light N _ gs w1 B (Nat.le_trans hB hb.size) (hg.below (hb.mono hB))
  have hs : (decide (gs.length ≤ 60) && gs.all fun g => decide (g.inp.length ≤ 150)) = true → sizeOf gs ≤ 9000 := light_size
  obtain ⟨y, hy⟩ : ∃ y, y = (decide (gs.length ≤ 60) && gs.all fun g => decide (g.inp.length ≤ 150)) := ⟨_, rfl⟩
  rw [← hy] at a1 hs
  clear hy
  refine sx_enter (args := [.agg #[.int .i64 N, .slice A0 gs.length c0]]) Try.func3 rfl rfl (by simp) ?_
  cases y
  · skip
    refine cw_seq (fun FK1 K1 => ?_)
    refine cw_region ?_
    refine wl_new (fun ρ e => ex_boxCirc (e _ _ rfl)) rfl rfl (fun g2 w3 jb4 jk5 jg6 js7 => ?_)
    have hbw := jb4
    have hle_g2 : w.heap.size ≤ g2 := by omega
    have k_g2 := jk5
    refine wl_val (v := .bool false) (fun ρ e => ex_assign (e _ _ rfl)) rfl rfl ?_
    refine wl_nil ?_
    refine xw_next K1 ?_
    refine cw_seq (fun FK8 K8 => ?_)
    refine cw_seq (fun FK9 K9 => ?_)
    refine cw_region ?_
    refine wl_val (v := .agg #[.int .i64 N, .slice A0 gs.length c0]) (fun ρ e => ex_circ (g := g2) (o := 0) (e _ _ rfl) (k_g2.cell 0) (k_g2.cell 1)) rfl rfl ?_
    refine wl_call (args := [.agg #[.int .i64 N, .slice A0 gs.length c0]]) in_lawLight rfl rfl rfl ?_
    refine (a1 _ hbw).mono ?_
    rintro _ w10 ⟨rfl, hb⟩
    replace hbw := hbw.trans (hb.mono hbw.size)
    replace k_g2 := k_g2.keep hb
    refine ⟨_, rfl, ?_⟩
    refine wl_val (v := .bool true) (fun ρ e => ex_not (b := false) (e _ _ rfl)) rfl rfl ?_
    refine wl_nil ?_
    refine xw_next K9 ?_
    refine cw_true rfl ?_
    refine cw_seq (fun FK11 K11 => ?_)
    refine cw_region ?_
    refine wl_call (args := []) in_lawWorks rfl rfl rfl ?_
    refine (hworks _).mono ?_
    rintro _ w12 ⟨rfl, hb⟩
    replace hbw := hbw.trans (hb.mono hbw.size)
    replace k_g2 := k_g2.keep hb
    refine ⟨_, rfl, ?_⟩
    refine wl_val (v := .bool true) (fun ρ e => ex_assign (e _ _ rfl)) rfl rfl ?_
    refine wl_nil ?_
    refine xw_next K11 ?_
    refine cw_ret ?_
    refine xw_past (by intro h; cases h) ?_
    exact xw_ret (fun T hT => res1 rfl T _ (hT 2 _ rfl)) ⟨rfl, hbw⟩
  · skip
    have hs := hs rfl
    obtain ⟨r, hr⟩ : ∃ z, z = encodeOf N gs := ⟨_, rfl⟩
    have k1 : ∀ W, Below w.heap.size w W → Calls Try.prog 13 #[.agg #[.int .i64 N, .slice A0 gs.length c0]] W fun e w' => EncodePost r e w' ∧ Below W.heap.size W w' := fun W hb => by
      rw [hr]
      refine (tseitin_encode N _ gs W B (Nat.le_trans hB hb.size) (hg.below (hb.mono hB)) (by omega)).mono ?_
      rintro e w' ⟨⟨LV, GV, rfl, h1, h2⟩, h3⟩
      obtain ⟨A, c, rfl, _⟩ := id h1
      obtain ⟨AG, cG, rfl, _⟩ := id h2
      exact ⟨⟨A, c, AG, _, cG, rfl, h1, h2⟩, h3⟩
    have k2 : ∀ W, Below w.heap.size w W → Calls Try.prog 14 #[.agg #[.int .i64 N, .slice A0 gs.length c0]] W fun e w' => EncodePost r e w' ∧ Below W.heap.size W w' := fun W hb => by
      rw [hr, ← refEncode_eq]
      exact ref10_Encode N _ gs W B (Nat.le_trans hB hb.size) (hg.below (hb.mono hB)) (by omega)
    clear hr
    refine cw_seq (fun FK13 K13 => ?_)
    refine cw_region ?_
    refine wl_new (fun ρ e => ex_boxCirc (e _ _ rfl)) rfl rfl (fun g14 w15 jb16 jk17 jg18 js19 => ?_)
    have hbw := jb16
    have hle_g14 : w.heap.size ≤ g14 := by omega
    have k_g14 := jk17
    refine wl_val (v := .bool false) (fun ρ e => ex_assign (e _ _ rfl)) rfl rfl ?_
    refine wl_nil ?_
    refine xw_next K13 ?_
    refine cw_seq (fun FK20 K20 => ?_)
    refine cw_seq (fun FK21 K21 => ?_)
    refine cw_region ?_
    refine wl_val (v := .agg #[.int .i64 N, .slice A0 gs.length c0]) (fun ρ e => ex_circ (g := g14) (o := 0) (e _ _ rfl) (k_g14.cell 0) (k_g14.cell 1)) rfl rfl ?_
    refine wl_call (args := [.agg #[.int .i64 N, .slice A0 gs.length c0]]) in_lawLight rfl rfl rfl ?_
    refine (a1 _ hbw).mono ?_
    rintro _ w22 ⟨rfl, hb⟩
    replace hbw := hbw.trans (hb.mono hbw.size)
    replace k_g14 := k_g14.keep hb
    refine ⟨_, rfl, ?_⟩
    refine wl_val (v := .bool false) (fun ρ e => ex_not (b := true) (e _ _ rfl)) rfl rfl ?_
    refine wl_nil ?_
    refine xw_next K21 ?_
    refine cw_false rfl ?_
    refine cw_skip ?_
    refine xw_next K20 ?_
    refine cw_seq (fun FK23 K23 => ?_)
    refine cw_region ?_
    refine wl_val (v := .agg #[.int .i64 N, .slice A0 gs.length c0]) (fun ρ e => ex_circ (g := g14) (o := 0) (e _ _ rfl) (k_g14.cell 0) (k_g14.cell 1)) rfl rfl ?_
    refine wl_call (args := [.agg #[.int .i64 N, .slice A0 gs.length c0]]) in_tEncode rfl rfl rfl ?_
    refine (k1 _ hbw).mono ?_
    rintro _ w24 ⟨⟨A1, c1, AG1, nG1, cG1, rfl, hT1, hG1⟩, hb⟩
    replace hbw := hbw.trans (hb.mono hbw.size)
    replace k_g14 := k_g14.keep hb
    obtain ⟨B1, hB1⟩ : ∃ z, z = w24.heap.size := ⟨_, rfl⟩
    rw [← hB1] at hT1 hG1
    have hBe1 : B1 ≤ w24.heap.size := Nat.le_of_eq hB1
    clear hB1
    refine ⟨_, rfl, ?_⟩
    refine wl_val (v := .tuple #[.agg #[.int .i64 r.n, .slice A1 r.L.length c1], .slice AG1 nG1 cG1, .int .i64 r.e]) (fun ρ e => ex_move (e _ _ rfl)) rfl rfl ?_
    refine wl_val (v := .agg #[.int .i64 r.n, .slice A1 r.L.length c1]) (fun ρ e => ex_extract (vs := #[.agg #[.int .i64 r.n, .slice A1 r.L.length c1], .slice AG1 nG1 cG1, .int .i64 r.e]) (e _ _ rfl) rfl) rfl rfl ?_
    refine wl_val (v := .slice AG1 nG1 cG1) (fun ρ e => ex_extract (vs := #[.agg #[.int .i64 r.n, .slice A1 r.L.length c1], .slice AG1 nG1 cG1, .int .i64 r.e]) (e _ _ rfl) rfl) rfl rfl ?_
    refine wl_val (v := .int .i64 r.e) (fun ρ e => ex_extract (vs := #[.agg #[.int .i64 r.n, .slice A1 r.L.length c1], .slice AG1 nG1 cG1, .int .i64 r.e]) (e _ _ rfl) rfl) rfl rfl ?_
    refine wl_new (fun ρ e => ex_allocTheory) rfl rfl (fun g25 w26 jb27 jk28 jg29 js30 => ?_)
    have hle_g25 : w.heap.size ≤ g25 := by have := hbw.size; omega
    have hlt_g14_g25 : g14 < g25 := by have := k_g14.lt; omega
    have hB_1_g25 : B1 ≤ g25 := by have := hbw.size; omega
    replace hbw := hbw.trans (jb27.mono hbw.size)
    replace k_g14 := k_g14.keep jb27
    replace hT1 := hT1.below (jb27.mono hBe1)
    replace hG1 := hG1.below (jb27.mono hBe1)
    replace hBe1 := Nat.le_trans hBe1 jb27.size
    have k_g25 := jk28
    refine wl_put2 (fun ρ e => ex_storeTheory (g := g25) (e _ _ rfl) (e _ _ rfl) k_g25) rfl k_g25 (by decide) (by decide) (fun w31 hp k_g25' => ?_)
    replace hbw := hbw.trans (hp.below _ hle_g25)
    replace k_g14 := hp.far (by omega) k_g14
    replace hT1 := hT1.below (hp.below _ hB_1_g25)
    replace hG1 := hG1.below (hp.below _ hB_1_g25)
    replace hBe1 := Nat.le_trans hBe1 (Nat.le_of_eq hp.size.symm)
    replace k_g25 := k_g25'
    refine wl_val (v := .slice AG1 nG1 cG1) (fun ρ e => ex_assign (e _ _ rfl)) rfl rfl ?_
    refine wl_val (v := .int .i64 r.e) (fun ρ e => ex_assign (e _ _ rfl)) rfl rfl ?_
    refine wl_nil ?_
    refine xw_next K23 ?_
    refine cw_seq (fun FK32 K32 => ?_)
    refine cw_region ?_
    refine wl_val (v := .agg #[.int .i64 N, .slice A0 gs.length c0]) (fun ρ e => ex_circ (g := g14) (o := 0) (e _ _ rfl) (k_g14.cell 0) (k_g14.cell 1)) rfl rfl ?_
    refine wl_call (args := [.agg #[.int .i64 N, .slice A0 gs.length c0]]) in_rEncode rfl rfl rfl ?_
    refine (k2 _ hbw).mono ?_
    rintro _ w33 ⟨⟨A2, c2, AG2, nG2, cG2, rfl, hT2, hG2⟩, hb⟩
    replace hbw := hbw.trans (hb.mono hbw.size)
    replace k_g14 := k_g14.keep hb
    replace hT1 := hT1.below (hb.mono hBe1)
    replace hG1 := hG1.below (hb.mono hBe1)
    replace hBe1 := Nat.le_trans hBe1 hb.size
    replace k_g25 := k_g25.keep hb
    obtain ⟨B2, hB2⟩ : ∃ z, z = w33.heap.size := ⟨_, rfl⟩
    rw [← hB2] at hT2 hG2
    have hBe2 : B2 ≤ w33.heap.size := Nat.le_of_eq hB2
    clear hB2
    refine ⟨_, rfl, ?_⟩
    refine wl_val (v := .tuple #[.agg #[.int .i64 r.n, .slice A2 r.L.length c2], .slice AG2 nG2 cG2, .int .i64 r.e]) (fun ρ e => ex_move (e _ _ rfl)) rfl rfl ?_
    refine wl_val (v := .agg #[.int .i64 r.n, .slice A2 r.L.length c2]) (fun ρ e => ex_extract (vs := #[.agg #[.int .i64 r.n, .slice A2 r.L.length c2], .slice AG2 nG2 cG2, .int .i64 r.e]) (e _ _ rfl) rfl) rfl rfl ?_
    refine wl_val (v := .slice AG2 nG2 cG2) (fun ρ e => ex_extract (vs := #[.agg #[.int .i64 r.n, .slice A2 r.L.length c2], .slice AG2 nG2 cG2, .int .i64 r.e]) (e _ _ rfl) rfl) rfl rfl ?_
    refine wl_val (v := .int .i64 r.e) (fun ρ e => ex_extract (vs := #[.agg #[.int .i64 r.n, .slice A2 r.L.length c2], .slice AG2 nG2 cG2, .int .i64 r.e]) (e _ _ rfl) rfl) rfl rfl ?_
    refine wl_new (fun ρ e => ex_allocTheory) rfl rfl (fun g34 w35 jb36 jk37 jg38 js39 => ?_)
    have hle_g34 : w.heap.size ≤ g34 := by have := hbw.size; omega
    have hlt_g14_g34 : g14 < g34 := by have := k_g14.lt; omega
    have hlt_g25_g34 : g25 < g34 := by have := k_g25.lt; omega
    have hB_1_g34 : B1 ≤ g34 := by have := hbw.size; omega
    have hB_2_g34 : B2 ≤ g34 := by have := hbw.size; omega
    replace hbw := hbw.trans (jb36.mono hbw.size)
    replace k_g14 := k_g14.keep jb36
    replace hT1 := hT1.below (jb36.mono hBe1)
    replace hG1 := hG1.below (jb36.mono hBe1)
    replace hBe1 := Nat.le_trans hBe1 jb36.size
    replace k_g25 := k_g25.keep jb36
    replace hT2 := hT2.below (jb36.mono hBe2)
    replace hG2 := hG2.below (jb36.mono hBe2)
    replace hBe2 := Nat.le_trans hBe2 jb36.size
    have k_g34 := jk37
    refine wl_put2 (fun ρ e => ex_storeTheory (g := g34) (e _ _ rfl) (e _ _ rfl) k_g34) rfl k_g34 (by decide) (by decide) (fun w40 hp k_g34' => ?_)
    replace hbw := hbw.trans (hp.below _ hle_g34)
    replace k_g14 := hp.far (by omega) k_g14
    replace hT1 := hT1.below (hp.below _ hB_1_g34)
    replace hG1 := hG1.below (hp.below _ hB_1_g34)
    replace hBe1 := Nat.le_trans hBe1 (Nat.le_of_eq hp.size.symm)
    replace k_g25 := hp.far (by omega) k_g25
    replace hT2 := hT2.below (hp.below _ hB_2_g34)
    replace hG2 := hG2.below (hp.below _ hB_2_g34)
    replace hBe2 := Nat.le_trans hBe2 (Nat.le_of_eq hp.size.symm)
    replace k_g34 := k_g34'
    refine wl_val (v := .slice AG2 nG2 cG2) (fun ρ e => ex_assign (e _ _ rfl)) rfl rfl ?_
    refine wl_val (v := .int .i64 r.e) (fun ρ e => ex_assign (e _ _ rfl)) rfl rfl ?_
    refine wl_nil ?_
    refine xw_next K32 ?_
    refine cw_seq (fun FK41 K41 => ?_)
    refine cw_region ?_
    refine wl_val (v := .int .i64 r.e) (fun ρ e => ex_move (e _ _ rfl)) rfl rfl ?_
    refine wl_val (v := .int .i64 r.e) (fun ρ e => ex_move (e _ _ rfl)) rfl rfl ?_
    refine wl_val (v := .bool true) (fun ρ e => ex_eqlE1 (u := r.e) (v := r.e) (e _ _ rfl) (e _ _ rfl) rfl) rfl rfl ?_
    refine wl_val (v := .bool true) (fun ρ e => ex_move (e _ _ rfl)) rfl rfl ?_
    refine wl_val (v := .agg #[.int .i64 r.n, .slice A1 r.L.length c1]) (fun ρ e => ex_theory (g := g25) (o := 0) (e _ _ rfl) (k_g25.cell 0) (k_g25.cell 1)) rfl rfl ?_
    refine wl_val (v := .agg #[.int .i64 r.n, .slice A2 r.L.length c2]) (fun ρ e => ex_theory (g := g34) (o := 0) (e _ _ rfl) (k_g34.cell 0) (k_g34.cell 1)) rfl rfl ?_
    refine wl_call (args := [.agg #[.int .i64 r.n, .slice A1 r.L.length c1], .agg #[.int .i64 r.n, .slice A2 r.L.length c2]]) in_SameTheory rfl rfl rfl ?_
    refine (same_theory _ _ _ B1 B2 _ _ r.L r.L hBe1 hBe2 hT1 hT2).mono ?_
    rintro _ w42 ⟨rfl, hb⟩
    replace hbw := hbw.trans (hb.mono hbw.size)
    replace k_g14 := k_g14.keep hb
    replace hT1 := hT1.below (hb.mono hBe1)
    replace hG1 := hG1.below (hb.mono hBe1)
    replace hBe1 := Nat.le_trans hBe1 hb.size
    replace k_g25 := k_g25.keep hb
    replace hT2 := hT2.below (hb.mono hBe2)
    replace hG2 := hG2.below (hb.mono hBe2)
    replace hBe2 := Nat.le_trans hBe2 hb.size
    replace k_g34 := k_g34.keep hb
    rw [show decide (r.n = r.n ∧ r.L = r.L) = true by simp]
    refine ⟨_, rfl, ?_⟩
    refine wl_val (v := .bool true) (fun ρ e => ex_pick1 (e _ _ rfl) (e _ _ rfl)) rfl rfl ?_
    refine wl_val (v := .bool true) (fun ρ e => ex_move (e _ _ rfl)) rfl rfl ?_
    refine wl_val (v := .slice AG1 nG1 cG1) (fun ρ e => ex_move (e _ _ rfl)) rfl rfl ?_
    refine wl_val (v := .slice AG2 nG2 cG2) (fun ρ e => ex_move (e _ _ rfl)) rfl rfl ?_
    refine wl_call (args := [.slice AG1 nG1 cG1, .slice AG2 nG2 cG2]) in_SameInts rfl rfl rfl ?_
    refine (same_ints _ B1 B2 _ _ r.gate r.gate hG1 hG2).mono ?_
    rintro _ _ ⟨rfl, k, rfl⟩
    have hb : Below w42.heap.size w42 (w42.drewN k) := below_drewN (Below.refl _ _) k
    replace hbw := hbw.trans (hb.mono hbw.size)
    replace k_g14 := k_g14.keep hb
    replace hT1 := hT1.below (hb.mono hBe1)
    replace hG1 := hG1.below (hb.mono hBe1)
    replace hBe1 := Nat.le_trans hBe1 hb.size
    replace k_g25 := k_g25.keep hb
    replace hT2 := hT2.below (hb.mono hBe2)
    replace hG2 := hG2.below (hb.mono hBe2)
    replace hBe2 := Nat.le_trans hBe2 hb.size
    replace k_g34 := k_g34.keep hb
    rw [show decide (r.gate = r.gate) = true by simp]
    refine ⟨_, rfl, ?_⟩
    refine wl_val (v := .bool true) (fun ρ e => ex_pick1 (e _ _ rfl) (e _ _ rfl)) rfl rfl ?_
    refine wl_val (v := .bool true) (fun ρ e => ex_move (e _ _ rfl)) rfl rfl ?_
    refine wl_call (args := []) in_lawWorks rfl rfl rfl ?_
    refine (hworks _).mono ?_
    rintro _ w44 ⟨rfl, hb⟩
    replace hbw := hbw.trans (hb.mono hbw.size)
    replace k_g14 := k_g14.keep hb
    replace hT1 := hT1.below (hb.mono hBe1)
    replace hG1 := hG1.below (hb.mono hBe1)
    replace hBe1 := Nat.le_trans hBe1 hb.size
    replace k_g25 := k_g25.keep hb
    replace hT2 := hT2.below (hb.mono hBe2)
    replace hG2 := hG2.below (hb.mono hBe2)
    replace hBe2 := Nat.le_trans hBe2 hb.size
    replace k_g34 := k_g34.keep hb
    refine ⟨_, rfl, ?_⟩
    refine wl_val (v := .bool true) (fun ρ e => ex_pick1 (e _ _ rfl) (e _ _ rfl)) rfl rfl ?_
    refine wl_val (v := .bool true) (fun ρ e => ex_assign (e _ _ rfl)) rfl rfl ?_
    refine wl_nil ?_
    refine xw_next K41 ?_
    refine cw_ret ?_
    exact xw_ret (fun T hT => res1 rfl T _ (hT 2 _ rfl)) ⟨rfl, hbw⟩

set_option maxRecDepth 100000 in
set_option maxHeartbeats 1600000 in
theorem extends_ok (hworks : WorksOk) (N : Int) (V : Value) (gs : List Gate) (a : VS) (w : World) (B : Nat) (hB : B ≤ w.heap.size) (hg : GatesV w B V gs) (hN : -9223372036854775808 ≤ N) (hN2 : N ≤ 9223372036854775807) :
    Calls Try.prog 4 #[.agg #[.int .i64 N, V], (.agg #[.int .u64 ((a).a.toNat : Int), .int .u64 ((a).b.toNat : Int)])] w fun e w' => e = .returned (.bool true) ∧ Below w.heap.size w w' := by
  obtain ⟨A0, c0, rfl, hl0, hm0, _⟩ := id hg
  have a1 : ∀ (w1 : World), Below w.heap.size w w1 → Calls Try.prog 11 #[.agg #[.int .i64 N, .slice A0 gs.length c0]] w1 fun e w' => e = .returned (.bool (decide (gs.length ≤ 60) && gs.all fun g => decide (g.inp.length ≤ 150))) ∧ Below w1.heap.size w1 w' :=
    fun w1 hb => law10_light N _ gs w1 B (Nat.le_trans hB hb.size) (hg.below (hb.mono hB))
  have hs : (decide (gs.length ≤ 60) && gs.all fun g => decide (g.inp.length ≤ 150)) = true → sizeOf gs ≤ 9000 := light_size
  obtain ⟨y, hy⟩ : ∃ y, y = (decide (gs.length ≤ 60) && gs.all fun g => decide (g.inp.length ≤ 150)) := ⟨_, rfl⟩
  rw [← hy] at a1 hs
  clear hy
  refine sx_enter (args := [.agg #[.int .i64 N, .slice A0 gs.length c0], .agg #[.int .u64 (a.a.toNat : Int), .int .u64 (a.b.toNat : Int)]]) Try.func4 rfl rfl (by simp) ?_
  cases y
  · skip
    refine cw_seq (fun FK1 K1 => ?_)
    refine cw_region ?_
    refine wl_new (fun ρ e => ex_boxCirc (e _ _ rfl)) rfl rfl (fun g2 w3 jb4 jk5 jg6 js7 => ?_)
    have hbw := jb4
    have hle_g2 : w.heap.size ≤ g2 := by omega
    have k_g2 := jk5
    refine wl_new (fun ρ e => ex_boxSet (e _ _ rfl)) rfl rfl (fun g8 w9 jb10 jk11 jg12 js13 => ?_)
    have hle_g8 : w.heap.size ≤ g8 := by have := hbw.size; omega
    have hlt_g2_g8 : g2 < g8 := by have := k_g2.lt; omega
    replace hbw := hbw.trans (jb10.mono hbw.size)
    replace k_g2 := k_g2.keep jb10
    have k_g8 := jk11
    refine wl_val (v := .bool false) (fun ρ e => ex_assign (e _ _ rfl)) rfl rfl ?_
    refine wl_nil ?_
    refine xw_next K1 ?_
    refine cw_seq (fun FK14 K14 => ?_)
    refine cw_seq (fun FK15 K15 => ?_)
    refine cw_region ?_
    refine wl_val (v := .agg #[.int .i64 N, .slice A0 gs.length c0]) (fun ρ e => ex_circ (g := g2) (o := 0) (e _ _ rfl) (k_g2.cell 0) (k_g2.cell 1)) rfl rfl ?_
    refine wl_call (args := [.agg #[.int .i64 N, .slice A0 gs.length c0]]) in_lawLight rfl rfl rfl ?_
    refine (a1 _ hbw).mono ?_
    rintro _ w16 ⟨rfl, hb⟩
    replace hbw := hbw.trans (hb.mono hbw.size)
    replace k_g2 := k_g2.keep hb
    replace k_g8 := k_g8.keep hb
    refine ⟨_, rfl, ?_⟩
    refine wl_val (v := .bool true) (fun ρ e => ex_not (b := false) (e _ _ rfl)) rfl rfl ?_
    refine wl_nil ?_
    refine xw_next K15 ?_
    refine cw_true rfl ?_
    refine cw_seq (fun FK17 K17 => ?_)
    refine cw_region ?_
    refine wl_call (args := []) in_lawWorks rfl rfl rfl ?_
    refine (hworks _).mono ?_
    rintro _ w18 ⟨rfl, hb⟩
    replace hbw := hbw.trans (hb.mono hbw.size)
    replace k_g2 := k_g2.keep hb
    replace k_g8 := k_g8.keep hb
    refine ⟨_, rfl, ?_⟩
    refine wl_val (v := .bool true) (fun ρ e => ex_assign (e _ _ rfl)) rfl rfl ?_
    refine wl_nil ?_
    refine xw_next K17 ?_
    refine cw_ret ?_
    refine xw_past (by intro h; cases h) ?_
    exact xw_ret (fun T hT => res1 rfl T _ (hT 4 _ rfl)) ⟨rfl, hbw⟩
  · skip
    have hs := hs rfl
    obtain ⟨xs, hxs⟩ : ∃ z, z = (extendOf N gs a).1 := ⟨_, rfl⟩
    obtain ⟨z, hz⟩ : ∃ z, z = (extendOf N gs a).2 := ⟨_, rfl⟩
    have k1 : ∀ W, Below w.heap.size w W → Calls Try.prog 17 #[.agg #[.int .i64 N, .slice A0 gs.length c0], (.agg #[.int .u64 ((a).a.toNat : Int), .int .u64 ((a).b.toNat : Int)])] W fun e w' => e = .returned (.tuple #[(.agg #[.int .u64 ((xs).a.toNat : Int), .int .u64 ((xs).b.toNat : Int)]), .bool z]) ∧ Below W.heap.size W w' := fun W hb => by
      rw [hxs, hz]
      exact tseitin_extend N _ gs a W B (Nat.le_trans hB hb.size) (hg.below (hb.mono hB)) (by omega) hN hN2
    have k2 : ∀ W, Below w.heap.size w W → Calls Try.prog 18 #[.agg #[.int .i64 N, .slice A0 gs.length c0], (.agg #[.int .u64 ((a).a.toNat : Int), .int .u64 ((a).b.toNat : Int)])] W fun e w' => e = .returned (.tuple #[(.agg #[.int .u64 ((xs).a.toNat : Int), .int .u64 ((xs).b.toNat : Int)]), .bool z]) ∧ Below W.heap.size W w' := fun W hb => by
      rw [hxs, hz, ← refExtend_eq]
      exact ref10_Extend N _ gs a W B (Nat.le_trans hB hb.size) (hg.below (hb.mono hB)) (by omega)
    clear hxs hz
    refine cw_seq (fun FK19 K19 => ?_)
    refine cw_region ?_
    refine wl_new (fun ρ e => ex_boxCirc (e _ _ rfl)) rfl rfl (fun g20 w21 jb22 jk23 jg24 js25 => ?_)
    have hbw := jb22
    have hle_g20 : w.heap.size ≤ g20 := by omega
    have k_g20 := jk23
    refine wl_new (fun ρ e => ex_boxSet (e _ _ rfl)) rfl rfl (fun g26 w27 jb28 jk29 jg30 js31 => ?_)
    have hle_g26 : w.heap.size ≤ g26 := by have := hbw.size; omega
    have hlt_g20_g26 : g20 < g26 := by have := k_g20.lt; omega
    replace hbw := hbw.trans (jb28.mono hbw.size)
    replace k_g20 := k_g20.keep jb28
    have k_g26 := jk29
    refine wl_val (v := .bool false) (fun ρ e => ex_assign (e _ _ rfl)) rfl rfl ?_
    refine wl_nil ?_
    refine xw_next K19 ?_
    refine cw_seq (fun FK32 K32 => ?_)
    refine cw_seq (fun FK33 K33 => ?_)
    refine cw_region ?_
    refine wl_val (v := .agg #[.int .i64 N, .slice A0 gs.length c0]) (fun ρ e => ex_circ (g := g20) (o := 0) (e _ _ rfl) (k_g20.cell 0) (k_g20.cell 1)) rfl rfl ?_
    refine wl_call (args := [.agg #[.int .i64 N, .slice A0 gs.length c0]]) in_lawLight rfl rfl rfl ?_
    refine (a1 _ hbw).mono ?_
    rintro _ w34 ⟨rfl, hb⟩
    replace hbw := hbw.trans (hb.mono hbw.size)
    replace k_g20 := k_g20.keep hb
    replace k_g26 := k_g26.keep hb
    refine ⟨_, rfl, ?_⟩
    refine wl_val (v := .bool false) (fun ρ e => ex_not (b := true) (e _ _ rfl)) rfl rfl ?_
    refine wl_nil ?_
    refine xw_next K33 ?_
    refine cw_false rfl ?_
    refine cw_skip ?_
    refine xw_next K32 ?_
    refine cw_seq (fun FK35 K35 => ?_)
    refine cw_region ?_
    refine wl_val (v := .agg #[.int .i64 N, .slice A0 gs.length c0]) (fun ρ e => ex_circ (g := g20) (o := 0) (e _ _ rfl) (k_g20.cell 0) (k_g20.cell 1)) rfl rfl ?_
    refine wl_val (v := .agg #[.int .u64 (a.a.toNat : Int), .int .u64 (a.b.toNat : Int)]) (fun ρ e => ex_set (g := g26) (o := 0) (e _ _ rfl) (k_g26.cell 0) (k_g26.cell 1)) rfl rfl ?_
    refine wl_call (args := [.agg #[.int .i64 N, .slice A0 gs.length c0], .agg #[.int .u64 (a.a.toNat : Int), .int .u64 (a.b.toNat : Int)]]) in_tExtend rfl rfl rfl ?_
    refine (k1 _ hbw).mono ?_
    rintro _ w36 ⟨rfl, hb⟩
    replace hbw := hbw.trans (hb.mono hbw.size)
    replace k_g20 := k_g20.keep hb
    replace k_g26 := k_g26.keep hb
    refine ⟨_, rfl, ?_⟩
    refine wl_val (v := .tuple #[.agg #[.int .u64 (xs.a.toNat : Int), .int .u64 (xs.b.toNat : Int)], .bool z]) (fun ρ e => ex_move (e _ _ rfl)) rfl rfl ?_
    refine wl_val (v := .agg #[.int .u64 (xs.a.toNat : Int), .int .u64 (xs.b.toNat : Int)]) (fun ρ e => ex_extract (vs := #[.agg #[.int .u64 (xs.a.toNat : Int), .int .u64 (xs.b.toNat : Int)], .bool z]) (e _ _ rfl) rfl) rfl rfl ?_
    refine wl_val (v := .bool z) (fun ρ e => ex_extract (vs := #[.agg #[.int .u64 (xs.a.toNat : Int), .int .u64 (xs.b.toNat : Int)], .bool z]) (e _ _ rfl) rfl) rfl rfl ?_
    refine wl_new (fun ρ e => ex_allocSet) rfl rfl (fun g37 w38 jb39 jk40 jg41 js42 => ?_)
    have hle_g37 : w.heap.size ≤ g37 := by have := hbw.size; omega
    have hlt_g20_g37 : g20 < g37 := by have := k_g20.lt; omega
    have hlt_g26_g37 : g26 < g37 := by have := k_g26.lt; omega
    replace hbw := hbw.trans (jb39.mono hbw.size)
    replace k_g20 := k_g20.keep jb39
    replace k_g26 := k_g26.keep jb39
    have k_g37 := jk40
    refine wl_put2 (fun ρ e => ex_storeSet (g := g37) (e _ _ rfl) (e _ _ rfl) k_g37) rfl k_g37 (by decide) (by decide) (fun w43 hp k_g37' => ?_)
    replace hbw := hbw.trans (hp.below _ hle_g37)
    replace k_g20 := hp.far (by omega) k_g20
    replace k_g26 := hp.far (by omega) k_g26
    replace k_g37 := k_g37'
    refine wl_val (v := .bool z) (fun ρ e => ex_assign (e _ _ rfl)) rfl rfl ?_
    refine wl_nil ?_
    refine xw_next K35 ?_
    refine cw_seq (fun FK44 K44 => ?_)
    refine cw_region ?_
    refine wl_val (v := .agg #[.int .i64 N, .slice A0 gs.length c0]) (fun ρ e => ex_circ (g := g20) (o := 0) (e _ _ rfl) (k_g20.cell 0) (k_g20.cell 1)) rfl rfl ?_
    refine wl_val (v := .agg #[.int .u64 (a.a.toNat : Int), .int .u64 (a.b.toNat : Int)]) (fun ρ e => ex_set (g := g26) (o := 0) (e _ _ rfl) (k_g26.cell 0) (k_g26.cell 1)) rfl rfl ?_
    refine wl_call (args := [.agg #[.int .i64 N, .slice A0 gs.length c0], .agg #[.int .u64 (a.a.toNat : Int), .int .u64 (a.b.toNat : Int)]]) in_rExtend rfl rfl rfl ?_
    refine (k2 _ hbw).mono ?_
    rintro _ w45 ⟨rfl, hb⟩
    replace hbw := hbw.trans (hb.mono hbw.size)
    replace k_g20 := k_g20.keep hb
    replace k_g26 := k_g26.keep hb
    replace k_g37 := k_g37.keep hb
    refine ⟨_, rfl, ?_⟩
    refine wl_val (v := .tuple #[.agg #[.int .u64 (xs.a.toNat : Int), .int .u64 (xs.b.toNat : Int)], .bool z]) (fun ρ e => ex_move (e _ _ rfl)) rfl rfl ?_
    refine wl_val (v := .agg #[.int .u64 (xs.a.toNat : Int), .int .u64 (xs.b.toNat : Int)]) (fun ρ e => ex_extract (vs := #[.agg #[.int .u64 (xs.a.toNat : Int), .int .u64 (xs.b.toNat : Int)], .bool z]) (e _ _ rfl) rfl) rfl rfl ?_
    refine wl_val (v := .bool z) (fun ρ e => ex_extract (vs := #[.agg #[.int .u64 (xs.a.toNat : Int), .int .u64 (xs.b.toNat : Int)], .bool z]) (e _ _ rfl) rfl) rfl rfl ?_
    refine wl_new (fun ρ e => ex_allocSet) rfl rfl (fun g46 w47 jb48 jk49 jg50 js51 => ?_)
    have hle_g46 : w.heap.size ≤ g46 := by have := hbw.size; omega
    have hlt_g20_g46 : g20 < g46 := by have := k_g20.lt; omega
    have hlt_g26_g46 : g26 < g46 := by have := k_g26.lt; omega
    have hlt_g37_g46 : g37 < g46 := by have := k_g37.lt; omega
    replace hbw := hbw.trans (jb48.mono hbw.size)
    replace k_g20 := k_g20.keep jb48
    replace k_g26 := k_g26.keep jb48
    replace k_g37 := k_g37.keep jb48
    have k_g46 := jk49
    refine wl_put2 (fun ρ e => ex_storeSet (g := g46) (e _ _ rfl) (e _ _ rfl) k_g46) rfl k_g46 (by decide) (by decide) (fun w52 hp k_g46' => ?_)
    replace hbw := hbw.trans (hp.below _ hle_g46)
    replace k_g20 := hp.far (by omega) k_g20
    replace k_g26 := hp.far (by omega) k_g26
    replace k_g37 := hp.far (by omega) k_g37
    replace k_g46 := k_g46'
    refine wl_val (v := .bool z) (fun ρ e => ex_assign (e _ _ rfl)) rfl rfl ?_
    refine wl_nil ?_
    refine xw_next K44 ?_
    refine cw_seq (fun FK53 K53 => ?_)
    refine cw_region ?_
    refine wl_val (v := .bool z) (fun ρ e => ex_move (e _ _ rfl)) rfl rfl ?_
    refine wl_val (v := .bool z) (fun ρ e => ex_move (e _ _ rfl)) rfl rfl ?_
    refine wl_val (v := .bool true) (fun ρ e => ex_eqbb (b := z) (e _ _ rfl) (e _ _ rfl)) rfl rfl ?_
    refine wl_val (v := .bool true) (fun ρ e => ex_move (e _ _ rfl)) rfl rfl ?_
    refine wl_val (v := .agg #[.int .u64 (xs.a.toNat : Int), .int .u64 (xs.b.toNat : Int)]) (fun ρ e => ex_set (g := g37) (o := 0) (e _ _ rfl) (k_g37.cell 0) (k_g37.cell 1)) rfl rfl ?_
    refine wl_val (v := .agg #[.int .u64 (xs.a.toNat : Int), .int .u64 (xs.b.toNat : Int)]) (fun ρ e => ex_set (g := g46) (o := 0) (e _ _ rfl) (k_g46.cell 0) (k_g46.cell 1)) rfl rfl ?_
    refine wl_val (v := .bool true) (fun ρ e => ex_eqsame (s := xs) (e _ _ rfl) (e _ _ rfl)) rfl rfl ?_
    refine wl_val (v := .bool true) (fun ρ e => ex_pick1 (e _ _ rfl) (e _ _ rfl)) rfl rfl ?_
    refine wl_val (v := .bool true) (fun ρ e => ex_move (e _ _ rfl)) rfl rfl ?_
    refine wl_call (args := []) in_lawWorks rfl rfl rfl ?_
    refine (hworks _).mono ?_
    rintro _ w54 ⟨rfl, hb⟩
    replace hbw := hbw.trans (hb.mono hbw.size)
    replace k_g20 := k_g20.keep hb
    replace k_g26 := k_g26.keep hb
    replace k_g37 := k_g37.keep hb
    replace k_g46 := k_g46.keep hb
    refine ⟨_, rfl, ?_⟩
    refine wl_val (v := .bool true) (fun ρ e => ex_pick1 (e _ _ rfl) (e _ _ rfl)) rfl rfl ?_
    refine wl_val (v := .bool true) (fun ρ e => ex_assign (e _ _ rfl)) rfl rfl ?_
    refine wl_nil ?_
    refine xw_next K53 ?_
    refine cw_ret ?_
    exact xw_ret (fun T hT => res1 rfl T _ (hT 4 _ rfl)) ⟨rfl, hbw⟩
end Go.Proofs.Ytlifakbdgmdafaa

namespace Go.Proofs.Ytlifakbdgmdafaa
open Go Go.RowKit
section
variable {ρ : Operand → Value} {d : Option Tmp} {x y : Operand} {t : TypeId} {pos : String} {aft : Array Edge} {gd : Option (Nat × Bool)} {w : World}
theorem ex_conv8 {a : Nat} (hx : ρ x = .int .u8 (a : Int)) (h : a ≤ 255) : (execOp ρ ⟨d, .convert 5 3 x, t, pos, aft, gd⟩).run Try.prog w = .ok (.value (.int .i64 (a : Int))) w := by
  have e : IntKind.i64.wrap (a : Int) = (a : Int) := wrap_in (by omega) (by omega)
  simp [go_sem, hx, e]
theorem ex_conv16 {a : Nat} (hx : ρ x = .int .u16 (a : Int)) (h : a ≤ 65535) : (execOp ρ ⟨d, .convert 42 3 x, t, pos, aft, gd⟩).run Try.prog w = .ok (.value (.int .i64 (a : Int))) w := by
  have e : IntKind.i64.wrap (a : Int) = (a : Int) := wrap_in (by omega) (by omega)
  simp [go_sem, hx, e]
theorem ex_rem {a b : Nat} (hx : ρ x = .int .i64 (a : Int)) (hy : ρ y = .int .i64 (b : Int)) (h : 0 < b) : (execOp ρ ⟨d, .binOp .rem 3 x y 3, t, pos, aft, gd⟩).run Try.prog w = .ok (.value (.int .i64 ((a % b : Nat) : Int))) w := by
  have e2 : (a : Int).tmod (b : Int) = ((a % b : Nat) : Int) := by simp [Int.tmod_eq_emod_of_nonneg]
  have hb : ¬ b = 0 := by omega
  simp [go_sem, hx, hy, e2, hb]
theorem ex_onePlus {a : Nat} (hx : ρ x = .int .i64 1) (hy : ρ y = .int .i64 (a : Int)) (h : a ≤ 65535) : (execOp ρ ⟨d, .binOp .add 3 x y 3, t, pos, aft, gd⟩).run Try.prog w = .ok (.value (.int .i64 (1 + (a : Int)))) w := ex_add hx hy (wrap_in (by omega) (by omega))
theorem ex_gate01 {a b : Int} (hx : ρ x = .int .i64 a) (hy : ρ y = .int .i64 b) : (execOp ρ ⟨d, .build 44 #[(0, x), (1, y)], t, pos, aft, gd⟩).run Try.prog w = .ok (.value (.agg #[.int .i64 a, .int .i64 b, .slice none 0 0])) w := by
  simp [go_sem, hx, hy]
theorem ex_gate02 {a : Int} {A : Option Addr} {k c : Nat} (hx : ρ x = .int .i64 a) (hy : ρ y = .slice A k c) : (execOp ρ ⟨d, .build 44 #[(0, x), (2, y)], t, pos, aft, gd⟩).run Try.prog w = .ok (.value (.agg #[.int .i64 a, .int .i64 0, .slice A k c])) w := by
  simp [go_sem, hx, hy]
theorem ex_sliceGate {a b c : Value} (hx : ρ x = .agg #[a, b, c]) : (execOp ρ ⟨d, .buildSlice 22 1 #[(0, x)], t, pos, aft, gd⟩).run Try.prog w = .ok (.value (.slice (some ⟨w.heap.size, 0, none⟩) 1 1)) (w.alloc (.cells #[a, b, c] 44)) := by
  simp [go_sem, hx]
theorem ex_buildCirc {a : Int} {A : Option Addr} {k c : Nat} (hx : ρ x = .int .i64 a) (hy : ρ y = .slice A k c) : (execOp ρ ⟨d, .build 24 #[(0, x), (1, y)], t, pos, aft, gd⟩).run Try.prog w = .ok (.value (.agg #[.int .i64 a, .slice A k c])) w := by
  simp [go_sem, hx, hy]
theorem ex_allocCirc : (execOp ρ ⟨d, .alloc 24, t, pos, aft, gd⟩).run Try.prog w = .ok (.value (.pointer (some ⟨w.heap.size, 0, none⟩))) (w.alloc (.cells #[.int .i64 0, .slice none 0 0] 24)) := by
  simp [go_sem]
theorem ex_storeCirc {g : Nat} {u0 u1 : Value} {k : Int} {A : Option Addr} {l c : Nat} (hx : ρ x = .pointer (some ⟨g, 0, none⟩)) (hy : ρ y = .agg #[.int .i64 k, .slice A l c]) (h : Blk w g 24 #[u0, u1]) :
    (execOp ρ ⟨d, .store 24 x y, t, pos, aft, gd⟩).run Try.prog w = .ok .skip ((w.setCell ⟨g, 0, none⟩ (.int .i64 k)).setCell ⟨g, 1, none⟩ (.slice A l c)) := by
  have q0 := h.cell 0
  have q1 := h.cell 1
  have f0 := h.free 0
  have f1 := h.free 1
  simp at q0 q1
  simp [go_sem, hx, hy, q0, q1, f0, f1]
theorem ex_storeGates {p : Addr} {A : Option Addr} {k c : Nat} {u : Value} (hx : ρ x = .pointer (some p)) (hy : ρ y = .slice A k c) (h : w.cell? p = some u) (hf : w.frozen? p = false) : (execOp ρ ⟨d, .store 22 x y, t, pos, aft, gd⟩).run Try.prog w = .ok .skip (w.setCell p (.slice A k c)) := by
  simp [go_sem, hx, hy, h, hf]
theorem ex_mkints {n : Nat} (hx : ρ x = .int .i64 (n : Int)) (h : n ≤ 65535) : (execOp ρ ⟨d, .makeSlice 30 x x, t, pos, aft, gd⟩).run Try.prog w = .ok (.value (.slice (some ⟨w.heap.size, 0, none⟩) n n)) (w.alloc (.cells (intCells (List.replicate n 0)) 3)) := by
  have := mk_ints n (by omega) w
  unfold execOp
  simp only [hx, Sem.run_bind, this, Result.andThen_ok, Sem.run_pure]
end
def longGates (kd : Int) (m k : Nat) : List Gate := ⟨2, 1, []⟩ :: List.replicate k ⟨kd, 0, List.replicate m 0⟩
def longCells (kd : Int) (V : Value) (k : Nat) : List Value := [.int .i64 2, .int .i64 1, .slice none 0 0] ++ (List.replicate k [Value.int .i64 kd, .int .i64 0, V]).flatten
def OwnG (w : World) (base : Nat) (v : Value) (kd : Int) (V : Value) (k : Nat) : Prop := w.ownsRow base 44 3 v (k + 1) (longCells kd V k)
theorem longCells_succ (kd : Int) (V : Value) (k : Nat) : longCells kd V (k + 1) = longCells kd V k ++ [.int .i64 kd, .int .i64 0, V] := by
  unfold longCells
  rw [List.replicate_succ', List.flatten_append]
  simp
theorem longCells_len (kd : Int) (V : Value) (k : Nat) : (longCells kd V k).length = (k + 1) * 3 := by
  induction k with
  | zero => rfl
  | succ k ih => rw [longCells_succ, List.length_append, ih]; simp; omega
theorem longCells_at (kd : Int) (V : Value) (k i : Nat) (h : i < k) : (longCells kd V k)[(i + 1) * 3]? = some (.int .i64 kd) ∧ (longCells kd V k)[(i + 1) * 3 + 1]? = some (.int .i64 0) ∧ (longCells kd V k)[(i + 1) * 3 + 2]? = some V := by
  induction k with
  | zero => omega
  | succ k ih =>
    rw [longCells_succ]
    have hl := longCells_len kd V k
    by_cases hi : i < k
    · obtain ⟨h1, h2, h3⟩ := ih hi
      refine ⟨?_, ?_, ?_⟩ <;> (rw [List.getElem?_append_left (by omega)]; assumption)
    · have : i = k := by omega
      subst this
      refine ⟨?_, ?_, ?_⟩
      · rw [List.getElem?_append_right (by omega), hl, show (i + 1) * 3 - (i + 1) * 3 = 0 by omega]; rfl
      · rw [List.getElem?_append_right (by omega), hl, show (i + 1) * 3 + 1 - (i + 1) * 3 = 1 by omega]; rfl
      · rw [List.getElem?_append_right (by omega), hl, show (i + 1) * 3 + 2 - (i + 1) * 3 = 2 by omega]; rfl
theorem longCells_zero (kd : Int) (V : Value) (k : Nat) : (longCells kd V k)[0]? = some (.int .i64 2) ∧ (longCells kd V k)[1]? = some (.int .i64 1) ∧ (longCells kd V k)[2]? = some (.slice none 0 0) := ⟨rfl, rfl, rfl⟩
theorem OwnG.V {w : World} {base B : Nat} {v : Value} {kd : Int} {V : Value} {m k : Nat} (h : OwnG w base v kd V k) (hV : IntsV w B V (List.replicate m 0)) (hB : B ≤ w.heap.size) : GatesV w w.heap.size v (longGates kd m k) := by
  obtain ⟨h1, h2⟩ := h
  rcases h2 with ⟨_, hn⟩ | ⟨g, cap, cur, rfl, _, hg, hnc, hcm, _, htake⟩
  · omega
  · have hlen : (longGates kd m k).length = k + 1 := by simp [longGates]
    refine ⟨_, cap, by rw [hlen], by rw [hlen]; exact hnc, hcm, fun _ => ⟨g, 0, (Array.getElem?_eq_some_iff.1 hg).1, rfl, fun i x hx => ?_⟩⟩
    have cell : ∀ j u, (longCells kd V k)[j]? = some u → w.cell? ⟨g, j, none⟩ = some u := fun j u hu => by
      rw [cell_of_row w g j cur _ (0, 0) hg]
      have hj : j < (longCells kd V k).length := (List.getElem?_eq_some_iff.1 hu).1
      rw [longCells_len] at hj
      have h3 : (cur.toList.take ((k + 1) * 3))[j]? = some u := by rw [htake]; exact hu
      rw [List.getElem?_take_of_lt (by omega)] at h3
      simpa using h3
    have hi : i < k + 1 := by rw [← hlen]; exact (List.getElem?_eq_some_iff.1 hx).1
    simp only [Nat.zero_add]
    cases i with
    | zero =>
      simp only [longGates, List.getElem?_cons_zero, Option.some.injEq] at hx
      subst hx
      obtain ⟨c0, c1, c2⟩ := longCells_zero kd V k
      exact ⟨cell _ _ c0, cell _ _ c1, _, cell _ _ c2, ints_nil _ _⟩
    | succ i =>
      simp only [longGates, List.getElem?_cons_succ] at hx
      rw [List.getElem?_replicate] at hx
      split at hx
      case isFalse => cases hx
      injection hx with hx
      subst hx
      obtain ⟨c0, c1, c2⟩ := longCells_at kd V k i (by omega)
      exact ⟨cell _ _ c0, cell _ _ c1, V, cell _ _ c2, hV.more hB⟩
theorem long_size (kd : Int) (m k : Nat) : sizeOf (longGates kd m k) = k * m := by
  unfold sizeOf sizeTo longGates
  rw [List.take_length]
  simp
theorem OwnG.one {w : World} {base g : Nat} (kd : Int) (V : Value) (hk : Blk w g 44 #[.int .i64 2, .int .i64 1, .slice none 0 0]) (hb : base ≤ g) : OwnG w base (.slice (some ⟨g, 0, none⟩) 1 1) kd V 0 :=
  ⟨rfl, .inr ⟨g, 1, _, rfl, hb, hk, Nat.le_refl _, by unfold maxLen; omega, rfl, rfl⟩⟩
theorem OwnG.below {w w' : World} {base : Nat} {v : Value} {kd : Int} {V : Value} {k : Nat} (h : OwnG w base v kd V k) (hb : Below w.heap.size w w') : OwnG w' base v kd V k := own_below h hb
theorem OwnG.put {w : World} {base g : Nat} {v : Value} {kd : Int} {V : Value} {k : Nat} {cs : Array Value} (h : OwnG w base v kd V k) (hk : Blk w g 24 cs) (i : Nat) (u : Value) : OwnG (w.setCell ⟨g, i, none⟩ u) base v kd V k :=
  own_setCell h (p := ⟨g, i, none⟩) (by exact own_blk_ne h hk (by decide)) u
theorem OwnInts.besideG {w w' : World} {base b : Nat} {v u : Value} {l : List Int} {kd : Int} {V : Value} {k : Nat} (h : OwnInts w b v l) (ho : OwnG w base u kd V k) (hg : w.grownBy w' u.ownBlock) : OwnInts w' b v l := by
  refine World.ownsRow.kept h hg ?_
  by_cases e : v.ownBlock = none
  · exact .inl e
  · right
    intro e2
    rcases ho.2 with ⟨hu, _⟩ | ⟨g, cap, cur, hu, _, hh, _⟩
    · rw [e2, hu] at e; exact e rfl
    · exact own_blk_ne h (t := 44) (cs := cur) (g := g) hh (by decide) (by rw [e2, hu]; rfl)
theorem info_gate : (Try.prog.info? 44).map (fun i => (i.zero, i.size, i.bytes)) = some (some (.agg #[.int .i64 0, .int .i64 0, .slice none 0 0]), 3, 40) := by kernel_rfl
section
variable {ops : Array Oper} {Q : Exit → Act → World → Prop} {S : World → Prop} {r : List (Nat × Nat)} {n : Nat} {m : List (Nat × Value)} {w : World} {i d : Nat} {t : TypeId} {pos : String} {aft : Array Edge} {gd : Option (Nat × Bool)}
theorem wt2_append_gate {x y : Operand} {v V : Value} {kd : Int} {k g base : Nat} (ho : ops[i]? = some ⟨some d, .call ⟨.builtin .append, #[x, y], #[22, 22]⟩, t, pos, aft, gd⟩) (hx : ev m x = some v) (hy : ev m y = some (.slice (some ⟨g, 0, none⟩) 1 1)) (hg : wantedM ops m gd = some true) (hd : Nat.blt d n = true) (hown : OwnG w base v kd V k) (hV : V.oneCell' = true) (hk : Blk w g 44 #[.int .i64 kd, .int .i64 0, V]) (hlen : k ≤ 1000000) (hbase : base ≤ w.heap.size)
    (h : ∀ A c w', OwnG w' base (.slice A (k + 1 + 1) c) kd V (k + 1) → w.grownBy w' v.ownBlock → S w' ∧ wt Try.prog ops Q S r n ((d, .slice A (k + 1 + 1) c) :: m) w') :
    wt Try.prog ops Q S ((i, 2) :: r) n m w := by
  obtain ⟨inf, hi, hz, hsz, hb⟩ := info_parts info_gate
  obtain ⟨v', w', hrun, h2, h3, _, h5⟩ := run_append_own_at (P := Try.prog) (w := w) base 22 t 44 inf _ 3 40 Try.underlying22 hi hz hsz hb rfl (by decide) v _ _ hown ⟨g, 0, none⟩ 1 1 [.int .i64 kd, .int .i64 0, V] rfl
    (fun j u hu => by
      have hadd : (⟨g, 0, none⟩ : Addr).add j = ⟨g, j, none⟩ := by unfold Addr.add; split <;> simp_all
      rw [hadd, hk.cell j]
      simpa using hu)
    (by intro u hu; simp at hu; rcases hu with rfl | rfl | rfl <;> first | rfl | exact hV) (by unfold maxLen; omega) (by omega) hbase
  obtain ⟨A, c, rfl⟩ := own_form h2
  obtain ⟨h6, h7⟩ := h A c w' (by unfold OwnG; rw [longCells_succ]; exact h2) h3
  refine wt2 ho (fun ρ e => ?_) hg hd h6 h7
  unfold execOp
  simp only [resolve, invoke, builtin, Sem.run_bind, Sem.run_pure, Result.andThen_ok, List.map_toArray, List.map_cons, List.map_nil, e _ _ hx, e _ _ hy, hrun]
end
end Go.Proofs.Ytlifakbdgmdafaa

namespace Go.Proofs.Ytlifakbdgmdafaa
open Go Go.RowKit

set_option maxRecDepth 100000 in
set_option maxHeartbeats 1600000 in
theorem long_ok (hworks : WorksOk) (ga gi ka na : Nat) (hga : ga ≤ 65535) (hgi : gi ≤ 65535) (hka : ka ≤ 255) (hna : na ≤ 255) (w : World) :
    Calls Try.prog 5 #[.int .u16 (ga : Int), .int .u16 (gi : Int), .int .u8 (ka : Int), .int .u8 (na : Int)] w fun e w' => e = .returned (.bool true) ∧ Below w.heap.size w w' := by
  obtain ⟨kd, hkd⟩ : ∃ kd : Int, [(4 : Int), 5, 6][ka % 3]? = some kd := ⟨_, List.getElem?_eq_getElem (by simp; omega)⟩
  refine sx_enter (args := [.int .u16 (ga : Int), .int .u16 (gi : Int), .int .u8 (ka : Int), .int .u8 (na : Int)]) Try.func5 rfl rfl (by simp) ?_
  refine cw_seq (fun FK1 K1 => ?_)
  refine cw_region ?_
  refine wl_val (v := .bool false) (fun ρ e => ex_assign (e _ _ rfl)) rfl rfl ?_
  refine wl_nil ?_
  refine xw_next K1 ?_
  refine cw_seq (fun FK2 K2 => ?_)
  refine cw_region ?_
  refine wl_val (v := .int .u8 (na : Int)) (fun ρ e => ex_move (e _ _ rfl)) rfl rfl ?_
  refine wl_val (v := .int .i64 (na : Int)) (fun ρ e => ex_conv8 (e _ _ rfl) (by omega)) rfl rfl ?_
  refine wl_val (v := .int .i64 ((na % 128 : Nat) : Int)) (fun ρ e => ex_rem (a := na) (b := 128) (e _ _ rfl) (e _ _ rfl) (by omega)) rfl rfl ?_
  refine wl_val (v := .int .i64 (1 + ((na % 128 : Nat) : Int))) (fun ρ e => ex_onePlus (a := (na % 128)) (e _ _ rfl) (e _ _ rfl) (by omega)) rfl rfl ?_
  refine wl_val (v := .agg #[.int .i64 2, .int .i64 1, .slice none 0 0]) (fun ρ e => ex_gate01 (e _ _ rfl) (e _ _ rfl)) rfl rfl ?_
  refine wl_newslice (fun ρ e => ex_sliceGate (e _ _ rfl)) rfl rfl (fun g3 w4 jb5 jk6 jg7 js8 => ?_)
  have hbw : Below w.heap.size w w4 := jb5
  have hO : OwnG w4 w.heap.size (.slice (some ⟨g3, 0, none⟩) 1 1) kd (.slice none 0 0) 0 := OwnG.one _ _ jk6 (by omega)
  refine wl_val (v := .agg #[.int .i64 (1 + ((na % 128 : Nat) : Int)), .slice (some ⟨g3, 0, none⟩) 1 1]) (fun ρ e => ex_buildCirc (e _ _ rfl) (e _ _ rfl)) rfl rfl ?_
  refine wl_new (fun ρ e => ex_allocCirc) rfl rfl (fun g9 w10 jb11 jk12 jg13 js14 => ?_)
  have hle_g9 : w.heap.size ≤ g9 := by have := hbw.size; omega
  have jk6' := jk6.keep jb11
  replace hbw := hbw.trans (jb11.mono hbw.size)
  replace hO := hO.below jb11
  have k_g9 := jk12
  refine wl_put2 (fun ρ e => ex_storeCirc (g := g9) (e _ _ rfl) (e _ _ rfl) k_g9) rfl k_g9 (by decide) (by decide) (fun w15 hp k_g9' => ?_)
  have hltg : g3 < g9 := by omega
  replace hO : OwnG w15 w.heap.size (.slice (some ⟨g3, 0, none⟩) 1 1) kd (.slice none 0 0) 0 := OwnG.one _ _ (Blk.below jk6' (hp.below g9 (Nat.le_refl _)) hltg) (by omega)
  replace hbw := hbw.trans (hp.below _ hle_g9)
  replace k_g9 := k_g9'
  refine wl_nil ?_
  refine xw_next K2 ?_
  refine cw_seq (fun FK16 K16 => ?_)
  refine cw_region ?_
  refine wl_val (v := .int .u16 (gi : Int)) (fun ρ e => ex_move (e _ _ rfl)) rfl rfl ?_
  refine wl_val (v := .int .i64 (gi : Int)) (fun ρ e => ex_conv16 (e _ _ rfl) (by omega)) rfl rfl ?_
  refine wl_val (v := .int .i64 ((gi % 140 : Nat) : Int)) (fun ρ e => ex_rem (a := gi) (b := 140) (e _ _ rfl) (e _ _ rfl) (by omega)) rfl rfl ?_
  refine wl_newslice (fun ρ e => ex_mkints (n := gi % 140) (e _ _ rfl) (by omega)) rfl rfl (fun g17 w18 jb19 jk20 jg21 js22 => ?_)
  have hleg : w.heap.size ≤ g17 := by have := hbw.size; omega
  replace hbw := hbw.trans (jb19.mono hbw.size)
  replace hO := hO.below jb19
  replace k_g9 := k_g9.keep jb19
  have hI : OwnInts w18 w.heap.size (.slice (some ⟨g17, 0, none⟩) (gi % 140) (gi % 140)) (List.replicate (gi % 140) 0) := by have := own_of_blk (base := w.heap.size) jk20 hleg (by simp [maxLen]; omega); simpa using this
  refine wl_val (v := .slice (some ⟨g17, 0, none⟩) (gi % 140) (gi % 140)) (fun ρ e => ex_assign (e _ _ rfl)) rfl rfl ?_
  refine wl_nil ?_
  refine xw_next K16 ?_
  refine cw_seq (fun FK23 K23 => ?_)
  refine cw_region ?_
  refine wl_newslice (fun ρ e => ex_build3 (v0 := 4) (v1 := 5) (v2 := 6) (e _ _ rfl) (e _ _ rfl) (e _ _ rfl)) rfl rfl (fun g24 w25 jb26 jk27 jg28 js29 => ?_)
  have hlek : w.heap.size ≤ g24 := by have := hbw.size; omega
  replace hbw := hbw.trans (jb26.mono hbw.size)
  replace hO := hO.below jb26
  replace k_g9 := k_g9.keep jb26
  replace hI := hI.below jb26
  have hK : OwnInts w25 w.heap.size (.slice (some ⟨g24, 0, none⟩) 3 3) [4, 5, 6] := own_of_blk jk27 hlek (by simp [maxLen])
  refine wl_val (v := .slice (some ⟨g24, 0, none⟩) 3 3) (fun ρ e => ex_assign (e _ _ rfl)) rfl rfl ?_
  refine wl_nil ?_
  refine xw_next K23 ?_
  refine cw_seq (fun FK30 K30 => ?_)
  refine cw_seq (fun FK31 K31 => ?_)
  refine cw_region ?_
  refine wl_val (v := .int .i64 0) (fun ρ e => ex_assign (e _ _ rfl)) rfl rfl ?_
  refine wl_nil ?_
  refine xw_next K31 ?_
  refine cw_block ?_
  have hO0 : OwnG w25 w.heap.size (.slice (some ⟨g3, 0, none⟩) 1 1) kd (.slice (some ⟨g17, 0, none⟩) (gi % 140) (gi % 140)) 0 := hO
  refine cw_loop (ι := Nat × Option Addr × Nat) (fun i => [(0, .int .u16 (ga : Int)), (2, .int .u8 (ka : Int)), (9, .pointer (some ⟨g9, 0, none⟩)), (10, .slice (some ⟨g17, 0, none⟩) (gi % 140) (gi % 140)), (11, .slice (some ⟨g24, 0, none⟩) 3 3), (12, .int .i64 (i.1 : Int))]) (fun i W => i.1 ≤ ga % 140 ∧ OwnG W w.heap.size (.slice i.2.1 (i.1 + 1) i.2.2) kd (.slice (some ⟨g17, 0, none⟩) (gi % 140) (gi % 140)) i.1 ∧ Blk W g9 24 #[.int .i64 (1 + ((na % 128 : Nat) : Int)), .slice i.2.1 (i.1 + 1) i.2.2] ∧ OwnInts W w.heap.size (.slice (some ⟨g24, 0, none⟩) 3 3) [4, 5, 6] ∧ OwnInts W w.heap.size (.slice (some ⟨g17, 0, none⟩) (gi % 140) (gi % 140)) (List.replicate (gi % 140) 0) ∧ Below w.heap.size w W) (fun i => ga % 140 - i.1) (0, some ⟨g3, 0, none⟩, 1) ⟨Nat.zero_le _, hO0, k_g9, hK, hI, hbw⟩ ⟨rfl, rfl, rfl, rfl, rfl, rfl, trivial⟩ (fun i Wr hJ K32 hQ33 => ?_)
  clear hO hO0 k_g9 hK hI hbw
  obtain ⟨k, A, c⟩ := i
  obtain ⟨hk, hO, k_g9, hK, hI, hbw⟩ := hJ
  dsimp only at hk hO k_g9 hK hI hbw
  by_cases hlt : k < ga % 140
  · skip
    refine cw_seq (fun FK34 K34 => ?_)
    refine cw_seq (fun FK35 K35 => ?_)
    refine cw_region ?_
    refine wl_val (v := .int .i64 (k : Int)) (fun ρ e => ex_move (e _ _ rfl)) rfl rfl ?_
    refine wl_val (v := .int .u16 (ga : Int)) (fun ρ e => ex_move (e _ _ rfl)) rfl rfl ?_
    refine wl_val (v := .int .i64 (ga : Int)) (fun ρ e => ex_conv16 (e _ _ rfl) (by omega)) rfl rfl ?_
    refine wl_val (v := .int .i64 ((ga % 140 : Nat) : Int)) (fun ρ e => ex_rem (a := ga) (b := 140) (e _ _ rfl) (e _ _ rfl) (by omega)) rfl rfl ?_
    refine wl_val (v := .bool true) (fun ρ e => ex_lss1 (u := (k : Int)) (v := ((ga % 140 : Nat) : Int)) (e _ _ rfl) (e _ _ rfl) (by omega)) rfl rfl ?_
    refine wl_nil ?_
    refine xw_next K35 ?_
    refine cw_true rfl ?_
    refine cw_skip ?_
    refine xw_next K34 ?_
    refine cw_seq (fun FK36 K36 => ?_)
    refine cw_block ?_
    refine cw_drawn (fun Z => Blk Z g9 24 #[.int .i64 (1 + ((na % 128 : Nat) : Int)), .slice A (k + 1) c] ∧ OwnInts Z w.heap.size (.slice (some ⟨g24, 0, none⟩) 3 3) [4, 5, 6]) 13 [(0, 1), (1, 0), (2, 1), (3, 1), (4, 1), (5, 1), (6, 1), (7, 0), (8, 1), (9, 1), (10, 2), (11, 2), (12, 1), (13, 3)] (by kernel_rfl) (by kernel_rfl) (PQ.block (PQ.then_ (PQ.then_ (PQ.block (PQ.then_ PQ.body))))) (⟨k_g9.drew, hK.below (Below.refl _ _).drew⟩) ?_
    replace hbw := hbw.trans (((Below.refl _ _).drew).mono hbw.size)
    replace hO := hO.below ((Below.refl _ _).drew)
    replace k_g9 := k_g9.keep ((Below.refl _ _).drew)
    replace hK := hK.below ((Below.refl _ _).drew)
    replace hI := hI.below ((Below.refl _ _).drew)
    refine wt1 (v := .pointer (some ⟨g9, 1, none⟩)) rfl (fun ρ e W => ex_circF1 (g := g9) (o := 0) (e _ _ rfl)) rfl rfl ?_
    refine wt0 (v := .slice A (k + 1) c) rfl (fun ρ e W hW => ex_gates (p := ⟨g9, 1, none⟩) (e _ _ rfl) (hW.1.cell 1)) rfl rfl ?_
    refine wt1 (v := .slice (some ⟨g24, 0, none⟩) 3 3) rfl (fun ρ e W => ex_move (e _ _ rfl)) rfl rfl ?_
    refine wt1 (v := .int .u8 (ka : Int)) rfl (fun ρ e W => ex_move (e _ _ rfl)) rfl rfl ?_
    refine wt1 (v := .int .i64 (ka : Int)) rfl (fun ρ e W => ex_conv8 (e _ _ rfl) (by omega)) rfl rfl ?_
    refine wt1 (v := .int .i64 ((ka % 3 : Nat) : Int)) rfl (fun ρ e W => ex_rem (a := ka) (b := 3) (e _ _ rfl) (e _ _ rfl) (by omega)) rfl rfl ?_
    refine wt1 (v := .pointer (some ⟨g24, ka % 3, none⟩)) rfl (fun ρ e W => ex_index0 (g := g24) (n := 3) (c := 3) (i := (ka % 3)) (e _ _ rfl) (e _ _ rfl) (by omega)) rfl rfl ?_
    refine wt0 (v := .int .i64 kd) rfl (fun ρ e W hW => ex_int (p := ⟨g24, ka % 3, none⟩) (e _ _ rfl) (ints_cell hW.2 _ _ hkd)) rfl rfl ?_
    refine wt1 (v := .slice (some ⟨g17, 0, none⟩) (gi % 140) (gi % 140)) rfl (fun ρ e W => ex_move (e _ _ rfl)) rfl rfl ?_
    refine wt1 (v := .agg #[.int .i64 kd, .int .i64 0, .slice (some ⟨g17, 0, none⟩) (gi % 140) (gi % 140)]) rfl (fun ρ e W => ex_gate02 (e _ _ rfl) (e _ _ rfl)) rfl rfl ?_
    refine wt2_newslice rfl (fun ρ e => ex_sliceGate (e _ _ rfl)) rfl rfl (fun g37 w38 jb39 jk40 jg41 js42 => ?_)
    replace hbw := hbw.trans (jb39.mono hbw.size)
    replace hO := hO.below jb39
    replace k_g9 := k_g9.keep jb39
    replace hK := hK.below jb39
    replace hI := hI.below jb39
    refine ⟨⟨k_g9, hK⟩, ?_⟩
    refine wt2_append_gate (base := w.heap.size) (kd := kd) (k := k) rfl rfl rfl rfl rfl hO rfl jk40 (by omega) hbw.size (fun A43 c44 w45 hO2 hgrow => ?_)
    replace k_g9 := k_g9.grown hgrow (by exact (own_blk_ne hO k_g9 (by decide)).symm)
    replace hK := hK.besideG hO hgrow
    replace hI := hI.besideG hO hgrow
    replace hbw := hbw.trans (below_of_grown hgrow hbw.size (fun q hq => (own_ge (g := q) hO hq).1))
    replace hO := hO2
    refine ⟨⟨k_g9, hK⟩, ?_⟩
    refine wt1 (v := .pointer (some ⟨g9, 1, none⟩)) rfl (fun ρ e W => ex_circF1 (g := g9) (o := 0) (e _ _ rfl)) rfl rfl ?_
    refine wt3_none rfl (fun ρ e => ex_storeGates (p := ⟨g9, 1, none⟩) (e _ _ rfl) (e _ _ rfl) (k_g9.cell 1) (k_g9.free 1)) rfl ?_
    replace hO := hO.put k_g9 1 (.slice A43 (k + 1 + 1) c44)
    have hp := put_one k_g9 (by decide) (by decide) 1 (.slice A43 (k + 1 + 1) c44)
    replace hK := hp.ints hK
    replace hI := hp.ints hI
    replace hbw := hbw.trans (hp.below _ hle_g9)
    replace k_g9 := k_g9.put 1 (.slice A43 (k + 1 + 1) c44)
    clear hp
    refine wt_nil ?_
    refine xw_block ?_
    refine xw_next K36 ?_
    refine cw_region ?_
    refine wl_val (v := .int .i64 (k : Int)) (fun ρ e => ex_move (e _ _ rfl)) rfl rfl ?_
    refine wl_val (v := .int .i64 ((k + 1 : Nat) : Int)) (fun ρ e => ex_inc (k := k) (e _ _ rfl) (e _ _ rfl) (by omega)) rfl rfl ?_
    refine wl_val (v := .int .i64 ((k + 1 : Nat) : Int)) (fun ρ e => ex_assign (e _ _ rfl)) rfl rfl ?_
    refine wl_nil ?_
    refine xw_round hQ33 (k + 1, A43, c44) (by show ga % 140 - (k + 1) < ga % 140 - k; omega) ⟨by show k + 1 ≤ ga % 140; omega, hO, k_g9, hK, hI, hbw⟩ ⟨rfl, rfl, rfl, rfl, rfl, rfl, trivial⟩
  · skip
    have hgv := hO.V hI.V (Nat.le_refl _)
    obtain ⟨BV, hBV⟩ : ∃ z, z = Wr.heap.size := ⟨_, rfl⟩
    rw [← hBV] at hgv
    have hBev : BV ≤ Wr.heap.size := Nat.le_of_eq hBV
    clear hBV
    obtain ⟨r, hr⟩ : ∃ z, z = encodeOf (1 + ((na % 128 : Nat) : Int)) (longGates kd (gi % 140) k) := ⟨_, rfl⟩
    have hls := long_size kd (gi % 140) k
    have hkm : k * (gi % 140) ≤ 140 * 140 := Nat.mul_le_mul (by omega) (by omega)
    have k1 : ∀ W, BV ≤ W.heap.size → GatesV W BV (.slice A (k + 1) c) (longGates kd (gi % 140) k) → Calls Try.prog 13 #[.agg #[.int .i64 (1 + ((na % 128 : Nat) : Int)), .slice A (k + 1) c]] W fun e w' => EncodePost r e w' ∧ Below W.heap.size W w' := fun W hB hg => by
        rw [hr]
        refine (tseitin_encode _ _ _ W BV hB hg (by omega)).mono ?_
        rintro e w' ⟨⟨LV, GV, rfl, h1, h2⟩, h3⟩
        obtain ⟨A, c, rfl, _⟩ := id h1
        obtain ⟨AG, cG, rfl, _⟩ := id h2
        exact ⟨⟨A, c, AG, _, cG, rfl, h1, h2⟩, h3⟩
    have k2 : ∀ W, BV ≤ W.heap.size → GatesV W BV (.slice A (k + 1) c) (longGates kd (gi % 140) k) → Calls Try.prog 14 #[.agg #[.int .i64 (1 + ((na % 128 : Nat) : Int)), .slice A (k + 1) c]] W fun e w' => EncodePost r e w' ∧ Below W.heap.size W w' := fun W hB hg => by
        rw [hr, ← refEncode_eq]
        exact ref10_Encode _ _ _ W BV hB hg (by omega)
    clear hr hO hK hI
    refine cw_seq (fun FK46 K46 => ?_)
    refine cw_seq (fun FK47 K47 => ?_)
    refine cw_region ?_
    refine wl_val (v := .int .i64 (k : Int)) (fun ρ e => ex_move (e _ _ rfl)) rfl rfl ?_
    refine wl_val (v := .int .u16 (ga : Int)) (fun ρ e => ex_move (e _ _ rfl)) rfl rfl ?_
    refine wl_val (v := .int .i64 (ga : Int)) (fun ρ e => ex_conv16 (e _ _ rfl) (by omega)) rfl rfl ?_
    refine wl_val (v := .int .i64 ((ga % 140 : Nat) : Int)) (fun ρ e => ex_rem (a := ga) (b := 140) (e _ _ rfl) (e _ _ rfl) (by omega)) rfl rfl ?_
    refine wl_val (v := .bool false) (fun ρ e => ex_lss0 (u := (k : Int)) (v := ((ga % 140 : Nat) : Int)) (e _ _ rfl) (e _ _ rfl) (by omega)) rfl rfl ?_
    refine wl_nil ?_
    refine xw_next K47 ?_
    refine cw_false rfl ?_
    refine cw_exit ?_
    refine xw_past (by intro h; cases h) ?_
    refine xw_past (by intro h; cases h) ?_
    refine xw_here ?_
    refine xw_next K30 ?_
    refine cw_seq (fun FK48 K48 => ?_)
    refine cw_region ?_
    refine wl_val (v := .agg #[.int .i64 (1 + ((na % 128 : Nat) : Int)), .slice A (k + 1) c]) (fun ρ e => ex_circ (g := g9) (o := 0) (e _ _ rfl) (k_g9.cell 0) (k_g9.cell 1)) rfl rfl ?_
    refine wl_call (args := [.agg #[.int .i64 (1 + ((na % 128 : Nat) : Int)), .slice A (k + 1) c]]) in_tEncode rfl rfl rfl ?_
    refine (k1 _ hBev hgv).mono ?_
    rintro _ w49 ⟨⟨A1, c1, AG1, nG1, cG1, rfl, hT1, hG1⟩, hb⟩
    replace hbw := hbw.trans (hb.mono hbw.size)
    replace k_g9 := k_g9.keep hb
    replace hgv := hgv.below (hb.mono hBev)
    replace hBev := Nat.le_trans hBev hb.size
    obtain ⟨B1, hB1⟩ : ∃ z, z = w49.heap.size := ⟨_, rfl⟩
    rw [← hB1] at hT1 hG1
    have hBe1 : B1 ≤ w49.heap.size := Nat.le_of_eq hB1
    clear hB1
    refine ⟨_, rfl, ?_⟩
    refine wl_val (v := .tuple #[.agg #[.int .i64 r.n, .slice A1 r.L.length c1], .slice AG1 nG1 cG1, .int .i64 r.e]) (fun ρ e => ex_move (e _ _ rfl)) rfl rfl ?_
    refine wl_val (v := .agg #[.int .i64 r.n, .slice A1 r.L.length c1]) (fun ρ e => ex_extract (vs := #[.agg #[.int .i64 r.n, .slice A1 r.L.length c1], .slice AG1 nG1 cG1, .int .i64 r.e]) (e _ _ rfl) rfl) rfl rfl ?_
    refine wl_val (v := .slice AG1 nG1 cG1) (fun ρ e => ex_extract (vs := #[.agg #[.int .i64 r.n, .slice A1 r.L.length c1], .slice AG1 nG1 cG1, .int .i64 r.e]) (e _ _ rfl) rfl) rfl rfl ?_
    refine wl_val (v := .int .i64 r.e) (fun ρ e => ex_extract (vs := #[.agg #[.int .i64 r.n, .slice A1 r.L.length c1], .slice AG1 nG1 cG1, .int .i64 r.e]) (e _ _ rfl) rfl) rfl rfl ?_
    refine wl_new (fun ρ e => ex_allocTheory) rfl rfl (fun g50 w51 jb52 jk53 jg54 js55 => ?_)
    have hle_g50 : w.heap.size ≤ g50 := by have := hbw.size; omega
    have hlt_g9_g50 : g9 < g50 := by have := k_g9.lt; omega
    have hB_v_g50 : BV ≤ g50 := by have := hbw.size; omega
    have hB_1_g50 : B1 ≤ g50 := by have := hbw.size; omega
    replace hbw := hbw.trans (jb52.mono hbw.size)
    replace k_g9 := k_g9.keep jb52
    replace hgv := hgv.below (jb52.mono hBev)
    replace hBev := Nat.le_trans hBev jb52.size
    replace hT1 := hT1.below (jb52.mono hBe1)
    replace hG1 := hG1.below (jb52.mono hBe1)
    replace hBe1 := Nat.le_trans hBe1 jb52.size
    have k_g50 := jk53
    refine wl_put2 (fun ρ e => ex_storeTheory (g := g50) (e _ _ rfl) (e _ _ rfl) k_g50) rfl k_g50 (by decide) (by decide) (fun w56 hp k_g50' => ?_)
    replace hbw := hbw.trans (hp.below _ hle_g50)
    replace k_g9 := hp.far (by omega) k_g9
    replace hgv := hgv.below (hp.below _ hB_v_g50)
    replace hBev := Nat.le_trans hBev (Nat.le_of_eq hp.size.symm)
    replace hT1 := hT1.below (hp.below _ hB_1_g50)
    replace hG1 := hG1.below (hp.below _ hB_1_g50)
    replace hBe1 := Nat.le_trans hBe1 (Nat.le_of_eq hp.size.symm)
    replace k_g50 := k_g50'
    refine wl_val (v := .slice AG1 nG1 cG1) (fun ρ e => ex_assign (e _ _ rfl)) rfl rfl ?_
    refine wl_val (v := .int .i64 r.e) (fun ρ e => ex_assign (e _ _ rfl)) rfl rfl ?_
    refine wl_nil ?_
    refine xw_next K48 ?_
    refine cw_seq (fun FK57 K57 => ?_)
    refine cw_region ?_
    refine wl_val (v := .agg #[.int .i64 (1 + ((na % 128 : Nat) : Int)), .slice A (k + 1) c]) (fun ρ e => ex_circ (g := g9) (o := 0) (e _ _ rfl) (k_g9.cell 0) (k_g9.cell 1)) rfl rfl ?_
    refine wl_call (args := [.agg #[.int .i64 (1 + ((na % 128 : Nat) : Int)), .slice A (k + 1) c]]) in_rEncode rfl rfl rfl ?_
    refine (k2 _ hBev hgv).mono ?_
    rintro _ w58 ⟨⟨A2, c2, AG2, nG2, cG2, rfl, hT2, hG2⟩, hb⟩
    replace hbw := hbw.trans (hb.mono hbw.size)
    replace k_g9 := k_g9.keep hb
    replace hgv := hgv.below (hb.mono hBev)
    replace hBev := Nat.le_trans hBev hb.size
    replace hT1 := hT1.below (hb.mono hBe1)
    replace hG1 := hG1.below (hb.mono hBe1)
    replace hBe1 := Nat.le_trans hBe1 hb.size
    replace k_g50 := k_g50.keep hb
    obtain ⟨B2, hB2⟩ : ∃ z, z = w58.heap.size := ⟨_, rfl⟩
    rw [← hB2] at hT2 hG2
    have hBe2 : B2 ≤ w58.heap.size := Nat.le_of_eq hB2
    clear hB2
    refine ⟨_, rfl, ?_⟩
    refine wl_val (v := .tuple #[.agg #[.int .i64 r.n, .slice A2 r.L.length c2], .slice AG2 nG2 cG2, .int .i64 r.e]) (fun ρ e => ex_move (e _ _ rfl)) rfl rfl ?_
    refine wl_val (v := .agg #[.int .i64 r.n, .slice A2 r.L.length c2]) (fun ρ e => ex_extract (vs := #[.agg #[.int .i64 r.n, .slice A2 r.L.length c2], .slice AG2 nG2 cG2, .int .i64 r.e]) (e _ _ rfl) rfl) rfl rfl ?_
    refine wl_val (v := .slice AG2 nG2 cG2) (fun ρ e => ex_extract (vs := #[.agg #[.int .i64 r.n, .slice A2 r.L.length c2], .slice AG2 nG2 cG2, .int .i64 r.e]) (e _ _ rfl) rfl) rfl rfl ?_
    refine wl_val (v := .int .i64 r.e) (fun ρ e => ex_extract (vs := #[.agg #[.int .i64 r.n, .slice A2 r.L.length c2], .slice AG2 nG2 cG2, .int .i64 r.e]) (e _ _ rfl) rfl) rfl rfl ?_
    refine wl_new (fun ρ e => ex_allocTheory) rfl rfl (fun g59 w60 jb61 jk62 jg63 js64 => ?_)
    have hle_g59 : w.heap.size ≤ g59 := by have := hbw.size; omega
    have hlt_g9_g59 : g9 < g59 := by have := k_g9.lt; omega
    have hlt_g50_g59 : g50 < g59 := by have := k_g50.lt; omega
    have hB_v_g59 : BV ≤ g59 := by have := hbw.size; omega
    have hB_1_g59 : B1 ≤ g59 := by have := hbw.size; omega
    have hB_2_g59 : B2 ≤ g59 := by have := hbw.size; omega
    replace hbw := hbw.trans (jb61.mono hbw.size)
    replace k_g9 := k_g9.keep jb61
    replace hgv := hgv.below (jb61.mono hBev)
    replace hBev := Nat.le_trans hBev jb61.size
    replace hT1 := hT1.below (jb61.mono hBe1)
    replace hG1 := hG1.below (jb61.mono hBe1)
    replace hBe1 := Nat.le_trans hBe1 jb61.size
    replace k_g50 := k_g50.keep jb61
    replace hT2 := hT2.below (jb61.mono hBe2)
    replace hG2 := hG2.below (jb61.mono hBe2)
    replace hBe2 := Nat.le_trans hBe2 jb61.size
    have k_g59 := jk62
    refine wl_put2 (fun ρ e => ex_storeTheory (g := g59) (e _ _ rfl) (e _ _ rfl) k_g59) rfl k_g59 (by decide) (by decide) (fun w65 hp k_g59' => ?_)
    replace hbw := hbw.trans (hp.below _ hle_g59)
    replace k_g9 := hp.far (by omega) k_g9
    replace hgv := hgv.below (hp.below _ hB_v_g59)
    replace hBev := Nat.le_trans hBev (Nat.le_of_eq hp.size.symm)
    replace hT1 := hT1.below (hp.below _ hB_1_g59)
    replace hG1 := hG1.below (hp.below _ hB_1_g59)
    replace hBe1 := Nat.le_trans hBe1 (Nat.le_of_eq hp.size.symm)
    replace k_g50 := hp.far (by omega) k_g50
    replace hT2 := hT2.below (hp.below _ hB_2_g59)
    replace hG2 := hG2.below (hp.below _ hB_2_g59)
    replace hBe2 := Nat.le_trans hBe2 (Nat.le_of_eq hp.size.symm)
    replace k_g59 := k_g59'
    refine wl_val (v := .slice AG2 nG2 cG2) (fun ρ e => ex_assign (e _ _ rfl)) rfl rfl ?_
    refine wl_val (v := .int .i64 r.e) (fun ρ e => ex_assign (e _ _ rfl)) rfl rfl ?_
    refine wl_nil ?_
    refine xw_next K57 ?_
    refine cw_seq (fun FK66 K66 => ?_)
    refine cw_region ?_
    refine wl_val (v := .int .i64 r.e) (fun ρ e => ex_move (e _ _ rfl)) rfl rfl ?_
    refine wl_val (v := .int .i64 r.e) (fun ρ e => ex_move (e _ _ rfl)) rfl rfl ?_
    refine wl_val (v := .bool true) (fun ρ e => ex_eqlE1 (u := r.e) (v := r.e) (e _ _ rfl) (e _ _ rfl) rfl) rfl rfl ?_
    refine wl_val (v := .bool true) (fun ρ e => ex_move (e _ _ rfl)) rfl rfl ?_
    refine wl_val (v := .agg #[.int .i64 r.n, .slice A1 r.L.length c1]) (fun ρ e => ex_theory (g := g50) (o := 0) (e _ _ rfl) (k_g50.cell 0) (k_g50.cell 1)) rfl rfl ?_
    refine wl_val (v := .agg #[.int .i64 r.n, .slice A2 r.L.length c2]) (fun ρ e => ex_theory (g := g59) (o := 0) (e _ _ rfl) (k_g59.cell 0) (k_g59.cell 1)) rfl rfl ?_
    refine wl_call (args := [.agg #[.int .i64 r.n, .slice A1 r.L.length c1], .agg #[.int .i64 r.n, .slice A2 r.L.length c2]]) in_SameTheory rfl rfl rfl ?_
    refine (same_theory _ _ _ B1 B2 _ _ r.L r.L hBe1 hBe2 hT1 hT2).mono ?_
    rintro _ w67 ⟨rfl, hb⟩
    replace hbw := hbw.trans (hb.mono hbw.size)
    replace k_g9 := k_g9.keep hb
    replace hgv := hgv.below (hb.mono hBev)
    replace hBev := Nat.le_trans hBev hb.size
    replace hT1 := hT1.below (hb.mono hBe1)
    replace hG1 := hG1.below (hb.mono hBe1)
    replace hBe1 := Nat.le_trans hBe1 hb.size
    replace k_g50 := k_g50.keep hb
    replace hT2 := hT2.below (hb.mono hBe2)
    replace hG2 := hG2.below (hb.mono hBe2)
    replace hBe2 := Nat.le_trans hBe2 hb.size
    replace k_g59 := k_g59.keep hb
    rw [show decide (r.n = r.n ∧ r.L = r.L) = true by simp]
    refine ⟨_, rfl, ?_⟩
    refine wl_val (v := .bool true) (fun ρ e => ex_pick1 (e _ _ rfl) (e _ _ rfl)) rfl rfl ?_
    refine wl_val (v := .bool true) (fun ρ e => ex_move (e _ _ rfl)) rfl rfl ?_
    refine wl_val (v := .slice AG1 nG1 cG1) (fun ρ e => ex_move (e _ _ rfl)) rfl rfl ?_
    refine wl_val (v := .slice AG2 nG2 cG2) (fun ρ e => ex_move (e _ _ rfl)) rfl rfl ?_
    refine wl_call (args := [.slice AG1 nG1 cG1, .slice AG2 nG2 cG2]) in_SameInts rfl rfl rfl ?_
    refine (same_ints _ B1 B2 _ _ r.gate r.gate hG1 hG2).mono ?_
    rintro _ _ ⟨rfl, k, rfl⟩
    have hb : Below w67.heap.size w67 (w67.drewN k) := below_drewN (Below.refl _ _) k
    replace hbw := hbw.trans (hb.mono hbw.size)
    replace k_g9 := k_g9.keep hb
    replace hgv := hgv.below (hb.mono hBev)
    replace hBev := Nat.le_trans hBev hb.size
    replace hT1 := hT1.below (hb.mono hBe1)
    replace hG1 := hG1.below (hb.mono hBe1)
    replace hBe1 := Nat.le_trans hBe1 hb.size
    replace k_g50 := k_g50.keep hb
    replace hT2 := hT2.below (hb.mono hBe2)
    replace hG2 := hG2.below (hb.mono hBe2)
    replace hBe2 := Nat.le_trans hBe2 hb.size
    replace k_g59 := k_g59.keep hb
    rw [show decide (r.gate = r.gate) = true by simp]
    refine ⟨_, rfl, ?_⟩
    refine wl_val (v := .bool true) (fun ρ e => ex_pick1 (e _ _ rfl) (e _ _ rfl)) rfl rfl ?_
    refine wl_val (v := .bool true) (fun ρ e => ex_move (e _ _ rfl)) rfl rfl ?_
    refine wl_call (args := []) in_lawWorks rfl rfl rfl ?_
    refine (hworks _).mono ?_
    rintro _ w69 ⟨rfl, hb⟩
    replace hbw := hbw.trans (hb.mono hbw.size)
    replace k_g9 := k_g9.keep hb
    replace hgv := hgv.below (hb.mono hBev)
    replace hBev := Nat.le_trans hBev hb.size
    replace hT1 := hT1.below (hb.mono hBe1)
    replace hG1 := hG1.below (hb.mono hBe1)
    replace hBe1 := Nat.le_trans hBe1 hb.size
    replace k_g50 := k_g50.keep hb
    replace hT2 := hT2.below (hb.mono hBe2)
    replace hG2 := hG2.below (hb.mono hBe2)
    replace hBe2 := Nat.le_trans hBe2 hb.size
    replace k_g59 := k_g59.keep hb
    refine ⟨_, rfl, ?_⟩
    refine wl_val (v := .bool true) (fun ρ e => ex_pick1 (e _ _ rfl) (e _ _ rfl)) rfl rfl ?_
    refine wl_val (v := .bool true) (fun ρ e => ex_assign (e _ _ rfl)) rfl rfl ?_
    refine wl_nil ?_
    refine xw_next K66 ?_
    refine cw_ret ?_
    exact xw_ret (fun T hT => res1 rfl T _ (hT 8 _ rfl)) ⟨rfl, hbw⟩
/-- The same, for what is read as data. -/
theorem long_ok' (hworks : WorksOk) (a b c d : Int) (h1 : (Lit.int .u16 a).wf = true) (h2 : (Lit.int .u16 b).wf = true) (h3 : (Lit.int .u8 c).wf = true) (h4 : (Lit.int .u8 d).wf = true) (w : World) :
    Calls Try.prog 5 #[.int .u16 a, .int .u16 b, .int .u8 c, .int .u8 d] w fun e w' => e = .returned (.bool true) ∧ Below w.heap.size w w' := by
  have r1 : 0 ≤ a ∧ a ≤ 65535 := by
    have : IntKind.u16.min ≤ a ∧ a ≤ IntKind.u16.max := by simpa [Lit.wf] using h1
    exact this
  have r2 : 0 ≤ b ∧ b ≤ 65535 := by
    have : IntKind.u16.min ≤ b ∧ b ≤ IntKind.u16.max := by simpa [Lit.wf] using h2
    exact this
  have r3 : 0 ≤ c ∧ c ≤ 255 := by
    have : IntKind.u8.min ≤ c ∧ c ≤ IntKind.u8.max := by simpa [Lit.wf] using h3
    exact this
  have r4 : 0 ≤ d ∧ d ≤ 255 := by
    have : IntKind.u8.min ≤ d ∧ d ≤ IntKind.u8.max := by simpa [Lit.wf] using h4
    exact this
  obtain ⟨n1, rfl⟩ : ∃ n : Nat, a = (n : Int) := ⟨a.toNat, by omega⟩
  obtain ⟨n2, rfl⟩ : ∃ n : Nat, b = (n : Int) := ⟨b.toNat, by omega⟩
  obtain ⟨n3, rfl⟩ : ∃ n : Nat, c = (n : Int) := ⟨c.toNat, by omega⟩
  obtain ⟨n4, rfl⟩ : ∃ n : Nat, d = (n : Int) := ⟨d.toNat, by omega⟩
  exact long_ok hworks _ _ _ _ (by omega) (by omega) (by omega) (by omega) w
end Go.Proofs.Ytlifakbdgmdafaa
