/-
  What TseitinEncodes and TseitinExtends compute.
-/
import Derived.Test.YtlifakbdgmdafaaEncode10
import Derived.Test.YtlifakbdgmdafaaSizes
import Derived.Test.YtlifakbdgmdafaaWExtend
namespace Go.Proofs.Ytlifakbdgmdafaa
open Go Go.RowKit

set_option maxRecDepth 100000 in
set_option maxHeartbeats 1600000 in
theorem encodes_ok (hworks : WorksOk) (N : Int) (V : Value) (gs : List Gate) (w : World) (B : Nat) (hB : B ≤ w.heap.size) (hg : GatesV w B V gs) :
    Calls Try.prog 3 #[.agg #[.int .i64 N, V]] w fun e w' => e = .returned (.bool true) ∧ Below w.heap.size w w' := by
  obtain ⟨A0, c0, rfl, hl0, hm0, _⟩ := id hg
  have a1 : ∀ (w1 : World), Below w.heap.size w w1 → Calls Try.prog 11 #[.agg #[.int .i64 N, .slice A0 gs.length c0]] w1 fun e w' => e = .returned (.bool (decide (gs.length ≤ 60) && gs.all fun g => decide (g.inp.length ≤ 150))) ∧ Below w1.heap.size w1 w' :=
    fun w1 hb => law10_light N _ gs w1 B (Nat.le_trans hB hb.size) (hg.below (hb.mono hB))
  have hs : (decide (gs.length ≤ 60) && gs.all fun g => decide (g.inp.length ≤ 150)) = true → sizeOf gs ≤ 9000 := light_size
  obtain ⟨y, hy⟩ : ∃ y, y = (decide (gs.length ≤ 60) && gs.all fun g => decide (g.inp.length ≤ 150)) := ⟨_, rfl⟩
  rw [← hy] at a1 hs
  clear hy
  refine sx_enter (args := [.agg #[.int .i64 N, .slice A0 gs.length c0]]) Try.func3 rfl rfl (by simp) ?_
  cases y
  · skip
    refine cw_seq (fun FK1 K1 => ?_)
    refine cw_region ?_
    refine wl_new (fun ρ e => ex_boxCirc (e _ _ rfl)) rfl rfl (fun g2 w3 jb4 jk5 jg6 js7 => ?_)
    have hbw := jb4
    have hle_g2 : w.heap.size ≤ g2 := by omega
    have k_g2 := jk5
    refine wl_val (v := .bool false) (fun ρ e => ex_assign (e _ _ rfl)) rfl rfl ?_
    refine wl_nil ?_
    refine xw_next K1 ?_
    refine cw_seq (fun FK8 K8 => ?_)
    refine cw_seq (fun FK9 K9 => ?_)
    refine cw_region ?_
    refine wl_val (v := .agg #[.int .i64 N, .slice A0 gs.length c0]) (fun ρ e => ex_circ (g := g2) (o := 0) (e _ _ rfl) (k_g2.cell 0) (k_g2.cell 1)) rfl rfl ?_
    refine wl_call (args := [.agg #[.int .i64 N, .slice A0 gs.length c0]]) in_lawLight rfl rfl rfl ?_
    refine (a1 _ hbw).mono ?_
    rintro _ w10 ⟨rfl, hb⟩
    replace hbw := hbw.trans (hb.mono hbw.size)
    replace k_g2 := k_g2.keep hb
    refine ⟨_, rfl, ?_⟩
    refine wl_val (v := .bool true) (fun ρ e => ex_not (b := false) (e _ _ rfl)) rfl rfl ?_
    refine wl_nil ?_
    refine xw_next K9 ?_
    refine cw_true rfl ?_
    refine cw_seq (fun FK11 K11 => ?_)
    refine cw_region ?_
    refine wl_call (args := []) in_lawWorks rfl rfl rfl ?_
    refine (hworks _).mono ?_
    rintro _ w12 ⟨rfl, hb⟩
    replace hbw := hbw.trans (hb.mono hbw.size)
    replace k_g2 := k_g2.keep hb
    refine ⟨_, rfl, ?_⟩
    refine wl_val (v := .bool true) (fun ρ e => ex_assign (e _ _ rfl)) rfl rfl ?_
    refine wl_nil ?_
    refine xw_next K11 ?_
    refine cw_ret ?_
    refine xw_past (by intro h; cases h) ?_
    exact xw_ret (fun T hT => res1 rfl T _ (hT 2 _ rfl)) ⟨rfl, hbw⟩
  · skip
    have hs := hs rfl
    obtain ⟨r, hr⟩ : ∃ z, z = encodeOf N gs := ⟨_, rfl⟩
    have k1 : ∀ W, Below w.heap.size w W → Calls Try.prog 13 #[.agg #[.int .i64 N, .slice A0 gs.length c0]] W fun e w' => EncodePost r e w' ∧ Below W.heap.size W w' := fun W hb => by
      rw [hr]
      refine (tseitin_encode N _ gs W B (Nat.le_trans hB hb.size) (hg.below (hb.mono hB)) (by omega)).mono ?_
      rintro e w' ⟨⟨LV, GV, rfl, h1, h2⟩, h3⟩
      obtain ⟨A, c, rfl, _⟩ := id h1
      obtain ⟨AG, cG, rfl, _⟩ := id h2
      exact ⟨⟨A, c, AG, _, cG, rfl, h1, h2⟩, h3⟩
    have k2 : ∀ W, Below w.heap.size w W → Calls Try.prog 14 #[.agg #[.int .i64 N, .slice A0 gs.length c0]] W fun e w' => EncodePost r e w' ∧ Below W.heap.size W w' := fun W hb => by
      rw [hr, ← refEncode_eq]
      exact ref10_Encode N _ gs W B (Nat.le_trans hB hb.size) (hg.below (hb.mono hB)) (by omega)
    clear hr
    refine cw_seq (fun FK13 K13 => ?_)
    refine cw_region ?_
    refine wl_new (fun ρ e => ex_boxCirc (e _ _ rfl)) rfl rfl (fun g14 w15 jb16 jk17 jg18 js19 => ?_)
    have hbw := jb16
    have hle_g14 : w.heap.size ≤ g14 := by omega
    have k_g14 := jk17
    refine wl_val (v := .bool false) (fun ρ e => ex_assign (e _ _ rfl)) rfl rfl ?_
    refine wl_nil ?_
    refine xw_next K13 ?_
    refine cw_seq (fun FK20 K20 => ?_)
    refine cw_seq (fun FK21 K21 => ?_)
    refine cw_region ?_
    refine wl_val (v := .agg #[.int .i64 N, .slice A0 gs.length c0]) (fun ρ e => ex_circ (g := g14) (o := 0) (e _ _ rfl) (k_g14.cell 0) (k_g14.cell 1)) rfl rfl ?_
    refine wl_call (args := [.agg #[.int .i64 N, .slice A0 gs.length c0]]) in_lawLight rfl rfl rfl ?_
    refine (a1 _ hbw).mono ?_
    rintro _ w22 ⟨rfl, hb⟩
    replace hbw := hbw.trans (hb.mono hbw.size)
    replace k_g14 := k_g14.keep hb
    refine ⟨_, rfl, ?_⟩
    refine wl_val (v := .bool false) (fun ρ e => ex_not (b := true) (e _ _ rfl)) rfl rfl ?_
    refine wl_nil ?_
    refine xw_next K21 ?_
    refine cw_false rfl ?_
    refine cw_skip ?_
    refine xw_next K20 ?_
    refine cw_seq (fun FK23 K23 => ?_)
    refine cw_region ?_
    refine wl_val (v := .agg #[.int .i64 N, .slice A0 gs.length c0]) (fun ρ e => ex_circ (g := g14) (o := 0) (e _ _ rfl) (k_g14.cell 0) (k_g14.cell 1)) rfl rfl ?_
    refine wl_call (args := [.agg #[.int .i64 N, .slice A0 gs.length c0]]) in_tEncode rfl rfl rfl ?_
    refine (k1 _ hbw).mono ?_
    rintro _ w24 ⟨⟨A1, c1, AG1, nG1, cG1, rfl, hT1, hG1⟩, hb⟩
    replace hbw := hbw.trans (hb.mono hbw.size)
    replace k_g14 := k_g14.keep hb
    obtain ⟨B1, hB1⟩ : ∃ z, z = w24.heap.size := ⟨_, rfl⟩
    rw [← hB1] at hT1 hG1
    have hBe1 : B1 ≤ w24.heap.size := Nat.le_of_eq hB1
    clear hB1
    refine ⟨_, rfl, ?_⟩
    refine wl_val (v := .tuple #[.agg #[.int .i64 r.n, .slice A1 r.L.length c1], .slice AG1 nG1 cG1, .int .i64 r.e]) (fun ρ e => ex_move (e _ _ rfl)) rfl rfl ?_
    refine wl_val (v := .agg #[.int .i64 r.n, .slice A1 r.L.length c1]) (fun ρ e => ex_extract (vs := #[.agg #[.int .i64 r.n, .slice A1 r.L.length c1], .slice AG1 nG1 cG1, .int .i64 r.e]) (e _ _ rfl) rfl) rfl rfl ?_
    refine wl_val (v := .slice AG1 nG1 cG1) (fun ρ e => ex_extract (vs := #[.agg #[.int .i64 r.n, .slice A1 r.L.length c1], .slice AG1 nG1 cG1, .int .i64 r.e]) (e _ _ rfl) rfl) rfl rfl ?_
    refine wl_val (v := .int .i64 r.e) (fun ρ e => ex_extract (vs := #[.agg #[.int .i64 r.n, .slice A1 r.L.length c1], .slice AG1 nG1 cG1, .int .i64 r.e]) (e _ _ rfl) rfl) rfl rfl ?_
    refine wl_new (fun ρ e => ex_allocTheory) rfl rfl (fun g25 w26 jb27 jk28 jg29 js30 => ?_)
    have hle_g25 : w.heap.size ≤ g25 := by have := hbw.size; omega
    have hlt_g14_g25 : g14 < g25 := by have := k_g14.lt; omega
    have hB_1_g25 : B1 ≤ g25 := by have := hbw.size; omega
    replace hbw := hbw.trans (jb27.mono hbw.size)
    replace k_g14 := k_g14.keep jb27
    replace hT1 := hT1.below (jb27.mono hBe1)
    replace hG1 := hG1.below (jb27.mono hBe1)
    replace hBe1 := Nat.le_trans hBe1 jb27.size
    have k_g25 := jk28
    refine wl_put2 (fun ρ e => ex_storeTheory (g := g25) (e _ _ rfl) (e _ _ rfl) k_g25) rfl k_g25 (by decide) (by decide) (fun w31 hp k_g25' => ?_)
    replace hbw := hbw.trans (hp.below _ hle_g25)
    replace k_g14 := hp.far (by omega) k_g14
    replace hT1 := hT1.below (hp.below _ hB_1_g25)
    replace hG1 := hG1.below (hp.below _ hB_1_g25)
    replace hBe1 := Nat.le_trans hBe1 (Nat.le_of_eq hp.size.symm)
    replace k_g25 := k_g25'
    refine wl_val (v := .slice AG1 nG1 cG1) (fun ρ e => ex_assign (e _ _ rfl)) rfl rfl ?_
    refine wl_val (v := .int .i64 r.e) (fun ρ e => ex_assign (e _ _ rfl)) rfl rfl ?_
    refine wl_nil ?_
    refine xw_next K23 ?_
    refine cw_seq (fun FK32 K32 => ?_)
    refine cw_region ?_
    refine wl_val (v := .agg #[.int .i64 N, .slice A0 gs.length c0]) (fun ρ e => ex_circ (g := g14) (o := 0) (e _ _ rfl) (k_g14.cell 0) (k_g14.cell 1)) rfl rfl ?_
    refine wl_call (args := [.agg #[.int .i64 N, .slice A0 gs.length c0]]) in_rEncode rfl rfl rfl ?_
    refine (k2 _ hbw).mono ?_
    rintro _ w33 ⟨⟨A2, c2, AG2, nG2, cG2, rfl, hT2, hG2⟩, hb⟩
    replace hbw := hbw.trans (hb.mono hbw.size)
    replace k_g14 := k_g14.keep hb
    replace hT1 := hT1.below (hb.mono hBe1)
    replace hG1 := hG1.below (hb.mono hBe1)
    replace hBe1 := Nat.le_trans hBe1 hb.size
    replace k_g25 := k_g25.keep hb
    obtain ⟨B2, hB2⟩ : ∃ z, z = w33.heap.size := ⟨_, rfl⟩
    rw [← hB2] at hT2 hG2
    have hBe2 : B2 ≤ w33.heap.size := Nat.le_of_eq hB2
    clear hB2
    refine ⟨_, rfl, ?_⟩
    refine wl_val (v := .tuple #[.agg #[.int .i64 r.n, .slice A2 r.L.length c2], .slice AG2 nG2 cG2, .int .i64 r.e]) (fun ρ e => ex_move (e _ _ rfl)) rfl rfl ?_
    refine wl_val (v := .agg #[.int .i64 r.n, .slice A2 r.L.length c2]) (fun ρ e => ex_extract (vs := #[.agg #[.int .i64 r.n, .slice A2 r.L.length c2], .slice AG2 nG2 cG2, .int .i64 r.e]) (e _ _ rfl) rfl) rfl rfl ?_
    refine wl_val (v := .slice AG2 nG2 cG2) (fun ρ e => ex_extract (vs := #[.agg #[.int .i64 r.n, .slice A2 r.L.length c2], .slice AG2 nG2 cG2, .int .i64 r.e]) (e _ _ rfl) rfl) rfl rfl ?_
    refine wl_val (v := .int .i64 r.e) (fun ρ e => ex_extract (vs := #[.agg #[.int .i64 r.n, .slice A2 r.L.length c2], .slice AG2 nG2 cG2, .int .i64 r.e]) (e _ _ rfl) rfl) rfl rfl ?_
    refine wl_new (fun ρ e => ex_allocTheory) rfl rfl (fun g34 w35 jb36 jk37 jg38 js39 => ?_)
    have hle_g34 : w.heap.size ≤ g34 := by have := hbw.size; omega
    have hlt_g14_g34 : g14 < g34 := by have := k_g14.lt; omega
    have hlt_g25_g34 : g25 < g34 := by have := k_g25.lt; omega
    have hB_1_g34 : B1 ≤ g34 := by have := hbw.size; omega
    have hB_2_g34 : B2 ≤ g34 := by have := hbw.size; omega
    replace hbw := hbw.trans (jb36.mono hbw.size)
    replace k_g14 := k_g14.keep jb36
    replace hT1 := hT1.below (jb36.mono hBe1)
    replace hG1 := hG1.below (jb36.mono hBe1)
    replace hBe1 := Nat.le_trans hBe1 jb36.size
    replace k_g25 := k_g25.keep jb36
    replace hT2 := hT2.below (jb36.mono hBe2)
    replace hG2 := hG2.below (jb36.mono hBe2)
    replace hBe2 := Nat.le_trans hBe2 jb36.size
    have k_g34 := jk37
    refine wl_put2 (fun ρ e => ex_storeTheory (g := g34) (e _ _ rfl) (e _ _ rfl) k_g34) rfl k_g34 (by decide) (by decide) (fun w40 hp k_g34' => ?_)
    replace hbw := hbw.trans (hp.below _ hle_g34)
    replace k_g14 := hp.far (by omega) k_g14
    replace hT1 := hT1.below (hp.below _ hB_1_g34)
    replace hG1 := hG1.below (hp.below _ hB_1_g34)
    replace hBe1 := Nat.le_trans hBe1 (Nat.le_of_eq hp.size.symm)
    replace k_g25 := hp.far (by omega) k_g25
    replace hT2 := hT2.below (hp.below _ hB_2_g34)
    replace hG2 := hG2.below (hp.below _ hB_2_g34)
    replace hBe2 := Nat.le_trans hBe2 (Nat.le_of_eq hp.size.symm)
    replace k_g34 := k_g34'
    refine wl_val (v := .slice AG2 nG2 cG2) (fun ρ e => ex_assign (e _ _ rfl)) rfl rfl ?_
    refine wl_val (v := .int .i64 r.e) (fun ρ e => ex_assign (e _ _ rfl)) rfl rfl ?_
    refine wl_nil ?_
    refine xw_next K32 ?_
    refine cw_seq (fun FK41 K41 => ?_)
    refine cw_region ?_
    refine wl_val (v := .int .i64 r.e) (fun ρ e => ex_move (e _ _ rfl)) rfl rfl ?_
    refine wl_val (v := .int .i64 r.e) (fun ρ e => ex_move (e _ _ rfl)) rfl rfl ?_
    refine wl_val (v := .bool true) (fun ρ e => ex_eqlE1 (u := r.e) (v := r.e) (e _ _ rfl) (e _ _ rfl) rfl) rfl rfl ?_
    refine wl_val (v := .bool true) (fun ρ e => ex_move (e _ _ rfl)) rfl rfl ?_
    refine wl_val (v := .agg #[.int .i64 r.n, .slice A1 r.L.length c1]) (fun ρ e => ex_theory (g := g25) (o := 0) (e _ _ rfl) (k_g25.cell 0) (k_g25.cell 1)) rfl rfl ?_
    refine wl_val (v := .agg #[.int .i64 r.n, .slice A2 r.L.length c2]) (fun ρ e => ex_theory (g := g34) (o := 0) (e _ _ rfl) (k_g34.cell 0) (k_g34.cell 1)) rfl rfl ?_
    refine wl_call (args := [.agg #[.int .i64 r.n, .slice A1 r.L.length c1], .agg #[.int .i64 r.n, .slice A2 r.L.length c2]]) in_SameTheory rfl rfl rfl ?_
    refine (same_theory _ _ _ B1 B2 _ _ r.L r.L hBe1 hBe2 hT1 hT2).mono ?_
    rintro _ w42 ⟨rfl, hb⟩
    replace hbw := hbw.trans (hb.mono hbw.size)
    replace k_g14 := k_g14.keep hb
    replace hT1 := hT1.below (hb.mono hBe1)
    replace hG1 := hG1.below (hb.mono hBe1)
    replace hBe1 := Nat.le_trans hBe1 hb.size
    replace k_g25 := k_g25.keep hb
    replace hT2 := hT2.below (hb.mono hBe2)
    replace hG2 := hG2.below (hb.mono hBe2)
    replace hBe2 := Nat.le_trans hBe2 hb.size
    replace k_g34 := k_g34.keep hb
    rw [show decide (r.n = r.n ∧ r.L = r.L) = true by simp]
    refine ⟨_, rfl, ?_⟩
    refine wl_val (v := .bool true) (fun ρ e => ex_pick1 (e _ _ rfl) (e _ _ rfl)) rfl rfl ?_
    refine wl_val (v := .bool true) (fun ρ e => ex_move (e _ _ rfl)) rfl rfl ?_
    refine wl_val (v := .slice AG1 nG1 cG1) (fun ρ e => ex_move (e _ _ rfl)) rfl rfl ?_
    refine wl_val (v := .slice AG2 nG2 cG2) (fun ρ e => ex_move (e _ _ rfl)) rfl rfl ?_
    refine wl_call (args := [.slice AG1 nG1 cG1, .slice AG2 nG2 cG2]) in_SameInts rfl rfl rfl ?_
    refine (same_ints _ B1 B2 _ _ r.gate r.gate hG1 hG2).mono ?_
    rintro _ _ ⟨rfl, k, rfl⟩
    have hb : Below w42.heap.size w42 (w42.drewN k) := below_drewN (Below.refl _ _) k
    replace hbw := hbw.trans (hb.mono hbw.size)
    replace k_g14 := k_g14.keep hb
    replace hT1 := hT1.below (hb.mono hBe1)
    replace hG1 := hG1.below (hb.mono hBe1)
    replace hBe1 := Nat.le_trans hBe1 hb.size
    replace k_g25 := k_g25.keep hb
    replace hT2 := hT2.below (hb.mono hBe2)
    replace hG2 := hG2.below (hb.mono hBe2)
    replace hBe2 := Nat.le_trans hBe2 hb.size
    replace k_g34 := k_g34.keep hb
    rw [show decide (r.gate = r.gate) = true by simp]
    refine ⟨_, rfl, ?_⟩
    refine wl_val (v := .bool true) (fun ρ e => ex_pick1 (e _ _ rfl) (e _ _ rfl)) rfl rfl ?_
    refine wl_val (v := .bool true) (fun ρ e => ex_move (e _ _ rfl)) rfl rfl ?_
    refine wl_call (args := []) in_lawWorks rfl rfl rfl ?_
    refine (hworks _).mono ?_
    rintro _ w44 ⟨rfl, hb⟩
    replace hbw := hbw.trans (hb.mono hbw.size)
    replace k_g14 := k_g14.keep hb
    replace hT1 := hT1.below (hb.mono hBe1)
    replace hG1 := hG1.below (hb.mono hBe1)
    replace hBe1 := Nat.le_trans hBe1 hb.size
    replace k_g25 := k_g25.keep hb
    replace hT2 := hT2.below (hb.mono hBe2)
    replace hG2 := hG2.below (hb.mono hBe2)
    replace hBe2 := Nat.le_trans hBe2 hb.size
    replace k_g34 := k_g34.keep hb
    refine ⟨_, rfl, ?_⟩
    refine wl_val (v := .bool true) (fun ρ e => ex_pick1 (e _ _ rfl) (e _ _ rfl)) rfl rfl ?_
    refine wl_val (v := .bool true) (fun ρ e => ex_assign (e _ _ rfl)) rfl rfl ?_
    refine wl_nil ?_
    refine xw_next K41 ?_
    refine cw_ret ?_
    exact xw_ret (fun T hT => res1 rfl T _ (hT 2 _ rfl)) ⟨rfl, hbw⟩

set_option maxRecDepth 100000 in
set_option maxHeartbeats 1600000 in
theorem extends_ok (hworks : WorksOk) (N : Int) (V : Value) (gs : List Gate) (a : VS) (w : World) (B : Nat) (hB : B ≤ w.heap.size) (hg : GatesV w B V gs) (hN : -9223372036854775808 ≤ N) (hN2 : N ≤ 9223372036854775807) :
    Calls Try.prog 4 #[.agg #[.int .i64 N, V], (.agg #[.int .u64 ((a).a.toNat : Int), .int .u64 ((a).b.toNat : Int)])] w fun e w' => e = .returned (.bool true) ∧ Below w.heap.size w w' := by
  obtain ⟨A0, c0, rfl, hl0, hm0, _⟩ := id hg
  have a1 : ∀ (w1 : World), Below w.heap.size w w1 → Calls Try.prog 11 #[.agg #[.int .i64 N, .slice A0 gs.length c0]] w1 fun e w' => e = .returned (.bool (decide (gs.length ≤ 60) && gs.all fun g => decide (g.inp.length ≤ 150))) ∧ Below w1.heap.size w1 w' :=
    fun w1 hb => law10_light N _ gs w1 B (Nat.le_trans hB hb.size) (hg.below (hb.mono hB))
  have hs : (decide (gs.length ≤ 60) && gs.all fun g => decide (g.inp.length ≤ 150)) = true → sizeOf gs ≤ 9000 := light_size
  obtain ⟨y, hy⟩ : ∃ y, y = (decide (gs.length ≤ 60) && gs.all fun g => decide (g.inp.length ≤ 150)) := ⟨_, rfl⟩
  rw [← hy] at a1 hs
  clear hy
  refine sx_enter (args := [.agg #[.int .i64 N, .slice A0 gs.length c0], .agg #[.int .u64 (a.a.toNat : Int), .int .u64 (a.b.toNat : Int)]]) Try.func4 rfl rfl (by simp) ?_
  cases y
  · skip
    refine cw_seq (fun FK1 K1 => ?_)
    refine cw_region ?_
    refine wl_new (fun ρ e => ex_boxCirc (e _ _ rfl)) rfl rfl (fun g2 w3 jb4 jk5 jg6 js7 => ?_)
    have hbw := jb4
    have hle_g2 : w.heap.size ≤ g2 := by omega
    have k_g2 := jk5
    refine wl_new (fun ρ e => ex_boxSet (e _ _ rfl)) rfl rfl (fun g8 w9 jb10 jk11 jg12 js13 => ?_)
    have hle_g8 : w.heap.size ≤ g8 := by have := hbw.size; omega
    have hlt_g2_g8 : g2 < g8 := by have := k_g2.lt; omega
    replace hbw := hbw.trans (jb10.mono hbw.size)
    replace k_g2 := k_g2.keep jb10
    have k_g8 := jk11
    refine wl_val (v := .bool false) (fun ρ e => ex_assign (e _ _ rfl)) rfl rfl ?_
    refine wl_nil ?_
    refine xw_next K1 ?_
    refine cw_seq (fun FK14 K14 => ?_)
    refine cw_seq (fun FK15 K15 => ?_)
    refine cw_region ?_
    refine wl_val (v := .agg #[.int .i64 N, .slice A0 gs.length c0]) (fun ρ e => ex_circ (g := g2) (o := 0) (e _ _ rfl) (k_g2.cell 0) (k_g2.cell 1)) rfl rfl ?_
    refine wl_call (args := [.agg #[.int .i64 N, .slice A0 gs.length c0]]) in_lawLight rfl rfl rfl ?_
    refine (a1 _ hbw).mono ?_
    rintro _ w16 ⟨rfl, hb⟩
    replace hbw := hbw.trans (hb.mono hbw.size)
    replace k_g2 := k_g2.keep hb
    replace k_g8 := k_g8.keep hb
    refine ⟨_, rfl, ?_⟩
    refine wl_val (v := .bool true) (fun ρ e => ex_not (b := false) (e _ _ rfl)) rfl rfl ?_
    refine wl_nil ?_
    refine xw_next K15 ?_
    refine cw_true rfl ?_
    refine cw_seq (fun FK17 K17 => ?_)
    refine cw_region ?_
    refine wl_call (args := []) in_lawWorks rfl rfl rfl ?_
    refine (hworks _).mono ?_
    rintro _ w18 ⟨rfl, hb⟩
    replace hbw := hbw.trans (hb.mono hbw.size)
    replace k_g2 := k_g2.keep hb
    replace k_g8 := k_g8.keep hb
    refine ⟨_, rfl, ?_⟩
    refine wl_val (v := .bool true) (fun ρ e => ex_assign (e _ _ rfl)) rfl rfl ?_
    refine wl_nil ?_
    refine xw_next K17 ?_
    refine cw_ret ?_
    refine xw_past (by intro h; cases h) ?_
    exact xw_ret (fun T hT => res1 rfl T _ (hT 4 _ rfl)) ⟨rfl, hbw⟩
  · skip
    have hs := hs rfl
    obtain ⟨xs, hxs⟩ : ∃ z, z = (extendOf N gs a).1 := ⟨_, rfl⟩
    obtain ⟨z, hz⟩ : ∃ z, z = (extendOf N gs a).2 := ⟨_, rfl⟩
    have k1 : ∀ W, Below w.heap.size w W → Calls Try.prog 17 #[.agg #[.int .i64 N, .slice A0 gs.length c0], (.agg #[.int .u64 ((a).a.toNat : Int), .int .u64 ((a).b.toNat : Int)])] W fun e w' => e = .returned (.tuple #[(.agg #[.int .u64 ((xs).a.toNat : Int), .int .u64 ((xs).b.toNat : Int)]), .bool z]) ∧ Below W.heap.size W w' := fun W hb => by
      rw [hxs, hz]
      exact tseitin_extend N _ gs a W B (Nat.le_trans hB hb.size) (hg.below (hb.mono hB)) (by omega) hN hN2
    have k2 : ∀ W, Below w.heap.size w W → Calls Try.prog 18 #[.agg #[.int .i64 N, .slice A0 gs.length c0], (.agg #[.int .u64 ((a).a.toNat : Int), .int .u64 ((a).b.toNat : Int)])] W fun e w' => e = .returned (.tuple #[(.agg #[.int .u64 ((xs).a.toNat : Int), .int .u64 ((xs).b.toNat : Int)]), .bool z]) ∧ Below W.heap.size W w' := fun W hb => by
      rw [hxs, hz, ← refExtend_eq]
      exact ref10_Extend N _ gs a W B (Nat.le_trans hB hb.size) (hg.below (hb.mono hB)) (by omega)
    clear hxs hz
    refine cw_seq (fun FK19 K19 => ?_)
    refine cw_region ?_
    refine wl_new (fun ρ e => ex_boxCirc (e _ _ rfl)) rfl rfl (fun g20 w21 jb22 jk23 jg24 js25 => ?_)
    have hbw := jb22
    have hle_g20 : w.heap.size ≤ g20 := by omega
    have k_g20 := jk23
    refine wl_new (fun ρ e => ex_boxSet (e _ _ rfl)) rfl rfl (fun g26 w27 jb28 jk29 jg30 js31 => ?_)
    have hle_g26 : w.heap.size ≤ g26 := by have := hbw.size; omega
    have hlt_g20_g26 : g20 < g26 := by have := k_g20.lt; omega
    replace hbw := hbw.trans (jb28.mono hbw.size)
    replace k_g20 := k_g20.keep jb28
    have k_g26 := jk29
    refine wl_val (v := .bool false) (fun ρ e => ex_assign (e _ _ rfl)) rfl rfl ?_
    refine wl_nil ?_
    refine xw_next K19 ?_
    refine cw_seq (fun FK32 K32 => ?_)
    refine cw_seq (fun FK33 K33 => ?_)
    refine cw_region ?_
    refine wl_val (v := .agg #[.int .i64 N, .slice A0 gs.length c0]) (fun ρ e => ex_circ (g := g20) (o := 0) (e _ _ rfl) (k_g20.cell 0) (k_g20.cell 1)) rfl rfl ?_
    refine wl_call (args := [.agg #[.int .i64 N, .slice A0 gs.length c0]]) in_lawLight rfl rfl rfl ?_
    refine (a1 _ hbw).mono ?_
    rintro _ w34 ⟨rfl, hb⟩
    replace hbw := hbw.trans (hb.mono hbw.size)
    replace k_g20 := k_g20.keep hb
    replace k_g26 := k_g26.keep hb
    refine ⟨_, rfl, ?_⟩
    refine wl_val (v := .bool false) (fun ρ e => ex_not (b := true) (e _ _ rfl)) rfl rfl ?_
    refine wl_nil ?_
    refine xw_next K33 ?_
    refine cw_false rfl ?_
    refine cw_skip ?_
    refine xw_next K32 ?_
    refine cw_seq (fun FK35 K35 => ?_)
    refine cw_region ?_
    refine wl_val (v := .agg #[.int .i64 N, .slice A0 gs.length c0]) (fun ρ e => ex_circ (g := g20) (o := 0) (e _ _ rfl) (k_g20.cell 0) (k_g20.cell 1)) rfl rfl ?_
    refine wl_val (v := .agg #[.int .u64 (a.a.toNat : Int), .int .u64 (a.b.toNat : Int)]) (fun ρ e => ex_set (g := g26) (o := 0) (e _ _ rfl) (k_g26.cell 0) (k_g26.cell 1)) rfl rfl ?_
    refine wl_call (args := [.agg #[.int .i64 N, .slice A0 gs.length c0], .agg #[.int .u64 (a.a.toNat : Int), .int .u64 (a.b.toNat : Int)]]) in_tExtend rfl rfl rfl ?_
    refine (k1 _ hbw).mono ?_
    rintro _ w36 ⟨rfl, hb⟩
    replace hbw := hbw.trans (hb.mono hbw.size)
    replace k_g20 := k_g20.keep hb
    replace k_g26 := k_g26.keep hb
    refine ⟨_, rfl, ?_⟩
    refine wl_val (v := .tuple #[.agg #[.int .u64 (xs.a.toNat : Int), .int .u64 (xs.b.toNat : Int)], .bool z]) (fun ρ e => ex_move (e _ _ rfl)) rfl rfl ?_
    refine wl_val (v := .agg #[.int .u64 (xs.a.toNat : Int), .int .u64 (xs.b.toNat : Int)]) (fun ρ e => ex_extract (vs := #[.agg #[.int .u64 (xs.a.toNat : Int), .int .u64 (xs.b.toNat : Int)], .bool z]) (e _ _ rfl) rfl) rfl rfl ?_
    refine wl_val (v := .bool z) (fun ρ e => ex_extract (vs := #[.agg #[.int .u64 (xs.a.toNat : Int), .int .u64 (xs.b.toNat : Int)], .bool z]) (e _ _ rfl) rfl) rfl rfl ?_
    refine wl_new (fun ρ e => ex_allocSet) rfl rfl (fun g37 w38 jb39 jk40 jg41 js42 => ?_)
    have hle_g37 : w.heap.size ≤ g37 := by have := hbw.size; omega
    have hlt_g20_g37 : g20 < g37 := by have := k_g20.lt; omega
    have hlt_g26_g37 : g26 < g37 := by have := k_g26.lt; omega
    replace hbw := hbw.trans (jb39.mono hbw.size)
    replace k_g20 := k_g20.keep jb39
    replace k_g26 := k_g26.keep jb39
    have k_g37 := jk40
    refine wl_put2 (fun ρ e => ex_storeSet (g := g37) (e _ _ rfl) (e _ _ rfl) k_g37) rfl k_g37 (by decide) (by decide) (fun w43 hp k_g37' => ?_)
    replace hbw := hbw.trans (hp.below _ hle_g37)
    replace k_g20 := hp.far (by omega) k_g20
    replace k_g26 := hp.far (by omega) k_g26
    replace k_g37 := k_g37'
    refine wl_val (v := .bool z) (fun ρ e => ex_assign (e _ _ rfl)) rfl rfl ?_
    refine wl_nil ?_
    refine xw_next K35 ?_
    refine cw_seq (fun FK44 K44 => ?_)
    refine cw_region ?_
    refine wl_val (v := .agg #[.int .i64 N, .slice A0 gs.length c0]) (fun ρ e => ex_circ (g := g20) (o := 0) (e _ _ rfl) (k_g20.cell 0) (k_g20.cell 1)) rfl rfl ?_
    refine wl_val (v := .agg #[.int .u64 (a.a.toNat : Int), .int .u64 (a.b.toNat : Int)]) (fun ρ e => ex_set (g := g26) (o := 0) (e _ _ rfl) (k_g26.cell 0) (k_g26.cell 1)) rfl rfl ?_
    refine wl_call (args := [.agg #[.int .i64 N, .slice A0 gs.length c0], .agg #[.int .u64 (a.a.toNat : Int), .int .u64 (a.b.toNat : Int)]]) in_rExtend rfl rfl rfl ?_
    refine (k2 _ hbw).mono ?_
    rintro _ w45 ⟨rfl, hb⟩
    replace hbw := hbw.trans (hb.mono hbw.size)
    replace k_g20 := k_g20.keep hb
    replace k_g26 := k_g26.keep hb
    replace k_g37 := k_g37.keep hb
    refine ⟨_, rfl, ?_⟩
    refine wl_val (v := .tuple #[.agg #[.int .u64 (xs.a.toNat : Int), .int .u64 (xs.b.toNat : Int)], .bool z]) (fun ρ e => ex_move (e _ _ rfl)) rfl rfl ?_
    refine wl_val (v := .agg #[.int .u64 (xs.a.toNat : Int), .int .u64 (xs.b.toNat : Int)]) (fun ρ e => ex_extract (vs := #[.agg #[.int .u64 (xs.a.toNat : Int), .int .u64 (xs.b.toNat : Int)], .bool z]) (e _ _ rfl) rfl) rfl rfl ?_
    refine wl_val (v := .bool z) (fun ρ e => ex_extract (vs := #[.agg #[.int .u64 (xs.a.toNat : Int), .int .u64 (xs.b.toNat : Int)], .bool z]) (e _ _ rfl) rfl) rfl rfl ?_
    refine wl_new (fun ρ e => ex_allocSet) rfl rfl (fun g46 w47 jb48 jk49 jg50 js51 => ?_)
    have hle_g46 : w.heap.size ≤ g46 := by have := hbw.size; omega
    have hlt_g20_g46 : g20 < g46 := by have := k_g20.lt; omega
    have hlt_g26_g46 : g26 < g46 := by have := k_g26.lt; omega
    have hlt_g37_g46 : g37 < g46 := by have := k_g37.lt; omega
    replace hbw := hbw.trans (jb48.mono hbw.size)
    replace k_g20 := k_g20.keep jb48
    replace k_g26 := k_g26.keep jb48
    replace k_g37 := k_g37.keep jb48
    have k_g46 := jk49
    refine wl_put2 (fun ρ e => ex_storeSet (g := g46) (e _ _ rfl) (e _ _ rfl) k_g46) rfl k_g46 (by decide) (by decide) (fun w52 hp k_g46' => ?_)
    replace hbw := hbw.trans (hp.below _ hle_g46)
    replace k_g20 := hp.far (by omega) k_g20
    replace k_g26 := hp.far (by omega) k_g26
    replace k_g37 := hp.far (by omega) k_g37
    replace k_g46 := k_g46'
    refine wl_val (v := .bool z) (fun ρ e => ex_assign (e _ _ rfl)) rfl rfl ?_
    refine wl_nil ?_
    refine xw_next K44 ?_
    refine cw_seq (fun FK53 K53 => ?_)
    refine cw_region ?_
    refine wl_val (v := .bool z) (fun ρ e => ex_move (e _ _ rfl)) rfl rfl ?_
    refine wl_val (v := .bool z) (fun ρ e => ex_move (e _ _ rfl)) rfl rfl ?_
    refine wl_val (v := .bool true) (fun ρ e => ex_eqbb (b := z) (e _ _ rfl) (e _ _ rfl)) rfl rfl ?_
    refine wl_val (v := .bool true) (fun ρ e => ex_move (e _ _ rfl)) rfl rfl ?_
    refine wl_val (v := .agg #[.int .u64 (xs.a.toNat : Int), .int .u64 (xs.b.toNat : Int)]) (fun ρ e => ex_set (g := g37) (o := 0) (e _ _ rfl) (k_g37.cell 0) (k_g37.cell 1)) rfl rfl ?_
    refine wl_val (v := .agg #[.int .u64 (xs.a.toNat : Int), .int .u64 (xs.b.toNat : Int)]) (fun ρ e => ex_set (g := g46) (o := 0) (e _ _ rfl) (k_g46.cell 0) (k_g46.cell 1)) rfl rfl ?_
    refine wl_val (v := .bool true) (fun ρ e => ex_eqsame (s := xs) (e _ _ rfl) (e _ _ rfl)) rfl rfl ?_
    refine wl_val (v := .bool true) (fun ρ e => ex_pick1 (e _ _ rfl) (e _ _ rfl)) rfl rfl ?_
    refine wl_val (v := .bool true) (fun ρ e => ex_move (e _ _ rfl)) rfl rfl ?_
    refine wl_call (args := []) in_lawWorks rfl rfl rfl ?_
    refine (hworks _).mono ?_
    rintro _ w54 ⟨rfl, hb⟩
    replace hbw := hbw.trans (hb.mono hbw.size)
    replace k_g20 := k_g20.keep hb
    replace k_g26 := k_g26.keep hb
    replace k_g37 := k_g37.keep hb
    replace k_g46 := k_g46.keep hb
    refine ⟨_, rfl, ?_⟩
    refine wl_val (v := .bool true) (fun ρ e => ex_pick1 (e _ _ rfl) (e _ _ rfl)) rfl rfl ?_
    refine wl_val (v := .bool true) (fun ρ e => ex_assign (e _ _ rfl)) rfl rfl ?_
    refine wl_nil ?_
    refine xw_next K53 ?_
    refine cw_ret ?_
    exact xw_ret (fun T hT => res1 rfl T _ (hT 4 _ rfl)) ⟨rfl, hbw⟩
end Go.Proofs.Ytlifakbdgmdafaa
