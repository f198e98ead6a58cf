/-
  What TseitinModels computes where the theory has at most eleven variables.
-/
import Derived.Test.YtlifakbdgmdafaaModels
import Derived.Test.YtlifakbdgmdafaaWModels
import Derived.Test.YtlifakbdgmdafaaWRef07d
import Derived.Test.YtlifakbdgmdafaaSizes
import Derived.Test.YtlifakbdgmdafaaExL
import Derived.Test.YtlifakbdgmdafaaLits
import Derived.Deep.CutRange
namespace Go.Proofs.Ytlifakbdgmdafaa
open Go Go.RowKit

def ExtendOk : Prop := ∀ (N : Int) (V : Value) (gs : List Gate) (a : VS) (w : World) (B : Nat), B ≤ w.heap.size → GatesV w B V gs → sizeOf gs ≤ 4611686018427387904 → -9223372036854775808 ≤ N → N ≤ 9223372036854775807 →
    Calls Try.prog 17 #[.agg #[.int .i64 N, V], (.agg #[.int .u64 ((a).a.toNat : Int), .int .u64 ((a).b.toNat : Int)])] w fun e w' => e = .returned (.tuple #[(.agg #[.int .u64 (((extendOf N gs a).1).a.toNat : Int), .int .u64 (((extendOf N gs a).1).b.toNat : Int)]), .bool (extendOf N gs a).2]) ∧ Below w.heap.size w w'

theorem in_light : Enters Try.prog 11 := enters_of Try.func11 (by kernel_rfl) rfl
theorem in_works : Enters Try.prog 12 := enters_of Try.func12 (by kernel_rfl) rfl
theorem in_Encode : Enters Try.prog 13 := enters_of Try.func13 (by kernel_rfl) rfl
theorem in_Extend : Enters Try.prog 17 := enters_of Try.func17 (by kernel_rfl) rfl
theorem in_Subsets : Enters Try.prog 19 := enters_of Try.func19 (by kernel_rfl) rfl
theorem in_07Eval : Enters Try.prog 20 := enters_of Try.func20 (by kernel_rfl) rfl
theorem in_Cut : Enters Try.prog 21 := enters_of Try.func21 (by kernel_rfl) rfl
theorem in_All : Enters Try.prog 22 := enters_of Try.func22 (by kernel_rfl) rfl
theorem in_Models : Enters Try.prog 23 := enters_of Try.func23 (by kernel_rfl) rfl
theorem in_05Eval : Enters Try.prog 24 := enters_of Try.func24 (by kernel_rfl) rfl
theorem slice_len {A : Option Addr} {n m c : Nat} (h : n = m) : Value.slice A n c = .slice A m c := by rw [h]

set_option maxRecDepth 100000 in
set_option maxHeartbeats 6400000 in
theorem models_main (hworks : WorksOk) (hext : ExtendOk) (N n : Nat) (V : Value) (gs : List Gate) (w : World) (B : Nat) (hB : B ≤ w.heap.size) (hg : GatesV w B V gs)
    (hlight : (decide (gs.length ≤ 60) && gs.all fun g => decide (g.inp.length ≤ 150)) = true) (he : (encodeOf N gs).e = 0) (hn : (encodeOf N gs).n = n) (hn' : n ≤ 11) :
    Calls Try.prog 6 #[.agg #[.int .i64 N, V]] w fun e w' => e = .returned (.bool true) ∧ Below w.heap.size w w' := by
  obtain ⟨A, c, rfl, hlc, hcm, _⟩ := id hg
  unfold maxLen at hcm
  have hs := light_size hlight
  obtain ⟨hb1, hb2, hb3, hb4⟩ := enc_bounds he
  have hNn : N ≤ n := by rw [hn] at hb2; omega
  rw [hn] at hb4
  have a1 : ∀ (w1 : World), Below w.heap.size w w1 → Calls Try.prog 11 #[.agg #[.int .i64 N, .slice A gs.length c]] w1 fun e w' => e = .returned (.bool true) ∧ Below w1.heap.size w1 w' :=
    fun w1 hb => by have := law10_light N _ gs w1 B (Nat.le_trans hB hb.size) (hg.below (hb.mono hB)); rwa [hlight] at this
  have k2 : ∀ (w1 : World), Below w.heap.size w w1 → Calls Try.prog 13 #[.agg #[.int .i64 N, .slice A gs.length c]] w1 fun e w' => (∃ LV GV, e = .returned (.tuple #[.agg #[.int .i64 n, LV], GV, .int .i64 0]) ∧ RowsV w' w'.heap.size LV (encodeOf N gs).L ∧ IntsV w' w'.heap.size GV (encodeOf N gs).gate) ∧ Below w1.heap.size w1 w' :=
    fun w1 hb => by have := tseitin_encode N _ gs w1 B (Nat.le_trans hB hb.size) (hg.below (hb.mono hB)) (by omega); rwa [he, hn] at this
  obtain ⟨f1, f2, f3⟩ := model_facts he
  rw [hn] at f3
  have k3 : ∀ (a : VS) (w1 : World), Below w.heap.size w w1 → Calls Try.prog 17 #[.agg #[.int .i64 N, .slice A gs.length c], (.agg #[.int .u64 ((a).a.toNat : Int), .int .u64 ((a).b.toNat : Int)])] w1 fun e w' => e = .returned (.tuple #[(.agg #[.int .u64 (((extendOf N gs a).1).a.toNat : Int), .int .u64 (((extendOf N gs a).1).b.toNat : Int)]), .bool (extendOf N gs a).2]) ∧ Below w1.heap.size w1 w' :=
    fun a w1 hb => hext N _ gs a w1 B (Nat.le_trans hB hb.size) (hg.below (hb.mono hB)) (by omega) (by omega) (by omega)
  have k4 : ∀ (a : VS) (w1 : World), Below w.heap.size w w1 → Calls Try.prog 20 #[.agg #[.int .i64 N, .slice A gs.length c], (.agg #[.int .u64 ((a).a.toNat : Int), .int .u64 ((a).b.toNat : Int)])] w1 fun e w' => e = .returned (.bool (extendOf N gs a).2) ∧ Below w1.heap.size w1 w' :=
    fun a w1 hb => by have := ref07_eval N _ gs a w1 B (Nat.le_trans hB hb.size) (hg.below (hb.mono hB)) (by omega); rwa [← f1 a] at this
  have k5 : ∀ (w1 : World), Calls Try.prog 19 #[.int .i64 N] w1 fun e w' => (∃ v, e = .returned v ∧ SetsV w' w'.heap.size v (subsets N)) ∧ Below w1.heap.size w1 w' := fun w1 => ref03_subsets N w1 (by omega)
  have k6 : ∀ (W : World) (LV : Value), RowsV W W.heap.size LV (encodeOf N gs).L → Calls Try.prog 23 #[.agg #[.int .i64 n, LV]] W fun e w' => (∃ v, e = .returned v ∧ SetsV w' w'.heap.size v (modelsOf n (encodeOf N gs).L)) ∧ Below W.heap.size W w' :=
    fun W LV h => ref05_models n LV _ W W.heap.size (Nat.le_refl _) h hn' hb4
  have k7 : ∀ (s : VS) (W : World) (LV : Value) (B' : Nat), B' ≤ W.heap.size → RowsV W B' LV (encodeOf N gs).L → Calls Try.prog 24 #[.agg #[.int .i64 n, LV], (.agg #[.int .u64 ((s).a.toNat : Int), .int .u64 ((s).b.toNat : Int)])] W fun e w' => e = .returned (.bool (thEval n (encodeOf N gs).L s)) ∧ Below W.heap.size W w' :=
    fun s W LV B' h1 h2 => ref05_eval n LV _ s W B' h1 h2
  have k8 : ∀ (w1 : World), Calls Try.prog 22 #[.int .i64 N] w1 fun e w' => e = .returned (.agg #[.int .u64 ((VS.all N).a.toNat : Int), .int .u64 ((VS.all N).b.toNat : Int)]) ∧ Below w1.heap.size w1 w' := fun w1 => ref03_all N w1
  have k9 : ∀ (s t : VS) (w1 : World), Calls Try.prog 21 #[(.agg #[.int .u64 ((s).a.toNat : Int), .int .u64 ((s).b.toNat : Int)]), (.agg #[.int .u64 ((t).a.toNat : Int), .int .u64 ((t).b.toNat : Int)])] w1 fun e w' => e = .returned (.agg #[.int .u64 ((VS.cut s t).a.toNat : Int), .int .u64 ((VS.cut s t).b.toNat : Int)]) ∧ Below w1.heap.size w1 w' := fun s t w1 => ref03_cut s.a s.b t.a t.b w1
  have hlen : (modelsOf n (encodeOf N gs).L).length = (wantTo (subsets N) (extendOf N gs) (subsets N).length).length := by
    rw [wantTo_all]
    exact models_len he (by omega) (by omega) hn
  have hSl : (subsets N).length ≤ 2048 := by
    rw [subsets_len]
    have : 2 ^ N ≤ 2 ^ 11 := Nat.pow_le_pow_right (by decide) (by omega)
    simpa using this
  clear hlight he hn hb1 hb2 hb3 hb4 f1 hs hext hB
  generalize encodeOf N gs = r at *
  obtain ⟨re, rn, L, rg⟩ := r
  simp only at *
  generalize extendOf N gs = x at *
  generalize subsets N = S at *
  generalize modelsOf n L = M at *
  generalize thEval n L = f at *
  generalize VS.all N = al at *
  refine sx_enter (args := [.agg #[.int .i64 N, .slice A gs.length c]]) Try.func6 rfl rfl (by simp) ?_
  refine cw_seq (fun FK1 K1 => ?_)
  refine cw_region ?_
  refine wl_new (fun ρ e => ex_boxCirc (e _ _ rfl)) rfl rfl (fun g2 w3 jb4 jk5 jg6 js7 => ?_)
  have hbw := jb4
  have hkc := jk5
  refine wl_val (v := .bool false) (fun ρ e => ex_assign (e _ _ rfl)) rfl rfl ?_
  refine wl_nil ?_
  refine xw_next K1 ?_
  refine cw_seq (fun FK8 K8 => ?_)
  refine cw_seq (fun FK9 K9 => ?_)
  refine cw_region ?_
  refine wl_val (v := .agg #[.int .i64 N, .slice A gs.length c]) (fun ρ e => ex_circ (g := g2) (o := 0) (e _ _ rfl) (hkc.cell 0) (hkc.cell 1)) rfl rfl ?_
  refine wl_call (args := [.agg #[.int .i64 N, .slice A gs.length c]]) in_light rfl rfl rfl ?_
  refine (a1 _ hbw).mono ?_
  rintro _ w10 ⟨rfl, hb⟩
  replace hbw := hbw.trans (hb.mono hbw.size)
  replace hkc := hkc.keep hb
  refine ⟨_, rfl, ?_⟩
  refine wl_val (v := .bool false) (fun ρ e => ex_not (b := true) (e _ _ rfl)) rfl rfl ?_
  refine wl_nil ?_
  refine xw_next K9 ?_
  refine cw_false rfl ?_
  refine cw_skip ?_
  refine xw_next K8 ?_
  refine cw_seq (fun FK11 K11 => ?_)
  refine cw_region ?_
  refine wl_val (v := .agg #[.int .i64 N, .slice A gs.length c]) (fun ρ e => ex_circ (g := g2) (o := 0) (e _ _ rfl) (hkc.cell 0) (hkc.cell 1)) rfl rfl ?_
  refine wl_call (args := [.agg #[.int .i64 N, .slice A gs.length c]]) in_Encode rfl rfl rfl ?_
  refine (k2 _ hbw).mono ?_
  rintro _ w12 ⟨⟨LV, GV, rfl, hL, hGV⟩, hb⟩
  obtain ⟨A2, c2, rfl, _, _, _⟩ := id hL
  obtain ⟨A3, c3, rfl, _, _, _⟩ := id hGV
  clear hGV
  replace hbw := hbw.trans (hb.mono hbw.size)
  replace hkc := hkc.keep hb
  have hL9 : w12.heap.size = w12.heap.size := rfl
  obtain ⟨BL, hBL⟩ : ∃ B, B = w12.heap.size := ⟨_, rfl⟩
  rw [← hBL] at hL
  clear hL9
  have hBLe : BL ≤ w12.heap.size := Nat.le_of_eq hBL
  refine ⟨_, rfl, ?_⟩
  refine wl_val (v := .tuple #[.agg #[.int .i64 (n : Int), .slice A2 L.length c2], .slice A3 rg.length c3, .int .i64 0]) (fun ρ e => ex_move (e _ _ rfl)) rfl rfl ?_
  refine wl_val (v := .agg #[.int .i64 (n : Int), .slice A2 L.length c2]) (fun ρ e => ex_extract (vs := #[.agg #[.int .i64 (n : Int), .slice A2 L.length c2], .slice A3 rg.length c3, .int .i64 0]) (e _ _ rfl) rfl) rfl rfl ?_
  refine wl_val (v := .slice A3 rg.length c3) (fun ρ e => ex_extract (vs := #[.agg #[.int .i64 (n : Int), .slice A2 L.length c2], .slice A3 rg.length c3, .int .i64 0]) (e _ _ rfl) rfl) rfl rfl ?_
  refine wl_val (v := .int .i64 0) (fun ρ e => ex_extract (vs := #[.agg #[.int .i64 (n : Int), .slice A2 L.length c2], .slice A3 rg.length c3, .int .i64 0]) (e _ _ rfl) rfl) rfl rfl ?_
  refine wl_new (fun ρ e => ex_allocTheory) rfl rfl (fun g13 w14 jb15 jk16 jg17 js18 => ?_)
  have hBLg : BL ≤ g13 := Nat.le_trans hBLe (Nat.le_of_eq jg17)
  have hgt : g2 < g13 := by have := hkc.lt; omega
  have hge : w.heap.size ≤ g13 := by have := hbw.size; omega
  replace hbw := hbw.trans (jb15.mono hbw.size)
  replace hkc := hkc.keep jb15
  replace hL := hL.below (jb15.mono hBLe)
  replace hBLe := Nat.le_trans hBLe jb15.size
  have hkt := jk16
  refine wl_store2 (fun ρ e => ex_storeTheory (g := g13) (e _ _ rfl) (e _ _ rfl) hkt) rfl hkt (fun w19 hsz hst hkt => ?_)
  replace hkc := hkc.below (hst g13 (Nat.le_refl _)) hgt
  replace hbw := hbw.trans (hst _ hge)
  replace hL := hL.below (hst _ hBLg)
  replace hBLe : BL ≤ w19.heap.size := by omega
  refine wl_val (v := .slice A3 rg.length c3) (fun ρ e => ex_assign (e _ _ rfl)) rfl rfl ?_
  refine wl_val (v := .int .i64 0) (fun ρ e => ex_assign (e _ _ rfl)) rfl rfl ?_
  refine wl_nil ?_
  refine xw_next K11 ?_
  refine cw_seq (fun FK20 K20 => ?_)
  refine cw_seq (fun FK21 K21 => ?_)
  refine cw_region ?_
  refine wl_val (v := .int .i64 0) (fun ρ e => ex_move (e _ _ rfl)) rfl rfl ?_
  refine wl_val (v := .bool false) (fun ρ e => ex_neqE0 (u := 0) (v := 0) (e _ _ rfl) (e _ _ rfl) rfl) rfl rfl ?_
  refine wl_val (v := .bool false) (fun ρ e => ex_move (e _ _ rfl)) rfl rfl ?_
  refine wl_val (v := .pointer (some ⟨g13, 0, none⟩)) (fun ρ e => ex_theoryF0 (g := g13) (o := 0) (e _ _ rfl)) rfl rfl ?_
  refine wl_val (v := .int .i64 (n : Int)) (fun ρ e => ex_int (p := ⟨g13, 0, none⟩) (e _ _ rfl) (hkt.cell 0)) rfl rfl ?_
  refine wl_val (v := .bool false) (fun ρ e => ex_gtr0 (u := (n : Int)) (v := 11) (e _ _ rfl) (e _ _ rfl) (by omega)) rfl rfl ?_
  refine wl_val (v := .bool false) (fun ρ e => ex_pick0 (e _ _ rfl) (e _ _ rfl)) rfl rfl ?_
  refine wl_nil ?_
  refine xw_next K21 ?_
  refine cw_false rfl ?_
  refine cw_skip ?_
  refine xw_next K20 ?_
  refine cw_seq (fun FK22 K22 => ?_)
  refine cw_region ?_
  refine wl_val (v := .slice none 0 0) (fun ρ e => ex_assign (e _ _ rfl)) rfl rfl ?_
  refine wl_nil ?_
  refine xw_next K22 ?_
  refine cw_seq (fun FK23 K23 => ?_)
  refine cw_region ?_
  refine wl_val (v := .pointer (some ⟨g2, 0, none⟩)) (fun ρ e => ex_circN (g := g2) (o := 0) (e _ _ rfl)) rfl rfl ?_
  refine wl_val (v := .int .i64 N) (fun ρ e => ex_int (p := ⟨g2, 0, none⟩) (e _ _ rfl) (hkc.cell 0)) rfl rfl ?_
  refine wl_call (args := [.int .i64 N]) in_Subsets rfl rfl rfl ?_
  refine (k5 _).mono ?_
  rintro _ w24 ⟨⟨v3, rfl, hSV⟩, hb⟩
  obtain ⟨A5, c5, rfl, _, _, _⟩ := id hSV
  replace hL := hL.below (hb.mono hBLe)
  replace hBLe := Nat.le_trans hBLe hb.size
  replace hkt := hkt.keep hb
  replace hkc := hkc.keep hb
  replace hbw := hbw.trans (hb.mono hbw.size)
  refine ⟨_, rfl, ?_⟩
  refine wl_val (v := .slice A5 S.length c5) (fun ρ e => ex_assign (e _ _ rfl)) rfl rfl ?_
  refine wl_nil ?_
  refine xw_next K23 ?_
  refine cw_seq (fun FK25 K25 => ?_)
  refine cw_seq (fun FK26 K26 => ?_)
  refine cw_region ?_
  refine wl_val (v := .int .i64 0) (fun ρ e => ex_assign (e _ _ rfl)) rfl rfl ?_
  refine wl_nil ?_
  refine xw_next K26 ?_
  refine cw_block ?_
  refine cw_loop (ι := Nat × Option Addr × Nat × Nat) (fun i => [(1, .pointer (some ⟨g2, 0, none⟩)), (3, .pointer (some ⟨g13, 0, none⟩)), (6, .slice i.2.1 i.2.2.1 i.2.2.2), (7, .slice A5 S.length c5), (8, .int .i64 (i.1 : Int))]) (fun i W => i.1 ≤ S.length ∧ i.2.2.1 = (wantTo S x i.1).length ∧ OwnSets W w24.heap.size (.slice i.2.1 i.2.2.1 i.2.2.2) (wantTo S x i.1) ∧ Below w24.heap.size w24 W) (fun i => S.length - i.1) (0, none, 0, 0) ⟨Nat.zero_le _, rfl, OwnSets.nil _ _, Below.refl _ _⟩ ⟨rfl, rfl, rfl, rfl, rfl, trivial⟩ (fun q Wr hJ K27 hK28 => ?_)
  obtain ⟨i, Ao, no, co⟩ := q
  obtain ⟨hi, hno, hown, hb3⟩ := hJ
  dsimp only at hi hno hown hb3
  replace hL := hL.below (hb3.mono hBLe)
  replace hBLe := Nat.le_trans hBLe hb3.size
  replace hkt := hkt.keep hb3
  replace hkc := hkc.keep hb3
  replace hbw := hbw.trans (hb3.mono hbw.size)
  have hwl := wantTo_len S x i
  by_cases hlt : i < S.length
  · obtain ⟨b, o, rfl, hbB, hs0, hs1⟩ := hSV.at_ (Below.refl _ _) hlt
    have hwt := wantTo_succ hlt x
    have hcut0 := f2 S[i]
    have ks0 : ∀ Z, Below w24.heap.size w24 Z → Z.cell? ⟨b, o + i * 2, none⟩ = some (.int .u64 (S[i].a.toNat : Int)) := fun Z hZ => (hZ.cell (p := ⟨b, o + i * 2, none⟩) hbB).trans hs0
    have ks1 : ∀ Z, Below w24.heap.size w24 Z → Z.cell? ⟨b, o + i * 2 + 1, none⟩ = some (.int .u64 (S[i].b.toNat : Int)) := fun Z hZ => (hZ.cell (p := ⟨b, o + i * 2 + 1, none⟩) hbB).trans hs1
    clear hs0 hs1
    have k3t := k3 S[i]
    have k4t := k4 S[i]
    generalize S[i] = t at hwt hcut0 ks0 ks1 k3t k4t
    generalize wantTo S x i = m at hown hwt hwl hno
    generalize x t = xt at hwt hcut0 k3t k4t
    obtain ⟨xb, y⟩ := xt
    simp only at hwt hcut0 k3t k4t
    have k3 : ∀ q : VS, _ := fun (_ : VS) => k3t
    have k4 : ∀ q : VS, _ := fun (_ : VS) => k4t
    clear k3t k4t
    refine cw_seq (fun FK29 K29 => ?_)
    refine cw_seq (fun FK30 K30 => ?_)
    refine cw_region ?_
    refine wl_val (v := .int .i64 (i : Int)) (fun ρ e => ex_move (e _ _ rfl)) rfl rfl ?_
    refine wl_val (v := .slice (some ⟨b, o, none⟩) S.length c5) (fun ρ e => ex_move (e _ _ rfl)) rfl rfl ?_
    refine wl_val (v := .int .i64 ((S.length : Nat) : Int)) (fun ρ e => ex_lenS (e _ _ rfl)) rfl rfl ?_
    refine wl_val (v := .bool true) (fun ρ e => ex_lss1 (u := (i : Int)) (v := ((S.length : Nat) : Int)) (e _ _ rfl) (e _ _ rfl) (by omega)) rfl rfl ?_
    refine wl_nil ?_
    refine xw_next K30 ?_
    refine cw_true rfl ?_
    refine cw_skip ?_
    refine xw_next K29 ?_
    refine cw_seq (fun FK31 K31 => ?_)
    refine cw_block ?_
    refine cw_seq (fun FK32 K32 => ?_)
    have hrest : ∀ g W', Below Wr.heap.size Wr W' → Blk W' g 38 #[.int .u64 (xb.a.toNat : Int), .int .u64 (xb.b.toNat : Int)] → ∀ a, Fm 98 [(1, .pointer (some ⟨g2, 0, none⟩)), (3, .pointer (some ⟨g13, 0, none⟩)), (6, .slice Ao no co), (7, .slice (some ⟨b, o, none⟩) S.length c5), (8, .int .i64 (i : Int)), (9, .pointer (some ⟨g, 0, none⟩)), (10, .bool y)] a → FK32 a W' := by
      intro g wq hbx hkx a ha
      refine K32.out _ _ _ ?_ a ha
      clear ha
      replace hL := hL.below (hbx.mono hBLe)
      replace hBLe := Nat.le_trans hBLe hbx.size
      replace hkt := hkt.keep hbx
      replace hkc := hkc.keep hbx
      replace hbw := hbw.trans (hbx.mono hbw.size)
      replace hown := hown.below hbx
      replace hb3 := hb3.trans (hbx.mono hb3.size)
      refine cw_seq (fun FK33 K33 => ?_)
      refine cw_seq (fun FK34 K34 => ?_)
      cases y
      · rw [if_neg (by simp)] at hwt
        refine cw_quiet (fun Z => Below wq.heap.size wq Z) (by kernel_rfl) (by kernel_rfl) ((Below.refl _ _).drew) ?_
        refine wq_val (v := .bool false) (fun ρ e W hW => ex_move (e _ _ rfl)) rfl rfl ?_
        refine wq_val (v := .agg #[.int .i64 N, .slice A gs.length c]) (fun ρ e W hW => ex_circ (g := g2) (o := 0) (e _ _ rfl) (hkc.later 0 _ rfl _ hW) (hkc.later 1 _ rfl _ hW)) rfl rfl ?_
        refine wq_val (v := .slice (some ⟨b, o, none⟩) S.length c5) (fun ρ e W hW => ex_move (e _ _ rfl)) rfl rfl ?_
        refine wq_val (v := .int .i64 (i : Int)) (fun ρ e W hW => ex_move (e _ _ rfl)) rfl rfl ?_
        refine wq_val (v := .pointer (some ⟨b, o + i * 2, none⟩)) (fun ρ e W hW => ex_sidx (g := b) (o := o) (n := S.length) (c := c5) (i := i) (e _ _ rfl) (e _ _ rfl) (by omega)) rfl rfl ?_
        refine wq_val (v := .agg #[.int .u64 (t.a.toNat : Int), .int .u64 (t.b.toNat : Int)]) (fun ρ e W hW => ex_set (g := b) (o := (o + i * 2)) (e _ _ rfl) (ks0 _ (hb3.trans (hW.mono hb3.size))) (ks1 _ (hb3.trans (hW.mono hb3.size)))) rfl rfl ?_
        refine wq_call (args := [.agg #[.int .i64 N, .slice A gs.length c], .agg #[.int .u64 (t.a.toNat : Int), .int .u64 (t.b.toNat : Int)]]) (v := .bool false) in_07Eval rfl rfl rfl (fun Z hZ => kept (k4 t Z (hbw.trans (hZ.mono hbw.size))) hZ) ?_
        refine wq_val (v := .bool false) (fun ρ e W hW => ex_neb (b := false) (b' := false) (e _ _ rfl) (e _ _ rfl)) rfl rfl ?_
        refine wq_val (v := .bool false) (fun ρ e W hW => ex_move (e _ _ rfl)) rfl rfl ?_
        refine wq_val (v := .bool false) (fun ρ e W hW => ex_move (e _ _ rfl)) rfl rfl ?_
        refine wq_val (v := .bool false) (fun ρ e W hW => ex_move (e _ _ rfl)) rfl rfl ?_
        refine wq_skip rfl rfl ?_
        refine wq_skip rfl rfl ?_
        refine wq_skip rfl rfl ?_
        refine wq_skip rfl rfl ?_
        refine wq_skip rfl rfl ?_
        refine wq_skip rfl rfl ?_
        refine wq_skip rfl rfl ?_
        refine wq_skip rfl rfl ?_
        refine wq_skip rfl rfl ?_
        refine wq_skip rfl rfl ?_
        refine wq_val (v := .bool false) (fun ρ e W hW => ex_pick0 (e _ _ rfl) (e _ _ rfl)) rfl rfl ?_
        refine wq_val (v := .bool false) (fun ρ e W hW => ex_pick0 (e _ _ rfl) (e _ _ rfl)) rfl rfl ?_
        refine wq_nil (fun w35 hbq => ?_)
        replace hL := hL.below (hbq.mono hBLe)
        replace hBLe := Nat.le_trans hBLe hbq.size
        replace hkt := hkt.keep hbq
        replace hkc := hkc.keep hbq
        replace hbw := hbw.trans (hbq.mono hbw.size)
        replace hown := hown.below hbq
        replace hb3 := hb3.trans (hbq.mono hb3.size)
        replace hkx := hkx.keep hbq
        refine xw_next K34 ?_
        refine cw_false rfl ?_
        refine cw_skip ?_
        refine xw_next K33 ?_
        refine cw_seq (fun FK36 K36 => ?_)
        refine cw_region ?_
        refine wl_val (v := .bool false) (fun ρ e => ex_move (e _ _ rfl)) rfl rfl ?_
        refine wl_nil ?_
        refine xw_next K36 ?_
        refine cw_false rfl ?_
        refine cw_skip ?_
        refine xw_block ?_
        refine xw_next K31 ?_
        refine cw_region ?_
        refine wl_val (v := .int .i64 (i : Int)) (fun ρ e => ex_move (e _ _ rfl)) rfl rfl ?_
        refine wl_val (v := .int .i64 ((i + 1 : Nat) : Int)) (fun ρ e => ex_inc (k := i) (e _ _ rfl) (e _ _ rfl) (by omega)) rfl rfl ?_
        refine wl_val (v := .int .i64 ((i + 1 : Nat) : Int)) (fun ρ e => ex_assign (e _ _ rfl)) rfl rfl ?_
        refine wl_nil ?_
        refine xw_round hK28 (i + 1, Ao, no, co) (by show S.length - (i + 1) < S.length - i; omega) ⟨by show i + 1 ≤ S.length; omega, by show no = _; rw [hwt]; exact hno, by show OwnSets _ _ _ (wantTo S x (i + 1)); rw [hwt]; exact hown, hb3⟩ ⟨rfl, rfl, rfl, rfl, rfl, trivial⟩
      · rw [if_pos rfl] at hwt
        have hcut := hcut0 rfl
        have k9' : ∀ W, Calls Try.prog 21 #[(.agg #[.int .u64 ((xb).a.toNat : Int), .int .u64 ((xb).b.toNat : Int)]), (.agg #[.int .u64 ((al).a.toNat : Int), .int .u64 ((al).b.toNat : Int)])] W fun e w' => e = .returned (.agg #[.int .u64 ((t).a.toNat : Int), .int .u64 ((t).b.toNat : Int)]) ∧ Below W.heap.size W w' := fun W => hcut ▸ k9 xb al W
        have heq : ∀ W, (Op.equalIn 10000 38 (.agg #[.int .u64 ((t).a.toNat : Int), .int .u64 ((t).b.toNat : Int)]) (.agg #[.int .u64 ((t).a.toNat : Int), .int .u64 ((t).b.toNat : Int)])).run Try.prog W = .ok true W := fun W => by rw [sets_eq]; simp
        refine cw_quiet (fun Z => Below wq.heap.size wq Z) (by kernel_rfl) (by kernel_rfl) ((Below.refl _ _).drew) ?_
        refine wq_val (v := .bool true) (fun ρ e W hW => ex_move (e _ _ rfl)) rfl rfl ?_
        refine wq_val (v := .agg #[.int .i64 N, .slice A gs.length c]) (fun ρ e W hW => ex_circ (g := g2) (o := 0) (e _ _ rfl) (hkc.later 0 _ rfl _ hW) (hkc.later 1 _ rfl _ hW)) rfl rfl ?_
        refine wq_val (v := .slice (some ⟨b, o, none⟩) S.length c5) (fun ρ e W hW => ex_move (e _ _ rfl)) rfl rfl ?_
        refine wq_val (v := .int .i64 (i : Int)) (fun ρ e W hW => ex_move (e _ _ rfl)) rfl rfl ?_
        refine wq_val (v := .pointer (some ⟨b, o + i * 2, none⟩)) (fun ρ e W hW => ex_sidx (g := b) (o := o) (n := S.length) (c := c5) (i := i) (e _ _ rfl) (e _ _ rfl) (by omega)) rfl rfl ?_
        refine wq_val (v := .agg #[.int .u64 (t.a.toNat : Int), .int .u64 (t.b.toNat : Int)]) (fun ρ e W hW => ex_set (g := b) (o := (o + i * 2)) (e _ _ rfl) (ks0 _ (hb3.trans (hW.mono hb3.size))) (ks1 _ (hb3.trans (hW.mono hb3.size)))) rfl rfl ?_
        refine wq_call (args := [.agg #[.int .i64 N, .slice A gs.length c], .agg #[.int .u64 (t.a.toNat : Int), .int .u64 (t.b.toNat : Int)]]) (v := .bool true) in_07Eval rfl rfl rfl (fun Z hZ => kept (k4 t Z (hbw.trans (hZ.mono hbw.size))) hZ) ?_
        refine wq_val (v := .bool false) (fun ρ e W hW => ex_neb (b := true) (b' := true) (e _ _ rfl) (e _ _ rfl)) rfl rfl ?_
        refine wq_val (v := .bool false) (fun ρ e W hW => ex_move (e _ _ rfl)) rfl rfl ?_
        refine wq_val (v := .bool true) (fun ρ e W hW => ex_move (e _ _ rfl)) rfl rfl ?_
        refine wq_val (v := .bool true) (fun ρ e W hW => ex_move (e _ _ rfl)) rfl rfl ?_
        refine wq_val (v := .agg #[.int .u64 (xb.a.toNat : Int), .int .u64 (xb.b.toNat : Int)]) (fun ρ e W hW => ex_set (g := g) (o := 0) (e _ _ rfl) (hkx.later 0 _ rfl _ hW) (hkx.later 1 _ rfl _ hW)) rfl rfl ?_
        refine wq_val (v := .pointer (some ⟨g2, 0, none⟩)) (fun ρ e W hW => ex_circN (g := g2) (o := 0) (e _ _ rfl)) rfl rfl ?_
        refine wq_val (v := .int .i64 N) (fun ρ e W hW => ex_int (p := ⟨g2, 0, none⟩) (e _ _ rfl) (hkc.later 0 _ rfl _ hW)) rfl rfl ?_
        refine wq_call (args := [.int .i64 N]) (v := .agg #[.int .u64 (al.a.toNat : Int), .int .u64 (al.b.toNat : Int)]) in_All rfl rfl rfl (fun Z hZ => kept (k8 Z) hZ) ?_
        refine wq_call (args := [.agg #[.int .u64 (xb.a.toNat : Int), .int .u64 (xb.b.toNat : Int)], .agg #[.int .u64 (al.a.toNat : Int), .int .u64 (al.b.toNat : Int)]]) (v := .agg #[.int .u64 (t.a.toNat : Int), .int .u64 (t.b.toNat : Int)]) in_Cut rfl rfl rfl (fun Z hZ => kept (k9' Z) hZ) ?_
        refine wq_val (v := .slice (some ⟨b, o, none⟩) S.length c5) (fun ρ e W hW => ex_move (e _ _ rfl)) rfl rfl ?_
        refine wq_val (v := .int .i64 (i : Int)) (fun ρ e W hW => ex_move (e _ _ rfl)) rfl rfl ?_
        refine wq_val (v := .pointer (some ⟨b, o + i * 2, none⟩)) (fun ρ e W hW => ex_sidx (g := b) (o := o) (n := S.length) (c := c5) (i := i) (e _ _ rfl) (e _ _ rfl) (by omega)) rfl rfl ?_
        refine wq_val (v := .agg #[.int .u64 (t.a.toNat : Int), .int .u64 (t.b.toNat : Int)]) (fun ρ e W hW => ex_set (g := b) (o := (o + i * 2)) (e _ _ rfl) (ks0 _ (hb3.trans (hW.mono hb3.size))) (ks1 _ (hb3.trans (hW.mono hb3.size)))) rfl rfl ?_
        refine wq_val (v := .bool false) (fun ρ e W hW => ex_nesame (p := (t.a.toNat : Int)) (q := (t.b.toNat : Int)) (e _ _ rfl) (e _ _ rfl) heq) rfl rfl ?_
        refine wq_val (v := .bool false) (fun ρ e W hW => ex_pick1 (e _ _ rfl) (e _ _ rfl)) rfl rfl ?_
        refine wq_val (v := .bool false) (fun ρ e W hW => ex_pick0 (e _ _ rfl) (e _ _ rfl)) rfl rfl ?_
        refine wq_nil (fun w37 hbq => ?_)
        replace hL := hL.below (hbq.mono hBLe)
        replace hBLe := Nat.le_trans hBLe hbq.size
        replace hkt := hkt.keep hbq
        replace hkc := hkc.keep hbq
        replace hbw := hbw.trans (hbq.mono hbw.size)
        replace hown := hown.below hbq
        replace hb3 := hb3.trans (hbq.mono hb3.size)
        replace hkx := hkx.keep hbq
        refine xw_next K34 ?_
        refine cw_false rfl ?_
        refine cw_skip ?_
        refine xw_next K33 ?_
        refine cw_seq (fun FK38 K38 => ?_)
        refine cw_region ?_
        refine wl_val (v := .bool true) (fun ρ e => ex_move (e _ _ rfl)) rfl rfl ?_
        refine wl_nil ?_
        refine xw_next K38 ?_
        refine cw_true rfl ?_
        refine cw_region ?_
        refine wl_val (v := .slice Ao no co) (fun ρ e => ex_move (e _ _ rfl)) rfl rfl ?_
        refine wl_val (v := .agg #[.int .u64 (xb.a.toNat : Int), .int .u64 (xb.b.toNat : Int)]) (fun ρ e => ex_set (g := g) (o := 0) (e _ _ rfl) (hkx.cell 0) (hkx.cell 1)) rfl rfl ?_
        refine wl_newslice (fun ρ e => ex_buildSet1 (e _ _ rfl)) rfl rfl (fun g39 w40 jb hkn jg js => ?_)
        replace hL := hL.below (jb.mono hBLe)
        replace hBLe := Nat.le_trans hBLe jb.size
        replace hkt := hkt.keep jb
        replace hkc := hkc.keep jb
        replace hbw := hbw.trans (jb.mono hbw.size)
        replace hown := hown.below jb
        replace hb3 := hb3.trans (jb.mono hb3.size)
        replace hkx := hkx.keep jb
        refine wl_append_set (base := w24.heap.size) (l := m) (yv := xb) rfl rfl rfl rfl hown hkn (by omega) (by have := hb3.size; omega) (fun A41 c42 w43 hown2 hgrow => ?_)
        have hge6 := fun (q : Nat) hq => (own_ge (g := q) hown hq).1
        have hb6 := hb3.trans (below_of_grown hgrow hb3.size hge6)
        replace hown := hown2
        refine wl_val (v := .slice A41 (m.length + 1) c42) (fun ρ e => ex_assign (e _ _ rfl)) rfl rfl ?_
        refine wl_nil ?_
        refine xw_block ?_
        refine xw_next K31 ?_
        refine cw_region ?_
        refine wl_val (v := .int .i64 (i : Int)) (fun ρ e => ex_move (e _ _ rfl)) rfl rfl ?_
        refine wl_val (v := .int .i64 ((i + 1 : Nat) : Int)) (fun ρ e => ex_inc (k := i) (e _ _ rfl) (e _ _ rfl) (by omega)) rfl rfl ?_
        refine wl_val (v := .int .i64 ((i + 1 : Nat) : Int)) (fun ρ e => ex_assign (e _ _ rfl)) rfl rfl ?_
        refine wl_nil ?_
        refine xw_round hK28 (i + 1, A41, m.length + 1, c42) (by show S.length - (i + 1) < S.length - i; omega) ⟨by show i + 1 ≤ S.length; omega, by show m.length + 1 = _; rw [hwt]; simp, by show OwnSets _ _ _ (wantTo S x (i + 1)); rw [hwt]; exact hown, hb6⟩ ⟨rfl, rfl, rfl, rfl, rfl, trivial⟩
    refine cw_fork (fun Z => Below Wr.heap.size Wr Z) 12 [(0, 0), (1, 1), (2, 1), (3, 1), (4, 0)] 5 9 [(6, 1), (7, 1), (8, 1), (9, 2), (10, 2), (11, 2)] [(5, 2), (6, 1), (7, 1), (8, 1), (10, 2), (11, 2)] (by kernel_rfl) (by kernel_rfl) (PQ.then_ (PQ.block (PQ.then_ (PQ.then_ (PQ.block (PQ.then_ PQ.body)))))) ((Below.refl _ _).drew) ?_
    have hbz : Below Wr.heap.size Wr Wr.drew := (Below.refl _ _).drew
    refine wt0 (v := .agg #[.int .i64 N, .slice A gs.length c]) rfl (fun ρ e W hW => ex_circ (g := g2) (o := 0) (e _ _ rfl) (hkc.later 0 _ rfl _ hW) (hkc.later 1 _ rfl _ hW)) rfl rfl ?_
    refine wt1 (v := .slice (some ⟨b, o, none⟩) S.length c5) rfl (fun ρ e W => ex_move (e _ _ rfl)) rfl rfl ?_
    refine wt1 (v := .int .i64 (i : Int)) rfl (fun ρ e W => ex_move (e _ _ rfl)) rfl rfl ?_
    refine wt1 (v := .pointer (some ⟨b, o + i * 2, none⟩)) rfl (fun ρ e W => ex_sidx (g := b) (o := o) (n := S.length) (c := c5) (i := i) (e _ _ rfl) (e _ _ rfl) (by omega)) rfl rfl ?_
    refine wt0 (v := .agg #[.int .u64 (t.a.toNat : Int), .int .u64 (t.b.toNat : Int)]) rfl (fun ρ e W hW => ex_set (g := b) (o := (o + i * 2)) (e _ _ rfl) (ks0 _ (hb3.trans (hW.mono hb3.size))) (ks1 _ (hb3.trans (hW.mono hb3.size)))) rfl rfl ?_
    refine wt_nil (xw_fork ?_ ?_)
    · skip
      refine wt2_call (args := [.agg #[.int .i64 N, .slice A gs.length c], .agg #[.int .u64 (t.a.toNat : Int), .int .u64 (t.b.toNat : Int)]]) rfl in_Extend rfl rfl rfl ?_
      refine (k3 t _ (hbw.trans (hbz.mono hbw.size))).mono ?_
      rintro _ w44 ⟨rfl, hb⟩
      replace hbz := hbz.trans (hb.mono hbz.size)
      refine ⟨_, rfl, hbz, ?_⟩
      refine wt1 (v := .tuple #[.agg #[.int .u64 (xb.a.toNat : Int), .int .u64 (xb.b.toNat : Int)], .bool y]) rfl (fun ρ e W => ex_move (e _ _ rfl)) rfl rfl ?_
      refine wt1 (v := .agg #[.int .u64 (xb.a.toNat : Int), .int .u64 (xb.b.toNat : Int)]) rfl (fun ρ e W => ex_extract (vs := #[.agg #[.int .u64 (xb.a.toNat : Int), .int .u64 (xb.b.toNat : Int)], .bool y]) (e _ _ rfl) rfl) rfl rfl ?_
      refine wt1 (v := .bool y) rfl (fun ρ e W => ex_extract (vs := #[.agg #[.int .u64 (xb.a.toNat : Int), .int .u64 (xb.b.toNat : Int)], .bool y]) (e _ _ rfl) rfl) rfl rfl ?_
      refine wt2_new rfl (fun ρ e => ex_allocSet) rfl rfl (fun g45 w46 jb hk9 jg js => ?_)
      have hle9 : Wr.heap.size ≤ g45 := by have := hbz.size; omega
      replace hbz := hbz.trans (jb.mono hbz.size)
      refine ⟨hbz, ?_⟩
      refine wt2_store2 rfl (fun ρ e => ex_storeSet (g := g45) (e _ _ rfl) (e _ _ rfl) hk9) rfl hk9 (fun w47 hsz9 hst9 hk9 => ?_)
      replace hbz := hbz.trans (hst9 _ hle9)
      refine ⟨hbz, ?_⟩
      refine wt2 (v := .bool y) rfl (fun ρ e => ex_assign (e _ _ rfl)) rfl rfl hbz ?_
      refine wt_nil ?_
      exact xw_rest (hrest _ _ hbz hk9) ⟨rfl, rfl, rfl, rfl, rfl, rfl, rfl, trivial⟩
    · skip
      refine wt2_new rfl (fun ρ e => ex_allocSet) rfl rfl (fun g48 w49 jb hk9 jg js => ?_)
      have hle9 : Wr.heap.size ≤ g48 := by have := hbz.size; omega
      replace hbz := hbz.trans (jb.mono hbz.size)
      refine ⟨hbz, ?_⟩
      have hk9' := hk9
      refine wt2_call (args := [.agg #[.int .i64 N, .slice A gs.length c], .agg #[.int .u64 (t.a.toNat : Int), .int .u64 (t.b.toNat : Int)]]) rfl in_Extend rfl rfl rfl ?_
      refine (k3 t _ (hbw.trans (hbz.mono hbw.size))).mono ?_
      rintro _ w50 ⟨rfl, hb⟩
      replace hbz := hbz.trans (hb.mono hbz.size)
      refine ⟨_, rfl, hbz, ?_⟩
      replace hk9 := hk9'.keep hb
      refine wt1 (v := .tuple #[.agg #[.int .u64 (xb.a.toNat : Int), .int .u64 (xb.b.toNat : Int)], .bool y]) rfl (fun ρ e W => ex_move (e _ _ rfl)) rfl rfl ?_
      refine wt1 (v := .agg #[.int .u64 (xb.a.toNat : Int), .int .u64 (xb.b.toNat : Int)]) rfl (fun ρ e W => ex_extract (vs := #[.agg #[.int .u64 (xb.a.toNat : Int), .int .u64 (xb.b.toNat : Int)], .bool y]) (e _ _ rfl) rfl) rfl rfl ?_
      refine wt1 (v := .bool y) rfl (fun ρ e W => ex_extract (vs := #[.agg #[.int .u64 (xb.a.toNat : Int), .int .u64 (xb.b.toNat : Int)], .bool y]) (e _ _ rfl) rfl) rfl rfl ?_
      refine wt2_store2 rfl (fun ρ e => ex_storeSet (g := g48) (e _ _ rfl) (e _ _ rfl) hk9) rfl hk9 (fun w51 hsz9 hst9 hk9 => ?_)
      replace hbz := hbz.trans (hst9 _ hle9)
      refine ⟨hbz, ?_⟩
      refine wt2 (v := .bool y) rfl (fun ρ e => ex_assign (e _ _ rfl)) rfl rfl hbz ?_
      refine wt_nil ?_
      exact xw_rest (hrest _ _ hbz hk9) ⟨rfl, rfl, rfl, rfl, rfl, rfl, rfl, trivial⟩
  · have hiS : i = S.length := by omega
    subst hiS
    have hmem : ∀ s ∈ wantTo S x S.length, f s = true := fun s hs => by
      obtain ⟨a, _, h2, rfl⟩ := wantTo_mem hs
      exact f3 a h2
    generalize wantTo S x S.length = m at hown hmem hlen hwl hno
    have hov := hown.V
    obtain ⟨BO, hBO⟩ : ∃ B, B = Wr.heap.size := ⟨_, rfl⟩
    rw [← hBO] at hov
    have hBOe : BO ≤ Wr.heap.size := Nat.le_of_eq hBO
    clear hown
    refine cw_seq (fun FK52 K52 => ?_)
    refine cw_seq (fun FK53 K53 => ?_)
    refine cw_region ?_
    refine wl_val (v := .int .i64 (S.length : Int)) (fun ρ e => ex_move (e _ _ rfl)) rfl rfl ?_
    refine wl_val (v := .slice A5 S.length c5) (fun ρ e => ex_move (e _ _ rfl)) rfl rfl ?_
    refine wl_val (v := .int .i64 ((S.length : Nat) : Int)) (fun ρ e => ex_lenS (e _ _ rfl)) rfl rfl ?_
    refine wl_val (v := .bool false) (fun ρ e => ex_lss0 (u := (S.length : Int)) (v := ((S.length : Nat) : Int)) (e _ _ rfl) (e _ _ rfl) (by omega)) rfl rfl ?_
    refine wl_nil ?_
    refine xw_next K53 ?_
    refine cw_false rfl ?_
    refine cw_exit ?_
    refine xw_past (by intro h; cases h) ?_
    refine xw_past (by intro h; cases h) ?_
    refine xw_here ?_
    refine xw_next K25 ?_
    refine cw_seq (fun FK54 K54 => ?_)
    refine cw_region ?_
    refine wl_val (v := .agg #[.int .i64 (n : Int), .slice A2 L.length c2]) (fun ρ e => ex_theory (g := g13) (o := 0) (e _ _ rfl) (hkt.cell 0) (hkt.cell 1)) rfl rfl ?_
    refine wl_call (args := [.agg #[.int .i64 (n : Int), .slice A2 L.length c2]]) in_Models rfl rfl rfl ?_
    refine (k6 _ _ (hL.more hBLe)).mono ?_
    rintro _ w55 ⟨⟨v8, rfl, hM⟩, hb⟩
    obtain ⟨A8, c8, rfl, _, _, _⟩ := id hM
    clear hM
    replace hL := hL.below (hb.mono hBLe)
    replace hBLe := Nat.le_trans hBLe hb.size
    replace hkt := hkt.keep hb
    replace hkc := hkc.keep hb
    replace hbw := hbw.trans (hb.mono hbw.size)
    replace hb3 := hb3.trans (hb.mono hb3.size)
    replace hov := hov.below (hb.mono hBOe)
    replace hBOe := Nat.le_trans hBOe hb.size
    refine ⟨_, rfl, ?_⟩
    refine wl_val (v := .slice A8 M.length c8) (fun ρ e => ex_assign (e _ _ rfl)) rfl rfl ?_
    refine wl_nil ?_
    refine xw_next K54 ?_
    refine cw_seq (fun FK56 K56 => ?_)
    refine cw_seq (fun FK57 K57 => ?_)
    refine cw_region ?_
    refine wl_val (v := .slice A8 M.length c8) (fun ρ e => ex_move (e _ _ rfl)) rfl rfl ?_
    refine wl_val (v := .int .i64 ((M.length : Nat) : Int)) (fun ρ e => ex_lenS (e _ _ rfl)) rfl rfl ?_
    refine wl_val (v := .slice Ao no co) (fun ρ e => ex_move (e _ _ rfl)) rfl rfl ?_
    refine wl_val (v := .int .i64 (no : Int)) (fun ρ e => ex_lenS (e _ _ rfl)) rfl rfl ?_
    refine wl_val (v := .bool false) (fun ρ e => ex_neq0 (u := ((M.length : Nat) : Int)) (v := (no : Int)) (e _ _ rfl) (e _ _ rfl) (by omega)) rfl rfl ?_
    refine wl_nil ?_
    refine xw_next K57 ?_
    refine cw_false rfl ?_
    refine cw_skip ?_
    refine xw_next K56 ?_
    refine cw_seq (fun FK58 K58 => ?_)
    refine cw_seq (fun FK59 K59 => ?_)
    refine cw_region ?_
    refine wl_val (v := .int .i64 0) (fun ρ e => ex_assign (e _ _ rfl)) rfl rfl ?_
    refine wl_nil ?_
    refine xw_next K59 ?_
    refine cw_block ?_
    refine cw_loop (ι := Nat) (fun j => [(3, .pointer (some ⟨g13, 0, none⟩)), (6, .slice Ao no co), (12, .int .i64 (j : Int))]) (fun j W => j ≤ m.length ∧ Below w55.heap.size w55 W) (fun j => m.length - j) 0 ⟨Nat.zero_le _, Below.refl _ _⟩ ⟨rfl, rfl, rfl, trivial⟩ (fun j Wj hJ K60 hK61 => ?_)
    obtain ⟨hj, hb8⟩ := hJ
    replace hL := hL.below (hb8.mono hBLe)
    replace hBLe := Nat.le_trans hBLe hb8.size
    replace hkt := hkt.keep hb8
    replace hkc := hkc.keep hb8
    replace hbw := hbw.trans (hb8.mono hbw.size)
    replace hb3 := hb3.trans (hb8.mono hb3.size)
    replace hov := hov.below (hb8.mono hBOe)
    replace hBOe := Nat.le_trans hBOe hb8.size
    by_cases hjl : j < m.length
    · obtain ⟨b, o, rfl, hbB, hs0, hs1⟩ := hov.at_ (Below.refl _ _) hjl
      have hfs := hmem m[j] (List.getElem_mem hjl)
      have ks0 := hs0
      have ks1 := hs1
      generalize m[j] = sx at hfs ks0 ks1 hs0 hs1
      clear hs0 hs1
      have hbo : b < Wj.heap.size := by have := hbw.size; omega
      refine cw_seq (fun FK62 K62 => ?_)
      refine cw_seq (fun FK63 K63 => ?_)
      refine cw_region ?_
      refine wl_val (v := .int .i64 (j : Int)) (fun ρ e => ex_move (e _ _ rfl)) rfl rfl ?_
      refine wl_val (v := .slice (some ⟨b, o, none⟩) no co) (fun ρ e => ex_move (e _ _ rfl)) rfl rfl ?_
      refine wl_val (v := .int .i64 (no : Int)) (fun ρ e => ex_lenS (e _ _ rfl)) rfl rfl ?_
      refine wl_val (v := .bool true) (fun ρ e => ex_lss1 (u := (j : Int)) (v := (no : Int)) (e _ _ rfl) (e _ _ rfl) (by omega)) rfl rfl ?_
      refine wl_nil ?_
      refine xw_next K63 ?_
      refine cw_true rfl ?_
      refine cw_skip ?_
      refine xw_next K62 ?_
      refine cw_seq (fun FK64 K64 => ?_)
      refine cw_block ?_
      refine cw_seq (fun FK65 K65 => ?_)
      refine cw_quiet (fun Z => Below Wj.heap.size Wj Z) (by kernel_rfl) (by kernel_rfl) ((Below.refl _ _).drew) ?_
      refine wq_val (v := .agg #[.int .i64 (n : Int), .slice A2 L.length c2]) (fun ρ e W hW => ex_theory (g := g13) (o := 0) (e _ _ rfl) (hkt.later 0 _ rfl _ hW) (hkt.later 1 _ rfl _ hW)) rfl rfl ?_
      refine wq_val (v := .slice (some ⟨b, o, none⟩) no co) (fun ρ e W hW => ex_move (e _ _ rfl)) rfl rfl ?_
      refine wq_val (v := .int .i64 (j : Int)) (fun ρ e W hW => ex_move (e _ _ rfl)) rfl rfl ?_
      refine wq_val (v := .pointer (some ⟨b, o + j * 2, none⟩)) (fun ρ e W hW => ex_sidx (g := b) (o := o) (n := no) (c := co) (i := j) (e _ _ rfl) (e _ _ rfl) (by omega)) rfl rfl ?_
      refine wq_val (v := .agg #[.int .u64 (sx.a.toNat : Int), .int .u64 (sx.b.toNat : Int)]) (fun ρ e W hW => ex_set (g := b) (o := (o + j * 2)) (e _ _ rfl) ((hW.cell (p := ⟨b, o + j * 2, none⟩) hbo).trans ks0) ((hW.cell (p := ⟨b, o + j * 2 + 1, none⟩) hbo).trans ks1)) rfl rfl ?_
      refine wq_call (args := [.agg #[.int .i64 (n : Int), .slice A2 L.length c2], .agg #[.int .u64 (sx.a.toNat : Int), .int .u64 (sx.b.toNat : Int)]]) (v := .bool true) in_05Eval rfl rfl rfl (fun Z hZ => kept (hfs ▸ k7 sx Z _ BL (Nat.le_trans hBLe hZ.size) (hL.below (hZ.mono hBLe))) hZ) ?_
      refine wq_val (v := .bool false) (fun ρ e W hW => ex_not (b := true) (e _ _ rfl)) rfl rfl ?_
      refine wq_nil (fun w66 hbq => ?_)
      replace hL := hL.below (hbq.mono hBLe)
      replace hBLe := Nat.le_trans hBLe hbq.size
      replace hkt := hkt.keep hbq
      replace hkc := hkc.keep hbq
      replace hbw := hbw.trans (hbq.mono hbw.size)
      replace hb3 := hb3.trans (hbq.mono hb3.size)
      replace hov := hov.below (hbq.mono hBOe)
      replace hBOe := Nat.le_trans hBOe hbq.size
      replace hb8 := hb8.trans (hbq.mono hb8.size)
      refine xw_next K65 ?_
      refine cw_false rfl ?_
      refine cw_skip ?_
      refine xw_block ?_
      refine xw_next K64 ?_
      refine cw_region ?_
      refine wl_val (v := .int .i64 (j : Int)) (fun ρ e => ex_move (e _ _ rfl)) rfl rfl ?_
      refine wl_val (v := .int .i64 ((j + 1 : Nat) : Int)) (fun ρ e => ex_inc (k := j) (e _ _ rfl) (e _ _ rfl) (by omega)) rfl rfl ?_
      refine wl_val (v := .int .i64 ((j + 1 : Nat) : Int)) (fun ρ e => ex_assign (e _ _ rfl)) rfl rfl ?_
      refine wl_nil ?_
      refine xw_round hK61 (j + 1) (by show m.length - (j + 1) < m.length - j; omega) ⟨by omega, hb8⟩ ⟨rfl, rfl, rfl, trivial⟩
    · skip
      refine cw_seq (fun FK67 K67 => ?_)
      refine cw_seq (fun FK68 K68 => ?_)
      refine cw_region ?_
      refine wl_val (v := .int .i64 (j : Int)) (fun ρ e => ex_move (e _ _ rfl)) rfl rfl ?_
      refine wl_val (v := .slice Ao no co) (fun ρ e => ex_move (e _ _ rfl)) rfl rfl ?_
      refine wl_val (v := .int .i64 (no : Int)) (fun ρ e => ex_lenS (e _ _ rfl)) rfl rfl ?_
      refine wl_val (v := .bool false) (fun ρ e => ex_lss0 (u := (j : Int)) (v := (no : Int)) (e _ _ rfl) (e _ _ rfl) (by omega)) rfl rfl ?_
      refine wl_nil ?_
      refine xw_next K68 ?_
      refine cw_false rfl ?_
      refine cw_exit ?_
      refine xw_past (by intro h; cases h) ?_
      refine xw_past (by intro h; cases h) ?_
      refine xw_here ?_
      refine xw_next K58 ?_
      refine cw_seq (fun FK69 K69 => ?_)
      refine cw_region ?_
      refine wl_call (args := []) in_works rfl rfl rfl ?_
      refine (hworks _).mono ?_
      rintro _ w70 ⟨rfl, hb⟩
      replace hL := hL.below (hb.mono hBLe)
      replace hBLe := Nat.le_trans hBLe hb.size
      replace hkt := hkt.keep hb
      replace hkc := hkc.keep hb
      replace hbw := hbw.trans (hb.mono hbw.size)
      replace hb3 := hb3.trans (hb.mono hb3.size)
      replace hov := hov.below (hb.mono hBOe)
      replace hBOe := Nat.le_trans hBOe hb.size
      replace hb8 := hb8.trans (hb.mono hb8.size)
      refine ⟨_, rfl, ?_⟩
      refine wl_val (v := .bool true) (fun ρ e => ex_assign (e _ _ rfl)) rfl rfl ?_
      refine wl_nil ?_
      refine xw_next K69 ?_
      refine cw_ret ?_
      exact xw_ret (fun T hT => res1 rfl T _ (hT 2 _ rfl)) ⟨rfl, hbw⟩
end Go.Proofs.Ytlifakbdgmdafaa
