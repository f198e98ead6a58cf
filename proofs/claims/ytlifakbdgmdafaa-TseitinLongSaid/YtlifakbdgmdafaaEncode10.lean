/-
  censusref10's encode. Single operations for Encode, Extend and the laws on them. censusref10's Encode and Extend.
-/
import Derived.Test.YtlifakbdgmdafaaExE
import Derived.Test.YtlifakbdgmdafaaWRef05
import Derived.Test.YtlifakbdgmdafaaExL
import Derived.Test.YtlifakbdgmdafaaWRef07d
import Derived.Test.YtlifakbdgmdafaaLits
namespace Go.Proofs.Ytlifakbdgmdafaa
open Go Go.RowKit

theorem size_ge {g : Gate} {gs : List Gate} (h : g ∈ gs) : g.inp.length ≤ sizeOf gs := by
  unfold sizeOf sizeTo
  rw [List.take_length]
  induction gs with
  | nil => cases h
  | cons a r ih =>
    simp only [List.map_cons, List.sum_cons]
    rcases List.mem_cons.1 h with rfl | h
    · omega
    · have := ih h
      omega
set_option maxRecDepth 100000 in
set_option maxHeartbeats 3200000 in
theorem ref10_encode (N : Int) (V : Value) (gs : List Gate) (a : VS) (w : World) (B : Nat) (hB : B ≤ w.heap.size) (hg : GatesV w B V gs) (hc : checkOf N gs = 0) :
    Calls Try.prog 35 #[.agg #[.int .i64 N, V], (.agg #[.int .u64 ((a).a.toNat : Int), .int .u64 ((a).b.toNat : Int)])] w fun e w' => EncPost w.heap.size N gs a e w' ∧ Below w.heap.size w w' := by
  obtain ⟨A0, c0, rfl, hl0, hm0, _⟩ := id hg
  unfold maxLen at hm0
  have hcb := check_bounds hc
  have hgood : goodTo N gs gs.length = true := by
    unfold checkOf at hc
    rw [if_neg (by omega), if_neg (by omega), if_neg (by omega)] at hc
    by_cases h : goodTo N gs gs.length = true
    · exact h
    · rw [if_neg h] at hc; omega
  refine sx_enter (args := [.agg #[.int .i64 N, .slice A0 gs.length c0], .agg #[.int .u64 (a.a.toNat : Int), .int .u64 (a.b.toNat : Int)]]) Try.func35 rfl rfl (by simp) ?_
  refine cw_seq (fun FK1 K1 => ?_)
  refine cw_region ?_
  refine wl_new (fun ρ e => ex_boxCirc (e _ _ rfl)) rfl rfl (fun g2 w3 jb4 jk5 jg6 js7 => ?_)
  have hbw := jb4
  have hkc := jk5
  refine wl_new (fun ρ e => ex_boxSet (e _ _ rfl)) rfl rfl (fun g8 w9 jb10 jk11 jg12 js13 => ?_)
  replace hbw := hbw.trans (jb10.mono hbw.size)
  replace hkc := hkc.keep jb10
  have hks := jk11
  refine wl_new (fun ρ e => ex_allocState) rfl rfl (fun g14 w15 jb16 jk17 jg18 js19 => ?_)
  replace hbw := hbw.trans (jb16.mono hbw.size)
  replace hkc := hkc.keep jb16
  replace hks := hks.keep jb16
  have hk3 := jk17
  refine wl_val (v := .int .i64 0) (fun ρ e => ex_assign (e _ _ rfl)) rfl rfl ?_
  refine wl_nil ?_
  refine xw_next K1 ?_
  refine cw_seq (fun FK20 K20 => ?_)
  refine cw_region ?_
  refine wl_val (v := .pointer (some ⟨g2, 0, none⟩)) (fun ρ e => ex_circN (g := g2) (o := 0) (e _ _ rfl)) rfl rfl ?_
  refine wl_val (v := .int .i64 N) (fun ρ e => ex_int (p := ⟨g2, 0, none⟩) (e _ _ rfl) (hkc.cell 0)) rfl rfl ?_
  refine wl_val (v := .agg #[.int .i64 N, .slice none 0 0]) (fun ρ e => ex_buildTheory0 (e _ _ rfl)) rfl rfl ?_
  refine wl_val (v := .agg #[.int .u64 (a.a.toNat : Int), .int .u64 (a.b.toNat : Int)]) (fun ρ e => ex_set (g := g8) (o := 0) (e _ _ rfl) (hks.cell 0) (hks.cell 1)) rfl rfl ?_
  refine wl_val (v := .agg #[.int .i64 N, .slice none 0 0, .slice none 0 0, .int .u64 (a.a.toNat : Int), .int .u64 (a.b.toNat : Int), .slice none 0 0, .bool false]) (fun ρ e => ex_buildState02 (e _ _ rfl) (e _ _ rfl)) rfl rfl ?_
  refine wl_new (fun ρ e => ex_allocState) rfl rfl (fun g21 w22 jb23 jk24 jg25 js26 => ?_)
  replace hbw := hbw.trans (jb23.mono hbw.size)
  replace hkc := hkc.keep jb23
  replace hks := hks.keep jb23
  replace hk3 := hk3.keep jb23
  have hk4 := jk24
  have hne : g14 ≠ g21 := by have := hk3.lt; omega
  have hne2 : g2 ≠ g21 := by have := hkc.lt; omega
  have hne3 : g2 ≠ g14 := by omega
  have h4 : w.heap.size ≤ g21 := by have := hbw.size; omega
  have h3 : w.heap.size ≤ g14 := by omega
  refine wl_none (fun ρ e => ex_storeState (A := none) (c := 0) (s := ⟨N, [], a, false⟩) (AG := none) (nG := 0) (cG := 0) (e _ _ rfl) (e _ _ rfl) hk4) rfl ?_
  have ge := GT.init (N := N) (a := a) hbw hk4 hk3 hne h4
  replace hkc := put7_far (g := g21) (AG := none) (nG := 0) (cG := 0) (s := ⟨N, [], a, false⟩) (A := none) (c := 0) hkc hne2
  replace hbw := ge.1.2.2.2.2.below (Nat.le_refl _)
  clear hk3 hk4 hks
  refine wl_nil ?_
  refine xw_next K20 ?_
  refine cw_seq (fun FK27 K27 => ?_)
  refine cw_seq (fun FK28 K28 => ?_)
  refine cw_region ?_
  refine wl_val (v := .int .i64 0) (fun ρ e => ex_assign (e _ _ rfl)) rfl rfl ?_
  refine wl_nil ?_
  refine xw_next K28 ?_
  refine cw_block ?_
  refine cw_loop (ι := Nat × RS × List Int × Option Addr × Nat × Option Addr × Nat × Nat) (fun i => [(2, .pointer (some ⟨g2, 0, none⟩)), (4, .pointer (some ⟨g14, 0, none⟩)), (6, .pointer (some ⟨g21, 0, none⟩)), (7, .int .i64 (i.1 : Int))]) (fun i W => i.1 ≤ gs.length ∧ GT w.heap.size w g21 g14 i.2.2.2.2.2.1 i.2.2.2.2.2.2.1 i.2.2.2.2.2.2.2 i.2.1 i.2.2.2.1 i.2.2.2.2.1 i.2.2.1 W ∧ Blk W g2 24 #[.int .i64 N, .slice A0 gs.length c0] ∧ encR i.2.1 i.2.2.1 (gs.drop i.1) = encR ⟨N, [], a, false⟩ [] gs ∧ EncOk i.2.1 i.2.2.1 i.1 ∧ i.2.2.2.2.2.2.1 = i.1) (fun i => gs.length - i.1) (0, ⟨N, [], a, false⟩, [], none, 0, none, 0, 0) ⟨Nat.zero_le _, ge, hkc, rfl, ⟨rfl, hcb.1, hcb.2.1, by simp, rfl, by simp⟩, rfl⟩ ⟨rfl, rfl, rfl, rfl, trivial⟩ (fun q Wr hJ K29 hK30 => ?_)
  clear ge hkc hbw
  obtain ⟨k, cur, gate, A, c, AG, nG, cG⟩ := q
  obtain ⟨hk, ge, hkc, hX, hok, hnG⟩ := hJ
  dsimp only at hk ge hkc hX hok hnG
  have hbw := ge.1.2.2.2.2.below (Nat.le_refl _)
  have hgl := hok.len
  by_cases hlt : k < gs.length
  · obtain ⟨b, o, A', c', rfl, hbB, q0, q1, q2, hI, hle', hcm'⟩ := hg.at_ (Below.refl _ _) hlt
    have hgk : goodGate N k gs[k] = true := by have := (goodTo_iff N gs gs.length).1 hgood k hlt; unfold goodAt at this; rw [List.getElem?_eq_getElem hlt] at this; exact this
    have hsk := size_ge (List.getElem_mem hlt)
    rw [List.drop_eq_getElem_cons hlt] at hX
    generalize gs[k] = g at q0 q1 q2 hI hle' hcm' hgk hsk hX
    have kq0 : ∀ Z, Below w.heap.size w Z → Z.cell? ⟨b, o + k * 3, none⟩ = some (.int .i64 g.kind) := fun Z hZ => (hZ.cell (p := ⟨b, o + k * 3, none⟩) (Nat.lt_of_lt_of_le hbB hB)).trans q0
    have kq1 : ∀ Z, Below w.heap.size w Z → Z.cell? ⟨b, o + k * 3 + 1, none⟩ = some (.int .i64 g.lit) := fun Z hZ => (hZ.cell (p := ⟨b, o + k * 3 + 1, none⟩) (Nat.lt_of_lt_of_le hbB hB)).trans q1
    have kq2 : ∀ Z, Below w.heap.size w Z → Z.cell? ⟨b, o + k * 3 + 2, none⟩ = some (.slice A' g.inp.length c') := fun Z hZ => (hZ.cell (p := ⟨b, o + k * 3 + 2, none⟩) (Nat.lt_of_lt_of_le hbB hB)).trans q2
    clear q0 q1 q2
    obtain ⟨cur2, v, he⟩ : ∃ s' v, cur.gate g.kind g.lit (inputsOf gate g) = (s', v) := ⟨_, _, rfl⟩
    have hnext := hok.next hcb.1 hcb.2.1 hgk he
    have hinp := hok.inputs hgk
    have hkd : kindOk g.kind (inputsOf gate g).length := by unfold inputsOf; rw [List.length_map]; unfold goodGate at hgk; simp only [Bool.and_eq_true] at hgk; exact kindOk_of hgk.1.1
    have hll : (inputsOf gate g).length ≤ 80000 := by unfold inputsOf; rw [List.length_map]; omega
    have hv := hnext.1
    have hbr : ∀ Z, Below Wr.heap.size Wr Z → Below w.heap.size w Z := fun Z hZ => hbw.trans (hZ.mono hbw.size)
    refine cw_seq (fun FK31 K31 => ?_)
    refine cw_seq (fun FK32 K32 => ?_)
    refine cw_region ?_
    refine wl_val (v := .int .i64 (k : Int)) (fun ρ e => ex_move (e _ _ rfl)) rfl rfl ?_
    refine wl_val (v := .pointer (some ⟨g2, 1, none⟩)) (fun ρ e => ex_circF1 (g := g2) (o := 0) (e _ _ rfl)) rfl rfl ?_
    refine wl_val (v := .slice (some ⟨b, o, none⟩) gs.length c0) (fun ρ e => ex_gates (p := ⟨g2, 1, none⟩) (e _ _ rfl) (hkc.cell 1)) rfl rfl ?_
    refine wl_val (v := .int .i64 ((gs.length : Nat) : Int)) (fun ρ e => ex_lenG (e _ _ rfl)) rfl rfl ?_
    refine wl_val (v := .bool true) (fun ρ e => ex_lss1 (u := (k : Int)) (v := ((gs.length : Nat) : Int)) (e _ _ rfl) (e _ _ rfl) (by omega)) rfl rfl ?_
    refine wl_nil ?_
    refine xw_next K32 ?_
    refine cw_true rfl ?_
    refine cw_skip ?_
    refine xw_next K31 ?_
    refine cw_seq (fun FK33 K33 => ?_)
    refine cw_block ?_
    refine cw_seq (fun FK34 K34 => ?_)
    refine cw_region ?_
    refine wl_val (v := .slice none 0 0) (fun ρ e => ex_assign (e _ _ rfl)) rfl rfl ?_
    refine wl_nil ?_
    refine xw_next K34 ?_
    refine cw_seq (fun FK35 K35 => ?_)
    refine cw_seq (fun FK36 K36 => ?_)
    refine cw_region ?_
    refine wl_val (v := .int .i64 0) (fun ρ e => ex_assign (e _ _ rfl)) rfl rfl ?_
    refine wl_nil ?_
    refine xw_next K36 ?_
    refine cw_block ?_
    have hbi : Below Wr.heap.size Wr Wr := Below.refl _ _
    refine cw_loop (ι := Nat × Option Addr × Nat × Nat) (fun i => [(2, .pointer (some ⟨g2, 0, none⟩)), (4, .pointer (some ⟨g14, 0, none⟩)), (6, .pointer (some ⟨g21, 0, none⟩)), (7, .int .i64 (k : Int)), (8, .slice i.2.1 i.2.2.1 i.2.2.2), (9, .int .i64 (i.1 : Int))]) (fun i W => i.1 ≤ g.inp.length ∧ i.2.2.1 = i.1 ∧ Below Wr.heap.size Wr W ∧ OwnInts W Wr.heap.size (.slice i.2.1 i.2.2.1 i.2.2.2) ((g.inp.take i.1).map fun q => gate.getD q.toNat 0)) (fun i => g.inp.length - i.1) (0, none, 0, 0) ⟨Nat.zero_le _, rfl, hbi, OwnInts.nil _ _⟩ ⟨rfl, rfl, rfl, rfl, rfl, rfl, trivial⟩ (fun q Wi hJ K37 hK38 => ?_)
    clear hbi
    obtain ⟨j, Ai, ni, ci⟩ := q
    obtain ⟨hj, hni, hbi, hin⟩ := hJ
    dsimp only at hj hni hbi hin
    by_cases hjl : j < g.inp.length
    · obtain ⟨b2, o2, rfl, hb2, r0⟩ := hI.at_ (Below.refl _ _) hjl
      have hqr := good_in' hgk j g.inp[j] (List.getElem?_eq_getElem hjl)
      obtain ⟨q, hq⟩ : ∃ q : Nat, g.inp[j] = (q : Int) := ⟨g.inp[j].toNat, by omega⟩
      obtain ⟨y, hget⟩ : ∃ y, gate[q]? = some y := ⟨_, List.getElem?_eq_getElem (by omega)⟩
      have hnx : (g.inp.take (j + 1)).map (fun q => gate.getD q.toNat 0) = (g.inp.take j).map (fun q => gate.getD q.toNat 0) ++ [y] := by rw [List.take_succ_eq_append_getElem hjl, List.map_append, List.map_cons, List.map_nil, hq, Int.toNat_natCast, List.getD_eq_getElem?_getD, hget]; rfl
      rw [hq] at r0 hqr
      have kj : ∀ Z, Below w.heap.size w Z → Z.cell? ⟨b2, o2 + j, none⟩ = some (.int .i64 (q : Int)) := fun Z hZ => (hZ.cell (p := ⟨b2, o2 + j, none⟩) (Nat.lt_of_lt_of_le hb2 hB)).trans r0
      obtain ⟨gg, rfl, hgg⟩ := own_addr ge.2 (by omega)
      have ky : ∀ Z, Below Wr.heap.size Wr Z → Z.cell? ⟨gg, q, none⟩ = some (.int .i64 y) := fun Z hZ => (hZ.cell (p := ⟨gg, q, none⟩) hgg).trans (ints_cell ge.2 _ _ hget)
      refine cw_seq (fun FK39 K39 => ?_)
      refine cw_seq (fun FK40 K40 => ?_)
      refine cw_region ?_
      refine wl_val (v := .int .i64 (j : Int)) (fun ρ e => ex_move (e _ _ rfl)) rfl rfl ?_
      refine wl_val (v := .pointer (some ⟨g2, 1, none⟩)) (fun ρ e => ex_circF1 (g := g2) (o := 0) (e _ _ rfl)) rfl rfl ?_
      refine wl_val (v := .slice (some ⟨b, o, none⟩) gs.length c0) (fun ρ e => ex_gates (p := ⟨g2, 1, none⟩) (e _ _ rfl) ((hkc.keep hbi).cell 1)) rfl rfl ?_
      refine wl_val (v := .int .i64 (k : Int)) (fun ρ e => ex_move (e _ _ rfl)) rfl rfl ?_
      refine wl_val (v := .pointer (some ⟨b, o + k * 3, none⟩)) (fun ρ e => ex_gidx (g := b) (o := o) (n := gs.length) (c := c0) (i := k) (e _ _ rfl) (e _ _ rfl) (by omega)) rfl rfl ?_
      refine wl_val (v := .pointer (some ⟨b, o + k * 3 + 2, none⟩)) (fun ρ e => ex_gateF2 (g := b) (o := (o + k * 3)) (e _ _ rfl)) rfl rfl ?_
      refine wl_val (v := .slice (some ⟨b2, o2, none⟩) g.inp.length c') (fun ρ e => ex_ints (p := ⟨b, o + k * 3 + 2, none⟩) (e _ _ rfl) (kq2 _ (hbr _ hbi))) rfl rfl ?_
      refine wl_val (v := .int .i64 ((g.inp.length : Nat) : Int)) (fun ρ e => ex_lenI (e _ _ rfl)) rfl rfl ?_
      refine wl_val (v := .bool true) (fun ρ e => ex_lss1 (u := (j : Int)) (v := ((g.inp.length : Nat) : Int)) (e _ _ rfl) (e _ _ rfl) (by omega)) rfl rfl ?_
      refine wl_nil ?_
      refine xw_next K40 ?_
      refine cw_true rfl ?_
      refine cw_skip ?_
      refine xw_next K39 ?_
      refine cw_seq (fun FK41 K41 => ?_)
      refine cw_block ?_
      refine cw_drawn (fun Z => Below Wr.heap.size Wr Z) 16 [(0, 1), (1, 1), (2, 0), (3, 1), (4, 0), (5, 1), (6, 1), (7, 1), (8, 0), (9, 1), (10, 1), (11, 0), (12, 1), (13, 0), (14, 2), (15, 2), (16, 3)] (by kernel_rfl) (by kernel_rfl) (PQ.block (PQ.then_ (PQ.then_ (PQ.block (PQ.then_ (PQ.block (PQ.then_ (PQ.then_ (PQ.block (PQ.then_ PQ.body)))))))))) (hbi.drew) ?_
      replace hin := hin.below (Below.refl _ _).drew
      replace hbi := hbi.drew
      refine wt1 (v := .slice Ai ni ci) rfl (fun ρ e W => ex_move (e _ _ rfl)) rfl rfl ?_
      refine wt1 (v := .pointer (some ⟨g21, 2, none⟩)) rfl (fun ρ e W => ex_stateF1 (g := g21) (o := 0) (e _ _ rfl)) rfl rfl ?_
      refine wt0 (v := .slice (some ⟨gg, 0, none⟩) nG cG) rfl (fun ρ e W hW => ex_ints (p := ⟨g21, 2, none⟩) (e _ _ rfl) ((ge.1.1.keep hW).cell 2)) rfl rfl ?_
      refine wt1 (v := .pointer (some ⟨g2, 1, none⟩)) rfl (fun ρ e W => ex_circF1 (g := g2) (o := 0) (e _ _ rfl)) rfl rfl ?_
      refine wt0 (v := .slice (some ⟨b, o, none⟩) gs.length c0) rfl (fun ρ e W hW => ex_gates (p := ⟨g2, 1, none⟩) (e _ _ rfl) ((hkc.keep hW).cell 1)) rfl rfl ?_
      refine wt1 (v := .int .i64 (k : Int)) rfl (fun ρ e W => ex_move (e _ _ rfl)) rfl rfl ?_
      refine wt1 (v := .pointer (some ⟨b, o + k * 3, none⟩)) rfl (fun ρ e W => ex_gidx (g := b) (o := o) (n := gs.length) (c := c0) (i := k) (e _ _ rfl) (e _ _ rfl) (by omega)) rfl rfl ?_
      refine wt1 (v := .pointer (some ⟨b, o + k * 3 + 2, none⟩)) rfl (fun ρ e W => ex_gateF2 (g := b) (o := (o + k * 3)) (e _ _ rfl)) rfl rfl ?_
      refine wt0 (v := .slice (some ⟨b2, o2, none⟩) g.inp.length c') rfl (fun ρ e W hW => ex_ints (p := ⟨b, o + k * 3 + 2, none⟩) (e _ _ rfl) (kq2 _ (hbr _ hW))) rfl rfl ?_
      refine wt1 (v := .int .i64 (j : Int)) rfl (fun ρ e W => ex_move (e _ _ rfl)) rfl rfl ?_
      refine wt1 (v := .pointer (some ⟨b2, o2 + j, none⟩)) rfl (fun ρ e W => ex_iidx (g := b2) (o := o2) (n := g.inp.length) (c := c') (i := j) (e _ _ rfl) (e _ _ rfl) (by omega)) rfl rfl ?_
      refine wt0 (v := .int .i64 (q : Int)) rfl (fun ρ e W hW => ex_int (p := ⟨b2, o2 + j, none⟩) (e _ _ rfl) (kj _ (hbr _ hW))) rfl rfl ?_
      refine wt1 (v := .pointer (some ⟨gg, q, none⟩)) rfl (fun ρ e W => ex_index0 (g := gg) (n := nG) (c := cG) (i := q) (e _ _ rfl) (e _ _ rfl) (by omega)) rfl rfl ?_
      refine wt0 (v := .int .i64 y) rfl (fun ρ e W hW => ex_int (p := ⟨gg, q, none⟩) (e _ _ rfl) (ky _ hW)) rfl rfl ?_
      refine wt2_newslice rfl (fun ρ e => ex_build1 (v0 := y) (e _ _ rfl)) rfl rfl (fun gn42 w43 jb44 jk45 jg46 js47 => ?_)
      replace hin := hin.below jb44
      replace hbi := hbi.trans (jb44.mono hbi.size)
      refine ⟨hbi, ?_⟩
      refine wt2_append (base := Wr.heap.size) (l := (g.inp.take j).map fun q => gate.getD q.toNat 0) (yv := y) rfl rfl rfl rfl rfl hin jk45 (by simp; omega) hbi.size (fun A48 c49 w50 hown2 hgrow _ => ?_)
      replace hbi := hbi.trans (below_of_grown hgrow hbi.size (fun q hq => (own_ge (g := q) hin hq).1))
      replace hin := hown2
      refine ⟨hbi, ?_⟩
      refine wt3 (v := .slice A48 (((g.inp.take j).map fun q => gate.getD q.toNat 0).length + 1) c49) rfl (fun ρ e => ex_assign (e _ _ rfl)) rfl rfl ?_
      refine wt_nil ?_
      refine xw_block ?_
      refine xw_next K41 ?_
      refine cw_region ?_
      refine wl_val (v := .int .i64 (j : Int)) (fun ρ e => ex_move (e _ _ rfl)) rfl rfl ?_
      refine wl_val (v := .int .i64 ((j + 1 : Nat) : Int)) (fun ρ e => ex_inc (k := j) (e _ _ rfl) (e _ _ rfl) (by omega)) rfl rfl ?_
      refine wl_val (v := .int .i64 ((j + 1 : Nat) : Int)) (fun ρ e => ex_assign (e _ _ rfl)) rfl rfl ?_
      refine wl_nil ?_
      refine xw_round hK38 (j + 1, A48, ((g.inp.take j).map fun q => gate.getD q.toNat 0).length + 1, c49) (by show g.inp.length - (j + 1) < g.inp.length - j; omega) ⟨by show j + 1 ≤ g.inp.length; omega, by show ((g.inp.take j).map fun q => gate.getD q.toNat 0).length + 1 = j + 1; simp; omega, hbi, by show OwnInts _ _ _ ((g.inp.take (j + 1)).map fun q => gate.getD q.toNat 0); rw [hnx]; exact hin⟩ ⟨rfl, rfl, rfl, rfl, rfl, rfl, trivial⟩
    · have hji : j = g.inp.length := by omega
      rw [hji, List.take_length] at hin
      replace hin : OwnInts Wi Wr.heap.size (.slice Ai ni ci) (inputsOf gate g) := hin
      have hnl : ni = (inputsOf gate g).length := by unfold inputsOf; rw [List.length_map]; omega
      subst hnl
      refine cw_seq (fun FK51 K51 => ?_)
      refine cw_seq (fun FK52 K52 => ?_)
      refine cw_region ?_
      refine wl_val (v := .int .i64 (j : Int)) (fun ρ e => ex_move (e _ _ rfl)) rfl rfl ?_
      refine wl_val (v := .pointer (some ⟨g2, 1, none⟩)) (fun ρ e => ex_circF1 (g := g2) (o := 0) (e _ _ rfl)) rfl rfl ?_
      refine wl_val (v := .slice (some ⟨b, o, none⟩) gs.length c0) (fun ρ e => ex_gates (p := ⟨g2, 1, none⟩) (e _ _ rfl) ((hkc.keep hbi).cell 1)) rfl rfl ?_
      refine wl_val (v := .int .i64 (k : Int)) (fun ρ e => ex_move (e _ _ rfl)) rfl rfl ?_
      refine wl_val (v := .pointer (some ⟨b, o + k * 3, none⟩)) (fun ρ e => ex_gidx (g := b) (o := o) (n := gs.length) (c := c0) (i := k) (e _ _ rfl) (e _ _ rfl) (by omega)) rfl rfl ?_
      refine wl_val (v := .pointer (some ⟨b, o + k * 3 + 2, none⟩)) (fun ρ e => ex_gateF2 (g := b) (o := (o + k * 3)) (e _ _ rfl)) rfl rfl ?_
      refine wl_val (v := .slice A' g.inp.length c') (fun ρ e => ex_ints (p := ⟨b, o + k * 3 + 2, none⟩) (e _ _ rfl) (kq2 _ (hbr _ hbi))) rfl rfl ?_
      refine wl_val (v := .int .i64 ((g.inp.length : Nat) : Int)) (fun ρ e => ex_lenI (e _ _ rfl)) rfl rfl ?_
      refine wl_val (v := .bool false) (fun ρ e => ex_lss0 (u := (j : Int)) (v := ((g.inp.length : Nat) : Int)) (e _ _ rfl) (e _ _ rfl) (by omega)) rfl rfl ?_
      refine wl_nil ?_
      refine xw_next K52 ?_
      refine cw_false rfl ?_
      refine cw_exit ?_
      replace ge := ge.below hbi
      replace hkc := hkc.keep hbi
      replace hbw := hbr _ hbi
      refine xw_past (by intro h; cases h) ?_
      refine xw_past (by intro h; cases h) ?_
      refine xw_here ?_
      refine xw_next K35 ?_
      refine cw_seq (fun FK53 K53 => ?_)
      refine cw_region ?_
      refine wl_val (v := .int .i64 0) (fun ρ e => ex_assign (e _ _ rfl)) rfl rfl ?_
      refine wl_nil ?_
      refine xw_next K53 ?_
      refine cw_seq (fun FK54 K54 => ?_)
      refine cw_drawn (fun Z => Blk Z g21 63 #[.int .i64 cur.n, .slice A cur.L.length c, .slice AG nG cG, .int .u64 (cur.a.a.toNat : Int), .int .u64 (cur.a.b.toNat : Int), .slice none 0 0, .bool cur.closed] ∧ Blk Z g2 24 #[.int .i64 N, .slice (some ⟨b, o, none⟩) gs.length c0] ∧ Below w.heap.size w Z) 11 [(0, 0), (1, 1), (2, 0), (3, 1), (4, 1), (5, 0), (6, 1), (7, 2), (8, 1), (9, 1), (10, 1), (11, 3), (12, 3)] (by kernel_rfl) (by kernel_rfl) (PQ.then_ (PQ.block (PQ.then_ (PQ.then_ (PQ.block (PQ.then_ PQ.body)))))) (⟨ge.1.1.drew, hkc.drew, hbw.drew⟩) ?_
      replace ge := ge.drew
      replace hkc := hkc.drew
      replace hbw := hbw.drew
      replace hin := hin.below (Below.refl _ _).drew
      refine wt0 (v := .agg #[.int .i64 cur.n, .slice A cur.L.length c, .slice AG nG cG, .int .u64 (cur.a.a.toNat : Int), .int .u64 (cur.a.b.toNat : Int), .slice none 0 0, .bool cur.closed]) rfl (fun ρ e W hW => ex_state (g := g21) (e _ _ rfl) hW.1) rfl rfl ?_
      refine wt1 (v := .pointer (some ⟨g2, 1, none⟩)) rfl (fun ρ e W => ex_circF1 (g := g2) (o := 0) (e _ _ rfl)) rfl rfl ?_
      refine wt0 (v := .slice (some ⟨b, o, none⟩) gs.length c0) rfl (fun ρ e W hW => ex_gates (p := ⟨g2, 1, none⟩) (e _ _ rfl) (hW.2.1.cell 1)) rfl rfl ?_
      refine wt1 (v := .int .i64 (k : Int)) rfl (fun ρ e W => ex_move (e _ _ rfl)) rfl rfl ?_
      refine wt1 (v := .pointer (some ⟨b, o + k * 3, none⟩)) rfl (fun ρ e W => ex_gidx (g := b) (o := o) (n := gs.length) (c := c0) (i := k) (e _ _ rfl) (e _ _ rfl) (by omega)) rfl rfl ?_
      refine wt0 (v := .agg #[.int .i64 g.kind, .int .i64 g.lit, .slice A' g.inp.length c']) rfl (fun ρ e W hW => ex_gate (g := b) (o := (o + k * 3)) (e _ _ rfl) (kq0 _ hW.2.2) (kq1 _ hW.2.2) (kq2 _ hW.2.2)) rfl rfl ?_
      refine wt1 (v := .slice Ai ((inputsOf gate g).length) ci) rfl (fun ρ e W => ex_move (e _ _ rfl)) rfl rfl ?_
      refine wt2_call (args := [.agg #[.int .i64 cur.n, .slice A cur.L.length c, .slice AG nG cG, .int .u64 (cur.a.a.toNat : Int), .int .u64 (cur.a.b.toNat : Int), .slice none 0 0, .bool cur.closed], .agg #[.int .i64 g.kind, .int .i64 g.lit, .slice A' g.inp.length c'], .slice Ai ((inputsOf gate g).length) ci]) rfl in_gateOf rfl rfl rfl ?_
      refine (ref10_gateOf _ (GE.ok ge (fun _ _ => trivial)) w.heap.size Wr.heap.size ge.1.2.2.2.2.size A c AG nG cG cur cur2 v g.kind g.lit A' g.inp.length c' Ai ci (inputsOf gate g) hkd hll hin he (fun x hx => ⟨(hinp x hx).1, (hinp x hx).2.1⟩) (fun x hx => (hinp x hx).2.2) hok.n0 hok.n1 ge.1.2.2.1 (by have := hok.L; omega)).mono ?_
      rintro _ w55 ⟨⟨A5, c5, rfl, o5⟩, fr5⟩
      refine ⟨_, rfl, ⟨fr5.blk ge.1.1 (.inl (by decide)), fr5.blk hkc (.inl (by decide)), hbw.trans (fr5.below hbw.size)⟩, ?_⟩
      refine wt1 (v := .tuple #[.agg #[.int .i64 cur2.n, .slice A5 cur2.L.length c5, .slice AG nG cG, .int .u64 (cur2.a.a.toNat : Int), .int .u64 (cur2.a.b.toNat : Int), .slice none 0 0, .bool cur2.closed], .int .i64 v]) rfl (fun ρ e W => ex_move (e _ _ rfl)) rfl rfl ?_
      refine wt1 (v := .agg #[.int .i64 cur2.n, .slice A5 cur2.L.length c5, .slice AG nG cG, .int .u64 (cur2.a.a.toNat : Int), .int .u64 (cur2.a.b.toNat : Int), .slice none 0 0, .bool cur2.closed]) rfl (fun ρ e W => ex_extract (vs := #[.agg #[.int .i64 cur2.n, .slice A5 cur2.L.length c5, .slice AG nG cG, .int .u64 (cur2.a.a.toNat : Int), .int .u64 (cur2.a.b.toNat : Int), .slice none 0 0, .bool cur2.closed], .int .i64 v]) (e _ _ rfl) rfl) rfl rfl ?_
      refine wt1 (v := .int .i64 v) rfl (fun ρ e W => ex_extract (vs := #[.agg #[.int .i64 cur2.n, .slice A5 cur2.L.length c5, .slice AG nG cG, .int .u64 (cur2.a.a.toNat : Int), .int .u64 (cur2.a.b.toNat : Int), .slice none 0 0, .bool cur2.closed], .int .i64 v]) (e _ _ rfl) rfl) rfl rfl ?_
      refine wt3_none rfl (fun ρ e => ex_storeState (A := A5) (c := c5) (s := cur2) (AG := AG) (nG := nG) (cG := cG) (e _ _ rfl) (e _ _ rfl) (fr5.blk ge.1.1 (.inl (by decide)))) rfl ?_
      replace ge := ge.after fr5 o5 hne h4
      replace hkc := put7_far (g := g21) (AG := AG) (nG := nG) (cG := cG) (s := cur2) (A := A5) (c := c5) (fr5.blk hkc (.inl (by decide))) hne2
      replace hbw := ge.1.2.2.2.2.below (Nat.le_refl _)
      clear fr5 o5
      refine wt3 (v := .int .i64 v) rfl (fun ρ e => ex_assign (e _ _ rfl)) rfl rfl ?_
      refine wt_nil ?_
      refine xw_next K54 ?_
      refine cw_seq (fun FK56 K56 => ?_)
      refine cw_seq (fun FK57 K57 => ?_)
      by_cases hcl : cur2.closed = true
      · have hnone := hX.symm.trans (encR_stop he (.inl hcl))
        refine cw_region ?_
        refine wl_val (v := .pointer (some ⟨g21, 6, none⟩)) (fun ρ e => ex_stateF4 (g := g21) (o := 0) (e _ _ rfl)) rfl rfl ?_
        refine wl_val (v := .bool true) (fun ρ e => ex_bool (p := ⟨g21, 6, none⟩) (e _ _ rfl) (by have := ge.1.1.cell 6; simpa [hcl] using this)) rfl rfl ?_
        refine wl_val (v := .bool true) (fun ρ e => ex_move (e _ _ rfl)) rfl rfl ?_
        refine wl_skip rfl rfl ?_
        refine wl_skip rfl rfl ?_
        refine wl_skip rfl rfl ?_
        refine wl_skip rfl rfl ?_
        refine wl_skip rfl rfl ?_
        refine wl_val (v := .bool true) (fun ρ e => ex_pick1 (e _ _ rfl) (e _ _ rfl)) rfl rfl ?_
        refine wl_nil ?_
        refine xw_next K57 ?_
        refine cw_true rfl ?_
        refine cw_seq (fun FK58 K58 => ?_)
        refine cw_region ?_
        refine wl_val (v := .agg #[.int .i64 cur2.n, .slice A5 cur2.L.length c5, .slice AG nG cG, .int .u64 (cur2.a.a.toNat : Int), .int .u64 (cur2.a.b.toNat : Int), .slice none 0 0, .bool cur2.closed]) (fun ρ e => ex_state (g := g21) (e _ _ rfl) ge.1.1) rfl rfl ?_
        refine wl_none (fun ρ e => ex_storeState (A := A5) (c := c5) (s := cur2) (AG := AG) (nG := nG) (cG := cG) (e _ _ rfl) (e _ _ rfl) ge.1.2.1) rfl ?_
        have hE := ge.1.fin h3
        refine wl_val (v := .int .i64 2) (fun ρ e => ex_assign (e _ _ rfl)) rfl rfl ?_
        refine wl_nil ?_
        refine xw_next K58 ?_
        refine cw_ret ?_
        refine xw_past (by intro h; cases h) ?_
        refine xw_blockret ?_
        refine xw_past (by intro h; cases h) ?_
        refine xw_past (by intro h; cases h) ?_
        refine xw_blockret ?_
        refine xw_past (by intro h; cases h) ?_
        refine xw_ret (v := .tuple #[.agg #[.int .i64 cur2.n, .slice A5 cur2.L.length c5, .slice AG nG cG, .int .u64 (cur2.a.a.toNat : Int), .int .u64 (cur2.a.b.toNat : Int), .slice none 0 0, .bool cur2.closed], .int .i64 2]) (fun T hT => ?_) ⟨⟨cur2, A5, c5, AG, nG, cG, 2, rfl, .inl ⟨encRAll_none hnone, rfl⟩⟩, hE.2.2.below (Nat.le_refl _)⟩
        have t4 := hT 4 _ rfl
        have t5 := hT 5 _ rfl
        have r0 := hE.1.cell 0
        have r1 := hE.1.cell 1
        have r2 := hE.1.cell 2
        have r3 := hE.1.cell 3
        have r4 := hE.1.cell 4
        have r5 := hE.1.cell 5
        have r6 := hE.1.cell 6
        simp at r0 r1 r2 r3 r4 r5 r6
        simp [results, Try.results35, go_sem, t4, t5, r0, r1, r2, r3, r4, r5, r6]
      · have hcl : cur2.closed = false := by simpa using hcl
        by_cases hlong : 4096 < cur2.L.length
        · have hnone := hX.symm.trans (encR_stop he (.inr hlong))
          refine cw_region ?_
          refine wl_val (v := .pointer (some ⟨g21, 6, none⟩)) (fun ρ e => ex_stateF4 (g := g21) (o := 0) (e _ _ rfl)) rfl rfl ?_
          refine wl_val (v := .bool false) (fun ρ e => ex_bool (p := ⟨g21, 6, none⟩) (e _ _ rfl) (by have := ge.1.1.cell 6; simpa [hcl] using this)) rfl rfl ?_
          refine wl_val (v := .bool false) (fun ρ e => ex_move (e _ _ rfl)) rfl rfl ?_
          refine wl_val (v := .pointer (some ⟨g21, 0, none⟩)) (fun ρ e => ex_stateF0 (g := g21) (o := 0) (e _ _ rfl)) rfl rfl ?_
          refine wl_val (v := .pointer (some ⟨g21, 1, none⟩)) (fun ρ e => ex_theoryF1 (g := g21) (o := 0) (e _ _ rfl)) rfl rfl ?_
          refine wl_val (v := .slice A5 cur2.L.length c5) (fun ρ e => ex_rows (p := ⟨g21, 1, none⟩) (e _ _ rfl) (ge.1.1.cell 1)) rfl rfl ?_
          refine wl_val (v := .int .i64 ((cur2.L.length : Nat) : Int)) (fun ρ e => ex_lenR (e _ _ rfl)) rfl rfl ?_
          refine wl_val (v := .bool true) (fun ρ e => ex_gtr1 (u := ((cur2.L.length : Nat) : Int)) (v := 4096) (e _ _ rfl) (e _ _ rfl) (by omega)) rfl rfl ?_
          refine wl_val (v := .bool true) (fun ρ e => ex_pick0 (e _ _ rfl) (e _ _ rfl)) rfl rfl ?_
          refine wl_nil ?_
          refine xw_next K57 ?_
          refine cw_true rfl ?_
          refine cw_seq (fun FK59 K59 => ?_)
          refine cw_region ?_
          refine wl_val (v := .agg #[.int .i64 cur2.n, .slice A5 cur2.L.length c5, .slice AG nG cG, .int .u64 (cur2.a.a.toNat : Int), .int .u64 (cur2.a.b.toNat : Int), .slice none 0 0, .bool cur2.closed]) (fun ρ e => ex_state (g := g21) (e _ _ rfl) ge.1.1) rfl rfl ?_
          refine wl_none (fun ρ e => ex_storeState (A := A5) (c := c5) (s := cur2) (AG := AG) (nG := nG) (cG := cG) (e _ _ rfl) (e _ _ rfl) ge.1.2.1) rfl ?_
          have hE := ge.1.fin h3
          refine wl_val (v := .int .i64 2) (fun ρ e => ex_assign (e _ _ rfl)) rfl rfl ?_
          refine wl_nil ?_
          refine xw_next K59 ?_
          refine cw_ret ?_
          refine xw_past (by intro h; cases h) ?_
          refine xw_blockret ?_
          refine xw_past (by intro h; cases h) ?_
          refine xw_past (by intro h; cases h) ?_
          refine xw_blockret ?_
          refine xw_past (by intro h; cases h) ?_
          refine xw_ret (v := .tuple #[.agg #[.int .i64 cur2.n, .slice A5 cur2.L.length c5, .slice AG nG cG, .int .u64 (cur2.a.a.toNat : Int), .int .u64 (cur2.a.b.toNat : Int), .slice none 0 0, .bool cur2.closed], .int .i64 2]) (fun T hT => ?_) ⟨⟨cur2, A5, c5, AG, nG, cG, 2, rfl, .inl ⟨encRAll_none hnone, rfl⟩⟩, hE.2.2.below (Nat.le_refl _)⟩
          have t4 := hT 4 _ rfl
          have t5 := hT 5 _ rfl
          have r0 := hE.1.cell 0
          have r1 := hE.1.cell 1
          have r2 := hE.1.cell 2
          have r3 := hE.1.cell 3
          have r4 := hE.1.cell 4
          have r5 := hE.1.cell 5
          have r6 := hE.1.cell 6
          simp at r0 r1 r2 r3 r4 r5 r6
          simp [results, Try.results35, go_sem, t4, t5, r0, r1, r2, r3, r4, r5, r6]
        · have hok2 := hnext.2 hcl (by omega)
          rw [encR_go he hcl (by omega)] at hX
          refine cw_region ?_
          refine wl_val (v := .pointer (some ⟨g21, 6, none⟩)) (fun ρ e => ex_stateF4 (g := g21) (o := 0) (e _ _ rfl)) rfl rfl ?_
          refine wl_val (v := .bool false) (fun ρ e => ex_bool (p := ⟨g21, 6, none⟩) (e _ _ rfl) (by have := ge.1.1.cell 6; simpa [hcl] using this)) rfl rfl ?_
          refine wl_val (v := .bool false) (fun ρ e => ex_move (e _ _ rfl)) rfl rfl ?_
          refine wl_val (v := .pointer (some ⟨g21, 0, none⟩)) (fun ρ e => ex_stateF0 (g := g21) (o := 0) (e _ _ rfl)) rfl rfl ?_
          refine wl_val (v := .pointer (some ⟨g21, 1, none⟩)) (fun ρ e => ex_theoryF1 (g := g21) (o := 0) (e _ _ rfl)) rfl rfl ?_
          refine wl_val (v := .slice A5 cur2.L.length c5) (fun ρ e => ex_rows (p := ⟨g21, 1, none⟩) (e _ _ rfl) (ge.1.1.cell 1)) rfl rfl ?_
          refine wl_val (v := .int .i64 ((cur2.L.length : Nat) : Int)) (fun ρ e => ex_lenR (e _ _ rfl)) rfl rfl ?_
          refine wl_val (v := .bool false) (fun ρ e => ex_gtr0 (u := ((cur2.L.length : Nat) : Int)) (v := 4096) (e _ _ rfl) (e _ _ rfl) (by omega)) rfl rfl ?_
          refine wl_val (v := .bool false) (fun ρ e => ex_pick0 (e _ _ rfl) (e _ _ rfl)) rfl rfl ?_
          refine wl_nil ?_
          refine xw_next K57 ?_
          refine cw_false rfl ?_
          refine cw_skip ?_
          refine xw_next K56 ?_
          refine cw_region ?_
          refine wl_val (v := .pointer (some ⟨g21, 2, none⟩)) (fun ρ e => ex_stateF1 (g := g21) (o := 0) (e _ _ rfl)) rfl rfl ?_
          refine wl_val (v := .slice AG nG cG) (fun ρ e => ex_ints (p := ⟨g21, 2, none⟩) (e _ _ rfl) (ge.1.1.cell 2)) rfl rfl ?_
          refine wl_val (v := .int .i64 v) (fun ρ e => ex_move (e _ _ rfl)) rfl rfl ?_
          refine wl_newslice (fun ρ e => ex_build1 (v0 := v) (e _ _ rfl)) rfl rfl (fun gn60 w61 jb62 jk63 jg64 js65 => ?_)
          replace ge := ge.below jb62
          replace hkc := hkc.keep jb62
          replace hbw := hbw.trans (jb62.mono hbw.size)
          refine wl_append (base := w.heap.size) (l := gate) (yv := v) rfl rfl rfl rfl ge.2 jk63 (by omega) ge.1.2.2.2.2.size (fun A66 c67 w68 hown6 hgrow hwh => ?_)
          obtain ⟨⟨u, hcell⟩, hfz, ge2⟩ := ge.append hown6 hgrow hwh hne h4
          replace hkc := hkc.grown hgrow (by exact (own_blk_ne ge.2 hkc (by decide)).symm)
          refine wl_val (v := .pointer (some ⟨g21, 2, none⟩)) (fun ρ e => ex_stateF1 (g := g21) (o := 0) (e _ _ rfl)) rfl rfl ?_
          refine wl_none (fun ρ e => ex_storeSlice (e _ _ rfl) (e _ _ rfl) hcell hfz) rfl ?_
          replace ge := ge2
          replace hkc := hkc.far (p := ⟨g21, 2, none⟩) hne2 (.slice A66 (gate.length + 1) c67)
          replace hbw := ge.1.2.2.2.2.below (Nat.le_refl _)
          clear ge2 hcell hfz
          refine wl_nil ?_
          refine xw_block ?_
          refine xw_next K33 ?_
          refine cw_region ?_
          refine wl_val (v := .int .i64 (k : Int)) (fun ρ e => ex_move (e _ _ rfl)) rfl rfl ?_
          refine wl_val (v := .int .i64 ((k + 1 : Nat) : Int)) (fun ρ e => ex_inc (k := k) (e _ _ rfl) (e _ _ rfl) (by omega)) rfl rfl ?_
          refine wl_val (v := .int .i64 ((k + 1 : Nat) : Int)) (fun ρ e => ex_assign (e _ _ rfl)) rfl rfl ?_
          refine wl_nil ?_
          refine xw_round hK30 (k + 1, cur2, gate ++ [v], A5, c5, A66, gate.length + 1, c67) (by show gs.length - (k + 1) < gs.length - k; omega) ⟨by show k + 1 ≤ gs.length; omega, ge, hkc, hX, hok2, by show gate.length + 1 = k + 1; omega⟩ ⟨rfl, rfl, rfl, rfl, trivial⟩
  · have hkk : k = gs.length := by omega
    subst hkk
    rw [List.drop_length, encR] at hX
    have hsome := hX.symm
    obtain ⟨k0, hk0⟩ : ∃ k0, gs.length = k0 + 1 := ⟨gs.length - 1, by omega⟩
    obtain ⟨y, hget⟩ : ∃ y, gate[k0]? = some y := ⟨_, List.getElem?_eq_getElem (by omega)⟩
    have hy : gate.getLastD 0 = y := by rw [List.getLastD_eq_getLast?, List.getLast?_eq_getElem?, show gate.length - 1 = k0 by omega, hget]; rfl
    obtain ⟨fin, hs2⟩ : ∃ z, z = cur.add [y] := ⟨_, rfl⟩
    have hs3 : fin = cur.add [gate.getLastD 0] := by rw [hy]; exact hs2
    refine cw_seq (fun FK69 K69 => ?_)
    refine cw_seq (fun FK70 K70 => ?_)
    refine cw_region ?_
    refine wl_val (v := .int .i64 (gs.length : Int)) (fun ρ e => ex_move (e _ _ rfl)) rfl rfl ?_
    refine wl_val (v := .pointer (some ⟨g2, 1, none⟩)) (fun ρ e => ex_circF1 (g := g2) (o := 0) (e _ _ rfl)) rfl rfl ?_
    refine wl_val (v := .slice A0 gs.length c0) (fun ρ e => ex_gates (p := ⟨g2, 1, none⟩) (e _ _ rfl) (hkc.cell 1)) rfl rfl ?_
    refine wl_val (v := .int .i64 ((gs.length : Nat) : Int)) (fun ρ e => ex_lenG (e _ _ rfl)) rfl rfl ?_
    refine wl_val (v := .bool false) (fun ρ e => ex_lss0 (u := (gs.length : Int)) (v := ((gs.length : Nat) : Int)) (e _ _ rfl) (e _ _ rfl) (by omega)) rfl rfl ?_
    refine wl_nil ?_
    refine xw_next K70 ?_
    refine cw_false rfl ?_
    refine cw_exit ?_
    refine xw_past (by intro h; cases h) ?_
    refine xw_past (by intro h; cases h) ?_
    refine xw_here ?_
    refine xw_next K27 ?_
    refine cw_seq (fun FK71 K71 => ?_)
    obtain ⟨gg, rfl, hgg⟩ := own_addr ge.2 (by omega)
    refine cw_drawn (fun Z => Blk Z g21 63 #[.int .i64 cur.n, .slice A cur.L.length c, .slice (some ⟨gg, 0, none⟩) nG cG, .int .u64 (cur.a.a.toNat : Int), .int .u64 (cur.a.b.toNat : Int), .slice none 0 0, .bool cur.closed] ∧ OwnInts Z w.heap.size (.slice (some ⟨gg, 0, none⟩) nG cG) gate) 11 [(0, 0), (1, 1), (2, 0), (3, 1), (4, 0), (5, 1), (6, 1), (7, 1), (8, 0), (9, 2), (10, 2), (11, 3)] (by kernel_rfl) (by kernel_rfl) (PQ.then_ PQ.body) (⟨ge.1.1.drew, GT.drew ge |>.2⟩) ?_
    replace ge := ge.drew
    replace hkc := hkc.drew
    replace hbw := hbw.drew
    refine wt0 (v := .agg #[.int .i64 cur.n, .slice A cur.L.length c, .slice (some ⟨gg, 0, none⟩) nG cG, .int .u64 (cur.a.a.toNat : Int), .int .u64 (cur.a.b.toNat : Int), .slice none 0 0, .bool cur.closed]) rfl (fun ρ e W hW => ex_state (g := g21) (e _ _ rfl) hW.1) rfl rfl ?_
    refine wt1 (v := .pointer (some ⟨g21, 2, none⟩)) rfl (fun ρ e W => ex_stateF1 (g := g21) (o := 0) (e _ _ rfl)) rfl rfl ?_
    refine wt0 (v := .slice (some ⟨gg, 0, none⟩) nG cG) rfl (fun ρ e W hW => ex_ints (p := ⟨g21, 2, none⟩) (e _ _ rfl) (hW.1.cell 2)) rfl rfl ?_
    refine wt1 (v := .pointer (some ⟨g21, 2, none⟩)) rfl (fun ρ e W => ex_stateF1 (g := g21) (o := 0) (e _ _ rfl)) rfl rfl ?_
    refine wt0 (v := .slice (some ⟨gg, 0, none⟩) nG cG) rfl (fun ρ e W hW => ex_ints (p := ⟨g21, 2, none⟩) (e _ _ rfl) (hW.1.cell 2)) rfl rfl ?_
    refine wt1 (v := .int .i64 (nG : Int)) rfl (fun ρ e W => ex_lenI (e _ _ rfl)) rfl rfl ?_
    refine wt1 (v := .int .i64 (k0 : Int)) rfl (fun ρ e W => ex_dec (n := nG) (k := k0) (e _ _ rfl) (e _ _ rfl) (by omega) (by omega)) rfl rfl ?_
    refine wt1 (v := .pointer (some ⟨gg, k0, none⟩)) rfl (fun ρ e W => ex_index0 (g := gg) (n := nG) (c := cG) (i := k0) (e _ _ rfl) (e _ _ rfl) (by omega)) rfl rfl ?_
    refine wt0 (v := .int .i64 y) rfl (fun ρ e W hW => ex_int (p := ⟨gg, k0, none⟩) (e _ _ rfl) (ints_cell hW.2 _ _ hget)) rfl rfl ?_
    have gep := ge
    refine wt2_newslice rfl (fun ρ e => ex_build1 (v0 := y) (e _ _ rfl)) rfl rfl (fun gn72 w73 jb74 jk75 jg76 js77 => ?_)
    replace ge := ge.below jb74
    replace hkc := hkc.keep jb74
    replace hbw := hbw.trans (jb74.mono hbw.size)
    refine ⟨⟨ge.1.1, ge.2⟩, ?_⟩
    refine wt2_call (args := [.agg #[.int .i64 cur.n, .slice A cur.L.length c, .slice (some ⟨gg, 0, none⟩) nG cG, .int .u64 (cur.a.a.toNat : Int), .int .u64 (cur.a.b.toNat : Int), .slice none 0 0, .bool cur.closed], .slice (some ⟨gn72, 0, none⟩) 1 1]) rfl in_add rfl rfl rfl ?_
    refine (ref10_add_ge (fun _ _ => trivial) (Nat.le_refl _) hs2 jg76 gep jb74 jk75 rfl (by simp) (by have := hok.L; omega)).mono ?_
    rintro _ w78 ⟨⟨A7, c7, rfl, o5⟩, fr5⟩
    refine ⟨_, rfl, ⟨fr5.blk ge.1.1 (.inl (by decide)), fr5.ints ge.2⟩, ?_⟩
    refine wt3_none rfl (fun ρ e => ex_storeState (A := A7) (c := c7) (s := fin) (AG := (some ⟨gg, 0, none⟩)) (nG := nG) (cG := cG) (e _ _ rfl) (e _ _ rfl) (fr5.blk ge.1.1 (.inl (by decide)))) rfl ?_
    replace ge := ge.after fr5 o5 hne h4
    replace hkc := put7_far (g := g21) (AG := (some ⟨gg, 0, none⟩)) (nG := nG) (cG := cG) (s := fin) (A := A7) (c := c7) (fr5.blk hkc (.inl (by decide))) hne2
    replace hbw := ge.1.2.2.2.2.below (Nat.le_refl _)
    clear fr5 o5
    refine wt_nil ?_
    refine xw_next K71 ?_
    refine cw_seq (fun FK79 K79 => ?_)
    refine cw_seq (fun FK80 K80 => ?_)
    obtain ⟨th, hth⟩ : ∃ z, z = thCheck fin.n fin.L := ⟨_, rfl⟩
    by_cases ht : th = 0
    · skip
      refine cw_region ?_
      refine wl_val (v := .pointer (some ⟨g21, 0, none⟩)) (fun ρ e => ex_stateF0 (g := g21) (o := 0) (e _ _ rfl)) rfl rfl ?_
      refine wl_val (v := .agg #[.int .i64 fin.n, .slice A7 fin.L.length c7]) (fun ρ e => ex_theory (g := g21) (o := 0) (e _ _ rfl) (ge.1.1.cell 0) (ge.1.1.cell 1)) rfl rfl ?_
      refine wl_call (args := [.agg #[.int .i64 fin.n, .slice A7 fin.L.length c7]]) in_05Check rfl rfl rfl ?_
      refine (ref05_check fin.n _ fin.L _ _ (Nat.le_refl _) ge.1.2.2.1.V).mono ?_
      rintro _ w81 ⟨rfl, hb⟩
      replace ge := ge.below hb
      replace hkc := hkc.keep hb
      replace hbw := hbw.trans (hb.mono hbw.size)
      rw [← hth]
      refine ⟨_, rfl, ?_⟩
      refine wl_val (v := .bool false) (fun ρ e => ex_neqE0 (u := th) (v := 0) (e _ _ rfl) (e _ _ rfl) ht) rfl rfl ?_
      refine wl_nil ?_
      refine xw_next K80 ?_
      refine cw_false rfl ?_
      refine cw_skip ?_
      refine xw_next K79 ?_
      refine cw_seq (fun FK82 K82 => ?_)
      refine cw_region ?_
      refine wl_val (v := .agg #[.int .i64 fin.n, .slice A7 fin.L.length c7, .slice (some ⟨gg, 0, none⟩) nG cG, .int .u64 (fin.a.a.toNat : Int), .int .u64 (fin.a.b.toNat : Int), .slice none 0 0, .bool fin.closed]) (fun ρ e => ex_state (g := g21) (e _ _ rfl) ge.1.1) rfl rfl ?_
      refine wl_none (fun ρ e => ex_storeState (A := A7) (c := c7) (s := fin) (AG := (some ⟨gg, 0, none⟩)) (nG := nG) (cG := cG) (e _ _ rfl) (e _ _ rfl) ge.1.2.1) rfl ?_
      have hE := ge.1.fin h3
      refine wl_val (v := .int .i64 0) (fun ρ e => ex_assign (e _ _ rfl)) rfl rfl ?_
      refine wl_nil ?_
      refine xw_next K82 ?_
      refine cw_ret ?_
      refine xw_ret (v := .tuple #[.agg #[.int .i64 fin.n, .slice A7 fin.L.length c7, .slice (some ⟨gg, 0, none⟩) nG cG, .int .u64 (fin.a.a.toNat : Int), .int .u64 (fin.a.b.toNat : Int), .slice none 0 0, .bool fin.closed], .int .i64 0]) (fun T hT => ?_) ⟨⟨fin, A7, c7, (some ⟨gg, 0, none⟩), nG, cG, 0, rfl, .inr ⟨gate, encRAll_good hsome hs3 (by rw [← hth]; exact ht), rfl, hE.2.1.mono (fun _ _ _ => trivial), (put7_keeps (TyAt.of ge.1.2.1)).ints ge.2⟩⟩, hE.2.2.below (Nat.le_refl _)⟩
      have t4 := hT 4 _ rfl
      have t5 := hT 5 _ rfl
      have r0 := hE.1.cell 0
      have r1 := hE.1.cell 1
      have r2 := hE.1.cell 2
      have r3 := hE.1.cell 3
      have r4 := hE.1.cell 4
      have r5 := hE.1.cell 5
      have r6 := hE.1.cell 6
      simp at r0 r1 r2 r3 r4 r5 r6
      simp [results, Try.results35, go_sem, t4, t5, r0, r1, r2, r3, r4, r5, r6]
    · skip
      refine cw_region ?_
      refine wl_val (v := .pointer (some ⟨g21, 0, none⟩)) (fun ρ e => ex_stateF0 (g := g21) (o := 0) (e _ _ rfl)) rfl rfl ?_
      refine wl_val (v := .agg #[.int .i64 fin.n, .slice A7 fin.L.length c7]) (fun ρ e => ex_theory (g := g21) (o := 0) (e _ _ rfl) (ge.1.1.cell 0) (ge.1.1.cell 1)) rfl rfl ?_
      refine wl_call (args := [.agg #[.int .i64 fin.n, .slice A7 fin.L.length c7]]) in_05Check rfl rfl rfl ?_
      refine (ref05_check fin.n _ fin.L _ _ (Nat.le_refl _) ge.1.2.2.1.V).mono ?_
      rintro _ w83 ⟨rfl, hb⟩
      replace ge := ge.below hb
      replace hkc := hkc.keep hb
      replace hbw := hbw.trans (hb.mono hbw.size)
      rw [← hth]
      refine ⟨_, rfl, ?_⟩
      refine wl_val (v := .bool true) (fun ρ e => ex_neqE1 (u := th) (v := 0) (e _ _ rfl) (e _ _ rfl) ht) rfl rfl ?_
      refine wl_nil ?_
      refine xw_next K80 ?_
      refine cw_true rfl ?_
      refine cw_seq (fun FK84 K84 => ?_)
      refine cw_region ?_
      refine wl_val (v := .agg #[.int .i64 fin.n, .slice A7 fin.L.length c7, .slice (some ⟨gg, 0, none⟩) nG cG, .int .u64 (fin.a.a.toNat : Int), .int .u64 (fin.a.b.toNat : Int), .slice none 0 0, .bool fin.closed]) (fun ρ e => ex_state (g := g21) (e _ _ rfl) ge.1.1) rfl rfl ?_
      refine wl_none (fun ρ e => ex_storeState (A := A7) (c := c7) (s := fin) (AG := (some ⟨gg, 0, none⟩)) (nG := nG) (cG := cG) (e _ _ rfl) (e _ _ rfl) ge.1.2.1) rfl ?_
      have hE := ge.1.fin h3
      refine wl_val (v := .int .i64 2) (fun ρ e => ex_assign (e _ _ rfl)) rfl rfl ?_
      refine wl_nil ?_
      refine xw_next K84 ?_
      refine cw_ret ?_
      refine xw_past (by intro h; cases h) ?_
      refine xw_ret (v := .tuple #[.agg #[.int .i64 fin.n, .slice A7 fin.L.length c7, .slice (some ⟨gg, 0, none⟩) nG cG, .int .u64 (fin.a.a.toNat : Int), .int .u64 (fin.a.b.toNat : Int), .slice none 0 0, .bool fin.closed], .int .i64 2]) (fun T hT => ?_) ⟨⟨fin, A7, c7, (some ⟨gg, 0, none⟩), nG, cG, 2, rfl, .inl ⟨encRAll_bad hsome hs3 (by rw [← hth]; exact ht), rfl⟩⟩, hE.2.2.below (Nat.le_refl _)⟩
      have t4 := hT 4 _ rfl
      have t5 := hT 5 _ rfl
      have r0 := hE.1.cell 0
      have r1 := hE.1.cell 1
      have r2 := hE.1.cell 2
      have r3 := hE.1.cell 3
      have r4 := hE.1.cell 4
      have r5 := hE.1.cell 5
      have r6 := hE.1.cell 6
      simp at r0 r1 r2 r3 r4 r5 r6
      simp [results, Try.results35, go_sem, t4, t5, r0, r1, r2, r3, r4, r5, r6]
end Go.Proofs.Ytlifakbdgmdafaa

namespace Go.Proofs.Ytlifakbdgmdafaa
open Go Go.RowKit
section
variable {ρ : Operand → Value} {d : Option Tmp} {x y : Operand} {t : TypeId} {pos : String} {aft : Array Edge} {gd : Option (Nat × Bool)} {w : World}
theorem ex_buildTheoryZ : (execOp ρ ⟨d, .build 29 #[], t, pos, aft, gd⟩).run Try.prog w = .ok (.value (.agg #[.int .i64 0, .slice none 0 0])) w := by
  simp [go_sem]
theorem ex_buildSetZ : (execOp ρ ⟨d, .build 38 #[], t, pos, aft, gd⟩).run Try.prog w = .ok (.value (.agg #[.int .u64 0, .int .u64 0])) w := by
  simp [go_sem]
theorem ex_eqlE1 {u v : Int} (hx : ρ x = .int .i64 u) (hy : ρ y = .int .i64 v) (h : u = v) : (execOp ρ ⟨d, .binOp .eql 31 x y 31, t, pos, aft, gd⟩).run Try.prog w = .ok (.value (.bool true)) w := by
  subst h
  simp [go_sem, hx, hy]
theorem ex_eqlE0 {u v : Int} (hx : ρ x = .int .i64 u) (hy : ρ y = .int .i64 v) (h : u ≠ v) : (execOp ρ ⟨d, .binOp .eql 31 x y 31, t, pos, aft, gd⟩).run Try.prog w = .ok (.value (.bool false)) w := by
  simp [go_sem, hx, hy, h]
theorem ex_eqbb {b : Bool} (hx : ρ x = .bool b) (hy : ρ y = .bool b) : (execOp ρ ⟨d, .binOp .eql 4 x y 4, t, pos, aft, gd⟩).run Try.prog w = .ok (.value (.bool true)) w := by
  cases b <;> simp [go_sem, hx, hy]
theorem ex_eqsame {s : VS} (hx : ρ x = (.agg #[.int .u64 ((s).a.toNat : Int), .int .u64 ((s).b.toNat : Int)])) (hy : ρ y = (.agg #[.int .u64 ((s).a.toNat : Int), .int .u64 ((s).b.toNat : Int)])) : (execOp ρ ⟨d, .binOp .eql 38 x y 38, t, pos, aft, gd⟩).run Try.prog w = .ok (.value (.bool true)) w := by
  have hr : ∀ W, (Op.equalIn 10000 38 (.agg #[.int .u64 ((s).a.toNat : Int), .int .u64 ((s).b.toNat : Int)]) (.agg #[.int .u64 ((s).a.toNat : Int), .int .u64 ((s).b.toNat : Int)])).run Try.prog W = .ok true W := fun W => by rw [sets_eq]; simp
  simp [go_sem, hx, hy, hr]
end
/-- A store into block g, which holds no numbers and no rows. -/
structure Put (w w' : World) (g : Nat) : Prop where
  size : w'.heap.size = w.heap.size
  below : ∀ B, B ≤ g → Below B w w'
  far : ∀ {h : Nat} {t : TypeId} {cs : Array Value}, h ≠ g → Blk w h t cs → Blk w' h t cs
  rows : ∀ {Av : Nat → Prop} {base : Nat} {v : Value} {L : List (List Int)}, OwnRows w Av base v L → OwnRows w' Av base v L
  ints : ∀ {base : Nat} {v : Value} {l : List Int}, OwnInts w base v l → OwnInts w' base v l
theorem put_one {w : World} {g : Nat} {T : TypeId} {cs : Array Value} (hk : Blk w g T cs) (h1 : 30 ≠ T) (h2 : 3 ≠ T) (i : Nat) (u : Value) : Put w (w.setCell ⟨g, i, none⟩ u) g :=
  ⟨by simp [World.setCell], fun B hB => below_put hB i u, fun hne hb => hb.far (by simpa using hne) _, fun ho => OwnRows.setCell ho hk h1 h2 i u, fun ho => own_setCell ho (p := ⟨g, i, none⟩) (by exact own_blk_ne ho hk h2) u⟩
theorem Put.trans {a b c : World} {g : Nat} (h : Put a b g) (k : Put b c g) : Put a c g :=
  ⟨k.size.trans h.size, fun B hB => (h.below B hB).trans (k.below B hB), fun hne hb => k.far hne (h.far hne hb), fun ho => k.rows (h.rows ho), fun ho => k.ints (h.ints ho)⟩
theorem EncRes.put {base : Nat} {N : Int} {gs : List Gate} {a : VS} {s : RS} {A : Option Addr} {c : Nat} {AG : Option Addr} {nG cG : Nat} {E : Int} {W W' : World} {g : Nat} (h : EncRes base N gs a s A c AG nG cG E W) (p : Put W W' g) : EncRes base N gs a s A c AG nG cG E W' :=
  Or.imp_right (fun ⟨q, q1, q2, q3, q4⟩ => ⟨q, q1, q2, p.rows q3, p.ints q4⟩) h
section
variable {P : Program} {ops : Array Oper} {Q : Exit → Act → World → Prop} {S : World → Prop} {r : List (Nat × Nat)} {rest : List Oper} {n : Nat} {m : List (Nat × Value)} {w : World} {i g : Nat} {op : Op} {t T : TypeId} {pos : String} {aft : Array Edge} {gd : Option (Nat × Bool)} {u0 u1 v0 v1 : Value}
theorem put_two (hk : Blk w g T #[u0, u1]) (h1 : 30 ≠ T) (h2 : 3 ≠ T) : Put w ((w.setCell ⟨g, 0, none⟩ v0).setCell ⟨g, 1, none⟩ v1) g :=
  (put_one hk h1 h2 0 v0).trans (put_one (hk.put 0 v0) h1 h2 1 v1)
theorem wl_put2 (hr : ∀ ρ, Reads m ρ → (execOp ρ ⟨none, op, t, pos, aft, gd⟩).run P w = .ok .skip ((w.setCell ⟨g, 0, none⟩ v0).setCell ⟨g, 1, none⟩ v1)) (hg : wantedM ops m gd = some true) (hk : Blk w g T #[u0, u1]) (h1 : 30 ≠ T) (h2 : 3 ≠ T)
    (h : ∀ w', Put w w' g → Blk w' g T #[v0, v1] → wl P ops Q rest n m w') : wl P ops Q (⟨none, op, t, pos, aft, gd⟩ :: rest) n m w :=
  wl_none hr hg (h _ (put_two hk h1 h2) (blk2_put hk))
theorem wt2_put2 (ho : ops[i]? = some ⟨none, op, t, pos, aft, gd⟩) (hr : ∀ ρ, Reads m ρ → (execOp ρ ⟨none, op, t, pos, aft, gd⟩).run P w = .ok .skip ((w.setCell ⟨g, 0, none⟩ v0).setCell ⟨g, 1, none⟩ v1)) (hg : wantedM ops m gd = some true) (hk : Blk w g T #[u0, u1]) (h1 : 30 ≠ T) (h2 : 3 ≠ T)
    (h : ∀ w', Put w w' g → Blk w' g T #[v0, v1] → S w' ∧ wt P ops Q S r n m w') : wt P ops Q S ((i, 2) :: r) n m w := by
  obtain ⟨h3, h4⟩ := h _ (put_two hk h1 h2) (blk2_put hk)
  exact wt2_none ho hr hg h3 h4
theorem wt3_put2 (ho : ops[i]? = some ⟨none, op, t, pos, aft, gd⟩) (hr : ∀ ρ, Reads m ρ → (execOp ρ ⟨none, op, t, pos, aft, gd⟩).run P w = .ok .skip ((w.setCell ⟨g, 0, none⟩ v0).setCell ⟨g, 1, none⟩ v1)) (hg : wantedM ops m gd = some true) (hk : Blk w g T #[u0, u1]) (h1 : 30 ≠ T) (h2 : 3 ≠ T)
    (h : ∀ w', Put w w' g → Blk w' g T #[v0, v1] → wt P ops Q S r n m w') : wt P ops Q S ((i, 3) :: r) n m w :=
  wt3_none ho hr hg (h _ (put_two hk h1 h2) (blk2_put hk))
theorem wl_put7 {AG A : Option Addr} {nG cG c : Nat} {s : RS} {x0 x1 x2 x3 x4 x5 x6 : Value} (hr : ∀ ρ, Reads m ρ → (execOp ρ ⟨none, op, t, pos, aft, gd⟩).run P w = .ok .skip (put7 w g AG nG cG s A c)) (hg : wantedM ops m gd = some true) (hk : Blk w g 63 #[x0, x1, x2, x3, x4, x5, x6])
    (h : ∀ w', Put w w' g → Blk w' g 63 #[.int .i64 s.n, .slice A s.L.length c, .slice AG nG cG, .int .u64 (s.a.a.toNat : Int), .int .u64 (s.a.b.toNat : Int), .slice none 0 0, .bool s.closed] → wl P ops Q rest n m w') : wl P ops Q (⟨none, op, t, pos, aft, gd⟩ :: rest) n m w := by
  refine wl_none hr hg (h _ ?_ (put7_blk hk))
  have d1 : 30 ≠ 63 := by decide
  have d2 : 3 ≠ 63 := by decide
  exact (put_one hk d1 d2 0 _).trans ((put_one (hk.put 0 _) d1 d2 1 _).trans ((put_one ((hk.put 0 _).put 1 _) d1 d2 2 _).trans ((put_one (((hk.put 0 _).put 1 _).put 2 _) d1 d2 3 _).trans ((put_one ((((hk.put 0 _).put 1 _).put 2 _).put 3 _) d1 d2 4 _).trans ((put_one (((((hk.put 0 _).put 1 _).put 2 _).put 3 _).put 4 _) d1 d2 5 _).trans (put_one ((((((hk.put 0 _).put 1 _).put 2 _).put 3 _).put 4 _).put 5 _) d1 d2 6 _))))))
end
theorem in_07Check : Enters Try.prog 34 := enters_of Try.func34 (by kernel_rfl) rfl
theorem in_rEval : Enters Try.prog 20 := enters_of Try.func20 (by kernel_rfl) rfl
theorem in_encode : Enters Try.prog 35 := enters_of Try.func35 (by kernel_rfl) rfl
theorem in_rEncode : Enters Try.prog 14 := enters_of Try.func14 (by kernel_rfl) rfl
theorem in_rExtend : Enters Try.prog 18 := enters_of Try.func18 (by kernel_rfl) rfl
theorem in_tEncode : Enters Try.prog 13 := enters_of Try.func13 (by kernel_rfl) rfl
theorem in_tExtend : Enters Try.prog 17 := enters_of Try.func17 (by kernel_rfl) rfl
theorem in_lawLight : Enters Try.prog 11 := enters_of Try.func11 (by kernel_rfl) rfl
theorem in_lawWorks : Enters Try.prog 12 := enters_of Try.func12 (by kernel_rfl) rfl
theorem in_SameTheory : Enters Try.prog 15 := enters_of Try.func15 (by kernel_rfl) rfl
theorem in_SameInts : Enters Try.prog 16 := enters_of Try.func16 (by kernel_rfl) rfl
/-- What Encode gives back. -/
def EncodePost (r : EncR) (e : Ending) (w' : World) : Prop := ∃ A c AG nG cG, e = .returned (.tuple #[.agg #[.int .i64 r.n, .slice A r.L.length c], .slice AG nG cG, .int .i64 r.e]) ∧ RowsV w' w'.heap.size (.slice A r.L.length c) r.L ∧ IntsV w' w'.heap.size (.slice AG nG cG) r.gate
theorem refEncode_bad {N : Int} {gs : List Gate} (h : checkOf N gs ≠ 0) : refEncode N gs = EncR.err (checkOf N gs) := by unfold refEncode; rw [if_pos h]
theorem refEncode_none {N : Int} {gs : List Gate} (h : checkOf N gs = 0) (h2 : encRAll N gs VS.empty = none) : refEncode N gs = EncR.err 2 := by unfold refEncode; rw [if_neg (by simp [h]), h2]
theorem refEncode_some {N : Int} {gs : List Gate} (h : checkOf N gs = 0) {s : RS} {gate : List Int} (h2 : encRAll N gs VS.empty = some (s, gate)) : refEncode N gs = ⟨0, s.n, s.L, gate⟩ := by unfold refEncode; rw [if_neg (by simp [h]), h2]
theorem refExtend_no {N : Int} {gs : List Gate} {a : VS} (h : checkOf N gs ≠ 0 ∨ evalOf N gs a = false) : refExtend N gs a = (VS.empty, false) := by unfold refExtend; rw [if_pos h]
theorem refExtend_none {N : Int} {gs : List Gate} {a : VS} (h : checkOf N gs = 0) (hv : evalOf N gs a = true) (h2 : encRAll N gs a = none) : refExtend N gs a = (VS.empty, false) := by unfold refExtend; rw [if_neg (by simp [h, hv]), h2]
theorem refExtend_some {N : Int} {gs : List Gate} {a : VS} (h : checkOf N gs = 0) (hv : evalOf N gs a = true) {s : RS} {gate : List Int} (h2 : encRAll N gs a = some (s, gate)) : refExtend N gs a = (s.a, true) := by unfold refExtend; rw [if_neg (by simp [h, hv]), h2]
theorem rows_nil (w : World) (B : Nat) : RowsV w B (.slice none 0 0) [] := ⟨none, 0, rfl, by simp, by unfold maxLen; omega, fun h => by simp at h⟩

end Go.Proofs.Ytlifakbdgmdafaa

namespace Go.Proofs.Ytlifakbdgmdafaa
open Go Go.RowKit

set_option maxRecDepth 100000 in
set_option maxHeartbeats 1600000 in
theorem ref10_Encode (N : Int) (V : Value) (gs : List Gate) (w : World) (B : Nat) (hB : B ≤ w.heap.size) (hg : GatesV w B V gs) (hs : sizeOf gs ≤ 4611686018427387904) :
    Calls Try.prog 14 #[.agg #[.int .i64 N, V]] w fun e w' => EncodePost (refEncode N gs) e w' ∧ Below w.heap.size w w' := by
  obtain ⟨A0, c0, rfl, hl0, hm0, _⟩ := id hg
  obtain ⟨E0, hE⟩ : ∃ z, z = checkOf N gs := ⟨_, rfl⟩
  refine sx_enter (args := [.agg #[.int .i64 N, .slice A0 gs.length c0]]) Try.func14 rfl rfl (by simp) ?_
  refine cw_seq (fun FK1 K1 => ?_)
  refine cw_region ?_
  refine wl_new (fun ρ e => ex_boxCirc (e _ _ rfl)) rfl rfl (fun g2 w3 jb4 jk5 jg6 js7 => ?_)
  have hbw := jb4
  have hle_g2 : w.heap.size ≤ g2 := by omega
  have k_g2 := jk5
  refine wl_new (fun ρ e => ex_allocTheory) rfl rfl (fun g8 w9 jb10 jk11 jg12 js13 => ?_)
  have hle_g8 : w.heap.size ≤ g8 := by have := hbw.size; omega
  have hlt_g2_g8 : g2 < g8 := by have := k_g2.lt; omega
  replace hbw := hbw.trans (jb10.mono hbw.size)
  replace k_g2 := k_g2.keep jb10
  have k_g8 := jk11
  refine wl_val (v := .slice none 0 0) (fun ρ e => ex_assign (e _ _ rfl)) rfl rfl ?_
  refine wl_val (v := .int .i64 0) (fun ρ e => ex_assign (e _ _ rfl)) rfl rfl ?_
  refine wl_nil ?_
  refine xw_next K1 ?_
  refine cw_seq (fun FK14 K14 => ?_)
  refine cw_region ?_
  refine wl_val (v := .agg #[.int .i64 N, .slice A0 gs.length c0]) (fun ρ e => ex_circ (g := g2) (o := 0) (e _ _ rfl) (k_g2.cell 0) (k_g2.cell 1)) rfl rfl ?_
  refine wl_call (args := [.agg #[.int .i64 N, .slice A0 gs.length c0]]) in_07Check rfl rfl rfl ?_
  refine (ref07_check N _ gs _ B (Nat.le_trans hB hbw.size) (hg.below (hbw.mono hB)) hs).mono ?_
  rintro _ w15 ⟨rfl, hb⟩
  replace hbw := hbw.trans (hb.mono hbw.size)
  replace k_g2 := k_g2.keep hb
  replace k_g8 := k_g8.keep hb
  rw [← hE]
  refine ⟨_, rfl, ?_⟩
  refine wl_val (v := .int .i64 E0) (fun ρ e => ex_assign (e _ _ rfl)) rfl rfl ?_
  refine wl_nil ?_
  refine xw_next K14 ?_
  refine cw_seq (fun FK16 K16 => ?_)
  refine cw_seq (fun FK17 K17 => ?_)
  by_cases hc : E0 = 0
  · skip
    refine cw_region ?_
    refine wl_val (v := .int .i64 E0) (fun ρ e => ex_move (e _ _ rfl)) rfl rfl ?_
    refine wl_val (v := .bool false) (fun ρ e => ex_neqE0 (u := E0) (v := 0) (e _ _ rfl) (e _ _ rfl) hc) rfl rfl ?_
    refine wl_nil ?_
    refine xw_next K17 ?_
    refine cw_false rfl ?_
    refine cw_skip ?_
    refine xw_next K16 ?_
    refine cw_seq (fun FK18 K18 => ?_)
    refine cw_region ?_
    refine wl_val (v := .agg #[.int .i64 N, .slice A0 gs.length c0]) (fun ρ e => ex_circ (g := g2) (o := 0) (e _ _ rfl) (k_g2.cell 0) (k_g2.cell 1)) rfl rfl ?_
    refine wl_val (v := .agg #[.int .u64 0, .int .u64 0]) (fun ρ e => ex_buildSetZ) rfl rfl ?_
    refine wl_call (args := [.agg #[.int .i64 N, .slice A0 gs.length c0], .agg #[.int .u64 0, .int .u64 0]]) in_encode rfl rfl rfl ?_
    refine (ref10_encode N _ gs VS.empty _ B (Nat.le_trans hB hbw.size) (hg.below (hbw.mono hB)) (by rw [← hE]; exact hc)).mono ?_
    rintro _ w19 ⟨⟨s1, A1, c1, AG, nG, cG, E1, rfl, hpost⟩, hb⟩
    replace hbw := hbw.trans (hb.mono hbw.size)
    replace k_g2 := k_g2.keep hb
    replace k_g8 := k_g8.keep hb
    refine ⟨_, rfl, ?_⟩
    refine wl_val (v := .tuple #[.agg #[.int .i64 s1.n, .slice A1 s1.L.length c1, .slice AG nG cG, .int .u64 (s1.a.a.toNat : Int), .int .u64 (s1.a.b.toNat : Int), .slice none 0 0, .bool s1.closed], .int .i64 E1]) (fun ρ e => ex_move (e _ _ rfl)) rfl rfl ?_
    refine wl_val (v := .agg #[.int .i64 s1.n, .slice A1 s1.L.length c1, .slice AG nG cG, .int .u64 (s1.a.a.toNat : Int), .int .u64 (s1.a.b.toNat : Int), .slice none 0 0, .bool s1.closed]) (fun ρ e => ex_extract (vs := #[.agg #[.int .i64 s1.n, .slice A1 s1.L.length c1, .slice AG nG cG, .int .u64 (s1.a.a.toNat : Int), .int .u64 (s1.a.b.toNat : Int), .slice none 0 0, .bool s1.closed], .int .i64 E1]) (e _ _ rfl) rfl) rfl rfl ?_
    refine wl_val (v := .int .i64 E1) (fun ρ e => ex_extract (vs := #[.agg #[.int .i64 s1.n, .slice A1 s1.L.length c1, .slice AG nG cG, .int .u64 (s1.a.a.toNat : Int), .int .u64 (s1.a.b.toNat : Int), .slice none 0 0, .bool s1.closed], .int .i64 E1]) (e _ _ rfl) rfl) rfl rfl ?_
    refine wl_new (fun ρ e => ex_allocState) rfl rfl (fun g20 w21 jb22 jk23 jg24 js25 => ?_)
    have hle_g20 : w.heap.size ≤ g20 := by have := hbw.size; omega
    have hlt_g2_g20 : g2 < g20 := by have := k_g2.lt; omega
    have hlt_g8_g20 : g8 < g20 := by have := k_g8.lt; omega
    replace hbw := hbw.trans (jb22.mono hbw.size)
    replace k_g2 := k_g2.keep jb22
    replace k_g8 := k_g8.keep jb22
    replace hpost := hpost.below jb22
    have k_g20 := jk23
    refine wl_put7 (fun ρ e => ex_storeState (A := A1) (c := c1) (s := s1) (AG := AG) (nG := nG) (cG := cG) (e _ _ rfl) (e _ _ rfl) k_g20) rfl k_g20 (fun w26 hp k_g20' => ?_)
    replace hbw := hbw.trans (hp.below _ hle_g20)
    replace k_g2 := hp.far (by omega) k_g2
    replace k_g8 := hp.far (by omega) k_g8
    replace hpost := hpost.put hp
    replace k_g20 := k_g20'
    refine wl_val (v := .int .i64 E1) (fun ρ e => ex_assign (e _ _ rfl)) rfl rfl ?_
    refine wl_nil ?_
    refine xw_next K18 ?_
    refine cw_seq (fun FK27 K27 => ?_)
    refine cw_seq (fun FK28 K28 => ?_)
    rcases hpost with ⟨hnone, hE1⟩ | ⟨gate, hsome, hE1, hrows, hints⟩
    · skip
      refine cw_region ?_
      refine wl_val (v := .int .i64 E1) (fun ρ e => ex_move (e _ _ rfl)) rfl rfl ?_
      refine wl_val (v := .bool true) (fun ρ e => ex_neqE1 (u := E1) (v := 0) (e _ _ rfl) (e _ _ rfl) (by omega)) rfl rfl ?_
      refine wl_nil ?_
      refine xw_next K28 ?_
      refine cw_true rfl ?_
      refine cw_seq (fun FK29 K29 => ?_)
      refine cw_region ?_
      refine wl_val (v := .agg #[.int .i64 0, .slice none 0 0]) (fun ρ e => ex_buildTheoryZ) rfl rfl ?_
      refine wl_val (v := .int .i64 E1) (fun ρ e => ex_move (e _ _ rfl)) rfl rfl ?_
      refine wl_put2 (fun ρ e => ex_storeTheory (g := g8) (e _ _ rfl) (e _ _ rfl) k_g8) rfl k_g8 (by decide) (by decide) (fun w30 hp k_g8' => ?_)
      replace hbw := hbw.trans (hp.below _ hle_g8)
      replace k_g2 := hp.far (by omega) k_g2
      replace k_g20 := hp.far (by omega) k_g20
      replace k_g8 := k_g8'
      refine wl_val (v := .slice none 0 0) (fun ρ e => ex_assign (e _ _ rfl)) rfl rfl ?_
      refine wl_val (v := .int .i64 E1) (fun ρ e => ex_assign (e _ _ rfl)) rfl rfl ?_
      refine wl_nil ?_
      refine xw_next K29 ?_
      refine cw_ret ?_
      refine xw_past (by intro h; cases h) ?_
      refine xw_ret (v := .tuple #[.agg #[.int .i64 0, .slice none 0 0], .slice none 0 0, .int .i64 E1]) (fun T hT => ?_) ⟨?_, hbw⟩
      · have t2 := hT 2 _ rfl
        have t3 := hT 3 _ rfl
        have t4 := hT 4 _ rfl
        have r0 := k_g8.cell 0
        have r1 := k_g8.cell 1
        simp at r0 r1
        simp [results, Try.results14, go_sem, t2, t3, t4, r0, r1]
      · exact ⟨none, 0, none, 0, 0, by rw [refEncode_none (by rw [← hE]; exact hc) hnone, hE1]; rfl, by rw [refEncode_none (by rw [← hE]; exact hc) hnone]; exact rows_nil _ _, by rw [refEncode_none (by rw [← hE]; exact hc) hnone]; exact ints_nil _ _⟩
    · skip
      refine cw_region ?_
      refine wl_val (v := .int .i64 E1) (fun ρ e => ex_move (e _ _ rfl)) rfl rfl ?_
      refine wl_val (v := .bool false) (fun ρ e => ex_neqE0 (u := E1) (v := 0) (e _ _ rfl) (e _ _ rfl) hE1) rfl rfl ?_
      refine wl_nil ?_
      refine xw_next K28 ?_
      refine cw_false rfl ?_
      refine cw_skip ?_
      refine xw_next K27 ?_
      refine cw_seq (fun FK31 K31 => ?_)
      refine cw_drawn (fun Z => Blk Z g20 63 #[.int .i64 s1.n, .slice A1 s1.L.length c1, .slice AG nG cG, .int .u64 (s1.a.a.toNat : Int), .int .u64 (s1.a.b.toNat : Int), .slice none 0 0, .bool s1.closed]) 7 [(0, 1), (1, 0), (2, 1), (3, 0), (4, 2), (5, 2), (6, 2)] (by kernel_rfl) (by kernel_rfl) (PQ.then_ PQ.body) (k_g20.drew) ?_
      replace hbw := hbw.trans (((Below.refl _ _).drew).mono hbw.size)
      replace k_g2 := k_g2.keep ((Below.refl _ _).drew)
      replace k_g8 := k_g8.keep ((Below.refl _ _).drew)
      replace k_g20 := k_g20.keep ((Below.refl _ _).drew)
      replace hrows := hrows.below ((Below.refl _ _).drew)
      replace hints := hints.below ((Below.refl _ _).drew)
      refine wt1 (v := .pointer (some ⟨g20, 0, none⟩)) rfl (fun ρ e W => ex_stateF0 (g := g20) (o := 0) (e _ _ rfl)) rfl rfl ?_
      refine wt0 (v := .agg #[.int .i64 s1.n, .slice A1 s1.L.length c1]) rfl (fun ρ e W hW => ex_theory (g := g20) (o := 0) (e _ _ rfl) (hW.cell 0) (hW.cell 1)) rfl rfl ?_
      refine wt1 (v := .pointer (some ⟨g20, 2, none⟩)) rfl (fun ρ e W => ex_stateF1 (g := g20) (o := 0) (e _ _ rfl)) rfl rfl ?_
      refine wt0 (v := .slice AG nG cG) rfl (fun ρ e W hW => ex_ints (p := ⟨g20, 2, none⟩) (e _ _ rfl) (hW.cell 2)) rfl rfl ?_
      refine wt2_put2 rfl (fun ρ e => ex_storeTheory (g := g8) (e _ _ rfl) (e _ _ rfl) k_g8) rfl k_g8 (by decide) (by decide) (fun w32 hp k_g8' => ?_)
      replace hbw := hbw.trans (hp.below _ hle_g8)
      replace k_g2 := hp.far (by omega) k_g2
      replace k_g20 := hp.far (by omega) k_g20
      replace hrows := hp.rows hrows
      replace hints := hp.ints hints
      replace k_g8 := k_g8'
      refine ⟨k_g20, ?_⟩
      refine wt2 (v := .slice AG nG cG) rfl (fun ρ e => ex_assign (e _ _ rfl)) rfl rfl k_g20 ?_
      refine wt2 (v := .int .i64 0) rfl (fun ρ e => ex_assign (e _ _ rfl)) rfl rfl k_g20 ?_
      refine wt_nil ?_
      refine xw_next K31 ?_
      refine cw_ret ?_
      refine xw_ret (v := .tuple #[.agg #[.int .i64 s1.n, .slice A1 s1.L.length c1], .slice AG nG cG, .int .i64 0]) (fun T hT => ?_) ⟨?_, hbw⟩
      · have t2 := hT 2 _ rfl
        have t3 := hT 3 _ rfl
        have t4 := hT 4 _ rfl
        have r0 := k_g8.cell 0
        have r1 := k_g8.cell 1
        simp at r0 r1
        simp [results, Try.results14, go_sem, t2, t3, t4, r0, r1]
      · exact ⟨A1, c1, AG, nG, cG, by rw [refEncode_some (by rw [← hE]; exact hc) hsome], by rw [refEncode_some (by rw [← hE]; exact hc) hsome]; exact hrows.V, by rw [refEncode_some (by rw [← hE]; exact hc) hsome]; exact hints.V⟩
  · skip
    refine cw_region ?_
    refine wl_val (v := .int .i64 E0) (fun ρ e => ex_move (e _ _ rfl)) rfl rfl ?_
    refine wl_val (v := .bool true) (fun ρ e => ex_neqE1 (u := E0) (v := 0) (e _ _ rfl) (e _ _ rfl) hc) rfl rfl ?_
    refine wl_nil ?_
    refine xw_next K17 ?_
    refine cw_true rfl ?_
    refine cw_seq (fun FK33 K33 => ?_)
    refine cw_region ?_
    refine wl_val (v := .agg #[.int .i64 0, .slice none 0 0]) (fun ρ e => ex_buildTheoryZ) rfl rfl ?_
    refine wl_val (v := .int .i64 E0) (fun ρ e => ex_move (e _ _ rfl)) rfl rfl ?_
    refine wl_put2 (fun ρ e => ex_storeTheory (g := g8) (e _ _ rfl) (e _ _ rfl) k_g8) rfl k_g8 (by decide) (by decide) (fun w34 hp k_g8' => ?_)
    replace hbw := hbw.trans (hp.below _ hle_g8)
    replace k_g2 := hp.far (by omega) k_g2
    replace k_g8 := k_g8'
    refine wl_val (v := .slice none 0 0) (fun ρ e => ex_assign (e _ _ rfl)) rfl rfl ?_
    refine wl_val (v := .int .i64 E0) (fun ρ e => ex_assign (e _ _ rfl)) rfl rfl ?_
    refine wl_nil ?_
    refine xw_next K33 ?_
    refine cw_ret ?_
    refine xw_past (by intro h; cases h) ?_
    refine xw_ret (v := .tuple #[.agg #[.int .i64 0, .slice none 0 0], .slice none 0 0, .int .i64 E0]) (fun T hT => ?_) ⟨?_, hbw⟩
    · have t2 := hT 2 _ rfl
      have t3 := hT 3 _ rfl
      have t4 := hT 4 _ rfl
      have r0 := k_g8.cell 0
      have r1 := k_g8.cell 1
      simp at r0 r1
      simp [results, Try.results14, go_sem, t2, t3, t4, r0, r1]
    · exact ⟨none, 0, none, 0, 0, by rw [refEncode_bad (by rw [← hE]; exact hc), ← hE]; rfl, by rw [refEncode_bad (by rw [← hE]; exact hc)]; exact rows_nil _ _, by rw [refEncode_bad (by rw [← hE]; exact hc)]; exact ints_nil _ _⟩

set_option maxRecDepth 100000 in
set_option maxHeartbeats 1600000 in
theorem ref10_Extend (N : Int) (V : Value) (gs : List Gate) (a : VS) (w : World) (B : Nat) (hB : B ≤ w.heap.size) (hg : GatesV w B V gs) (hs : sizeOf gs ≤ 4611686018427387904) :
    Calls Try.prog 18 #[.agg #[.int .i64 N, V], (.agg #[.int .u64 ((a).a.toNat : Int), .int .u64 ((a).b.toNat : Int)])] w fun e w' => e = .returned (.tuple #[(.agg #[.int .u64 (((refExtend N gs a).1).a.toNat : Int), .int .u64 (((refExtend N gs a).1).b.toNat : Int)]), .bool (refExtend N gs a).2]) ∧ Below w.heap.size w w' := by
  obtain ⟨A0, c0, rfl, hl0, hm0, _⟩ := id hg
  obtain ⟨E0, hE⟩ : ∃ z, z = checkOf N gs := ⟨_, rfl⟩
  refine sx_enter (args := [.agg #[.int .i64 N, .slice A0 gs.length c0], .agg #[.int .u64 (a.a.toNat : Int), .int .u64 (a.b.toNat : Int)]]) Try.func18 rfl rfl (by simp) ?_
  refine cw_seq (fun FK1 K1 => ?_)
  refine cw_region ?_
  refine wl_new (fun ρ e => ex_boxCirc (e _ _ rfl)) rfl rfl (fun g2 w3 jb4 jk5 jg6 js7 => ?_)
  have hbw := jb4
  have hle_g2 : w.heap.size ≤ g2 := by omega
  have k_g2 := jk5
  refine wl_new (fun ρ e => ex_boxSet (e _ _ rfl)) rfl rfl (fun g8 w9 jb10 jk11 jg12 js13 => ?_)
  have hle_g8 : w.heap.size ≤ g8 := by have := hbw.size; omega
  have hlt_g2_g8 : g2 < g8 := by have := k_g2.lt; omega
  replace hbw := hbw.trans (jb10.mono hbw.size)
  replace k_g2 := k_g2.keep jb10
  have k_g8 := jk11
  refine wl_new (fun ρ e => ex_allocSet) rfl rfl (fun g14 w15 jb16 jk17 jg18 js19 => ?_)
  have hle_g14 : w.heap.size ≤ g14 := by have := hbw.size; omega
  have hlt_g2_g14 : g2 < g14 := by have := k_g2.lt; omega
  have hlt_g8_g14 : g8 < g14 := by have := k_g8.lt; omega
  replace hbw := hbw.trans (jb16.mono hbw.size)
  replace k_g2 := k_g2.keep jb16
  replace k_g8 := k_g8.keep jb16
  have k_g14 := jk17
  refine wl_val (v := .bool false) (fun ρ e => ex_assign (e _ _ rfl)) rfl rfl ?_
  refine wl_nil ?_
  refine xw_next K1 ?_
  refine cw_seq (fun FK20 K20 => ?_)
  refine cw_seq (fun FK21 K21 => ?_)
  by_cases hc : E0 = 0
  · skip
    cases hv : evalOf N gs a
    · skip
      refine cw_region ?_
      refine wl_val (v := .agg #[.int .i64 N, .slice A0 gs.length c0]) (fun ρ e => ex_circ (g := g2) (o := 0) (e _ _ rfl) (k_g2.cell 0) (k_g2.cell 1)) rfl rfl ?_
      refine wl_call (args := [.agg #[.int .i64 N, .slice A0 gs.length c0]]) in_07Check rfl rfl rfl ?_
      refine (ref07_check N _ gs _ B (Nat.le_trans hB hbw.size) (hg.below (hbw.mono hB)) hs).mono ?_
      rintro _ w22 ⟨rfl, hb⟩
      replace hbw := hbw.trans (hb.mono hbw.size)
      replace k_g2 := k_g2.keep hb
      replace k_g8 := k_g8.keep hb
      replace k_g14 := k_g14.keep hb
      rw [← hE]
      refine ⟨_, rfl, ?_⟩
      refine wl_val (v := .bool false) (fun ρ e => ex_neqE0 (u := E0) (v := 0) (e _ _ rfl) (e _ _ rfl) hc) rfl rfl ?_
      refine wl_val (v := .bool false) (fun ρ e => ex_move (e _ _ rfl)) rfl rfl ?_
      refine wl_val (v := .agg #[.int .i64 N, .slice A0 gs.length c0]) (fun ρ e => ex_circ (g := g2) (o := 0) (e _ _ rfl) (k_g2.cell 0) (k_g2.cell 1)) rfl rfl ?_
      refine wl_val (v := .agg #[.int .u64 (a.a.toNat : Int), .int .u64 (a.b.toNat : Int)]) (fun ρ e => ex_set (g := g8) (o := 0) (e _ _ rfl) (k_g8.cell 0) (k_g8.cell 1)) rfl rfl ?_
      refine wl_call (args := [.agg #[.int .i64 N, .slice A0 gs.length c0], .agg #[.int .u64 (a.a.toNat : Int), .int .u64 (a.b.toNat : Int)]]) in_rEval rfl rfl rfl ?_
      refine (ref07_eval N _ gs a _ B (Nat.le_trans hB hbw.size) (hg.below (hbw.mono hB)) hs).mono ?_
      rintro _ w23 ⟨rfl, hb⟩
      replace hbw := hbw.trans (hb.mono hbw.size)
      replace k_g2 := k_g2.keep hb
      replace k_g8 := k_g8.keep hb
      replace k_g14 := k_g14.keep hb
      rw [hv]
      refine ⟨_, rfl, ?_⟩
      refine wl_val (v := .bool true) (fun ρ e => ex_not (b := false) (e _ _ rfl)) rfl rfl ?_
      refine wl_val (v := .bool true) (fun ρ e => ex_pick0 (e _ _ rfl) (e _ _ rfl)) rfl rfl ?_
      refine wl_nil ?_
      refine xw_next K21 ?_
      refine cw_true rfl ?_
      refine cw_seq (fun FK24 K24 => ?_)
      refine cw_region ?_
      refine wl_val (v := .agg #[.int .u64 0, .int .u64 0]) (fun ρ e => ex_buildSetZ) rfl rfl ?_
      refine wl_put2 (fun ρ e => ex_storeSet (g := g14) (e _ _ rfl) (e _ _ rfl) k_g14) rfl k_g14 (by decide) (by decide) (fun w25 hp k_g14' => ?_)
      replace hbw := hbw.trans (hp.below _ hle_g14)
      replace k_g2 := hp.far (by omega) k_g2
      replace k_g8 := hp.far (by omega) k_g8
      replace k_g14 := k_g14'
      refine wl_val (v := .bool false) (fun ρ e => ex_assign (e _ _ rfl)) rfl rfl ?_
      refine wl_nil ?_
      refine xw_next K24 ?_
      refine cw_ret ?_
      refine xw_past (by intro h; cases h) ?_
      refine xw_ret (v := .tuple #[.agg #[.int .u64 0, .int .u64 0], .bool false]) (fun T hT => ?_) ⟨?_, hbw⟩
      · have t4 := hT 4 _ rfl
        have t5 := hT 5 _ rfl
        have r0 := k_g14.cell 0
        have r1 := k_g14.cell 1
        simp at r0 r1
        simp [results, Try.results18, go_sem, t4, t5, r0, r1]
      · rw [refExtend_no (.inr hv)]; rfl
    · skip
      refine cw_region ?_
      refine wl_val (v := .agg #[.int .i64 N, .slice A0 gs.length c0]) (fun ρ e => ex_circ (g := g2) (o := 0) (e _ _ rfl) (k_g2.cell 0) (k_g2.cell 1)) rfl rfl ?_
      refine wl_call (args := [.agg #[.int .i64 N, .slice A0 gs.length c0]]) in_07Check rfl rfl rfl ?_
      refine (ref07_check N _ gs _ B (Nat.le_trans hB hbw.size) (hg.below (hbw.mono hB)) hs).mono ?_
      rintro _ w26 ⟨rfl, hb⟩
      replace hbw := hbw.trans (hb.mono hbw.size)
      replace k_g2 := k_g2.keep hb
      replace k_g8 := k_g8.keep hb
      replace k_g14 := k_g14.keep hb
      rw [← hE]
      refine ⟨_, rfl, ?_⟩
      refine wl_val (v := .bool false) (fun ρ e => ex_neqE0 (u := E0) (v := 0) (e _ _ rfl) (e _ _ rfl) hc) rfl rfl ?_
      refine wl_val (v := .bool false) (fun ρ e => ex_move (e _ _ rfl)) rfl rfl ?_
      refine wl_val (v := .agg #[.int .i64 N, .slice A0 gs.length c0]) (fun ρ e => ex_circ (g := g2) (o := 0) (e _ _ rfl) (k_g2.cell 0) (k_g2.cell 1)) rfl rfl ?_
      refine wl_val (v := .agg #[.int .u64 (a.a.toNat : Int), .int .u64 (a.b.toNat : Int)]) (fun ρ e => ex_set (g := g8) (o := 0) (e _ _ rfl) (k_g8.cell 0) (k_g8.cell 1)) rfl rfl ?_
      refine wl_call (args := [.agg #[.int .i64 N, .slice A0 gs.length c0], .agg #[.int .u64 (a.a.toNat : Int), .int .u64 (a.b.toNat : Int)]]) in_rEval rfl rfl rfl ?_
      refine (ref07_eval N _ gs a _ B (Nat.le_trans hB hbw.size) (hg.below (hbw.mono hB)) hs).mono ?_
      rintro _ w27 ⟨rfl, hb⟩
      replace hbw := hbw.trans (hb.mono hbw.size)
      replace k_g2 := k_g2.keep hb
      replace k_g8 := k_g8.keep hb
      replace k_g14 := k_g14.keep hb
      rw [hv]
      refine ⟨_, rfl, ?_⟩
      refine wl_val (v := .bool false) (fun ρ e => ex_not (b := true) (e _ _ rfl)) rfl rfl ?_
      refine wl_val (v := .bool false) (fun ρ e => ex_pick0 (e _ _ rfl) (e _ _ rfl)) rfl rfl ?_
      refine wl_nil ?_
      refine xw_next K21 ?_
      refine cw_false rfl ?_
      refine cw_skip ?_
      refine xw_next K20 ?_
      refine cw_seq (fun FK28 K28 => ?_)
      refine cw_region ?_
      refine wl_val (v := .agg #[.int .i64 N, .slice A0 gs.length c0]) (fun ρ e => ex_circ (g := g2) (o := 0) (e _ _ rfl) (k_g2.cell 0) (k_g2.cell 1)) rfl rfl ?_
      refine wl_val (v := .agg #[.int .u64 (a.a.toNat : Int), .int .u64 (a.b.toNat : Int)]) (fun ρ e => ex_set (g := g8) (o := 0) (e _ _ rfl) (k_g8.cell 0) (k_g8.cell 1)) rfl rfl ?_
      refine wl_call (args := [.agg #[.int .i64 N, .slice A0 gs.length c0], .agg #[.int .u64 (a.a.toNat : Int), .int .u64 (a.b.toNat : Int)]]) in_encode rfl rfl rfl ?_
      refine (ref10_encode N _ gs a _ B (Nat.le_trans hB hbw.size) (hg.below (hbw.mono hB)) (by rw [← hE]; exact hc)).mono ?_
      rintro _ w29 ⟨⟨s1, A1, c1, AG, nG, cG, E1, rfl, hpost⟩, hb⟩
      replace hbw := hbw.trans (hb.mono hbw.size)
      replace k_g2 := k_g2.keep hb
      replace k_g8 := k_g8.keep hb
      replace k_g14 := k_g14.keep hb
      refine ⟨_, rfl, ?_⟩
      refine wl_val (v := .tuple #[.agg #[.int .i64 s1.n, .slice A1 s1.L.length c1, .slice AG nG cG, .int .u64 (s1.a.a.toNat : Int), .int .u64 (s1.a.b.toNat : Int), .slice none 0 0, .bool s1.closed], .int .i64 E1]) (fun ρ e => ex_move (e _ _ rfl)) rfl rfl ?_
      refine wl_val (v := .agg #[.int .i64 s1.n, .slice A1 s1.L.length c1, .slice AG nG cG, .int .u64 (s1.a.a.toNat : Int), .int .u64 (s1.a.b.toNat : Int), .slice none 0 0, .bool s1.closed]) (fun ρ e => ex_extract (vs := #[.agg #[.int .i64 s1.n, .slice A1 s1.L.length c1, .slice AG nG cG, .int .u64 (s1.a.a.toNat : Int), .int .u64 (s1.a.b.toNat : Int), .slice none 0 0, .bool s1.closed], .int .i64 E1]) (e _ _ rfl) rfl) rfl rfl ?_
      refine wl_val (v := .int .i64 E1) (fun ρ e => ex_extract (vs := #[.agg #[.int .i64 s1.n, .slice A1 s1.L.length c1, .slice AG nG cG, .int .u64 (s1.a.a.toNat : Int), .int .u64 (s1.a.b.toNat : Int), .slice none 0 0, .bool s1.closed], .int .i64 E1]) (e _ _ rfl) rfl) rfl rfl ?_
      refine wl_new (fun ρ e => ex_allocState) rfl rfl (fun g30 w31 jb32 jk33 jg34 js35 => ?_)
      have hle_g30 : w.heap.size ≤ g30 := by have := hbw.size; omega
      have hlt_g2_g30 : g2 < g30 := by have := k_g2.lt; omega
      have hlt_g8_g30 : g8 < g30 := by have := k_g8.lt; omega
      have hlt_g14_g30 : g14 < g30 := by have := k_g14.lt; omega
      replace hbw := hbw.trans (jb32.mono hbw.size)
      replace k_g2 := k_g2.keep jb32
      replace k_g8 := k_g8.keep jb32
      replace k_g14 := k_g14.keep jb32
      replace hpost := hpost.below jb32
      have k_g30 := jk33
      refine wl_put7 (fun ρ e => ex_storeState (A := A1) (c := c1) (s := s1) (AG := AG) (nG := nG) (cG := cG) (e _ _ rfl) (e _ _ rfl) k_g30) rfl k_g30 (fun w36 hp k_g30' => ?_)
      replace hbw := hbw.trans (hp.below _ hle_g30)
      replace k_g2 := hp.far (by omega) k_g2
      replace k_g8 := hp.far (by omega) k_g8
      replace k_g14 := hp.far (by omega) k_g14
      replace hpost := hpost.put hp
      replace k_g30 := k_g30'
      refine wl_val (v := .int .i64 E1) (fun ρ e => ex_assign (e _ _ rfl)) rfl rfl ?_
      refine wl_nil ?_
      refine xw_next K28 ?_
      refine cw_seq (fun FK37 K37 => ?_)
      refine cw_seq (fun FK38 K38 => ?_)
      rcases hpost with ⟨hnone, hE1⟩ | ⟨gate, hsome, hE1, hrows, hints⟩
      · skip
        refine cw_region ?_
        refine wl_val (v := .int .i64 E1) (fun ρ e => ex_move (e _ _ rfl)) rfl rfl ?_
        refine wl_val (v := .bool true) (fun ρ e => ex_neqE1 (u := E1) (v := 0) (e _ _ rfl) (e _ _ rfl) (by omega)) rfl rfl ?_
        refine wl_nil ?_
        refine xw_next K38 ?_
        refine cw_true rfl ?_
        refine cw_seq (fun FK39 K39 => ?_)
        refine cw_region ?_
        refine wl_val (v := .agg #[.int .u64 0, .int .u64 0]) (fun ρ e => ex_buildSetZ) rfl rfl ?_
        refine wl_put2 (fun ρ e => ex_storeSet (g := g14) (e _ _ rfl) (e _ _ rfl) k_g14) rfl k_g14 (by decide) (by decide) (fun w40 hp k_g14' => ?_)
        replace hbw := hbw.trans (hp.below _ hle_g14)
        replace k_g2 := hp.far (by omega) k_g2
        replace k_g8 := hp.far (by omega) k_g8
        replace k_g30 := hp.far (by omega) k_g30
        replace k_g14 := k_g14'
        refine wl_val (v := .bool false) (fun ρ e => ex_assign (e _ _ rfl)) rfl rfl ?_
        refine wl_nil ?_
        refine xw_next K39 ?_
        refine cw_ret ?_
        refine xw_past (by intro h; cases h) ?_
        refine xw_ret (v := .tuple #[.agg #[.int .u64 0, .int .u64 0], .bool false]) (fun T hT => ?_) ⟨?_, hbw⟩
        · have t4 := hT 4 _ rfl
          have t5 := hT 5 _ rfl
          have r0 := k_g14.cell 0
          have r1 := k_g14.cell 1
          simp at r0 r1
          simp [results, Try.results18, go_sem, t4, t5, r0, r1]
        · rw [refExtend_none (by rw [← hE]; exact hc) hv hnone]; rfl
      · skip
        refine cw_region ?_
        refine wl_val (v := .int .i64 E1) (fun ρ e => ex_move (e _ _ rfl)) rfl rfl ?_
        refine wl_val (v := .bool false) (fun ρ e => ex_neqE0 (u := E1) (v := 0) (e _ _ rfl) (e _ _ rfl) hE1) rfl rfl ?_
        refine wl_nil ?_
        refine xw_next K38 ?_
        refine cw_false rfl ?_
        refine cw_skip ?_
        refine xw_next K37 ?_
        refine cw_seq (fun FK41 K41 => ?_)
        refine cw_region ?_
        refine wl_val (v := .pointer (some ⟨g30, 3, none⟩)) (fun ρ e => ex_stateF2 (g := g30) (o := 0) (e _ _ rfl)) rfl rfl ?_
        refine wl_val (v := .agg #[.int .u64 (s1.a.a.toNat : Int), .int .u64 (s1.a.b.toNat : Int)]) (fun ρ e => ex_set (g := g30) (o := 3) (e _ _ rfl) (k_g30.cell 3) (k_g30.cell 4)) rfl rfl ?_
        refine wl_put2 (fun ρ e => ex_storeSet (g := g14) (e _ _ rfl) (e _ _ rfl) k_g14) rfl k_g14 (by decide) (by decide) (fun w42 hp k_g14' => ?_)
        replace hbw := hbw.trans (hp.below _ hle_g14)
        replace k_g2 := hp.far (by omega) k_g2
        replace k_g8 := hp.far (by omega) k_g8
        replace k_g30 := hp.far (by omega) k_g30
        replace hrows := hp.rows hrows
        replace hints := hp.ints hints
        replace k_g14 := k_g14'
        refine wl_val (v := .bool true) (fun ρ e => ex_assign (e _ _ rfl)) rfl rfl ?_
        refine wl_nil ?_
        refine xw_next K41 ?_
        refine cw_ret ?_
        refine xw_ret (v := .tuple #[.agg #[.int .u64 (s1.a.a.toNat : Int), .int .u64 (s1.a.b.toNat : Int)], .bool true]) (fun T hT => ?_) ⟨?_, hbw⟩
        · have t4 := hT 4 _ rfl
          have t5 := hT 5 _ rfl
          have r0 := k_g14.cell 0
          have r1 := k_g14.cell 1
          simp at r0 r1
          simp [results, Try.results18, go_sem, t4, t5, r0, r1]
        · rw [refExtend_some (by rw [← hE]; exact hc) hv hsome]
  · skip
    refine cw_region ?_
    refine wl_val (v := .agg #[.int .i64 N, .slice A0 gs.length c0]) (fun ρ e => ex_circ (g := g2) (o := 0) (e _ _ rfl) (k_g2.cell 0) (k_g2.cell 1)) rfl rfl ?_
    refine wl_call (args := [.agg #[.int .i64 N, .slice A0 gs.length c0]]) in_07Check rfl rfl rfl ?_
    refine (ref07_check N _ gs _ B (Nat.le_trans hB hbw.size) (hg.below (hbw.mono hB)) hs).mono ?_
    rintro _ w43 ⟨rfl, hb⟩
    replace hbw := hbw.trans (hb.mono hbw.size)
    replace k_g2 := k_g2.keep hb
    replace k_g8 := k_g8.keep hb
    replace k_g14 := k_g14.keep hb
    rw [← hE]
    refine ⟨_, rfl, ?_⟩
    refine wl_val (v := .bool true) (fun ρ e => ex_neqE1 (u := E0) (v := 0) (e _ _ rfl) (e _ _ rfl) hc) rfl rfl ?_
    refine wl_val (v := .bool true) (fun ρ e => ex_move (e _ _ rfl)) rfl rfl ?_
    refine wl_skip rfl rfl ?_
    refine wl_skip rfl rfl ?_
    refine wl_skip rfl rfl ?_
    refine wl_skip rfl rfl ?_
    refine wl_val (v := .bool true) (fun ρ e => ex_pick1 (e _ _ rfl) (e _ _ rfl)) rfl rfl ?_
    refine wl_nil ?_
    refine xw_next K21 ?_
    refine cw_true rfl ?_
    refine cw_seq (fun FK44 K44 => ?_)
    refine cw_region ?_
    refine wl_val (v := .agg #[.int .u64 0, .int .u64 0]) (fun ρ e => ex_buildSetZ) rfl rfl ?_
    refine wl_put2 (fun ρ e => ex_storeSet (g := g14) (e _ _ rfl) (e _ _ rfl) k_g14) rfl k_g14 (by decide) (by decide) (fun w45 hp k_g14' => ?_)
    replace hbw := hbw.trans (hp.below _ hle_g14)
    replace k_g2 := hp.far (by omega) k_g2
    replace k_g8 := hp.far (by omega) k_g8
    replace k_g14 := k_g14'
    refine wl_val (v := .bool false) (fun ρ e => ex_assign (e _ _ rfl)) rfl rfl ?_
    refine wl_nil ?_
    refine xw_next K44 ?_
    refine cw_ret ?_
    refine xw_past (by intro h; cases h) ?_
    refine xw_ret (v := .tuple #[.agg #[.int .u64 0, .int .u64 0], .bool false]) (fun T hT => ?_) ⟨?_, hbw⟩
    · have t4 := hT 4 _ rfl
      have t5 := hT 5 _ rfl
      have r0 := k_g14.cell 0
      have r1 := k_g14.cell 1
      simp at r0 r1
      simp [results, Try.results18, go_sem, t4, t5, r0, r1]
    · rw [refExtend_no (.inl (by rw [← hE]; exact hc))]; rfl
end Go.Proofs.Ytlifakbdgmdafaa
