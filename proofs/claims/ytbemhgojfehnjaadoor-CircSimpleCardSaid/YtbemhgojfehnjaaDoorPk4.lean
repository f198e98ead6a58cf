/-
  Lemmas and contracts, joined: Ciff Fold2 Ops3 Ops4 Crules FoldP.
-/
import Derived.Test.YtbemhgojfehnjaaDoorPk3
namespace Go.Proofs.YtbemhgojfehnjaaDoor
open Go Go.RowKit
section
variable {W : World} {f m c : Nat} {R : Option Addr} {D DI : Nat → Prop} {L : List Gate} {vs : List Value} {V GV : Value} {kind lit : Int}
theorem same_ {ins : List Int} (O0 : Own (zone (foldE f m R c D L vs ++ [inE DI V ins])) W W (foldE f m R c D L vs ++ [inE DI V ins])) (hk : smallI kind) (hl : smallI lit) (hL : L.length ≤ 1000000) :
    Calls Tryd.prog 60 #[.pointer (some ⟨f, 0, none⟩), .agg #[.int .i64 kind, .int .i64 lit, GV], V] W (FPost (foldE f m R c D L vs ++ [inE DI V ins]) W f m (findG L ⟨kind, lit, []⟩)) := by
  refine sx_enter (args := [.pointer (some ⟨f, 0, none⟩), .agg #[.int .i64 kind, .int .i64 lit, GV], V]) Tryd.func60 rfl rfl (by simp) ?_
  refine cw_seq (fun FK1 K1 => ?_)
  refine cw_region ?_
  obtain ⟨g2, w3, r4, O5, hg6, hs7⟩ := own_box O0 38 (.agg #[.int .i64 kind, .int .i64 lit, GV]) rfl
  refine wl_val (v := .pointer (some ⟨g2, 0, none⟩)) (fun ρ e => r4 ρ _ _ _ _ _ _ (e _ _ rfl)) rfl rfl ?_
  refine wl_val (v := .int .i64 0) (fun ρ e => ex_assign (e _ _ rfl)) rfl rfl ?_
  refine wl_nil ?_
  refine xw_next K1 ?_
  refine cw_seq (fun FK8 K8 => ?_)
  refine cw_region ?_
  refine wl_val (v := .pointer (some ⟨f, 0, none⟩)) (fun ρ e => ex_move (e _ _ rfl)) rfl rfl ?_
  refine wl_val (v := .pointer (some ⟨g2, 0, none⟩)) (fun ρ e => ex_field (q := 0) fi38_0 (e _ _ rfl) rfl) rfl rfl ?_
  refine wl_val (v := .int .i64 kind) (fun ρ e => ex_load1 ty3 (e _ _ rfl) (O5.cell 0 0 rfl rfl)) rfl rfl ?_
  refine wl_val (v := .pointer (some ⟨g2, 1, none⟩)) (fun ρ e => ex_field (q := 1) fi38_1 (e _ _ rfl) rfl) rfl rfl ?_
  refine wl_val (v := .int .i64 lit) (fun ρ e => ex_load1 ty3 (e _ _ rfl) (O5.cell 0 1 rfl rfl)) rfl rfl ?_
  refine wl_val (v := .agg #[.int .i64 kind, .int .i64 lit, .slice none 0 0]) (fun ρ e => ex_build (cells := #[.int .i64 kind, .int .i64 lit, .slice none 0 0]) st38 (e.parts rfl) rfl) rfl rfl ?_
  refine wl_call (args := [.pointer (some ⟨f, 0, none⟩), .agg #[.int .i64 kind, .int .i64 lit, .slice none 0 0]]) in_80 rfl rfl rfl ?_
  have O9 : Own (zone (foldE f m R c D L vs ++ [inE DI V ins])) W w3 [.ro (fun _ => False) (fun w => IntsD (fun _ => False) w (.slice none 0 0) ([])), .blk g2 38 #[.int .i64 kind, .int .i64 lit, GV], .blk f 56 #[.slice R L.length c, .map (some m)], .map m (encL strE (keysGo L 0)), .row (.slice R L.length c) 38 3 L.length (gcells L vs), .ro D (Ins D L vs), .ro TabD Tab, .ro DI (fun w => IntsD DI w V ins)] := O5.nilin
  refine (call_find (f := f) (m := m) (R := R) (c := c) (D := D) (L := L) (vs := vs) (D2 := (fun _ => False)) (V := .slice none 0 0) (g := ⟨kind, lit, []⟩) (rest := [.blk g2 38 #[.int .i64 kind, .int .i64 lit, GV], .ro DI (fun w => IntsD DI w V ins)]) (O9.re [2, 3, 4, 5, 6, 0, 1, 7] rfl : Own (zone (foldE f m R c D L vs ++ [inE DI V ins])) W w3 [.blk f 56 #[.slice R L.length c, .map (some m)], .map m (encL strE (keysGo L 0)), .row (.slice R L.length c) 38 3 L.length (gcells L vs), .ro D (Ins D L vs), .ro TabD Tab, .ro (fun _ => False) (fun w => IntsD (fun _ => False) w (.slice none 0 0) ([])), .blk g2 38 #[.int .i64 kind, .int .i64 lit, GV], .ro DI (fun w => IntsD DI w V ins)]) (small_c hk hl) hL).mono ?_
  rintro _ w10 ⟨R11, c12, D13, vs14, rfl, O15⟩
  refine ⟨_, rfl, ?_⟩
  refine wl_val (v := .int .i64 ((findG L ⟨kind, lit, []⟩).2)) (fun ρ e => ex_assign (e _ _ rfl)) rfl rfl ?_
  refine wl_nil ?_
  refine xw_next K8 ?_
  refine cw_ret ?_
  refine xw_ret (v := .int .i64 ((findG L ⟨kind, lit, []⟩).2)) (fun T hT => res1 rfl T _ (hT 6 _ rfl)) ?_
  exact FPost.eq ⟨_, _, _, _, rfl, (O15.re [0, 1, 2, 3, 4] rfl : Own (zone (foldE f m R c D L vs ++ [inE DI V ins])) W w10 [.blk f 56 #[.slice R11 (((findG L ⟨kind, lit, []⟩).1).length) c12, .map (some m)], .map m (encL strE (keysGo ((findG L ⟨kind, lit, []⟩).1) 0)), .row (.slice R11 (((findG L ⟨kind, lit, []⟩).1).length) c12) 38 3 (((findG L ⟨kind, lit, []⟩).1).length) (gcells ((findG L ⟨kind, lit, []⟩).1) vs14), .ro D13 (Ins D13 ((findG L ⟨kind, lit, []⟩).1) vs14), .ro TabD Tab])⟩ rfl
theorem complement_ {a : Int} (O0 : Own (zone (foldE f m R c D L vs ++ [inE DI V [a]])) W W (foldE f m R c D L vs ++ [inE DI V [a]])) (ha : 0 ≤ a ∧ a < L.length) (ok : okGs L) (hL : L.length ≤ 1000000) :
    Calls Tryd.prog 61 #[.pointer (some ⟨f, 0, none⟩), .agg #[.int .i64 kind, .int .i64 lit, GV], V] W (FPost (foldE f m R c D L vs ++ [inE DI V [a]]) W f m (notG L a)) := by
  obtain ⟨bI, oI, cJ, rfl⟩ : ∃ b o c, V = .slice (some ⟨b, o, none⟩) 1 c := IntsD.form (O0.ro 5 rfl : IntsD DI W V [a]) (Nat.lt_of_lt_of_le (Nat.lt_succ_self _) (Nat.le_of_ble_eq_true rfl))
  refine sx_enter (args := [.pointer (some ⟨f, 0, none⟩), .agg #[.int .i64 kind, .int .i64 lit, GV], .slice (some ⟨bI, oI, none⟩) 1 cJ]) Tryd.func61 rfl rfl (by simp) ?_
  refine cw_seq (fun FK1 K1 => ?_)
  refine cw_region ?_
  obtain ⟨g2, w3, r4, O5, hg6, hs7⟩ := own_box O0 38 (.agg #[.int .i64 kind, .int .i64 lit, GV]) rfl
  refine wl_val (v := .pointer (some ⟨g2, 0, none⟩)) (fun ρ e => r4 ρ _ _ _ _ _ _ (e _ _ rfl)) rfl rfl ?_
  refine wl_val (v := .int .i64 0) (fun ρ e => ex_assign (e _ _ rfl)) rfl rfl ?_
  refine wl_nil ?_
  refine xw_next K1 ?_
  refine cw_seq (fun FK8 K8 => ?_)
  refine cw_region ?_
  refine wl_val (v := .pointer (some ⟨f, 0, none⟩)) (fun ρ e => ex_move (e _ _ rfl)) rfl rfl ?_
  refine wl_val (v := .slice (some ⟨bI, oI, none⟩) 1 cJ) (fun ρ e => ex_move (e _ _ rfl)) rfl rfl ?_
  refine wl_val (v := .pointer (some ⟨bI, oI, none⟩)) (fun ρ e => ex_idx (q := oI) (i := 0) el36 (e _ _ rfl) (e _ _ rfl) (by omega) (by omega)) rfl rfl ?_
  refine wl_val (v := .int .i64 a) (fun ρ e => ex_load1 ty3 (e _ _ rfl) (IntsD.cell (O5.ro 6 rfl : IntsD DI _ (.slice (some ⟨bI, oI, none⟩) 1 cJ) [a]) (k := 0) (Nat.lt_of_lt_of_le (Nat.lt_succ_self _) (Nat.le_of_ble_eq_true rfl)))) rfl rfl ?_
  refine wl_call (args := [.pointer (some ⟨f, 0, none⟩), .int .i64 a]) in_81 rfl rfl rfl ?_
  refine (FPost.use (A := foldE f m R c D L vs) (rest := [.blk g2 38 #[.int .i64 kind, .int .i64 lit, GV], .ro DI (fun w => IntsD DI w (.slice (some ⟨bI, oI, none⟩) 1 cJ) [a])]) (O5.re [1, 2, 3, 4, 5, 0, 6] rfl : Own (zone (foldE f m R c D L vs ++ [inE DI (.slice (some ⟨bI, oI, none⟩) 1 cJ) [a]])) W w3 [.blk f 56 #[.slice R L.length c, .map (some m)], .map m (encL strE (keysGo L 0)), .row (.slice R L.length c) 38 3 L.length (gcells L vs), .ro D (Ins D L vs), .ro TabD Tab, .blk g2 38 #[.int .i64 kind, .int .i64 lit, GV], .ro DI (fun w => IntsD DI w (.slice (some ⟨bI, oI, none⟩) 1 cJ) [a])]) (not_ (Own.hand (A := foldE f m R c D L vs) (R := [.blk g2 38 #[.int .i64 kind, .int .i64 lit, GV], .ro DI (fun w => IntsD DI w (.slice (some ⟨bI, oI, none⟩) 1 cJ) [a])]) (O5.re [1, 2, 3, 4, 5, 0, 6] rfl : Own (zone (foldE f m R c D L vs ++ [inE DI (.slice (some ⟨bI, oI, none⟩) 1 cJ) [a]])) W w3 [.blk f 56 #[.slice R L.length c, .map (some m)], .map m (encL strE (keysGo L 0)), .row (.slice R L.length c) 38 3 L.length (gcells L vs), .ro D (Ins D L vs), .ro TabD Tab, .blk g2 38 #[.int .i64 kind, .int .i64 lit, GV], .ro DI (fun w => IntsD DI w (.slice (some ⟨bI, oI, none⟩) 1 cJ) [a])])) (by omega) ok hL)).mono ?_
  rintro _ w9 ⟨R10, c11, D12, vs13, rfl, O14⟩
  refine ⟨_, rfl, ?_⟩
  refine wl_val (v := .int .i64 ((notG L a).2)) (fun ρ e => ex_assign (e _ _ rfl)) rfl rfl ?_
  refine wl_nil ?_
  refine xw_next K8 ?_
  refine cw_ret ?_
  refine xw_ret (v := .int .i64 ((notG L a).2)) (fun T hT => res1 rfl T _ (hT 6 _ rfl)) ?_
  exact FPost.eq ⟨_, _, _, _, rfl, (O14.re [0, 1, 2, 3, 4] rfl : Own (zone (foldE f m R c D L vs ++ [inE DI (.slice (some ⟨bI, oI, none⟩) 1 cJ) [a]])) W w9 [.blk f 56 #[.slice R10 (((notG L a).1).length) c11, .map (some m)], .map m (encL strE (keysGo ((notG L a).1) 0)), .row (.slice R10 (((notG L a).1).length) c11) 38 3 (((notG L a).1).length) (gcells ((notG L a).1) vs13), .ro D12 (Ins D12 ((notG L a).1) vs13), .ro TabD Tab])⟩ rfl
theorem iff_ {a b : Int} (O0 : Own (zone (foldE f m R c D L vs ++ [inE DI V [a, b]])) W W (foldE f m R c D L vs ++ [inE DI V [a, b]])) (ha : 0 ≤ a ∧ a < L.length) (hb : 0 ≤ b ∧ b < L.length) (ok : okGs L) (hL : L.length ≤ 1000000) :
    Calls Tryd.prog 64 #[.pointer (some ⟨f, 0, none⟩), .agg #[.int .i64 kind, .int .i64 lit, GV], V] W (FPost (foldE f m R c D L vs ++ [inE DI V [a, b]]) W f m (iffG L a b)) := by
  obtain ⟨bI, oI, cJ, rfl⟩ : ∃ b o c, V = .slice (some ⟨b, o, none⟩) 2 c := IntsD.form (O0.ro 5 rfl : IntsD DI W V [a, b]) (Nat.lt_of_lt_of_le (Nat.lt_succ_self _) (Nat.le_of_ble_eq_true rfl))
  refine sx_enter (args := [.pointer (some ⟨f, 0, none⟩), .agg #[.int .i64 kind, .int .i64 lit, GV], .slice (some ⟨bI, oI, none⟩) 2 cJ]) Tryd.func64 rfl rfl (by simp) ?_
  refine cw_seq (fun FK1 K1 => ?_)
  refine cw_region ?_
  obtain ⟨g2, w3, r4, O5, hg6, hs7⟩ := own_box O0 38 (.agg #[.int .i64 kind, .int .i64 lit, GV]) rfl
  refine wl_val (v := .pointer (some ⟨g2, 0, none⟩)) (fun ρ e => r4 ρ _ _ _ _ _ _ (e _ _ rfl)) rfl rfl ?_
  refine wl_val (v := .int .i64 0) (fun ρ e => ex_assign (e _ _ rfl)) rfl rfl ?_
  refine wl_nil ?_
  refine xw_next K1 ?_
  refine cw_seq (fun FK8 K8 => ?_)
  refine cw_drawn (fun X => Own (zone (foldE f m R c D L vs ++ [inE DI (.slice (some ⟨bI, oI, none⟩) 2 cJ) [a, b]])) W X [.blk g2 38 #[.int .i64 kind, .int .i64 lit, GV], .blk f 56 #[.slice R L.length c, .map (some m)], .ro D (Ins D L vs), .ro TabD Tab, .ro DI (fun w => IntsD DI w (.slice (some ⟨bI, oI, none⟩) 2 cJ) [a, b])]) 8 [(0, 1), (1, 1), (2, 0), (3, 1), (4, 1), (5, 0), (6, 2), (7, 2)] (by kernel_rfl) (by kernel_rfl) (PQ.then_ PQ.body) ((O5.re [0, 1, 4, 5, 6] rfl : Own (zone (foldE f m R c D L vs ++ [inE DI (.slice (some ⟨bI, oI, none⟩) 2 cJ) [a, b]])) W w3 [.blk g2 38 #[.int .i64 kind, .int .i64 lit, GV], .blk f 56 #[.slice R L.length c, .map (some m)], .ro D (Ins D L vs), .ro TabD Tab, .ro DI (fun w => IntsD DI w (.slice (some ⟨bI, oI, none⟩) 2 cJ) [a, b])])).drew ?_
  have O9 : Own (zone (foldE f m R c D L vs ++ [inE DI (.slice (some ⟨bI, oI, none⟩) 2 cJ) [a, b]])) W w3.drew [.blk g2 38 #[.int .i64 kind, .int .i64 lit, GV], .blk f 56 #[.slice R L.length c, .map (some m)], .map m (encL strE (keysGo L 0)), .row (.slice R L.length c) 38 3 L.length (gcells L vs), .ro D (Ins D L vs), .ro TabD Tab, .ro DI (fun w => IntsD DI w (.slice (some ⟨bI, oI, none⟩) 2 cJ) [a, b])] := O5.drew
  refine wt1 (v := .slice (some ⟨bI, oI, none⟩) 2 cJ) rfl (fun ρ e W => ex_move (e _ _ rfl)) rfl rfl ?_
  refine wt1 (v := .pointer (some ⟨bI, oI, none⟩)) rfl (fun ρ e W => ex_idx (q := oI) (i := 0) el36 (e _ _ rfl) (e _ _ rfl) (by omega) (by omega)) rfl rfl ?_
  refine wt0 (v := .int .i64 a) rfl (fun ρ e W hW => ex_load1 ty3 (e _ _ rfl) (IntsD.cell (hW.ro 4 rfl : IntsD DI _ (.slice (some ⟨bI, oI, none⟩) 2 cJ) [a, b]) (k := 0) (Nat.lt_of_lt_of_le (Nat.lt_succ_self _) (Nat.le_of_ble_eq_true rfl)))) rfl rfl ?_
  refine wt1 (v := .slice (some ⟨bI, oI, none⟩) 2 cJ) rfl (fun ρ e W => ex_move (e _ _ rfl)) rfl rfl ?_
  refine wt1 (v := .pointer (some ⟨bI, oI + 1, none⟩)) rfl (fun ρ e W => ex_idx (q := oI + 1) (i := 1) el36 (e _ _ rfl) (e _ _ rfl) (by omega) (by omega)) rfl rfl ?_
  refine wt0 (v := .int .i64 b) rfl (fun ρ e W hW => ex_load1 ty3 (e _ _ rfl) (IntsD.cell (hW.ro 4 rfl : IntsD DI _ (.slice (some ⟨bI, oI, none⟩) 2 cJ) [a, b]) (k := 1) (Nat.lt_of_lt_of_le (Nat.lt_succ_self _) (Nat.le_of_ble_eq_true rfl)))) rfl rfl ?_
  refine wt2 (v := .int .i64 a) rfl (fun ρ e => ex_assign (e _ _ rfl)) rfl rfl (O9.re [0, 1, 4, 5, 6] rfl : Own (zone (foldE f m R c D L vs ++ [inE DI (.slice (some ⟨bI, oI, none⟩) 2 cJ) [a, b]])) W w3.drew [.blk g2 38 #[.int .i64 kind, .int .i64 lit, GV], .blk f 56 #[.slice R L.length c, .map (some m)], .ro D (Ins D L vs), .ro TabD Tab, .ro DI (fun w => IntsD DI w (.slice (some ⟨bI, oI, none⟩) 2 cJ) [a, b])]) ?_
  refine wt2 (v := .int .i64 b) rfl (fun ρ e => ex_assign (e _ _ rfl)) rfl rfl (O9.re [0, 1, 4, 5, 6] rfl : Own (zone (foldE f m R c D L vs ++ [inE DI (.slice (some ⟨bI, oI, none⟩) 2 cJ) [a, b]])) W w3.drew [.blk g2 38 #[.int .i64 kind, .int .i64 lit, GV], .blk f 56 #[.slice R L.length c, .map (some m)], .ro D (Ins D L vs), .ro TabD Tab, .ro DI (fun w => IntsD DI w (.slice (some ⟨bI, oI, none⟩) 2 cJ) [a, b])]) ?_
  refine wt_nil ?_
  refine xw_next K8 ?_
  refine cw_seq (fun FK10 K10 => ?_)
  refine cw_block ?_
  refine cw_seq (fun FK11 K11 => ?_)
  refine cw_region ?_
  refine wl_val (v := .int .i64 a) (fun ρ e => ex_move (e _ _ rfl)) rfl rfl ?_
  refine wl_val (v := .int .i64 b) (fun ρ e => ex_move (e _ _ rfl)) rfl rfl ?_
  by_cases c12 : a = b
  · skip
    refine wl_val (v := .bool true) (fun ρ e => ex_cmp (u := a) (v := b) (e _ _ rfl) (e _ _ rfl) (eql1 (by omega))) rfl rfl ?_
    refine wl_val (v := .bool true) (fun ρ e => ex_assign (e _ _ rfl)) rfl rfl ?_
    refine wl_nil ?_
    refine xw_next K11 ?_
    refine cw_true rfl ?_
    refine cw_seq (fun FK13 K13 => ?_)
    refine cw_region ?_
    refine wl_val (v := .pointer (some ⟨f, 0, none⟩)) (fun ρ e => ex_move (e _ _ rfl)) rfl rfl ?_
    refine wl_val (v := .agg #[.int .i64 1, .int .i64 0, .slice none 0 0]) (fun ρ e => ex_build (cells := #[.int .i64 1, .int .i64 0, .slice none 0 0]) st38 (e.parts rfl) rfl) rfl rfl ?_
    refine wl_call (args := [.pointer (some ⟨f, 0, none⟩), .agg #[.int .i64 1, .int .i64 0, .slice none 0 0]]) in_80 rfl rfl rfl ?_
    have O14 : Own (zone (foldE f m R c D L vs ++ [inE DI (.slice (some ⟨bI, oI, none⟩) 2 cJ) [a, b]])) W w3.drew [.ro (fun _ => False) (fun w => IntsD (fun _ => False) w (.slice none 0 0) ([])), .blk g2 38 #[.int .i64 kind, .int .i64 lit, GV], .blk f 56 #[.slice R L.length c, .map (some m)], .map m (encL strE (keysGo L 0)), .row (.slice R L.length c) 38 3 L.length (gcells L vs), .ro D (Ins D L vs), .ro TabD Tab, .ro DI (fun w => IntsD DI w (.slice (some ⟨bI, oI, none⟩) 2 cJ) [a, b])] := O9.nilin
    refine (call_find (f := f) (m := m) (R := R) (c := c) (D := D) (L := L) (vs := vs) (D2 := (fun _ => False)) (V := .slice none 0 0) (g := ⟨1, 0, []⟩) (rest := [.blk g2 38 #[.int .i64 kind, .int .i64 lit, GV], .ro DI (fun w => IntsD DI w (.slice (some ⟨bI, oI, none⟩) 2 cJ) [a, b])]) (O14.re [2, 3, 4, 5, 6, 0, 1, 7] rfl : Own (zone (foldE f m R c D L vs ++ [inE DI (.slice (some ⟨bI, oI, none⟩) 2 cJ) [a, b]])) W w3.drew [.blk f 56 #[.slice R L.length c, .map (some m)], .map m (encL strE (keysGo L 0)), .row (.slice R L.length c) 38 3 L.length (gcells L vs), .ro D (Ins D L vs), .ro TabD Tab, .ro (fun _ => False) (fun w => IntsD (fun _ => False) w (.slice none 0 0) ([])), .blk g2 38 #[.int .i64 kind, .int .i64 lit, GV], .ro DI (fun w => IntsD DI w (.slice (some ⟨bI, oI, none⟩) 2 cJ) [a, b])]) (small_c (smallI_lit 1 rfl) (smallI_lit 0 rfl)) hL).mono ?_
    rintro _ w15 ⟨R16, c17, D18, vs19, rfl, O20⟩
    refine ⟨_, rfl, ?_⟩
    refine wl_val (v := .int .i64 ((findG L ⟨1, 0, []⟩).2)) (fun ρ e => ex_assign (e _ _ rfl)) rfl rfl ?_
    refine wl_nil ?_
    refine xw_next K13 ?_
    refine cw_ret ?_
    refine xw_blockret ?_
    refine xw_past (by intro h; cases h) ?_
    refine xw_ret (v := .int .i64 ((findG L ⟨1, 0, []⟩).2)) (fun T hT => res1 rfl T _ (hT 6 _ rfl)) ?_
    exact FPost.eq ⟨_, _, _, _, rfl, (O20.re [0, 1, 2, 3, 4] rfl : Own (zone (foldE f m R c D L vs ++ [inE DI (.slice (some ⟨bI, oI, none⟩) 2 cJ) [a, b]])) W w15 [.blk f 56 #[.slice R16 (((findG L ⟨1, 0, []⟩).1).length) c17, .map (some m)], .map m (encL strE (keysGo ((findG L ⟨1, 0, []⟩).1) 0)), .row (.slice R16 (((findG L ⟨1, 0, []⟩).1).length) c17) 38 3 (((findG L ⟨1, 0, []⟩).1).length) (gcells ((findG L ⟨1, 0, []⟩).1) vs19), .ro D18 (Ins D18 ((findG L ⟨1, 0, []⟩).1) vs19), .ro TabD Tab])⟩ (by rw [iffG, if_pos c12])
  · skip
    refine wl_val (v := .bool false) (fun ρ e => ex_cmp (u := a) (v := b) (e _ _ rfl) (e _ _ rfl) (eql0 (by omega))) rfl rfl ?_
    refine wl_val (v := .bool false) (fun ρ e => ex_assign (e _ _ rfl)) rfl rfl ?_
    refine wl_nil ?_
    refine xw_next K11 ?_
    refine cw_false rfl ?_
    refine cw_seq (fun FK21 K21 => ?_)
    refine cw_region ?_
    refine wl_val (v := .pointer (some ⟨f, 0, none⟩)) (fun ρ e => ex_move (e _ _ rfl)) rfl rfl ?_
    refine wl_val (v := .int .i64 a) (fun ρ e => ex_move (e _ _ rfl)) rfl rfl ?_
    by_cases c22 : kindAt L a = 1
    · skip
      refine wl_call (args := [.pointer (some ⟨f, 0, none⟩), .int .i64 a, .int .i64 1]) in_82 rfl rfl rfl ?_
      refine (is1 (f := f) (m := m) (R := R) (c := c) (D := D) (L := L) (vs := vs) (rest := [.blk g2 38 #[.int .i64 kind, .int .i64 lit, GV], .ro DI (fun w => IntsD DI w (.slice (some ⟨bI, oI, none⟩) 2 cJ) [a, b])]) (O9.re [1, 2, 3, 4, 5, 0, 6] rfl : Own (zone (foldE f m R c D L vs ++ [inE DI (.slice (some ⟨bI, oI, none⟩) 2 cJ) [a, b]])) W w3.drew [.blk f 56 #[.slice R L.length c, .map (some m)], .map m (encL strE (keysGo L 0)), .row (.slice R L.length c) 38 3 L.length (gcells L vs), .ro D (Ins D L vs), .ro TabD Tab, .blk g2 38 #[.int .i64 kind, .int .i64 lit, GV], .ro DI (fun w => IntsD DI w (.slice (some ⟨bI, oI, none⟩) 2 cJ) [a, b])]) (by omega) c22).mono ?_
      rintro _ w23 ⟨rfl, hb24⟩
      have O25 : Own (zone (foldE f m R c D L vs ++ [inE DI (.slice (some ⟨bI, oI, none⟩) 2 cJ) [a, b]])) W w23 [.blk g2 38 #[.int .i64 kind, .int .i64 lit, GV], .blk f 56 #[.slice R L.length c, .map (some m)], .map m (encL strE (keysGo L 0)), .row (.slice R L.length c) 38 3 L.length (gcells L vs), .ro D (Ins D L vs), .ro TabD Tab, .ro DI (fun w => IntsD DI w (.slice (some ⟨bI, oI, none⟩) 2 cJ) [a, b])] := O9.below hb24
      refine ⟨_, rfl, ?_⟩
      refine wl_val (v := .bool true) (fun ρ e => ex_assign (e _ _ rfl)) rfl rfl ?_
      refine wl_nil ?_
      refine xw_next K21 ?_
      refine cw_true rfl ?_
      refine cw_seq (fun FK26 K26 => ?_)
      refine cw_region ?_
      refine wl_val (v := .int .i64 b) (fun ρ e => ex_move (e _ _ rfl)) rfl rfl ?_
      refine wl_val (v := .int .i64 b) (fun ρ e => ex_assign (e _ _ rfl)) rfl rfl ?_
      refine wl_nil ?_
      refine xw_next K26 ?_
      refine cw_ret ?_
      refine xw_blockret ?_
      refine xw_past (by intro h; cases h) ?_
      refine xw_ret (v := .int .i64 b) (fun T hT => res1 rfl T _ (hT 6 _ rfl)) ?_
      exact FPost.eq (q' := (L, b)) ⟨_, _, _, _, rfl, (O25.re [1, 2, 3, 4, 5] rfl : Own (zone (foldE f m R c D L vs ++ [inE DI (.slice (some ⟨bI, oI, none⟩) 2 cJ) [a, b]])) W w23 [.blk f 56 #[.slice R L.length c, .map (some m)], .map m (encL strE (keysGo L 0)), .row (.slice R L.length c) 38 3 L.length (gcells L vs), .ro D (Ins D L vs), .ro TabD Tab])⟩ (by rw [iffG, if_neg c12, if_pos c22])
    · skip
      refine wl_call (args := [.pointer (some ⟨f, 0, none⟩), .int .i64 a, .int .i64 1]) in_82 rfl rfl rfl ?_
      refine (is0 (f := f) (m := m) (R := R) (c := c) (D := D) (L := L) (vs := vs) (rest := [.blk g2 38 #[.int .i64 kind, .int .i64 lit, GV], .ro DI (fun w => IntsD DI w (.slice (some ⟨bI, oI, none⟩) 2 cJ) [a, b])]) (O9.re [1, 2, 3, 4, 5, 0, 6] rfl : Own (zone (foldE f m R c D L vs ++ [inE DI (.slice (some ⟨bI, oI, none⟩) 2 cJ) [a, b]])) W w3.drew [.blk f 56 #[.slice R L.length c, .map (some m)], .map m (encL strE (keysGo L 0)), .row (.slice R L.length c) 38 3 L.length (gcells L vs), .ro D (Ins D L vs), .ro TabD Tab, .blk g2 38 #[.int .i64 kind, .int .i64 lit, GV], .ro DI (fun w => IntsD DI w (.slice (some ⟨bI, oI, none⟩) 2 cJ) [a, b])]) (by omega) c22).mono ?_
      rintro _ w27 ⟨rfl, hb28⟩
      have O29 : Own (zone (foldE f m R c D L vs ++ [inE DI (.slice (some ⟨bI, oI, none⟩) 2 cJ) [a, b]])) W w27 [.blk g2 38 #[.int .i64 kind, .int .i64 lit, GV], .blk f 56 #[.slice R L.length c, .map (some m)], .map m (encL strE (keysGo L 0)), .row (.slice R L.length c) 38 3 L.length (gcells L vs), .ro D (Ins D L vs), .ro TabD Tab, .ro DI (fun w => IntsD DI w (.slice (some ⟨bI, oI, none⟩) 2 cJ) [a, b])] := O9.below hb28
      refine ⟨_, rfl, ?_⟩
      refine wl_val (v := .bool false) (fun ρ e => ex_assign (e _ _ rfl)) rfl rfl ?_
      refine wl_nil ?_
      refine xw_next K21 ?_
      refine cw_false rfl ?_
      refine cw_seq (fun FK30 K30 => ?_)
      refine cw_region ?_
      refine wl_val (v := .pointer (some ⟨f, 0, none⟩)) (fun ρ e => ex_move (e _ _ rfl)) rfl rfl ?_
      refine wl_val (v := .int .i64 b) (fun ρ e => ex_move (e _ _ rfl)) rfl rfl ?_
      by_cases c31 : kindAt L b = 1
      · skip
        refine wl_call (args := [.pointer (some ⟨f, 0, none⟩), .int .i64 b, .int .i64 1]) in_82 rfl rfl rfl ?_
        refine (is1 (f := f) (m := m) (R := R) (c := c) (D := D) (L := L) (vs := vs) (rest := [.blk g2 38 #[.int .i64 kind, .int .i64 lit, GV], .ro DI (fun w => IntsD DI w (.slice (some ⟨bI, oI, none⟩) 2 cJ) [a, b])]) (O29.re [1, 2, 3, 4, 5, 0, 6] rfl : Own (zone (foldE f m R c D L vs ++ [inE DI (.slice (some ⟨bI, oI, none⟩) 2 cJ) [a, b]])) W w27 [.blk f 56 #[.slice R L.length c, .map (some m)], .map m (encL strE (keysGo L 0)), .row (.slice R L.length c) 38 3 L.length (gcells L vs), .ro D (Ins D L vs), .ro TabD Tab, .blk g2 38 #[.int .i64 kind, .int .i64 lit, GV], .ro DI (fun w => IntsD DI w (.slice (some ⟨bI, oI, none⟩) 2 cJ) [a, b])]) (by omega) c31).mono ?_
        rintro _ w32 ⟨rfl, hb33⟩
        have O34 : Own (zone (foldE f m R c D L vs ++ [inE DI (.slice (some ⟨bI, oI, none⟩) 2 cJ) [a, b]])) W w32 [.blk g2 38 #[.int .i64 kind, .int .i64 lit, GV], .blk f 56 #[.slice R L.length c, .map (some m)], .map m (encL strE (keysGo L 0)), .row (.slice R L.length c) 38 3 L.length (gcells L vs), .ro D (Ins D L vs), .ro TabD Tab, .ro DI (fun w => IntsD DI w (.slice (some ⟨bI, oI, none⟩) 2 cJ) [a, b])] := O29.below hb33
        refine ⟨_, rfl, ?_⟩
        refine wl_val (v := .bool true) (fun ρ e => ex_assign (e _ _ rfl)) rfl rfl ?_
        refine wl_nil ?_
        refine xw_next K30 ?_
        refine cw_true rfl ?_
        refine cw_seq (fun FK35 K35 => ?_)
        refine cw_region ?_
        refine wl_val (v := .int .i64 a) (fun ρ e => ex_move (e _ _ rfl)) rfl rfl ?_
        refine wl_val (v := .int .i64 a) (fun ρ e => ex_assign (e _ _ rfl)) rfl rfl ?_
        refine wl_nil ?_
        refine xw_next K35 ?_
        refine cw_ret ?_
        refine xw_blockret ?_
        refine xw_past (by intro h; cases h) ?_
        refine xw_ret (v := .int .i64 a) (fun T hT => res1 rfl T _ (hT 6 _ rfl)) ?_
        exact FPost.eq (q' := (L, a)) ⟨_, _, _, _, rfl, (O34.re [1, 2, 3, 4, 5] rfl : Own (zone (foldE f m R c D L vs ++ [inE DI (.slice (some ⟨bI, oI, none⟩) 2 cJ) [a, b]])) W w32 [.blk f 56 #[.slice R L.length c, .map (some m)], .map m (encL strE (keysGo L 0)), .row (.slice R L.length c) 38 3 L.length (gcells L vs), .ro D (Ins D L vs), .ro TabD Tab])⟩ (by rw [iffG, if_neg c12, if_neg c22, if_pos c31])
      · skip
        refine wl_call (args := [.pointer (some ⟨f, 0, none⟩), .int .i64 b, .int .i64 1]) in_82 rfl rfl rfl ?_
        refine (is0 (f := f) (m := m) (R := R) (c := c) (D := D) (L := L) (vs := vs) (rest := [.blk g2 38 #[.int .i64 kind, .int .i64 lit, GV], .ro DI (fun w => IntsD DI w (.slice (some ⟨bI, oI, none⟩) 2 cJ) [a, b])]) (O29.re [1, 2, 3, 4, 5, 0, 6] rfl : Own (zone (foldE f m R c D L vs ++ [inE DI (.slice (some ⟨bI, oI, none⟩) 2 cJ) [a, b]])) W w27 [.blk f 56 #[.slice R L.length c, .map (some m)], .map m (encL strE (keysGo L 0)), .row (.slice R L.length c) 38 3 L.length (gcells L vs), .ro D (Ins D L vs), .ro TabD Tab, .blk g2 38 #[.int .i64 kind, .int .i64 lit, GV], .ro DI (fun w => IntsD DI w (.slice (some ⟨bI, oI, none⟩) 2 cJ) [a, b])]) (by omega) c31).mono ?_
        rintro _ w36 ⟨rfl, hb37⟩
        have O38 : Own (zone (foldE f m R c D L vs ++ [inE DI (.slice (some ⟨bI, oI, none⟩) 2 cJ) [a, b]])) W w36 [.blk g2 38 #[.int .i64 kind, .int .i64 lit, GV], .blk f 56 #[.slice R L.length c, .map (some m)], .map m (encL strE (keysGo L 0)), .row (.slice R L.length c) 38 3 L.length (gcells L vs), .ro D (Ins D L vs), .ro TabD Tab, .ro DI (fun w => IntsD DI w (.slice (some ⟨bI, oI, none⟩) 2 cJ) [a, b])] := O29.below hb37
        refine ⟨_, rfl, ?_⟩
        refine wl_val (v := .bool false) (fun ρ e => ex_assign (e _ _ rfl)) rfl rfl ?_
        refine wl_nil ?_
        refine xw_next K30 ?_
        refine cw_false rfl ?_
        refine cw_seq (fun FK39 K39 => ?_)
        refine cw_region ?_
        refine wl_val (v := .pointer (some ⟨f, 0, none⟩)) (fun ρ e => ex_move (e _ _ rfl)) rfl rfl ?_
        refine wl_val (v := .int .i64 a) (fun ρ e => ex_move (e _ _ rfl)) rfl rfl ?_
        by_cases c40 : kindAt L a = 0
        · skip
          refine wl_call (args := [.pointer (some ⟨f, 0, none⟩), .int .i64 a, .int .i64 0]) in_82 rfl rfl rfl ?_
          refine (is1 (f := f) (m := m) (R := R) (c := c) (D := D) (L := L) (vs := vs) (rest := [.blk g2 38 #[.int .i64 kind, .int .i64 lit, GV], .ro DI (fun w => IntsD DI w (.slice (some ⟨bI, oI, none⟩) 2 cJ) [a, b])]) (O38.re [1, 2, 3, 4, 5, 0, 6] rfl : Own (zone (foldE f m R c D L vs ++ [inE DI (.slice (some ⟨bI, oI, none⟩) 2 cJ) [a, b]])) W w36 [.blk f 56 #[.slice R L.length c, .map (some m)], .map m (encL strE (keysGo L 0)), .row (.slice R L.length c) 38 3 L.length (gcells L vs), .ro D (Ins D L vs), .ro TabD Tab, .blk g2 38 #[.int .i64 kind, .int .i64 lit, GV], .ro DI (fun w => IntsD DI w (.slice (some ⟨bI, oI, none⟩) 2 cJ) [a, b])]) (by omega) c40).mono ?_
          rintro _ w41 ⟨rfl, hb42⟩
          have O43 : Own (zone (foldE f m R c D L vs ++ [inE DI (.slice (some ⟨bI, oI, none⟩) 2 cJ) [a, b]])) W w41 [.blk g2 38 #[.int .i64 kind, .int .i64 lit, GV], .blk f 56 #[.slice R L.length c, .map (some m)], .map m (encL strE (keysGo L 0)), .row (.slice R L.length c) 38 3 L.length (gcells L vs), .ro D (Ins D L vs), .ro TabD Tab, .ro DI (fun w => IntsD DI w (.slice (some ⟨bI, oI, none⟩) 2 cJ) [a, b])] := O38.below hb42
          refine ⟨_, rfl, ?_⟩
          refine wl_val (v := .bool true) (fun ρ e => ex_assign (e _ _ rfl)) rfl rfl ?_
          refine wl_nil ?_
          refine xw_next K39 ?_
          refine cw_true rfl ?_
          refine cw_seq (fun FK44 K44 => ?_)
          refine cw_region ?_
          refine wl_val (v := .pointer (some ⟨f, 0, none⟩)) (fun ρ e => ex_move (e _ _ rfl)) rfl rfl ?_
          refine wl_val (v := .int .i64 b) (fun ρ e => ex_move (e _ _ rfl)) rfl rfl ?_
          refine wl_call (args := [.pointer (some ⟨f, 0, none⟩), .int .i64 b]) in_81 rfl rfl rfl ?_
          refine (FPost.use (A := foldE f m R c D L vs) (rest := [.blk g2 38 #[.int .i64 kind, .int .i64 lit, GV], .ro DI (fun w => IntsD DI w (.slice (some ⟨bI, oI, none⟩) 2 cJ) [a, b])]) (O43.re [1, 2, 3, 4, 5, 0, 6] rfl : Own (zone (foldE f m R c D L vs ++ [inE DI (.slice (some ⟨bI, oI, none⟩) 2 cJ) [a, b]])) W w41 [.blk f 56 #[.slice R L.length c, .map (some m)], .map m (encL strE (keysGo L 0)), .row (.slice R L.length c) 38 3 L.length (gcells L vs), .ro D (Ins D L vs), .ro TabD Tab, .blk g2 38 #[.int .i64 kind, .int .i64 lit, GV], .ro DI (fun w => IntsD DI w (.slice (some ⟨bI, oI, none⟩) 2 cJ) [a, b])]) (not_ (Own.hand (A := foldE f m R c D L vs) (R := [.blk g2 38 #[.int .i64 kind, .int .i64 lit, GV], .ro DI (fun w => IntsD DI w (.slice (some ⟨bI, oI, none⟩) 2 cJ) [a, b])]) (O43.re [1, 2, 3, 4, 5, 0, 6] rfl : Own (zone (foldE f m R c D L vs ++ [inE DI (.slice (some ⟨bI, oI, none⟩) 2 cJ) [a, b]])) W w41 [.blk f 56 #[.slice R L.length c, .map (some m)], .map m (encL strE (keysGo L 0)), .row (.slice R L.length c) 38 3 L.length (gcells L vs), .ro D (Ins D L vs), .ro TabD Tab, .blk g2 38 #[.int .i64 kind, .int .i64 lit, GV], .ro DI (fun w => IntsD DI w (.slice (some ⟨bI, oI, none⟩) 2 cJ) [a, b])])) (by omega) ok hL)).mono ?_
          rintro _ w45 ⟨R46, c47, D48, vs49, rfl, O50⟩
          refine ⟨_, rfl, ?_⟩
          refine wl_val (v := .int .i64 ((notG L b).2)) (fun ρ e => ex_assign (e _ _ rfl)) rfl rfl ?_
          refine wl_nil ?_
          refine xw_next K44 ?_
          refine cw_ret ?_
          refine xw_blockret ?_
          refine xw_past (by intro h; cases h) ?_
          refine xw_ret (v := .int .i64 ((notG L b).2)) (fun T hT => res1 rfl T _ (hT 6 _ rfl)) ?_
          exact FPost.eq ⟨_, _, _, _, rfl, (O50.re [0, 1, 2, 3, 4] rfl : Own (zone (foldE f m R c D L vs ++ [inE DI (.slice (some ⟨bI, oI, none⟩) 2 cJ) [a, b]])) W w45 [.blk f 56 #[.slice R46 (((notG L b).1).length) c47, .map (some m)], .map m (encL strE (keysGo ((notG L b).1) 0)), .row (.slice R46 (((notG L b).1).length) c47) 38 3 (((notG L b).1).length) (gcells ((notG L b).1) vs49), .ro D48 (Ins D48 ((notG L b).1) vs49), .ro TabD Tab])⟩ (by rw [iffG, if_neg c12, if_neg c22, if_neg c31, if_pos c40])
        · skip
          refine wl_call (args := [.pointer (some ⟨f, 0, none⟩), .int .i64 a, .int .i64 0]) in_82 rfl rfl rfl ?_
          refine (is0 (f := f) (m := m) (R := R) (c := c) (D := D) (L := L) (vs := vs) (rest := [.blk g2 38 #[.int .i64 kind, .int .i64 lit, GV], .ro DI (fun w => IntsD DI w (.slice (some ⟨bI, oI, none⟩) 2 cJ) [a, b])]) (O38.re [1, 2, 3, 4, 5, 0, 6] rfl : Own (zone (foldE f m R c D L vs ++ [inE DI (.slice (some ⟨bI, oI, none⟩) 2 cJ) [a, b]])) W w36 [.blk f 56 #[.slice R L.length c, .map (some m)], .map m (encL strE (keysGo L 0)), .row (.slice R L.length c) 38 3 L.length (gcells L vs), .ro D (Ins D L vs), .ro TabD Tab, .blk g2 38 #[.int .i64 kind, .int .i64 lit, GV], .ro DI (fun w => IntsD DI w (.slice (some ⟨bI, oI, none⟩) 2 cJ) [a, b])]) (by omega) c40).mono ?_
          rintro _ w51 ⟨rfl, hb52⟩
          have O53 : Own (zone (foldE f m R c D L vs ++ [inE DI (.slice (some ⟨bI, oI, none⟩) 2 cJ) [a, b]])) W w51 [.blk g2 38 #[.int .i64 kind, .int .i64 lit, GV], .blk f 56 #[.slice R L.length c, .map (some m)], .map m (encL strE (keysGo L 0)), .row (.slice R L.length c) 38 3 L.length (gcells L vs), .ro D (Ins D L vs), .ro TabD Tab, .ro DI (fun w => IntsD DI w (.slice (some ⟨bI, oI, none⟩) 2 cJ) [a, b])] := O38.below hb52
          refine ⟨_, rfl, ?_⟩
          refine wl_val (v := .bool false) (fun ρ e => ex_assign (e _ _ rfl)) rfl rfl ?_
          refine wl_nil ?_
          refine xw_next K39 ?_
          refine cw_false rfl ?_
          refine cw_seq (fun FK54 K54 => ?_)
          refine cw_region ?_
          refine wl_val (v := .pointer (some ⟨f, 0, none⟩)) (fun ρ e => ex_move (e _ _ rfl)) rfl rfl ?_
          refine wl_val (v := .int .i64 b) (fun ρ e => ex_move (e _ _ rfl)) rfl rfl ?_
          by_cases c55 : kindAt L b = 0
          · skip
            refine wl_call (args := [.pointer (some ⟨f, 0, none⟩), .int .i64 b, .int .i64 0]) in_82 rfl rfl rfl ?_
            refine (is1 (f := f) (m := m) (R := R) (c := c) (D := D) (L := L) (vs := vs) (rest := [.blk g2 38 #[.int .i64 kind, .int .i64 lit, GV], .ro DI (fun w => IntsD DI w (.slice (some ⟨bI, oI, none⟩) 2 cJ) [a, b])]) (O53.re [1, 2, 3, 4, 5, 0, 6] rfl : Own (zone (foldE f m R c D L vs ++ [inE DI (.slice (some ⟨bI, oI, none⟩) 2 cJ) [a, b]])) W w51 [.blk f 56 #[.slice R L.length c, .map (some m)], .map m (encL strE (keysGo L 0)), .row (.slice R L.length c) 38 3 L.length (gcells L vs), .ro D (Ins D L vs), .ro TabD Tab, .blk g2 38 #[.int .i64 kind, .int .i64 lit, GV], .ro DI (fun w => IntsD DI w (.slice (some ⟨bI, oI, none⟩) 2 cJ) [a, b])]) (by omega) c55).mono ?_
            rintro _ w56 ⟨rfl, hb57⟩
            have O58 : Own (zone (foldE f m R c D L vs ++ [inE DI (.slice (some ⟨bI, oI, none⟩) 2 cJ) [a, b]])) W w56 [.blk g2 38 #[.int .i64 kind, .int .i64 lit, GV], .blk f 56 #[.slice R L.length c, .map (some m)], .map m (encL strE (keysGo L 0)), .row (.slice R L.length c) 38 3 L.length (gcells L vs), .ro D (Ins D L vs), .ro TabD Tab, .ro DI (fun w => IntsD DI w (.slice (some ⟨bI, oI, none⟩) 2 cJ) [a, b])] := O53.below hb57
            refine ⟨_, rfl, ?_⟩
            refine wl_val (v := .bool true) (fun ρ e => ex_assign (e _ _ rfl)) rfl rfl ?_
            refine wl_nil ?_
            refine xw_next K54 ?_
            refine cw_true rfl ?_
            refine cw_seq (fun FK59 K59 => ?_)
            refine cw_region ?_
            refine wl_val (v := .pointer (some ⟨f, 0, none⟩)) (fun ρ e => ex_move (e _ _ rfl)) rfl rfl ?_
            refine wl_val (v := .int .i64 a) (fun ρ e => ex_move (e _ _ rfl)) rfl rfl ?_
            refine wl_call (args := [.pointer (some ⟨f, 0, none⟩), .int .i64 a]) in_81 rfl rfl rfl ?_
            refine (FPost.use (A := foldE f m R c D L vs) (rest := [.blk g2 38 #[.int .i64 kind, .int .i64 lit, GV], .ro DI (fun w => IntsD DI w (.slice (some ⟨bI, oI, none⟩) 2 cJ) [a, b])]) (O58.re [1, 2, 3, 4, 5, 0, 6] rfl : Own (zone (foldE f m R c D L vs ++ [inE DI (.slice (some ⟨bI, oI, none⟩) 2 cJ) [a, b]])) W w56 [.blk f 56 #[.slice R L.length c, .map (some m)], .map m (encL strE (keysGo L 0)), .row (.slice R L.length c) 38 3 L.length (gcells L vs), .ro D (Ins D L vs), .ro TabD Tab, .blk g2 38 #[.int .i64 kind, .int .i64 lit, GV], .ro DI (fun w => IntsD DI w (.slice (some ⟨bI, oI, none⟩) 2 cJ) [a, b])]) (not_ (Own.hand (A := foldE f m R c D L vs) (R := [.blk g2 38 #[.int .i64 kind, .int .i64 lit, GV], .ro DI (fun w => IntsD DI w (.slice (some ⟨bI, oI, none⟩) 2 cJ) [a, b])]) (O58.re [1, 2, 3, 4, 5, 0, 6] rfl : Own (zone (foldE f m R c D L vs ++ [inE DI (.slice (some ⟨bI, oI, none⟩) 2 cJ) [a, b]])) W w56 [.blk f 56 #[.slice R L.length c, .map (some m)], .map m (encL strE (keysGo L 0)), .row (.slice R L.length c) 38 3 L.length (gcells L vs), .ro D (Ins D L vs), .ro TabD Tab, .blk g2 38 #[.int .i64 kind, .int .i64 lit, GV], .ro DI (fun w => IntsD DI w (.slice (some ⟨bI, oI, none⟩) 2 cJ) [a, b])])) (by omega) ok hL)).mono ?_
            rintro _ w60 ⟨R61, c62, D63, vs64, rfl, O65⟩
            refine ⟨_, rfl, ?_⟩
            refine wl_val (v := .int .i64 ((notG L a).2)) (fun ρ e => ex_assign (e _ _ rfl)) rfl rfl ?_
            refine wl_nil ?_
            refine xw_next K59 ?_
            refine cw_ret ?_
            refine xw_blockret ?_
            refine xw_past (by intro h; cases h) ?_
            refine xw_ret (v := .int .i64 ((notG L a).2)) (fun T hT => res1 rfl T _ (hT 6 _ rfl)) ?_
            exact FPost.eq ⟨_, _, _, _, rfl, (O65.re [0, 1, 2, 3, 4] rfl : Own (zone (foldE f m R c D L vs ++ [inE DI (.slice (some ⟨bI, oI, none⟩) 2 cJ) [a, b]])) W w60 [.blk f 56 #[.slice R61 (((notG L a).1).length) c62, .map (some m)], .map m (encL strE (keysGo ((notG L a).1) 0)), .row (.slice R61 (((notG L a).1).length) c62) 38 3 (((notG L a).1).length) (gcells ((notG L a).1) vs64), .ro D63 (Ins D63 ((notG L a).1) vs64), .ro TabD Tab])⟩ (by rw [iffG, if_neg c12, if_neg c22, if_neg c31, if_neg c40, if_pos c55])
          · skip
            refine wl_call (args := [.pointer (some ⟨f, 0, none⟩), .int .i64 b, .int .i64 0]) in_82 rfl rfl rfl ?_
            refine (is0 (f := f) (m := m) (R := R) (c := c) (D := D) (L := L) (vs := vs) (rest := [.blk g2 38 #[.int .i64 kind, .int .i64 lit, GV], .ro DI (fun w => IntsD DI w (.slice (some ⟨bI, oI, none⟩) 2 cJ) [a, b])]) (O53.re [1, 2, 3, 4, 5, 0, 6] rfl : Own (zone (foldE f m R c D L vs ++ [inE DI (.slice (some ⟨bI, oI, none⟩) 2 cJ) [a, b]])) W w51 [.blk f 56 #[.slice R L.length c, .map (some m)], .map m (encL strE (keysGo L 0)), .row (.slice R L.length c) 38 3 L.length (gcells L vs), .ro D (Ins D L vs), .ro TabD Tab, .blk g2 38 #[.int .i64 kind, .int .i64 lit, GV], .ro DI (fun w => IntsD DI w (.slice (some ⟨bI, oI, none⟩) 2 cJ) [a, b])]) (by omega) c55).mono ?_
            rintro _ w66 ⟨rfl, hb67⟩
            have O68 : Own (zone (foldE f m R c D L vs ++ [inE DI (.slice (some ⟨bI, oI, none⟩) 2 cJ) [a, b]])) W w66 [.blk g2 38 #[.int .i64 kind, .int .i64 lit, GV], .blk f 56 #[.slice R L.length c, .map (some m)], .map m (encL strE (keysGo L 0)), .row (.slice R L.length c) 38 3 L.length (gcells L vs), .ro D (Ins D L vs), .ro TabD Tab, .ro DI (fun w => IntsD DI w (.slice (some ⟨bI, oI, none⟩) 2 cJ) [a, b])] := O53.below hb67
            refine ⟨_, rfl, ?_⟩
            refine wl_val (v := .bool false) (fun ρ e => ex_assign (e _ _ rfl)) rfl rfl ?_
            refine wl_nil ?_
            refine xw_next K54 ?_
            refine cw_false rfl ?_
            refine cw_skip ?_
            refine xw_block ?_
            refine xw_next K10 ?_
            refine cw_seq (fun FK69 K69 => ?_)
            refine cw_region ?_
            refine wl_val (v := .pointer (some ⟨f, 0, none⟩)) (fun ρ e => ex_move (e _ _ rfl)) rfl rfl ?_
            refine wl_val (v := .int .i64 a) (fun ρ e => ex_move (e _ _ rfl)) rfl rfl ?_
            refine wl_val (v := .int .i64 b) (fun ρ e => ex_move (e _ _ rfl)) rfl rfl ?_
            obtain ⟨g70, w71, r72, O73, hg74, hs75⟩ := own_slice O68 el36 ze3 2 [(0, .int .i64 a), (1, .int .i64 b)] (cs := #[.int .i64 a, .int .i64 b]) (by decide) (by kernel_rfl)
            refine wl_val (v := .slice (some ⟨g70, 0, none⟩) 2 2) (fun ρ e => r72 ρ _ _ _ _ _ _ (e.parts rfl)) rfl rfl ?_
            refine wl_val (v := .agg #[.int .i64 7, .int .i64 0, .slice (some ⟨g70, 0, none⟩) 2 2]) (fun ρ e => ex_build (cells := #[.int .i64 7, .int .i64 0, .slice (some ⟨g70, 0, none⟩) 2 2]) st38 (e.parts rfl) rfl) rfl rfl ?_
            refine wl_call (args := [.pointer (some ⟨f, 0, none⟩), .agg #[.int .i64 7, .int .i64 0, .slice (some ⟨g70, 0, none⟩) 2 2]]) in_80 rfl rfl rfl ?_
            have O76 : Own (zone (foldE f m R c D L vs ++ [inE DI (.slice (some ⟨bI, oI, none⟩) 2 cJ) [a, b]])) W w71 [.ro (fun k => k = g70) (fun w => IntsD (fun k => k = g70) w (.slice (some ⟨g70, 0, none⟩) 2 2) ([a, b])), .blk g2 38 #[.int .i64 kind, .int .i64 lit, GV], .blk f 56 #[.slice R L.length c, .map (some m)], .map m (encL strE (keysGo L 0)), .row (.slice R L.length c) 38 3 L.length (gcells L vs), .ro D (Ins D L vs), .ro TabD Tab, .ro DI (fun w => IntsD DI w (.slice (some ⟨bI, oI, none⟩) 2 cJ) [a, b])] := Own.blkin (l := [a, b]) O73 rfl rfl (by decide)
            refine (call_find (f := f) (m := m) (R := R) (c := c) (D := D) (L := L) (vs := vs) (D2 := (fun k => k = g70)) (V := .slice (some ⟨g70, 0, none⟩) 2 2) (g := ⟨7, 0, [a, b]⟩) (rest := [.blk g2 38 #[.int .i64 kind, .int .i64 lit, GV], .ro DI (fun w => IntsD DI w (.slice (some ⟨bI, oI, none⟩) 2 cJ) [a, b])]) (O76.re [2, 3, 4, 5, 6, 0, 1, 7] rfl : Own (zone (foldE f m R c D L vs ++ [inE DI (.slice (some ⟨bI, oI, none⟩) 2 cJ) [a, b]])) W w71 [.blk f 56 #[.slice R L.length c, .map (some m)], .map m (encL strE (keysGo L 0)), .row (.slice R L.length c) 38 3 L.length (gcells L vs), .ro D (Ins D L vs), .ro TabD Tab, .ro (fun k => k = g70) (fun w => IntsD (fun k => k = g70) w (.slice (some ⟨g70, 0, none⟩) 2 2) ([a, b])), .blk g2 38 #[.int .i64 kind, .int .i64 lit, GV], .ro DI (fun w => IntsD DI w (.slice (some ⟨bI, oI, none⟩) 2 cJ) [a, b])]) (small_n (smallI_lit 7 rfl) (by simp only [List.mem_cons, List.not_mem_nil, or_false, forall_eq_or_imp, forall_eq, smallI]; omega) (Nat.le_of_ble_eq_true rfl)) hL).mono ?_
            rintro _ w77 ⟨R78, c79, D80, vs81, rfl, O82⟩
            refine ⟨_, rfl, ?_⟩
            refine wl_val (v := .int .i64 ((findG L ⟨7, 0, [a, b]⟩).2)) (fun ρ e => ex_assign (e _ _ rfl)) rfl rfl ?_
            refine wl_nil ?_
            refine xw_next K69 ?_
            refine cw_ret ?_
            refine xw_ret (v := .int .i64 ((findG L ⟨7, 0, [a, b]⟩).2)) (fun T hT => res1 rfl T _ (hT 6 _ rfl)) ?_
            exact FPost.eq ⟨_, _, _, _, rfl, (O82.re [0, 1, 2, 3, 4] rfl : Own (zone (foldE f m R c D L vs ++ [inE DI (.slice (some ⟨bI, oI, none⟩) 2 cJ) [a, b]])) W w77 [.blk f 56 #[.slice R78 (((findG L ⟨7, 0, [a, b]⟩).1).length) c79, .map (some m)], .map m (encL strE (keysGo ((findG L ⟨7, 0, [a, b]⟩).1) 0)), .row (.slice R78 (((findG L ⟨7, 0, [a, b]⟩).1).length) c79) 38 3 (((findG L ⟨7, 0, [a, b]⟩).1).length) (gcells ((findG L ⟨7, 0, [a, b]⟩).1) vs81), .ro D80 (Ins D80 ((findG L ⟨7, 0, [a, b]⟩).1) vs81), .ro TabD Tab])⟩ (by rw [iffG, if_neg c12, if_neg c22, if_neg c31, if_neg c40, if_neg c55])
theorem choose_ {a b d : Int} (O0 : Own (zone (foldE f m R c D L vs ++ [inE DI V [a, b, d]])) W W (foldE f m R c D L vs ++ [inE DI V [a, b, d]])) (ha : 0 ≤ a ∧ a < L.length) (hb : 0 ≤ b ∧ b < L.length) (hd : 0 ≤ d ∧ d < L.length) (ok : okGs L) (hL : L.length ≤ 1000000) :
    Calls Tryd.prog 65 #[.pointer (some ⟨f, 0, none⟩), .agg #[.int .i64 kind, .int .i64 lit, GV], V] W (FPost (foldE f m R c D L vs ++ [inE DI V [a, b, d]]) W f m (chooseG L a b d)) := by
  obtain ⟨bI, oI, cJ, rfl⟩ : ∃ b o c, V = .slice (some ⟨b, o, none⟩) 3 c := IntsD.form (O0.ro 5 rfl : IntsD DI W V [a, b, d]) (Nat.lt_of_lt_of_le (Nat.lt_succ_self _) (Nat.le_of_ble_eq_true rfl))
  refine sx_enter (args := [.pointer (some ⟨f, 0, none⟩), .agg #[.int .i64 kind, .int .i64 lit, GV], .slice (some ⟨bI, oI, none⟩) 3 cJ]) Tryd.func65 rfl rfl (by simp) ?_
  refine cw_seq (fun FK1 K1 => ?_)
  refine cw_region ?_
  obtain ⟨g2, w3, r4, O5, hg6, hs7⟩ := own_box O0 38 (.agg #[.int .i64 kind, .int .i64 lit, GV]) rfl
  refine wl_val (v := .pointer (some ⟨g2, 0, none⟩)) (fun ρ e => r4 ρ _ _ _ _ _ _ (e _ _ rfl)) rfl rfl ?_
  refine wl_val (v := .int .i64 0) (fun ρ e => ex_assign (e _ _ rfl)) rfl rfl ?_
  refine wl_nil ?_
  refine xw_next K1 ?_
  refine cw_seq (fun FK8 K8 => ?_)
  refine cw_drawn (fun X => Own (zone (foldE f m R c D L vs ++ [inE DI (.slice (some ⟨bI, oI, none⟩) 3 cJ) [a, b, d]])) W X [.blk g2 38 #[.int .i64 kind, .int .i64 lit, GV], .blk f 56 #[.slice R L.length c, .map (some m)], .ro D (Ins D L vs), .ro TabD Tab, .ro DI (fun w => IntsD DI w (.slice (some ⟨bI, oI, none⟩) 3 cJ) [a, b, d])]) 12 [(0, 1), (1, 1), (2, 0), (3, 1), (4, 1), (5, 0), (6, 1), (7, 1), (8, 0), (9, 2), (10, 2), (11, 2)] (by kernel_rfl) (by kernel_rfl) (PQ.then_ PQ.body) ((O5.re [0, 1, 4, 5, 6] rfl : Own (zone (foldE f m R c D L vs ++ [inE DI (.slice (some ⟨bI, oI, none⟩) 3 cJ) [a, b, d]])) W w3 [.blk g2 38 #[.int .i64 kind, .int .i64 lit, GV], .blk f 56 #[.slice R L.length c, .map (some m)], .ro D (Ins D L vs), .ro TabD Tab, .ro DI (fun w => IntsD DI w (.slice (some ⟨bI, oI, none⟩) 3 cJ) [a, b, d])])).drew ?_
  have O9 : Own (zone (foldE f m R c D L vs ++ [inE DI (.slice (some ⟨bI, oI, none⟩) 3 cJ) [a, b, d]])) W w3.drew [.blk g2 38 #[.int .i64 kind, .int .i64 lit, GV], .blk f 56 #[.slice R L.length c, .map (some m)], .map m (encL strE (keysGo L 0)), .row (.slice R L.length c) 38 3 L.length (gcells L vs), .ro D (Ins D L vs), .ro TabD Tab, .ro DI (fun w => IntsD DI w (.slice (some ⟨bI, oI, none⟩) 3 cJ) [a, b, d])] := O5.drew
  refine wt1 (v := .slice (some ⟨bI, oI, none⟩) 3 cJ) rfl (fun ρ e W => ex_move (e _ _ rfl)) rfl rfl ?_
  refine wt1 (v := .pointer (some ⟨bI, oI, none⟩)) rfl (fun ρ e W => ex_idx (q := oI) (i := 0) el36 (e _ _ rfl) (e _ _ rfl) (by omega) (by omega)) rfl rfl ?_
  refine wt0 (v := .int .i64 a) rfl (fun ρ e W hW => ex_load1 ty3 (e _ _ rfl) (IntsD.cell (hW.ro 4 rfl : IntsD DI _ (.slice (some ⟨bI, oI, none⟩) 3 cJ) [a, b, d]) (k := 0) (Nat.lt_of_lt_of_le (Nat.lt_succ_self _) (Nat.le_of_ble_eq_true rfl)))) rfl rfl ?_
  refine wt1 (v := .slice (some ⟨bI, oI, none⟩) 3 cJ) rfl (fun ρ e W => ex_move (e _ _ rfl)) rfl rfl ?_
  refine wt1 (v := .pointer (some ⟨bI, oI + 1, none⟩)) rfl (fun ρ e W => ex_idx (q := oI + 1) (i := 1) el36 (e _ _ rfl) (e _ _ rfl) (by omega) (by omega)) rfl rfl ?_
  refine wt0 (v := .int .i64 b) rfl (fun ρ e W hW => ex_load1 ty3 (e _ _ rfl) (IntsD.cell (hW.ro 4 rfl : IntsD DI _ (.slice (some ⟨bI, oI, none⟩) 3 cJ) [a, b, d]) (k := 1) (Nat.lt_of_lt_of_le (Nat.lt_succ_self _) (Nat.le_of_ble_eq_true rfl)))) rfl rfl ?_
  refine wt1 (v := .slice (some ⟨bI, oI, none⟩) 3 cJ) rfl (fun ρ e W => ex_move (e _ _ rfl)) rfl rfl ?_
  refine wt1 (v := .pointer (some ⟨bI, oI + 2, none⟩)) rfl (fun ρ e W => ex_idx (q := oI + 2) (i := 2) el36 (e _ _ rfl) (e _ _ rfl) (by omega) (by omega)) rfl rfl ?_
  refine wt0 (v := .int .i64 d) rfl (fun ρ e W hW => ex_load1 ty3 (e _ _ rfl) (IntsD.cell (hW.ro 4 rfl : IntsD DI _ (.slice (some ⟨bI, oI, none⟩) 3 cJ) [a, b, d]) (k := 2) (Nat.lt_of_lt_of_le (Nat.lt_succ_self _) (Nat.le_of_ble_eq_true rfl)))) rfl rfl ?_
  refine wt2 (v := .int .i64 a) rfl (fun ρ e => ex_assign (e _ _ rfl)) rfl rfl (O9.re [0, 1, 4, 5, 6] rfl : Own (zone (foldE f m R c D L vs ++ [inE DI (.slice (some ⟨bI, oI, none⟩) 3 cJ) [a, b, d]])) W w3.drew [.blk g2 38 #[.int .i64 kind, .int .i64 lit, GV], .blk f 56 #[.slice R L.length c, .map (some m)], .ro D (Ins D L vs), .ro TabD Tab, .ro DI (fun w => IntsD DI w (.slice (some ⟨bI, oI, none⟩) 3 cJ) [a, b, d])]) ?_
  refine wt2 (v := .int .i64 b) rfl (fun ρ e => ex_assign (e _ _ rfl)) rfl rfl (O9.re [0, 1, 4, 5, 6] rfl : Own (zone (foldE f m R c D L vs ++ [inE DI (.slice (some ⟨bI, oI, none⟩) 3 cJ) [a, b, d]])) W w3.drew [.blk g2 38 #[.int .i64 kind, .int .i64 lit, GV], .blk f 56 #[.slice R L.length c, .map (some m)], .ro D (Ins D L vs), .ro TabD Tab, .ro DI (fun w => IntsD DI w (.slice (some ⟨bI, oI, none⟩) 3 cJ) [a, b, d])]) ?_
  refine wt2 (v := .int .i64 d) rfl (fun ρ e => ex_assign (e _ _ rfl)) rfl rfl (O9.re [0, 1, 4, 5, 6] rfl : Own (zone (foldE f m R c D L vs ++ [inE DI (.slice (some ⟨bI, oI, none⟩) 3 cJ) [a, b, d]])) W w3.drew [.blk g2 38 #[.int .i64 kind, .int .i64 lit, GV], .blk f 56 #[.slice R L.length c, .map (some m)], .ro D (Ins D L vs), .ro TabD Tab, .ro DI (fun w => IntsD DI w (.slice (some ⟨bI, oI, none⟩) 3 cJ) [a, b, d])]) ?_
  refine wt_nil ?_
  refine xw_next K8 ?_
  refine cw_seq (fun FK10 K10 => ?_)
  refine cw_block ?_
  refine cw_seq (fun FK11 K11 => ?_)
  refine cw_region ?_
  refine wl_val (v := .pointer (some ⟨f, 0, none⟩)) (fun ρ e => ex_move (e _ _ rfl)) rfl rfl ?_
  refine wl_val (v := .int .i64 a) (fun ρ e => ex_move (e _ _ rfl)) rfl rfl ?_
  by_cases c12 : kindAt L a = 1
  · skip
    refine wl_call (args := [.pointer (some ⟨f, 0, none⟩), .int .i64 a, .int .i64 1]) in_82 rfl rfl rfl ?_
    refine (is1 (f := f) (m := m) (R := R) (c := c) (D := D) (L := L) (vs := vs) (rest := [.blk g2 38 #[.int .i64 kind, .int .i64 lit, GV], .ro DI (fun w => IntsD DI w (.slice (some ⟨bI, oI, none⟩) 3 cJ) [a, b, d])]) (O9.re [1, 2, 3, 4, 5, 0, 6] rfl : Own (zone (foldE f m R c D L vs ++ [inE DI (.slice (some ⟨bI, oI, none⟩) 3 cJ) [a, b, d]])) W w3.drew [.blk f 56 #[.slice R L.length c, .map (some m)], .map m (encL strE (keysGo L 0)), .row (.slice R L.length c) 38 3 L.length (gcells L vs), .ro D (Ins D L vs), .ro TabD Tab, .blk g2 38 #[.int .i64 kind, .int .i64 lit, GV], .ro DI (fun w => IntsD DI w (.slice (some ⟨bI, oI, none⟩) 3 cJ) [a, b, d])]) (by omega) c12).mono ?_
    rintro _ w13 ⟨rfl, hb14⟩
    have O15 : Own (zone (foldE f m R c D L vs ++ [inE DI (.slice (some ⟨bI, oI, none⟩) 3 cJ) [a, b, d]])) W w13 [.blk g2 38 #[.int .i64 kind, .int .i64 lit, GV], .blk f 56 #[.slice R L.length c, .map (some m)], .map m (encL strE (keysGo L 0)), .row (.slice R L.length c) 38 3 L.length (gcells L vs), .ro D (Ins D L vs), .ro TabD Tab, .ro DI (fun w => IntsD DI w (.slice (some ⟨bI, oI, none⟩) 3 cJ) [a, b, d])] := O9.below hb14
    refine ⟨_, rfl, ?_⟩
    refine wl_val (v := .bool true) (fun ρ e => ex_assign (e _ _ rfl)) rfl rfl ?_
    refine wl_nil ?_
    refine xw_next K11 ?_
    refine cw_true rfl ?_
    refine cw_seq (fun FK16 K16 => ?_)
    refine cw_region ?_
    refine wl_val (v := .int .i64 b) (fun ρ e => ex_move (e _ _ rfl)) rfl rfl ?_
    refine wl_val (v := .int .i64 b) (fun ρ e => ex_assign (e _ _ rfl)) rfl rfl ?_
    refine wl_nil ?_
    refine xw_next K16 ?_
    refine cw_ret ?_
    refine xw_blockret ?_
    refine xw_past (by intro h; cases h) ?_
    refine xw_ret (v := .int .i64 b) (fun T hT => res1 rfl T _ (hT 6 _ rfl)) ?_
    exact FPost.eq (q' := (L, b)) ⟨_, _, _, _, rfl, (O15.re [1, 2, 3, 4, 5] rfl : Own (zone (foldE f m R c D L vs ++ [inE DI (.slice (some ⟨bI, oI, none⟩) 3 cJ) [a, b, d]])) W w13 [.blk f 56 #[.slice R L.length c, .map (some m)], .map m (encL strE (keysGo L 0)), .row (.slice R L.length c) 38 3 L.length (gcells L vs), .ro D (Ins D L vs), .ro TabD Tab])⟩ (by rw [chooseG, if_pos c12])
  · skip
    refine wl_call (args := [.pointer (some ⟨f, 0, none⟩), .int .i64 a, .int .i64 1]) in_82 rfl rfl rfl ?_
    refine (is0 (f := f) (m := m) (R := R) (c := c) (D := D) (L := L) (vs := vs) (rest := [.blk g2 38 #[.int .i64 kind, .int .i64 lit, GV], .ro DI (fun w => IntsD DI w (.slice (some ⟨bI, oI, none⟩) 3 cJ) [a, b, d])]) (O9.re [1, 2, 3, 4, 5, 0, 6] rfl : Own (zone (foldE f m R c D L vs ++ [inE DI (.slice (some ⟨bI, oI, none⟩) 3 cJ) [a, b, d]])) W w3.drew [.blk f 56 #[.slice R L.length c, .map (some m)], .map m (encL strE (keysGo L 0)), .row (.slice R L.length c) 38 3 L.length (gcells L vs), .ro D (Ins D L vs), .ro TabD Tab, .blk g2 38 #[.int .i64 kind, .int .i64 lit, GV], .ro DI (fun w => IntsD DI w (.slice (some ⟨bI, oI, none⟩) 3 cJ) [a, b, d])]) (by omega) c12).mono ?_
    rintro _ w17 ⟨rfl, hb18⟩
    have O19 : Own (zone (foldE f m R c D L vs ++ [inE DI (.slice (some ⟨bI, oI, none⟩) 3 cJ) [a, b, d]])) W w17 [.blk g2 38 #[.int .i64 kind, .int .i64 lit, GV], .blk f 56 #[.slice R L.length c, .map (some m)], .map m (encL strE (keysGo L 0)), .row (.slice R L.length c) 38 3 L.length (gcells L vs), .ro D (Ins D L vs), .ro TabD Tab, .ro DI (fun w => IntsD DI w (.slice (some ⟨bI, oI, none⟩) 3 cJ) [a, b, d])] := O9.below hb18
    refine ⟨_, rfl, ?_⟩
    refine wl_val (v := .bool false) (fun ρ e => ex_assign (e _ _ rfl)) rfl rfl ?_
    refine wl_nil ?_
    refine xw_next K11 ?_
    refine cw_false rfl ?_
    refine cw_seq (fun FK20 K20 => ?_)
    refine cw_seq (fun FK21 K21 => ?_)
    refine cw_region ?_
    refine wl_val (v := .pointer (some ⟨f, 0, none⟩)) (fun ρ e => ex_move (e _ _ rfl)) rfl rfl ?_
    refine wl_val (v := .int .i64 a) (fun ρ e => ex_move (e _ _ rfl)) rfl rfl ?_
    by_cases c22 : kindAt L a = 0
    · skip
      refine wl_call (args := [.pointer (some ⟨f, 0, none⟩), .int .i64 a, .int .i64 0]) in_82 rfl rfl rfl ?_
      refine (is1 (f := f) (m := m) (R := R) (c := c) (D := D) (L := L) (vs := vs) (rest := [.blk g2 38 #[.int .i64 kind, .int .i64 lit, GV], .ro DI (fun w => IntsD DI w (.slice (some ⟨bI, oI, none⟩) 3 cJ) [a, b, d])]) (O19.re [1, 2, 3, 4, 5, 0, 6] rfl : Own (zone (foldE f m R c D L vs ++ [inE DI (.slice (some ⟨bI, oI, none⟩) 3 cJ) [a, b, d]])) W w17 [.blk f 56 #[.slice R L.length c, .map (some m)], .map m (encL strE (keysGo L 0)), .row (.slice R L.length c) 38 3 L.length (gcells L vs), .ro D (Ins D L vs), .ro TabD Tab, .blk g2 38 #[.int .i64 kind, .int .i64 lit, GV], .ro DI (fun w => IntsD DI w (.slice (some ⟨bI, oI, none⟩) 3 cJ) [a, b, d])]) (by omega) c22).mono ?_
      rintro _ w23 ⟨rfl, hb24⟩
      have O25 : Own (zone (foldE f m R c D L vs ++ [inE DI (.slice (some ⟨bI, oI, none⟩) 3 cJ) [a, b, d]])) W w23 [.blk g2 38 #[.int .i64 kind, .int .i64 lit, GV], .blk f 56 #[.slice R L.length c, .map (some m)], .map m (encL strE (keysGo L 0)), .row (.slice R L.length c) 38 3 L.length (gcells L vs), .ro D (Ins D L vs), .ro TabD Tab, .ro DI (fun w => IntsD DI w (.slice (some ⟨bI, oI, none⟩) 3 cJ) [a, b, d])] := O19.below hb24
      refine ⟨_, rfl, ?_⟩
      refine wl_val (v := .bool true) (fun ρ e => ex_assign (e _ _ rfl)) rfl rfl ?_
      refine wl_nil ?_
      refine xw_next K21 ?_
      refine cw_true rfl ?_
      refine cw_skip ?_
      refine xw_next K20 ?_
      refine cw_true rfl ?_
      refine cw_seq (fun FK26 K26 => ?_)
      refine cw_region ?_
      refine wl_val (v := .int .i64 d) (fun ρ e => ex_move (e _ _ rfl)) rfl rfl ?_
      refine wl_val (v := .int .i64 d) (fun ρ e => ex_assign (e _ _ rfl)) rfl rfl ?_
      refine wl_nil ?_
      refine xw_next K26 ?_
      refine cw_ret ?_
      refine xw_blockret ?_
      refine xw_past (by intro h; cases h) ?_
      refine xw_ret (v := .int .i64 d) (fun T hT => res1 rfl T _ (hT 6 _ rfl)) ?_
      exact FPost.eq (q' := (L, d)) ⟨_, _, _, _, rfl, (O25.re [1, 2, 3, 4, 5] rfl : Own (zone (foldE f m R c D L vs ++ [inE DI (.slice (some ⟨bI, oI, none⟩) 3 cJ) [a, b, d]])) W w23 [.blk f 56 #[.slice R L.length c, .map (some m)], .map m (encL strE (keysGo L 0)), .row (.slice R L.length c) 38 3 L.length (gcells L vs), .ro D (Ins D L vs), .ro TabD Tab])⟩ (by rw [chooseG, if_neg c12, if_pos (.inl c22)])
    · skip
      refine wl_call (args := [.pointer (some ⟨f, 0, none⟩), .int .i64 a, .int .i64 0]) in_82 rfl rfl rfl ?_
      refine (is0 (f := f) (m := m) (R := R) (c := c) (D := D) (L := L) (vs := vs) (rest := [.blk g2 38 #[.int .i64 kind, .int .i64 lit, GV], .ro DI (fun w => IntsD DI w (.slice (some ⟨bI, oI, none⟩) 3 cJ) [a, b, d])]) (O19.re [1, 2, 3, 4, 5, 0, 6] rfl : Own (zone (foldE f m R c D L vs ++ [inE DI (.slice (some ⟨bI, oI, none⟩) 3 cJ) [a, b, d]])) W w17 [.blk f 56 #[.slice R L.length c, .map (some m)], .map m (encL strE (keysGo L 0)), .row (.slice R L.length c) 38 3 L.length (gcells L vs), .ro D (Ins D L vs), .ro TabD Tab, .blk g2 38 #[.int .i64 kind, .int .i64 lit, GV], .ro DI (fun w => IntsD DI w (.slice (some ⟨bI, oI, none⟩) 3 cJ) [a, b, d])]) (by omega) c22).mono ?_
      rintro _ w27 ⟨rfl, hb28⟩
      have O29 : Own (zone (foldE f m R c D L vs ++ [inE DI (.slice (some ⟨bI, oI, none⟩) 3 cJ) [a, b, d]])) W w27 [.blk g2 38 #[.int .i64 kind, .int .i64 lit, GV], .blk f 56 #[.slice R L.length c, .map (some m)], .map m (encL strE (keysGo L 0)), .row (.slice R L.length c) 38 3 L.length (gcells L vs), .ro D (Ins D L vs), .ro TabD Tab, .ro DI (fun w => IntsD DI w (.slice (some ⟨bI, oI, none⟩) 3 cJ) [a, b, d])] := O19.below hb28
      refine ⟨_, rfl, ?_⟩
      refine wl_val (v := .bool false) (fun ρ e => ex_assign (e _ _ rfl)) rfl rfl ?_
      refine wl_nil ?_
      refine xw_next K21 ?_
      refine cw_false rfl ?_
      refine cw_region ?_
      refine wl_val (v := .int .i64 b) (fun ρ e => ex_move (e _ _ rfl)) rfl rfl ?_
      refine wl_val (v := .int .i64 d) (fun ρ e => ex_move (e _ _ rfl)) rfl rfl ?_
      by_cases c30 : b = d
      · skip
        refine wl_val (v := .bool true) (fun ρ e => ex_cmp (u := b) (v := d) (e _ _ rfl) (e _ _ rfl) (eql1 (by omega))) rfl rfl ?_
        refine wl_val (v := .bool true) (fun ρ e => ex_assign (e _ _ rfl)) rfl rfl ?_
        refine wl_nil ?_
        refine xw_next K20 ?_
        refine cw_true rfl ?_
        refine cw_seq (fun FK31 K31 => ?_)
        refine cw_region ?_
        refine wl_val (v := .int .i64 d) (fun ρ e => ex_move (e _ _ rfl)) rfl rfl ?_
        refine wl_val (v := .int .i64 d) (fun ρ e => ex_assign (e _ _ rfl)) rfl rfl ?_
        refine wl_nil ?_
        refine xw_next K31 ?_
        refine cw_ret ?_
        refine xw_blockret ?_
        refine xw_past (by intro h; cases h) ?_
        refine xw_ret (v := .int .i64 d) (fun T hT => res1 rfl T _ (hT 6 _ rfl)) ?_
        exact FPost.eq (q' := (L, d)) ⟨_, _, _, _, rfl, (O29.re [1, 2, 3, 4, 5] rfl : Own (zone (foldE f m R c D L vs ++ [inE DI (.slice (some ⟨bI, oI, none⟩) 3 cJ) [a, b, d]])) W w27 [.blk f 56 #[.slice R L.length c, .map (some m)], .map m (encL strE (keysGo L 0)), .row (.slice R L.length c) 38 3 L.length (gcells L vs), .ro D (Ins D L vs), .ro TabD Tab])⟩ (by rw [chooseG, if_neg c12, if_pos (.inr c30)])
      · skip
        refine wl_val (v := .bool false) (fun ρ e => ex_cmp (u := b) (v := d) (e _ _ rfl) (e _ _ rfl) (eql0 (by omega))) rfl rfl ?_
        refine wl_val (v := .bool false) (fun ρ e => ex_assign (e _ _ rfl)) rfl rfl ?_
        refine wl_nil ?_
        refine xw_next K20 ?_
        refine cw_false rfl ?_
        refine cw_seq (fun FK32 K32 => ?_)
        refine cw_region ?_
        refine wl_val (v := .pointer (some ⟨f, 0, none⟩)) (fun ρ e => ex_move (e _ _ rfl)) rfl rfl ?_
        refine wl_val (v := .int .i64 b) (fun ρ e => ex_move (e _ _ rfl)) rfl rfl ?_
        by_cases c33 : kindAt L b = 1
        · skip
          refine wl_call (args := [.pointer (some ⟨f, 0, none⟩), .int .i64 b, .int .i64 1]) in_82 rfl rfl rfl ?_
          refine (is1 (f := f) (m := m) (R := R) (c := c) (D := D) (L := L) (vs := vs) (rest := [.blk g2 38 #[.int .i64 kind, .int .i64 lit, GV], .ro DI (fun w => IntsD DI w (.slice (some ⟨bI, oI, none⟩) 3 cJ) [a, b, d])]) (O29.re [1, 2, 3, 4, 5, 0, 6] rfl : Own (zone (foldE f m R c D L vs ++ [inE DI (.slice (some ⟨bI, oI, none⟩) 3 cJ) [a, b, d]])) W w27 [.blk f 56 #[.slice R L.length c, .map (some m)], .map m (encL strE (keysGo L 0)), .row (.slice R L.length c) 38 3 L.length (gcells L vs), .ro D (Ins D L vs), .ro TabD Tab, .blk g2 38 #[.int .i64 kind, .int .i64 lit, GV], .ro DI (fun w => IntsD DI w (.slice (some ⟨bI, oI, none⟩) 3 cJ) [a, b, d])]) (by omega) c33).mono ?_
          rintro _ w34 ⟨rfl, hb35⟩
          have O36 : Own (zone (foldE f m R c D L vs ++ [inE DI (.slice (some ⟨bI, oI, none⟩) 3 cJ) [a, b, d]])) W w34 [.blk g2 38 #[.int .i64 kind, .int .i64 lit, GV], .blk f 56 #[.slice R L.length c, .map (some m)], .map m (encL strE (keysGo L 0)), .row (.slice R L.length c) 38 3 L.length (gcells L vs), .ro D (Ins D L vs), .ro TabD Tab, .ro DI (fun w => IntsD DI w (.slice (some ⟨bI, oI, none⟩) 3 cJ) [a, b, d])] := O29.below hb35
          refine ⟨_, rfl, ?_⟩
          refine wl_val (v := .bool true) (fun ρ e => ex_move (e _ _ rfl)) rfl rfl ?_
          refine wl_val (v := .pointer (some ⟨f, 0, none⟩)) (fun ρ e => ex_move (e _ _ rfl)) rfl rfl ?_
          refine wl_val (v := .int .i64 d) (fun ρ e => ex_move (e _ _ rfl)) rfl rfl ?_
          by_cases c37 : kindAt L d = 0
          · skip
            refine wl_call (args := [.pointer (some ⟨f, 0, none⟩), .int .i64 d, .int .i64 0]) in_82 rfl rfl rfl ?_
            refine (is1 (f := f) (m := m) (R := R) (c := c) (D := D) (L := L) (vs := vs) (rest := [.blk g2 38 #[.int .i64 kind, .int .i64 lit, GV], .ro DI (fun w => IntsD DI w (.slice (some ⟨bI, oI, none⟩) 3 cJ) [a, b, d])]) (O36.re [1, 2, 3, 4, 5, 0, 6] rfl : Own (zone (foldE f m R c D L vs ++ [inE DI (.slice (some ⟨bI, oI, none⟩) 3 cJ) [a, b, d]])) W w34 [.blk f 56 #[.slice R L.length c, .map (some m)], .map m (encL strE (keysGo L 0)), .row (.slice R L.length c) 38 3 L.length (gcells L vs), .ro D (Ins D L vs), .ro TabD Tab, .blk g2 38 #[.int .i64 kind, .int .i64 lit, GV], .ro DI (fun w => IntsD DI w (.slice (some ⟨bI, oI, none⟩) 3 cJ) [a, b, d])]) (by omega) c37).mono ?_
            rintro _ w38 ⟨rfl, hb39⟩
            have O40 : Own (zone (foldE f m R c D L vs ++ [inE DI (.slice (some ⟨bI, oI, none⟩) 3 cJ) [a, b, d]])) W w38 [.blk g2 38 #[.int .i64 kind, .int .i64 lit, GV], .blk f 56 #[.slice R L.length c, .map (some m)], .map m (encL strE (keysGo L 0)), .row (.slice R L.length c) 38 3 L.length (gcells L vs), .ro D (Ins D L vs), .ro TabD Tab, .ro DI (fun w => IntsD DI w (.slice (some ⟨bI, oI, none⟩) 3 cJ) [a, b, d])] := O36.below hb39
            refine ⟨_, rfl, ?_⟩
            refine wl_val (v := .bool true) (fun ρ e => ex_pick1 (e _ _ rfl) (e _ _ rfl)) rfl rfl ?_
            refine wl_val (v := .bool true) (fun ρ e => ex_assign (e _ _ rfl)) rfl rfl ?_
            refine wl_nil ?_
            refine xw_next K32 ?_
            refine cw_true rfl ?_
            refine cw_seq (fun FK41 K41 => ?_)
            refine cw_region ?_
            refine wl_val (v := .int .i64 a) (fun ρ e => ex_move (e _ _ rfl)) rfl rfl ?_
            refine wl_val (v := .int .i64 a) (fun ρ e => ex_assign (e _ _ rfl)) rfl rfl ?_
            refine wl_nil ?_
            refine xw_next K41 ?_
            refine cw_ret ?_
            refine xw_blockret ?_
            refine xw_past (by intro h; cases h) ?_
            refine xw_ret (v := .int .i64 a) (fun T hT => res1 rfl T _ (hT 6 _ rfl)) ?_
            exact FPost.eq (q' := (L, a)) ⟨_, _, _, _, rfl, (O40.re [1, 2, 3, 4, 5] rfl : Own (zone (foldE f m R c D L vs ++ [inE DI (.slice (some ⟨bI, oI, none⟩) 3 cJ) [a, b, d]])) W w38 [.blk f 56 #[.slice R L.length c, .map (some m)], .map m (encL strE (keysGo L 0)), .row (.slice R L.length c) 38 3 L.length (gcells L vs), .ro D (Ins D L vs), .ro TabD Tab])⟩ (by rw [chooseG, if_neg c12, if_neg (fun h => h.elim c22 c30), if_pos ⟨c33, c37⟩])
          · skip
            refine wl_call (args := [.pointer (some ⟨f, 0, none⟩), .int .i64 d, .int .i64 0]) in_82 rfl rfl rfl ?_
            refine (is0 (f := f) (m := m) (R := R) (c := c) (D := D) (L := L) (vs := vs) (rest := [.blk g2 38 #[.int .i64 kind, .int .i64 lit, GV], .ro DI (fun w => IntsD DI w (.slice (some ⟨bI, oI, none⟩) 3 cJ) [a, b, d])]) (O36.re [1, 2, 3, 4, 5, 0, 6] rfl : Own (zone (foldE f m R c D L vs ++ [inE DI (.slice (some ⟨bI, oI, none⟩) 3 cJ) [a, b, d]])) W w34 [.blk f 56 #[.slice R L.length c, .map (some m)], .map m (encL strE (keysGo L 0)), .row (.slice R L.length c) 38 3 L.length (gcells L vs), .ro D (Ins D L vs), .ro TabD Tab, .blk g2 38 #[.int .i64 kind, .int .i64 lit, GV], .ro DI (fun w => IntsD DI w (.slice (some ⟨bI, oI, none⟩) 3 cJ) [a, b, d])]) (by omega) c37).mono ?_
            rintro _ w42 ⟨rfl, hb43⟩
            have O44 : Own (zone (foldE f m R c D L vs ++ [inE DI (.slice (some ⟨bI, oI, none⟩) 3 cJ) [a, b, d]])) W w42 [.blk g2 38 #[.int .i64 kind, .int .i64 lit, GV], .blk f 56 #[.slice R L.length c, .map (some m)], .map m (encL strE (keysGo L 0)), .row (.slice R L.length c) 38 3 L.length (gcells L vs), .ro D (Ins D L vs), .ro TabD Tab, .ro DI (fun w => IntsD DI w (.slice (some ⟨bI, oI, none⟩) 3 cJ) [a, b, d])] := O36.below hb43
            refine ⟨_, rfl, ?_⟩
            refine wl_val (v := .bool false) (fun ρ e => ex_pick1 (e _ _ rfl) (e _ _ rfl)) rfl rfl ?_
            refine wl_val (v := .bool false) (fun ρ e => ex_assign (e _ _ rfl)) rfl rfl ?_
            refine wl_nil ?_
            refine xw_next K32 ?_
            refine cw_false rfl ?_
            refine cw_seq (fun FK45 K45 => ?_)
            refine cw_region ?_
            refine wl_val (v := .pointer (some ⟨f, 0, none⟩)) (fun ρ e => ex_move (e _ _ rfl)) rfl rfl ?_
            refine wl_val (v := .int .i64 b) (fun ρ e => ex_move (e _ _ rfl)) rfl rfl ?_
            by_cases c46 : kindAt L b = 0
            · skip
              refine wl_call (args := [.pointer (some ⟨f, 0, none⟩), .int .i64 b, .int .i64 0]) in_82 rfl rfl rfl ?_
              refine (is1 (f := f) (m := m) (R := R) (c := c) (D := D) (L := L) (vs := vs) (rest := [.blk g2 38 #[.int .i64 kind, .int .i64 lit, GV], .ro DI (fun w => IntsD DI w (.slice (some ⟨bI, oI, none⟩) 3 cJ) [a, b, d])]) (O44.re [1, 2, 3, 4, 5, 0, 6] rfl : Own (zone (foldE f m R c D L vs ++ [inE DI (.slice (some ⟨bI, oI, none⟩) 3 cJ) [a, b, d]])) W w42 [.blk f 56 #[.slice R L.length c, .map (some m)], .map m (encL strE (keysGo L 0)), .row (.slice R L.length c) 38 3 L.length (gcells L vs), .ro D (Ins D L vs), .ro TabD Tab, .blk g2 38 #[.int .i64 kind, .int .i64 lit, GV], .ro DI (fun w => IntsD DI w (.slice (some ⟨bI, oI, none⟩) 3 cJ) [a, b, d])]) (by omega) c46).mono ?_
              rintro _ w47 ⟨rfl, hb48⟩
              have O49 : Own (zone (foldE f m R c D L vs ++ [inE DI (.slice (some ⟨bI, oI, none⟩) 3 cJ) [a, b, d]])) W w47 [.blk g2 38 #[.int .i64 kind, .int .i64 lit, GV], .blk f 56 #[.slice R L.length c, .map (some m)], .map m (encL strE (keysGo L 0)), .row (.slice R L.length c) 38 3 L.length (gcells L vs), .ro D (Ins D L vs), .ro TabD Tab, .ro DI (fun w => IntsD DI w (.slice (some ⟨bI, oI, none⟩) 3 cJ) [a, b, d])] := O44.below hb48
              refine ⟨_, rfl, ?_⟩
              refine wl_val (v := .bool true) (fun ρ e => ex_move (e _ _ rfl)) rfl rfl ?_
              refine wl_val (v := .pointer (some ⟨f, 0, none⟩)) (fun ρ e => ex_move (e _ _ rfl)) rfl rfl ?_
              refine wl_val (v := .int .i64 d) (fun ρ e => ex_move (e _ _ rfl)) rfl rfl ?_
              by_cases c50 : kindAt L d = 1
              · skip
                refine wl_call (args := [.pointer (some ⟨f, 0, none⟩), .int .i64 d, .int .i64 1]) in_82 rfl rfl rfl ?_
                refine (is1 (f := f) (m := m) (R := R) (c := c) (D := D) (L := L) (vs := vs) (rest := [.blk g2 38 #[.int .i64 kind, .int .i64 lit, GV], .ro DI (fun w => IntsD DI w (.slice (some ⟨bI, oI, none⟩) 3 cJ) [a, b, d])]) (O49.re [1, 2, 3, 4, 5, 0, 6] rfl : Own (zone (foldE f m R c D L vs ++ [inE DI (.slice (some ⟨bI, oI, none⟩) 3 cJ) [a, b, d]])) W w47 [.blk f 56 #[.slice R L.length c, .map (some m)], .map m (encL strE (keysGo L 0)), .row (.slice R L.length c) 38 3 L.length (gcells L vs), .ro D (Ins D L vs), .ro TabD Tab, .blk g2 38 #[.int .i64 kind, .int .i64 lit, GV], .ro DI (fun w => IntsD DI w (.slice (some ⟨bI, oI, none⟩) 3 cJ) [a, b, d])]) (by omega) c50).mono ?_
                rintro _ w51 ⟨rfl, hb52⟩
                have O53 : Own (zone (foldE f m R c D L vs ++ [inE DI (.slice (some ⟨bI, oI, none⟩) 3 cJ) [a, b, d]])) W w51 [.blk g2 38 #[.int .i64 kind, .int .i64 lit, GV], .blk f 56 #[.slice R L.length c, .map (some m)], .map m (encL strE (keysGo L 0)), .row (.slice R L.length c) 38 3 L.length (gcells L vs), .ro D (Ins D L vs), .ro TabD Tab, .ro DI (fun w => IntsD DI w (.slice (some ⟨bI, oI, none⟩) 3 cJ) [a, b, d])] := O49.below hb52
                refine ⟨_, rfl, ?_⟩
                refine wl_val (v := .bool true) (fun ρ e => ex_pick1 (e _ _ rfl) (e _ _ rfl)) rfl rfl ?_
                refine wl_val (v := .bool true) (fun ρ e => ex_assign (e _ _ rfl)) rfl rfl ?_
                refine wl_nil ?_
                refine xw_next K45 ?_
                refine cw_true rfl ?_
                refine cw_seq (fun FK54 K54 => ?_)
                refine cw_region ?_
                refine wl_val (v := .pointer (some ⟨f, 0, none⟩)) (fun ρ e => ex_move (e _ _ rfl)) rfl rfl ?_
                refine wl_val (v := .int .i64 a) (fun ρ e => ex_move (e _ _ rfl)) rfl rfl ?_
                refine wl_call (args := [.pointer (some ⟨f, 0, none⟩), .int .i64 a]) in_81 rfl rfl rfl ?_
                refine (FPost.use (A := foldE f m R c D L vs) (rest := [.blk g2 38 #[.int .i64 kind, .int .i64 lit, GV], .ro DI (fun w => IntsD DI w (.slice (some ⟨bI, oI, none⟩) 3 cJ) [a, b, d])]) (O53.re [1, 2, 3, 4, 5, 0, 6] rfl : Own (zone (foldE f m R c D L vs ++ [inE DI (.slice (some ⟨bI, oI, none⟩) 3 cJ) [a, b, d]])) W w51 [.blk f 56 #[.slice R L.length c, .map (some m)], .map m (encL strE (keysGo L 0)), .row (.slice R L.length c) 38 3 L.length (gcells L vs), .ro D (Ins D L vs), .ro TabD Tab, .blk g2 38 #[.int .i64 kind, .int .i64 lit, GV], .ro DI (fun w => IntsD DI w (.slice (some ⟨bI, oI, none⟩) 3 cJ) [a, b, d])]) (not_ (Own.hand (A := foldE f m R c D L vs) (R := [.blk g2 38 #[.int .i64 kind, .int .i64 lit, GV], .ro DI (fun w => IntsD DI w (.slice (some ⟨bI, oI, none⟩) 3 cJ) [a, b, d])]) (O53.re [1, 2, 3, 4, 5, 0, 6] rfl : Own (zone (foldE f m R c D L vs ++ [inE DI (.slice (some ⟨bI, oI, none⟩) 3 cJ) [a, b, d]])) W w51 [.blk f 56 #[.slice R L.length c, .map (some m)], .map m (encL strE (keysGo L 0)), .row (.slice R L.length c) 38 3 L.length (gcells L vs), .ro D (Ins D L vs), .ro TabD Tab, .blk g2 38 #[.int .i64 kind, .int .i64 lit, GV], .ro DI (fun w => IntsD DI w (.slice (some ⟨bI, oI, none⟩) 3 cJ) [a, b, d])])) (by omega) ok hL)).mono ?_
                rintro _ w55 ⟨R56, c57, D58, vs59, rfl, O60⟩
                refine ⟨_, rfl, ?_⟩
                refine wl_val (v := .int .i64 ((notG L a).2)) (fun ρ e => ex_assign (e _ _ rfl)) rfl rfl ?_
                refine wl_nil ?_
                refine xw_next K54 ?_
                refine cw_ret ?_
                refine xw_blockret ?_
                refine xw_past (by intro h; cases h) ?_
                refine xw_ret (v := .int .i64 ((notG L a).2)) (fun T hT => res1 rfl T _ (hT 6 _ rfl)) ?_
                exact FPost.eq ⟨_, _, _, _, rfl, (O60.re [0, 1, 2, 3, 4] rfl : Own (zone (foldE f m R c D L vs ++ [inE DI (.slice (some ⟨bI, oI, none⟩) 3 cJ) [a, b, d]])) W w55 [.blk f 56 #[.slice R56 (((notG L a).1).length) c57, .map (some m)], .map m (encL strE (keysGo ((notG L a).1) 0)), .row (.slice R56 (((notG L a).1).length) c57) 38 3 (((notG L a).1).length) (gcells ((notG L a).1) vs59), .ro D58 (Ins D58 ((notG L a).1) vs59), .ro TabD Tab])⟩ (by rw [chooseG, if_neg c12, if_neg (fun h => h.elim c22 c30), if_neg (fun h => c37 h.2), if_pos ⟨c46, c50⟩])
              · skip
                refine wl_call (args := [.pointer (some ⟨f, 0, none⟩), .int .i64 d, .int .i64 1]) in_82 rfl rfl rfl ?_
                refine (is0 (f := f) (m := m) (R := R) (c := c) (D := D) (L := L) (vs := vs) (rest := [.blk g2 38 #[.int .i64 kind, .int .i64 lit, GV], .ro DI (fun w => IntsD DI w (.slice (some ⟨bI, oI, none⟩) 3 cJ) [a, b, d])]) (O49.re [1, 2, 3, 4, 5, 0, 6] rfl : Own (zone (foldE f m R c D L vs ++ [inE DI (.slice (some ⟨bI, oI, none⟩) 3 cJ) [a, b, d]])) W w47 [.blk f 56 #[.slice R L.length c, .map (some m)], .map m (encL strE (keysGo L 0)), .row (.slice R L.length c) 38 3 L.length (gcells L vs), .ro D (Ins D L vs), .ro TabD Tab, .blk g2 38 #[.int .i64 kind, .int .i64 lit, GV], .ro DI (fun w => IntsD DI w (.slice (some ⟨bI, oI, none⟩) 3 cJ) [a, b, d])]) (by omega) c50).mono ?_
                rintro _ w61 ⟨rfl, hb62⟩
                have O63 : Own (zone (foldE f m R c D L vs ++ [inE DI (.slice (some ⟨bI, oI, none⟩) 3 cJ) [a, b, d]])) W w61 [.blk g2 38 #[.int .i64 kind, .int .i64 lit, GV], .blk f 56 #[.slice R L.length c, .map (some m)], .map m (encL strE (keysGo L 0)), .row (.slice R L.length c) 38 3 L.length (gcells L vs), .ro D (Ins D L vs), .ro TabD Tab, .ro DI (fun w => IntsD DI w (.slice (some ⟨bI, oI, none⟩) 3 cJ) [a, b, d])] := O49.below hb62
                refine ⟨_, rfl, ?_⟩
                refine wl_val (v := .bool false) (fun ρ e => ex_pick1 (e _ _ rfl) (e _ _ rfl)) rfl rfl ?_
                refine wl_val (v := .bool false) (fun ρ e => ex_assign (e _ _ rfl)) rfl rfl ?_
                refine wl_nil ?_
                refine xw_next K45 ?_
                refine cw_false rfl ?_
                refine cw_skip ?_
                refine xw_block ?_
                refine xw_next K10 ?_
                refine cw_seq (fun FK64 K64 => ?_)
                refine cw_region ?_
                refine wl_val (v := .pointer (some ⟨f, 0, none⟩)) (fun ρ e => ex_move (e _ _ rfl)) rfl rfl ?_
                refine wl_val (v := .int .i64 a) (fun ρ e => ex_move (e _ _ rfl)) rfl rfl ?_
                refine wl_val (v := .int .i64 b) (fun ρ e => ex_move (e _ _ rfl)) rfl rfl ?_
                refine wl_val (v := .int .i64 d) (fun ρ e => ex_move (e _ _ rfl)) rfl rfl ?_
                obtain ⟨g65, w66, r67, O68, hg69, hs70⟩ := own_slice O63 el36 ze3 3 [(0, .int .i64 a), (1, .int .i64 b), (2, .int .i64 d)] (cs := #[.int .i64 a, .int .i64 b, .int .i64 d]) (by decide) (by kernel_rfl)
                refine wl_val (v := .slice (some ⟨g65, 0, none⟩) 3 3) (fun ρ e => r67 ρ _ _ _ _ _ _ (e.parts rfl)) rfl rfl ?_
                refine wl_val (v := .agg #[.int .i64 8, .int .i64 0, .slice (some ⟨g65, 0, none⟩) 3 3]) (fun ρ e => ex_build (cells := #[.int .i64 8, .int .i64 0, .slice (some ⟨g65, 0, none⟩) 3 3]) st38 (e.parts rfl) rfl) rfl rfl ?_
                refine wl_call (args := [.pointer (some ⟨f, 0, none⟩), .agg #[.int .i64 8, .int .i64 0, .slice (some ⟨g65, 0, none⟩) 3 3]]) in_80 rfl rfl rfl ?_
                have O71 : Own (zone (foldE f m R c D L vs ++ [inE DI (.slice (some ⟨bI, oI, none⟩) 3 cJ) [a, b, d]])) W w66 [.ro (fun k => k = g65) (fun w => IntsD (fun k => k = g65) w (.slice (some ⟨g65, 0, none⟩) 3 3) ([a, b, d])), .blk g2 38 #[.int .i64 kind, .int .i64 lit, GV], .blk f 56 #[.slice R L.length c, .map (some m)], .map m (encL strE (keysGo L 0)), .row (.slice R L.length c) 38 3 L.length (gcells L vs), .ro D (Ins D L vs), .ro TabD Tab, .ro DI (fun w => IntsD DI w (.slice (some ⟨bI, oI, none⟩) 3 cJ) [a, b, d])] := Own.blkin (l := [a, b, d]) O68 rfl rfl (by decide)
                refine (call_find (f := f) (m := m) (R := R) (c := c) (D := D) (L := L) (vs := vs) (D2 := (fun k => k = g65)) (V := .slice (some ⟨g65, 0, none⟩) 3 3) (g := ⟨8, 0, [a, b, d]⟩) (rest := [.blk g2 38 #[.int .i64 kind, .int .i64 lit, GV], .ro DI (fun w => IntsD DI w (.slice (some ⟨bI, oI, none⟩) 3 cJ) [a, b, d])]) (O71.re [2, 3, 4, 5, 6, 0, 1, 7] rfl : Own (zone (foldE f m R c D L vs ++ [inE DI (.slice (some ⟨bI, oI, none⟩) 3 cJ) [a, b, d]])) W w66 [.blk f 56 #[.slice R L.length c, .map (some m)], .map m (encL strE (keysGo L 0)), .row (.slice R L.length c) 38 3 L.length (gcells L vs), .ro D (Ins D L vs), .ro TabD Tab, .ro (fun k => k = g65) (fun w => IntsD (fun k => k = g65) w (.slice (some ⟨g65, 0, none⟩) 3 3) ([a, b, d])), .blk g2 38 #[.int .i64 kind, .int .i64 lit, GV], .ro DI (fun w => IntsD DI w (.slice (some ⟨bI, oI, none⟩) 3 cJ) [a, b, d])]) (small_n (smallI_lit 8 rfl) (by simp only [List.mem_cons, List.not_mem_nil, or_false, forall_eq_or_imp, forall_eq, smallI]; omega) (Nat.le_of_ble_eq_true rfl)) hL).mono ?_
                rintro _ w72 ⟨R73, c74, D75, vs76, rfl, O77⟩
                refine ⟨_, rfl, ?_⟩
                refine wl_val (v := .int .i64 ((findG L ⟨8, 0, [a, b, d]⟩).2)) (fun ρ e => ex_assign (e _ _ rfl)) rfl rfl ?_
                refine wl_nil ?_
                refine xw_next K64 ?_
                refine cw_ret ?_
                refine xw_ret (v := .int .i64 ((findG L ⟨8, 0, [a, b, d]⟩).2)) (fun T hT => res1 rfl T _ (hT 6 _ rfl)) ?_
                exact FPost.eq ⟨_, _, _, _, rfl, (O77.re [0, 1, 2, 3, 4] rfl : Own (zone (foldE f m R c D L vs ++ [inE DI (.slice (some ⟨bI, oI, none⟩) 3 cJ) [a, b, d]])) W w72 [.blk f 56 #[.slice R73 (((findG L ⟨8, 0, [a, b, d]⟩).1).length) c74, .map (some m)], .map m (encL strE (keysGo ((findG L ⟨8, 0, [a, b, d]⟩).1) 0)), .row (.slice R73 (((findG L ⟨8, 0, [a, b, d]⟩).1).length) c74) 38 3 (((findG L ⟨8, 0, [a, b, d]⟩).1).length) (gcells ((findG L ⟨8, 0, [a, b, d]⟩).1) vs76), .ro D75 (Ins D75 ((findG L ⟨8, 0, [a, b, d]⟩).1) vs76), .ro TabD Tab])⟩ (by rw [chooseG, if_neg c12, if_neg (fun h => h.elim c22 c30), if_neg (fun h => c37 h.2), if_neg (fun h => c50 h.2)])
            · skip
              refine wl_call (args := [.pointer (some ⟨f, 0, none⟩), .int .i64 b, .int .i64 0]) in_82 rfl rfl rfl ?_
              refine (is0 (f := f) (m := m) (R := R) (c := c) (D := D) (L := L) (vs := vs) (rest := [.blk g2 38 #[.int .i64 kind, .int .i64 lit, GV], .ro DI (fun w => IntsD DI w (.slice (some ⟨bI, oI, none⟩) 3 cJ) [a, b, d])]) (O44.re [1, 2, 3, 4, 5, 0, 6] rfl : Own (zone (foldE f m R c D L vs ++ [inE DI (.slice (some ⟨bI, oI, none⟩) 3 cJ) [a, b, d]])) W w42 [.blk f 56 #[.slice R L.length c, .map (some m)], .map m (encL strE (keysGo L 0)), .row (.slice R L.length c) 38 3 L.length (gcells L vs), .ro D (Ins D L vs), .ro TabD Tab, .blk g2 38 #[.int .i64 kind, .int .i64 lit, GV], .ro DI (fun w => IntsD DI w (.slice (some ⟨bI, oI, none⟩) 3 cJ) [a, b, d])]) (by omega) c46).mono ?_
              rintro _ w78 ⟨rfl, hb79⟩
              have O80 : Own (zone (foldE f m R c D L vs ++ [inE DI (.slice (some ⟨bI, oI, none⟩) 3 cJ) [a, b, d]])) W w78 [.blk g2 38 #[.int .i64 kind, .int .i64 lit, GV], .blk f 56 #[.slice R L.length c, .map (some m)], .map m (encL strE (keysGo L 0)), .row (.slice R L.length c) 38 3 L.length (gcells L vs), .ro D (Ins D L vs), .ro TabD Tab, .ro DI (fun w => IntsD DI w (.slice (some ⟨bI, oI, none⟩) 3 cJ) [a, b, d])] := O44.below hb79
              refine ⟨_, rfl, ?_⟩
              refine wl_val (v := .bool false) (fun ρ e => ex_move (e _ _ rfl)) rfl rfl ?_
              refine wl_skip rfl rfl ?_
              refine wl_skip rfl rfl ?_
              refine wl_skip rfl rfl ?_
              refine wl_val (v := .bool false) (fun ρ e => ex_pick0 (e _ _ rfl) (e _ _ rfl)) rfl rfl ?_
              refine wl_val (v := .bool false) (fun ρ e => ex_assign (e _ _ rfl)) rfl rfl ?_
              refine wl_nil ?_
              refine xw_next K45 ?_
              refine cw_false rfl ?_
              refine cw_skip ?_
              refine xw_block ?_
              refine xw_next K10 ?_
              refine cw_seq (fun FK81 K81 => ?_)
              refine cw_region ?_
              refine wl_val (v := .pointer (some ⟨f, 0, none⟩)) (fun ρ e => ex_move (e _ _ rfl)) rfl rfl ?_
              refine wl_val (v := .int .i64 a) (fun ρ e => ex_move (e _ _ rfl)) rfl rfl ?_
              refine wl_val (v := .int .i64 b) (fun ρ e => ex_move (e _ _ rfl)) rfl rfl ?_
              refine wl_val (v := .int .i64 d) (fun ρ e => ex_move (e _ _ rfl)) rfl rfl ?_
              obtain ⟨g82, w83, r84, O85, hg86, hs87⟩ := own_slice O80 el36 ze3 3 [(0, .int .i64 a), (1, .int .i64 b), (2, .int .i64 d)] (cs := #[.int .i64 a, .int .i64 b, .int .i64 d]) (by decide) (by kernel_rfl)
              refine wl_val (v := .slice (some ⟨g82, 0, none⟩) 3 3) (fun ρ e => r84 ρ _ _ _ _ _ _ (e.parts rfl)) rfl rfl ?_
              refine wl_val (v := .agg #[.int .i64 8, .int .i64 0, .slice (some ⟨g82, 0, none⟩) 3 3]) (fun ρ e => ex_build (cells := #[.int .i64 8, .int .i64 0, .slice (some ⟨g82, 0, none⟩) 3 3]) st38 (e.parts rfl) rfl) rfl rfl ?_
              refine wl_call (args := [.pointer (some ⟨f, 0, none⟩), .agg #[.int .i64 8, .int .i64 0, .slice (some ⟨g82, 0, none⟩) 3 3]]) in_80 rfl rfl rfl ?_
              have O88 : Own (zone (foldE f m R c D L vs ++ [inE DI (.slice (some ⟨bI, oI, none⟩) 3 cJ) [a, b, d]])) W w83 [.ro (fun k => k = g82) (fun w => IntsD (fun k => k = g82) w (.slice (some ⟨g82, 0, none⟩) 3 3) ([a, b, d])), .blk g2 38 #[.int .i64 kind, .int .i64 lit, GV], .blk f 56 #[.slice R L.length c, .map (some m)], .map m (encL strE (keysGo L 0)), .row (.slice R L.length c) 38 3 L.length (gcells L vs), .ro D (Ins D L vs), .ro TabD Tab, .ro DI (fun w => IntsD DI w (.slice (some ⟨bI, oI, none⟩) 3 cJ) [a, b, d])] := Own.blkin (l := [a, b, d]) O85 rfl rfl (by decide)
              refine (call_find (f := f) (m := m) (R := R) (c := c) (D := D) (L := L) (vs := vs) (D2 := (fun k => k = g82)) (V := .slice (some ⟨g82, 0, none⟩) 3 3) (g := ⟨8, 0, [a, b, d]⟩) (rest := [.blk g2 38 #[.int .i64 kind, .int .i64 lit, GV], .ro DI (fun w => IntsD DI w (.slice (some ⟨bI, oI, none⟩) 3 cJ) [a, b, d])]) (O88.re [2, 3, 4, 5, 6, 0, 1, 7] rfl : Own (zone (foldE f m R c D L vs ++ [inE DI (.slice (some ⟨bI, oI, none⟩) 3 cJ) [a, b, d]])) W w83 [.blk f 56 #[.slice R L.length c, .map (some m)], .map m (encL strE (keysGo L 0)), .row (.slice R L.length c) 38 3 L.length (gcells L vs), .ro D (Ins D L vs), .ro TabD Tab, .ro (fun k => k = g82) (fun w => IntsD (fun k => k = g82) w (.slice (some ⟨g82, 0, none⟩) 3 3) ([a, b, d])), .blk g2 38 #[.int .i64 kind, .int .i64 lit, GV], .ro DI (fun w => IntsD DI w (.slice (some ⟨bI, oI, none⟩) 3 cJ) [a, b, d])]) (small_n (smallI_lit 8 rfl) (by simp only [List.mem_cons, List.not_mem_nil, or_false, forall_eq_or_imp, forall_eq, smallI]; omega) (Nat.le_of_ble_eq_true rfl)) hL).mono ?_
              rintro _ w89 ⟨R90, c91, D92, vs93, rfl, O94⟩
              refine ⟨_, rfl, ?_⟩
              refine wl_val (v := .int .i64 ((findG L ⟨8, 0, [a, b, d]⟩).2)) (fun ρ e => ex_assign (e _ _ rfl)) rfl rfl ?_
              refine wl_nil ?_
              refine xw_next K81 ?_
              refine cw_ret ?_
              refine xw_ret (v := .int .i64 ((findG L ⟨8, 0, [a, b, d]⟩).2)) (fun T hT => res1 rfl T _ (hT 6 _ rfl)) ?_
              exact FPost.eq ⟨_, _, _, _, rfl, (O94.re [0, 1, 2, 3, 4] rfl : Own (zone (foldE f m R c D L vs ++ [inE DI (.slice (some ⟨bI, oI, none⟩) 3 cJ) [a, b, d]])) W w89 [.blk f 56 #[.slice R90 (((findG L ⟨8, 0, [a, b, d]⟩).1).length) c91, .map (some m)], .map m (encL strE (keysGo ((findG L ⟨8, 0, [a, b, d]⟩).1) 0)), .row (.slice R90 (((findG L ⟨8, 0, [a, b, d]⟩).1).length) c91) 38 3 (((findG L ⟨8, 0, [a, b, d]⟩).1).length) (gcells ((findG L ⟨8, 0, [a, b, d]⟩).1) vs93), .ro D92 (Ins D92 ((findG L ⟨8, 0, [a, b, d]⟩).1) vs93), .ro TabD Tab])⟩ (by rw [chooseG, if_neg c12, if_neg (fun h => h.elim c22 c30), if_neg (fun h => c37 h.2), if_neg (fun h => c46 h.1)])
        · skip
          refine wl_call (args := [.pointer (some ⟨f, 0, none⟩), .int .i64 b, .int .i64 1]) in_82 rfl rfl rfl ?_
          refine (is0 (f := f) (m := m) (R := R) (c := c) (D := D) (L := L) (vs := vs) (rest := [.blk g2 38 #[.int .i64 kind, .int .i64 lit, GV], .ro DI (fun w => IntsD DI w (.slice (some ⟨bI, oI, none⟩) 3 cJ) [a, b, d])]) (O29.re [1, 2, 3, 4, 5, 0, 6] rfl : Own (zone (foldE f m R c D L vs ++ [inE DI (.slice (some ⟨bI, oI, none⟩) 3 cJ) [a, b, d]])) W w27 [.blk f 56 #[.slice R L.length c, .map (some m)], .map m (encL strE (keysGo L 0)), .row (.slice R L.length c) 38 3 L.length (gcells L vs), .ro D (Ins D L vs), .ro TabD Tab, .blk g2 38 #[.int .i64 kind, .int .i64 lit, GV], .ro DI (fun w => IntsD DI w (.slice (some ⟨bI, oI, none⟩) 3 cJ) [a, b, d])]) (by omega) c33).mono ?_
          rintro _ w95 ⟨rfl, hb96⟩
          have O97 : Own (zone (foldE f m R c D L vs ++ [inE DI (.slice (some ⟨bI, oI, none⟩) 3 cJ) [a, b, d]])) W w95 [.blk g2 38 #[.int .i64 kind, .int .i64 lit, GV], .blk f 56 #[.slice R L.length c, .map (some m)], .map m (encL strE (keysGo L 0)), .row (.slice R L.length c) 38 3 L.length (gcells L vs), .ro D (Ins D L vs), .ro TabD Tab, .ro DI (fun w => IntsD DI w (.slice (some ⟨bI, oI, none⟩) 3 cJ) [a, b, d])] := O29.below hb96
          refine ⟨_, rfl, ?_⟩
          refine wl_val (v := .bool false) (fun ρ e => ex_move (e _ _ rfl)) rfl rfl ?_
          refine wl_skip rfl rfl ?_
          refine wl_skip rfl rfl ?_
          refine wl_skip rfl rfl ?_
          refine wl_val (v := .bool false) (fun ρ e => ex_pick0 (e _ _ rfl) (e _ _ rfl)) rfl rfl ?_
          refine wl_val (v := .bool false) (fun ρ e => ex_assign (e _ _ rfl)) rfl rfl ?_
          refine wl_nil ?_
          refine xw_next K32 ?_
          refine cw_false rfl ?_
          refine cw_seq (fun FK98 K98 => ?_)
          refine cw_region ?_
          refine wl_val (v := .pointer (some ⟨f, 0, none⟩)) (fun ρ e => ex_move (e _ _ rfl)) rfl rfl ?_
          refine wl_val (v := .int .i64 b) (fun ρ e => ex_move (e _ _ rfl)) rfl rfl ?_
          by_cases c99 : kindAt L b = 0
          · skip
            refine wl_call (args := [.pointer (some ⟨f, 0, none⟩), .int .i64 b, .int .i64 0]) in_82 rfl rfl rfl ?_
            refine (is1 (f := f) (m := m) (R := R) (c := c) (D := D) (L := L) (vs := vs) (rest := [.blk g2 38 #[.int .i64 kind, .int .i64 lit, GV], .ro DI (fun w => IntsD DI w (.slice (some ⟨bI, oI, none⟩) 3 cJ) [a, b, d])]) (O97.re [1, 2, 3, 4, 5, 0, 6] rfl : Own (zone (foldE f m R c D L vs ++ [inE DI (.slice (some ⟨bI, oI, none⟩) 3 cJ) [a, b, d]])) W w95 [.blk f 56 #[.slice R L.length c, .map (some m)], .map m (encL strE (keysGo L 0)), .row (.slice R L.length c) 38 3 L.length (gcells L vs), .ro D (Ins D L vs), .ro TabD Tab, .blk g2 38 #[.int .i64 kind, .int .i64 lit, GV], .ro DI (fun w => IntsD DI w (.slice (some ⟨bI, oI, none⟩) 3 cJ) [a, b, d])]) (by omega) c99).mono ?_
            rintro _ w100 ⟨rfl, hb101⟩
            have O102 : Own (zone (foldE f m R c D L vs ++ [inE DI (.slice (some ⟨bI, oI, none⟩) 3 cJ) [a, b, d]])) W w100 [.blk g2 38 #[.int .i64 kind, .int .i64 lit, GV], .blk f 56 #[.slice R L.length c, .map (some m)], .map m (encL strE (keysGo L 0)), .row (.slice R L.length c) 38 3 L.length (gcells L vs), .ro D (Ins D L vs), .ro TabD Tab, .ro DI (fun w => IntsD DI w (.slice (some ⟨bI, oI, none⟩) 3 cJ) [a, b, d])] := O97.below hb101
            refine ⟨_, rfl, ?_⟩
            refine wl_val (v := .bool true) (fun ρ e => ex_move (e _ _ rfl)) rfl rfl ?_
            refine wl_val (v := .pointer (some ⟨f, 0, none⟩)) (fun ρ e => ex_move (e _ _ rfl)) rfl rfl ?_
            refine wl_val (v := .int .i64 d) (fun ρ e => ex_move (e _ _ rfl)) rfl rfl ?_
            by_cases c103 : kindAt L d = 1
            · skip
              refine wl_call (args := [.pointer (some ⟨f, 0, none⟩), .int .i64 d, .int .i64 1]) in_82 rfl rfl rfl ?_
              refine (is1 (f := f) (m := m) (R := R) (c := c) (D := D) (L := L) (vs := vs) (rest := [.blk g2 38 #[.int .i64 kind, .int .i64 lit, GV], .ro DI (fun w => IntsD DI w (.slice (some ⟨bI, oI, none⟩) 3 cJ) [a, b, d])]) (O102.re [1, 2, 3, 4, 5, 0, 6] rfl : Own (zone (foldE f m R c D L vs ++ [inE DI (.slice (some ⟨bI, oI, none⟩) 3 cJ) [a, b, d]])) W w100 [.blk f 56 #[.slice R L.length c, .map (some m)], .map m (encL strE (keysGo L 0)), .row (.slice R L.length c) 38 3 L.length (gcells L vs), .ro D (Ins D L vs), .ro TabD Tab, .blk g2 38 #[.int .i64 kind, .int .i64 lit, GV], .ro DI (fun w => IntsD DI w (.slice (some ⟨bI, oI, none⟩) 3 cJ) [a, b, d])]) (by omega) c103).mono ?_
              rintro _ w104 ⟨rfl, hb105⟩
              have O106 : Own (zone (foldE f m R c D L vs ++ [inE DI (.slice (some ⟨bI, oI, none⟩) 3 cJ) [a, b, d]])) W w104 [.blk g2 38 #[.int .i64 kind, .int .i64 lit, GV], .blk f 56 #[.slice R L.length c, .map (some m)], .map m (encL strE (keysGo L 0)), .row (.slice R L.length c) 38 3 L.length (gcells L vs), .ro D (Ins D L vs), .ro TabD Tab, .ro DI (fun w => IntsD DI w (.slice (some ⟨bI, oI, none⟩) 3 cJ) [a, b, d])] := O102.below hb105
              refine ⟨_, rfl, ?_⟩
              refine wl_val (v := .bool true) (fun ρ e => ex_pick1 (e _ _ rfl) (e _ _ rfl)) rfl rfl ?_
              refine wl_val (v := .bool true) (fun ρ e => ex_assign (e _ _ rfl)) rfl rfl ?_
              refine wl_nil ?_
              refine xw_next K98 ?_
              refine cw_true rfl ?_
              refine cw_seq (fun FK107 K107 => ?_)
              refine cw_region ?_
              refine wl_val (v := .pointer (some ⟨f, 0, none⟩)) (fun ρ e => ex_move (e _ _ rfl)) rfl rfl ?_
              refine wl_val (v := .int .i64 a) (fun ρ e => ex_move (e _ _ rfl)) rfl rfl ?_
              refine wl_call (args := [.pointer (some ⟨f, 0, none⟩), .int .i64 a]) in_81 rfl rfl rfl ?_
              refine (FPost.use (A := foldE f m R c D L vs) (rest := [.blk g2 38 #[.int .i64 kind, .int .i64 lit, GV], .ro DI (fun w => IntsD DI w (.slice (some ⟨bI, oI, none⟩) 3 cJ) [a, b, d])]) (O106.re [1, 2, 3, 4, 5, 0, 6] rfl : Own (zone (foldE f m R c D L vs ++ [inE DI (.slice (some ⟨bI, oI, none⟩) 3 cJ) [a, b, d]])) W w104 [.blk f 56 #[.slice R L.length c, .map (some m)], .map m (encL strE (keysGo L 0)), .row (.slice R L.length c) 38 3 L.length (gcells L vs), .ro D (Ins D L vs), .ro TabD Tab, .blk g2 38 #[.int .i64 kind, .int .i64 lit, GV], .ro DI (fun w => IntsD DI w (.slice (some ⟨bI, oI, none⟩) 3 cJ) [a, b, d])]) (not_ (Own.hand (A := foldE f m R c D L vs) (R := [.blk g2 38 #[.int .i64 kind, .int .i64 lit, GV], .ro DI (fun w => IntsD DI w (.slice (some ⟨bI, oI, none⟩) 3 cJ) [a, b, d])]) (O106.re [1, 2, 3, 4, 5, 0, 6] rfl : Own (zone (foldE f m R c D L vs ++ [inE DI (.slice (some ⟨bI, oI, none⟩) 3 cJ) [a, b, d]])) W w104 [.blk f 56 #[.slice R L.length c, .map (some m)], .map m (encL strE (keysGo L 0)), .row (.slice R L.length c) 38 3 L.length (gcells L vs), .ro D (Ins D L vs), .ro TabD Tab, .blk g2 38 #[.int .i64 kind, .int .i64 lit, GV], .ro DI (fun w => IntsD DI w (.slice (some ⟨bI, oI, none⟩) 3 cJ) [a, b, d])])) (by omega) ok hL)).mono ?_
              rintro _ w108 ⟨R109, c110, D111, vs112, rfl, O113⟩
              refine ⟨_, rfl, ?_⟩
              refine wl_val (v := .int .i64 ((notG L a).2)) (fun ρ e => ex_assign (e _ _ rfl)) rfl rfl ?_
              refine wl_nil ?_
              refine xw_next K107 ?_
              refine cw_ret ?_
              refine xw_blockret ?_
              refine xw_past (by intro h; cases h) ?_
              refine xw_ret (v := .int .i64 ((notG L a).2)) (fun T hT => res1 rfl T _ (hT 6 _ rfl)) ?_
              exact FPost.eq ⟨_, _, _, _, rfl, (O113.re [0, 1, 2, 3, 4] rfl : Own (zone (foldE f m R c D L vs ++ [inE DI (.slice (some ⟨bI, oI, none⟩) 3 cJ) [a, b, d]])) W w108 [.blk f 56 #[.slice R109 (((notG L a).1).length) c110, .map (some m)], .map m (encL strE (keysGo ((notG L a).1) 0)), .row (.slice R109 (((notG L a).1).length) c110) 38 3 (((notG L a).1).length) (gcells ((notG L a).1) vs112), .ro D111 (Ins D111 ((notG L a).1) vs112), .ro TabD Tab])⟩ (by rw [chooseG, if_neg c12, if_neg (fun h => h.elim c22 c30), if_neg (fun h => c33 h.1), if_pos ⟨c99, c103⟩])
            · skip
              refine wl_call (args := [.pointer (some ⟨f, 0, none⟩), .int .i64 d, .int .i64 1]) in_82 rfl rfl rfl ?_
              refine (is0 (f := f) (m := m) (R := R) (c := c) (D := D) (L := L) (vs := vs) (rest := [.blk g2 38 #[.int .i64 kind, .int .i64 lit, GV], .ro DI (fun w => IntsD DI w (.slice (some ⟨bI, oI, none⟩) 3 cJ) [a, b, d])]) (O102.re [1, 2, 3, 4, 5, 0, 6] rfl : Own (zone (foldE f m R c D L vs ++ [inE DI (.slice (some ⟨bI, oI, none⟩) 3 cJ) [a, b, d]])) W w100 [.blk f 56 #[.slice R L.length c, .map (some m)], .map m (encL strE (keysGo L 0)), .row (.slice R L.length c) 38 3 L.length (gcells L vs), .ro D (Ins D L vs), .ro TabD Tab, .blk g2 38 #[.int .i64 kind, .int .i64 lit, GV], .ro DI (fun w => IntsD DI w (.slice (some ⟨bI, oI, none⟩) 3 cJ) [a, b, d])]) (by omega) c103).mono ?_
              rintro _ w114 ⟨rfl, hb115⟩
              have O116 : Own (zone (foldE f m R c D L vs ++ [inE DI (.slice (some ⟨bI, oI, none⟩) 3 cJ) [a, b, d]])) W w114 [.blk g2 38 #[.int .i64 kind, .int .i64 lit, GV], .blk f 56 #[.slice R L.length c, .map (some m)], .map m (encL strE (keysGo L 0)), .row (.slice R L.length c) 38 3 L.length (gcells L vs), .ro D (Ins D L vs), .ro TabD Tab, .ro DI (fun w => IntsD DI w (.slice (some ⟨bI, oI, none⟩) 3 cJ) [a, b, d])] := O102.below hb115
              refine ⟨_, rfl, ?_⟩
              refine wl_val (v := .bool false) (fun ρ e => ex_pick1 (e _ _ rfl) (e _ _ rfl)) rfl rfl ?_
              refine wl_val (v := .bool false) (fun ρ e => ex_assign (e _ _ rfl)) rfl rfl ?_
              refine wl_nil ?_
              refine xw_next K98 ?_
              refine cw_false rfl ?_
              refine cw_skip ?_
              refine xw_block ?_
              refine xw_next K10 ?_
              refine cw_seq (fun FK117 K117 => ?_)
              refine cw_region ?_
              refine wl_val (v := .pointer (some ⟨f, 0, none⟩)) (fun ρ e => ex_move (e _ _ rfl)) rfl rfl ?_
              refine wl_val (v := .int .i64 a) (fun ρ e => ex_move (e _ _ rfl)) rfl rfl ?_
              refine wl_val (v := .int .i64 b) (fun ρ e => ex_move (e _ _ rfl)) rfl rfl ?_
              refine wl_val (v := .int .i64 d) (fun ρ e => ex_move (e _ _ rfl)) rfl rfl ?_
              obtain ⟨g118, w119, r120, O121, hg122, hs123⟩ := own_slice O116 el36 ze3 3 [(0, .int .i64 a), (1, .int .i64 b), (2, .int .i64 d)] (cs := #[.int .i64 a, .int .i64 b, .int .i64 d]) (by decide) (by kernel_rfl)
              refine wl_val (v := .slice (some ⟨g118, 0, none⟩) 3 3) (fun ρ e => r120 ρ _ _ _ _ _ _ (e.parts rfl)) rfl rfl ?_
              refine wl_val (v := .agg #[.int .i64 8, .int .i64 0, .slice (some ⟨g118, 0, none⟩) 3 3]) (fun ρ e => ex_build (cells := #[.int .i64 8, .int .i64 0, .slice (some ⟨g118, 0, none⟩) 3 3]) st38 (e.parts rfl) rfl) rfl rfl ?_
              refine wl_call (args := [.pointer (some ⟨f, 0, none⟩), .agg #[.int .i64 8, .int .i64 0, .slice (some ⟨g118, 0, none⟩) 3 3]]) in_80 rfl rfl rfl ?_
              have O124 : Own (zone (foldE f m R c D L vs ++ [inE DI (.slice (some ⟨bI, oI, none⟩) 3 cJ) [a, b, d]])) W w119 [.ro (fun k => k = g118) (fun w => IntsD (fun k => k = g118) w (.slice (some ⟨g118, 0, none⟩) 3 3) ([a, b, d])), .blk g2 38 #[.int .i64 kind, .int .i64 lit, GV], .blk f 56 #[.slice R L.length c, .map (some m)], .map m (encL strE (keysGo L 0)), .row (.slice R L.length c) 38 3 L.length (gcells L vs), .ro D (Ins D L vs), .ro TabD Tab, .ro DI (fun w => IntsD DI w (.slice (some ⟨bI, oI, none⟩) 3 cJ) [a, b, d])] := Own.blkin (l := [a, b, d]) O121 rfl rfl (by decide)
              refine (call_find (f := f) (m := m) (R := R) (c := c) (D := D) (L := L) (vs := vs) (D2 := (fun k => k = g118)) (V := .slice (some ⟨g118, 0, none⟩) 3 3) (g := ⟨8, 0, [a, b, d]⟩) (rest := [.blk g2 38 #[.int .i64 kind, .int .i64 lit, GV], .ro DI (fun w => IntsD DI w (.slice (some ⟨bI, oI, none⟩) 3 cJ) [a, b, d])]) (O124.re [2, 3, 4, 5, 6, 0, 1, 7] rfl : Own (zone (foldE f m R c D L vs ++ [inE DI (.slice (some ⟨bI, oI, none⟩) 3 cJ) [a, b, d]])) W w119 [.blk f 56 #[.slice R L.length c, .map (some m)], .map m (encL strE (keysGo L 0)), .row (.slice R L.length c) 38 3 L.length (gcells L vs), .ro D (Ins D L vs), .ro TabD Tab, .ro (fun k => k = g118) (fun w => IntsD (fun k => k = g118) w (.slice (some ⟨g118, 0, none⟩) 3 3) ([a, b, d])), .blk g2 38 #[.int .i64 kind, .int .i64 lit, GV], .ro DI (fun w => IntsD DI w (.slice (some ⟨bI, oI, none⟩) 3 cJ) [a, b, d])]) (small_n (smallI_lit 8 rfl) (by simp only [List.mem_cons, List.not_mem_nil, or_false, forall_eq_or_imp, forall_eq, smallI]; omega) (Nat.le_of_ble_eq_true rfl)) hL).mono ?_
              rintro _ w125 ⟨R126, c127, D128, vs129, rfl, O130⟩
              refine ⟨_, rfl, ?_⟩
              refine wl_val (v := .int .i64 ((findG L ⟨8, 0, [a, b, d]⟩).2)) (fun ρ e => ex_assign (e _ _ rfl)) rfl rfl ?_
              refine wl_nil ?_
              refine xw_next K117 ?_
              refine cw_ret ?_
              refine xw_ret (v := .int .i64 ((findG L ⟨8, 0, [a, b, d]⟩).2)) (fun T hT => res1 rfl T _ (hT 6 _ rfl)) ?_
              exact FPost.eq ⟨_, _, _, _, rfl, (O130.re [0, 1, 2, 3, 4] rfl : Own (zone (foldE f m R c D L vs ++ [inE DI (.slice (some ⟨bI, oI, none⟩) 3 cJ) [a, b, d]])) W w125 [.blk f 56 #[.slice R126 (((findG L ⟨8, 0, [a, b, d]⟩).1).length) c127, .map (some m)], .map m (encL strE (keysGo ((findG L ⟨8, 0, [a, b, d]⟩).1) 0)), .row (.slice R126 (((findG L ⟨8, 0, [a, b, d]⟩).1).length) c127) 38 3 (((findG L ⟨8, 0, [a, b, d]⟩).1).length) (gcells ((findG L ⟨8, 0, [a, b, d]⟩).1) vs129), .ro D128 (Ins D128 ((findG L ⟨8, 0, [a, b, d]⟩).1) vs129), .ro TabD Tab])⟩ (by rw [chooseG, if_neg c12, if_neg (fun h => h.elim c22 c30), if_neg (fun h => c33 h.1), if_neg (fun h => c103 h.2)])
          · skip
            refine wl_call (args := [.pointer (some ⟨f, 0, none⟩), .int .i64 b, .int .i64 0]) in_82 rfl rfl rfl ?_
            refine (is0 (f := f) (m := m) (R := R) (c := c) (D := D) (L := L) (vs := vs) (rest := [.blk g2 38 #[.int .i64 kind, .int .i64 lit, GV], .ro DI (fun w => IntsD DI w (.slice (some ⟨bI, oI, none⟩) 3 cJ) [a, b, d])]) (O97.re [1, 2, 3, 4, 5, 0, 6] rfl : Own (zone (foldE f m R c D L vs ++ [inE DI (.slice (some ⟨bI, oI, none⟩) 3 cJ) [a, b, d]])) W w95 [.blk f 56 #[.slice R L.length c, .map (some m)], .map m (encL strE (keysGo L 0)), .row (.slice R L.length c) 38 3 L.length (gcells L vs), .ro D (Ins D L vs), .ro TabD Tab, .blk g2 38 #[.int .i64 kind, .int .i64 lit, GV], .ro DI (fun w => IntsD DI w (.slice (some ⟨bI, oI, none⟩) 3 cJ) [a, b, d])]) (by omega) c99).mono ?_
            rintro _ w131 ⟨rfl, hb132⟩
            have O133 : Own (zone (foldE f m R c D L vs ++ [inE DI (.slice (some ⟨bI, oI, none⟩) 3 cJ) [a, b, d]])) W w131 [.blk g2 38 #[.int .i64 kind, .int .i64 lit, GV], .blk f 56 #[.slice R L.length c, .map (some m)], .map m (encL strE (keysGo L 0)), .row (.slice R L.length c) 38 3 L.length (gcells L vs), .ro D (Ins D L vs), .ro TabD Tab, .ro DI (fun w => IntsD DI w (.slice (some ⟨bI, oI, none⟩) 3 cJ) [a, b, d])] := O97.below hb132
            refine ⟨_, rfl, ?_⟩
            refine wl_val (v := .bool false) (fun ρ e => ex_move (e _ _ rfl)) rfl rfl ?_
            refine wl_skip rfl rfl ?_
            refine wl_skip rfl rfl ?_
            refine wl_skip rfl rfl ?_
            refine wl_val (v := .bool false) (fun ρ e => ex_pick0 (e _ _ rfl) (e _ _ rfl)) rfl rfl ?_
            refine wl_val (v := .bool false) (fun ρ e => ex_assign (e _ _ rfl)) rfl rfl ?_
            refine wl_nil ?_
            refine xw_next K98 ?_
            refine cw_false rfl ?_
            refine cw_skip ?_
            refine xw_block ?_
            refine xw_next K10 ?_
            refine cw_seq (fun FK134 K134 => ?_)
            refine cw_region ?_
            refine wl_val (v := .pointer (some ⟨f, 0, none⟩)) (fun ρ e => ex_move (e _ _ rfl)) rfl rfl ?_
            refine wl_val (v := .int .i64 a) (fun ρ e => ex_move (e _ _ rfl)) rfl rfl ?_
            refine wl_val (v := .int .i64 b) (fun ρ e => ex_move (e _ _ rfl)) rfl rfl ?_
            refine wl_val (v := .int .i64 d) (fun ρ e => ex_move (e _ _ rfl)) rfl rfl ?_
            obtain ⟨g135, w136, r137, O138, hg139, hs140⟩ := own_slice O133 el36 ze3 3 [(0, .int .i64 a), (1, .int .i64 b), (2, .int .i64 d)] (cs := #[.int .i64 a, .int .i64 b, .int .i64 d]) (by decide) (by kernel_rfl)
            refine wl_val (v := .slice (some ⟨g135, 0, none⟩) 3 3) (fun ρ e => r137 ρ _ _ _ _ _ _ (e.parts rfl)) rfl rfl ?_
            refine wl_val (v := .agg #[.int .i64 8, .int .i64 0, .slice (some ⟨g135, 0, none⟩) 3 3]) (fun ρ e => ex_build (cells := #[.int .i64 8, .int .i64 0, .slice (some ⟨g135, 0, none⟩) 3 3]) st38 (e.parts rfl) rfl) rfl rfl ?_
            refine wl_call (args := [.pointer (some ⟨f, 0, none⟩), .agg #[.int .i64 8, .int .i64 0, .slice (some ⟨g135, 0, none⟩) 3 3]]) in_80 rfl rfl rfl ?_
            have O141 : Own (zone (foldE f m R c D L vs ++ [inE DI (.slice (some ⟨bI, oI, none⟩) 3 cJ) [a, b, d]])) W w136 [.ro (fun k => k = g135) (fun w => IntsD (fun k => k = g135) w (.slice (some ⟨g135, 0, none⟩) 3 3) ([a, b, d])), .blk g2 38 #[.int .i64 kind, .int .i64 lit, GV], .blk f 56 #[.slice R L.length c, .map (some m)], .map m (encL strE (keysGo L 0)), .row (.slice R L.length c) 38 3 L.length (gcells L vs), .ro D (Ins D L vs), .ro TabD Tab, .ro DI (fun w => IntsD DI w (.slice (some ⟨bI, oI, none⟩) 3 cJ) [a, b, d])] := Own.blkin (l := [a, b, d]) O138 rfl rfl (by decide)
            refine (call_find (f := f) (m := m) (R := R) (c := c) (D := D) (L := L) (vs := vs) (D2 := (fun k => k = g135)) (V := .slice (some ⟨g135, 0, none⟩) 3 3) (g := ⟨8, 0, [a, b, d]⟩) (rest := [.blk g2 38 #[.int .i64 kind, .int .i64 lit, GV], .ro DI (fun w => IntsD DI w (.slice (some ⟨bI, oI, none⟩) 3 cJ) [a, b, d])]) (O141.re [2, 3, 4, 5, 6, 0, 1, 7] rfl : Own (zone (foldE f m R c D L vs ++ [inE DI (.slice (some ⟨bI, oI, none⟩) 3 cJ) [a, b, d]])) W w136 [.blk f 56 #[.slice R L.length c, .map (some m)], .map m (encL strE (keysGo L 0)), .row (.slice R L.length c) 38 3 L.length (gcells L vs), .ro D (Ins D L vs), .ro TabD Tab, .ro (fun k => k = g135) (fun w => IntsD (fun k => k = g135) w (.slice (some ⟨g135, 0, none⟩) 3 3) ([a, b, d])), .blk g2 38 #[.int .i64 kind, .int .i64 lit, GV], .ro DI (fun w => IntsD DI w (.slice (some ⟨bI, oI, none⟩) 3 cJ) [a, b, d])]) (small_n (smallI_lit 8 rfl) (by simp only [List.mem_cons, List.not_mem_nil, or_false, forall_eq_or_imp, forall_eq, smallI]; omega) (Nat.le_of_ble_eq_true rfl)) hL).mono ?_
            rintro _ w142 ⟨R143, c144, D145, vs146, rfl, O147⟩
            refine ⟨_, rfl, ?_⟩
            refine wl_val (v := .int .i64 ((findG L ⟨8, 0, [a, b, d]⟩).2)) (fun ρ e => ex_assign (e _ _ rfl)) rfl rfl ?_
            refine wl_nil ?_
            refine xw_next K134 ?_
            refine cw_ret ?_
            refine xw_ret (v := .int .i64 ((findG L ⟨8, 0, [a, b, d]⟩).2)) (fun T hT => res1 rfl T _ (hT 6 _ rfl)) ?_
            exact FPost.eq ⟨_, _, _, _, rfl, (O147.re [0, 1, 2, 3, 4] rfl : Own (zone (foldE f m R c D L vs ++ [inE DI (.slice (some ⟨bI, oI, none⟩) 3 cJ) [a, b, d]])) W w142 [.blk f 56 #[.slice R143 (((findG L ⟨8, 0, [a, b, d]⟩).1).length) c144, .map (some m)], .map m (encL strE (keysGo ((findG L ⟨8, 0, [a, b, d]⟩).1) 0)), .row (.slice R143 (((findG L ⟨8, 0, [a, b, d]⟩).1).length) c144) 38 3 (((findG L ⟨8, 0, [a, b, d]⟩).1).length) (gcells ((findG L ⟨8, 0, [a, b, d]⟩).1) vs146), .ro D145 (Ins D145 ((findG L ⟨8, 0, [a, b, d]⟩).1) vs146), .ro TabD Tab])⟩ (by rw [chooseG, if_neg c12, if_neg (fun h => h.elim c22 c30), if_neg (fun h => c33 h.1), if_neg (fun h => c99 h.1)])
end
end Go.Proofs.YtbemhgojfehnjaaDoor
namespace Go.Proofs.YtbemhgojfehnjaaDoor
open Go Go.RowKit
theorem IntsD.cellq {D : Nat → Prop} {w : World} {b o n c : Nat} {xs : List Int} (h : IntsD D w (.slice (some ⟨b, o, none⟩) n c) xs) {k : Nat} {x : Int} (hk : xs[k]? = some x) : w.cell? ⟨b, o + k, none⟩ = some (.int .i64 x) := by
  obtain ⟨h1, rfl⟩ := List.getElem?_eq_some_iff.1 hk
  exact h.cell h1
theorem lookV_aput {κ : Type} [DecidableEq κ] (x y : κ) (v z : Value) : ∀ (l : List (κ × Value)) (i : Nat), lookV (look y (aput x v l) i) z = if y = x then v else lookV (look y l i) z
  | [], i => by
    unfold aput look look
    by_cases h : y = x <;> simp [h, lookV]
  | (a, u) :: l, i => by
    unfold aput
    by_cases hx : x = a
    · subst hx
      simp only [if_true]
      unfold look
      by_cases h : y = x <;> simp [h, lookV]
    · rw [if_neg hx]
      unfold look
      by_cases h : y = a
      · subst h
        simp [Ne.symm hx, lookV]
      · simp only [if_neg h]
        exact lookV_aput x y v z l (i + 1)
section
variable {κ : Type} [DecidableEq κ] {enc : κ → Value} {kind : TypeDesc} {T kt e : TypeId} {g : Nat} {l : List (κ × Value)} {w : World}
theorem ex_look0 {ρ : Operand → Value} {x y : Operand} {d : Option Tmp} {t : TypeId} {pos : String} {aft : Array Edge} {gd : Option (Nat × Bool)} (K : Key enc kind) (ht : Tryd.prog.underlying T = some (.map kt e)) (hk : Tryd.prog.underlying kt = some kind) {z : Value} (hz : ZeroB e z) (h : MapB w g (encL enc l)) (k : κ) {V : Value} (hV : lookV (look k l 0) z = V) (hx : ρ x = .map (some g)) (hy : ρ y = enc k) :
    (execOp ρ ⟨d, .lookup T x y false, t, pos, aft, gd⟩).run Tryd.prog w = .ok (.value V) w :=
  ex_look K ht hk hz h k rfl false hx hy hV
end
/-- The numbers that have been seen. -/
def seenIs (sl : List (Int × Value)) (p : Int → Bool) : Prop := ∀ x, lookV (look x sl 0) (.bool false) = .bool (p x)
theorem seen_nil : seenIs [] (fun _ => false) := fun _ => rfl
theorem seenIs.put {sl : List (Int × Value)} {p q : Int → Bool} (h : seenIs sl p) (x : Int) (b : Bool) (hq : ∀ y, q y = if y = x then b else p y) : seenIs (aput x (.bool b) sl) q := by
  intro y
  rw [lookV_aput, hq y, h y]
  by_cases e : y = x <;> simp [e]
theorem intCs_snoc (l : List Int) (x : Int) : intCs l ++ [.int .i64 x] = intCs (l ++ [x]) := by simp [intCs]
theorem drop_cons {l : List Int} {k : Nat} (h : k < l.length) : ∃ x, l[k]? = some x ∧ l.drop k = x :: l.drop (k + 1) ∧ x ∈ l := ⟨l[k], List.getElem?_eq_getElem h, List.drop_eq_getElem_cons h, List.getElem_mem h⟩
theorem Own.rowshape {Z : Bool → Nat → Prop} {w0 W : World} {LL : List En} (O : Own Z w0 W LL) (i : Nat) {A : Option Addr} {n c T sz : Nat} {xs : List Value} (hi : LL[i]? = some (.row (.slice A n c) T sz n xs)) (hn : 0 < n) : ∃ g, A = some ⟨g, 0, none⟩ := rowaddr (O.row i hi) hn
end Go.Proofs.YtbemhgojfehnjaaDoor
namespace Go.Proofs.YtbemhgojfehnjaaDoor
open Go Go.RowKit
theorem oddIn_snoc (y x : Int) : ∀ l : List Int, oddIn y (l ++ [x]) = (decide (y = x) != oddIn y l)
  | [] => rfl
  | z :: l => by
    show (decide (y = z) != oddIn y (l ++ [x])) = (decide (y = x) != (decide (y = z) != oddIn y l))
    rw [oddIn_snoc y x l]
    cases decide (y = z) <;> cases decide (y = x) <;> cases oddIn y l <;> rfl
theorem odd_put {sl : List (Int × Value)} {ins : List Int} {k : Nat} {x : Int} (h : seenIs sl (fun y => oddIn y (ins.take k))) (hk : k < ins.length) (hx : ins[k]? = some x) : seenIs (aput x (.bool (!(oddIn x (ins.take k)))) sl) (fun y => oddIn y (ins.take (k + 1))) := by
  refine h.put x _ (fun y => ?_)
  have e : ins.take (k + 1) = ins.take k ++ [x] := by
    rw [← List.take_append_getElem hk]
    rw [List.getElem?_eq_getElem hk] at hx
    injection hx with hx
    rw [hx]
  rw [e, oddIn_snoc]
  by_cases q : y = x
  · subst q; simp
  · simp [q]
theorem xorG_0 {L : List Gate} {ins : List Int} {last : Int} (h : xorGo L (fun x => oddIn x ins) ins [] (-1) = ([], last)) : xorG L ins = if last < 0 then findG L ⟨0, 0, []⟩ else (L, last) := by
  unfold xorG; rw [h]
theorem xorG_1 {L : List Gate} {ins : List Int} {last x : Int} (h : xorGo L (fun x => oddIn x ins) ins [] (-1) = ([x], last)) : xorG L ins = if last < 0 then (L, x) else notG L x := by
  unfold xorG; rw [h]
theorem xorG_2 {L : List Gate} {ins l2 : List Int} {last x x2 : Int} (h : xorGo L (fun x => oddIn x ins) ins [] (-1) = (x :: x2 :: l2, last)) : xorG L ins = if 0 ≤ last then findG L ⟨6, 0, (x :: x2 :: l2) ++ [last]⟩ else findG L ⟨6, 0, x :: x2 :: l2⟩ := by
  unfold xorG; rw [h]
end Go.Proofs.YtbemhgojfehnjaaDoor
namespace Go.Proofs.YtbemhgojfehnjaaDoor
open Go Go.RowKit
def boolCs (l : List Bool) : List Value := l.map fun x => .bool x
theorem setI (l : List Int) (k : Nat) (x : Int) : setN (intCs l).toArray k [.int .i64 x] = (intCs (l.set k x)).toArray := by simp [setN, intCs, List.map_set]
theorem setBo (l : List Bool) (k : Nat) (x : Bool) : setN (boolCs l).toArray k [.bool x] = (boolCs (l.set k x)).toArray := by simp [setN, boolCs, List.map_set]
theorem getI {l : List Int} {k : Nat} {x : Int} (h : l[k]? = some x) : (intCs l).toArray[k]? = some (.int .i64 x) := by simp [intCs, h]
theorem getBo {l : List Bool} {k : Nat} {x : Bool} (h : l[k]? = some x) : (boolCs l).toArray[k]? = some (.bool x) := by simp [boolCs, h]
theorem made1 (z : Value) (n : Nat) : madeCells #[z] n = (List.replicate n z).toArray := by
  apply Array.ext
  · simp [madeCells]
  · intro i h1 h2
    simp [madeCells, Nat.mod_one]
section
variable {Z : Bool → Nat → Prop} {w0 w W : World} {L : List En}
theorem own_make1 (O : Own Z w0 w L) {T e bytes : Nat} {z : Value} (E : El T e 1 bytes z) (hz1 : z.cells = #[z]) (n : Nat) (hb : bytes ≤ 8) (hn : n ≤ 1000000000) {cs : Array Value} (hc : (List.replicate n z).toArray = cs) :
    ∃ g w', (∀ (ρ : Operand → Value) x y d t pos aft gd, ρ x = .int .i64 (n : Int) → ρ y = .int .i64 (n : Int) → (execOp ρ ⟨d, .makeSlice T x y, t, pos, aft, gd⟩).run Tryd.prog w = .ok (.value (.slice (some ⟨g, 0, none⟩) n n)) w') ∧ Own Z w0 w' (.blk g e cs :: L) ∧ w.heap.size = g ∧ w'.heap.size = g + 1 := by
  subst hc
  obtain ⟨i, hi, hz, hsz, hby⟩ := info_parts E.info
  have hb8 : ((i.bytes : Nat) : Int) * (n : Int) ≤ 281474976710656 := by
    rw [hby]
    have h1 : bytes * n ≤ 8 * n := Nat.mul_le_mul_right n hb
    have h2 : ((bytes * n : Nat) : Int) ≤ 281474976710656 := by omega
    rwa [Int.natCast_mul] at h2
  have hr := run_make (P := Tryd.prog) w T e i z E.under hi hz .i64 .i64 n n (by omega) (by omega) hb8 (by omega)
  rw [hsz, hz1, Int.toNat_natCast, Nat.mul_one, made1] at hr
  refine ⟨w.heap.size, _, fun ρ x y d t pos aft gd hx hy => ?_, O.newb ((Below.refl _ _).alloc (Nat.le_refl _) _) (Blk.new w e _) rfl, rfl, by simp⟩
  simp only [execOp, hx, hy, Sem.run_bind, hr, Result.andThen_ok, Sem.run_pure]
theorem Own.oldro {D : Nat → Prop} {p : World → Prop} (h : Own Z0 w0 W L) (he : (En.ro D p).holds w0) : Own Z0 w0 W (.ro D p :: L) := by
  refine ⟨h.fr, fun e q => ?_, List.Pairwise.cons (fun b hb ho k h1 h2 => ?_) h.dist, fun e q k hk => ?_⟩
  · rcases List.mem_cons.1 q with rfl | q
    · exact En.move he h.old.size (fun k hk => h.old.block k (he.2.1 k hk))
    · exact h.has e q
  · have := he.2.1 k h1
    rcases h.free b hb k h2 with h3 | h3
    · rcases ho with ho | ho
      · exact ho
      · exact absurd (h3.2 ho) (by simp [Z0])
    · omega
  · rcases List.mem_cons.1 q with rfl | q
    · exact .inl ⟨rfl, fun ho => ho.elim⟩
    · exact h.free e q k hk
/-- A block as a full row. -/
theorem Own.blkrow {g T n : Nat} {cs : Array Value} {xs : List Value} (h : Own Z w0 W (.blk g T cs :: L)) (hc : cs = xs.toArray) (hn : n = xs.length) (hm : n ≤ 1000000000) : Own Z w0 W (.row (.slice (some ⟨g, 0, none⟩) n n) T 1 n xs :: L) := by
  subst hc hn
  refine h.as (e' := .row (.slice (some ⟨g, 0, none⟩) xs.length xs.length) T 1 xs.length xs) ⟨by simp, .inr ⟨g, xs.length, xs.toArray, rfl, Nat.zero_le _, h.blk 0 rfl, Nat.le_refl _, by unfold maxLen; omega, by simp, by simp⟩⟩ (fun k hk => ?_) (fun _ => trivial)
  have : some g = some k := hk
  injection this with this
  exact this.symm
theorem own_appN {te e : TypeId} {size bytes : Nat} {z v : Value} {k m c : Nat} {a : Addr} {xs news : List Value} (hO : Own Z w0 w (.row v e size k xs :: L)) (E : El te e size bytes z) (hl : news.length = m * size) (hnews : ∀ j u, news[j]? = some u → w.cell? (a.add j) = some u) (h1 : ∀ u ∈ news, u.oneCell' = true) (hlen : (k + m) * bytes ≤ 140737488355328) (hn : k + m ≤ 1099511627776) {ys : List Value} (hy : xs ++ news = ys) :
    ∃ A c' w', (∀ (ρ : Operand → Value) x y d t pos aft gd, ρ x = v → ρ y = .slice (some a) m c → (execOp ρ ⟨d, .call ⟨.builtin .append, #[x, y], #[te, te]⟩, t, pos, aft, gd⟩).run Tryd.prog w = .ok (.value (.slice A (k + m) c')) w') ∧
      Own Z w0 w' (.row (.slice A (k + m) c') e size (k + m) ys :: L) ∧ w.heap.size ≤ w'.heap.size := by
  subst hy
  obtain ⟨i, hi, hz, hsz, hb⟩ := info_parts E.info
  have hown := hO.row 0 rfl
  obtain ⟨v', w', hrun, h2, h3, _, h5⟩ := run_append_own_at (P := Tryd.prog) (w := w) 0 te 0 e i _ size bytes E.under hi hz hsz hb E.cells E.pos v _ _ hown a m c news hl hnews h1 (by unfold maxLen; omega) hlen (Nat.zero_le _)
  obtain ⟨A, c', rfl⟩ := own_form h2
  refine ⟨A, c', w', fun ρ x y d t pos aft gd hx hy => ?_, hO.app h2 (.grown h3) h5, h3.size⟩
  exact exec_append hx hy (by
    have : ∀ ty ty', Builtin.append_ #[te, te] ty #[v, .slice (some a) m c] = Builtin.append_ #[te, te] ty' #[v, .slice (some a) m c] := fun _ _ => rfl
    rw [this t 0]
    exact hrun)
/-- A cell of a row is written. -/
theorem Own.putrow {g T n c k : Nat} {xs : List Value} (h : Own Z w0 W (.row (.slice (some ⟨g, 0, none⟩) n c) T 1 n xs :: L)) (hk : k < n) (u : Value) :
    (∃ u0, W.cell? ⟨g, k, none⟩ = some u0) ∧ W.frozen? ⟨g, k, none⟩ = false ∧ Own Z w0 (W.setCell ⟨g, k, none⟩ u) (.row (.slice (some ⟨g, 0, none⟩) n c) T 1 n (xs.set k u) :: L) := by
  have hr := h.row 0 rfl
  obtain ⟨hlen, hr⟩ := hr
  rcases hr with ⟨h1, _⟩ | ⟨g', cap, cur, h1, _, hg, h2, h3, h4, h5⟩
  · cases h1
  · injection h1 with h1 _ hcap
    injection h1 with h1
    injection h1 with h1
    subst h1 hcap
    have hb : Blk W g T cur := hg
    have hsz : k < cur.size := by omega
    refine ⟨⟨cur[k], by rw [hb.cell k, Array.getElem?_eq_getElem hsz]⟩, hb.free k, ?_⟩
    refine h.one (e' := .row (.slice (some ⟨g, 0, none⟩) n c) T 1 n (xs.set k u)) (Frame.put W g k u) trivial (fun k q1 q => by show some g = some k; rw [show k = g from q]) ?_ (fun k q => .inl q)
    refine ⟨by simpa using hlen, .inr ⟨g, c, cur.setIfInBounds k u, rfl, Nat.zero_le _, hb.put k u, h2, h3, by simpa using h4, ?_⟩⟩
    rw [Array.toList_setIfInBounds, List.take_set, h5]
theorem own_putrow {g T T0 n c k : Nat} {xs ys : List Value} (h : Own Z w0 W (.row (.slice (some ⟨g, 0, none⟩) n c) T 1 n xs :: L)) (hT : TyB T0 1 false) (hk : k < n) (u : Value) (hu : u.oneCell' = true) (hc : u.cells.toList = [u]) (hy : xs.set k u = ys) :
    ∃ w', (∀ (ρ : Operand → Value) x y t pos aft gd, ρ x = .pointer (some ⟨g, k, none⟩) → ρ y = u → (execOp ρ ⟨none, .store T0 x y, t, pos, aft, gd⟩).run Tryd.prog W = .ok .skip w') ∧ Own Z w0 w' (.row (.slice (some ⟨g, 0, none⟩) n c) T 1 n ys :: L) ∧ w'.heap.size = W.heap.size := by
  subst hy
  obtain ⟨⟨u0, h1⟩, h2, h3⟩ := h.putrow hk u
  refine ⟨_, fun ρ x y t pos aft gd hx hy => ?_, h3, by simp [World.setCell]⟩
  have hs : u.cells.size = 1 := by have := congrArg List.length hc; simpa using this
  simp [execOp, Instr.storeAt, Instr.sureAddr, hx, hy, storeVar, run_size hT.size, hs, hc, storeCells, addr_plus, run_store _ _ _ _ _ hu, h1, h2]
end
section
variable {ρ : Operand → Value} {d : Option Tmp} {x y z : Operand} {t T : TypeId} {pos : String} {aft : Array Edge} {gd : Option (Nat × Bool)} {w : World}
theorem ex_sliceHi {e sz n c : Nat} {h : Nat} {A : Option Addr} (hT : ElB T e sz) (hx : ρ x = .slice A n c) (hy : ρ y = .int .i64 (h : Int)) (hh : h ≤ c) : (execOp ρ ⟨d, .slice T x none (some y) none, t, pos, aft, gd⟩).run Tryd.prog w = .ok (.value (.slice A h c)) w := by
  have hadd : ∀ a : Addr, a.add 0 = a := fun a => by cases a with | mk b o s => unfold Addr.add; cases s <;> simp
  cases A with
  | none => simp [execOp, Instr.sliceAt, Instr.slice, run_underlying hT.elem, hx, hy, Instr.sliceBounds, Instr.sliceBound, asIntOf, hh, run_size hT.size]
  | some a => simp [execOp, Instr.sliceAt, Instr.slice, run_underlying hT.elem, hx, hy, Instr.sliceBounds, Instr.sliceBound, asIntOf, hh, run_size hT.size, hadd]
theorem ex_eqnil {e n c : Nat} {A : Option Addr} (hT : Tryd.prog.underlying T = some (.slice e)) (hx : ρ x = .slice A n c) (hy : ρ y = .slice none 0 0) {T1 : TypeId} : (execOp ρ ⟨d, .binOp .eql T x y T1, t, pos, aft, gd⟩).run Tryd.prog w = .ok (.value (.bool A.isNone)) w := by
  have h1 : (eqGuard .eql T x y (.slice A n c) (.slice none 0 0)).run Tryd.prog w = .ok () w := rfl
  have h2 : binOp .eql T (.slice A n c) (.slice none 0 0) = (do pure (.bool (← Op.equal T (.slice A n c) (.slice none 0 0)))) := rfl
  have h3 : (Op.equal T (.slice A n c) (.slice none 0 0)).run Tryd.prog w = .ok A.isNone w := by
    unfold Op.equal
    rw [show Op.maxDepth = 9999 + 1 from rfl, Op.equalIn]
    simp only [Sem.run_bind, run_underlying hT, Result.andThen_ok]
    cases A <;> rfl
  simp only [execOp, hx, hy, Sem.run_bind, h1, h2, h3, Result.andThen_ok, Sem.run_pure]
theorem res2c {P : Program} {fn : Func} {a b g : Nat} {v u : Value} {T0 : TypeId} (h : fn.results = #[.cell a T0, .tmp b]) (T : Array Value) (w : World) (h1 : T[a]? = some (.pointer (some ⟨g, 0, none⟩))) (h2 : T[b]? = some u) (hv : (loadVar T0 ⟨g, 0, none⟩).run P w = .ok v w) : (results fn T).run P w = .ok (.tuple #[v, u]) w := by
  simp [results, h, Array.getD_eq_getD_getElem?, h1, h2, hv, asAddr]
end
end Go.Proofs.YtbemhgojfehnjaaDoor
namespace Go.Proofs.YtbemhgojfehnjaaDoor
open Go Go.RowKit
section
variable {Z : Bool → Nat → Prop} {w0 w W W' : World} {L A' : List En}
section
variable {κ : Type} [DecidableEq κ] {enc : κ → Value} {kind : TypeDesc} {T kt e : TypeId} {g : Nat} {l l' : List (κ × Value)}
theorem own_insert (hO : Own Z w0 w (.map g (encL enc l) :: L)) (K : Key enc kind) (ht : Tryd.prog.underlying T = some (.map kt e)) (hk : Tryd.prog.underlying kt = some kind) (k : κ) (v : Value) (hl : aput k v l = l') :
    ∃ w', (∀ (ρ : Operand → Value) x y z t pos aft gd, ρ x = .map (some g) → ρ y = enc k → ρ z = v → (execOp ρ ⟨none, .insert T x y z, t, pos, aft, gd⟩).run Tryd.prog w = .ok .skip w') ∧ Own Z w0 w' (.map g (encL enc l') :: L) ∧ w'.heap.size = w.heap.size := by
  subst hl
  obtain ⟨w', h1, h2, h3, h4⟩ := run_put K ht hk (hO.map 0 rfl) k v
  refine ⟨w', fun ρ x y z t pos aft gd hx hy hz => ?_, hO.mapput h2 h3, h4⟩
  simp only [execOp, hx, hy, hz, Sem.run_bind, h1, Result.andThen_ok, Sem.run_pure]
end
theorem Own.join (h : Own Z w0 W L) (h' : Own Z0 W W' A') (ho : ∀ e ∈ A', e.own) : Own Z w0 W' (A' ++ L) :=
  h.step (A := []) (Frame.of_below h'.old) (fun _ _ hn => hn.elim) h'.has h'.dist (fun e he k hk => by
    rcases h'.free e he k hk with h1 | h1
    · exact absurd (h1.2 (ho e he)) (by simp [Z0])
    · exact .inr h1)
theorem Own.join1 {e : En} (h : Own Z w0 W L) (h' : Own Z0 W W' [e]) (ho : e.own) : Own Z w0 W' (e :: L) := h.join h' (fun e' he => by rw [List.mem_singleton.1 he]; exact ho)
end
theorem IntsV.nilOf {w : World} {B n c : Nat} {xs : List Int} (h : IntsV w B (.slice none n c) xs) : xs = [] := by
  obtain ⟨A, c', hv, _, _, h3⟩ := h
  injection hv with h1 h2 _
  cases xs with
  | nil => rfl
  | cons x xs =>
    obtain ⟨b, o, _, hA, _⟩ := h3 (by simp)
    rw [hA] at h1; cases h1
theorem IntsV.cellsAt {w w' : World} {B n c : Nat} {a : Addr} {xs : List Int} (h : IntsV w B (.slice (some a) n c) xs) (hb : Below B w w') : ∀ j u, (intCs xs)[j]? = some u → w'.cell? (a.add j) = some u := by
  intro j u hj
  obtain ⟨A, c', hv, _, _, h3⟩ := h
  injection hv with h1 h2 _
  have hlt : j < xs.length := by have := (List.getElem?_eq_some_iff.1 hj).1; simpa [intCs] using this
  obtain ⟨b, o, hB, hA, hc⟩ := h3 (by omega)
  rw [hA] at h1
  injection h1 with h1
  subst h1
  rw [addr_plus, hb.cell (by exact hB)]
  have h5 : u = .int .i64 xs[j] := by
    simp only [intCs, List.getElem?_map, List.getElem?_eq_getElem hlt, Option.map_some, Option.some.injEq] at hj
    exact hj.symm
  rw [h5]
  simpa [IntAt] using hc j _ (List.getElem?_eq_getElem hlt)
theorem intCs_one (l : List Int) : ∀ u ∈ intCs l, u.oneCell' = true := by
  intro u hu
  obtain ⟨x, _, rfl⟩ := List.mem_map.1 hu
  rfl
/-- What circ's rules hold. -/
def rulesL (f : Nat) : List (Int × Value) := [60, 60, 60, 61, 62, 62, 63, 64, 65].zipIdx.map fun p => ((p.2 : Int), .func (.func p.1) #[.pointer (some ⟨f, 0, none⟩)] #[])
end Go.Proofs.YtbemhgojfehnjaaDoor
namespace Go.Proofs.YtbemhgojfehnjaaDoor
open Go Go.RowKit
theorem rules_ (W : World) (f : Nat) : Calls Tryd.prog 39 #[.pointer (some ⟨f, 0, none⟩)] W fun e w' => ∃ g, e = .returned (.map (some g)) ∧ Own Z0 W w' [.map g (encL intE (rulesL f))] := by
  have O0 : Own Z0 W W [] := Own.start W
  refine sx_enter (args := [.pointer (some ⟨f, 0, none⟩)]) Tryd.func39 rfl rfl (by simp) ?_
  refine cw_seq (fun FK1 K1 => ?_)
  refine cw_region ?_
  refine wl_val (v := .map none) (fun ρ e => ex_assign (e _ _ rfl)) rfl rfl ?_
  refine wl_nil ?_
  refine xw_next K1 ?_
  refine cw_seq (fun FK2 K2 => ?_)
  refine cw_region ?_
  obtain ⟨g3, w4, r5, O6, hg7, hs8⟩ := own_makeMap O0 57
  refine wl_val (v := .map (some g3)) (fun ρ e => r5 ρ _ _ _ _ _) rfl rfl ?_
  refine wl_val (v := .pointer (some ⟨f, 0, none⟩)) (fun ρ e => ex_move (e _ _ rfl)) rfl rfl ?_
  refine wl_val (v := .func (.func 60) #[.pointer (some ⟨f, 0, none⟩)] #[]) (fun ρ e => ex_func (us := [.pointer (some ⟨f, 0, none⟩)]) (vs := []) (congrArg (fun q => [q]) (e _ _ rfl)) rfl) rfl rfl ?_
  obtain ⟨w9, r10, O11, hs12⟩ := own_insert (l := []) (l' := [(0, .func (.func 60) #[.pointer (some ⟨f, 0, none⟩)] #[])]) O6 intKey Tryd.underlying57 Tryd.underlying3 0 (.func (.func 60) #[.pointer (some ⟨f, 0, none⟩)] #[]) rfl
  refine wl_none (fun ρ e => r10 ρ _ _ _ _ _ _ _ (e _ _ rfl) (e _ _ rfl) (e _ _ rfl)) rfl ?_
  refine wl_val (v := .pointer (some ⟨f, 0, none⟩)) (fun ρ e => ex_move (e _ _ rfl)) rfl rfl ?_
  refine wl_val (v := .func (.func 60) #[.pointer (some ⟨f, 0, none⟩)] #[]) (fun ρ e => ex_func (us := [.pointer (some ⟨f, 0, none⟩)]) (vs := []) (congrArg (fun q => [q]) (e _ _ rfl)) rfl) rfl rfl ?_
  obtain ⟨w13, r14, O15, hs16⟩ := own_insert (l := [(0, .func (.func 60) #[.pointer (some ⟨f, 0, none⟩)] #[])]) (l' := [(0, .func (.func 60) #[.pointer (some ⟨f, 0, none⟩)] #[]), (1, .func (.func 60) #[.pointer (some ⟨f, 0, none⟩)] #[])]) O11 intKey Tryd.underlying57 Tryd.underlying3 1 (.func (.func 60) #[.pointer (some ⟨f, 0, none⟩)] #[]) rfl
  refine wl_none (fun ρ e => r14 ρ _ _ _ _ _ _ _ (e _ _ rfl) (e _ _ rfl) (e _ _ rfl)) rfl ?_
  refine wl_val (v := .pointer (some ⟨f, 0, none⟩)) (fun ρ e => ex_move (e _ _ rfl)) rfl rfl ?_
  refine wl_val (v := .func (.func 60) #[.pointer (some ⟨f, 0, none⟩)] #[]) (fun ρ e => ex_func (us := [.pointer (some ⟨f, 0, none⟩)]) (vs := []) (congrArg (fun q => [q]) (e _ _ rfl)) rfl) rfl rfl ?_
  obtain ⟨w17, r18, O19, hs20⟩ := own_insert (l := [(0, .func (.func 60) #[.pointer (some ⟨f, 0, none⟩)] #[]), (1, .func (.func 60) #[.pointer (some ⟨f, 0, none⟩)] #[])]) (l' := [(0, .func (.func 60) #[.pointer (some ⟨f, 0, none⟩)] #[]), (1, .func (.func 60) #[.pointer (some ⟨f, 0, none⟩)] #[]), (2, .func (.func 60) #[.pointer (some ⟨f, 0, none⟩)] #[])]) O15 intKey Tryd.underlying57 Tryd.underlying3 2 (.func (.func 60) #[.pointer (some ⟨f, 0, none⟩)] #[]) rfl
  refine wl_none (fun ρ e => r18 ρ _ _ _ _ _ _ _ (e _ _ rfl) (e _ _ rfl) (e _ _ rfl)) rfl ?_
  refine wl_val (v := .pointer (some ⟨f, 0, none⟩)) (fun ρ e => ex_move (e _ _ rfl)) rfl rfl ?_
  refine wl_val (v := .func (.func 61) #[.pointer (some ⟨f, 0, none⟩)] #[]) (fun ρ e => ex_func (us := [.pointer (some ⟨f, 0, none⟩)]) (vs := []) (congrArg (fun q => [q]) (e _ _ rfl)) rfl) rfl rfl ?_
  obtain ⟨w21, r22, O23, hs24⟩ := own_insert (l := [(0, .func (.func 60) #[.pointer (some ⟨f, 0, none⟩)] #[]), (1, .func (.func 60) #[.pointer (some ⟨f, 0, none⟩)] #[]), (2, .func (.func 60) #[.pointer (some ⟨f, 0, none⟩)] #[])]) (l' := [(0, .func (.func 60) #[.pointer (some ⟨f, 0, none⟩)] #[]), (1, .func (.func 60) #[.pointer (some ⟨f, 0, none⟩)] #[]), (2, .func (.func 60) #[.pointer (some ⟨f, 0, none⟩)] #[]), (3, .func (.func 61) #[.pointer (some ⟨f, 0, none⟩)] #[])]) O19 intKey Tryd.underlying57 Tryd.underlying3 3 (.func (.func 61) #[.pointer (some ⟨f, 0, none⟩)] #[]) rfl
  refine wl_none (fun ρ e => r22 ρ _ _ _ _ _ _ _ (e _ _ rfl) (e _ _ rfl) (e _ _ rfl)) rfl ?_
  refine wl_val (v := .pointer (some ⟨f, 0, none⟩)) (fun ρ e => ex_move (e _ _ rfl)) rfl rfl ?_
  refine wl_val (v := .func (.func 62) #[.pointer (some ⟨f, 0, none⟩)] #[]) (fun ρ e => ex_func (us := [.pointer (some ⟨f, 0, none⟩)]) (vs := []) (congrArg (fun q => [q]) (e _ _ rfl)) rfl) rfl rfl ?_
  obtain ⟨w25, r26, O27, hs28⟩ := own_insert (l := [(0, .func (.func 60) #[.pointer (some ⟨f, 0, none⟩)] #[]), (1, .func (.func 60) #[.pointer (some ⟨f, 0, none⟩)] #[]), (2, .func (.func 60) #[.pointer (some ⟨f, 0, none⟩)] #[]), (3, .func (.func 61) #[.pointer (some ⟨f, 0, none⟩)] #[])]) (l' := [(0, .func (.func 60) #[.pointer (some ⟨f, 0, none⟩)] #[]), (1, .func (.func 60) #[.pointer (some ⟨f, 0, none⟩)] #[]), (2, .func (.func 60) #[.pointer (some ⟨f, 0, none⟩)] #[]), (3, .func (.func 61) #[.pointer (some ⟨f, 0, none⟩)] #[]), (4, .func (.func 62) #[.pointer (some ⟨f, 0, none⟩)] #[])]) O23 intKey Tryd.underlying57 Tryd.underlying3 4 (.func (.func 62) #[.pointer (some ⟨f, 0, none⟩)] #[]) rfl
  refine wl_none (fun ρ e => r26 ρ _ _ _ _ _ _ _ (e _ _ rfl) (e _ _ rfl) (e _ _ rfl)) rfl ?_
  refine wl_val (v := .pointer (some ⟨f, 0, none⟩)) (fun ρ e => ex_move (e _ _ rfl)) rfl rfl ?_
  refine wl_val (v := .func (.func 62) #[.pointer (some ⟨f, 0, none⟩)] #[]) (fun ρ e => ex_func (us := [.pointer (some ⟨f, 0, none⟩)]) (vs := []) (congrArg (fun q => [q]) (e _ _ rfl)) rfl) rfl rfl ?_
  obtain ⟨w29, r30, O31, hs32⟩ := own_insert (l := [(0, .func (.func 60) #[.pointer (some ⟨f, 0, none⟩)] #[]), (1, .func (.func 60) #[.pointer (some ⟨f, 0, none⟩)] #[]), (2, .func (.func 60) #[.pointer (some ⟨f, 0, none⟩)] #[]), (3, .func (.func 61) #[.pointer (some ⟨f, 0, none⟩)] #[]), (4, .func (.func 62) #[.pointer (some ⟨f, 0, none⟩)] #[])]) (l' := [(0, .func (.func 60) #[.pointer (some ⟨f, 0, none⟩)] #[]), (1, .func (.func 60) #[.pointer (some ⟨f, 0, none⟩)] #[]), (2, .func (.func 60) #[.pointer (some ⟨f, 0, none⟩)] #[]), (3, .func (.func 61) #[.pointer (some ⟨f, 0, none⟩)] #[]), (4, .func (.func 62) #[.pointer (some ⟨f, 0, none⟩)] #[]), (5, .func (.func 62) #[.pointer (some ⟨f, 0, none⟩)] #[])]) O27 intKey Tryd.underlying57 Tryd.underlying3 5 (.func (.func 62) #[.pointer (some ⟨f, 0, none⟩)] #[]) rfl
  refine wl_none (fun ρ e => r30 ρ _ _ _ _ _ _ _ (e _ _ rfl) (e _ _ rfl) (e _ _ rfl)) rfl ?_
  refine wl_val (v := .pointer (some ⟨f, 0, none⟩)) (fun ρ e => ex_move (e _ _ rfl)) rfl rfl ?_
  refine wl_val (v := .func (.func 63) #[.pointer (some ⟨f, 0, none⟩)] #[]) (fun ρ e => ex_func (us := [.pointer (some ⟨f, 0, none⟩)]) (vs := []) (congrArg (fun q => [q]) (e _ _ rfl)) rfl) rfl rfl ?_
  obtain ⟨w33, r34, O35, hs36⟩ := own_insert (l := [(0, .func (.func 60) #[.pointer (some ⟨f, 0, none⟩)] #[]), (1, .func (.func 60) #[.pointer (some ⟨f, 0, none⟩)] #[]), (2, .func (.func 60) #[.pointer (some ⟨f, 0, none⟩)] #[]), (3, .func (.func 61) #[.pointer (some ⟨f, 0, none⟩)] #[]), (4, .func (.func 62) #[.pointer (some ⟨f, 0, none⟩)] #[]), (5, .func (.func 62) #[.pointer (some ⟨f, 0, none⟩)] #[])]) (l' := [(0, .func (.func 60) #[.pointer (some ⟨f, 0, none⟩)] #[]), (1, .func (.func 60) #[.pointer (some ⟨f, 0, none⟩)] #[]), (2, .func (.func 60) #[.pointer (some ⟨f, 0, none⟩)] #[]), (3, .func (.func 61) #[.pointer (some ⟨f, 0, none⟩)] #[]), (4, .func (.func 62) #[.pointer (some ⟨f, 0, none⟩)] #[]), (5, .func (.func 62) #[.pointer (some ⟨f, 0, none⟩)] #[]), (6, .func (.func 63) #[.pointer (some ⟨f, 0, none⟩)] #[])]) O31 intKey Tryd.underlying57 Tryd.underlying3 6 (.func (.func 63) #[.pointer (some ⟨f, 0, none⟩)] #[]) rfl
  refine wl_none (fun ρ e => r34 ρ _ _ _ _ _ _ _ (e _ _ rfl) (e _ _ rfl) (e _ _ rfl)) rfl ?_
  refine wl_val (v := .pointer (some ⟨f, 0, none⟩)) (fun ρ e => ex_move (e _ _ rfl)) rfl rfl ?_
  refine wl_val (v := .func (.func 64) #[.pointer (some ⟨f, 0, none⟩)] #[]) (fun ρ e => ex_func (us := [.pointer (some ⟨f, 0, none⟩)]) (vs := []) (congrArg (fun q => [q]) (e _ _ rfl)) rfl) rfl rfl ?_
  obtain ⟨w37, r38, O39, hs40⟩ := own_insert (l := [(0, .func (.func 60) #[.pointer (some ⟨f, 0, none⟩)] #[]), (1, .func (.func 60) #[.pointer (some ⟨f, 0, none⟩)] #[]), (2, .func (.func 60) #[.pointer (some ⟨f, 0, none⟩)] #[]), (3, .func (.func 61) #[.pointer (some ⟨f, 0, none⟩)] #[]), (4, .func (.func 62) #[.pointer (some ⟨f, 0, none⟩)] #[]), (5, .func (.func 62) #[.pointer (some ⟨f, 0, none⟩)] #[]), (6, .func (.func 63) #[.pointer (some ⟨f, 0, none⟩)] #[])]) (l' := [(0, .func (.func 60) #[.pointer (some ⟨f, 0, none⟩)] #[]), (1, .func (.func 60) #[.pointer (some ⟨f, 0, none⟩)] #[]), (2, .func (.func 60) #[.pointer (some ⟨f, 0, none⟩)] #[]), (3, .func (.func 61) #[.pointer (some ⟨f, 0, none⟩)] #[]), (4, .func (.func 62) #[.pointer (some ⟨f, 0, none⟩)] #[]), (5, .func (.func 62) #[.pointer (some ⟨f, 0, none⟩)] #[]), (6, .func (.func 63) #[.pointer (some ⟨f, 0, none⟩)] #[]), (7, .func (.func 64) #[.pointer (some ⟨f, 0, none⟩)] #[])]) O35 intKey Tryd.underlying57 Tryd.underlying3 7 (.func (.func 64) #[.pointer (some ⟨f, 0, none⟩)] #[]) rfl
  refine wl_none (fun ρ e => r38 ρ _ _ _ _ _ _ _ (e _ _ rfl) (e _ _ rfl) (e _ _ rfl)) rfl ?_
  refine wl_val (v := .pointer (some ⟨f, 0, none⟩)) (fun ρ e => ex_move (e _ _ rfl)) rfl rfl ?_
  refine wl_val (v := .func (.func 65) #[.pointer (some ⟨f, 0, none⟩)] #[]) (fun ρ e => ex_func (us := [.pointer (some ⟨f, 0, none⟩)]) (vs := []) (congrArg (fun q => [q]) (e _ _ rfl)) rfl) rfl rfl ?_
  obtain ⟨w41, r42, O43, hs44⟩ := own_insert (l := [(0, .func (.func 60) #[.pointer (some ⟨f, 0, none⟩)] #[]), (1, .func (.func 60) #[.pointer (some ⟨f, 0, none⟩)] #[]), (2, .func (.func 60) #[.pointer (some ⟨f, 0, none⟩)] #[]), (3, .func (.func 61) #[.pointer (some ⟨f, 0, none⟩)] #[]), (4, .func (.func 62) #[.pointer (some ⟨f, 0, none⟩)] #[]), (5, .func (.func 62) #[.pointer (some ⟨f, 0, none⟩)] #[]), (6, .func (.func 63) #[.pointer (some ⟨f, 0, none⟩)] #[]), (7, .func (.func 64) #[.pointer (some ⟨f, 0, none⟩)] #[])]) (l' := [(0, .func (.func 60) #[.pointer (some ⟨f, 0, none⟩)] #[]), (1, .func (.func 60) #[.pointer (some ⟨f, 0, none⟩)] #[]), (2, .func (.func 60) #[.pointer (some ⟨f, 0, none⟩)] #[]), (3, .func (.func 61) #[.pointer (some ⟨f, 0, none⟩)] #[]), (4, .func (.func 62) #[.pointer (some ⟨f, 0, none⟩)] #[]), (5, .func (.func 62) #[.pointer (some ⟨f, 0, none⟩)] #[]), (6, .func (.func 63) #[.pointer (some ⟨f, 0, none⟩)] #[]), (7, .func (.func 64) #[.pointer (some ⟨f, 0, none⟩)] #[]), (8, .func (.func 65) #[.pointer (some ⟨f, 0, none⟩)] #[])]) O39 intKey Tryd.underlying57 Tryd.underlying3 8 (.func (.func 65) #[.pointer (some ⟨f, 0, none⟩)] #[]) rfl
  refine wl_none (fun ρ e => r42 ρ _ _ _ _ _ _ _ (e _ _ rfl) (e _ _ rfl) (e _ _ rfl)) rfl ?_
  refine wl_val (v := .map (some g3)) (fun ρ e => ex_move (e _ _ rfl)) rfl rfl ?_
  refine wl_val (v := .map (some g3)) (fun ρ e => ex_assign (e _ _ rfl)) rfl rfl ?_
  refine wl_nil ?_
  refine xw_next K2 ?_
  refine cw_ret ?_
  refine xw_ret (v := .map (some g3)) (fun T hT => res1 rfl T _ (hT 2 _ rfl)) ?_
  exact ⟨_, rfl, O43⟩
theorem clone_ {W : World} {V : Value} {xs : List Int} (hV : IntsV W W.heap.size V xs) (hn : xs.length ≤ 1000000) : Calls Tryd.prog 66 #[V] W fun e w' => ∃ A c, e = .returned (.slice A xs.length c) ∧ Own Z0 W w' [.row (.slice A xs.length c) 3 1 xs.length (intCs xs)] := by
  obtain ⟨A, c, rfl, _, _, _⟩ := id hV
  cases A with
  | none =>
    have hx := hV.nilOf
    subst hx
    have O0 : Own Z0 W W [] := Own.start W
    refine sx_enter (args := [.slice none 0 c]) Tryd.func66 rfl rfl (by simp) ?_
    refine cw_seq (fun FK1 K1 => ?_)
    refine cw_region ?_
    refine wl_val (v := .slice none 0 0) (fun ρ e => ex_assign (e _ _ rfl)) rfl rfl ?_
    refine wl_nil ?_
    refine xw_next K1 ?_
    refine cw_seq (fun FK2 K2 => ?_)
    refine cw_seq (fun FK3 K3 => ?_)
    refine cw_region ?_
    refine wl_val (v := .slice none 0 c) (fun ρ e => ex_move (e _ _ rfl)) rfl rfl ?_
    refine wl_val (v := .bool true) (fun ρ e => ex_eqnil (A := none) (n := 0) (c := c) Tryd.underlying36 (e _ _ rfl) (e _ _ rfl)) rfl rfl ?_
    refine wl_nil ?_
    refine xw_next K3 ?_
    refine cw_true rfl ?_
    refine cw_seq (fun FK4 K4 => ?_)
    refine cw_region ?_
    refine wl_val (v := .slice none 0 0) (fun ρ e => ex_assign (e _ _ rfl)) rfl rfl ?_
    refine wl_nil ?_
    refine xw_next K4 ?_
    refine cw_ret ?_
    refine xw_past (by intro h; cases h) ?_
    refine xw_ret (v := .slice none 0 0) (fun T hT => res1 rfl T _ (hT 2 _ rfl)) ?_
    exact ⟨none, 0, rfl, (Own.start W).nilrow 3 1⟩
  | some a =>
    have O0 : Own Z0 W W [] := Own.start W
    refine sx_enter (args := [.slice (some a) xs.length c]) Tryd.func66 rfl rfl (by simp) ?_
    refine cw_seq (fun FK1 K1 => ?_)
    refine cw_region ?_
    refine wl_val (v := .slice none 0 0) (fun ρ e => ex_assign (e _ _ rfl)) rfl rfl ?_
    refine wl_nil ?_
    refine xw_next K1 ?_
    refine cw_seq (fun FK2 K2 => ?_)
    refine cw_seq (fun FK3 K3 => ?_)
    refine cw_region ?_
    refine wl_val (v := .slice (some a) xs.length c) (fun ρ e => ex_move (e _ _ rfl)) rfl rfl ?_
    refine wl_val (v := .bool false) (fun ρ e => ex_eqnil (A := (some a)) (n := xs.length) (c := c) Tryd.underlying36 (e _ _ rfl) (e _ _ rfl)) rfl rfl ?_
    refine wl_nil ?_
    refine xw_next K3 ?_
    refine cw_false rfl ?_
    refine cw_skip ?_
    refine xw_next K2 ?_
    refine cw_seq (fun FK4 K4 => ?_)
    refine cw_region ?_
    obtain ⟨g5, w6, r7, O8, hg9, hs10⟩ := own_slice O0 el36 ze3 0 [] (cs := #[]) (by decide) (by kernel_rfl)
    refine wl_val (v := .slice (some ⟨g5, 0, none⟩) 0 0) (fun ρ e => r7 ρ _ _ _ _ _ _ (e.parts rfl)) rfl rfl ?_
    refine wl_val (v := .slice (some a) xs.length c) (fun ρ e => ex_move (e _ _ rfl)) rfl rfl ?_
    have O17 := Own.blkrow (xs := []) (n := 0) O8 rfl rfl (by decide)
    obtain ⟨A11, c12, w13, r14, O15, hz16⟩ := own_appN (m := xs.length) (c := c) (a := a) (news := intCs xs) O17 ap36 (by simp [intCs]) (hV.cellsAt O17.old) (intCs_one xs) (by omega) (by omega) (ys := intCs xs) rfl
    rw [Nat.zero_add] at r14 O15
    refine wl_val (v := .slice A11 xs.length c12) (fun ρ e => r14 ρ _ _ _ _ _ _ _ (e _ _ rfl) (e _ _ rfl)) rfl rfl ?_
    refine wl_val (v := .slice A11 xs.length c12) (fun ρ e => ex_assign (e _ _ rfl)) rfl rfl ?_
    refine wl_nil ?_
    refine xw_next K4 ?_
    refine cw_ret ?_
    refine xw_ret (v := .slice A11 xs.length c12) (fun T hT => res1 rfl T _ (hT 2 _ rfl)) ?_
    exact ⟨_, _, rfl, O15⟩
end Go.Proofs.YtbemhgojfehnjaaDoor
namespace Go.Proofs.YtbemhgojfehnjaaDoor
open Go
def wfL (N : Int) (B : Nat) (L : List Gate) : Prop := ∀ (i : Nat) (g : Gate), L[i]? = some g → goodGate N (i : Int) g = true ∧ g.inp.length ≤ B
def inR (L : List Gate) (i : Int) : Prop := 0 ≤ i ∧ i < (L.length : Int)
structure StepOk (N : Int) (B : Nat) (L : List Gate) (q : List Gate × Int) : Prop where
  wf : wfL N B q.1
  at_ : inR q.1 q.2
  ext : q.1 = L ∨ ∃ g, q.1 = L ++ [g]
section
variable {N : Int} {B : Nat} {L : List Gate}
theorem StepOk.le {q : List Gate × Int} (h : StepOk N B L q) : L.length ≤ q.1.length ∧ q.1.length ≤ L.length + 1 := by
  rcases h.ext with e | ⟨g, e⟩ <;> rw [e] <;> simp
theorem allowed_kind {k n : Int} (h : allowedB k n = true) : 0 ≤ k ∧ k ≤ 8 := by
  unfold allowedB at h
  split at h
  · omega
  · split at h
    · omega
    · split at h
      · omega
      · split at h
        · omega
        · simp at h; omega
theorem allowed3 {n : Int} (h : allowedB 3 n = true) : n = 1 := by simpa [allowedB] using h
theorem allowed7 {n : Int} (h : allowedB 7 n = true) : n = 2 := by simpa [allowedB] using h
theorem allowed8 {n : Int} (h : allowedB 8 n = true) : n = 3 := by simpa [allowedB] using h
theorem good_parts {i : Int} {g : Gate} (h : goodGate N i g = true) : allowedB g.kind g.inp.length = true ∧ litGood N g = true ∧ ∀ x ∈ g.inp, 0 ≤ x ∧ x < i := by
  unfold goodGate at h
  simp only [Bool.and_eq_true, List.all_eq_true] at h
  exact ⟨h.1.1, h.1.2, fun x hx => by have := h.2 x hx; simpa [inOk] using this⟩
theorem good_of {i : Int} {g : Gate} (h1 : allowedB g.kind g.inp.length = true) (h2 : litGood N g = true) (h3 : ∀ x ∈ g.inp, 0 ≤ x ∧ x < i) : goodGate N i g = true := by
  unfold goodGate
  simp only [Bool.and_eq_true, List.all_eq_true]
  exact ⟨⟨h1, h2⟩, fun x hx => by simpa [inOk] using h3 x hx⟩
theorem lit_small {g : Gate} (h : litGood N g = true) : smallI g.lit := by
  unfold litGood at h
  split at h
  · unfold litOk litVar at h
    simp only [decide_eq_true_eq] at h
    unfold smallI
    split at h
    · omega
    · split at h <;> omega
  · simp only [decide_eq_true_eq] at h
    rw [h]; exact smallI_lit 0 rfl
theorem wf_ok (h : wfL N B L) (hL : L.length ≤ 1000000) (hB : B ≤ 1000000) : okGs L := by
  intro g hg
  obtain ⟨i, hi⟩ := List.mem_iff_getElem?.1 hg
  obtain ⟨h1, h2⟩ := h i g hi
  obtain ⟨p1, p2, p3⟩ := good_parts h1
  have hlt := (List.getElem?_eq_some_iff.1 hi).1
  have hk := allowed_kind p1
  refine ⟨⟨by unfold smallI; omega, lit_small p2, fun x hx => ?_, by omega⟩, fun h3 => ?_⟩
  · have := p3 x hx
    unfold smallI; omega
  · rw [h3] at p1
    have := allowed3 p1
    omega
theorem findG_ok (hw : wfL N B L) {g : Gate} (hg : goodGate N (L.length : Int) g = true) (hb : g.inp.length ≤ B) : StepOk N B L (findG L g) := by
  unfold findG
  cases hx : gidx g L 0 with
  | some k =>
    obtain ⟨_, h2, _⟩ := gidx_lt hx
    exact ⟨hw, ⟨by simp, by simp; omega⟩, .inl rfl⟩
  | none =>
    refine ⟨fun i g' hi => ?_, ⟨by simp, by simp; omega⟩, .inr ⟨g, rfl⟩⟩
    simp only at hi
    by_cases h : i < L.length
    · rw [List.getElem?_append_left h] at hi
      exact hw i g' hi
    · rw [List.getElem?_append_right (by omega)] at hi
      have e : i - L.length = 0 := by
        rcases Nat.eq_zero_or_pos (i - L.length) with q | q
        · exact q
        · rw [List.getElem?_eq_none (by simp; omega)] at hi; cases hi
      rw [e] at hi
      simp at hi
      subst hi
      have : i = L.length := by omega
      subst this
      exact ⟨hg, hb⟩
theorem keep_ok (hw : wfL N B L) {i : Int} (hi : inR L i) : StepOk N B L (L, i) := ⟨hw, hi, .inl rfl⟩
theorem find_c (hw : wfL N B L) {k : Int} (hk : k = 0 ∨ k = 1) : StepOk N B L (findG L ⟨k, 0, []⟩) :=
  findG_ok hw (good_of (by rcases hk with h | h <;> subst h <;> rfl) (by rcases hk with h | h <;> subst h <;> rfl) (by simp)) (Nat.zero_le _)
theorem find_n (hw : wfL N B L) {k : Int} {l : List Int} (ha : allowedB k l.length = true) (hk : k ≠ 2) (hl : ∀ x ∈ l, inR L x) (hb : l.length ≤ B) : StepOk N B L (findG L ⟨k, 0, l⟩) :=
  findG_ok hw (good_of ha (by unfold litGood; rw [if_neg hk]; rfl) hl) hb
theorem gateAt_get {i : Int} (hi : inR L i) : ∃ k : Nat, i = k ∧ ∃ h : k < L.length, gateAt L i = L[k] ∧ L[k]? = some L[k] := by
  obtain ⟨h1, h2⟩ := hi
  refine ⟨i.toNat, by omega, by omega, ?_, List.getElem?_eq_getElem _⟩
  simp [gateAt, List.getElem?_eq_getElem (show i.toNat < L.length by omega)]
theorem notG_ok (hw : wfL N B L) (hB : 1 ≤ B) {i : Int} (hi : inR L i) : StepOk N B L (notG L i) := by
  obtain ⟨k, rfl, hk, h1, h2⟩ := gateAt_get hi
  rw [notG_eq hk]
  obtain ⟨hg, _⟩ := hw k _ h2
  obtain ⟨p1, p2, p3⟩ := good_parts hg
  split
  · exact find_c hw (.inr rfl)
  · split
    · exact find_c hw (.inl rfl)
    · split
      · rename_i h
        refine findG_ok hw (good_of rfl ?_ (by simp)) (Nat.zero_le _)
        unfold litGood at p2 ⊢
        rw [if_pos h] at p2
        rw [if_pos rfl]
        unfold litOk litVar at p2 ⊢
        simp only [decide_eq_true_eq] at p2 ⊢
        split at p2
        · split <;> (try split) <;> omega
        · split at p2
          · split <;> (try split) <;> omega
          · omega
      · split
        · rename_i h
          rw [h] at p1
          have := allowed3 p1
          refine keep_ok hw ?_
          match hi' : L[k].inp, this with
          | [x], _ =>
            have := p3 x (by rw [hi']; simp)
            simp only [List.getD_cons_zero]
            exact ⟨this.1, by omega⟩
        · exact find_n hw rfl (by decide) (by simpa using hi) hB
def manyP (P : Int → Prop) (n : Nat) : Int ⊕ List Int → Prop
  | .inl i => P i
  | .inr l => (∀ x ∈ l, P x) ∧ l.length ≤ n
theorem manyGo_ok (nt dc : Int) {P : Int → Prop} : ∀ (r left : List Int) (n : Nat), left.length + r.length ≤ n → (∀ x ∈ r, P x) → (∀ x ∈ left, P x) → manyP P n (manyGo L nt dc r left)
  | [], left, _, hn, _, h2 => ⟨h2, by simpa using hn⟩
  | i :: r, left, n, hn, h1, h2 => by
    simp only [List.length_cons] at hn
    unfold manyGo
    split
    · exact h1 i (by simp)
    · split
      · exact manyGo_ok nt dc r (left ++ [i]) n (by simp; omega) (fun x hx => h1 x (by simp [hx])) (fun x hx => (List.mem_append.1 hx).elim (h2 x) (fun h => by rw [List.mem_singleton.1 h]; exact h1 i (by simp)))
      · exact manyGo_ok nt dc r left n (by omega) (fun x hx => h1 x (by simp [hx])) h2
theorem manyG_ok (hw : wfL N B L) {kind : Int} (hk : kind = 4 ∨ kind = 5) {ins : List Int} (hi : ∀ x ∈ ins, inR L x) (hb : ins.length ≤ B) : StepOk N B L (manyG L kind ins) := by
  unfold manyG
  have := manyGo_ok (L := L) (if kind = 5 then 0 else 1) (if kind = 5 then 1 else 0) (P := inR L) ins [] ins.length (by simp) hi (by simp)
  dsimp only
  generalize manyGo L (if kind = 5 then 0 else 1) (if kind = 5 then 1 else 0) ins [] = q at this
  match q, this with
  | .inl i, h => exact keep_ok hw h
  | .inr [], _ => exact find_c hw (by rcases hk with h | h <;> subst h <;> simp)
  | .inr [x], h => exact keep_ok hw (h.1 _ (by simp))
  | .inr (x :: y :: l), h => exact find_n hw (by rcases hk with q | q <;> subst q <;> rfl) (by omega) h.1 (by have := h.2; omega)
theorem xorGo_ok {P : Int → Prop} : ∀ (odd : Int → Bool) (r left : List Int) (last : Int), (∀ x ∈ r, P x) → (∀ x ∈ left, P x) → (last < 0 ∨ P last) →
    (∀ x ∈ (xorGo L odd r left last).1, P x) ∧ ((xorGo L odd r left last).2 < 0 ∨ P (xorGo L odd r left last).2) ∧ (xorGo L odd r left last).1.length ≤ left.length + r.length
  | _, [], left, last, _, h2, h3 => ⟨h2, h3, by simp [xorGo]⟩
  | odd, i :: r, left, last, h1, h2, h3 => by
    have h1' : ∀ x ∈ r, P x := fun x hx => h1 x (by simp [hx])
    unfold xorGo
    split
    · have := xorGo_ok odd r left last h1' h2 h3
      exact ⟨this.1, this.2.1, Nat.le_trans this.2.2 (by simp only [List.length_cons]; omega)⟩
    · split
      · have := xorGo_ok (fun x => if x = i then false else odd x) r left i h1' h2 (.inr (h1 i (by simp)))
        exact ⟨this.1, this.2.1, Nat.le_trans this.2.2 (by simp only [List.length_cons]; omega)⟩
      · have := xorGo_ok (fun x => if x = i then false else odd x) r (left ++ [i]) last h1' (fun x hx => (List.mem_append.1 hx).elim (h2 x) (fun h => by rw [List.mem_singleton.1 h]; exact h1 i (by simp))) h3
        exact ⟨this.1, this.2.1, Nat.le_trans this.2.2 (by simp only [List.length_append, List.length_cons, List.length_nil]; omega)⟩
theorem xorG_ok (hw : wfL N B L) (hB : 1 ≤ B) {ins : List Int} (hi : ∀ x ∈ ins, inR L x) (hb : ins.length + 1 ≤ B) : StepOk N B L (xorG L ins) := by
  have h := xorGo_ok (L := L) (P := inR L) (fun x => oddIn x ins) ins [] (-1) hi (by simp) (.inl (by decide))
  unfold xorG
  generalize xorGo L (fun x => oddIn x ins) ins [] (-1) = q at h
  obtain ⟨left, last⟩ := q
  obtain ⟨h1, h2, h3⟩ := h
  simp only [List.length_nil, Nat.zero_add] at h1 h2 h3
  match left with
  | [] =>
    dsimp only
    split
    · exact find_c hw (.inl rfl)
    · exact keep_ok hw (h2.resolve_left (by assumption))
  | [x] =>
    dsimp only
    split
    · exact keep_ok hw (h1 x (by simp))
    · exact notG_ok hw hB (h1 x (by simp))
  | x :: y :: l =>
    dsimp only
    split
    · refine find_n hw rfl (by decide) (fun z hz => ?_) (by simp at h3 ⊢; omega)
      rcases List.mem_append.1 hz with h | h
      · exact h1 z h
      · rw [List.mem_singleton.1 h]; exact h2.resolve_left (by omega)
    · exact find_n hw rfl (by decide) h1 (by omega)
theorem iffG_ok (hw : wfL N B L) (hB : 2 ≤ B) {a b : Int} (ha : inR L a) (hb : inR L b) : StepOk N B L (iffG L a b) := by
  unfold iffG
  split
  · exact find_c hw (.inr rfl)
  · split
    · exact keep_ok hw hb
    · split
      · exact keep_ok hw ha
      · split
        · exact notG_ok hw (by omega) hb
        · split
          · exact notG_ok hw (by omega) ha
          · exact find_n hw rfl (by decide) (by simp [ha, hb]) hB
theorem chooseG_ok (hw : wfL N B L) (hB : 3 ≤ B) {a b c : Int} (ha : inR L a) (hb : inR L b) (hc : inR L c) : StepOk N B L (chooseG L a b c) := by
  unfold chooseG
  split
  · exact keep_ok hw hb
  · split
    · exact keep_ok hw hc
    · split
      · exact keep_ok hw ha
      · split
        · exact notG_ok hw (by omega) ha
        · exact find_n hw rfl (by decide) (by simp [ha, hb, hc]) hB
theorem stepG_ok (hw : wfL N B L) (hB : 3 ≤ B) {i : Int} {g : Gate} (hg : goodGate N i g = true) {ins : List Int} (hn : ins.length = g.inp.length) (hi : ∀ x ∈ ins, inR L x) (hb : ins.length + 1 ≤ B) : StepOk N B L (stepG L g ins) := by
  obtain ⟨p1, p2, _⟩ := good_parts hg
  have hk := allowed_kind p1
  unfold stepG
  split
  · rename_i h
    rw [h] at p1
    have := allowed3 p1
    match ins, (show ins.length = 1 by omega) with
    | [a], _ => exact notG_ok hw (by omega) (hi a (by simp))
  · split
    · rename_i h; exact manyG_ok hw h hi (by omega)
    · split
      · exact xorG_ok hw (by omega) hi hb
      · split
        · rename_i h
          rw [h] at p1
          have := allowed7 p1
          match ins, (show ins.length = 2 by omega) with
          | [a, b], _ => exact iffG_ok hw (by omega) (hi a (by simp)) (hi b (by simp))
        · split
          · rename_i h
            rw [h] at p1
            have := allowed8 p1
            match ins, (show ins.length = 3 by omega) with
            | [a, b, c], _ => exact chooseG_ok hw (by omega) (hi a (by simp)) (hi b (by simp)) (hi c (by simp))
          · have h0 : g.kind = 0 ∨ g.kind = 1 ∨ g.kind = 2 := by omega
            refine findG_ok hw (good_of ?_ ?_ (by simp)) (Nat.zero_le _)
            · rcases h0 with h | h | h <;> rw [h] <;> rfl
            · exact p2
end
end Go.Proofs.YtbemhgojfehnjaaDoor
