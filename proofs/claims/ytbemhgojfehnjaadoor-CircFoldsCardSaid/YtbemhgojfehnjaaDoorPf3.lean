/-
  Lemmas and contracts, joined: Ciff Fold2 Ops3 Ops4 Crules Need Cneed.
-/
import Derived.Test.YtbemhgojfehnjaaDoorPf2
namespace Go.Proofs.YtbemhgojfehnjaaDoor
open Go Go.RowKit
section
variable {W : World} {f m c : Nat} {R : Option Addr} {D DI : Nat → Prop} {L : List Gate} {vs : List Value} {V GV : Value} {kind lit : Int}
theorem same_ {ins : List Int} (O0 : Own (zone (foldE f m R c D L vs ++ [inE DI V ins])) W W (foldE f m R c D L vs ++ [inE DI V ins])) (hk : smallI kind) (hl : smallI lit) (hL : L.length ≤ 1000000) :
    Calls Tryd.prog 60 #[.pointer (some ⟨f, 0, none⟩), .agg #[.int .i64 kind, .int .i64 lit, GV], V] W (FPost (foldE f m R c D L vs ++ [inE DI V ins]) W f m (findG L ⟨kind, lit, []⟩)) := by
  refine sx_enter (args := [.pointer (some ⟨f, 0, none⟩), .agg #[.int .i64 kind, .int .i64 lit, GV], V]) Tryd.func60 rfl rfl (by simp) ?_
  refine cw_seq (fun FK1 K1 => ?_)
  refine cw_region ?_
  obtain ⟨g2, w3, r4, O5, hg6, hs7⟩ := own_box O0 38 (.agg #[.int .i64 kind, .int .i64 lit, GV]) rfl
  refine wl_val (v := .pointer (some ⟨g2, 0, none⟩)) (fun ρ e => r4 ρ _ _ _ _ _ _ (e _ _ rfl)) rfl rfl ?_
  refine wl_val (v := .int .i64 0) (fun ρ e => ex_assign (e _ _ rfl)) rfl rfl ?_
  refine wl_nil ?_
  refine xw_next K1 ?_
  refine cw_seq (fun FK8 K8 => ?_)
  refine cw_region ?_
  refine wl_val (v := .pointer (some ⟨f, 0, none⟩)) (fun ρ e => ex_move (e _ _ rfl)) rfl rfl ?_
  refine wl_val (v := .pointer (some ⟨g2, 0, none⟩)) (fun ρ e => ex_field (q := 0) fi38_0 (e _ _ rfl) rfl) rfl rfl ?_
  refine wl_val (v := .int .i64 kind) (fun ρ e => ex_load1 ty3 (e _ _ rfl) (O5.cell 0 0 rfl rfl)) rfl rfl ?_
  refine wl_val (v := .pointer (some ⟨g2, 1, none⟩)) (fun ρ e => ex_field (q := 1) fi38_1 (e _ _ rfl) rfl) rfl rfl ?_
  refine wl_val (v := .int .i64 lit) (fun ρ e => ex_load1 ty3 (e _ _ rfl) (O5.cell 0 1 rfl rfl)) rfl rfl ?_
  refine wl_val (v := .agg #[.int .i64 kind, .int .i64 lit, .slice none 0 0]) (fun ρ e => ex_build (cells := #[.int .i64 kind, .int .i64 lit, .slice none 0 0]) st38 (e.parts rfl) rfl) rfl rfl ?_
  refine wl_call (args := [.pointer (some ⟨f, 0, none⟩), .agg #[.int .i64 kind, .int .i64 lit, .slice none 0 0]]) in_80 rfl rfl rfl ?_
  have O9 : Own (zone (foldE f m R c D L vs ++ [inE DI V ins])) W w3 [.ro (fun _ => False) (fun w => IntsD (fun _ => False) w (.slice none 0 0) ([])), .blk g2 38 #[.int .i64 kind, .int .i64 lit, GV], .blk f 56 #[.slice R L.length c, .map (some m)], .map m (encL strE (keysGo L 0)), .row (.slice R L.length c) 38 3 L.length (gcells L vs), .ro D (Ins D L vs), .ro TabD Tab, .ro DI (fun w => IntsD DI w V ins)] := O5.nilin
  refine (call_find (f := f) (m := m) (R := R) (c := c) (D := D) (L := L) (vs := vs) (D2 := (fun _ => False)) (V := .slice none 0 0) (g := ⟨kind, lit, []⟩) (rest := [.blk g2 38 #[.int .i64 kind, .int .i64 lit, GV], .ro DI (fun w => IntsD DI w V ins)]) (O9.re [2, 3, 4, 5, 6, 0, 1, 7] rfl : Own (zone (foldE f m R c D L vs ++ [inE DI V ins])) W w3 [.blk f 56 #[.slice R L.length c, .map (some m)], .map m (encL strE (keysGo L 0)), .row (.slice R L.length c) 38 3 L.length (gcells L vs), .ro D (Ins D L vs), .ro TabD Tab, .ro (fun _ => False) (fun w => IntsD (fun _ => False) w (.slice none 0 0) ([])), .blk g2 38 #[.int .i64 kind, .int .i64 lit, GV], .ro DI (fun w => IntsD DI w V ins)]) (small_c hk hl) hL).mono ?_
  rintro _ w10 ⟨R11, c12, D13, vs14, rfl, O15⟩
  refine ⟨_, rfl, ?_⟩
  refine wl_val (v := .int .i64 ((findG L ⟨kind, lit, []⟩).2)) (fun ρ e => ex_assign (e _ _ rfl)) rfl rfl ?_
  refine wl_nil ?_
  refine xw_next K8 ?_
  refine cw_ret ?_
  refine xw_ret (v := .int .i64 ((findG L ⟨kind, lit, []⟩).2)) (fun T hT => res1 rfl T _ (hT 6 _ rfl)) ?_
  exact FPost.eq ⟨_, _, _, _, rfl, (O15.re [0, 1, 2, 3, 4] rfl : Own (zone (foldE f m R c D L vs ++ [inE DI V ins])) W w10 [.blk f 56 #[.slice R11 (((findG L ⟨kind, lit, []⟩).1).length) c12, .map (some m)], .map m (encL strE (keysGo ((findG L ⟨kind, lit, []⟩).1) 0)), .row (.slice R11 (((findG L ⟨kind, lit, []⟩).1).length) c12) 38 3 (((findG L ⟨kind, lit, []⟩).1).length) (gcells ((findG L ⟨kind, lit, []⟩).1) vs14), .ro D13 (Ins D13 ((findG L ⟨kind, lit, []⟩).1) vs14), .ro TabD Tab])⟩ rfl
theorem complement_ {a : Int} (O0 : Own (zone (foldE f m R c D L vs ++ [inE DI V [a]])) W W (foldE f m R c D L vs ++ [inE DI V [a]])) (ha : 0 ≤ a ∧ a < L.length) (ok : okGs L) (hL : L.length ≤ 1000000) :
    Calls Tryd.prog 61 #[.pointer (some ⟨f, 0, none⟩), .agg #[.int .i64 kind, .int .i64 lit, GV], V] W (FPost (foldE f m R c D L vs ++ [inE DI V [a]]) W f m (notG L a)) := by
  obtain ⟨bI, oI, cJ, rfl⟩ : ∃ b o c, V = .slice (some ⟨b, o, none⟩) 1 c := IntsD.form (O0.ro 5 rfl : IntsD DI W V [a]) (Nat.lt_of_lt_of_le (Nat.lt_succ_self _) (Nat.le_of_ble_eq_true rfl))
  refine sx_enter (args := [.pointer (some ⟨f, 0, none⟩), .agg #[.int .i64 kind, .int .i64 lit, GV], .slice (some ⟨bI, oI, none⟩) 1 cJ]) Tryd.func61 rfl rfl (by simp) ?_
  refine cw_seq (fun FK1 K1 => ?_)
  refine cw_region ?_
  obtain ⟨g2, w3, r4, O5, hg6, hs7⟩ := own_box O0 38 (.agg #[.int .i64 kind, .int .i64 lit, GV]) rfl
  refine wl_val (v := .pointer (some ⟨g2, 0, none⟩)) (fun ρ e => r4 ρ _ _ _ _ _ _ (e _ _ rfl)) rfl rfl ?_
  refine wl_val (v := .int .i64 0) (fun ρ e => ex_assign (e _ _ rfl)) rfl rfl ?_
  refine wl_nil ?_
  refine xw_next K1 ?_
  refine cw_seq (fun FK8 K8 => ?_)
  refine cw_region ?_
  refine wl_val (v := .pointer (some ⟨f, 0, none⟩)) (fun ρ e => ex_move (e _ _ rfl)) rfl rfl ?_
  refine wl_val (v := .slice (some ⟨bI, oI, none⟩) 1 cJ) (fun ρ e => ex_move (e _ _ rfl)) rfl rfl ?_
  refine wl_val (v := .pointer (some ⟨bI, oI, none⟩)) (fun ρ e => ex_idx (q := oI) (i := 0) el36 (e _ _ rfl) (e _ _ rfl) (by omega) (by omega)) rfl rfl ?_
  refine wl_val (v := .int .i64 a) (fun ρ e => ex_load1 ty3 (e _ _ rfl) (IntsD.cell (O5.ro 6 rfl : IntsD DI _ (.slice (some ⟨bI, oI, none⟩) 1 cJ) [a]) (k := 0) (Nat.lt_of_lt_of_le (Nat.lt_succ_self _) (Nat.le_of_ble_eq_true rfl)))) rfl rfl ?_
  refine wl_call (args := [.pointer (some ⟨f, 0, none⟩), .int .i64 a]) in_81 rfl rfl rfl ?_
  refine (FPost.use (A := foldE f m R c D L vs) (rest := [.blk g2 38 #[.int .i64 kind, .int .i64 lit, GV], .ro DI (fun w => IntsD DI w (.slice (some ⟨bI, oI, none⟩) 1 cJ) [a])]) (O5.re [1, 2, 3, 4, 5, 0, 6] rfl : Own (zone (foldE f m R c D L vs ++ [inE DI (.slice (some ⟨bI, oI, none⟩) 1 cJ) [a]])) W w3 [.blk f 56 #[.slice R L.length c, .map (some m)], .map m (encL strE (keysGo L 0)), .row (.slice R L.length c) 38 3 L.length (gcells L vs), .ro D (Ins D L vs), .ro TabD Tab, .blk g2 38 #[.int .i64 kind, .int .i64 lit, GV], .ro DI (fun w => IntsD DI w (.slice (some ⟨bI, oI, none⟩) 1 cJ) [a])]) (not_ (Own.hand (A := foldE f m R c D L vs) (R := [.blk g2 38 #[.int .i64 kind, .int .i64 lit, GV], .ro DI (fun w => IntsD DI w (.slice (some ⟨bI, oI, none⟩) 1 cJ) [a])]) (O5.re [1, 2, 3, 4, 5, 0, 6] rfl : Own (zone (foldE f m R c D L vs ++ [inE DI (.slice (some ⟨bI, oI, none⟩) 1 cJ) [a]])) W w3 [.blk f 56 #[.slice R L.length c, .map (some m)], .map m (encL strE (keysGo L 0)), .row (.slice R L.length c) 38 3 L.length (gcells L vs), .ro D (Ins D L vs), .ro TabD Tab, .blk g2 38 #[.int .i64 kind, .int .i64 lit, GV], .ro DI (fun w => IntsD DI w (.slice (some ⟨bI, oI, none⟩) 1 cJ) [a])])) (by omega) ok hL)).mono ?_
  rintro _ w9 ⟨R10, c11, D12, vs13, rfl, O14⟩
  refine ⟨_, rfl, ?_⟩
  refine wl_val (v := .int .i64 ((notG L a).2)) (fun ρ e => ex_assign (e _ _ rfl)) rfl rfl ?_
  refine wl_nil ?_
  refine xw_next K8 ?_
  refine cw_ret ?_
  refine xw_ret (v := .int .i64 ((notG L a).2)) (fun T hT => res1 rfl T _ (hT 6 _ rfl)) ?_
  exact FPost.eq ⟨_, _, _, _, rfl, (O14.re [0, 1, 2, 3, 4] rfl : Own (zone (foldE f m R c D L vs ++ [inE DI (.slice (some ⟨bI, oI, none⟩) 1 cJ) [a]])) W w9 [.blk f 56 #[.slice R10 (((notG L a).1).length) c11, .map (some m)], .map m (encL strE (keysGo ((notG L a).1) 0)), .row (.slice R10 (((notG L a).1).length) c11) 38 3 (((notG L a).1).length) (gcells ((notG L a).1) vs13), .ro D12 (Ins D12 ((notG L a).1) vs13), .ro TabD Tab])⟩ rfl
theorem iff_ {a b : Int} (O0 : Own (zone (foldE f m R c D L vs ++ [inE DI V [a, b]])) W W (foldE f m R c D L vs ++ [inE DI V [a, b]])) (ha : 0 ≤ a ∧ a < L.length) (hb : 0 ≤ b ∧ b < L.length) (ok : okGs L) (hL : L.length ≤ 1000000) :
    Calls Tryd.prog 64 #[.pointer (some ⟨f, 0, none⟩), .agg #[.int .i64 kind, .int .i64 lit, GV], V] W (FPost (foldE f m R c D L vs ++ [inE DI V [a, b]]) W f m (iffG L a b)) := by
  obtain ⟨bI, oI, cJ, rfl⟩ : ∃ b o c, V = .slice (some ⟨b, o, none⟩) 2 c := IntsD.form (O0.ro 5 rfl : IntsD DI W V [a, b]) (Nat.lt_of_lt_of_le (Nat.lt_succ_self _) (Nat.le_of_ble_eq_true rfl))
  refine sx_enter (args := [.pointer (some ⟨f, 0, none⟩), .agg #[.int .i64 kind, .int .i64 lit, GV], .slice (some ⟨bI, oI, none⟩) 2 cJ]) Tryd.func64 rfl rfl (by simp) ?_
  refine cw_seq (fun FK1 K1 => ?_)
  refine cw_region ?_
  obtain ⟨g2, w3, r4, O5, hg6, hs7⟩ := own_box O0 38 (.agg #[.int .i64 kind, .int .i64 lit, GV]) rfl
  refine wl_val (v := .pointer (some ⟨g2, 0, none⟩)) (fun ρ e => r4 ρ _ _ _ _ _ _ (e _ _ rfl)) rfl rfl ?_
  refine wl_val (v := .int .i64 0) (fun ρ e => ex_assign (e _ _ rfl)) rfl rfl ?_
  refine wl_nil ?_
  refine xw_next K1 ?_
  refine cw_seq (fun FK8 K8 => ?_)
  refine cw_drawn (fun X => Own (zone (foldE f m R c D L vs ++ [inE DI (.slice (some ⟨bI, oI, none⟩) 2 cJ) [a, b]])) W X [.blk g2 38 #[.int .i64 kind, .int .i64 lit, GV], .blk f 56 #[.slice R L.length c, .map (some m)], .ro D (Ins D L vs), .ro TabD Tab, .ro DI (fun w => IntsD DI w (.slice (some ⟨bI, oI, none⟩) 2 cJ) [a, b])]) 8 [(0, 1), (1, 1), (2, 0), (3, 1), (4, 1), (5, 0), (6, 2), (7, 2)] (by kernel_rfl) (by kernel_rfl) (PQ.then_ PQ.body) ((O5.re [0, 1, 4, 5, 6] rfl : Own (zone (foldE f m R c D L vs ++ [inE DI (.slice (some ⟨bI, oI, none⟩) 2 cJ) [a, b]])) W w3 [.blk g2 38 #[.int .i64 kind, .int .i64 lit, GV], .blk f 56 #[.slice R L.length c, .map (some m)], .ro D (Ins D L vs), .ro TabD Tab, .ro DI (fun w => IntsD DI w (.slice (some ⟨bI, oI, none⟩) 2 cJ) [a, b])])).drew ?_
  have O9 : Own (zone (foldE f m R c D L vs ++ [inE DI (.slice (some ⟨bI, oI, none⟩) 2 cJ) [a, b]])) W w3.drew [.blk g2 38 #[.int .i64 kind, .int .i64 lit, GV], .blk f 56 #[.slice R L.length c, .map (some m)], .map m (encL strE (keysGo L 0)), .row (.slice R L.length c) 38 3 L.length (gcells L vs), .ro D (Ins D L vs), .ro TabD Tab, .ro DI (fun w => IntsD DI w (.slice (some ⟨bI, oI, none⟩) 2 cJ) [a, b])] := O5.drew
  refine wt1 (v := .slice (some ⟨bI, oI, none⟩) 2 cJ) rfl (fun ρ e W => ex_move (e _ _ rfl)) rfl rfl ?_
  refine wt1 (v := .pointer (some ⟨bI, oI, none⟩)) rfl (fun ρ e W => ex_idx (q := oI) (i := 0) el36 (e _ _ rfl) (e _ _ rfl) (by omega) (by omega)) rfl rfl ?_
  refine wt0 (v := .int .i64 a) rfl (fun ρ e W hW => ex_load1 ty3 (e _ _ rfl) (IntsD.cell (hW.ro 4 rfl : IntsD DI _ (.slice (some ⟨bI, oI, none⟩) 2 cJ) [a, b]) (k := 0) (Nat.lt_of_lt_of_le (Nat.lt_succ_self _) (Nat.le_of_ble_eq_true rfl)))) rfl rfl ?_
  refine wt1 (v := .slice (some ⟨bI, oI, none⟩) 2 cJ) rfl (fun ρ e W => ex_move (e _ _ rfl)) rfl rfl ?_
  refine wt1 (v := .pointer (some ⟨bI, oI + 1, none⟩)) rfl (fun ρ e W => ex_idx (q := oI + 1) (i := 1) el36 (e _ _ rfl) (e _ _ rfl) (by omega) (by omega)) rfl rfl ?_
  refine wt0 (v := .int .i64 b) rfl (fun ρ e W hW => ex_load1 ty3 (e _ _ rfl) (IntsD.cell (hW.ro 4 rfl : IntsD DI _ (.slice (some ⟨bI, oI, none⟩) 2 cJ) [a, b]) (k := 1) (Nat.lt_of_lt_of_le (Nat.lt_succ_self _) (Nat.le_of_ble_eq_true rfl)))) rfl rfl ?_
  refine wt2 (v := .int .i64 a) rfl (fun ρ e => ex_assign (e _ _ rfl)) rfl rfl (O9.re [0, 1, 4, 5, 6] rfl : Own (zone (foldE f m R c D L vs ++ [inE DI (.slice (some ⟨bI, oI, none⟩) 2 cJ) [a, b]])) W w3.drew [.blk g2 38 #[.int .i64 kind, .int .i64 lit, GV], .blk f 56 #[.slice R L.length c, .map (some m)], .ro D (Ins D L vs), .ro TabD Tab, .ro DI (fun w => IntsD DI w (.slice (some ⟨bI, oI, none⟩) 2 cJ) [a, b])]) ?_
  refine wt2 (v := .int .i64 b) rfl (fun ρ e => ex_assign (e _ _ rfl)) rfl rfl (O9.re [0, 1, 4, 5, 6] rfl : Own (zone (foldE f m R c D L vs ++ [inE DI (.slice (some ⟨bI, oI, none⟩) 2 cJ) [a, b]])) W w3.drew [.blk g2 38 #[.int .i64 kind, .int .i64 lit, GV], .blk f 56 #[.slice R L.length c, .map (some m)], .ro D (Ins D L vs), .ro TabD Tab, .ro DI (fun w => IntsD DI w (.slice (some ⟨bI, oI, none⟩) 2 cJ) [a, b])]) ?_
  refine wt_nil ?_
  refine xw_next K8 ?_
  refine cw_seq (fun FK10 K10 => ?_)
  refine cw_block ?_
  refine cw_seq (fun FK11 K11 => ?_)
  refine cw_region ?_
  refine wl_val (v := .int .i64 a) (fun ρ e => ex_move (e _ _ rfl)) rfl rfl ?_
  refine wl_val (v := .int .i64 b) (fun ρ e => ex_move (e _ _ rfl)) rfl rfl ?_
  by_cases c12 : a = b
  · skip
    refine wl_val (v := .bool true) (fun ρ e => ex_cmp (u := a) (v := b) (e _ _ rfl) (e _ _ rfl) (eql1 (by omega))) rfl rfl ?_
    refine wl_val (v := .bool true) (fun ρ e => ex_assign (e _ _ rfl)) rfl rfl ?_
    refine wl_nil ?_
    refine xw_next K11 ?_
    refine cw_true rfl ?_
    refine cw_seq (fun FK13 K13 => ?_)
    refine cw_region ?_
    refine wl_val (v := .pointer (some ⟨f, 0, none⟩)) (fun ρ e => ex_move (e _ _ rfl)) rfl rfl ?_
    refine wl_val (v := .agg #[.int .i64 1, .int .i64 0, .slice none 0 0]) (fun ρ e => ex_build (cells := #[.int .i64 1, .int .i64 0, .slice none 0 0]) st38 (e.parts rfl) rfl) rfl rfl ?_
    refine wl_call (args := [.pointer (some ⟨f, 0, none⟩), .agg #[.int .i64 1, .int .i64 0, .slice none 0 0]]) in_80 rfl rfl rfl ?_
    have O14 : Own (zone (foldE f m R c D L vs ++ [inE DI (.slice (some ⟨bI, oI, none⟩) 2 cJ) [a, b]])) W w3.drew [.ro (fun _ => False) (fun w => IntsD (fun _ => False) w (.slice none 0 0) ([])), .blk g2 38 #[.int .i64 kind, .int .i64 lit, GV], .blk f 56 #[.slice R L.length c, .map (some m)], .map m (encL strE (keysGo L 0)), .row (.slice R L.length c) 38 3 L.length (gcells L vs), .ro D (Ins D L vs), .ro TabD Tab, .ro DI (fun w => IntsD DI w (.slice (some ⟨bI, oI, none⟩) 2 cJ) [a, b])] := O9.nilin
    refine (call_find (f := f) (m := m) (R := R) (c := c) (D := D) (L := L) (vs := vs) (D2 := (fun _ => False)) (V := .slice none 0 0) (g := ⟨1, 0, []⟩) (rest := [.blk g2 38 #[.int .i64 kind, .int .i64 lit, GV], .ro DI (fun w => IntsD DI w (.slice (some ⟨bI, oI, none⟩) 2 cJ) [a, b])]) (O14.re [2, 3, 4, 5, 6, 0, 1, 7] rfl : Own (zone (foldE f m R c D L vs ++ [inE DI (.slice (some ⟨bI, oI, none⟩) 2 cJ) [a, b]])) W w3.drew [.blk f 56 #[.slice R L.length c, .map (some m)], .map m (encL strE (keysGo L 0)), .row (.slice R L.length c) 38 3 L.length (gcells L vs), .ro D (Ins D L vs), .ro TabD Tab, .ro (fun _ => False) (fun w => IntsD (fun _ => False) w (.slice none 0 0) ([])), .blk g2 38 #[.int .i64 kind, .int .i64 lit, GV], .ro DI (fun w => IntsD DI w (.slice (some ⟨bI, oI, none⟩) 2 cJ) [a, b])]) (small_c (smallI_lit 1 rfl) (smallI_lit 0 rfl)) hL).mono ?_
    rintro _ w15 ⟨R16, c17, D18, vs19, rfl, O20⟩
    refine ⟨_, rfl, ?_⟩
    refine wl_val (v := .int .i64 ((findG L ⟨1, 0, []⟩).2)) (fun ρ e => ex_assign (e _ _ rfl)) rfl rfl ?_
    refine wl_nil ?_
    refine xw_next K13 ?_
    refine cw_ret ?_
    refine xw_blockret ?_
    refine xw_past (by intro h; cases h) ?_
    refine xw_ret (v := .int .i64 ((findG L ⟨1, 0, []⟩).2)) (fun T hT => res1 rfl T _ (hT 6 _ rfl)) ?_
    exact FPost.eq ⟨_, _, _, _, rfl, (O20.re [0, 1, 2, 3, 4] rfl : Own (zone (foldE f m R c D L vs ++ [inE DI (.slice (some ⟨bI, oI, none⟩) 2 cJ) [a, b]])) W w15 [.blk f 56 #[.slice R16 (((findG L ⟨1, 0, []⟩).1).length) c17, .map (some m)], .map m (encL strE (keysGo ((findG L ⟨1, 0, []⟩).1) 0)), .row (.slice R16 (((findG L ⟨1, 0, []⟩).1).length) c17) 38 3 (((findG L ⟨1, 0, []⟩).1).length) (gcells ((findG L ⟨1, 0, []⟩).1) vs19), .ro D18 (Ins D18 ((findG L ⟨1, 0, []⟩).1) vs19), .ro TabD Tab])⟩ (by rw [iffG, if_pos c12])
  · skip
    refine wl_val (v := .bool false) (fun ρ e => ex_cmp (u := a) (v := b) (e _ _ rfl) (e _ _ rfl) (eql0 (by omega))) rfl rfl ?_
    refine wl_val (v := .bool false) (fun ρ e => ex_assign (e _ _ rfl)) rfl rfl ?_
    refine wl_nil ?_
    refine xw_next K11 ?_
    refine cw_false rfl ?_
    refine cw_seq (fun FK21 K21 => ?_)
    refine cw_region ?_
    refine wl_val (v := .pointer (some ⟨f, 0, none⟩)) (fun ρ e => ex_move (e _ _ rfl)) rfl rfl ?_
    refine wl_val (v := .int .i64 a) (fun ρ e => ex_move (e _ _ rfl)) rfl rfl ?_
    by_cases c22 : kindAt L a = 1
    · skip
      refine wl_call (args := [.pointer (some ⟨f, 0, none⟩), .int .i64 a, .int .i64 1]) in_82 rfl rfl rfl ?_
      refine (is1 (f := f) (m := m) (R := R) (c := c) (D := D) (L := L) (vs := vs) (rest := [.blk g2 38 #[.int .i64 kind, .int .i64 lit, GV], .ro DI (fun w => IntsD DI w (.slice (some ⟨bI, oI, none⟩) 2 cJ) [a, b])]) (O9.re [1, 2, 3, 4, 5, 0, 6] rfl : Own (zone (foldE f m R c D L vs ++ [inE DI (.slice (some ⟨bI, oI, none⟩) 2 cJ) [a, b]])) W w3.drew [.blk f 56 #[.slice R L.length c, .map (some m)], .map m (encL strE (keysGo L 0)), .row (.slice R L.length c) 38 3 L.length (gcells L vs), .ro D (Ins D L vs), .ro TabD Tab, .blk g2 38 #[.int .i64 kind, .int .i64 lit, GV], .ro DI (fun w => IntsD DI w (.slice (some ⟨bI, oI, none⟩) 2 cJ) [a, b])]) (by omega) c22).mono ?_
      rintro _ w23 ⟨rfl, hb24⟩
      have O25 : Own (zone (foldE f m R c D L vs ++ [inE DI (.slice (some ⟨bI, oI, none⟩) 2 cJ) [a, b]])) W w23 [.blk g2 38 #[.int .i64 kind, .int .i64 lit, GV], .blk f 56 #[.slice R L.length c, .map (some m)], .map m (encL strE (keysGo L 0)), .row (.slice R L.length c) 38 3 L.length (gcells L vs), .ro D (Ins D L vs), .ro TabD Tab, .ro DI (fun w => IntsD DI w (.slice (some ⟨bI, oI, none⟩) 2 cJ) [a, b])] := O9.below hb24
      refine ⟨_, rfl, ?_⟩
      refine wl_val (v := .bool true) (fun ρ e => ex_assign (e _ _ rfl)) rfl rfl ?_
      refine wl_nil ?_
      refine xw_next K21 ?_
      refine cw_true rfl ?_
      refine cw_seq (fun FK26 K26 => ?_)
      refine cw_region ?_
      refine wl_val (v := .int .i64 b) (fun ρ e => ex_move (e _ _ rfl)) rfl rfl ?_
      refine wl_val (v := .int .i64 b) (fun ρ e => ex_assign (e _ _ rfl)) rfl rfl ?_
      refine wl_nil ?_
      refine xw_next K26 ?_
      refine cw_ret ?_
      refine xw_blockret ?_
      refine xw_past (by intro h; cases h) ?_
      refine xw_ret (v := .int .i64 b) (fun T hT => res1 rfl T _ (hT 6 _ rfl)) ?_
      exact FPost.eq (q' := (L, b)) ⟨_, _, _, _, rfl, (O25.re [1, 2, 3, 4, 5] rfl : Own (zone (foldE f m R c D L vs ++ [inE DI (.slice (some ⟨bI, oI, none⟩) 2 cJ) [a, b]])) W w23 [.blk f 56 #[.slice R L.length c, .map (some m)], .map m (encL strE (keysGo L 0)), .row (.slice R L.length c) 38 3 L.length (gcells L vs), .ro D (Ins D L vs), .ro TabD Tab])⟩ (by rw [iffG, if_neg c12, if_pos c22])
    · skip
      refine wl_call (args := [.pointer (some ⟨f, 0, none⟩), .int .i64 a, .int .i64 1]) in_82 rfl rfl rfl ?_
      refine (is0 (f := f) (m := m) (R := R) (c := c) (D := D) (L := L) (vs := vs) (rest := [.blk g2 38 #[.int .i64 kind, .int .i64 lit, GV], .ro DI (fun w => IntsD DI w (.slice (some ⟨bI, oI, none⟩) 2 cJ) [a, b])]) (O9.re [1, 2, 3, 4, 5, 0, 6] rfl : Own (zone (foldE f m R c D L vs ++ [inE DI (.slice (some ⟨bI, oI, none⟩) 2 cJ) [a, b]])) W w3.drew [.blk f 56 #[.slice R L.length c, .map (some m)], .map m (encL strE (keysGo L 0)), .row (.slice R L.length c) 38 3 L.length (gcells L vs), .ro D (Ins D L vs), .ro TabD Tab, .blk g2 38 #[.int .i64 kind, .int .i64 lit, GV], .ro DI (fun w => IntsD DI w (.slice (some ⟨bI, oI, none⟩) 2 cJ) [a, b])]) (by omega) c22).mono ?_
      rintro _ w27 ⟨rfl, hb28⟩
      have O29 : Own (zone (foldE f m R c D L vs ++ [inE DI (.slice (some ⟨bI, oI, none⟩) 2 cJ) [a, b]])) W w27 [.blk g2 38 #[.int .i64 kind, .int .i64 lit, GV], .blk f 56 #[.slice R L.length c, .map (some m)], .map m (encL strE (keysGo L 0)), .row (.slice R L.length c) 38 3 L.length (gcells L vs), .ro D (Ins D L vs), .ro TabD Tab, .ro DI (fun w => IntsD DI w (.slice (some ⟨bI, oI, none⟩) 2 cJ) [a, b])] := O9.below hb28
      refine ⟨_, rfl, ?_⟩
      refine wl_val (v := .bool false) (fun ρ e => ex_assign (e _ _ rfl)) rfl rfl ?_
      refine wl_nil ?_
      refine xw_next K21 ?_
      refine cw_false rfl ?_
      refine cw_seq (fun FK30 K30 => ?_)
      refine cw_region ?_
      refine wl_val (v := .pointer (some ⟨f, 0, none⟩)) (fun ρ e => ex_move (e _ _ rfl)) rfl rfl ?_
      refine wl_val (v := .int .i64 b) (fun ρ e => ex_move (e _ _ rfl)) rfl rfl ?_
      by_cases c31 : kindAt L b = 1
      · skip
        refine wl_call (args := [.pointer (some ⟨f, 0, none⟩), .int .i64 b, .int .i64 1]) in_82 rfl rfl rfl ?_
        refine (is1 (f := f) (m := m) (R := R) (c := c) (D := D) (L := L) (vs := vs) (rest := [.blk g2 38 #[.int .i64 kind, .int .i64 lit, GV], .ro DI (fun w => IntsD DI w (.slice (some ⟨bI, oI, none⟩) 2 cJ) [a, b])]) (O29.re [1, 2, 3, 4, 5, 0, 6] rfl : Own (zone (foldE f m R c D L vs ++ [inE DI (.slice (some ⟨bI, oI, none⟩) 2 cJ) [a, b]])) W w27 [.blk f 56 #[.slice R L.length c, .map (some m)], .map m (encL strE (keysGo L 0)), .row (.slice R L.length c) 38 3 L.length (gcells L vs), .ro D (Ins D L vs), .ro TabD Tab, .blk g2 38 #[.int .i64 kind, .int .i64 lit, GV], .ro DI (fun w => IntsD DI w (.slice (some ⟨bI, oI, none⟩) 2 cJ) [a, b])]) (by omega) c31).mono ?_
        rintro _ w32 ⟨rfl, hb33⟩
        have O34 : Own (zone (foldE f m R c D L vs ++ [inE DI (.slice (some ⟨bI, oI, none⟩) 2 cJ) [a, b]])) W w32 [.blk g2 38 #[.int .i64 kind, .int .i64 lit, GV], .blk f 56 #[.slice R L.length c, .map (some m)], .map m (encL strE (keysGo L 0)), .row (.slice R L.length c) 38 3 L.length (gcells L vs), .ro D (Ins D L vs), .ro TabD Tab, .ro DI (fun w => IntsD DI w (.slice (some ⟨bI, oI, none⟩) 2 cJ) [a, b])] := O29.below hb33
        refine ⟨_, rfl, ?_⟩
        refine wl_val (v := .bool true) (fun ρ e => ex_assign (e _ _ rfl)) rfl rfl ?_
        refine wl_nil ?_
        refine xw_next K30 ?_
        refine cw_true rfl ?_
        refine cw_seq (fun FK35 K35 => ?_)
        refine cw_region ?_
        refine wl_val (v := .int .i64 a) (fun ρ e => ex_move (e _ _ rfl)) rfl rfl ?_
        refine wl_val (v := .int .i64 a) (fun ρ e => ex_assign (e _ _ rfl)) rfl rfl ?_
        refine wl_nil ?_
        refine xw_next K35 ?_
        refine cw_ret ?_
        refine xw_blockret ?_
        refine xw_past (by intro h; cases h) ?_
        refine xw_ret (v := .int .i64 a) (fun T hT => res1 rfl T _ (hT 6 _ rfl)) ?_
        exact FPost.eq (q' := (L, a)) ⟨_, _, _, _, rfl, (O34.re [1, 2, 3, 4, 5] rfl : Own (zone (foldE f m R c D L vs ++ [inE DI (.slice (some ⟨bI, oI, none⟩) 2 cJ) [a, b]])) W w32 [.blk f 56 #[.slice R L.length c, .map (some m)], .map m (encL strE (keysGo L 0)), .row (.slice R L.length c) 38 3 L.length (gcells L vs), .ro D (Ins D L vs), .ro TabD Tab])⟩ (by rw [iffG, if_neg c12, if_neg c22, if_pos c31])
      · skip
        refine wl_call (args := [.pointer (some ⟨f, 0, none⟩), .int .i64 b, .int .i64 1]) in_82 rfl rfl rfl ?_
        refine (is0 (f := f) (m := m) (R := R) (c := c) (D := D) (L := L) (vs := vs) (rest := [.blk g2 38 #[.int .i64 kind, .int .i64 lit, GV], .ro DI (fun w => IntsD DI w (.slice (some ⟨bI, oI, none⟩) 2 cJ) [a, b])]) (O29.re [1, 2, 3, 4, 5, 0, 6] rfl : Own (zone (foldE f m R c D L vs ++ [inE DI (.slice (some ⟨bI, oI, none⟩) 2 cJ) [a, b]])) W w27 [.blk f 56 #[.slice R L.length c, .map (some m)], .map m (encL strE (keysGo L 0)), .row (.slice R L.length c) 38 3 L.length (gcells L vs), .ro D (Ins D L vs), .ro TabD Tab, .blk g2 38 #[.int .i64 kind, .int .i64 lit, GV], .ro DI (fun w => IntsD DI w (.slice (some ⟨bI, oI, none⟩) 2 cJ) [a, b])]) (by omega) c31).mono ?_
        rintro _ w36 ⟨rfl, hb37⟩
        have O38 : Own (zone (foldE f m R c D L vs ++ [inE DI (.slice (some ⟨bI, oI, none⟩) 2 cJ) [a, b]])) W w36 [.blk g2 38 #[.int .i64 kind, .int .i64 lit, GV], .blk f 56 #[.slice R L.length c, .map (some m)], .map m (encL strE (keysGo L 0)), .row (.slice R L.length c) 38 3 L.length (gcells L vs), .ro D (Ins D L vs), .ro TabD Tab, .ro DI (fun w => IntsD DI w (.slice (some ⟨bI, oI, none⟩) 2 cJ) [a, b])] := O29.below hb37
        refine ⟨_, rfl, ?_⟩
        refine wl_val (v := .bool false) (fun ρ e => ex_assign (e _ _ rfl)) rfl rfl ?_
        refine wl_nil ?_
        refine xw_next K30 ?_
        refine cw_false rfl ?_
        refine cw_seq (fun FK39 K39 => ?_)
        refine cw_region ?_
        refine wl_val (v := .pointer (some ⟨f, 0, none⟩)) (fun ρ e => ex_move (e _ _ rfl)) rfl rfl ?_
        refine wl_val (v := .int .i64 a) (fun ρ e => ex_move (e _ _ rfl)) rfl rfl ?_
        by_cases c40 : kindAt L a = 0
        · skip
          refine wl_call (args := [.pointer (some ⟨f, 0, none⟩), .int .i64 a, .int .i64 0]) in_82 rfl rfl rfl ?_
          refine (is1 (f := f) (m := m) (R := R) (c := c) (D := D) (L := L) (vs := vs) (rest := [.blk g2 38 #[.int .i64 kind, .int .i64 lit, GV], .ro DI (fun w => IntsD DI w (.slice (some ⟨bI, oI, none⟩) 2 cJ) [a, b])]) (O38.re [1, 2, 3, 4, 5, 0, 6] rfl : Own (zone (foldE f m R c D L vs ++ [inE DI (.slice (some ⟨bI, oI, none⟩) 2 cJ) [a, b]])) W w36 [.blk f 56 #[.slice R L.length c, .map (some m)], .map m (encL strE (keysGo L 0)), .row (.slice R L.length c) 38 3 L.length (gcells L vs), .ro D (Ins D L vs), .ro TabD Tab, .blk g2 38 #[.int .i64 kind, .int .i64 lit, GV], .ro DI (fun w => IntsD DI w (.slice (some ⟨bI, oI, none⟩) 2 cJ) [a, b])]) (by omega) c40).mono ?_
          rintro _ w41 ⟨rfl, hb42⟩
          have O43 : Own (zone (foldE f m R c D L vs ++ [inE DI (.slice (some ⟨bI, oI, none⟩) 2 cJ) [a, b]])) W w41 [.blk g2 38 #[.int .i64 kind, .int .i64 lit, GV], .blk f 56 #[.slice R L.length c, .map (some m)], .map m (encL strE (keysGo L 0)), .row (.slice R L.length c) 38 3 L.length (gcells L vs), .ro D (Ins D L vs), .ro TabD Tab, .ro DI (fun w => IntsD DI w (.slice (some ⟨bI, oI, none⟩) 2 cJ) [a, b])] := O38.below hb42
          refine ⟨_, rfl, ?_⟩
          refine wl_val (v := .bool true) (fun ρ e => ex_assign (e _ _ rfl)) rfl rfl ?_
          refine wl_nil ?_
          refine xw_next K39 ?_
          refine cw_true rfl ?_
          refine cw_seq (fun FK44 K44 => ?_)
          refine cw_region ?_
          refine wl_val (v := .pointer (some ⟨f, 0, none⟩)) (fun ρ e => ex_move (e _ _ rfl)) rfl rfl ?_
          refine wl_val (v := .int .i64 b) (fun ρ e => ex_move (e _ _ rfl)) rfl rfl ?_
          refine wl_call (args := [.pointer (some ⟨f, 0, none⟩), .int .i64 b]) in_81 rfl rfl rfl ?_
          refine (FPost.use (A := foldE f m R c D L vs) (rest := [.blk g2 38 #[.int .i64 kind, .int .i64 lit, GV], .ro DI (fun w => IntsD DI w (.slice (some ⟨bI, oI, none⟩) 2 cJ) [a, b])]) (O43.re [1, 2, 3, 4, 5, 0, 6] rfl : Own (zone (foldE f m R c D L vs ++ [inE DI (.slice (some ⟨bI, oI, none⟩) 2 cJ) [a, b]])) W w41 [.blk f 56 #[.slice R L.length c, .map (some m)], .map m (encL strE (keysGo L 0)), .row (.slice R L.length c) 38 3 L.length (gcells L vs), .ro D (Ins D L vs), .ro TabD Tab, .blk g2 38 #[.int .i64 kind, .int .i64 lit, GV], .ro DI (fun w => IntsD DI w (.slice (some ⟨bI, oI, none⟩) 2 cJ) [a, b])]) (not_ (Own.hand (A := foldE f m R c D L vs) (R := [.blk g2 38 #[.int .i64 kind, .int .i64 lit, GV], .ro DI (fun w => IntsD DI w (.slice (some ⟨bI, oI, none⟩) 2 cJ) [a, b])]) (O43.re [1, 2, 3, 4, 5, 0, 6] rfl : Own (zone (foldE f m R c D L vs ++ [inE DI (.slice (some ⟨bI, oI, none⟩) 2 cJ) [a, b]])) W w41 [.blk f 56 #[.slice R L.length c, .map (some m)], .map m (encL strE (keysGo L 0)), .row (.slice R L.length c) 38 3 L.length (gcells L vs), .ro D (Ins D L vs), .ro TabD Tab, .blk g2 38 #[.int .i64 kind, .int .i64 lit, GV], .ro DI (fun w => IntsD DI w (.slice (some ⟨bI, oI, none⟩) 2 cJ) [a, b])])) (by omega) ok hL)).mono ?_
          rintro _ w45 ⟨R46, c47, D48, vs49, rfl, O50⟩
          refine ⟨_, rfl, ?_⟩
          refine wl_val (v := .int .i64 ((notG L b).2)) (fun ρ e => ex_assign (e _ _ rfl)) rfl rfl ?_
          refine wl_nil ?_
          refine xw_next K44 ?_
          refine cw_ret ?_
          refine xw_blockret ?_
          refine xw_past (by intro h; cases h) ?_
          refine xw_ret (v := .int .i64 ((notG L b).2)) (fun T hT => res1 rfl T _ (hT 6 _ rfl)) ?_
          exact FPost.eq ⟨_, _, _, _, rfl, (O50.re [0, 1, 2, 3, 4] rfl : Own (zone (foldE f m R c D L vs ++ [inE DI (.slice (some ⟨bI, oI, none⟩) 2 cJ) [a, b]])) W w45 [.blk f 56 #[.slice R46 (((notG L b).1).length) c47, .map (some m)], .map m (encL strE (keysGo ((notG L b).1) 0)), .row (.slice R46 (((notG L b).1).length) c47) 38 3 (((notG L b).1).length) (gcells ((notG L b).1) vs49), .ro D48 (Ins D48 ((notG L b).1) vs49), .ro TabD Tab])⟩ (by rw [iffG, if_neg c12, if_neg c22, if_neg c31, if_pos c40])
        · skip
          refine wl_call (args := [.pointer (some ⟨f, 0, none⟩), .int .i64 a, .int .i64 0]) in_82 rfl rfl rfl ?_
          refine (is0 (f := f) (m := m) (R := R) (c := c) (D := D) (L := L) (vs := vs) (rest := [.blk g2 38 #[.int .i64 kind, .int .i64 lit, GV], .ro DI (fun w => IntsD DI w (.slice (some ⟨bI, oI, none⟩) 2 cJ) [a, b])]) (O38.re [1, 2, 3, 4, 5, 0, 6] rfl : Own (zone (foldE f m R c D L vs ++ [inE DI (.slice (some ⟨bI, oI, none⟩) 2 cJ) [a, b]])) W w36 [.blk f 56 #[.slice R L.length c, .map (some m)], .map m (encL strE (keysGo L 0)), .row (.slice R L.length c) 38 3 L.length (gcells L vs), .ro D (Ins D L vs), .ro TabD Tab, .blk g2 38 #[.int .i64 kind, .int .i64 lit, GV], .ro DI (fun w => IntsD DI w (.slice (some ⟨bI, oI, none⟩) 2 cJ) [a, b])]) (by omega) c40).mono ?_
          rintro _ w51 ⟨rfl, hb52⟩
          have O53 : Own (zone (foldE f m R c D L vs ++ [inE DI (.slice (some ⟨bI, oI, none⟩) 2 cJ) [a, b]])) W w51 [.blk g2 38 #[.int .i64 kind, .int .i64 lit, GV], .blk f 56 #[.slice R L.length c, .map (some m)], .map m (encL strE (keysGo L 0)), .row (.slice R L.length c) 38 3 L.length (gcells L vs), .ro D (Ins D L vs), .ro TabD Tab, .ro DI (fun w => IntsD DI w (.slice (some ⟨bI, oI, none⟩) 2 cJ) [a, b])] := O38.below hb52
          refine ⟨_, rfl, ?_⟩
          refine wl_val (v := .bool false) (fun ρ e => ex_assign (e _ _ rfl)) rfl rfl ?_
          refine wl_nil ?_
          refine xw_next K39 ?_
          refine cw_false rfl ?_
          refine cw_seq (fun FK54 K54 => ?_)
          refine cw_region ?_
          refine wl_val (v := .pointer (some ⟨f, 0, none⟩)) (fun ρ e => ex_move (e _ _ rfl)) rfl rfl ?_
          refine wl_val (v := .int .i64 b) (fun ρ e => ex_move (e _ _ rfl)) rfl rfl ?_
          by_cases c55 : kindAt L b = 0
          · skip
            refine wl_call (args := [.pointer (some ⟨f, 0, none⟩), .int .i64 b, .int .i64 0]) in_82 rfl rfl rfl ?_
            refine (is1 (f := f) (m := m) (R := R) (c := c) (D := D) (L := L) (vs := vs) (rest := [.blk g2 38 #[.int .i64 kind, .int .i64 lit, GV], .ro DI (fun w => IntsD DI w (.slice (some ⟨bI, oI, none⟩) 2 cJ) [a, b])]) (O53.re [1, 2, 3, 4, 5, 0, 6] rfl : Own (zone (foldE f m R c D L vs ++ [inE DI (.slice (some ⟨bI, oI, none⟩) 2 cJ) [a, b]])) W w51 [.blk f 56 #[.slice R L.length c, .map (some m)], .map m (encL strE (keysGo L 0)), .row (.slice R L.length c) 38 3 L.length (gcells L vs), .ro D (Ins D L vs), .ro TabD Tab, .blk g2 38 #[.int .i64 kind, .int .i64 lit, GV], .ro DI (fun w => IntsD DI w (.slice (some ⟨bI, oI, none⟩) 2 cJ) [a, b])]) (by omega) c55).mono ?_
            rintro _ w56 ⟨rfl, hb57⟩
            have O58 : Own (zone (foldE f m R c D L vs ++ [inE DI (.slice (some ⟨bI, oI, none⟩) 2 cJ) [a, b]])) W w56 [.blk g2 38 #[.int .i64 kind, .int .i64 lit, GV], .blk f 56 #[.slice R L.length c, .map (some m)], .map m (encL strE (keysGo L 0)), .row (.slice R L.length c) 38 3 L.length (gcells L vs), .ro D (Ins D L vs), .ro TabD Tab, .ro DI (fun w => IntsD DI w (.slice (some ⟨bI, oI, none⟩) 2 cJ) [a, b])] := O53.below hb57
            refine ⟨_, rfl, ?_⟩
            refine wl_val (v := .bool true) (fun ρ e => ex_assign (e _ _ rfl)) rfl rfl ?_
            refine wl_nil ?_
            refine xw_next K54 ?_
            refine cw_true rfl ?_
            refine cw_seq (fun FK59 K59 => ?_)
            refine cw_region ?_
            refine wl_val (v := .pointer (some ⟨f, 0, none⟩)) (fun ρ e => ex_move (e _ _ rfl)) rfl rfl ?_
            refine wl_val (v := .int .i64 a) (fun ρ e => ex_move (e _ _ rfl)) rfl rfl ?_
            refine wl_call (args := [.pointer (some ⟨f, 0, none⟩), .int .i64 a]) in_81 rfl rfl rfl ?_
            refine (FPost.use (A := foldE f m R c D L vs) (rest := [.blk g2 38 #[.int .i64 kind, .int .i64 lit, GV], .ro DI (fun w => IntsD DI w (.slice (some ⟨bI, oI, none⟩) 2 cJ) [a, b])]) (O58.re [1, 2, 3, 4, 5, 0, 6] rfl : Own (zone (foldE f m R c D L vs ++ [inE DI (.slice (some ⟨bI, oI, none⟩) 2 cJ) [a, b]])) W w56 [.blk f 56 #[.slice R L.length c, .map (some m)], .map m (encL strE (keysGo L 0)), .row (.slice R L.length c) 38 3 L.length (gcells L vs), .ro D (Ins D L vs), .ro TabD Tab, .blk g2 38 #[.int .i64 kind, .int .i64 lit, GV], .ro DI (fun w => IntsD DI w (.slice (some ⟨bI, oI, none⟩) 2 cJ) [a, b])]) (not_ (Own.hand (A := foldE f m R c D L vs) (R := [.blk g2 38 #[.int .i64 kind, .int .i64 lit, GV], .ro DI (fun w => IntsD DI w (.slice (some ⟨bI, oI, none⟩) 2 cJ) [a, b])]) (O58.re [1, 2, 3, 4, 5, 0, 6] rfl : Own (zone (foldE f m R c D L vs ++ [inE DI (.slice (some ⟨bI, oI, none⟩) 2 cJ) [a, b]])) W w56 [.blk f 56 #[.slice R L.length c, .map (some m)], .map m (encL strE (keysGo L 0)), .row (.slice R L.length c) 38 3 L.length (gcells L vs), .ro D (Ins D L vs), .ro TabD Tab, .blk g2 38 #[.int .i64 kind, .int .i64 lit, GV], .ro DI (fun w => IntsD DI w (.slice (some ⟨bI, oI, none⟩) 2 cJ) [a, b])])) (by omega) ok hL)).mono ?_
            rintro _ w60 ⟨R61, c62, D63, vs64, rfl, O65⟩
            refine ⟨_, rfl, ?_⟩
            refine wl_val (v := .int .i64 ((notG L a).2)) (fun ρ e => ex_assign (e _ _ rfl)) rfl rfl ?_
            refine wl_nil ?_
            refine xw_next K59 ?_
            refine cw_ret ?_
            refine xw_blockret ?_
            refine xw_past (by intro h; cases h) ?_
            refine xw_ret (v := .int .i64 ((notG L a).2)) (fun T hT => res1 rfl T _ (hT 6 _ rfl)) ?_
            exact FPost.eq ⟨_, _, _, _, rfl, (O65.re [0, 1, 2, 3, 4] rfl : Own (zone (foldE f m R c D L vs ++ [inE DI (.slice (some ⟨bI, oI, none⟩) 2 cJ) [a, b]])) W w60 [.blk f 56 #[.slice R61 (((notG L a).1).length) c62, .map (some m)], .map m (encL strE (keysGo ((notG L a).1) 0)), .row (.slice R61 (((notG L a).1).length) c62) 38 3 (((notG L a).1).length) (gcells ((notG L a).1) vs64), .ro D63 (Ins D63 ((notG L a).1) vs64), .ro TabD Tab])⟩ (by rw [iffG, if_neg c12, if_neg c22, if_neg c31, if_neg c40, if_pos c55])
          · skip
            refine wl_call (args := [.pointer (some ⟨f, 0, none⟩), .int .i64 b, .int .i64 0]) in_82 rfl rfl rfl ?_
            refine (is0 (f := f) (m := m) (R := R) (c := c) (D := D) (L := L) (vs := vs) (rest := [.blk g2 38 #[.int .i64 kind, .int .i64 lit, GV], .ro DI (fun w => IntsD DI w (.slice (some ⟨bI, oI, none⟩) 2 cJ) [a, b])]) (O53.re [1, 2, 3, 4, 5, 0, 6] rfl : Own (zone (foldE f m R c D L vs ++ [inE DI (.slice (some ⟨bI, oI, none⟩) 2 cJ) [a, b]])) W w51 [.blk f 56 #[.slice R L.length c, .map (some m)], .map m (encL strE (keysGo L 0)), .row (.slice R L.length c) 38 3 L.length (gcells L vs), .ro D (Ins D L vs), .ro TabD Tab, .blk g2 38 #[.int .i64 kind, .int .i64 lit, GV], .ro DI (fun w => IntsD DI w (.slice (some ⟨bI, oI, none⟩) 2 cJ) [a, b])]) (by omega) c55).mono ?_
            rintro _ w66 ⟨rfl, hb67⟩
            have O68 : Own (zone (foldE f m R c D L vs ++ [inE DI (.slice (some ⟨bI, oI, none⟩) 2 cJ) [a, b]])) W w66 [.blk g2 38 #[.int .i64 kind, .int .i64 lit, GV], .blk f 56 #[.slice R L.length c, .map (some m)], .map m (encL strE (keysGo L 0)), .row (.slice R L.length c) 38 3 L.length (gcells L vs), .ro D (Ins D L vs), .ro TabD Tab, .ro DI (fun w => IntsD DI w (.slice (some ⟨bI, oI, none⟩) 2 cJ) [a, b])] := O53.below hb67
            refine ⟨_, rfl, ?_⟩
            refine wl_val (v := .bool false) (fun ρ e => ex_assign (e _ _ rfl)) rfl rfl ?_
            refine wl_nil ?_
            refine xw_next K54 ?_
            refine cw_false rfl ?_
            refine cw_skip ?_
            refine xw_block ?_
            refine xw_next K10 ?_
            refine cw_seq (fun FK69 K69 => ?_)
            refine cw_region ?_
            refine wl_val (v := .pointer (some ⟨f, 0, none⟩)) (fun ρ e => ex_move (e _ _ rfl)) rfl rfl ?_
            refine wl_val (v := .int .i64 a) (fun ρ e => ex_move (e _ _ rfl)) rfl rfl ?_
            refine wl_val (v := .int .i64 b) (fun ρ e => ex_move (e _ _ rfl)) rfl rfl ?_
            obtain ⟨g70, w71, r72, O73, hg74, hs75⟩ := own_slice O68 el36 ze3 2 [(0, .int .i64 a), (1, .int .i64 b)] (cs := #[.int .i64 a, .int .i64 b]) (by decide) (by kernel_rfl)
            refine wl_val (v := .slice (some ⟨g70, 0, none⟩) 2 2) (fun ρ e => r72 ρ _ _ _ _ _ _ (e.parts rfl)) rfl rfl ?_
            refine wl_val (v := .agg #[.int .i64 7, .int .i64 0, .slice (some ⟨g70, 0, none⟩) 2 2]) (fun ρ e => ex_build (cells := #[.int .i64 7, .int .i64 0, .slice (some ⟨g70, 0, none⟩) 2 2]) st38 (e.parts rfl) rfl) rfl rfl ?_
            refine wl_call (args := [.pointer (some ⟨f, 0, none⟩), .agg #[.int .i64 7, .int .i64 0, .slice (some ⟨g70, 0, none⟩) 2 2]]) in_80 rfl rfl rfl ?_
            have O76 : Own (zone (foldE f m R c D L vs ++ [inE DI (.slice (some ⟨bI, oI, none⟩) 2 cJ) [a, b]])) W w71 [.ro (fun k => k = g70) (fun w => IntsD (fun k => k = g70) w (.slice (some ⟨g70, 0, none⟩) 2 2) ([a, b])), .blk g2 38 #[.int .i64 kind, .int .i64 lit, GV], .blk f 56 #[.slice R L.length c, .map (some m)], .map m (encL strE (keysGo L 0)), .row (.slice R L.length c) 38 3 L.length (gcells L vs), .ro D (Ins D L vs), .ro TabD Tab, .ro DI (fun w => IntsD DI w (.slice (some ⟨bI, oI, none⟩) 2 cJ) [a, b])] := Own.blkin (l := [a, b]) O73 rfl rfl (by decide)
            refine (call_find (f := f) (m := m) (R := R) (c := c) (D := D) (L := L) (vs := vs) (D2 := (fun k => k = g70)) (V := .slice (some ⟨g70, 0, none⟩) 2 2) (g := ⟨7, 0, [a, b]⟩) (rest := [.blk g2 38 #[.int .i64 kind, .int .i64 lit, GV], .ro DI (fun w => IntsD DI w (.slice (some ⟨bI, oI, none⟩) 2 cJ) [a, b])]) (O76.re [2, 3, 4, 5, 6, 0, 1, 7] rfl : Own (zone (foldE f m R c D L vs ++ [inE DI (.slice (some ⟨bI, oI, none⟩) 2 cJ) [a, b]])) W w71 [.blk f 56 #[.slice R L.length c, .map (some m)], .map m (encL strE (keysGo L 0)), .row (.slice R L.length c) 38 3 L.length (gcells L vs), .ro D (Ins D L vs), .ro TabD Tab, .ro (fun k => k = g70) (fun w => IntsD (fun k => k = g70) w (.slice (some ⟨g70, 0, none⟩) 2 2) ([a, b])), .blk g2 38 #[.int .i64 kind, .int .i64 lit, GV], .ro DI (fun w => IntsD DI w (.slice (some ⟨bI, oI, none⟩) 2 cJ) [a, b])]) (small_n (smallI_lit 7 rfl) (by simp only [List.mem_cons, List.not_mem_nil, or_false, forall_eq_or_imp, forall_eq, smallI]; omega) (Nat.le_of_ble_eq_true rfl)) hL).mono ?_
            rintro _ w77 ⟨R78, c79, D80, vs81, rfl, O82⟩
            refine ⟨_, rfl, ?_⟩
            refine wl_val (v := .int .i64 ((findG L ⟨7, 0, [a, b]⟩).2)) (fun ρ e => ex_assign (e _ _ rfl)) rfl rfl ?_
            refine wl_nil ?_
            refine xw_next K69 ?_
            refine cw_ret ?_
            refine xw_ret (v := .int .i64 ((findG L ⟨7, 0, [a, b]⟩).2)) (fun T hT => res1 rfl T _ (hT 6 _ rfl)) ?_
            exact FPost.eq ⟨_, _, _, _, rfl, (O82.re [0, 1, 2, 3, 4] rfl : Own (zone (foldE f m R c D L vs ++ [inE DI (.slice (some ⟨bI, oI, none⟩) 2 cJ) [a, b]])) W w77 [.blk f 56 #[.slice R78 (((findG L ⟨7, 0, [a, b]⟩).1).length) c79, .map (some m)], .map m (encL strE (keysGo ((findG L ⟨7, 0, [a, b]⟩).1) 0)), .row (.slice R78 (((findG L ⟨7, 0, [a, b]⟩).1).length) c79) 38 3 (((findG L ⟨7, 0, [a, b]⟩).1).length) (gcells ((findG L ⟨7, 0, [a, b]⟩).1) vs81), .ro D80 (Ins D80 ((findG L ⟨7, 0, [a, b]⟩).1) vs81), .ro TabD Tab])⟩ (by rw [iffG, if_neg c12, if_neg c22, if_neg c31, if_neg c40, if_neg c55])
theorem choose_ {a b d : Int} (O0 : Own (zone (foldE f m R c D L vs ++ [inE DI V [a, b, d]])) W W (foldE f m R c D L vs ++ [inE DI V [a, b, d]])) (ha : 0 ≤ a ∧ a < L.length) (hb : 0 ≤ b ∧ b < L.length) (hd : 0 ≤ d ∧ d < L.length) (ok : okGs L) (hL : L.length ≤ 1000000) :
    Calls Tryd.prog 65 #[.pointer (some ⟨f, 0, none⟩), .agg #[.int .i64 kind, .int .i64 lit, GV], V] W (FPost (foldE f m R c D L vs ++ [inE DI V [a, b, d]]) W f m (chooseG L a b d)) := by
  obtain ⟨bI, oI, cJ, rfl⟩ : ∃ b o c, V = .slice (some ⟨b, o, none⟩) 3 c := IntsD.form (O0.ro 5 rfl : IntsD DI W V [a, b, d]) (Nat.lt_of_lt_of_le (Nat.lt_succ_self _) (Nat.le_of_ble_eq_true rfl))
  refine sx_enter (args := [.pointer (some ⟨f, 0, none⟩), .agg #[.int .i64 kind, .int .i64 lit, GV], .slice (some ⟨bI, oI, none⟩) 3 cJ]) Tryd.func65 rfl rfl (by simp) ?_
  refine cw_seq (fun FK1 K1 => ?_)
  refine cw_region ?_
  obtain ⟨g2, w3, r4, O5, hg6, hs7⟩ := own_box O0 38 (.agg #[.int .i64 kind, .int .i64 lit, GV]) rfl
  refine wl_val (v := .pointer (some ⟨g2, 0, none⟩)) (fun ρ e => r4 ρ _ _ _ _ _ _ (e _ _ rfl)) rfl rfl ?_
  refine wl_val (v := .int .i64 0) (fun ρ e => ex_assign (e _ _ rfl)) rfl rfl ?_
  refine wl_nil ?_
  refine xw_next K1 ?_
  refine cw_seq (fun FK8 K8 => ?_)
  refine cw_drawn (fun X => Own (zone (foldE f m R c D L vs ++ [inE DI (.slice (some ⟨bI, oI, none⟩) 3 cJ) [a, b, d]])) W X [.blk g2 38 #[.int .i64 kind, .int .i64 lit, GV], .blk f 56 #[.slice R L.length c, .map (some m)], .ro D (Ins D L vs), .ro TabD Tab, .ro DI (fun w => IntsD DI w (.slice (some ⟨bI, oI, none⟩) 3 cJ) [a, b, d])]) 12 [(0, 1), (1, 1), (2, 0), (3, 1), (4, 1), (5, 0), (6, 1), (7, 1), (8, 0), (9, 2), (10, 2), (11, 2)] (by kernel_rfl) (by kernel_rfl) (PQ.then_ PQ.body) ((O5.re [0, 1, 4, 5, 6] rfl : Own (zone (foldE f m R c D L vs ++ [inE DI (.slice (some ⟨bI, oI, none⟩) 3 cJ) [a, b, d]])) W w3 [.blk g2 38 #[.int .i64 kind, .int .i64 lit, GV], .blk f 56 #[.slice R L.length c, .map (some m)], .ro D (Ins D L vs), .ro TabD Tab, .ro DI (fun w => IntsD DI w (.slice (some ⟨bI, oI, none⟩) 3 cJ) [a, b, d])])).drew ?_
  have O9 : Own (zone (foldE f m R c D L vs ++ [inE DI (.slice (some ⟨bI, oI, none⟩) 3 cJ) [a, b, d]])) W w3.drew [.blk g2 38 #[.int .i64 kind, .int .i64 lit, GV], .blk f 56 #[.slice R L.length c, .map (some m)], .map m (encL strE (keysGo L 0)), .row (.slice R L.length c) 38 3 L.length (gcells L vs), .ro D (Ins D L vs), .ro TabD Tab, .ro DI (fun w => IntsD DI w (.slice (some ⟨bI, oI, none⟩) 3 cJ) [a, b, d])] := O5.drew
  refine wt1 (v := .slice (some ⟨bI, oI, none⟩) 3 cJ) rfl (fun ρ e W => ex_move (e _ _ rfl)) rfl rfl ?_
  refine wt1 (v := .pointer (some ⟨bI, oI, none⟩)) rfl (fun ρ e W => ex_idx (q := oI) (i := 0) el36 (e _ _ rfl) (e _ _ rfl) (by omega) (by omega)) rfl rfl ?_
  refine wt0 (v := .int .i64 a) rfl (fun ρ e W hW => ex_load1 ty3 (e _ _ rfl) (IntsD.cell (hW.ro 4 rfl : IntsD DI _ (.slice (some ⟨bI, oI, none⟩) 3 cJ) [a, b, d]) (k := 0) (Nat.lt_of_lt_of_le (Nat.lt_succ_self _) (Nat.le_of_ble_eq_true rfl)))) rfl rfl ?_
  refine wt1 (v := .slice (some ⟨bI, oI, none⟩) 3 cJ) rfl (fun ρ e W => ex_move (e _ _ rfl)) rfl rfl ?_
  refine wt1 (v := .pointer (some ⟨bI, oI + 1, none⟩)) rfl (fun ρ e W => ex_idx (q := oI + 1) (i := 1) el36 (e _ _ rfl) (e _ _ rfl) (by omega) (by omega)) rfl rfl ?_
  refine wt0 (v := .int .i64 b) rfl (fun ρ e W hW => ex_load1 ty3 (e _ _ rfl) (IntsD.cell (hW.ro 4 rfl : IntsD DI _ (.slice (some ⟨bI, oI, none⟩) 3 cJ) [a, b, d]) (k := 1) (Nat.lt_of_lt_of_le (Nat.lt_succ_self _) (Nat.le_of_ble_eq_true rfl)))) rfl rfl ?_
  refine wt1 (v := .slice (some ⟨bI, oI, none⟩) 3 cJ) rfl (fun ρ e W => ex_move (e _ _ rfl)) rfl rfl ?_
  refine wt1 (v := .pointer (some ⟨bI, oI + 2, none⟩)) rfl (fun ρ e W => ex_idx (q := oI + 2) (i := 2) el36 (e _ _ rfl) (e _ _ rfl) (by omega) (by omega)) rfl rfl ?_
  refine wt0 (v := .int .i64 d) rfl (fun ρ e W hW => ex_load1 ty3 (e _ _ rfl) (IntsD.cell (hW.ro 4 rfl : IntsD DI _ (.slice (some ⟨bI, oI, none⟩) 3 cJ) [a, b, d]) (k := 2) (Nat.lt_of_lt_of_le (Nat.lt_succ_self _) (Nat.le_of_ble_eq_true rfl)))) rfl rfl ?_
  refine wt2 (v := .int .i64 a) rfl (fun ρ e => ex_assign (e _ _ rfl)) rfl rfl (O9.re [0, 1, 4, 5, 6] rfl : Own (zone (foldE f m R c D L vs ++ [inE DI (.slice (some ⟨bI, oI, none⟩) 3 cJ) [a, b, d]])) W w3.drew [.blk g2 38 #[.int .i64 kind, .int .i64 lit, GV], .blk f 56 #[.slice R L.length c, .map (some m)], .ro D (Ins D L vs), .ro TabD Tab, .ro DI (fun w => IntsD DI w (.slice (some ⟨bI, oI, none⟩) 3 cJ) [a, b, d])]) ?_
  refine wt2 (v := .int .i64 b) rfl (fun ρ e => ex_assign (e _ _ rfl)) rfl rfl (O9.re [0, 1, 4, 5, 6] rfl : Own (zone (foldE f m R c D L vs ++ [inE DI (.slice (some ⟨bI, oI, none⟩) 3 cJ) [a, b, d]])) W w3.drew [.blk g2 38 #[.int .i64 kind, .int .i64 lit, GV], .blk f 56 #[.slice R L.length c, .map (some m)], .ro D (Ins D L vs), .ro TabD Tab, .ro DI (fun w => IntsD DI w (.slice (some ⟨bI, oI, none⟩) 3 cJ) [a, b, d])]) ?_
  refine wt2 (v := .int .i64 d) rfl (fun ρ e => ex_assign (e _ _ rfl)) rfl rfl (O9.re [0, 1, 4, 5, 6] rfl : Own (zone (foldE f m R c D L vs ++ [inE DI (.slice (some ⟨bI, oI, none⟩) 3 cJ) [a, b, d]])) W w3.drew [.blk g2 38 #[.int .i64 kind, .int .i64 lit, GV], .blk f 56 #[.slice R L.length c, .map (some m)], .ro D (Ins D L vs), .ro TabD Tab, .ro DI (fun w => IntsD DI w (.slice (some ⟨bI, oI, none⟩) 3 cJ) [a, b, d])]) ?_
  refine wt_nil ?_
  refine xw_next K8 ?_
  refine cw_seq (fun FK10 K10 => ?_)
  refine cw_block ?_
  refine cw_seq (fun FK11 K11 => ?_)
  refine cw_region ?_
  refine wl_val (v := .pointer (some ⟨f, 0, none⟩)) (fun ρ e => ex_move (e _ _ rfl)) rfl rfl ?_
  refine wl_val (v := .int .i64 a) (fun ρ e => ex_move (e _ _ rfl)) rfl rfl ?_
  by_cases c12 : kindAt L a = 1
  · skip
    refine wl_call (args := [.pointer (some ⟨f, 0, none⟩), .int .i64 a, .int .i64 1]) in_82 rfl rfl rfl ?_
    refine (is1 (f := f) (m := m) (R := R) (c := c) (D := D) (L := L) (vs := vs) (rest := [.blk g2 38 #[.int .i64 kind, .int .i64 lit, GV], .ro DI (fun w => IntsD DI w (.slice (some ⟨bI, oI, none⟩) 3 cJ) [a, b, d])]) (O9.re [1, 2, 3, 4, 5, 0, 6] rfl : Own (zone (foldE f m R c D L vs ++ [inE DI (.slice (some ⟨bI, oI, none⟩) 3 cJ) [a, b, d]])) W w3.drew [.blk f 56 #[.slice R L.length c, .map (some m)], .map m (encL strE (keysGo L 0)), .row (.slice R L.length c) 38 3 L.length (gcells L vs), .ro D (Ins D L vs), .ro TabD Tab, .blk g2 38 #[.int .i64 kind, .int .i64 lit, GV], .ro DI (fun w => IntsD DI w (.slice (some ⟨bI, oI, none⟩) 3 cJ) [a, b, d])]) (by omega) c12).mono ?_
    rintro _ w13 ⟨rfl, hb14⟩
    have O15 : Own (zone (foldE f m R c D L vs ++ [inE DI (.slice (some ⟨bI, oI, none⟩) 3 cJ) [a, b, d]])) W w13 [.blk g2 38 #[.int .i64 kind, .int .i64 lit, GV], .blk f 56 #[.slice R L.length c, .map (some m)], .map m (encL strE (keysGo L 0)), .row (.slice R L.length c) 38 3 L.length (gcells L vs), .ro D (Ins D L vs), .ro TabD Tab, .ro DI (fun w => IntsD DI w (.slice (some ⟨bI, oI, none⟩) 3 cJ) [a, b, d])] := O9.below hb14
    refine ⟨_, rfl, ?_⟩
    refine wl_val (v := .bool true) (fun ρ e => ex_assign (e _ _ rfl)) rfl rfl ?_
    refine wl_nil ?_
    refine xw_next K11 ?_
    refine cw_true rfl ?_
    refine cw_seq (fun FK16 K16 => ?_)
    refine cw_region ?_
    refine wl_val (v := .int .i64 b) (fun ρ e => ex_move (e _ _ rfl)) rfl rfl ?_
    refine wl_val (v := .int .i64 b) (fun ρ e => ex_assign (e _ _ rfl)) rfl rfl ?_
    refine wl_nil ?_
    refine xw_next K16 ?_
    refine cw_ret ?_
    refine xw_blockret ?_
    refine xw_past (by intro h; cases h) ?_
    refine xw_ret (v := .int .i64 b) (fun T hT => res1 rfl T _ (hT 6 _ rfl)) ?_
    exact FPost.eq (q' := (L, b)) ⟨_, _, _, _, rfl, (O15.re [1, 2, 3, 4, 5] rfl : Own (zone (foldE f m R c D L vs ++ [inE DI (.slice (some ⟨bI, oI, none⟩) 3 cJ) [a, b, d]])) W w13 [.blk f 56 #[.slice R L.length c, .map (some m)], .map m (encL strE (keysGo L 0)), .row (.slice R L.length c) 38 3 L.length (gcells L vs), .ro D (Ins D L vs), .ro TabD Tab])⟩ (by rw [chooseG, if_pos c12])
  · skip
    refine wl_call (args := [.pointer (some ⟨f, 0, none⟩), .int .i64 a, .int .i64 1]) in_82 rfl rfl rfl ?_
    refine (is0 (f := f) (m := m) (R := R) (c := c) (D := D) (L := L) (vs := vs) (rest := [.blk g2 38 #[.int .i64 kind, .int .i64 lit, GV], .ro DI (fun w => IntsD DI w (.slice (some ⟨bI, oI, none⟩) 3 cJ) [a, b, d])]) (O9.re [1, 2, 3, 4, 5, 0, 6] rfl : Own (zone (foldE f m R c D L vs ++ [inE DI (.slice (some ⟨bI, oI, none⟩) 3 cJ) [a, b, d]])) W w3.drew [.blk f 56 #[.slice R L.length c, .map (some m)], .map m (encL strE (keysGo L 0)), .row (.slice R L.length c) 38 3 L.length (gcells L vs), .ro D (Ins D L vs), .ro TabD Tab, .blk g2 38 #[.int .i64 kind, .int .i64 lit, GV], .ro DI (fun w => IntsD DI w (.slice (some ⟨bI, oI, none⟩) 3 cJ) [a, b, d])]) (by omega) c12).mono ?_
    rintro _ w17 ⟨rfl, hb18⟩
    have O19 : Own (zone (foldE f m R c D L vs ++ [inE DI (.slice (some ⟨bI, oI, none⟩) 3 cJ) [a, b, d]])) W w17 [.blk g2 38 #[.int .i64 kind, .int .i64 lit, GV], .blk f 56 #[.slice R L.length c, .map (some m)], .map m (encL strE (keysGo L 0)), .row (.slice R L.length c) 38 3 L.length (gcells L vs), .ro D (Ins D L vs), .ro TabD Tab, .ro DI (fun w => IntsD DI w (.slice (some ⟨bI, oI, none⟩) 3 cJ) [a, b, d])] := O9.below hb18
    refine ⟨_, rfl, ?_⟩
    refine wl_val (v := .bool false) (fun ρ e => ex_assign (e _ _ rfl)) rfl rfl ?_
    refine wl_nil ?_
    refine xw_next K11 ?_
    refine cw_false rfl ?_
    refine cw_seq (fun FK20 K20 => ?_)
    refine cw_seq (fun FK21 K21 => ?_)
    refine cw_region ?_
    refine wl_val (v := .pointer (some ⟨f, 0, none⟩)) (fun ρ e => ex_move (e _ _ rfl)) rfl rfl ?_
    refine wl_val (v := .int .i64 a) (fun ρ e => ex_move (e _ _ rfl)) rfl rfl ?_
    by_cases c22 : kindAt L a = 0
    · skip
      refine wl_call (args := [.pointer (some ⟨f, 0, none⟩), .int .i64 a, .int .i64 0]) in_82 rfl rfl rfl ?_
      refine (is1 (f := f) (m := m) (R := R) (c := c) (D := D) (L := L) (vs := vs) (rest := [.blk g2 38 #[.int .i64 kind, .int .i64 lit, GV], .ro DI (fun w => IntsD DI w (.slice (some ⟨bI, oI, none⟩) 3 cJ) [a, b, d])]) (O19.re [1, 2, 3, 4, 5, 0, 6] rfl : Own (zone (foldE f m R c D L vs ++ [inE DI (.slice (some ⟨bI, oI, none⟩) 3 cJ) [a, b, d]])) W w17 [.blk f 56 #[.slice R L.length c, .map (some m)], .map m (encL strE (keysGo L 0)), .row (.slice R L.length c) 38 3 L.length (gcells L vs), .ro D (Ins D L vs), .ro TabD Tab, .blk g2 38 #[.int .i64 kind, .int .i64 lit, GV], .ro DI (fun w => IntsD DI w (.slice (some ⟨bI, oI, none⟩) 3 cJ) [a, b, d])]) (by omega) c22).mono ?_
      rintro _ w23 ⟨rfl, hb24⟩
      have O25 : Own (zone (foldE f m R c D L vs ++ [inE DI (.slice (some ⟨bI, oI, none⟩) 3 cJ) [a, b, d]])) W w23 [.blk g2 38 #[.int .i64 kind, .int .i64 lit, GV], .blk f 56 #[.slice R L.length c, .map (some m)], .map m (encL strE (keysGo L 0)), .row (.slice R L.length c) 38 3 L.length (gcells L vs), .ro D (Ins D L vs), .ro TabD Tab, .ro DI (fun w => IntsD DI w (.slice (some ⟨bI, oI, none⟩) 3 cJ) [a, b, d])] := O19.below hb24
      refine ⟨_, rfl, ?_⟩
      refine wl_val (v := .bool true) (fun ρ e => ex_assign (e _ _ rfl)) rfl rfl ?_
      refine wl_nil ?_
      refine xw_next K21 ?_
      refine cw_true rfl ?_
      refine cw_skip ?_
      refine xw_next K20 ?_
      refine cw_true rfl ?_
      refine cw_seq (fun FK26 K26 => ?_)
      refine cw_region ?_
      refine wl_val (v := .int .i64 d) (fun ρ e => ex_move (e _ _ rfl)) rfl rfl ?_
      refine wl_val (v := .int .i64 d) (fun ρ e => ex_assign (e _ _ rfl)) rfl rfl ?_
      refine wl_nil ?_
      refine xw_next K26 ?_
      refine cw_ret ?_
      refine xw_blockret ?_
      refine xw_past (by intro h; cases h) ?_
      refine xw_ret (v := .int .i64 d) (fun T hT => res1 rfl T _ (hT 6 _ rfl)) ?_
      exact FPost.eq (q' := (L, d)) ⟨_, _, _, _, rfl, (O25.re [1, 2, 3, 4, 5] rfl : Own (zone (foldE f m R c D L vs ++ [inE DI (.slice (some ⟨bI, oI, none⟩) 3 cJ) [a, b, d]])) W w23 [.blk f 56 #[.slice R L.length c, .map (some m)], .map m (encL strE (keysGo L 0)), .row (.slice R L.length c) 38 3 L.length (gcells L vs), .ro D (Ins D L vs), .ro TabD Tab])⟩ (by rw [chooseG, if_neg c12, if_pos (.inl c22)])
    · skip
      refine wl_call (args := [.pointer (some ⟨f, 0, none⟩), .int .i64 a, .int .i64 0]) in_82 rfl rfl rfl ?_
      refine (is0 (f := f) (m := m) (R := R) (c := c) (D := D) (L := L) (vs := vs) (rest := [.blk g2 38 #[.int .i64 kind, .int .i64 lit, GV], .ro DI (fun w => IntsD DI w (.slice (some ⟨bI, oI, none⟩) 3 cJ) [a, b, d])]) (O19.re [1, 2, 3, 4, 5, 0, 6] rfl : Own (zone (foldE f m R c D L vs ++ [inE DI (.slice (some ⟨bI, oI, none⟩) 3 cJ) [a, b, d]])) W w17 [.blk f 56 #[.slice R L.length c, .map (some m)], .map m (encL strE (keysGo L 0)), .row (.slice R L.length c) 38 3 L.length (gcells L vs), .ro D (Ins D L vs), .ro TabD Tab, .blk g2 38 #[.int .i64 kind, .int .i64 lit, GV], .ro DI (fun w => IntsD DI w (.slice (some ⟨bI, oI, none⟩) 3 cJ) [a, b, d])]) (by omega) c22).mono ?_
      rintro _ w27 ⟨rfl, hb28⟩
      have O29 : Own (zone (foldE f m R c D L vs ++ [inE DI (.slice (some ⟨bI, oI, none⟩) 3 cJ) [a, b, d]])) W w27 [.blk g2 38 #[.int .i64 kind, .int .i64 lit, GV], .blk f 56 #[.slice R L.length c, .map (some m)], .map m (encL strE (keysGo L 0)), .row (.slice R L.length c) 38 3 L.length (gcells L vs), .ro D (Ins D L vs), .ro TabD Tab, .ro DI (fun w => IntsD DI w (.slice (some ⟨bI, oI, none⟩) 3 cJ) [a, b, d])] := O19.below hb28
      refine ⟨_, rfl, ?_⟩
      refine wl_val (v := .bool false) (fun ρ e => ex_assign (e _ _ rfl)) rfl rfl ?_
      refine wl_nil ?_
      refine xw_next K21 ?_
      refine cw_false rfl ?_
      refine cw_region ?_
      refine wl_val (v := .int .i64 b) (fun ρ e => ex_move (e _ _ rfl)) rfl rfl ?_
      refine wl_val (v := .int .i64 d) (fun ρ e => ex_move (e _ _ rfl)) rfl rfl ?_
      by_cases c30 : b = d
      · skip
        refine wl_val (v := .bool true) (fun ρ e => ex_cmp (u := b) (v := d) (e _ _ rfl) (e _ _ rfl) (eql1 (by omega))) rfl rfl ?_
        refine wl_val (v := .bool true) (fun ρ e => ex_assign (e _ _ rfl)) rfl rfl ?_
        refine wl_nil ?_
        refine xw_next K20 ?_
        refine cw_true rfl ?_
        refine cw_seq (fun FK31 K31 => ?_)
        refine cw_region ?_
        refine wl_val (v := .int .i64 d) (fun ρ e => ex_move (e _ _ rfl)) rfl rfl ?_
        refine wl_val (v := .int .i64 d) (fun ρ e => ex_assign (e _ _ rfl)) rfl rfl ?_
        refine wl_nil ?_
        refine xw_next K31 ?_
        refine cw_ret ?_
        refine xw_blockret ?_
        refine xw_past (by intro h; cases h) ?_
        refine xw_ret (v := .int .i64 d) (fun T hT => res1 rfl T _ (hT 6 _ rfl)) ?_
        exact FPost.eq (q' := (L, d)) ⟨_, _, _, _, rfl, (O29.re [1, 2, 3, 4, 5] rfl : Own (zone (foldE f m R c D L vs ++ [inE DI (.slice (some ⟨bI, oI, none⟩) 3 cJ) [a, b, d]])) W w27 [.blk f 56 #[.slice R L.length c, .map (some m)], .map m (encL strE (keysGo L 0)), .row (.slice R L.length c) 38 3 L.length (gcells L vs), .ro D (Ins D L vs), .ro TabD Tab])⟩ (by rw [chooseG, if_neg c12, if_pos (.inr c30)])
      · skip
        refine wl_val (v := .bool false) (fun ρ e => ex_cmp (u := b) (v := d) (e _ _ rfl) (e _ _ rfl) (eql0 (by omega))) rfl rfl ?_
        refine wl_val (v := .bool false) (fun ρ e => ex_assign (e _ _ rfl)) rfl rfl ?_
        refine wl_nil ?_
        refine xw_next K20 ?_
        refine cw_false rfl ?_
        refine cw_seq (fun FK32 K32 => ?_)
        refine cw_region ?_
        refine wl_val (v := .pointer (some ⟨f, 0, none⟩)) (fun ρ e => ex_move (e _ _ rfl)) rfl rfl ?_
        refine wl_val (v := .int .i64 b) (fun ρ e => ex_move (e _ _ rfl)) rfl rfl ?_
        by_cases c33 : kindAt L b = 1
        · skip
          refine wl_call (args := [.pointer (some ⟨f, 0, none⟩), .int .i64 b, .int .i64 1]) in_82 rfl rfl rfl ?_
          refine (is1 (f := f) (m := m) (R := R) (c := c) (D := D) (L := L) (vs := vs) (rest := [.blk g2 38 #[.int .i64 kind, .int .i64 lit, GV], .ro DI (fun w => IntsD DI w (.slice (some ⟨bI, oI, none⟩) 3 cJ) [a, b, d])]) (O29.re [1, 2, 3, 4, 5, 0, 6] rfl : Own (zone (foldE f m R c D L vs ++ [inE DI (.slice (some ⟨bI, oI, none⟩) 3 cJ) [a, b, d]])) W w27 [.blk f 56 #[.slice R L.length c, .map (some m)], .map m (encL strE (keysGo L 0)), .row (.slice R L.length c) 38 3 L.length (gcells L vs), .ro D (Ins D L vs), .ro TabD Tab, .blk g2 38 #[.int .i64 kind, .int .i64 lit, GV], .ro DI (fun w => IntsD DI w (.slice (some ⟨bI, oI, none⟩) 3 cJ) [a, b, d])]) (by omega) c33).mono ?_
          rintro _ w34 ⟨rfl, hb35⟩
          have O36 : Own (zone (foldE f m R c D L vs ++ [inE DI (.slice (some ⟨bI, oI, none⟩) 3 cJ) [a, b, d]])) W w34 [.blk g2 38 #[.int .i64 kind, .int .i64 lit, GV], .blk f 56 #[.slice R L.length c, .map (some m)], .map m (encL strE (keysGo L 0)), .row (.slice R L.length c) 38 3 L.length (gcells L vs), .ro D (Ins D L vs), .ro TabD Tab, .ro DI (fun w => IntsD DI w (.slice (some ⟨bI, oI, none⟩) 3 cJ) [a, b, d])] := O29.below hb35
          refine ⟨_, rfl, ?_⟩
          refine wl_val (v := .bool true) (fun ρ e => ex_move (e _ _ rfl)) rfl rfl ?_
          refine wl_val (v := .pointer (some ⟨f, 0, none⟩)) (fun ρ e => ex_move (e _ _ rfl)) rfl rfl ?_
          refine wl_val (v := .int .i64 d) (fun ρ e => ex_move (e _ _ rfl)) rfl rfl ?_
          by_cases c37 : kindAt L d = 0
          · skip
            refine wl_call (args := [.pointer (some ⟨f, 0, none⟩), .int .i64 d, .int .i64 0]) in_82 rfl rfl rfl ?_
            refine (is1 (f := f) (m := m) (R := R) (c := c) (D := D) (L := L) (vs := vs) (rest := [.blk g2 38 #[.int .i64 kind, .int .i64 lit, GV], .ro DI (fun w => IntsD DI w (.slice (some ⟨bI, oI, none⟩) 3 cJ) [a, b, d])]) (O36.re [1, 2, 3, 4, 5, 0, 6] rfl : Own (zone (foldE f m R c D L vs ++ [inE DI (.slice (some ⟨bI, oI, none⟩) 3 cJ) [a, b, d]])) W w34 [.blk f 56 #[.slice R L.length c, .map (some m)], .map m (encL strE (keysGo L 0)), .row (.slice R L.length c) 38 3 L.length (gcells L vs), .ro D (Ins D L vs), .ro TabD Tab, .blk g2 38 #[.int .i64 kind, .int .i64 lit, GV], .ro DI (fun w => IntsD DI w (.slice (some ⟨bI, oI, none⟩) 3 cJ) [a, b, d])]) (by omega) c37).mono ?_
            rintro _ w38 ⟨rfl, hb39⟩
            have O40 : Own (zone (foldE f m R c D L vs ++ [inE DI (.slice (some ⟨bI, oI, none⟩) 3 cJ) [a, b, d]])) W w38 [.blk g2 38 #[.int .i64 kind, .int .i64 lit, GV], .blk f 56 #[.slice R L.length c, .map (some m)], .map m (encL strE (keysGo L 0)), .row (.slice R L.length c) 38 3 L.length (gcells L vs), .ro D (Ins D L vs), .ro TabD Tab, .ro DI (fun w => IntsD DI w (.slice (some ⟨bI, oI, none⟩) 3 cJ) [a, b, d])] := O36.below hb39
            refine ⟨_, rfl, ?_⟩
            refine wl_val (v := .bool true) (fun ρ e => ex_pick1 (e _ _ rfl) (e _ _ rfl)) rfl rfl ?_
            refine wl_val (v := .bool true) (fun ρ e => ex_assign (e _ _ rfl)) rfl rfl ?_
            refine wl_nil ?_
            refine xw_next K32 ?_
            refine cw_true rfl ?_
            refine cw_seq (fun FK41 K41 => ?_)
            refine cw_region ?_
            refine wl_val (v := .int .i64 a) (fun ρ e => ex_move (e _ _ rfl)) rfl rfl ?_
            refine wl_val (v := .int .i64 a) (fun ρ e => ex_assign (e _ _ rfl)) rfl rfl ?_
            refine wl_nil ?_
            refine xw_next K41 ?_
            refine cw_ret ?_
            refine xw_blockret ?_
            refine xw_past (by intro h; cases h) ?_
            refine xw_ret (v := .int .i64 a) (fun T hT => res1 rfl T _ (hT 6 _ rfl)) ?_
            exact FPost.eq (q' := (L, a)) ⟨_, _, _, _, rfl, (O40.re [1, 2, 3, 4, 5] rfl : Own (zone (foldE f m R c D L vs ++ [inE DI (.slice (some ⟨bI, oI, none⟩) 3 cJ) [a, b, d]])) W w38 [.blk f 56 #[.slice R L.length c, .map (some m)], .map m (encL strE (keysGo L 0)), .row (.slice R L.length c) 38 3 L.length (gcells L vs), .ro D (Ins D L vs), .ro TabD Tab])⟩ (by rw [chooseG, if_neg c12, if_neg (fun h => h.elim c22 c30), if_pos ⟨c33, c37⟩])
          · skip
            refine wl_call (args := [.pointer (some ⟨f, 0, none⟩), .int .i64 d, .int .i64 0]) in_82 rfl rfl rfl ?_
            refine (is0 (f := f) (m := m) (R := R) (c := c) (D := D) (L := L) (vs := vs) (rest := [.blk g2 38 #[.int .i64 kind, .int .i64 lit, GV], .ro DI (fun w => IntsD DI w (.slice (some ⟨bI, oI, none⟩) 3 cJ) [a, b, d])]) (O36.re [1, 2, 3, 4, 5, 0, 6] rfl : Own (zone (foldE f m R c D L vs ++ [inE DI (.slice (some ⟨bI, oI, none⟩) 3 cJ) [a, b, d]])) W w34 [.blk f 56 #[.slice R L.length c, .map (some m)], .map m (encL strE (keysGo L 0)), .row (.slice R L.length c) 38 3 L.length (gcells L vs), .ro D (Ins D L vs), .ro TabD Tab, .blk g2 38 #[.int .i64 kind, .int .i64 lit, GV], .ro DI (fun w => IntsD DI w (.slice (some ⟨bI, oI, none⟩) 3 cJ) [a, b, d])]) (by omega) c37).mono ?_
            rintro _ w42 ⟨rfl, hb43⟩
            have O44 : Own (zone (foldE f m R c D L vs ++ [inE DI (.slice (some ⟨bI, oI, none⟩) 3 cJ) [a, b, d]])) W w42 [.blk g2 38 #[.int .i64 kind, .int .i64 lit, GV], .blk f 56 #[.slice R L.length c, .map (some m)], .map m (encL strE (keysGo L 0)), .row (.slice R L.length c) 38 3 L.length (gcells L vs), .ro D (Ins D L vs), .ro TabD Tab, .ro DI (fun w => IntsD DI w (.slice (some ⟨bI, oI, none⟩) 3 cJ) [a, b, d])] := O36.below hb43
            refine ⟨_, rfl, ?_⟩
            refine wl_val (v := .bool false) (fun ρ e => ex_pick1 (e _ _ rfl) (e _ _ rfl)) rfl rfl ?_
            refine wl_val (v := .bool false) (fun ρ e => ex_assign (e _ _ rfl)) rfl rfl ?_
            refine wl_nil ?_
            refine xw_next K32 ?_
            refine cw_false rfl ?_
            refine cw_seq (fun FK45 K45 => ?_)
            refine cw_region ?_
            refine wl_val (v := .pointer (some ⟨f, 0, none⟩)) (fun ρ e => ex_move (e _ _ rfl)) rfl rfl ?_
            refine wl_val (v := .int .i64 b) (fun ρ e => ex_move (e _ _ rfl)) rfl rfl ?_
            by_cases c46 : kindAt L b = 0
            · skip
              refine wl_call (args := [.pointer (some ⟨f, 0, none⟩), .int .i64 b, .int .i64 0]) in_82 rfl rfl rfl ?_
              refine (is1 (f := f) (m := m) (R := R) (c := c) (D := D) (L := L) (vs := vs) (rest := [.blk g2 38 #[.int .i64 kind, .int .i64 lit, GV], .ro DI (fun w => IntsD DI w (.slice (some ⟨bI, oI, none⟩) 3 cJ) [a, b, d])]) (O44.re [1, 2, 3, 4, 5, 0, 6] rfl : Own (zone (foldE f m R c D L vs ++ [inE DI (.slice (some ⟨bI, oI, none⟩) 3 cJ) [a, b, d]])) W w42 [.blk f 56 #[.slice R L.length c, .map (some m)], .map m (encL strE (keysGo L 0)), .row (.slice R L.length c) 38 3 L.length (gcells L vs), .ro D (Ins D L vs), .ro TabD Tab, .blk g2 38 #[.int .i64 kind, .int .i64 lit, GV], .ro DI (fun w => IntsD DI w (.slice (some ⟨bI, oI, none⟩) 3 cJ) [a, b, d])]) (by omega) c46).mono ?_
              rintro _ w47 ⟨rfl, hb48⟩
              have O49 : Own (zone (foldE f m R c D L vs ++ [inE DI (.slice (some ⟨bI, oI, none⟩) 3 cJ) [a, b, d]])) W w47 [.blk g2 38 #[.int .i64 kind, .int .i64 lit, GV], .blk f 56 #[.slice R L.length c, .map (some m)], .map m (encL strE (keysGo L 0)), .row (.slice R L.length c) 38 3 L.length (gcells L vs), .ro D (Ins D L vs), .ro TabD Tab, .ro DI (fun w => IntsD DI w (.slice (some ⟨bI, oI, none⟩) 3 cJ) [a, b, d])] := O44.below hb48
              refine ⟨_, rfl, ?_⟩
              refine wl_val (v := .bool true) (fun ρ e => ex_move (e _ _ rfl)) rfl rfl ?_
              refine wl_val (v := .pointer (some ⟨f, 0, none⟩)) (fun ρ e => ex_move (e _ _ rfl)) rfl rfl ?_
              refine wl_val (v := .int .i64 d) (fun ρ e => ex_move (e _ _ rfl)) rfl rfl ?_
              by_cases c50 : kindAt L d = 1
              · skip
                refine wl_call (args := [.pointer (some ⟨f, 0, none⟩), .int .i64 d, .int .i64 1]) in_82 rfl rfl rfl ?_
                refine (is1 (f := f) (m := m) (R := R) (c := c) (D := D) (L := L) (vs := vs) (rest := [.blk g2 38 #[.int .i64 kind, .int .i64 lit, GV], .ro DI (fun w => IntsD DI w (.slice (some ⟨bI, oI, none⟩) 3 cJ) [a, b, d])]) (O49.re [1, 2, 3, 4, 5, 0, 6] rfl : Own (zone (foldE f m R c D L vs ++ [inE DI (.slice (some ⟨bI, oI, none⟩) 3 cJ) [a, b, d]])) W w47 [.blk f 56 #[.slice R L.length c, .map (some m)], .map m (encL strE (keysGo L 0)), .row (.slice R L.length c) 38 3 L.length (gcells L vs), .ro D (Ins D L vs), .ro TabD Tab, .blk g2 38 #[.int .i64 kind, .int .i64 lit, GV], .ro DI (fun w => IntsD DI w (.slice (some ⟨bI, oI, none⟩) 3 cJ) [a, b, d])]) (by omega) c50).mono ?_
                rintro _ w51 ⟨rfl, hb52⟩
                have O53 : Own (zone (foldE f m R c D L vs ++ [inE DI (.slice (some ⟨bI, oI, none⟩) 3 cJ) [a, b, d]])) W w51 [.blk g2 38 #[.int .i64 kind, .int .i64 lit, GV], .blk f 56 #[.slice R L.length c, .map (some m)], .map m (encL strE (keysGo L 0)), .row (.slice R L.length c) 38 3 L.length (gcells L vs), .ro D (Ins D L vs), .ro TabD Tab, .ro DI (fun w => IntsD DI w (.slice (some ⟨bI, oI, none⟩) 3 cJ) [a, b, d])] := O49.below hb52
                refine ⟨_, rfl, ?_⟩
                refine wl_val (v := .bool true) (fun ρ e => ex_pick1 (e _ _ rfl) (e _ _ rfl)) rfl rfl ?_
                refine wl_val (v := .bool true) (fun ρ e => ex_assign (e _ _ rfl)) rfl rfl ?_
                refine wl_nil ?_
                refine xw_next K45 ?_
                refine cw_true rfl ?_
                refine cw_seq (fun FK54 K54 => ?_)
                refine cw_region ?_
                refine wl_val (v := .pointer (some ⟨f, 0, none⟩)) (fun ρ e => ex_move (e _ _ rfl)) rfl rfl ?_
                refine wl_val (v := .int .i64 a) (fun ρ e => ex_move (e _ _ rfl)) rfl rfl ?_
                refine wl_call (args := [.pointer (some ⟨f, 0, none⟩), .int .i64 a]) in_81 rfl rfl rfl ?_
                refine (FPost.use (A := foldE f m R c D L vs) (rest := [.blk g2 38 #[.int .i64 kind, .int .i64 lit, GV], .ro DI (fun w => IntsD DI w (.slice (some ⟨bI, oI, none⟩) 3 cJ) [a, b, d])]) (O53.re [1, 2, 3, 4, 5, 0, 6] rfl : Own (zone (foldE f m R c D L vs ++ [inE DI (.slice (some ⟨bI, oI, none⟩) 3 cJ) [a, b, d]])) W w51 [.blk f 56 #[.slice R L.length c, .map (some m)], .map m (encL strE (keysGo L 0)), .row (.slice R L.length c) 38 3 L.length (gcells L vs), .ro D (Ins D L vs), .ro TabD Tab, .blk g2 38 #[.int .i64 kind, .int .i64 lit, GV], .ro DI (fun w => IntsD DI w (.slice (some ⟨bI, oI, none⟩) 3 cJ) [a, b, d])]) (not_ (Own.hand (A := foldE f m R c D L vs) (R := [.blk g2 38 #[.int .i64 kind, .int .i64 lit, GV], .ro DI (fun w => IntsD DI w (.slice (some ⟨bI, oI, none⟩) 3 cJ) [a, b, d])]) (O53.re [1, 2, 3, 4, 5, 0, 6] rfl : Own (zone (foldE f m R c D L vs ++ [inE DI (.slice (some ⟨bI, oI, none⟩) 3 cJ) [a, b, d]])) W w51 [.blk f 56 #[.slice R L.length c, .map (some m)], .map m (encL strE (keysGo L 0)), .row (.slice R L.length c) 38 3 L.length (gcells L vs), .ro D (Ins D L vs), .ro TabD Tab, .blk g2 38 #[.int .i64 kind, .int .i64 lit, GV], .ro DI (fun w => IntsD DI w (.slice (some ⟨bI, oI, none⟩) 3 cJ) [a, b, d])])) (by omega) ok hL)).mono ?_
                rintro _ w55 ⟨R56, c57, D58, vs59, rfl, O60⟩
                refine ⟨_, rfl, ?_⟩
                refine wl_val (v := .int .i64 ((notG L a).2)) (fun ρ e => ex_assign (e _ _ rfl)) rfl rfl ?_
                refine wl_nil ?_
                refine xw_next K54 ?_
                refine cw_ret ?_
                refine xw_blockret ?_
                refine xw_past (by intro h; cases h) ?_
                refine xw_ret (v := .int .i64 ((notG L a).2)) (fun T hT => res1 rfl T _ (hT 6 _ rfl)) ?_
                exact FPost.eq ⟨_, _, _, _, rfl, (O60.re [0, 1, 2, 3, 4] rfl : Own (zone (foldE f m R c D L vs ++ [inE DI (.slice (some ⟨bI, oI, none⟩) 3 cJ) [a, b, d]])) W w55 [.blk f 56 #[.slice R56 (((notG L a).1).length) c57, .map (some m)], .map m (encL strE (keysGo ((notG L a).1) 0)), .row (.slice R56 (((notG L a).1).length) c57) 38 3 (((notG L a).1).length) (gcells ((notG L a).1) vs59), .ro D58 (Ins D58 ((notG L a).1) vs59), .ro TabD Tab])⟩ (by rw [chooseG, if_neg c12, if_neg (fun h => h.elim c22 c30), if_neg (fun h => c37 h.2), if_pos ⟨c46, c50⟩])
              · skip
                refine wl_call (args := [.pointer (some ⟨f, 0, none⟩), .int .i64 d, .int .i64 1]) in_82 rfl rfl rfl ?_
                refine (is0 (f := f) (m := m) (R := R) (c := c) (D := D) (L := L) (vs := vs) (rest := [.blk g2 38 #[.int .i64 kind, .int .i64 lit, GV], .ro DI (fun w => IntsD DI w (.slice (some ⟨bI, oI, none⟩) 3 cJ) [a, b, d])]) (O49.re [1, 2, 3, 4, 5, 0, 6] rfl : Own (zone (foldE f m R c D L vs ++ [inE DI (.slice (some ⟨bI, oI, none⟩) 3 cJ) [a, b, d]])) W w47 [.blk f 56 #[.slice R L.length c, .map (some m)], .map m (encL strE (keysGo L 0)), .row (.slice R L.length c) 38 3 L.length (gcells L vs), .ro D (Ins D L vs), .ro TabD Tab, .blk g2 38 #[.int .i64 kind, .int .i64 lit, GV], .ro DI (fun w => IntsD DI w (.slice (some ⟨bI, oI, none⟩) 3 cJ) [a, b, d])]) (by omega) c50).mono ?_
                rintro _ w61 ⟨rfl, hb62⟩
                have O63 : Own (zone (foldE f m R c D L vs ++ [inE DI (.slice (some ⟨bI, oI, none⟩) 3 cJ) [a, b, d]])) W w61 [.blk g2 38 #[.int .i64 kind, .int .i64 lit, GV], .blk f 56 #[.slice R L.length c, .map (some m)], .map m (encL strE (keysGo L 0)), .row (.slice R L.length c) 38 3 L.length (gcells L vs), .ro D (Ins D L vs), .ro TabD Tab, .ro DI (fun w => IntsD DI w (.slice (some ⟨bI, oI, none⟩) 3 cJ) [a, b, d])] := O49.below hb62
                refine ⟨_, rfl, ?_⟩
                refine wl_val (v := .bool false) (fun ρ e => ex_pick1 (e _ _ rfl) (e _ _ rfl)) rfl rfl ?_
                refine wl_val (v := .bool false) (fun ρ e => ex_assign (e _ _ rfl)) rfl rfl ?_
                refine wl_nil ?_
                refine xw_next K45 ?_
                refine cw_false rfl ?_
                refine cw_skip ?_
                refine xw_block ?_
                refine xw_next K10 ?_
                refine cw_seq (fun FK64 K64 => ?_)
                refine cw_region ?_
                refine wl_val (v := .pointer (some ⟨f, 0, none⟩)) (fun ρ e => ex_move (e _ _ rfl)) rfl rfl ?_
                refine wl_val (v := .int .i64 a) (fun ρ e => ex_move (e _ _ rfl)) rfl rfl ?_
                refine wl_val (v := .int .i64 b) (fun ρ e => ex_move (e _ _ rfl)) rfl rfl ?_
                refine wl_val (v := .int .i64 d) (fun ρ e => ex_move (e _ _ rfl)) rfl rfl ?_
                obtain ⟨g65, w66, r67, O68, hg69, hs70⟩ := own_slice O63 el36 ze3 3 [(0, .int .i64 a), (1, .int .i64 b), (2, .int .i64 d)] (cs := #[.int .i64 a, .int .i64 b, .int .i64 d]) (by decide) (by kernel_rfl)
                refine wl_val (v := .slice (some ⟨g65, 0, none⟩) 3 3) (fun ρ e => r67 ρ _ _ _ _ _ _ (e.parts rfl)) rfl rfl ?_
                refine wl_val (v := .agg #[.int .i64 8, .int .i64 0, .slice (some ⟨g65, 0, none⟩) 3 3]) (fun ρ e => ex_build (cells := #[.int .i64 8, .int .i64 0, .slice (some ⟨g65, 0, none⟩) 3 3]) st38 (e.parts rfl) rfl) rfl rfl ?_
                refine wl_call (args := [.pointer (some ⟨f, 0, none⟩), .agg #[.int .i64 8, .int .i64 0, .slice (some ⟨g65, 0, none⟩) 3 3]]) in_80 rfl rfl rfl ?_
                have O71 : Own (zone (foldE f m R c D L vs ++ [inE DI (.slice (some ⟨bI, oI, none⟩) 3 cJ) [a, b, d]])) W w66 [.ro (fun k => k = g65) (fun w => IntsD (fun k => k = g65) w (.slice (some ⟨g65, 0, none⟩) 3 3) ([a, b, d])), .blk g2 38 #[.int .i64 kind, .int .i64 lit, GV], .blk f 56 #[.slice R L.length c, .map (some m)], .map m (encL strE (keysGo L 0)), .row (.slice R L.length c) 38 3 L.length (gcells L vs), .ro D (Ins D L vs), .ro TabD Tab, .ro DI (fun w => IntsD DI w (.slice (some ⟨bI, oI, none⟩) 3 cJ) [a, b, d])] := Own.blkin (l := [a, b, d]) O68 rfl rfl (by decide)
                refine (call_find (f := f) (m := m) (R := R) (c := c) (D := D) (L := L) (vs := vs) (D2 := (fun k => k = g65)) (V := .slice (some ⟨g65, 0, none⟩) 3 3) (g := ⟨8, 0, [a, b, d]⟩) (rest := [.blk g2 38 #[.int .i64 kind, .int .i64 lit, GV], .ro DI (fun w => IntsD DI w (.slice (some ⟨bI, oI, none⟩) 3 cJ) [a, b, d])]) (O71.re [2, 3, 4, 5, 6, 0, 1, 7] rfl : Own (zone (foldE f m R c D L vs ++ [inE DI (.slice (some ⟨bI, oI, none⟩) 3 cJ) [a, b, d]])) W w66 [.blk f 56 #[.slice R L.length c, .map (some m)], .map m (encL strE (keysGo L 0)), .row (.slice R L.length c) 38 3 L.length (gcells L vs), .ro D (Ins D L vs), .ro TabD Tab, .ro (fun k => k = g65) (fun w => IntsD (fun k => k = g65) w (.slice (some ⟨g65, 0, none⟩) 3 3) ([a, b, d])), .blk g2 38 #[.int .i64 kind, .int .i64 lit, GV], .ro DI (fun w => IntsD DI w (.slice (some ⟨bI, oI, none⟩) 3 cJ) [a, b, d])]) (small_n (smallI_lit 8 rfl) (by simp only [List.mem_cons, List.not_mem_nil, or_false, forall_eq_or_imp, forall_eq, smallI]; omega) (Nat.le_of_ble_eq_true rfl)) hL).mono ?_
                rintro _ w72 ⟨R73, c74, D75, vs76, rfl, O77⟩
                refine ⟨_, rfl, ?_⟩
                refine wl_val (v := .int .i64 ((findG L ⟨8, 0, [a, b, d]⟩).2)) (fun ρ e => ex_assign (e _ _ rfl)) rfl rfl ?_
                refine wl_nil ?_
                refine xw_next K64 ?_
                refine cw_ret ?_
                refine xw_ret (v := .int .i64 ((findG L ⟨8, 0, [a, b, d]⟩).2)) (fun T hT => res1 rfl T _ (hT 6 _ rfl)) ?_
                exact FPost.eq ⟨_, _, _, _, rfl, (O77.re [0, 1, 2, 3, 4] rfl : Own (zone (foldE f m R c D L vs ++ [inE DI (.slice (some ⟨bI, oI, none⟩) 3 cJ) [a, b, d]])) W w72 [.blk f 56 #[.slice R73 (((findG L ⟨8, 0, [a, b, d]⟩).1).length) c74, .map (some m)], .map m (encL strE (keysGo ((findG L ⟨8, 0, [a, b, d]⟩).1) 0)), .row (.slice R73 (((findG L ⟨8, 0, [a, b, d]⟩).1).length) c74) 38 3 (((findG L ⟨8, 0, [a, b, d]⟩).1).length) (gcells ((findG L ⟨8, 0, [a, b, d]⟩).1) vs76), .ro D75 (Ins D75 ((findG L ⟨8, 0, [a, b, d]⟩).1) vs76), .ro TabD Tab])⟩ (by rw [chooseG, if_neg c12, if_neg (fun h => h.elim c22 c30), if_neg (fun h => c37 h.2), if_neg (fun h => c50 h.2)])
            · skip
              refine wl_call (args := [.pointer (some ⟨f, 0, none⟩), .int .i64 b, .int .i64 0]) in_82 rfl rfl rfl ?_
              refine (is0 (f := f) (m := m) (R := R) (c := c) (D := D) (L := L) (vs := vs) (rest := [.blk g2 38 #[.int .i64 kind, .int .i64 lit, GV], .ro DI (fun w => IntsD DI w (.slice (some ⟨bI, oI, none⟩) 3 cJ) [a, b, d])]) (O44.re [1, 2, 3, 4, 5, 0, 6] rfl : Own (zone (foldE f m R c D L vs ++ [inE DI (.slice (some ⟨bI, oI, none⟩) 3 cJ) [a, b, d]])) W w42 [.blk f 56 #[.slice R L.length c, .map (some m)], .map m (encL strE (keysGo L 0)), .row (.slice R L.length c) 38 3 L.length (gcells L vs), .ro D (Ins D L vs), .ro TabD Tab, .blk g2 38 #[.int .i64 kind, .int .i64 lit, GV], .ro DI (fun w => IntsD DI w (.slice (some ⟨bI, oI, none⟩) 3 cJ) [a, b, d])]) (by omega) c46).mono ?_
              rintro _ w78 ⟨rfl, hb79⟩
              have O80 : Own (zone (foldE f m R c D L vs ++ [inE DI (.slice (some ⟨bI, oI, none⟩) 3 cJ) [a, b, d]])) W w78 [.blk g2 38 #[.int .i64 kind, .int .i64 lit, GV], .blk f 56 #[.slice R L.length c, .map (some m)], .map m (encL strE (keysGo L 0)), .row (.slice R L.length c) 38 3 L.length (gcells L vs), .ro D (Ins D L vs), .ro TabD Tab, .ro DI (fun w => IntsD DI w (.slice (some ⟨bI, oI, none⟩) 3 cJ) [a, b, d])] := O44.below hb79
              refine ⟨_, rfl, ?_⟩
              refine wl_val (v := .bool false) (fun ρ e => ex_move (e _ _ rfl)) rfl rfl ?_
              refine wl_skip rfl rfl ?_
              refine wl_skip rfl rfl ?_
              refine wl_skip rfl rfl ?_
              refine wl_val (v := .bool false) (fun ρ e => ex_pick0 (e _ _ rfl) (e _ _ rfl)) rfl rfl ?_
              refine wl_val (v := .bool false) (fun ρ e => ex_assign (e _ _ rfl)) rfl rfl ?_
              refine wl_nil ?_
              refine xw_next K45 ?_
              refine cw_false rfl ?_
              refine cw_skip ?_
              refine xw_block ?_
              refine xw_next K10 ?_
              refine cw_seq (fun FK81 K81 => ?_)
              refine cw_region ?_
              refine wl_val (v := .pointer (some ⟨f, 0, none⟩)) (fun ρ e => ex_move (e _ _ rfl)) rfl rfl ?_
              refine wl_val (v := .int .i64 a) (fun ρ e => ex_move (e _ _ rfl)) rfl rfl ?_
              refine wl_val (v := .int .i64 b) (fun ρ e => ex_move (e _ _ rfl)) rfl rfl ?_
              refine wl_val (v := .int .i64 d) (fun ρ e => ex_move (e _ _ rfl)) rfl rfl ?_
              obtain ⟨g82, w83, r84, O85, hg86, hs87⟩ := own_slice O80 el36 ze3 3 [(0, .int .i64 a), (1, .int .i64 b), (2, .int .i64 d)] (cs := #[.int .i64 a, .int .i64 b, .int .i64 d]) (by decide) (by kernel_rfl)
              refine wl_val (v := .slice (some ⟨g82, 0, none⟩) 3 3) (fun ρ e => r84 ρ _ _ _ _ _ _ (e.parts rfl)) rfl rfl ?_
              refine wl_val (v := .agg #[.int .i64 8, .int .i64 0, .slice (some ⟨g82, 0, none⟩) 3 3]) (fun ρ e => ex_build (cells := #[.int .i64 8, .int .i64 0, .slice (some ⟨g82, 0, none⟩) 3 3]) st38 (e.parts rfl) rfl) rfl rfl ?_
              refine wl_call (args := [.pointer (some ⟨f, 0, none⟩), .agg #[.int .i64 8, .int .i64 0, .slice (some ⟨g82, 0, none⟩) 3 3]]) in_80 rfl rfl rfl ?_
              have O88 : Own (zone (foldE f m R c D L vs ++ [inE DI (.slice (some ⟨bI, oI, none⟩) 3 cJ) [a, b, d]])) W w83 [.ro (fun k => k = g82) (fun w => IntsD (fun k => k = g82) w (.slice (some ⟨g82, 0, none⟩) 3 3) ([a, b, d])), .blk g2 38 #[.int .i64 kind, .int .i64 lit, GV], .blk f 56 #[.slice R L.length c, .map (some m)], .map m (encL strE (keysGo L 0)), .row (.slice R L.length c) 38 3 L.length (gcells L vs), .ro D (Ins D L vs), .ro TabD Tab, .ro DI (fun w => IntsD DI w (.slice (some ⟨bI, oI, none⟩) 3 cJ) [a, b, d])] := Own.blkin (l := [a, b, d]) O85 rfl rfl (by decide)
              refine (call_find (f := f) (m := m) (R := R) (c := c) (D := D) (L := L) (vs := vs) (D2 := (fun k => k = g82)) (V := .slice (some ⟨g82, 0, none⟩) 3 3) (g := ⟨8, 0, [a, b, d]⟩) (rest := [.blk g2 38 #[.int .i64 kind, .int .i64 lit, GV], .ro DI (fun w => IntsD DI w (.slice (some ⟨bI, oI, none⟩) 3 cJ) [a, b, d])]) (O88.re [2, 3, 4, 5, 6, 0, 1, 7] rfl : Own (zone (foldE f m R c D L vs ++ [inE DI (.slice (some ⟨bI, oI, none⟩) 3 cJ) [a, b, d]])) W w83 [.blk f 56 #[.slice R L.length c, .map (some m)], .map m (encL strE (keysGo L 0)), .row (.slice R L.length c) 38 3 L.length (gcells L vs), .ro D (Ins D L vs), .ro TabD Tab, .ro (fun k => k = g82) (fun w => IntsD (fun k => k = g82) w (.slice (some ⟨g82, 0, none⟩) 3 3) ([a, b, d])), .blk g2 38 #[.int .i64 kind, .int .i64 lit, GV], .ro DI (fun w => IntsD DI w (.slice (some ⟨bI, oI, none⟩) 3 cJ) [a, b, d])]) (small_n (smallI_lit 8 rfl) (by simp only [List.mem_cons, List.not_mem_nil, or_false, forall_eq_or_imp, forall_eq, smallI]; omega) (Nat.le_of_ble_eq_true rfl)) hL).mono ?_
              rintro _ w89 ⟨R90, c91, D92, vs93, rfl, O94⟩
              refine ⟨_, rfl, ?_⟩
              refine wl_val (v := .int .i64 ((findG L ⟨8, 0, [a, b, d]⟩).2)) (fun ρ e => ex_assign (e _ _ rfl)) rfl rfl ?_
              refine wl_nil ?_
              refine xw_next K81 ?_
              refine cw_ret ?_
              refine xw_ret (v := .int .i64 ((findG L ⟨8, 0, [a, b, d]⟩).2)) (fun T hT => res1 rfl T _ (hT 6 _ rfl)) ?_
              exact FPost.eq ⟨_, _, _, _, rfl, (O94.re [0, 1, 2, 3, 4] rfl : Own (zone (foldE f m R c D L vs ++ [inE DI (.slice (some ⟨bI, oI, none⟩) 3 cJ) [a, b, d]])) W w89 [.blk f 56 #[.slice R90 (((findG L ⟨8, 0, [a, b, d]⟩).1).length) c91, .map (some m)], .map m (encL strE (keysGo ((findG L ⟨8, 0, [a, b, d]⟩).1) 0)), .row (.slice R90 (((findG L ⟨8, 0, [a, b, d]⟩).1).length) c91) 38 3 (((findG L ⟨8, 0, [a, b, d]⟩).1).length) (gcells ((findG L ⟨8, 0, [a, b, d]⟩).1) vs93), .ro D92 (Ins D92 ((findG L ⟨8, 0, [a, b, d]⟩).1) vs93), .ro TabD Tab])⟩ (by rw [chooseG, if_neg c12, if_neg (fun h => h.elim c22 c30), if_neg (fun h => c37 h.2), if_neg (fun h => c46 h.1)])
        · skip
          refine wl_call (args := [.pointer (some ⟨f, 0, none⟩), .int .i64 b, .int .i64 1]) in_82 rfl rfl rfl ?_
          refine (is0 (f := f) (m := m) (R := R) (c := c) (D := D) (L := L) (vs := vs) (rest := [.blk g2 38 #[.int .i64 kind, .int .i64 lit, GV], .ro DI (fun w => IntsD DI w (.slice (some ⟨bI, oI, none⟩) 3 cJ) [a, b, d])]) (O29.re [1, 2, 3, 4, 5, 0, 6] rfl : Own (zone (foldE f m R c D L vs ++ [inE DI (.slice (some ⟨bI, oI, none⟩) 3 cJ) [a, b, d]])) W w27 [.blk f 56 #[.slice R L.length c, .map (some m)], .map m (encL strE (keysGo L 0)), .row (.slice R L.length c) 38 3 L.length (gcells L vs), .ro D (Ins D L vs), .ro TabD Tab, .blk g2 38 #[.int .i64 kind, .int .i64 lit, GV], .ro DI (fun w => IntsD DI w (.slice (some ⟨bI, oI, none⟩) 3 cJ) [a, b, d])]) (by omega) c33).mono ?_
          rintro _ w95 ⟨rfl, hb96⟩
          have O97 : Own (zone (foldE f m R c D L vs ++ [inE DI (.slice (some ⟨bI, oI, none⟩) 3 cJ) [a, b, d]])) W w95 [.blk g2 38 #[.int .i64 kind, .int .i64 lit, GV], .blk f 56 #[.slice R L.length c, .map (some m)], .map m (encL strE (keysGo L 0)), .row (.slice R L.length c) 38 3 L.length (gcells L vs), .ro D (Ins D L vs), .ro TabD Tab, .ro DI (fun w => IntsD DI w (.slice (some ⟨bI, oI, none⟩) 3 cJ) [a, b, d])] := O29.below hb96
          refine ⟨_, rfl, ?_⟩
          refine wl_val (v := .bool false) (fun ρ e => ex_move (e _ _ rfl)) rfl rfl ?_
          refine wl_skip rfl rfl ?_
          refine wl_skip rfl rfl ?_
          refine wl_skip rfl rfl ?_
          refine wl_val (v := .bool false) (fun ρ e => ex_pick0 (e _ _ rfl) (e _ _ rfl)) rfl rfl ?_
          refine wl_val (v := .bool false) (fun ρ e => ex_assign (e _ _ rfl)) rfl rfl ?_
          refine wl_nil ?_
          refine xw_next K32 ?_
          refine cw_false rfl ?_
          refine cw_seq (fun FK98 K98 => ?_)
          refine cw_region ?_
          refine wl_val (v := .pointer (some ⟨f, 0, none⟩)) (fun ρ e => ex_move (e _ _ rfl)) rfl rfl ?_
          refine wl_val (v := .int .i64 b) (fun ρ e => ex_move (e _ _ rfl)) rfl rfl ?_
          by_cases c99 : kindAt L b = 0
          · skip
            refine wl_call (args := [.pointer (some ⟨f, 0, none⟩), .int .i64 b, .int .i64 0]) in_82 rfl rfl rfl ?_
            refine (is1 (f := f) (m := m) (R := R) (c := c) (D := D) (L := L) (vs := vs) (rest := [.blk g2 38 #[.int .i64 kind, .int .i64 lit, GV], .ro DI (fun w => IntsD DI w (.slice (some ⟨bI, oI, none⟩) 3 cJ) [a, b, d])]) (O97.re [1, 2, 3, 4, 5, 0, 6] rfl : Own (zone (foldE f m R c D L vs ++ [inE DI (.slice (some ⟨bI, oI, none⟩) 3 cJ) [a, b, d]])) W w95 [.blk f 56 #[.slice R L.length c, .map (some m)], .map m (encL strE (keysGo L 0)), .row (.slice R L.length c) 38 3 L.length (gcells L vs), .ro D (Ins D L vs), .ro TabD Tab, .blk g2 38 #[.int .i64 kind, .int .i64 lit, GV], .ro DI (fun w => IntsD DI w (.slice (some ⟨bI, oI, none⟩) 3 cJ) [a, b, d])]) (by omega) c99).mono ?_
            rintro _ w100 ⟨rfl, hb101⟩
            have O102 : Own (zone (foldE f m R c D L vs ++ [inE DI (.slice (some ⟨bI, oI, none⟩) 3 cJ) [a, b, d]])) W w100 [.blk g2 38 #[.int .i64 kind, .int .i64 lit, GV], .blk f 56 #[.slice R L.length c, .map (some m)], .map m (encL strE (keysGo L 0)), .row (.slice R L.length c) 38 3 L.length (gcells L vs), .ro D (Ins D L vs), .ro TabD Tab, .ro DI (fun w => IntsD DI w (.slice (some ⟨bI, oI, none⟩) 3 cJ) [a, b, d])] := O97.below hb101
            refine ⟨_, rfl, ?_⟩
            refine wl_val (v := .bool true) (fun ρ e => ex_move (e _ _ rfl)) rfl rfl ?_
            refine wl_val (v := .pointer (some ⟨f, 0, none⟩)) (fun ρ e => ex_move (e _ _ rfl)) rfl rfl ?_
            refine wl_val (v := .int .i64 d) (fun ρ e => ex_move (e _ _ rfl)) rfl rfl ?_
            by_cases c103 : kindAt L d = 1
            · skip
              refine wl_call (args := [.pointer (some ⟨f, 0, none⟩), .int .i64 d, .int .i64 1]) in_82 rfl rfl rfl ?_
              refine (is1 (f := f) (m := m) (R := R) (c := c) (D := D) (L := L) (vs := vs) (rest := [.blk g2 38 #[.int .i64 kind, .int .i64 lit, GV], .ro DI (fun w => IntsD DI w (.slice (some ⟨bI, oI, none⟩) 3 cJ) [a, b, d])]) (O102.re [1, 2, 3, 4, 5, 0, 6] rfl : Own (zone (foldE f m R c D L vs ++ [inE DI (.slice (some ⟨bI, oI, none⟩) 3 cJ) [a, b, d]])) W w100 [.blk f 56 #[.slice R L.length c, .map (some m)], .map m (encL strE (keysGo L 0)), .row (.slice R L.length c) 38 3 L.length (gcells L vs), .ro D (Ins D L vs), .ro TabD Tab, .blk g2 38 #[.int .i64 kind, .int .i64 lit, GV], .ro DI (fun w => IntsD DI w (.slice (some ⟨bI, oI, none⟩) 3 cJ) [a, b, d])]) (by omega) c103).mono ?_
              rintro _ w104 ⟨rfl, hb105⟩
              have O106 : Own (zone (foldE f m R c D L vs ++ [inE DI (.slice (some ⟨bI, oI, none⟩) 3 cJ) [a, b, d]])) W w104 [.blk g2 38 #[.int .i64 kind, .int .i64 lit, GV], .blk f 56 #[.slice R L.length c, .map (some m)], .map m (encL strE (keysGo L 0)), .row (.slice R L.length c) 38 3 L.length (gcells L vs), .ro D (Ins D L vs), .ro TabD Tab, .ro DI (fun w => IntsD DI w (.slice (some ⟨bI, oI, none⟩) 3 cJ) [a, b, d])] := O102.below hb105
              refine ⟨_, rfl, ?_⟩
              refine wl_val (v := .bool true) (fun ρ e => ex_pick1 (e _ _ rfl) (e _ _ rfl)) rfl rfl ?_
              refine wl_val (v := .bool true) (fun ρ e => ex_assign (e _ _ rfl)) rfl rfl ?_
              refine wl_nil ?_
              refine xw_next K98 ?_
              refine cw_true rfl ?_
              refine cw_seq (fun FK107 K107 => ?_)
              refine cw_region ?_
              refine wl_val (v := .pointer (some ⟨f, 0, none⟩)) (fun ρ e => ex_move (e _ _ rfl)) rfl rfl ?_
              refine wl_val (v := .int .i64 a) (fun ρ e => ex_move (e _ _ rfl)) rfl rfl ?_
              refine wl_call (args := [.pointer (some ⟨f, 0, none⟩), .int .i64 a]) in_81 rfl rfl rfl ?_
              refine (FPost.use (A := foldE f m R c D L vs) (rest := [.blk g2 38 #[.int .i64 kind, .int .i64 lit, GV], .ro DI (fun w => IntsD DI w (.slice (some ⟨bI, oI, none⟩) 3 cJ) [a, b, d])]) (O106.re [1, 2, 3, 4, 5, 0, 6] rfl : Own (zone (foldE f m R c D L vs ++ [inE DI (.slice (some ⟨bI, oI, none⟩) 3 cJ) [a, b, d]])) W w104 [.blk f 56 #[.slice R L.length c, .map (some m)], .map m (encL strE (keysGo L 0)), .row (.slice R L.length c) 38 3 L.length (gcells L vs), .ro D (Ins D L vs), .ro TabD Tab, .blk g2 38 #[.int .i64 kind, .int .i64 lit, GV], .ro DI (fun w => IntsD DI w (.slice (some ⟨bI, oI, none⟩) 3 cJ) [a, b, d])]) (not_ (Own.hand (A := foldE f m R c D L vs) (R := [.blk g2 38 #[.int .i64 kind, .int .i64 lit, GV], .ro DI (fun w => IntsD DI w (.slice (some ⟨bI, oI, none⟩) 3 cJ) [a, b, d])]) (O106.re [1, 2, 3, 4, 5, 0, 6] rfl : Own (zone (foldE f m R c D L vs ++ [inE DI (.slice (some ⟨bI, oI, none⟩) 3 cJ) [a, b, d]])) W w104 [.blk f 56 #[.slice R L.length c, .map (some m)], .map m (encL strE (keysGo L 0)), .row (.slice R L.length c) 38 3 L.length (gcells L vs), .ro D (Ins D L vs), .ro TabD Tab, .blk g2 38 #[.int .i64 kind, .int .i64 lit, GV], .ro DI (fun w => IntsD DI w (.slice (some ⟨bI, oI, none⟩) 3 cJ) [a, b, d])])) (by omega) ok hL)).mono ?_
              rintro _ w108 ⟨R109, c110, D111, vs112, rfl, O113⟩
              refine ⟨_, rfl, ?_⟩
              refine wl_val (v := .int .i64 ((notG L a).2)) (fun ρ e => ex_assign (e _ _ rfl)) rfl rfl ?_
              refine wl_nil ?_
              refine xw_next K107 ?_
              refine cw_ret ?_
              refine xw_blockret ?_
              refine xw_past (by intro h; cases h) ?_
              refine xw_ret (v := .int .i64 ((notG L a).2)) (fun T hT => res1 rfl T _ (hT 6 _ rfl)) ?_
              exact FPost.eq ⟨_, _, _, _, rfl, (O113.re [0, 1, 2, 3, 4] rfl : Own (zone (foldE f m R c D L vs ++ [inE DI (.slice (some ⟨bI, oI, none⟩) 3 cJ) [a, b, d]])) W w108 [.blk f 56 #[.slice R109 (((notG L a).1).length) c110, .map (some m)], .map m (encL strE (keysGo ((notG L a).1) 0)), .row (.slice R109 (((notG L a).1).length) c110) 38 3 (((notG L a).1).length) (gcells ((notG L a).1) vs112), .ro D111 (Ins D111 ((notG L a).1) vs112), .ro TabD Tab])⟩ (by rw [chooseG, if_neg c12, if_neg (fun h => h.elim c22 c30), if_neg (fun h => c33 h.1), if_pos ⟨c99, c103⟩])
            · skip
              refine wl_call (args := [.pointer (some ⟨f, 0, none⟩), .int .i64 d, .int .i64 1]) in_82 rfl rfl rfl ?_
              refine (is0 (f := f) (m := m) (R := R) (c := c) (D := D) (L := L) (vs := vs) (rest := [.blk g2 38 #[.int .i64 kind, .int .i64 lit, GV], .ro DI (fun w => IntsD DI w (.slice (some ⟨bI, oI, none⟩) 3 cJ) [a, b, d])]) (O102.re [1, 2, 3, 4, 5, 0, 6] rfl : Own (zone (foldE f m R c D L vs ++ [inE DI (.slice (some ⟨bI, oI, none⟩) 3 cJ) [a, b, d]])) W w100 [.blk f 56 #[.slice R L.length c, .map (some m)], .map m (encL strE (keysGo L 0)), .row (.slice R L.length c) 38 3 L.length (gcells L vs), .ro D (Ins D L vs), .ro TabD Tab, .blk g2 38 #[.int .i64 kind, .int .i64 lit, GV], .ro DI (fun w => IntsD DI w (.slice (some ⟨bI, oI, none⟩) 3 cJ) [a, b, d])]) (by omega) c103).mono ?_
              rintro _ w114 ⟨rfl, hb115⟩
              have O116 : Own (zone (foldE f m R c D L vs ++ [inE DI (.slice (some ⟨bI, oI, none⟩) 3 cJ) [a, b, d]])) W w114 [.blk g2 38 #[.int .i64 kind, .int .i64 lit, GV], .blk f 56 #[.slice R L.length c, .map (some m)], .map m (encL strE (keysGo L 0)), .row (.slice R L.length c) 38 3 L.length (gcells L vs), .ro D (Ins D L vs), .ro TabD Tab, .ro DI (fun w => IntsD DI w (.slice (some ⟨bI, oI, none⟩) 3 cJ) [a, b, d])] := O102.below hb115
              refine ⟨_, rfl, ?_⟩
              refine wl_val (v := .bool false) (fun ρ e => ex_pick1 (e _ _ rfl) (e _ _ rfl)) rfl rfl ?_
              refine wl_val (v := .bool false) (fun ρ e => ex_assign (e _ _ rfl)) rfl rfl ?_
              refine wl_nil ?_
              refine xw_next K98 ?_
              refine cw_false rfl ?_
              refine cw_skip ?_
              refine xw_block ?_
              refine xw_next K10 ?_
              refine cw_seq (fun FK117 K117 => ?_)
              refine cw_region ?_
              refine wl_val (v := .pointer (some ⟨f, 0, none⟩)) (fun ρ e => ex_move (e _ _ rfl)) rfl rfl ?_
              refine wl_val (v := .int .i64 a) (fun ρ e => ex_move (e _ _ rfl)) rfl rfl ?_
              refine wl_val (v := .int .i64 b) (fun ρ e => ex_move (e _ _ rfl)) rfl rfl ?_
              refine wl_val (v := .int .i64 d) (fun ρ e => ex_move (e _ _ rfl)) rfl rfl ?_
              obtain ⟨g118, w119, r120, O121, hg122, hs123⟩ := own_slice O116 el36 ze3 3 [(0, .int .i64 a), (1, .int .i64 b), (2, .int .i64 d)] (cs := #[.int .i64 a, .int .i64 b, .int .i64 d]) (by decide) (by kernel_rfl)
              refine wl_val (v := .slice (some ⟨g118, 0, none⟩) 3 3) (fun ρ e => r120 ρ _ _ _ _ _ _ (e.parts rfl)) rfl rfl ?_
              refine wl_val (v := .agg #[.int .i64 8, .int .i64 0, .slice (some ⟨g118, 0, none⟩) 3 3]) (fun ρ e => ex_build (cells := #[.int .i64 8, .int .i64 0, .slice (some ⟨g118, 0, none⟩) 3 3]) st38 (e.parts rfl) rfl) rfl rfl ?_
              refine wl_call (args := [.pointer (some ⟨f, 0, none⟩), .agg #[.int .i64 8, .int .i64 0, .slice (some ⟨g118, 0, none⟩) 3 3]]) in_80 rfl rfl rfl ?_
              have O124 : Own (zone (foldE f m R c D L vs ++ [inE DI (.slice (some ⟨bI, oI, none⟩) 3 cJ) [a, b, d]])) W w119 [.ro (fun k => k = g118) (fun w => IntsD (fun k => k = g118) w (.slice (some ⟨g118, 0, none⟩) 3 3) ([a, b, d])), .blk g2 38 #[.int .i64 kind, .int .i64 lit, GV], .blk f 56 #[.slice R L.length c, .map (some m)], .map m (encL strE (keysGo L 0)), .row (.slice R L.length c) 38 3 L.length (gcells L vs), .ro D (Ins D L vs), .ro TabD Tab, .ro DI (fun w => IntsD DI w (.slice (some ⟨bI, oI, none⟩) 3 cJ) [a, b, d])] := Own.blkin (l := [a, b, d]) O121 rfl rfl (by decide)
              refine (call_find (f := f) (m := m) (R := R) (c := c) (D := D) (L := L) (vs := vs) (D2 := (fun k => k = g118)) (V := .slice (some ⟨g118, 0, none⟩) 3 3) (g := ⟨8, 0, [a, b, d]⟩) (rest := [.blk g2 38 #[.int .i64 kind, .int .i64 lit, GV], .ro DI (fun w => IntsD DI w (.slice (some ⟨bI, oI, none⟩) 3 cJ) [a, b, d])]) (O124.re [2, 3, 4, 5, 6, 0, 1, 7] rfl : Own (zone (foldE f m R c D L vs ++ [inE DI (.slice (some ⟨bI, oI, none⟩) 3 cJ) [a, b, d]])) W w119 [.blk f 56 #[.slice R L.length c, .map (some m)], .map m (encL strE (keysGo L 0)), .row (.slice R L.length c) 38 3 L.length (gcells L vs), .ro D (Ins D L vs), .ro TabD Tab, .ro (fun k => k = g118) (fun w => IntsD (fun k => k = g118) w (.slice (some ⟨g118, 0, none⟩) 3 3) ([a, b, d])), .blk g2 38 #[.int .i64 kind, .int .i64 lit, GV], .ro DI (fun w => IntsD DI w (.slice (some ⟨bI, oI, none⟩) 3 cJ) [a, b, d])]) (small_n (smallI_lit 8 rfl) (by simp only [List.mem_cons, List.not_mem_nil, or_false, forall_eq_or_imp, forall_eq, smallI]; omega) (Nat.le_of_ble_eq_true rfl)) hL).mono ?_
              rintro _ w125 ⟨R126, c127, D128, vs129, rfl, O130⟩
              refine ⟨_, rfl, ?_⟩
              refine wl_val (v := .int .i64 ((findG L ⟨8, 0, [a, b, d]⟩).2)) (fun ρ e => ex_assign (e _ _ rfl)) rfl rfl ?_
              refine wl_nil ?_
              refine xw_next K117 ?_
              refine cw_ret ?_
              refine xw_ret (v := .int .i64 ((findG L ⟨8, 0, [a, b, d]⟩).2)) (fun T hT => res1 rfl T _ (hT 6 _ rfl)) ?_
              exact FPost.eq ⟨_, _, _, _, rfl, (O130.re [0, 1, 2, 3, 4] rfl : Own (zone (foldE f m R c D L vs ++ [inE DI (.slice (some ⟨bI, oI, none⟩) 3 cJ) [a, b, d]])) W w125 [.blk f 56 #[.slice R126 (((findG L ⟨8, 0, [a, b, d]⟩).1).length) c127, .map (some m)], .map m (encL strE (keysGo ((findG L ⟨8, 0, [a, b, d]⟩).1) 0)), .row (.slice R126 (((findG L ⟨8, 0, [a, b, d]⟩).1).length) c127) 38 3 (((findG L ⟨8, 0, [a, b, d]⟩).1).length) (gcells ((findG L ⟨8, 0, [a, b, d]⟩).1) vs129), .ro D128 (Ins D128 ((findG L ⟨8, 0, [a, b, d]⟩).1) vs129), .ro TabD Tab])⟩ (by rw [chooseG, if_neg c12, if_neg (fun h => h.elim c22 c30), if_neg (fun h => c33 h.1), if_neg (fun h => c103 h.2)])
          · skip
            refine wl_call (args := [.pointer (some ⟨f, 0, none⟩), .int .i64 b, .int .i64 0]) in_82 rfl rfl rfl ?_
            refine (is0 (f := f) (m := m) (R := R) (c := c) (D := D) (L := L) (vs := vs) (rest := [.blk g2 38 #[.int .i64 kind, .int .i64 lit, GV], .ro DI (fun w => IntsD DI w (.slice (some ⟨bI, oI, none⟩) 3 cJ) [a, b, d])]) (O97.re [1, 2, 3, 4, 5, 0, 6] rfl : Own (zone (foldE f m R c D L vs ++ [inE DI (.slice (some ⟨bI, oI, none⟩) 3 cJ) [a, b, d]])) W w95 [.blk f 56 #[.slice R L.length c, .map (some m)], .map m (encL strE (keysGo L 0)), .row (.slice R L.length c) 38 3 L.length (gcells L vs), .ro D (Ins D L vs), .ro TabD Tab, .blk g2 38 #[.int .i64 kind, .int .i64 lit, GV], .ro DI (fun w => IntsD DI w (.slice (some ⟨bI, oI, none⟩) 3 cJ) [a, b, d])]) (by omega) c99).mono ?_
            rintro _ w131 ⟨rfl, hb132⟩
            have O133 : Own (zone (foldE f m R c D L vs ++ [inE DI (.slice (some ⟨bI, oI, none⟩) 3 cJ) [a, b, d]])) W w131 [.blk g2 38 #[.int .i64 kind, .int .i64 lit, GV], .blk f 56 #[.slice R L.length c, .map (some m)], .map m (encL strE (keysGo L 0)), .row (.slice R L.length c) 38 3 L.length (gcells L vs), .ro D (Ins D L vs), .ro TabD Tab, .ro DI (fun w => IntsD DI w (.slice (some ⟨bI, oI, none⟩) 3 cJ) [a, b, d])] := O97.below hb132
            refine ⟨_, rfl, ?_⟩
            refine wl_val (v := .bool false) (fun ρ e => ex_move (e _ _ rfl)) rfl rfl ?_
            refine wl_skip rfl rfl ?_
            refine wl_skip rfl rfl ?_
            refine wl_skip rfl rfl ?_
            refine wl_val (v := .bool false) (fun ρ e => ex_pick0 (e _ _ rfl) (e _ _ rfl)) rfl rfl ?_
            refine wl_val (v := .bool false) (fun ρ e => ex_assign (e _ _ rfl)) rfl rfl ?_
            refine wl_nil ?_
            refine xw_next K98 ?_
            refine cw_false rfl ?_
            refine cw_skip ?_
            refine xw_block ?_
            refine xw_next K10 ?_
            refine cw_seq (fun FK134 K134 => ?_)
            refine cw_region ?_
            refine wl_val (v := .pointer (some ⟨f, 0, none⟩)) (fun ρ e => ex_move (e _ _ rfl)) rfl rfl ?_
            refine wl_val (v := .int .i64 a) (fun ρ e => ex_move (e _ _ rfl)) rfl rfl ?_
            refine wl_val (v := .int .i64 b) (fun ρ e => ex_move (e _ _ rfl)) rfl rfl ?_
            refine wl_val (v := .int .i64 d) (fun ρ e => ex_move (e _ _ rfl)) rfl rfl ?_
            obtain ⟨g135, w136, r137, O138, hg139, hs140⟩ := own_slice O133 el36 ze3 3 [(0, .int .i64 a), (1, .int .i64 b), (2, .int .i64 d)] (cs := #[.int .i64 a, .int .i64 b, .int .i64 d]) (by decide) (by kernel_rfl)
            refine wl_val (v := .slice (some ⟨g135, 0, none⟩) 3 3) (fun ρ e => r137 ρ _ _ _ _ _ _ (e.parts rfl)) rfl rfl ?_
            refine wl_val (v := .agg #[.int .i64 8, .int .i64 0, .slice (some ⟨g135, 0, none⟩) 3 3]) (fun ρ e => ex_build (cells := #[.int .i64 8, .int .i64 0, .slice (some ⟨g135, 0, none⟩) 3 3]) st38 (e.parts rfl) rfl) rfl rfl ?_
            refine wl_call (args := [.pointer (some ⟨f, 0, none⟩), .agg #[.int .i64 8, .int .i64 0, .slice (some ⟨g135, 0, none⟩) 3 3]]) in_80 rfl rfl rfl ?_
            have O141 : Own (zone (foldE f m R c D L vs ++ [inE DI (.slice (some ⟨bI, oI, none⟩) 3 cJ) [a, b, d]])) W w136 [.ro (fun k => k = g135) (fun w => IntsD (fun k => k = g135) w (.slice (some ⟨g135, 0, none⟩) 3 3) ([a, b, d])), .blk g2 38 #[.int .i64 kind, .int .i64 lit, GV], .blk f 56 #[.slice R L.length c, .map (some m)], .map m (encL strE (keysGo L 0)), .row (.slice R L.length c) 38 3 L.length (gcells L vs), .ro D (Ins D L vs), .ro TabD Tab, .ro DI (fun w => IntsD DI w (.slice (some ⟨bI, oI, none⟩) 3 cJ) [a, b, d])] := Own.blkin (l := [a, b, d]) O138 rfl rfl (by decide)
            refine (call_find (f := f) (m := m) (R := R) (c := c) (D := D) (L := L) (vs := vs) (D2 := (fun k => k = g135)) (V := .slice (some ⟨g135, 0, none⟩) 3 3) (g := ⟨8, 0, [a, b, d]⟩) (rest := [.blk g2 38 #[.int .i64 kind, .int .i64 lit, GV], .ro DI (fun w => IntsD DI w (.slice (some ⟨bI, oI, none⟩) 3 cJ) [a, b, d])]) (O141.re [2, 3, 4, 5, 6, 0, 1, 7] rfl : Own (zone (foldE f m R c D L vs ++ [inE DI (.slice (some ⟨bI, oI, none⟩) 3 cJ) [a, b, d]])) W w136 [.blk f 56 #[.slice R L.length c, .map (some m)], .map m (encL strE (keysGo L 0)), .row (.slice R L.length c) 38 3 L.length (gcells L vs), .ro D (Ins D L vs), .ro TabD Tab, .ro (fun k => k = g135) (fun w => IntsD (fun k => k = g135) w (.slice (some ⟨g135, 0, none⟩) 3 3) ([a, b, d])), .blk g2 38 #[.int .i64 kind, .int .i64 lit, GV], .ro DI (fun w => IntsD DI w (.slice (some ⟨bI, oI, none⟩) 3 cJ) [a, b, d])]) (small_n (smallI_lit 8 rfl) (by simp only [List.mem_cons, List.not_mem_nil, or_false, forall_eq_or_imp, forall_eq, smallI]; omega) (Nat.le_of_ble_eq_true rfl)) hL).mono ?_
            rintro _ w142 ⟨R143, c144, D145, vs146, rfl, O147⟩
            refine ⟨_, rfl, ?_⟩
            refine wl_val (v := .int .i64 ((findG L ⟨8, 0, [a, b, d]⟩).2)) (fun ρ e => ex_assign (e _ _ rfl)) rfl rfl ?_
            refine wl_nil ?_
            refine xw_next K134 ?_
            refine cw_ret ?_
            refine xw_ret (v := .int .i64 ((findG L ⟨8, 0, [a, b, d]⟩).2)) (fun T hT => res1 rfl T _ (hT 6 _ rfl)) ?_
            exact FPost.eq ⟨_, _, _, _, rfl, (O147.re [0, 1, 2, 3, 4] rfl : Own (zone (foldE f m R c D L vs ++ [inE DI (.slice (some ⟨bI, oI, none⟩) 3 cJ) [a, b, d]])) W w142 [.blk f 56 #[.slice R143 (((findG L ⟨8, 0, [a, b, d]⟩).1).length) c144, .map (some m)], .map m (encL strE (keysGo ((findG L ⟨8, 0, [a, b, d]⟩).1) 0)), .row (.slice R143 (((findG L ⟨8, 0, [a, b, d]⟩).1).length) c144) 38 3 (((findG L ⟨8, 0, [a, b, d]⟩).1).length) (gcells ((findG L ⟨8, 0, [a, b, d]⟩).1) vs146), .ro D145 (Ins D145 ((findG L ⟨8, 0, [a, b, d]⟩).1) vs146), .ro TabD Tab])⟩ (by rw [chooseG, if_neg c12, if_neg (fun h => h.elim c22 c30), if_neg (fun h => c33 h.1), if_neg (fun h => c99 h.1)])
end
end Go.Proofs.YtbemhgojfehnjaaDoor
namespace Go.Proofs.YtbemhgojfehnjaaDoor
open Go Go.RowKit
theorem IntsD.cellq {D : Nat → Prop} {w : World} {b o n c : Nat} {xs : List Int} (h : IntsD D w (.slice (some ⟨b, o, none⟩) n c) xs) {k : Nat} {x : Int} (hk : xs[k]? = some x) : w.cell? ⟨b, o + k, none⟩ = some (.int .i64 x) := by
  obtain ⟨h1, rfl⟩ := List.getElem?_eq_some_iff.1 hk
  exact h.cell h1
theorem lookV_aput {κ : Type} [DecidableEq κ] (x y : κ) (v z : Value) : ∀ (l : List (κ × Value)) (i : Nat), lookV (look y (aput x v l) i) z = if y = x then v else lookV (look y l i) z
  | [], i => by
    unfold aput look look
    by_cases h : y = x <;> simp [h, lookV]
  | (a, u) :: l, i => by
    unfold aput
    by_cases hx : x = a
    · subst hx
      simp only [if_true]
      unfold look
      by_cases h : y = x <;> simp [h, lookV]
    · rw [if_neg hx]
      unfold look
      by_cases h : y = a
      · subst h
        simp [Ne.symm hx, lookV]
      · simp only [if_neg h]
        exact lookV_aput x y v z l (i + 1)
section
variable {κ : Type} [DecidableEq κ] {enc : κ → Value} {kind : TypeDesc} {T kt e : TypeId} {g : Nat} {l : List (κ × Value)} {w : World}
theorem ex_look0 {ρ : Operand → Value} {x y : Operand} {d : Option Tmp} {t : TypeId} {pos : String} {aft : Array Edge} {gd : Option (Nat × Bool)} (K : Key enc kind) (ht : Tryd.prog.underlying T = some (.map kt e)) (hk : Tryd.prog.underlying kt = some kind) {z : Value} (hz : ZeroB e z) (h : MapB w g (encL enc l)) (k : κ) {V : Value} (hV : lookV (look k l 0) z = V) (hx : ρ x = .map (some g)) (hy : ρ y = enc k) :
    (execOp ρ ⟨d, .lookup T x y false, t, pos, aft, gd⟩).run Tryd.prog w = .ok (.value V) w :=
  ex_look K ht hk hz h k rfl false hx hy hV
end
/-- The numbers that have been seen. -/
def seenIs (sl : List (Int × Value)) (p : Int → Bool) : Prop := ∀ x, lookV (look x sl 0) (.bool false) = .bool (p x)
theorem seen_nil : seenIs [] (fun _ => false) := fun _ => rfl
theorem seenIs.put {sl : List (Int × Value)} {p q : Int → Bool} (h : seenIs sl p) (x : Int) (b : Bool) (hq : ∀ y, q y = if y = x then b else p y) : seenIs (aput x (.bool b) sl) q := by
  intro y
  rw [lookV_aput, hq y, h y]
  by_cases e : y = x <;> simp [e]
theorem intCs_snoc (l : List Int) (x : Int) : intCs l ++ [.int .i64 x] = intCs (l ++ [x]) := by simp [intCs]
theorem drop_cons {l : List Int} {k : Nat} (h : k < l.length) : ∃ x, l[k]? = some x ∧ l.drop k = x :: l.drop (k + 1) ∧ x ∈ l := ⟨l[k], List.getElem?_eq_getElem h, List.drop_eq_getElem_cons h, List.getElem_mem h⟩
theorem Own.rowshape {Z : Bool → Nat → Prop} {w0 W : World} {LL : List En} (O : Own Z w0 W LL) (i : Nat) {A : Option Addr} {n c T sz : Nat} {xs : List Value} (hi : LL[i]? = some (.row (.slice A n c) T sz n xs)) (hn : 0 < n) : ∃ g, A = some ⟨g, 0, none⟩ := rowaddr (O.row i hi) hn
end Go.Proofs.YtbemhgojfehnjaaDoor
namespace Go.Proofs.YtbemhgojfehnjaaDoor
open Go Go.RowKit
theorem oddIn_snoc (y x : Int) : ∀ l : List Int, oddIn y (l ++ [x]) = (decide (y = x) != oddIn y l)
  | [] => rfl
  | z :: l => by
    show (decide (y = z) != oddIn y (l ++ [x])) = (decide (y = x) != (decide (y = z) != oddIn y l))
    rw [oddIn_snoc y x l]
    cases decide (y = z) <;> cases decide (y = x) <;> cases oddIn y l <;> rfl
theorem odd_put {sl : List (Int × Value)} {ins : List Int} {k : Nat} {x : Int} (h : seenIs sl (fun y => oddIn y (ins.take k))) (hk : k < ins.length) (hx : ins[k]? = some x) : seenIs (aput x (.bool (!(oddIn x (ins.take k)))) sl) (fun y => oddIn y (ins.take (k + 1))) := by
  refine h.put x _ (fun y => ?_)
  have e : ins.take (k + 1) = ins.take k ++ [x] := by
    rw [← List.take_append_getElem hk]
    rw [List.getElem?_eq_getElem hk] at hx
    injection hx with hx
    rw [hx]
  rw [e, oddIn_snoc]
  by_cases q : y = x
  · subst q; simp
  · simp [q]
theorem xorG_0 {L : List Gate} {ins : List Int} {last : Int} (h : xorGo L (fun x => oddIn x ins) ins [] (-1) = ([], last)) : xorG L ins = if last < 0 then findG L ⟨0, 0, []⟩ else (L, last) := by
  unfold xorG; rw [h]
theorem xorG_1 {L : List Gate} {ins : List Int} {last x : Int} (h : xorGo L (fun x => oddIn x ins) ins [] (-1) = ([x], last)) : xorG L ins = if last < 0 then (L, x) else notG L x := by
  unfold xorG; rw [h]
theorem xorG_2 {L : List Gate} {ins l2 : List Int} {last x x2 : Int} (h : xorGo L (fun x => oddIn x ins) ins [] (-1) = (x :: x2 :: l2, last)) : xorG L ins = if 0 ≤ last then findG L ⟨6, 0, (x :: x2 :: l2) ++ [last]⟩ else findG L ⟨6, 0, x :: x2 :: l2⟩ := by
  unfold xorG; rw [h]
end Go.Proofs.YtbemhgojfehnjaaDoor
namespace Go.Proofs.YtbemhgojfehnjaaDoor
open Go Go.RowKit
def boolCs (l : List Bool) : List Value := l.map fun x => .bool x
theorem setI (l : List Int) (k : Nat) (x : Int) : setN (intCs l).toArray k [.int .i64 x] = (intCs (l.set k x)).toArray := by simp [setN, intCs, List.map_set]
theorem setBo (l : List Bool) (k : Nat) (x : Bool) : setN (boolCs l).toArray k [.bool x] = (boolCs (l.set k x)).toArray := by simp [setN, boolCs, List.map_set]
theorem getI {l : List Int} {k : Nat} {x : Int} (h : l[k]? = some x) : (intCs l).toArray[k]? = some (.int .i64 x) := by simp [intCs, h]
theorem getBo {l : List Bool} {k : Nat} {x : Bool} (h : l[k]? = some x) : (boolCs l).toArray[k]? = some (.bool x) := by simp [boolCs, h]
theorem made1 (z : Value) (n : Nat) : madeCells #[z] n = (List.replicate n z).toArray := by
  apply Array.ext
  · simp [madeCells]
  · intro i h1 h2
    simp [madeCells, Nat.mod_one]
section
variable {Z : Bool → Nat → Prop} {w0 w W : World} {L : List En}
theorem own_make1 (O : Own Z w0 w L) {T e bytes : Nat} {z : Value} (E : El T e 1 bytes z) (hz1 : z.cells = #[z]) (n : Nat) (hb : bytes ≤ 8) (hn : n ≤ 1000000000) {cs : Array Value} (hc : (List.replicate n z).toArray = cs) :
    ∃ g w', (∀ (ρ : Operand → Value) x y d t pos aft gd, ρ x = .int .i64 (n : Int) → ρ y = .int .i64 (n : Int) → (execOp ρ ⟨d, .makeSlice T x y, t, pos, aft, gd⟩).run Tryd.prog w = .ok (.value (.slice (some ⟨g, 0, none⟩) n n)) w') ∧ Own Z w0 w' (.blk g e cs :: L) ∧ w.heap.size = g ∧ w'.heap.size = g + 1 := by
  subst hc
  obtain ⟨i, hi, hz, hsz, hby⟩ := info_parts E.info
  have hb8 : ((i.bytes : Nat) : Int) * (n : Int) ≤ 281474976710656 := by
    rw [hby]
    have h1 : bytes * n ≤ 8 * n := Nat.mul_le_mul_right n hb
    have h2 : ((bytes * n : Nat) : Int) ≤ 281474976710656 := by omega
    rwa [Int.natCast_mul] at h2
  have hr := run_make (P := Tryd.prog) w T e i z E.under hi hz .i64 .i64 n n (by omega) (by omega) hb8 (by omega)
  rw [hsz, hz1, Int.toNat_natCast, Nat.mul_one, made1] at hr
  refine ⟨w.heap.size, _, fun ρ x y d t pos aft gd hx hy => ?_, O.newb ((Below.refl _ _).alloc (Nat.le_refl _) _) (Blk.new w e _) rfl, rfl, by simp⟩
  simp only [execOp, hx, hy, Sem.run_bind, hr, Result.andThen_ok, Sem.run_pure]
theorem Own.oldro {D : Nat → Prop} {p : World → Prop} (h : Own Z0 w0 W L) (he : (En.ro D p).holds w0) : Own Z0 w0 W (.ro D p :: L) := by
  refine ⟨h.fr, fun e q => ?_, List.Pairwise.cons (fun b hb ho k h1 h2 => ?_) h.dist, fun e q k hk => ?_⟩
  · rcases List.mem_cons.1 q with rfl | q
    · exact En.move he h.old.size (fun k hk => h.old.block k (he.2.1 k hk))
    · exact h.has e q
  · have := he.2.1 k h1
    rcases h.free b hb k h2 with h3 | h3
    · rcases ho with ho | ho
      · exact ho
      · exact absurd (h3.2 ho) (by simp [Z0])
    · omega
  · rcases List.mem_cons.1 q with rfl | q
    · exact .inl ⟨rfl, fun ho => ho.elim⟩
    · exact h.free e q k hk
/-- A block as a full row. -/
theorem Own.blkrow {g T n : Nat} {cs : Array Value} {xs : List Value} (h : Own Z w0 W (.blk g T cs :: L)) (hc : cs = xs.toArray) (hn : n = xs.length) (hm : n ≤ 1000000000) : Own Z w0 W (.row (.slice (some ⟨g, 0, none⟩) n n) T 1 n xs :: L) := by
  subst hc hn
  refine h.as (e' := .row (.slice (some ⟨g, 0, none⟩) xs.length xs.length) T 1 xs.length xs) ⟨by simp, .inr ⟨g, xs.length, xs.toArray, rfl, Nat.zero_le _, h.blk 0 rfl, Nat.le_refl _, by unfold maxLen; omega, by simp, by simp⟩⟩ (fun k hk => ?_) (fun _ => trivial)
  have : some g = some k := hk
  injection this with this
  exact this.symm
theorem own_appN {te e : TypeId} {size bytes : Nat} {z v : Value} {k m c : Nat} {a : Addr} {xs news : List Value} (hO : Own Z w0 w (.row v e size k xs :: L)) (E : El te e size bytes z) (hl : news.length = m * size) (hnews : ∀ j u, news[j]? = some u → w.cell? (a.add j) = some u) (h1 : ∀ u ∈ news, u.oneCell' = true) (hlen : (k + m) * bytes ≤ 140737488355328) (hn : k + m ≤ 1099511627776) {ys : List Value} (hy : xs ++ news = ys) :
    ∃ A c' w', (∀ (ρ : Operand → Value) x y d t pos aft gd, ρ x = v → ρ y = .slice (some a) m c → (execOp ρ ⟨d, .call ⟨.builtin .append, #[x, y], #[te, te]⟩, t, pos, aft, gd⟩).run Tryd.prog w = .ok (.value (.slice A (k + m) c')) w') ∧
      Own Z w0 w' (.row (.slice A (k + m) c') e size (k + m) ys :: L) ∧ w.heap.size ≤ w'.heap.size := by
  subst hy
  obtain ⟨i, hi, hz, hsz, hb⟩ := info_parts E.info
  have hown := hO.row 0 rfl
  obtain ⟨v', w', hrun, h2, h3, _, h5⟩ := run_append_own_at (P := Tryd.prog) (w := w) 0 te 0 e i _ size bytes E.under hi hz hsz hb E.cells E.pos v _ _ hown a m c news hl hnews h1 (by unfold maxLen; omega) hlen (Nat.zero_le _)
  obtain ⟨A, c', rfl⟩ := own_form h2
  refine ⟨A, c', w', fun ρ x y d t pos aft gd hx hy => ?_, hO.app h2 (.grown h3) h5, h3.size⟩
  exact exec_append hx hy (by
    have : ∀ ty ty', Builtin.append_ #[te, te] ty #[v, .slice (some a) m c] = Builtin.append_ #[te, te] ty' #[v, .slice (some a) m c] := fun _ _ => rfl
    rw [this t 0]
    exact hrun)
/-- A cell of a row is written. -/
theorem Own.putrow {g T n c k : Nat} {xs : List Value} (h : Own Z w0 W (.row (.slice (some ⟨g, 0, none⟩) n c) T 1 n xs :: L)) (hk : k < n) (u : Value) :
    (∃ u0, W.cell? ⟨g, k, none⟩ = some u0) ∧ W.frozen? ⟨g, k, none⟩ = false ∧ Own Z w0 (W.setCell ⟨g, k, none⟩ u) (.row (.slice (some ⟨g, 0, none⟩) n c) T 1 n (xs.set k u) :: L) := by
  have hr := h.row 0 rfl
  obtain ⟨hlen, hr⟩ := hr
  rcases hr with ⟨h1, _⟩ | ⟨g', cap, cur, h1, _, hg, h2, h3, h4, h5⟩
  · cases h1
  · injection h1 with h1 _ hcap
    injection h1 with h1
    injection h1 with h1
    subst h1 hcap
    have hb : Blk W g T cur := hg
    have hsz : k < cur.size := by omega
    refine ⟨⟨cur[k], by rw [hb.cell k, Array.getElem?_eq_getElem hsz]⟩, hb.free k, ?_⟩
    refine h.one (e' := .row (.slice (some ⟨g, 0, none⟩) n c) T 1 n (xs.set k u)) (Frame.put W g k u) trivial (fun k q1 q => by show some g = some k; rw [show k = g from q]) ?_ (fun k q => .inl q)
    refine ⟨by simpa using hlen, .inr ⟨g, c, cur.setIfInBounds k u, rfl, Nat.zero_le _, hb.put k u, h2, h3, by simpa using h4, ?_⟩⟩
    rw [Array.toList_setIfInBounds, List.take_set, h5]
theorem own_putrow {g T T0 n c k : Nat} {xs ys : List Value} (h : Own Z w0 W (.row (.slice (some ⟨g, 0, none⟩) n c) T 1 n xs :: L)) (hT : TyB T0 1 false) (hk : k < n) (u : Value) (hu : u.oneCell' = true) (hc : u.cells.toList = [u]) (hy : xs.set k u = ys) :
    ∃ w', (∀ (ρ : Operand → Value) x y t pos aft gd, ρ x = .pointer (some ⟨g, k, none⟩) → ρ y = u → (execOp ρ ⟨none, .store T0 x y, t, pos, aft, gd⟩).run Tryd.prog W = .ok .skip w') ∧ Own Z w0 w' (.row (.slice (some ⟨g, 0, none⟩) n c) T 1 n ys :: L) ∧ w'.heap.size = W.heap.size := by
  subst hy
  obtain ⟨⟨u0, h1⟩, h2, h3⟩ := h.putrow hk u
  refine ⟨_, fun ρ x y t pos aft gd hx hy => ?_, h3, by simp [World.setCell]⟩
  have hs : u.cells.size = 1 := by have := congrArg List.length hc; simpa using this
  simp [execOp, Instr.storeAt, Instr.sureAddr, hx, hy, storeVar, run_size hT.size, hs, hc, storeCells, addr_plus, run_store _ _ _ _ _ hu, h1, h2]
end
section
variable {ρ : Operand → Value} {d : Option Tmp} {x y z : Operand} {t T : TypeId} {pos : String} {aft : Array Edge} {gd : Option (Nat × Bool)} {w : World}
theorem ex_sliceHi {e sz n c : Nat} {h : Nat} {A : Option Addr} (hT : ElB T e sz) (hx : ρ x = .slice A n c) (hy : ρ y = .int .i64 (h : Int)) (hh : h ≤ c) : (execOp ρ ⟨d, .slice T x none (some y) none, t, pos, aft, gd⟩).run Tryd.prog w = .ok (.value (.slice A h c)) w := by
  have hadd : ∀ a : Addr, a.add 0 = a := fun a => by cases a with | mk b o s => unfold Addr.add; cases s <;> simp
  cases A with
  | none => simp [execOp, Instr.sliceAt, Instr.slice, run_underlying hT.elem, hx, hy, Instr.sliceBounds, Instr.sliceBound, asIntOf, hh, run_size hT.size]
  | some a => simp [execOp, Instr.sliceAt, Instr.slice, run_underlying hT.elem, hx, hy, Instr.sliceBounds, Instr.sliceBound, asIntOf, hh, run_size hT.size, hadd]
theorem ex_eqnil {e n c : Nat} {A : Option Addr} (hT : Tryd.prog.underlying T = some (.slice e)) (hx : ρ x = .slice A n c) (hy : ρ y = .slice none 0 0) {T1 : TypeId} : (execOp ρ ⟨d, .binOp .eql T x y T1, t, pos, aft, gd⟩).run Tryd.prog w = .ok (.value (.bool A.isNone)) w := by
  have h1 : (eqGuard .eql T x y (.slice A n c) (.slice none 0 0)).run Tryd.prog w = .ok () w := rfl
  have h2 : binOp .eql T (.slice A n c) (.slice none 0 0) = (do pure (.bool (← Op.equal T (.slice A n c) (.slice none 0 0)))) := rfl
  have h3 : (Op.equal T (.slice A n c) (.slice none 0 0)).run Tryd.prog w = .ok A.isNone w := by
    unfold Op.equal
    rw [show Op.maxDepth = 9999 + 1 from rfl, Op.equalIn]
    simp only [Sem.run_bind, run_underlying hT, Result.andThen_ok]
    cases A <;> rfl
  simp only [execOp, hx, hy, Sem.run_bind, h1, h2, h3, Result.andThen_ok, Sem.run_pure]
theorem res2c {P : Program} {fn : Func} {a b g : Nat} {v u : Value} {T0 : TypeId} (h : fn.results = #[.cell a T0, .tmp b]) (T : Array Value) (w : World) (h1 : T[a]? = some (.pointer (some ⟨g, 0, none⟩))) (h2 : T[b]? = some u) (hv : (loadVar T0 ⟨g, 0, none⟩).run P w = .ok v w) : (results fn T).run P w = .ok (.tuple #[v, u]) w := by
  simp [results, h, Array.getD_eq_getD_getElem?, h1, h2, hv, asAddr]
end
end Go.Proofs.YtbemhgojfehnjaaDoor
namespace Go.Proofs.YtbemhgojfehnjaaDoor
open Go Go.RowKit
section
variable {Z : Bool → Nat → Prop} {w0 w W W' : World} {L A' : List En}
section
variable {κ : Type} [DecidableEq κ] {enc : κ → Value} {kind : TypeDesc} {T kt e : TypeId} {g : Nat} {l l' : List (κ × Value)}
theorem own_insert (hO : Own Z w0 w (.map g (encL enc l) :: L)) (K : Key enc kind) (ht : Tryd.prog.underlying T = some (.map kt e)) (hk : Tryd.prog.underlying kt = some kind) (k : κ) (v : Value) (hl : aput k v l = l') :
    ∃ w', (∀ (ρ : Operand → Value) x y z t pos aft gd, ρ x = .map (some g) → ρ y = enc k → ρ z = v → (execOp ρ ⟨none, .insert T x y z, t, pos, aft, gd⟩).run Tryd.prog w = .ok .skip w') ∧ Own Z w0 w' (.map g (encL enc l') :: L) ∧ w'.heap.size = w.heap.size := by
  subst hl
  obtain ⟨w', h1, h2, h3, h4⟩ := run_put K ht hk (hO.map 0 rfl) k v
  refine ⟨w', fun ρ x y z t pos aft gd hx hy hz => ?_, hO.mapput h2 h3, h4⟩
  simp only [execOp, hx, hy, hz, Sem.run_bind, h1, Result.andThen_ok, Sem.run_pure]
end
theorem Own.join (h : Own Z w0 W L) (h' : Own Z0 W W' A') (ho : ∀ e ∈ A', e.own) : Own Z w0 W' (A' ++ L) :=
  h.step (A := []) (Frame.of_below h'.old) (fun _ _ hn => hn.elim) h'.has h'.dist (fun e he k hk => by
    rcases h'.free e he k hk with h1 | h1
    · exact absurd (h1.2 (ho e he)) (by simp [Z0])
    · exact .inr h1)
theorem Own.join1 {e : En} (h : Own Z w0 W L) (h' : Own Z0 W W' [e]) (ho : e.own) : Own Z w0 W' (e :: L) := h.join h' (fun e' he => by rw [List.mem_singleton.1 he]; exact ho)
end
theorem IntsV.nilOf {w : World} {B n c : Nat} {xs : List Int} (h : IntsV w B (.slice none n c) xs) : xs = [] := by
  obtain ⟨A, c', hv, _, _, h3⟩ := h
  injection hv with h1 h2 _
  cases xs with
  | nil => rfl
  | cons x xs =>
    obtain ⟨b, o, _, hA, _⟩ := h3 (by simp)
    rw [hA] at h1; cases h1
theorem IntsV.cellsAt {w w' : World} {B n c : Nat} {a : Addr} {xs : List Int} (h : IntsV w B (.slice (some a) n c) xs) (hb : Below B w w') : ∀ j u, (intCs xs)[j]? = some u → w'.cell? (a.add j) = some u := by
  intro j u hj
  obtain ⟨A, c', hv, _, _, h3⟩ := h
  injection hv with h1 h2 _
  have hlt : j < xs.length := by have := (List.getElem?_eq_some_iff.1 hj).1; simpa [intCs] using this
  obtain ⟨b, o, hB, hA, hc⟩ := h3 (by omega)
  rw [hA] at h1
  injection h1 with h1
  subst h1
  rw [addr_plus, hb.cell (by exact hB)]
  have h5 : u = .int .i64 xs[j] := by
    simp only [intCs, List.getElem?_map, List.getElem?_eq_getElem hlt, Option.map_some, Option.some.injEq] at hj
    exact hj.symm
  rw [h5]
  simpa [IntAt] using hc j _ (List.getElem?_eq_getElem hlt)
theorem intCs_one (l : List Int) : ∀ u ∈ intCs l, u.oneCell' = true := by
  intro u hu
  obtain ⟨x, _, rfl⟩ := List.mem_map.1 hu
  rfl
/-- What circ's rules hold. -/
def rulesL (f : Nat) : List (Int × Value) := [60, 60, 60, 61, 62, 62, 63, 64, 65].zipIdx.map fun p => ((p.2 : Int), .func (.func p.1) #[.pointer (some ⟨f, 0, none⟩)] #[])
end Go.Proofs.YtbemhgojfehnjaaDoor
namespace Go.Proofs.YtbemhgojfehnjaaDoor
open Go Go.RowKit
theorem rules_ (W : World) (f : Nat) : Calls Tryd.prog 39 #[.pointer (some ⟨f, 0, none⟩)] W fun e w' => ∃ g, e = .returned (.map (some g)) ∧ Own Z0 W w' [.map g (encL intE (rulesL f))] := by
  have O0 : Own Z0 W W [] := Own.start W
  refine sx_enter (args := [.pointer (some ⟨f, 0, none⟩)]) Tryd.func39 rfl rfl (by simp) ?_
  refine cw_seq (fun FK1 K1 => ?_)
  refine cw_region ?_
  refine wl_val (v := .map none) (fun ρ e => ex_assign (e _ _ rfl)) rfl rfl ?_
  refine wl_nil ?_
  refine xw_next K1 ?_
  refine cw_seq (fun FK2 K2 => ?_)
  refine cw_region ?_
  obtain ⟨g3, w4, r5, O6, hg7, hs8⟩ := own_makeMap O0 57
  refine wl_val (v := .map (some g3)) (fun ρ e => r5 ρ _ _ _ _ _) rfl rfl ?_
  refine wl_val (v := .pointer (some ⟨f, 0, none⟩)) (fun ρ e => ex_move (e _ _ rfl)) rfl rfl ?_
  refine wl_val (v := .func (.func 60) #[.pointer (some ⟨f, 0, none⟩)] #[]) (fun ρ e => ex_func (us := [.pointer (some ⟨f, 0, none⟩)]) (vs := []) (congrArg (fun q => [q]) (e _ _ rfl)) rfl) rfl rfl ?_
  obtain ⟨w9, r10, O11, hs12⟩ := own_insert (l := []) (l' := [(0, .func (.func 60) #[.pointer (some ⟨f, 0, none⟩)] #[])]) O6 intKey Tryd.underlying57 Tryd.underlying3 0 (.func (.func 60) #[.pointer (some ⟨f, 0, none⟩)] #[]) rfl
  refine wl_none (fun ρ e => r10 ρ _ _ _ _ _ _ _ (e _ _ rfl) (e _ _ rfl) (e _ _ rfl)) rfl ?_
  refine wl_val (v := .pointer (some ⟨f, 0, none⟩)) (fun ρ e => ex_move (e _ _ rfl)) rfl rfl ?_
  refine wl_val (v := .func (.func 60) #[.pointer (some ⟨f, 0, none⟩)] #[]) (fun ρ e => ex_func (us := [.pointer (some ⟨f, 0, none⟩)]) (vs := []) (congrArg (fun q => [q]) (e _ _ rfl)) rfl) rfl rfl ?_
  obtain ⟨w13, r14, O15, hs16⟩ := own_insert (l := [(0, .func (.func 60) #[.pointer (some ⟨f, 0, none⟩)] #[])]) (l' := [(0, .func (.func 60) #[.pointer (some ⟨f, 0, none⟩)] #[]), (1, .func (.func 60) #[.pointer (some ⟨f, 0, none⟩)] #[])]) O11 intKey Tryd.underlying57 Tryd.underlying3 1 (.func (.func 60) #[.pointer (some ⟨f, 0, none⟩)] #[]) rfl
  refine wl_none (fun ρ e => r14 ρ _ _ _ _ _ _ _ (e _ _ rfl) (e _ _ rfl) (e _ _ rfl)) rfl ?_
  refine wl_val (v := .pointer (some ⟨f, 0, none⟩)) (fun ρ e => ex_move (e _ _ rfl)) rfl rfl ?_
  refine wl_val (v := .func (.func 60) #[.pointer (some ⟨f, 0, none⟩)] #[]) (fun ρ e => ex_func (us := [.pointer (some ⟨f, 0, none⟩)]) (vs := []) (congrArg (fun q => [q]) (e _ _ rfl)) rfl) rfl rfl ?_
  obtain ⟨w17, r18, O19, hs20⟩ := own_insert (l := [(0, .func (.func 60) #[.pointer (some ⟨f, 0, none⟩)] #[]), (1, .func (.func 60) #[.pointer (some ⟨f, 0, none⟩)] #[])]) (l' := [(0, .func (.func 60) #[.pointer (some ⟨f, 0, none⟩)] #[]), (1, .func (.func 60) #[.pointer (some ⟨f, 0, none⟩)] #[]), (2, .func (.func 60) #[.pointer (some ⟨f, 0, none⟩)] #[])]) O15 intKey Tryd.underlying57 Tryd.underlying3 2 (.func (.func 60) #[.pointer (some ⟨f, 0, none⟩)] #[]) rfl
  refine wl_none (fun ρ e => r18 ρ _ _ _ _ _ _ _ (e _ _ rfl) (e _ _ rfl) (e _ _ rfl)) rfl ?_
  refine wl_val (v := .pointer (some ⟨f, 0, none⟩)) (fun ρ e => ex_move (e _ _ rfl)) rfl rfl ?_
  refine wl_val (v := .func (.func 61) #[.pointer (some ⟨f, 0, none⟩)] #[]) (fun ρ e => ex_func (us := [.pointer (some ⟨f, 0, none⟩)]) (vs := []) (congrArg (fun q => [q]) (e _ _ rfl)) rfl) rfl rfl ?_
  obtain ⟨w21, r22, O23, hs24⟩ := own_insert (l := [(0, .func (.func 60) #[.pointer (some ⟨f, 0, none⟩)] #[]), (1, .func (.func 60) #[.pointer (some ⟨f, 0, none⟩)] #[]), (2, .func (.func 60) #[.pointer (some ⟨f, 0, none⟩)] #[])]) (l' := [(0, .func (.func 60) #[.pointer (some ⟨f, 0, none⟩)] #[]), (1, .func (.func 60) #[.pointer (some ⟨f, 0, none⟩)] #[]), (2, .func (.func 60) #[.pointer (some ⟨f, 0, none⟩)] #[]), (3, .func (.func 61) #[.pointer (some ⟨f, 0, none⟩)] #[])]) O19 intKey Tryd.underlying57 Tryd.underlying3 3 (.func (.func 61) #[.pointer (some ⟨f, 0, none⟩)] #[]) rfl
  refine wl_none (fun ρ e => r22 ρ _ _ _ _ _ _ _ (e _ _ rfl) (e _ _ rfl) (e _ _ rfl)) rfl ?_
  refine wl_val (v := .pointer (some ⟨f, 0, none⟩)) (fun ρ e => ex_move (e _ _ rfl)) rfl rfl ?_
  refine wl_val (v := .func (.func 62) #[.pointer (some ⟨f, 0, none⟩)] #[]) (fun ρ e => ex_func (us := [.pointer (some ⟨f, 0, none⟩)]) (vs := []) (congrArg (fun q => [q]) (e _ _ rfl)) rfl) rfl rfl ?_
  obtain ⟨w25, r26, O27, hs28⟩ := own_insert (l := [(0, .func (.func 60) #[.pointer (some ⟨f, 0, none⟩)] #[]), (1, .func (.func 60) #[.pointer (some ⟨f, 0, none⟩)] #[]), (2, .func (.func 60) #[.pointer (some ⟨f, 0, none⟩)] #[]), (3, .func (.func 61) #[.pointer (some ⟨f, 0, none⟩)] #[])]) (l' := [(0, .func (.func 60) #[.pointer (some ⟨f, 0, none⟩)] #[]), (1, .func (.func 60) #[.pointer (some ⟨f, 0, none⟩)] #[]), (2, .func (.func 60) #[.pointer (some ⟨f, 0, none⟩)] #[]), (3, .func (.func 61) #[.pointer (some ⟨f, 0, none⟩)] #[]), (4, .func (.func 62) #[.pointer (some ⟨f, 0, none⟩)] #[])]) O23 intKey Tryd.underlying57 Tryd.underlying3 4 (.func (.func 62) #[.pointer (some ⟨f, 0, none⟩)] #[]) rfl
  refine wl_none (fun ρ e => r26 ρ _ _ _ _ _ _ _ (e _ _ rfl) (e _ _ rfl) (e _ _ rfl)) rfl ?_
  refine wl_val (v := .pointer (some ⟨f, 0, none⟩)) (fun ρ e => ex_move (e _ _ rfl)) rfl rfl ?_
  refine wl_val (v := .func (.func 62) #[.pointer (some ⟨f, 0, none⟩)] #[]) (fun ρ e => ex_func (us := [.pointer (some ⟨f, 0, none⟩)]) (vs := []) (congrArg (fun q => [q]) (e _ _ rfl)) rfl) rfl rfl ?_
  obtain ⟨w29, r30, O31, hs32⟩ := own_insert (l := [(0, .func (.func 60) #[.pointer (some ⟨f, 0, none⟩)] #[]), (1, .func (.func 60) #[.pointer (some ⟨f, 0, none⟩)] #[]), (2, .func (.func 60) #[.pointer (some ⟨f, 0, none⟩)] #[]), (3, .func (.func 61) #[.pointer (some ⟨f, 0, none⟩)] #[]), (4, .func (.func 62) #[.pointer (some ⟨f, 0, none⟩)] #[])]) (l' := [(0, .func (.func 60) #[.pointer (some ⟨f, 0, none⟩)] #[]), (1, .func (.func 60) #[.pointer (some ⟨f, 0, none⟩)] #[]), (2, .func (.func 60) #[.pointer (some ⟨f, 0, none⟩)] #[]), (3, .func (.func 61) #[.pointer (some ⟨f, 0, none⟩)] #[]), (4, .func (.func 62) #[.pointer (some ⟨f, 0, none⟩)] #[]), (5, .func (.func 62) #[.pointer (some ⟨f, 0, none⟩)] #[])]) O27 intKey Tryd.underlying57 Tryd.underlying3 5 (.func (.func 62) #[.pointer (some ⟨f, 0, none⟩)] #[]) rfl
  refine wl_none (fun ρ e => r30 ρ _ _ _ _ _ _ _ (e _ _ rfl) (e _ _ rfl) (e _ _ rfl)) rfl ?_
  refine wl_val (v := .pointer (some ⟨f, 0, none⟩)) (fun ρ e => ex_move (e _ _ rfl)) rfl rfl ?_
  refine wl_val (v := .func (.func 63) #[.pointer (some ⟨f, 0, none⟩)] #[]) (fun ρ e => ex_func (us := [.pointer (some ⟨f, 0, none⟩)]) (vs := []) (congrArg (fun q => [q]) (e _ _ rfl)) rfl) rfl rfl ?_
  obtain ⟨w33, r34, O35, hs36⟩ := own_insert (l := [(0, .func (.func 60) #[.pointer (some ⟨f, 0, none⟩)] #[]), (1, .func (.func 60) #[.pointer (some ⟨f, 0, none⟩)] #[]), (2, .func (.func 60) #[.pointer (some ⟨f, 0, none⟩)] #[]), (3, .func (.func 61) #[.pointer (some ⟨f, 0, none⟩)] #[]), (4, .func (.func 62) #[.pointer (some ⟨f, 0, none⟩)] #[]), (5, .func (.func 62) #[.pointer (some ⟨f, 0, none⟩)] #[])]) (l' := [(0, .func (.func 60) #[.pointer (some ⟨f, 0, none⟩)] #[]), (1, .func (.func 60) #[.pointer (some ⟨f, 0, none⟩)] #[]), (2, .func (.func 60) #[.pointer (some ⟨f, 0, none⟩)] #[]), (3, .func (.func 61) #[.pointer (some ⟨f, 0, none⟩)] #[]), (4, .func (.func 62) #[.pointer (some ⟨f, 0, none⟩)] #[]), (5, .func (.func 62) #[.pointer (some ⟨f, 0, none⟩)] #[]), (6, .func (.func 63) #[.pointer (some ⟨f, 0, none⟩)] #[])]) O31 intKey Tryd.underlying57 Tryd.underlying3 6 (.func (.func 63) #[.pointer (some ⟨f, 0, none⟩)] #[]) rfl
  refine wl_none (fun ρ e => r34 ρ _ _ _ _ _ _ _ (e _ _ rfl) (e _ _ rfl) (e _ _ rfl)) rfl ?_
  refine wl_val (v := .pointer (some ⟨f, 0, none⟩)) (fun ρ e => ex_move (e _ _ rfl)) rfl rfl ?_
  refine wl_val (v := .func (.func 64) #[.pointer (some ⟨f, 0, none⟩)] #[]) (fun ρ e => ex_func (us := [.pointer (some ⟨f, 0, none⟩)]) (vs := []) (congrArg (fun q => [q]) (e _ _ rfl)) rfl) rfl rfl ?_
  obtain ⟨w37, r38, O39, hs40⟩ := own_insert (l := [(0, .func (.func 60) #[.pointer (some ⟨f, 0, none⟩)] #[]), (1, .func (.func 60) #[.pointer (some ⟨f, 0, none⟩)] #[]), (2, .func (.func 60) #[.pointer (some ⟨f, 0, none⟩)] #[]), (3, .func (.func 61) #[.pointer (some ⟨f, 0, none⟩)] #[]), (4, .func (.func 62) #[.pointer (some ⟨f, 0, none⟩)] #[]), (5, .func (.func 62) #[.pointer (some ⟨f, 0, none⟩)] #[]), (6, .func (.func 63) #[.pointer (some ⟨f, 0, none⟩)] #[])]) (l' := [(0, .func (.func 60) #[.pointer (some ⟨f, 0, none⟩)] #[]), (1, .func (.func 60) #[.pointer (some ⟨f, 0, none⟩)] #[]), (2, .func (.func 60) #[.pointer (some ⟨f, 0, none⟩)] #[]), (3, .func (.func 61) #[.pointer (some ⟨f, 0, none⟩)] #[]), (4, .func (.func 62) #[.pointer (some ⟨f, 0, none⟩)] #[]), (5, .func (.func 62) #[.pointer (some ⟨f, 0, none⟩)] #[]), (6, .func (.func 63) #[.pointer (some ⟨f, 0, none⟩)] #[]), (7, .func (.func 64) #[.pointer (some ⟨f, 0, none⟩)] #[])]) O35 intKey Tryd.underlying57 Tryd.underlying3 7 (.func (.func 64) #[.pointer (some ⟨f, 0, none⟩)] #[]) rfl
  refine wl_none (fun ρ e => r38 ρ _ _ _ _ _ _ _ (e _ _ rfl) (e _ _ rfl) (e _ _ rfl)) rfl ?_
  refine wl_val (v := .pointer (some ⟨f, 0, none⟩)) (fun ρ e => ex_move (e _ _ rfl)) rfl rfl ?_
  refine wl_val (v := .func (.func 65) #[.pointer (some ⟨f, 0, none⟩)] #[]) (fun ρ e => ex_func (us := [.pointer (some ⟨f, 0, none⟩)]) (vs := []) (congrArg (fun q => [q]) (e _ _ rfl)) rfl) rfl rfl ?_
  obtain ⟨w41, r42, O43, hs44⟩ := own_insert (l := [(0, .func (.func 60) #[.pointer (some ⟨f, 0, none⟩)] #[]), (1, .func (.func 60) #[.pointer (some ⟨f, 0, none⟩)] #[]), (2, .func (.func 60) #[.pointer (some ⟨f, 0, none⟩)] #[]), (3, .func (.func 61) #[.pointer (some ⟨f, 0, none⟩)] #[]), (4, .func (.func 62) #[.pointer (some ⟨f, 0, none⟩)] #[]), (5, .func (.func 62) #[.pointer (some ⟨f, 0, none⟩)] #[]), (6, .func (.func 63) #[.pointer (some ⟨f, 0, none⟩)] #[]), (7, .func (.func 64) #[.pointer (some ⟨f, 0, none⟩)] #[])]) (l' := [(0, .func (.func 60) #[.pointer (some ⟨f, 0, none⟩)] #[]), (1, .func (.func 60) #[.pointer (some ⟨f, 0, none⟩)] #[]), (2, .func (.func 60) #[.pointer (some ⟨f, 0, none⟩)] #[]), (3, .func (.func 61) #[.pointer (some ⟨f, 0, none⟩)] #[]), (4, .func (.func 62) #[.pointer (some ⟨f, 0, none⟩)] #[]), (5, .func (.func 62) #[.pointer (some ⟨f, 0, none⟩)] #[]), (6, .func (.func 63) #[.pointer (some ⟨f, 0, none⟩)] #[]), (7, .func (.func 64) #[.pointer (some ⟨f, 0, none⟩)] #[]), (8, .func (.func 65) #[.pointer (some ⟨f, 0, none⟩)] #[])]) O39 intKey Tryd.underlying57 Tryd.underlying3 8 (.func (.func 65) #[.pointer (some ⟨f, 0, none⟩)] #[]) rfl
  refine wl_none (fun ρ e => r42 ρ _ _ _ _ _ _ _ (e _ _ rfl) (e _ _ rfl) (e _ _ rfl)) rfl ?_
  refine wl_val (v := .map (some g3)) (fun ρ e => ex_move (e _ _ rfl)) rfl rfl ?_
  refine wl_val (v := .map (some g3)) (fun ρ e => ex_assign (e _ _ rfl)) rfl rfl ?_
  refine wl_nil ?_
  refine xw_next K2 ?_
  refine cw_ret ?_
  refine xw_ret (v := .map (some g3)) (fun T hT => res1 rfl T _ (hT 2 _ rfl)) ?_
  exact ⟨_, rfl, O43⟩
theorem clone_ {W : World} {V : Value} {xs : List Int} (hV : IntsV W W.heap.size V xs) (hn : xs.length ≤ 1000000) : Calls Tryd.prog 66 #[V] W fun e w' => ∃ A c, e = .returned (.slice A xs.length c) ∧ Own Z0 W w' [.row (.slice A xs.length c) 3 1 xs.length (intCs xs)] := by
  obtain ⟨A, c, rfl, _, _, _⟩ := id hV
  cases A with
  | none =>
    have hx := hV.nilOf
    subst hx
    have O0 : Own Z0 W W [] := Own.start W
    refine sx_enter (args := [.slice none 0 c]) Tryd.func66 rfl rfl (by simp) ?_
    refine cw_seq (fun FK1 K1 => ?_)
    refine cw_region ?_
    refine wl_val (v := .slice none 0 0) (fun ρ e => ex_assign (e _ _ rfl)) rfl rfl ?_
    refine wl_nil ?_
    refine xw_next K1 ?_
    refine cw_seq (fun FK2 K2 => ?_)
    refine cw_seq (fun FK3 K3 => ?_)
    refine cw_region ?_
    refine wl_val (v := .slice none 0 c) (fun ρ e => ex_move (e _ _ rfl)) rfl rfl ?_
    refine wl_val (v := .bool true) (fun ρ e => ex_eqnil (A := none) (n := 0) (c := c) Tryd.underlying36 (e _ _ rfl) (e _ _ rfl)) rfl rfl ?_
    refine wl_nil ?_
    refine xw_next K3 ?_
    refine cw_true rfl ?_
    refine cw_seq (fun FK4 K4 => ?_)
    refine cw_region ?_
    refine wl_val (v := .slice none 0 0) (fun ρ e => ex_assign (e _ _ rfl)) rfl rfl ?_
    refine wl_nil ?_
    refine xw_next K4 ?_
    refine cw_ret ?_
    refine xw_past (by intro h; cases h) ?_
    refine xw_ret (v := .slice none 0 0) (fun T hT => res1 rfl T _ (hT 2 _ rfl)) ?_
    exact ⟨none, 0, rfl, (Own.start W).nilrow 3 1⟩
  | some a =>
    have O0 : Own Z0 W W [] := Own.start W
    refine sx_enter (args := [.slice (some a) xs.length c]) Tryd.func66 rfl rfl (by simp) ?_
    refine cw_seq (fun FK1 K1 => ?_)
    refine cw_region ?_
    refine wl_val (v := .slice none 0 0) (fun ρ e => ex_assign (e _ _ rfl)) rfl rfl ?_
    refine wl_nil ?_
    refine xw_next K1 ?_
    refine cw_seq (fun FK2 K2 => ?_)
    refine cw_seq (fun FK3 K3 => ?_)
    refine cw_region ?_
    refine wl_val (v := .slice (some a) xs.length c) (fun ρ e => ex_move (e _ _ rfl)) rfl rfl ?_
    refine wl_val (v := .bool false) (fun ρ e => ex_eqnil (A := (some a)) (n := xs.length) (c := c) Tryd.underlying36 (e _ _ rfl) (e _ _ rfl)) rfl rfl ?_
    refine wl_nil ?_
    refine xw_next K3 ?_
    refine cw_false rfl ?_
    refine cw_skip ?_
    refine xw_next K2 ?_
    refine cw_seq (fun FK4 K4 => ?_)
    refine cw_region ?_
    obtain ⟨g5, w6, r7, O8, hg9, hs10⟩ := own_slice O0 el36 ze3 0 [] (cs := #[]) (by decide) (by kernel_rfl)
    refine wl_val (v := .slice (some ⟨g5, 0, none⟩) 0 0) (fun ρ e => r7 ρ _ _ _ _ _ _ (e.parts rfl)) rfl rfl ?_
    refine wl_val (v := .slice (some a) xs.length c) (fun ρ e => ex_move (e _ _ rfl)) rfl rfl ?_
    have O17 := Own.blkrow (xs := []) (n := 0) O8 rfl rfl (by decide)
    obtain ⟨A11, c12, w13, r14, O15, hz16⟩ := own_appN (m := xs.length) (c := c) (a := a) (news := intCs xs) O17 ap36 (by simp [intCs]) (hV.cellsAt O17.old) (intCs_one xs) (by omega) (by omega) (ys := intCs xs) rfl
    rw [Nat.zero_add] at r14 O15
    refine wl_val (v := .slice A11 xs.length c12) (fun ρ e => r14 ρ _ _ _ _ _ _ _ (e _ _ rfl) (e _ _ rfl)) rfl rfl ?_
    refine wl_val (v := .slice A11 xs.length c12) (fun ρ e => ex_assign (e _ _ rfl)) rfl rfl ?_
    refine wl_nil ?_
    refine xw_next K4 ?_
    refine cw_ret ?_
    refine xw_ret (v := .slice A11 xs.length c12) (fun T hT => res1 rfl T _ (hT 2 _ rfl)) ?_
    exact ⟨_, _, rfl, O15⟩
end Go.Proofs.YtbemhgojfehnjaaDoor
namespace Go.Proofs.YtbemhgojfehnjaaDoor
open Go Go.RowKit
def OwnIns (D : Nat → Prop) (L : List Gate) (vs : List Value) (w : World) : Prop := L.length = vs.length ∧ ∀ (i : Nat) (g : Gate) (v : Value), L[i]? = some g → vs[i]? = some v → w.ownsRow 0 3 1 v g.inp.length (intCs g.inp) ∧ ∀ k, v.ownBlock = some k → D k
theorem OwnIns.move {D : Nat → Prop} {L : List Gate} {vs : List Value} {w w' : World} (h : OwnIns D L vs w) (hk : ∀ k, D k → w'.heap[k]? = w.heap[k]?) : OwnIns D L vs w' :=
  ⟨h.1, fun i g v h1 h2 => ⟨ownsRow_move (h.2 i g v h1 h2).1 (fun k q => hk k ((h.2 i g v h1 h2).2 k q)), (h.2 i g v h1 h2).2⟩⟩
theorem OwnIns.nil (w : World) : OwnIns (fun _ => False) [] [] w := ⟨rfl, fun i g v h => by simp at h⟩
theorem OwnIns.ins {D : Nat → Prop} {L : List Gate} {vs : List Value} {w : World} (h : OwnIns D L vs w) : Ins D L vs w :=
  ⟨h.1, fun i g v h1 h2 => (IntsD.of_row (l := g.inp) (h.2 i g v h1 h2).1).mono (h.2 i g v h1 h2).2⟩
theorem snoc_cases {α : Type} {L : List α} {x y : α} {i : Nat} (h : (L ++ [x])[i]? = some y) : L[i]? = some y ∧ i < L.length ∨ i = L.length ∧ y = x := by
  by_cases hi : i < L.length
  · rw [List.getElem?_append_left hi] at h; exact .inl ⟨h, hi⟩
  · rw [List.getElem?_append_right (by omega)] at h
    have e : i - L.length = 0 := by
      rcases Nat.eq_zero_or_pos (i - L.length) with q | q
      · exact q
      · rw [List.getElem?_eq_none (by simp; omega)] at h; cases h
    rw [e] at h
    simp at h
    exact .inr ⟨by omega, h.symm⟩
theorem OwnIns.snoc {D : Nat → Prop} {L : List Gate} {vs : List Value} {w : World} (h : OwnIns D L vs w) {g : Gate} {v : Value} (hg : w.ownsRow 0 3 1 v g.inp.length (intCs g.inp)) : OwnIns (fun k => D k ∨ v.ownBlock = some k) (L ++ [g]) (vs ++ [v]) w := by
  refine ⟨by simp [h.1], fun i g' v' h1 h2 => ?_⟩
  rcases snoc_cases h1 with ⟨a, ha⟩ | ⟨a, rfl⟩
  · rcases snoc_cases h2 with ⟨b, _⟩ | ⟨b, _⟩
    · exact ⟨(h.2 i g' v' a b).1, fun k q => .inl ((h.2 i g' v' a b).2 k q)⟩
    · have := h.1; omega
  · rcases snoc_cases h2 with ⟨_, b⟩ | ⟨_, rfl⟩
    · have := h.1; omega
    · exact ⟨hg, fun k q => .inr q⟩
def ownE (D : Nat → Prop) (L : List Gate) (vs : List Value) : En := .ro D (OwnIns D L vs)
section
variable {Z : Bool → Nat → Prop} {w0 W : World} {LL : List En} {D : Nat → Prop} {L : List Gate} {vs : List Value}
theorem Own.nilown (h : Own Z w0 W LL) : Own Z w0 W (ownE (fun _ => False) [] [] :: LL) :=
  h.add (Below.refl _ _) (e := ownE (fun _ => False) [] []) ⟨OwnIns.nil _, fun _ hk => hk.elim, fun _ _ _ _ _ => OwnIns.nil _⟩ (fun _ hk => hk.elim)
theorem Own.ownsnoc {v : Value} {n : Nat} {g : Gate} (h : Own Z w0 W (.row v 3 1 n (intCs g.inp) :: ownE D L vs :: LL)) (hn : n = g.inp.length) : Own Z w0 W (ownE (fun k => D k ∨ v.ownBlock = some k) (L ++ [g]) (vs ++ [v]) :: LL) := by
  subst hn
  have h1 : OwnIns D L vs W := h.ro 1 rfl
  refine Own.step (A := [.row v 3 1 g.inp.length (intCs g.inp), ownE D L vs]) (A' := [ownE (fun k => D k ∨ v.ownBlock = some k) (L ++ [g]) (vs ++ [v])]) h (Frame.refl NoB W) (fun _ _ hn => hn.elim) (fun e he => ?_) (List.pairwise_singleton _ _) (fun e he k hk => ?_)
  · rw [List.mem_singleton.1 he]
    exact ⟨h1.snoc (h.row 0 rfl), fun k hk => hk.elim (fun q => (h.get 1 rfl).2.1 k q) (fun q => (World.ownsRow.lt (h.row 0 rfl) k q).2), fun _ _ _ hk h => h.move hk⟩
  · rw [List.mem_singleton.1 he] at hk ⊢
    refine .inl ?_
    rcases hk with q | q
    · exact ⟨ownE D L vs, by simp, q, fun h => h.elim⟩
    · exact ⟨.row v 3 1 g.inp.length (intCs g.inp), by simp, q, fun h => h.elim⟩
/-- A new row's block is new. -/
theorem Own.rownew {T sz n : Nat} {v : Value} {xs : List Value} (h : Own Z0 w0 W LL) (i : Nat) (hi : LL[i]? = some (.row v T sz n xs)) : ∀ k, v.ownBlock = some k → w0.heap.size ≤ k := fun k hk => ((h.newrow i hi).lt k hk).1
end
theorem markIn_cons (u : List Bool) (x : Int) (l : List Int) : markIn u (x :: l) = markIn (u.set x.toNat true) l := rfl
theorem markIn_len : ∀ (l : List Int) (u : List Bool), (markIn u l).length = u.length
  | [], _ => rfl
  | x :: l, u => by rw [markIn_cons, markIn_len l]; simp
theorem useGo_succ (L : List Gate) {j : Nat} (u : List Bool) (h : j < L.length) : useGo L (j + 1) u = useGo L j (if u.getD j false then markIn u L[j].inp else u) := by
  rw [useGo]
  simp [gateAt, List.getElem?_eq_getElem h]
/-- The list of inputs while it is renumbered. -/
def renum (p : List Int) (inp : List Int) (k : Nat) : List Int := (inp.take k).map (fun x => p.getD x.toNat 0) ++ inp.drop k
theorem renum_zero (p inp : List Int) : renum p inp 0 = inp := by simp [renum]
theorem renum_full (p inp : List Int) : renum p inp inp.length = inp.map (fun x => p.getD x.toNat 0) := by simp [renum]
theorem renum_get (p inp : List Int) {k : Nat} {x : Int} (h : inp[k]? = some x) : (renum p inp k)[k]? = some x := by
  have hk := (List.getElem?_eq_some_iff.1 h).1
  unfold renum
  rw [List.getElem?_append_right (by simp; omega)]
  simp only [List.length_map, List.length_take, Nat.min_eq_left (Nat.le_of_lt hk), Nat.sub_self, List.getElem?_drop, Nat.add_zero]
  exact h
theorem renum_succ (p inp : List Int) {k : Nat} {x : Int} (h : inp[k]? = some x) : (renum p inp k).set k (p.getD x.toNat 0) = renum p inp (k + 1) := by
  obtain ⟨hk, rfl⟩ := List.getElem?_eq_some_iff.1 h
  unfold renum
  rw [List.set_append_right _ _ (by simp; omega)]
  simp only [List.length_map, List.length_take, Nat.min_eq_left (Nat.le_of_lt hk), Nat.sub_self]
  have e : inp.take (k + 1) = inp.take k ++ [inp[k]] := (List.take_append_getElem hk).symm
  rw [List.drop_eq_getElem_cons hk, List.set_cons_zero, e, List.map_append]
  simp only [List.map_cons, List.map_nil, List.append_assoc, List.singleton_append]
theorem intCs_set (l : List Int) (k : Nat) (x : Int) : (intCs l).set k (.int .i64 x) = intCs (l.set k x) := by simp [intCs, List.map_set]
end Go.Proofs.YtbemhgojfehnjaaDoor
namespace Go.Proofs.YtbemhgojfehnjaaDoor
open Go Go.RowKit
theorem IntsV.at1 {w : World} {B n c : Nat} {A : Option Addr} {xs : List Int} (h : IntsV w B (.slice A n c) xs) {b o n' c' k : Nat} {x : Int} (hb : Value.slice A n c = .slice (some ⟨b, o, none⟩) n' c') (hk : k < xs.length) (hx : xs[k]? = some x) : w.cell? ⟨b, o + k, none⟩ = some (.int .i64 x) := by
  injection hb with h1 _ _
  subst h1
  obtain ⟨b', o', hA, _, h2⟩ := h.at_ (Below.refl _ _) hk
  injection hA with hA
  injection hA with h3 h4 _
  subst h3 h4
  rw [h2]
  rw [List.getElem?_eq_getElem hk] at hx
  injection hx with hx
  rw [hx]
theorem needed_ {W : World} {R : Option Addr} {c rt B : Nat} {N : Int} {D : Nat → Prop} {L : List Gate} {vs : List Value} (hrow : W.ownsRow 0 38 3 (.slice R L.length c) L.length (gcells L vs)) (hI : Ins D L vs W) (hDlt : ∀ k, D k → k < W.heap.size) (hwf : wfL N B L) (hB : B ≤ 1000000) (hL : L.length ≤ 1000000) (hc : L.length ≤ c) (hrt : rt < L.length) :
    Calls Tryd.prog 40 #[.slice R L.length c, .int .i64 (rt : Int)] W fun e w' => ∃ A cA D' vo, e = .returned (.slice A (neededG L (rt : Int)).length cA) ∧ Own Z0 W w' [.row (.slice A (neededG L (rt : Int)).length cA) 38 3 (neededG L (rt : Int)).length (gcells (neededG L (rt : Int)) vo), ownE D' (neededG L (rt : Int)) vo] ∧ ∀ k, D' k → W.heap.size ≤ k := by
  have hins : Ins D L vs W := hI
  have hvl := hins.1
  obtain ⟨r, rfl⟩ := rowaddr hrow (by omega)
  have hr : r < W.heap.size := (World.ownsRow.lt hrow r rfl).2
  have O0 : Own Z0 W W [] := Own.start W
  refine sx_enter (args := [.slice (some ⟨r, 0, none⟩) L.length c, .int .i64 (rt : Int)]) Tryd.func40 rfl rfl (by simp) ?_
  refine cw_seq (fun FK1 K1 => ?_)
  refine cw_region ?_
  refine wl_val (v := .slice none 0 0) (fun ρ e => ex_assign (e _ _ rfl)) rfl rfl ?_
  refine wl_nil ?_
  refine xw_next K1 ?_
  refine cw_seq (fun FK2 K2 => ?_)
  refine cw_region ?_
  refine wl_val (v := .int .i64 (rt : Int)) (fun ρ e => ex_move (e _ _ rfl)) rfl rfl ?_
  refine wl_val (v := .int .i64 ((rt + 1 : Nat) : Int)) (fun ρ e => ex_arith (k := .i64) (u := (rt : Int)) (v := 1) (e _ _ rfl) (e _ _ rfl) (congrArg some ((congrArg _ (by omega)).trans (wrap_in (u := ((rt + 1 : Nat) : Int)) (by omega) (by omega))))) rfl rfl ?_
  obtain ⟨g3, w4, r5, O6, hg7, hs8⟩ := own_make1 O0 ap41 rfl (rt + 1) (by decide) (by omega) (cs := (boolCs (List.replicate (rt + 1) false)).toArray) (by simp [boolCs])
  refine wl_val (v := .slice (some ⟨g3, 0, none⟩) (rt + 1) (rt + 1)) (fun ρ e => r5 ρ _ _ _ _ _ _ _ (e _ _ rfl) (e _ _ rfl)) rfl rfl ?_
  refine wl_val (v := .slice (some ⟨g3, 0, none⟩) (rt + 1) (rt + 1)) (fun ρ e => ex_assign (e _ _ rfl)) rfl rfl ?_
  refine wl_nil ?_
  refine xw_next K2 ?_
  refine cw_seq (fun FK9 K9 => ?_)
  refine cw_region ?_
  refine wl_val (v := .slice (some ⟨g3, 0, none⟩) (rt + 1) (rt + 1)) (fun ρ e => ex_move (e _ _ rfl)) rfl rfl ?_
  refine wl_val (v := .int .i64 (rt : Int)) (fun ρ e => ex_move (e _ _ rfl)) rfl rfl ?_
  refine wl_val (v := .pointer (some ⟨g3, rt, none⟩)) (fun ρ e => ex_idx (q := rt) (i := rt) el41 (e _ _ rfl) (e _ _ rfl) (by omega) (by omega)) rfl rfl ?_
  obtain ⟨w10, r11, O12, hs13⟩ := own_put (o := rt) (n := 1) O6 ty4 (.bool true) [.bool true] (cs' := (boolCs ((List.replicate (rt + 1) false).set rt true)).toArray) rfl rfl rfl (by simp [boolCs] <;> omega) (setBo (List.replicate (rt + 1) false) rt true)
  refine wl_none (fun ρ e => r11 ρ _ _ _ _ _ _ (e _ _ rfl) (e _ _ rfl)) rfl ?_
  refine wl_nil ?_
  refine xw_next K9 ?_
  refine cw_seq (fun FK14 K14 => ?_)
  refine cw_seq (fun FK15 K15 => ?_)
  refine cw_region ?_
  refine wl_val (v := .int .i64 (rt : Int)) (fun ρ e => ex_move (e _ _ rfl)) rfl rfl ?_
  refine wl_val (v := .int .i64 (rt : Int)) (fun ρ e => ex_assign (e _ _ rfl)) rfl rfl ?_
  refine wl_nil ?_
  refine xw_next K15 ?_
  refine cw_block ?_
  refine cw_loop (ι := Nat × Int × List Bool) (fun q => [(0, .slice (some ⟨r, 0, none⟩) L.length c), (1, .int .i64 (rt : Int)), (5, .slice (some ⟨g3, 0, none⟩) (rt + 1) (rt + 1)), (6, .int .i64 q.2.1)]) (fun q X => (q.1 ≤ rt + 1) ∧ (q.2.1 = (q.1 : Int) - 1) ∧ (q.2.2.length = rt + 1) ∧ (useOf L rt = useGo L q.1 q.2.2) ∧ Own Z0 W X [.blk g3 4 ((boolCs q.2.2).toArray)]) (fun q => q.1) (rt + 1, (rt : Int), ((List.replicate (rt + 1) false).set rt true)) ⟨Nat.le_refl _, (by show (rt : Int) = ((rt + 1 : Nat) : Int) - 1; omega), (by show (List.set _ _ _).length = _; simp), rfl, O12⟩ ⟨rfl, rfl, rfl, rfl, trivial⟩ (fun q w16 hJ F17 K18 => ?_)
  obtain ⟨j, t, u⟩ := q
  obtain ⟨hj, ht, hul, hu, O19⟩ := hJ
  dsimp only at hj ht hul hu O19 ⊢
  rcases j with _ | j
  · skip
    simp only [useGo] at hu
    refine cw_seq (fun FK20 K20 => ?_)
    refine cw_seq (fun FK21 K21 => ?_)
    refine cw_region ?_
    refine wl_val (v := .int .i64 t) (fun ρ e => ex_move (e _ _ rfl)) rfl rfl ?_
    refine wl_val (v := .bool false) (fun ρ e => ex_cmp (u := t) (v := 0) (e _ _ rfl) (e _ _ rfl) (geq0 (by omega))) rfl rfl ?_
    refine wl_nil ?_
    refine xw_next K21 ?_
    refine cw_false rfl ?_
    refine cw_exit ?_
    refine xw_past (by intro h; cases h) ?_
    refine xw_past (by intro h; cases h) ?_
    refine xw_here ?_
    refine xw_next K14 ?_
    refine cw_seq (fun FK22 K22 => ?_)
    refine cw_region ?_
    refine wl_val (v := .slice none 0 0) (fun ρ e => ex_assign (e _ _ rfl)) rfl rfl ?_
    refine wl_nil ?_
    refine xw_next K22 ?_
    refine cw_seq (fun FK23 K23 => ?_)
    refine cw_region ?_
    refine wl_val (v := .int .i64 (rt : Int)) (fun ρ e => ex_move (e _ _ rfl)) rfl rfl ?_
    refine wl_val (v := .int .i64 ((rt + 1 : Nat) : Int)) (fun ρ e => ex_arith (k := .i64) (u := (rt : Int)) (v := 1) (e _ _ rfl) (e _ _ rfl) (congrArg some ((congrArg _ (by omega)).trans (wrap_in (u := ((rt + 1 : Nat) : Int)) (by omega) (by omega))))) rfl rfl ?_
    obtain ⟨g24, w25, r26, O27, hg28, hs29⟩ := own_make1 O19 ap36 rfl (rt + 1) (by decide) (by omega) (cs := (intCs (List.replicate (rt + 1) 0)).toArray) (by simp [intCs])
    refine wl_val (v := .slice (some ⟨g24, 0, none⟩) (rt + 1) (rt + 1)) (fun ρ e => r26 ρ _ _ _ _ _ _ _ (e _ _ rfl) (e _ _ rfl)) rfl rfl ?_
    refine wl_val (v := .slice (some ⟨g24, 0, none⟩) (rt + 1) (rt + 1)) (fun ρ e => ex_assign (e _ _ rfl)) rfl rfl ?_
    refine wl_nil ?_
    refine xw_next K23 ?_
    refine cw_seq (fun FK30 K30 => ?_)
    refine cw_seq (fun FK31 K31 => ?_)
    refine cw_region ?_
    refine wl_val (v := .slice (some ⟨r, 0, none⟩) L.length c) (fun ρ e => ex_move (e _ _ rfl)) rfl rfl ?_
    refine wl_val (v := .int .i64 (rt : Int)) (fun ρ e => ex_move (e _ _ rfl)) rfl rfl ?_
    refine wl_val (v := .int .i64 ((rt + 1 : Nat) : Int)) (fun ρ e => ex_arith (k := .i64) (u := (rt : Int)) (v := 1) (e _ _ rfl) (e _ _ rfl) (congrArg some ((congrArg _ (by omega)).trans (wrap_in (u := ((rt + 1 : Nat) : Int)) (by omega) (by omega))))) rfl rfl ?_
    refine wl_val (v := .slice (some ⟨r, 0, none⟩) (rt + 1) c) (fun ρ e => ex_sliceHi (h := rt + 1) (n := L.length) el22 (e _ _ rfl) (e _ _ rfl) (by omega)) rfl rfl ?_
    refine wl_val (v := .int .i64 ((rt + 1 : Nat) : Int)) (fun ρ e => ex_len el22 (e _ _ rfl)) rfl rfl ?_
    refine wl_val (v := .int .i64 0) (fun ρ e => ex_move (e _ _ rfl)) rfl rfl ?_
    refine wl_nil ?_
    refine xw_next K31 ?_
    refine cw_block ?_
    have O32 : Own Z0 W w25 [.row (.slice none 0 0) 38 3 0 (gcells [] []), .blk g24 3 ((intCs (List.replicate (rt + 1) 0)).toArray), .blk g3 4 ((boolCs u).toArray)] := O27.nilrow 38 3
    have O33 : Own Z0 W w25 [.ro (fun _ => False) (OwnIns (fun _ => False) [] []), .row (.slice none 0 0) 38 3 0 (gcells [] []), .blk g24 3 ((intCs (List.replicate (rt + 1) 0)).toArray), .blk g3 4 ((boolCs u).toArray)] := O32.nilown
    have O34 : Own Z0 W w25 [.row (.slice none 0 0) 38 3 0 (gcells [] []), .ro (fun _ => False) (OwnIns (fun _ => False) [] []), .blk g24 3 ((intCs (List.replicate (rt + 1) 0)).toArray), .blk g3 4 ((boolCs u).toArray)] := (O33.re [1, 0, 2, 3] rfl : Own Z0 W w25 [.row (.slice none 0 0) 38 3 0 (gcells [] []), .ro (fun _ => False) (OwnIns (fun _ => False) [] []), .blk g24 3 ((intCs (List.replicate (rt + 1) 0)).toArray), .blk g3 4 ((boolCs u).toArray)])
    have hul0 := hul
    skip
    refine cw_loop (ι := Nat × Option Addr × Nat × Nat × List Gate × List Value × (Nat → Prop) × List Int) (fun q => [(5, .slice (some ⟨g3, 0, none⟩) (rt + 1) (rt + 1)), (9, .slice q.2.1 q.2.2.2.1 q.2.2.1), (10, .slice (some ⟨g24, 0, none⟩) (rt + 1) (rt + 1)), (51, .slice (some ⟨r, 0, none⟩) (rt + 1) c), (52, .int .i64 ((rt + 1 : Nat) : Int)), (53, .int .i64 (q.1 : Int))]) (fun q X => (q.1 ≤ rt + 1) ∧ (q.2.2.2.1 = q.2.2.2.2.1.length) ∧ (q.2.2.2.1 ≤ q.1) ∧ (q.2.2.2.2.2.2.2.length = rt + 1) ∧ (∀ k, q.2.2.2.2.2.2.1 k → W.heap.size ≤ k) ∧ ((placeGo u (L.take (rt + 1)) 0 ([], List.replicate (rt + 1) 0)).1 = (placeGo u ((L.take (rt + 1)).drop q.1) q.1 (q.2.2.2.2.1, q.2.2.2.2.2.2.2)).1) ∧ Own Z0 W X [.row (.slice q.2.1 q.2.2.2.1 q.2.2.1) 38 3 q.2.2.2.1 (gcells q.2.2.2.2.1 q.2.2.2.2.2.1), .ro q.2.2.2.2.2.2.1 (OwnIns q.2.2.2.2.2.2.1 q.2.2.2.2.1 q.2.2.2.2.2.1), .blk g24 3 ((intCs q.2.2.2.2.2.2.2).toArray), .blk g3 4 ((boolCs u).toArray)]) (fun q => rt + 1 - q.1) (0, none, 0, 0, [], [], (fun _ => False), (List.replicate (rt + 1) 0)) ⟨Nat.zero_le _, rfl, Nat.zero_le _, (by show (List.replicate _ _).length = _; simp), (fun k hk => hk.elim), rfl, O34⟩ ⟨rfl, rfl, rfl, rfl, rfl, rfl, trivial⟩ (fun q w35 hJ F36 K37 => ?_)
    obtain ⟨i, A, cA, n, o, vo, Do, p⟩ := q
    obtain ⟨hi0, hn, hni, hpl, hDo, hgo, O38⟩ := hJ
    dsimp only at hi0 hn hni hpl hDo hgo O38 ⊢
    by_cases hi : i < rt + 1
    · have hqi : i < L.length := by omega
      obtain ⟨ub, hub⟩ : ∃ b, u[i]? = some b := ⟨u[i], List.getElem?_eq_getElem (by omega)⟩
      have hdr : (L.take (rt + 1)).drop i = L[i] :: (L.take (rt + 1)).drop (i + 1) := by rw [List.drop_eq_getElem_cons (by simp; omega), List.getElem_take]
      rw [hdr, placeGo, List.getD_eq_getElem?_getD, hub] at hgo
      cases ub
      · skip
        simp only [Option.getD_some, if_true, Bool.false_eq_true, if_false] at hgo
        refine cw_seq (fun FK39 K39 => ?_)
        refine cw_region ?_
        refine wl_val (v := .bool true) (fun ρ e => ex_cmp (u := (i : Int)) (v := ((rt + 1 : Nat) : Int)) (e _ _ rfl) (e _ _ rfl) (lss1 (by omega))) rfl rfl ?_
        refine wl_nil ?_
        refine xw_next K39 ?_
        refine cw_seq (fun FK40 K40 => ?_)
        refine cw_true rfl ?_
        refine cw_skip ?_
        refine xw_next K40 ?_
        refine cw_seq (fun FK41 K41 => ?_)
        refine cw_block ?_
        refine cw_seq (fun FK42 K42 => ?_)
        obtain ⟨hg0, hg1, hg2⟩ := gcells_get (L := L) (vs := vs) (List.getElem?_eq_getElem hqi) (List.getElem?_eq_getElem (show i < vs.length by omega))
        have hD := hins.2 i _ _ (List.getElem?_eq_getElem hqi) (List.getElem?_eq_getElem (show i < vs.length by omega))
        have hwg := hwf i _ (List.getElem?_eq_getElem hqi)
        have hIV : IntsV W W.heap.size vs[i] L[i].inp := hD.V hDlt
        obtain ⟨AI, cI, hAI⟩ := hD.slice
        rw [hAI] at hg2 hIV
        refine cw_region ?_
        refine wl_val (v := .int .i64 (i : Int)) (fun ρ e => ex_move (e _ _ rfl)) rfl rfl ?_
        refine wl_val (v := .pointer (some ⟨r, i * 3, none⟩)) (fun ρ e => ex_idx (q := i * 3) (i := i) el22 (e _ _ rfl) (e _ _ rfl) (by omega) (by omega)) rfl rfl ?_
        refine wl_val (v := .agg #[.int .i64 (L[i].kind), .int .i64 (L[i].lit), .slice AI (L[i].inp.length) cI]) (fun ρ e => ex_loadN (vs := [.int .i64 (L[i].kind), .int .i64 (L[i].lit), .slice AI (L[i].inp.length) cI]) ty38 (e _ _ rfl) rfl (cells3 ((O38.old.cell (p := ⟨r, i * 3, none⟩) hr).trans (rowcell hrow hg0)) ((O38.old.cell (p := ⟨r, i * 3 + 1, none⟩) hr).trans (rowcell hrow hg1)) ((O38.old.cell (p := ⟨r, i * 3 + 2, none⟩) hr).trans (rowcell hrow hg2)))) rfl rfl ?_
        obtain ⟨g43, w44, r45, O46, hg47, hs48⟩ := own_alloc O38 38 ze38 rfl
        refine wl_val (v := .pointer (some ⟨g43, 0, none⟩)) (fun ρ e => r45 ρ _ _ _ _ _) rfl rfl ?_
        refine wl_val (v := .int .i64 (i : Int)) (fun ρ e => ex_assign (e _ _ rfl)) rfl rfl ?_
        obtain ⟨w49, r50, O51, hs52⟩ := own_put (o := 0) (n := 3) O46 ty38 (.agg #[.int .i64 (L[i].kind), .int .i64 (L[i].lit), .slice AI (L[i].inp.length) cI]) [.int .i64 (L[i].kind), .int .i64 (L[i].lit), .slice AI (L[i].inp.length) cI] (cs' := #[.int .i64 (L[i].kind), .int .i64 (L[i].lit), .slice AI (L[i].inp.length) cI]) rfl rfl rfl (Nat.le_of_ble_eq_true rfl) rfl
        refine wl_none (fun ρ e => r50 ρ _ _ _ _ _ _ (e _ _ rfl) (e _ _ rfl)) rfl ?_
        refine wl_nil ?_
        refine xw_next K42 ?_
        refine cw_seq (fun FK53 K53 => ?_)
        refine cw_seq (fun FK54 K54 => ?_)
        refine cw_region ?_
        refine wl_val (v := .slice (some ⟨g3, 0, none⟩) (rt + 1) (rt + 1)) (fun ρ e => ex_move (e _ _ rfl)) rfl rfl ?_
        refine wl_val (v := .int .i64 (i : Int)) (fun ρ e => ex_move (e _ _ rfl)) rfl rfl ?_
        refine wl_val (v := .pointer (some ⟨g3, i, none⟩)) (fun ρ e => ex_idx (q := i) (i := i) el41 (e _ _ rfl) (e _ _ rfl) (by omega) (by omega)) rfl rfl ?_
        refine wl_val (v := .bool false) (fun ρ e => ex_load1 ty4 (e _ _ rfl) (O51.cell 4 i rfl (getBo hub))) rfl rfl ?_
        refine wl_val (v := .bool true) (fun ρ e => ex_lnot (b := false) (e _ _ rfl)) rfl rfl ?_
        refine wl_nil ?_
        refine xw_next K54 ?_
        refine cw_true rfl ?_
        refine cw_exit ?_
        refine xw_past (by intro h; cases h) ?_
        refine xw_here ?_
        refine xw_next K41 ?_
        refine cw_region ?_
        refine wl_val (v := .int .i64 ((i + 1 : Nat) : Int)) (fun ρ e => ex_arith (k := .i64) (u := (i : Int)) (v := 1) (e _ _ rfl) (e _ _ rfl) (congrArg some ((congrArg _ (by omega)).trans (wrap_in (u := ((i + 1 : Nat) : Int)) (by omega) (by omega))))) rfl rfl ?_
        refine wl_val (v := .int .i64 ((i + 1 : Nat) : Int)) (fun ρ e => ex_move (e _ _ rfl)) rfl rfl ?_
        refine wl_nil ?_
        refine xw_round K37 (i + 1, A, cA, n, o, vo, Do, p) (by show rt + 1 - (i + 1) < rt + 1 - i; omega) ⟨(by show i + 1 ≤ _; omega), hn, (by show n ≤ i + 1; omega), hpl, hDo, hgo, (O51.re [1, 2, 3, 4] rfl : Own Z0 W w49 [.row (.slice A n cA) 38 3 n (gcells o vo), .ro Do (OwnIns Do o vo), .blk g24 3 ((intCs p).toArray), .blk g3 4 ((boolCs u).toArray)])⟩ ⟨rfl, rfl, rfl, rfl, rfl, rfl, trivial⟩
      · skip
        simp only [Option.getD_some, if_true, Bool.false_eq_true, if_false] at hgo
        refine cw_seq (fun FK55 K55 => ?_)
        refine cw_region ?_
        refine wl_val (v := .bool true) (fun ρ e => ex_cmp (u := (i : Int)) (v := ((rt + 1 : Nat) : Int)) (e _ _ rfl) (e _ _ rfl) (lss1 (by omega))) rfl rfl ?_
        refine wl_nil ?_
        refine xw_next K55 ?_
        refine cw_seq (fun FK56 K56 => ?_)
        refine cw_true rfl ?_
        refine cw_skip ?_
        refine xw_next K56 ?_
        refine cw_seq (fun FK57 K57 => ?_)
        refine cw_block ?_
        refine cw_seq (fun FK58 K58 => ?_)
        obtain ⟨hg0, hg1, hg2⟩ := gcells_get (L := L) (vs := vs) (List.getElem?_eq_getElem hqi) (List.getElem?_eq_getElem (show i < vs.length by omega))
        have hD := hins.2 i _ _ (List.getElem?_eq_getElem hqi) (List.getElem?_eq_getElem (show i < vs.length by omega))
        have hwg := hwf i _ (List.getElem?_eq_getElem hqi)
        have hIV : IntsV W W.heap.size vs[i] L[i].inp := hD.V hDlt
        obtain ⟨AI, cI, hAI⟩ := hD.slice
        rw [hAI] at hg2 hIV
        refine cw_region ?_
        refine wl_val (v := .int .i64 (i : Int)) (fun ρ e => ex_move (e _ _ rfl)) rfl rfl ?_
        refine wl_val (v := .pointer (some ⟨r, i * 3, none⟩)) (fun ρ e => ex_idx (q := i * 3) (i := i) el22 (e _ _ rfl) (e _ _ rfl) (by omega) (by omega)) rfl rfl ?_
        refine wl_val (v := .agg #[.int .i64 (L[i].kind), .int .i64 (L[i].lit), .slice AI (L[i].inp.length) cI]) (fun ρ e => ex_loadN (vs := [.int .i64 (L[i].kind), .int .i64 (L[i].lit), .slice AI (L[i].inp.length) cI]) ty38 (e _ _ rfl) rfl (cells3 ((O38.old.cell (p := ⟨r, i * 3, none⟩) hr).trans (rowcell hrow hg0)) ((O38.old.cell (p := ⟨r, i * 3 + 1, none⟩) hr).trans (rowcell hrow hg1)) ((O38.old.cell (p := ⟨r, i * 3 + 2, none⟩) hr).trans (rowcell hrow hg2)))) rfl rfl ?_
        obtain ⟨g59, w60, r61, O62, hg63, hs64⟩ := own_alloc O38 38 ze38 rfl
        refine wl_val (v := .pointer (some ⟨g59, 0, none⟩)) (fun ρ e => r61 ρ _ _ _ _ _) rfl rfl ?_
        refine wl_val (v := .int .i64 (i : Int)) (fun ρ e => ex_assign (e _ _ rfl)) rfl rfl ?_
        obtain ⟨w65, r66, O67, hs68⟩ := own_put (o := 0) (n := 3) O62 ty38 (.agg #[.int .i64 (L[i].kind), .int .i64 (L[i].lit), .slice AI (L[i].inp.length) cI]) [.int .i64 (L[i].kind), .int .i64 (L[i].lit), .slice AI (L[i].inp.length) cI] (cs' := #[.int .i64 (L[i].kind), .int .i64 (L[i].lit), .slice AI (L[i].inp.length) cI]) rfl rfl rfl (Nat.le_of_ble_eq_true rfl) rfl
        refine wl_none (fun ρ e => r66 ρ _ _ _ _ _ _ (e _ _ rfl) (e _ _ rfl)) rfl ?_
        refine wl_nil ?_
        refine xw_next K58 ?_
        refine cw_seq (fun FK69 K69 => ?_)
        refine cw_seq (fun FK70 K70 => ?_)
        refine cw_region ?_
        refine wl_val (v := .slice (some ⟨g3, 0, none⟩) (rt + 1) (rt + 1)) (fun ρ e => ex_move (e _ _ rfl)) rfl rfl ?_
        refine wl_val (v := .int .i64 (i : Int)) (fun ρ e => ex_move (e _ _ rfl)) rfl rfl ?_
        refine wl_val (v := .pointer (some ⟨g3, i, none⟩)) (fun ρ e => ex_idx (q := i) (i := i) el41 (e _ _ rfl) (e _ _ rfl) (by omega) (by omega)) rfl rfl ?_
        refine wl_val (v := .bool true) (fun ρ e => ex_load1 ty4 (e _ _ rfl) (O67.cell 4 i rfl (getBo hub))) rfl rfl ?_
        refine wl_val (v := .bool false) (fun ρ e => ex_lnot (b := true) (e _ _ rfl)) rfl rfl ?_
        refine wl_nil ?_
        refine xw_next K70 ?_
        refine cw_false rfl ?_
        refine cw_skip ?_
        refine xw_next K69 ?_
        refine cw_seq (fun FK71 K71 => ?_)
        refine cw_region ?_
        refine wl_val (v := .pointer (some ⟨g59, 2, none⟩)) (fun ρ e => ex_field (q := 2) fi38_2 (e _ _ rfl) rfl) rfl rfl ?_
        refine wl_val (v := .slice AI (L[i].inp.length) cI) (fun ρ e => ex_load1 ty36 (e _ _ rfl) (O67.cell 0 2 rfl rfl)) rfl rfl ?_
        refine wl_call (args := [.slice AI (L[i].inp.length) cI]) in_66 rfl rfl rfl ?_
        refine (clone_ ((hIV.below O67.old).more O67.old.size) (by omega)).mono ?_
        rintro _ w74 ⟨A72, cA2, rfl, h75⟩
        have h75n := h75.rownew 0 rfl
        have h75s := O67.old.size
        have O76 : Own Z0 W w74 [.row (.slice A72 (L[i].inp.length) cA2) 3 1 (L[i].inp.length) (intCs L[i].inp), .blk g59 38 #[.int .i64 (L[i].kind), .int .i64 (L[i].lit), .slice AI (L[i].inp.length) cI], .row (.slice A n cA) 38 3 n (gcells o vo), .ro Do (OwnIns Do o vo), .blk g24 3 ((intCs p).toArray), .blk g3 4 ((boolCs u).toArray)] := O67.join1 h75 trivial
        refine ⟨_, rfl, ?_⟩
        refine wl_val (v := .slice A72 (L[i].inp.length) cA2) (fun ρ e => ex_assign (e _ _ rfl)) rfl rfl ?_
        refine wl_nil ?_
        refine xw_next K71 ?_
        refine cw_seq (fun FK77 K77 => ?_)
        refine cw_seq (fun FK78 K78 => ?_)
        refine cw_region ?_
        refine wl_val (v := .slice A72 (L[i].inp.length) cA2) (fun ρ e => ex_move (e _ _ rfl)) rfl rfl ?_
        refine wl_val (v := .int .i64 ((L[i].inp.length : Nat) : Int)) (fun ρ e => ex_len el36 (e _ _ rfl)) rfl rfl ?_
        refine wl_val (v := .int .i64 0) (fun ρ e => ex_move (e _ _ rfl)) rfl rfl ?_
        refine wl_nil ?_
        refine xw_next K78 ?_
        refine cw_block ?_
        have O79 : Own Z0 W w74 [.row (.slice A72 (L[i].inp.length) cA2) 3 1 (L[i].inp.length) (intCs L[i].inp), .blk g59 38 #[.int .i64 (L[i].kind), .int .i64 (L[i].lit), .slice AI (L[i].inp.length) cI], .row (.slice A n cA) 38 3 n (gcells o vo), .ro Do (OwnIns Do o vo), .blk g24 3 ((intCs p).toArray), .blk g3 4 ((boolCs u).toArray)] := O76
        refine cw_loop (ι := Nat × List Int) (fun q => [(5, .slice (some ⟨g3, 0, none⟩) (rt + 1) (rt + 1)), (9, .slice A n cA), (10, .slice (some ⟨g24, 0, none⟩) (rt + 1) (rt + 1)), (11, .int .i64 (i : Int)), (12, .pointer (some ⟨g59, 0, none⟩)), (13, .slice A72 (L[i].inp.length) cA2), (51, .slice (some ⟨r, 0, none⟩) (rt + 1) c), (52, .int .i64 ((rt + 1 : Nat) : Int)), (53, .int .i64 (i : Int)), (66, .slice A72 (L[i].inp.length) cA2), (67, .int .i64 ((L[i].inp.length : Nat) : Int)), (68, .int .i64 (q.1 : Int))]) (fun q X => (q.1 ≤ L[i].inp.length) ∧ (q.2 = renum p L[i].inp q.1) ∧ Own Z0 W X [.row (.slice A72 (L[i].inp.length) cA2) 3 1 (L[i].inp.length) (intCs q.2), .blk g59 38 #[.int .i64 (L[i].kind), .int .i64 (L[i].lit), .slice AI (L[i].inp.length) cI], .row (.slice A n cA) 38 3 n (gcells o vo), .ro Do (OwnIns Do o vo), .blk g24 3 ((intCs p).toArray), .blk g3 4 ((boolCs u).toArray)]) (fun q => L[i].inp.length - q.1) (0, L[i].inp) ⟨Nat.zero_le _, (renum_zero p _).symm, O79⟩ ⟨rfl, rfl, rfl, rfl, rfl, rfl, rfl, rfl, rfl, rfl, rfl, rfl, trivial⟩ (fun q w80 hJ F81 K82 => ?_)
        obtain ⟨k2, y⟩ := q
        obtain ⟨hk20, hy, O83⟩ := hJ
        dsimp only at hk20 hy O83 ⊢
        by_cases hk2 : k2 < L[i].inp.length
        · obtain ⟨gc, rfl⟩ := O83.rowshape 0 rfl (by omega)
          obtain ⟨x0, hxk, hdr2, hxm⟩ := drop_cons hk2
          have hxr := (good_parts hwg.1).2.2 x0 hxm
          obtain ⟨x, rfl⟩ : ∃ n : Nat, x0 = n := ⟨x0.toNat, by omega⟩
          have hpx : p[x]? = some (p.getD (x : Int).toNat 0) := by simp [List.getElem?_eq_getElem (show x < p.length by omega)]
          refine cw_seq (fun FK84 K84 => ?_)
          refine cw_region ?_
          refine wl_val (v := .bool true) (fun ρ e => ex_cmp (u := (k2 : Int)) (v := ((L[i].inp.length : Nat) : Int)) (e _ _ rfl) (e _ _ rfl) (lss1 (by omega))) rfl rfl ?_
          refine wl_nil ?_
          refine xw_next K84 ?_
          refine cw_seq (fun FK85 K85 => ?_)
          refine cw_true rfl ?_
          refine cw_skip ?_
          refine xw_next K85 ?_
          refine cw_seq (fun FK86 K86 => ?_)
          refine cw_block ?_
          refine cw_seq (fun FK87 K87 => ?_)
          refine cw_region ?_
          refine wl_val (v := .int .i64 (k2 : Int)) (fun ρ e => ex_move (e _ _ rfl)) rfl rfl ?_
          refine wl_val (v := .pointer (some ⟨gc, k2, none⟩)) (fun ρ e => ex_idx (q := k2) (i := k2) el36 (e _ _ rfl) (e _ _ rfl) (by omega) (by omega)) rfl rfl ?_
          refine wl_val (v := .int .i64 (x : Int)) (fun ρ e => ex_load1 ty3 (e _ _ rfl) (rowcell (O83.row 0 rfl) (j := k2) (by rw [hy]; simp [intCs, renum_get p _ hxk]))) rfl rfl ?_
          refine wl_val (v := .int .i64 (k2 : Int)) (fun ρ e => ex_assign (e _ _ rfl)) rfl rfl ?_
          refine wl_val (v := .int .i64 (x : Int)) (fun ρ e => ex_assign (e _ _ rfl)) rfl rfl ?_
          refine wl_nil ?_
          refine xw_next K87 ?_
          refine cw_region ?_
          refine wl_val (v := .slice (some ⟨gc, 0, none⟩) (L[i].inp.length) cA2) (fun ρ e => ex_move (e _ _ rfl)) rfl rfl ?_
          refine wl_val (v := .int .i64 (k2 : Int)) (fun ρ e => ex_move (e _ _ rfl)) rfl rfl ?_
          refine wl_val (v := .slice (some ⟨g24, 0, none⟩) (rt + 1) (rt + 1)) (fun ρ e => ex_move (e _ _ rfl)) rfl rfl ?_
          refine wl_val (v := .int .i64 (x : Int)) (fun ρ e => ex_move (e _ _ rfl)) rfl rfl ?_
          refine wl_val (v := .pointer (some ⟨g24, x, none⟩)) (fun ρ e => ex_idx (q := x) (i := x) el36 (e _ _ rfl) (e _ _ rfl) (by omega) (by omega)) rfl rfl ?_
          refine wl_val (v := .int .i64 (p.getD (x : Int).toNat 0)) (fun ρ e => ex_load1 ty3 (e _ _ rfl) (O83.cell 4 x rfl (getI hpx))) rfl rfl ?_
          refine wl_val (v := .pointer (some ⟨gc, k2, none⟩)) (fun ρ e => ex_idx (q := k2) (i := k2) el36 (e _ _ rfl) (e _ _ rfl) (by omega) (by omega)) rfl rfl ?_
          obtain ⟨w88, r89, O90, hs91⟩ := own_putrow (k := k2) O83 ty3 (by omega) (.int .i64 (p.getD (x : Int).toNat 0)) rfl rfl (ys := intCs (renum p L[i].inp (k2 + 1))) (by rw [hy, intCs_set, renum_succ p _ hxk])
          refine wl_none (fun ρ e => r89 ρ _ _ _ _ _ _ (e _ _ rfl) (e _ _ rfl)) rfl ?_
          refine wl_nil ?_
          refine xw_block ?_
          refine xw_next K86 ?_
          refine cw_region ?_
          refine wl_val (v := .int .i64 ((k2 + 1 : Nat) : Int)) (fun ρ e => ex_arith (k := .i64) (u := (k2 : Int)) (v := 1) (e _ _ rfl) (e _ _ rfl) (congrArg some ((congrArg _ (by omega)).trans (wrap_in (u := ((k2 + 1 : Nat) : Int)) (by omega) (by omega))))) rfl rfl ?_
          refine wl_val (v := .int .i64 ((k2 + 1 : Nat) : Int)) (fun ρ e => ex_move (e _ _ rfl)) rfl rfl ?_
          refine wl_nil ?_
          refine xw_round K82 (k2 + 1, (renum p L[i].inp (k2 + 1))) (by show L[i].inp.length - (k2 + 1) < L[i].inp.length - k2; omega) ⟨(by show k2 + 1 ≤ _; omega), rfl, O90⟩ ⟨rfl, rfl, rfl, rfl, rfl, rfl, rfl, rfl, rfl, rfl, rfl, rfl, trivial⟩
        · have hke : k2 = L[i].inp.length := by omega
          rw [hke, renum_full] at hy
          subst hy
          refine cw_seq (fun FK92 K92 => ?_)
          refine cw_region ?_
          refine wl_val (v := .bool false) (fun ρ e => ex_cmp (u := (k2 : Int)) (v := ((L[i].inp.length : Nat) : Int)) (e _ _ rfl) (e _ _ rfl) (lss0 (by omega))) rfl rfl ?_
          refine wl_nil ?_
          refine xw_next K92 ?_
          refine cw_seq (fun FK93 K93 => ?_)
          refine cw_false rfl ?_
          refine cw_exit ?_
          refine xw_past (by intro h; cases h) ?_
          refine xw_past (by intro h; cases h) ?_
          refine xw_here ?_
          refine xw_next K77 ?_
          refine cw_seq (fun FK94 K94 => ?_)
          refine cw_region ?_
          refine wl_val (v := .slice (some ⟨g24, 0, none⟩) (rt + 1) (rt + 1)) (fun ρ e => ex_move (e _ _ rfl)) rfl rfl ?_
          refine wl_val (v := .int .i64 (i : Int)) (fun ρ e => ex_move (e _ _ rfl)) rfl rfl ?_
          refine wl_val (v := .slice A n cA) (fun ρ e => ex_move (e _ _ rfl)) rfl rfl ?_
          refine wl_val (v := .int .i64 (n : Int)) (fun ρ e => ex_len el22 (e _ _ rfl)) rfl rfl ?_
          refine wl_val (v := .pointer (some ⟨g24, i, none⟩)) (fun ρ e => ex_idx (q := i) (i := i) el36 (e _ _ rfl) (e _ _ rfl) (by omega) (by omega)) rfl rfl ?_
          obtain ⟨w95, r96, O97, hs98⟩ := own_put (o := i) (n := 1) (O83.re [4, 0, 1, 2, 3, 5] rfl : Own Z0 W w80 [.blk g24 3 ((intCs p).toArray), .row (.slice A72 (L[i].inp.length) cA2) 3 1 (L[i].inp.length) (intCs (L[i].inp.map (fun x : Int => p.getD x.toNat 0))), .blk g59 38 #[.int .i64 (L[i].kind), .int .i64 (L[i].lit), .slice AI (L[i].inp.length) cI], .row (.slice A n cA) 38 3 n (gcells o vo), .ro Do (OwnIns Do o vo), .blk g3 4 ((boolCs u).toArray)]) ty3 (.int .i64 (n : Int)) [.int .i64 (n : Int)] (cs' := (intCs (p.set i (n : Int))).toArray) rfl rfl rfl (by simp [intCs] <;> omega) (setI p i (n : Int))
          refine wl_none (fun ρ e => r96 ρ _ _ _ _ _ _ (e _ _ rfl) (e _ _ rfl)) rfl ?_
          refine wl_nil ?_
          refine xw_next K94 ?_
          refine cw_region ?_
          refine wl_val (v := .slice A n cA) (fun ρ e => ex_move (e _ _ rfl)) rfl rfl ?_
          refine wl_val (v := .pointer (some ⟨g59, 0, none⟩)) (fun ρ e => ex_field (q := 0) fi38_0 (e _ _ rfl) rfl) rfl rfl ?_
          refine wl_val (v := .int .i64 (L[i].kind)) (fun ρ e => ex_load1 ty3 (e _ _ rfl) (O97.cell 2 0 rfl rfl)) rfl rfl ?_
          refine wl_val (v := .pointer (some ⟨g59, 1, none⟩)) (fun ρ e => ex_field (q := 1) fi38_1 (e _ _ rfl) rfl) rfl rfl ?_
          refine wl_val (v := .int .i64 (L[i].lit)) (fun ρ e => ex_load1 ty3 (e _ _ rfl) (O97.cell 2 1 rfl rfl)) rfl rfl ?_
          refine wl_val (v := .slice A72 (L[i].inp.length) cA2) (fun ρ e => ex_move (e _ _ rfl)) rfl rfl ?_
          refine wl_val (v := .agg #[.int .i64 (L[i].kind), .int .i64 (L[i].lit), .slice A72 (L[i].inp.length) cA2]) (fun ρ e => ex_build (cells := #[.int .i64 (L[i].kind), .int .i64 (L[i].lit), .slice A72 (L[i].inp.length) cA2]) st38 (e.parts rfl) rfl) rfl rfl ?_
          obtain ⟨g99, w100, r101, O102, hg103, hs104⟩ := own_slice O97 el22 ze38 1 [(0, .agg #[.int .i64 (L[i].kind), .int .i64 (L[i].lit), .slice A72 (L[i].inp.length) cA2])] (cs := #[.int .i64 (L[i].kind), .int .i64 (L[i].lit), .slice A72 (L[i].inp.length) cA2]) (by decide) (by kernel_rfl)
          refine wl_val (v := .slice (some ⟨g99, 0, none⟩) 1 1) (fun ρ e => r101 ρ _ _ _ _ _ _ (e.parts rfl)) rfl rfl ?_
          obtain ⟨A105, c106, w107, r108, O109, hz110, hc111⟩ := own_app1 (O102.re [4, 0, 1, 2, 3, 5, 6] rfl : Own Z0 W w100 [.row (.slice A n cA) 38 3 n (gcells o vo), .blk g99 38 #[.int .i64 (L[i].kind), .int .i64 (L[i].lit), .slice A72 (L[i].inp.length) cA2], .blk g24 3 ((intCs (p.set i (n : Int))).toArray), .row (.slice A72 (L[i].inp.length) cA2) 3 1 (L[i].inp.length) (intCs (L[i].inp.map (fun x : Int => p.getD x.toNat 0))), .blk g59 38 #[.int .i64 (L[i].kind), .int .i64 (L[i].lit), .slice AI (L[i].inp.length) cI], .ro Do (OwnIns Do o vo), .blk g3 4 ((boolCs u).toArray)]) ap22 ((O102.re [4, 0, 1, 2, 3, 5, 6] rfl : Own Z0 W w100 [.row (.slice A n cA) 38 3 n (gcells o vo), .blk g99 38 #[.int .i64 (L[i].kind), .int .i64 (L[i].lit), .slice A72 (L[i].inp.length) cA2], .blk g24 3 ((intCs (p.set i (n : Int))).toArray), .row (.slice A72 (L[i].inp.length) cA2) 3 1 (L[i].inp.length) (intCs (L[i].inp.map (fun x : Int => p.getD x.toNat 0))), .blk g59 38 #[.int .i64 (L[i].kind), .int .i64 (L[i].lit), .slice AI (L[i].inp.length) cI], .ro Do (OwnIns Do o vo), .blk g3 4 ((boolCs u).toArray)]).blk 1 rfl) (cells := [.int .i64 (L[i].kind), .int .i64 (L[i].lit), .slice A72 (L[i].inp.length) cA2]) rfl rfl (by omega) (by omega) (ys := (gcells (o ++ [(Gate.mk L[i].kind L[i].lit (L[i].inp.map (fun x : Int => p.getD x.toNat 0)))]) (vo ++ [Value.slice A72 (L[i].inp.length) cA2]))) (gcells_snoc (Gate.mk L[i].kind L[i].lit (L[i].inp.map (fun x : Int => p.getD x.toNat 0))) (Value.slice A72 (L[i].inp.length) cA2) o vo (O102.ro 5 rfl : OwnIns Do o vo _).1).symm
          refine wl_val (v := .slice A105 (n + 1) c106) (fun ρ e => r108 ρ _ _ _ _ _ _ _ (e _ _ rfl) (e _ _ rfl)) rfl rfl ?_
          refine wl_val (v := .slice A105 (n + 1) c106) (fun ρ e => ex_assign (e _ _ rfl)) rfl rfl ?_
          refine wl_nil ?_
          refine xw_block ?_
          refine xw_next K57 ?_
          refine cw_region ?_
          refine wl_val (v := .int .i64 ((i + 1 : Nat) : Int)) (fun ρ e => ex_arith (k := .i64) (u := (i : Int)) (v := 1) (e _ _ rfl) (e _ _ rfl) (congrArg some ((congrArg _ (by omega)).trans (wrap_in (u := ((i + 1 : Nat) : Int)) (by omega) (by omega))))) rfl rfl ?_
          refine wl_val (v := .int .i64 ((i + 1 : Nat) : Int)) (fun ρ e => ex_move (e _ _ rfl)) rfl rfl ?_
          refine wl_nil ?_
          have hlm : L[i].inp.length = (L[i].inp.map (fun x : Int => p.getD x.toNat 0)).length := by simp
          have O112 := Own.ownsnoc (v := .slice A72 (L[i].inp.length) cA2) (g := (Gate.mk L[i].kind L[i].lit (L[i].inp.map (fun x : Int => p.getD x.toNat 0)))) (n := L[i].inp.length) (D := Do) (L := o) (vs := vo) (LL := [.row (.slice A105 (n + 1) c106) 38 3 (n + 1) (gcells (o ++ [(Gate.mk L[i].kind L[i].lit (L[i].inp.map (fun x : Int => p.getD x.toNat 0)))]) (vo ++ [Value.slice A72 (L[i].inp.length) cA2])), .blk g99 38 #[.int .i64 (L[i].kind), .int .i64 (L[i].lit), .slice A72 (L[i].inp.length) cA2], .blk g24 3 ((intCs (p.set i (n : Int))).toArray), .blk g59 38 #[.int .i64 (L[i].kind), .int .i64 (L[i].lit), .slice AI (L[i].inp.length) cI], .blk g3 4 ((boolCs u).toArray)]) (O109.re [3, 5, 0, 1, 2, 4, 6] rfl : Own Z0 W w107 [.row (.slice A72 (L[i].inp.length) cA2) 3 1 (L[i].inp.length) (intCs (L[i].inp.map (fun x : Int => p.getD x.toNat 0))), .ro Do (OwnIns Do o vo), .row (.slice A105 (n + 1) c106) 38 3 (n + 1) (gcells (o ++ [(Gate.mk L[i].kind L[i].lit (L[i].inp.map (fun x : Int => p.getD x.toNat 0)))]) (vo ++ [Value.slice A72 (L[i].inp.length) cA2])), .blk g99 38 #[.int .i64 (L[i].kind), .int .i64 (L[i].lit), .slice A72 (L[i].inp.length) cA2], .blk g24 3 ((intCs (p.set i (n : Int))).toArray), .blk g59 38 #[.int .i64 (L[i].kind), .int .i64 (L[i].lit), .slice AI (L[i].inp.length) cI], .blk g3 4 ((boolCs u).toArray)]) hlm
          refine xw_round K37 (i + 1, A105, c106, n + 1, (o ++ [(Gate.mk L[i].kind L[i].lit (L[i].inp.map (fun x : Int => p.getD x.toNat 0)))]), (vo ++ [Value.slice A72 (L[i].inp.length) cA2]), (fun k => Do k ∨ (Value.ownBlock (.slice A72 (L[i].inp.length) cA2)) = some k), (p.set i (n : Int))) (by show rt + 1 - (i + 1) < rt + 1 - i; omega) ⟨(by show i + 1 ≤ _; omega), (by show n + 1 = (o ++ [_]).length; simp [hn]), (by show n + 1 ≤ i + 1; omega), (by show (List.set _ _ _).length = _; simp [hpl]), (fun k hk => hk.elim (hDo k) (fun q => Nat.le_trans h75s (h75n k q))), (hn ▸ hgo), (O112.re [1, 0, 3, 5] rfl : Own Z0 W w107 [.row (.slice A105 (n + 1) c106) 38 3 (n + 1) (gcells (o ++ [(Gate.mk L[i].kind L[i].lit (L[i].inp.map (fun x : Int => p.getD x.toNat 0)))]) (vo ++ [Value.slice A72 (L[i].inp.length) cA2])), .ro (fun k => Do k ∨ (Value.ownBlock (.slice A72 (L[i].inp.length) cA2)) = some k) (OwnIns (fun k => Do k ∨ (Value.ownBlock (.slice A72 (L[i].inp.length) cA2)) = some k) (o ++ [(Gate.mk L[i].kind L[i].lit (L[i].inp.map (fun x : Int => p.getD x.toNat 0)))]) (vo ++ [Value.slice A72 (L[i].inp.length) cA2])), .blk g24 3 ((intCs (p.set i (n : Int))).toArray), .blk g3 4 ((boolCs u).toArray)])⟩ ⟨rfl, rfl, rfl, rfl, rfl, rfl, trivial⟩
    · have hie : i = rt + 1 := by omega
      rw [List.drop_eq_nil_of_le (by simp; omega)] at hgo
      simp only [placeGo] at hgo
      refine cw_seq (fun FK113 K113 => ?_)
      refine cw_region ?_
      refine wl_val (v := .bool false) (fun ρ e => ex_cmp (u := (i : Int)) (v := ((rt + 1 : Nat) : Int)) (e _ _ rfl) (e _ _ rfl) (lss0 (by omega))) rfl rfl ?_
      refine wl_nil ?_
      refine xw_next K113 ?_
      refine cw_seq (fun FK114 K114 => ?_)
      refine cw_false rfl ?_
      refine cw_exit ?_
      refine xw_past (by intro h; cases h) ?_
      refine xw_past (by intro h; cases h) ?_
      refine xw_here ?_
      refine xw_next K30 ?_
      refine cw_seq (fun FK115 K115 => ?_)
      refine cw_region ?_
      refine wl_val (v := .slice A n cA) (fun ρ e => ex_move (e _ _ rfl)) rfl rfl ?_
      refine wl_val (v := .slice A n cA) (fun ρ e => ex_assign (e _ _ rfl)) rfl rfl ?_
      refine wl_nil ?_
      refine xw_next K115 ?_
      refine cw_ret ?_
      refine xw_ret (v := .slice A n cA) (fun T hT => res1 rfl T _ (hT 4 _ rfl)) ?_
      have hres : neededG L (rt : Int) = o := by unfold neededG; rw [Int.toNat_natCast, hu]; exact hgo
      rw [hres, ← hn]
      exact ⟨A, cA, Do, vo, rfl, (O38.re [0, 1] rfl : Own Z0 W w35 [.row (.slice A n cA) 38 3 n (gcells o vo), .ro Do (OwnIns Do o vo)]), hDo⟩
  · obtain rfl : t = (j : Int) := by omega
    have hqj : j < L.length := by omega
    rw [useGo_succ L u hqj] at hu
    obtain ⟨ub, hub⟩ : ∃ b, u[j]? = some b := ⟨u[j], List.getElem?_eq_getElem (by omega)⟩
    rw [List.getD_eq_getElem?_getD, hub] at hu
    simp only [Option.getD_some] at hu
    cases ub
    · skip
      simp only [if_true, Bool.false_eq_true, if_false] at hu
      refine cw_seq (fun FK116 K116 => ?_)
      refine cw_seq (fun FK117 K117 => ?_)
      refine cw_region ?_
      refine wl_val (v := .int .i64 (j : Int)) (fun ρ e => ex_move (e _ _ rfl)) rfl rfl ?_
      refine wl_val (v := .bool true) (fun ρ e => ex_cmp (u := (j : Int)) (v := 0) (e _ _ rfl) (e _ _ rfl) (geq1 (by omega))) rfl rfl ?_
      refine wl_nil ?_
      refine xw_next K117 ?_
      refine cw_true rfl ?_
      refine cw_skip ?_
      refine xw_next K116 ?_
      refine cw_seq (fun FK118 K118 => ?_)
      refine cw_block ?_
      refine cw_seq (fun FK119 K119 => ?_)
      refine cw_region ?_
      refine wl_val (v := .slice (some ⟨g3, 0, none⟩) (rt + 1) (rt + 1)) (fun ρ e => ex_move (e _ _ rfl)) rfl rfl ?_
      refine wl_val (v := .int .i64 (j : Int)) (fun ρ e => ex_move (e _ _ rfl)) rfl rfl ?_
      refine wl_val (v := .pointer (some ⟨g3, j, none⟩)) (fun ρ e => ex_idx (q := j) (i := j) el41 (e _ _ rfl) (e _ _ rfl) (by omega) (by omega)) rfl rfl ?_
      refine wl_val (v := .bool false) (fun ρ e => ex_load1 ty4 (e _ _ rfl) (O19.cell 0 j rfl (getBo hub))) rfl rfl ?_
      refine wl_nil ?_
      refine xw_next K119 ?_
      refine cw_false rfl ?_
      refine cw_skip ?_
      refine xw_block ?_
      refine xw_next K118 ?_
      refine cw_region ?_
      refine wl_val (v := .int .i64 (j : Int)) (fun ρ e => ex_move (e _ _ rfl)) rfl rfl ?_
      refine wl_val (v := .int .i64 ((j : Int) - 1)) (fun ρ e => ex_arith (k := .i64) (u := (j : Int)) (v := 1) (e _ _ rfl) (e _ _ rfl) (congrArg some (wrap_in (by omega) (by omega)))) rfl rfl ?_
      refine wl_val (v := .int .i64 ((j : Int) - 1)) (fun ρ e => ex_assign (e _ _ rfl)) rfl rfl ?_
      refine wl_nil ?_
      refine xw_round K18 (j, ((j : Int) - 1), u) (by show j < j + 1; omega) ⟨(by show j ≤ _; omega), rfl, hul, hu, O19⟩ ⟨rfl, rfl, rfl, rfl, trivial⟩
    · skip
      simp only [if_true, Bool.false_eq_true, if_false] at hu
      refine cw_seq (fun FK120 K120 => ?_)
      refine cw_seq (fun FK121 K121 => ?_)
      refine cw_region ?_
      refine wl_val (v := .int .i64 (j : Int)) (fun ρ e => ex_move (e _ _ rfl)) rfl rfl ?_
      refine wl_val (v := .bool true) (fun ρ e => ex_cmp (u := (j : Int)) (v := 0) (e _ _ rfl) (e _ _ rfl) (geq1 (by omega))) rfl rfl ?_
      refine wl_nil ?_
      refine xw_next K121 ?_
      refine cw_true rfl ?_
      refine cw_skip ?_
      refine xw_next K120 ?_
      refine cw_seq (fun FK122 K122 => ?_)
      refine cw_block ?_
      refine cw_seq (fun FK123 K123 => ?_)
      refine cw_region ?_
      refine wl_val (v := .slice (some ⟨g3, 0, none⟩) (rt + 1) (rt + 1)) (fun ρ e => ex_move (e _ _ rfl)) rfl rfl ?_
      refine wl_val (v := .int .i64 (j : Int)) (fun ρ e => ex_move (e _ _ rfl)) rfl rfl ?_
      refine wl_val (v := .pointer (some ⟨g3, j, none⟩)) (fun ρ e => ex_idx (q := j) (i := j) el41 (e _ _ rfl) (e _ _ rfl) (by omega) (by omega)) rfl rfl ?_
      refine wl_val (v := .bool true) (fun ρ e => ex_load1 ty4 (e _ _ rfl) (O19.cell 0 j rfl (getBo hub))) rfl rfl ?_
      refine wl_nil ?_
      refine xw_next K123 ?_
      refine cw_true rfl ?_
      refine cw_seq (fun FK124 K124 => ?_)
      obtain ⟨hg0, hg1, hg2⟩ := gcells_get (L := L) (vs := vs) (List.getElem?_eq_getElem hqj) (List.getElem?_eq_getElem (show j < vs.length by omega))
      have hD := hins.2 j _ _ (List.getElem?_eq_getElem hqj) (List.getElem?_eq_getElem (show j < vs.length by omega))
      have hwg := hwf j _ (List.getElem?_eq_getElem hqj)
      have hIV : IntsV W W.heap.size vs[j] L[j].inp := hD.V hDlt
      obtain ⟨AI, cI, hAI⟩ := hD.slice
      rw [hAI] at hg2 hIV
      refine cw_region ?_
      refine wl_val (v := .slice (some ⟨r, 0, none⟩) L.length c) (fun ρ e => ex_move (e _ _ rfl)) rfl rfl ?_
      refine wl_val (v := .int .i64 (j : Int)) (fun ρ e => ex_move (e _ _ rfl)) rfl rfl ?_
      refine wl_val (v := .pointer (some ⟨r, j * 3, none⟩)) (fun ρ e => ex_idx (q := j * 3) (i := j) el22 (e _ _ rfl) (e _ _ rfl) (by omega) (by omega)) rfl rfl ?_
      refine wl_val (v := .pointer (some ⟨r, j * 3 + 2, none⟩)) (fun ρ e => ex_field (q := j * 3 + 2) fi38_2 (e _ _ rfl) rfl) rfl rfl ?_
      refine wl_val (v := .slice AI (L[j].inp.length) cI) (fun ρ e => ex_load1 ty36 (e _ _ rfl) ((O19.old.cell (p := ⟨r, j * 3 + 2, none⟩) hr).trans (rowcell hrow hg2))) rfl rfl ?_
      refine wl_val (v := .int .i64 ((L[j].inp.length : Nat) : Int)) (fun ρ e => ex_len el36 (e _ _ rfl)) rfl rfl ?_
      refine wl_val (v := .int .i64 0) (fun ρ e => ex_move (e _ _ rfl)) rfl rfl ?_
      refine wl_nil ?_
      refine xw_next K124 ?_
      refine cw_block ?_
      have O125 : Own Z0 W w16 [.blk g3 4 ((boolCs u).toArray)] := O19
      refine cw_loop (ι := Nat × List Bool) (fun q => [(0, .slice (some ⟨r, 0, none⟩) L.length c), (1, .int .i64 (rt : Int)), (5, .slice (some ⟨g3, 0, none⟩) (rt + 1) (rt + 1)), (6, .int .i64 (j : Int)), (35, .slice AI (L[j].inp.length) cI), (36, .int .i64 ((L[j].inp.length : Nat) : Int)), (37, .int .i64 (q.1 : Int))]) (fun q X => (q.1 ≤ L[j].inp.length) ∧ (q.2.length = rt + 1) ∧ (markIn q.2 (L[j].inp.drop q.1) = markIn u L[j].inp) ∧ Own Z0 W X [.blk g3 4 ((boolCs q.2).toArray)]) (fun q => L[j].inp.length - q.1) (0, u) ⟨Nat.zero_le _, hul, rfl, O125⟩ ⟨rfl, rfl, rfl, rfl, rfl, rfl, rfl, trivial⟩ (fun q w126 hJ F127 K128 => ?_)
      obtain ⟨k2, u2⟩ := q
      obtain ⟨hk20, hul2, hm, O129⟩ := hJ
      dsimp only at hk20 hul2 hm O129 ⊢
      by_cases hk2 : k2 < L[j].inp.length
      · obtain ⟨x0, hxk, hdr, hxm⟩ := drop_cons hk2
        have hxr := (good_parts hwg.1).2.2 x0 hxm
        obtain ⟨x, rfl⟩ : ∃ n : Nat, x0 = n := ⟨x0.toNat, by omega⟩
        obtain ⟨bI, oI, cJ, hbI⟩ := (IntsD.of_V hIV).form (by omega)
        refine cw_seq (fun FK130 K130 => ?_)
        refine cw_region ?_
        refine wl_val (v := .bool true) (fun ρ e => ex_cmp (u := (k2 : Int)) (v := ((L[j].inp.length : Nat) : Int)) (e _ _ rfl) (e _ _ rfl) (lss1 (by omega))) rfl rfl ?_
        refine wl_nil ?_
        refine xw_next K130 ?_
        refine cw_seq (fun FK131 K131 => ?_)
        refine cw_true rfl ?_
        refine cw_skip ?_
        refine xw_next K131 ?_
        refine cw_seq (fun FK132 K132 => ?_)
        refine cw_block ?_
        refine cw_seq (fun FK133 K133 => ?_)
        refine cw_region ?_
        refine wl_val (v := .pointer (some ⟨bI, oI + k2, none⟩)) (fun ρ e => ex_idx (q := oI + k2) (o := oI) (i := k2) el36 ((e _ _ rfl).trans hbI) (e _ _ rfl) hk2 (by omega)) rfl rfl ?_
        refine wl_val (v := .int .i64 (x : Int)) (fun ρ e => ex_load1 ty3 (e _ _ rfl) (((hIV.below O129.old).at1 hbI hk2 hxk))) rfl rfl ?_
        refine wl_val (v := .int .i64 (x : Int)) (fun ρ e => ex_assign (e _ _ rfl)) rfl rfl ?_
        refine wl_nil ?_
        refine xw_next K133 ?_
        refine cw_region ?_
        refine wl_val (v := .slice (some ⟨g3, 0, none⟩) (rt + 1) (rt + 1)) (fun ρ e => ex_move (e _ _ rfl)) rfl rfl ?_
        refine wl_val (v := .int .i64 (x : Int)) (fun ρ e => ex_move (e _ _ rfl)) rfl rfl ?_
        refine wl_val (v := .pointer (some ⟨g3, x, none⟩)) (fun ρ e => ex_idx (q := x) (i := x) el41 (e _ _ rfl) (e _ _ rfl) (by omega) (by omega)) rfl rfl ?_
        obtain ⟨w134, r135, O136, hs137⟩ := own_put (o := x) (n := 1) O129 ty4 (.bool true) [.bool true] (cs' := (boolCs (u2.set x true)).toArray) rfl rfl rfl (by simp [boolCs] <;> omega) (setBo u2 x true)
        refine wl_none (fun ρ e => r135 ρ _ _ _ _ _ _ (e _ _ rfl) (e _ _ rfl)) rfl ?_
        refine wl_nil ?_
        refine xw_block ?_
        refine xw_next K132 ?_
        refine cw_region ?_
        refine wl_val (v := .int .i64 ((k2 + 1 : Nat) : Int)) (fun ρ e => ex_arith (k := .i64) (u := (k2 : Int)) (v := 1) (e _ _ rfl) (e _ _ rfl) (congrArg some ((congrArg _ (by omega)).trans (wrap_in (u := ((k2 + 1 : Nat) : Int)) (by omega) (by omega))))) rfl rfl ?_
        refine wl_val (v := .int .i64 ((k2 + 1 : Nat) : Int)) (fun ρ e => ex_move (e _ _ rfl)) rfl rfl ?_
        refine wl_nil ?_
        refine xw_round K128 (k2 + 1, (u2.set x true)) (by show L[j].inp.length - (k2 + 1) < L[j].inp.length - k2; omega) ⟨(by show k2 + 1 ≤ _; omega), (by show (List.set _ _ _).length = _; simp [hul2]), (by show markIn (u2.set x true) (L[j].inp.drop (k2 + 1)) = _; rw [← hm, hdr, markIn_cons]; rfl), O136⟩ ⟨rfl, rfl, rfl, rfl, rfl, rfl, rfl, trivial⟩
      · have hke : k2 = L[j].inp.length := by omega
        rw [List.drop_eq_nil_of_le (by omega)] at hm
        have hu3 : useOf L rt = useGo L j u2 := by rw [hu, ← hm]; rfl
        refine cw_seq (fun FK138 K138 => ?_)
        refine cw_region ?_
        refine wl_val (v := .bool false) (fun ρ e => ex_cmp (u := (k2 : Int)) (v := ((L[j].inp.length : Nat) : Int)) (e _ _ rfl) (e _ _ rfl) (lss0 (by omega))) rfl rfl ?_
        refine wl_nil ?_
        refine xw_next K138 ?_
        refine cw_seq (fun FK139 K139 => ?_)
        refine cw_false rfl ?_
        refine cw_exit ?_
        refine xw_past (by intro h; cases h) ?_
        refine xw_past (by intro h; cases h) ?_
        refine xw_here ?_
        refine xw_block ?_
        refine xw_next K122 ?_
        refine cw_region ?_
        refine wl_val (v := .int .i64 (j : Int)) (fun ρ e => ex_move (e _ _ rfl)) rfl rfl ?_
        refine wl_val (v := .int .i64 ((j : Int) - 1)) (fun ρ e => ex_arith (k := .i64) (u := (j : Int)) (v := 1) (e _ _ rfl) (e _ _ rfl) (congrArg some (wrap_in (by omega) (by omega)))) rfl rfl ?_
        refine wl_val (v := .int .i64 ((j : Int) - 1)) (fun ρ e => ex_assign (e _ _ rfl)) rfl rfl ?_
        refine wl_nil ?_
        refine xw_round K18 (j, ((j : Int) - 1), u2) (by show j < j + 1; omega) ⟨(by show j ≤ _; omega), rfl, hul2, hu3, O129⟩ ⟨rfl, rfl, rfl, rfl, trivial⟩
end Go.Proofs.YtbemhgojfehnjaaDoor
