/-
  Lemmas and contracts, joined: Cmany Cxor Fold5 Cfold FoldQ FoldSem3 FoldNf.
-/
import Derived.Test.YtbemhgojfehnjaaDoorPf3
import Derived.Test.YtbemhgojfehnjaaDoorPf1
import Derived.Test.YtbemhgojfehnjaaDoorPf2
namespace Go.Proofs.YtbemhgojfehnjaaDoor
open Go Go.RowKit
theorem manyG_or (L : List Gate) (ins : List Int) : manyG L 5 ins = match manyGo L 0 1 ins [] with
  | .inl i => (L, i)
  | .inr [] => findG L ⟨0, 0, []⟩
  | .inr [x] => (L, x)
  | .inr left => findG L ⟨5, 0, left⟩ := rfl
theorem manyG_and (L : List Gate) (ins : List Int) : manyG L 4 ins = match manyGo L 1 0 ins [] with
  | .inl i => (L, i)
  | .inr [] => findG L ⟨1, 0, []⟩
  | .inr [x] => (L, x)
  | .inr left => findG L ⟨4, 0, left⟩ := rfl
section
variable {W : World} {f m c : Nat} {R : Option Addr} {D DI : Nat → Prop} {L : List Gate} {vs : List Value} {V GV : Value} {kind lit : Int} {ins : List Int}
theorem many5 (O0 : Own (zone (foldE f m R c D L vs ++ [inE DI V ins])) W W (foldE f m R c D L vs ++ [inE DI V ins])) (hin : ∀ x ∈ ins, 0 ≤ x ∧ x < (L.length : Int)) (hil : ins.length ≤ 1000000) (hL : L.length ≤ 1000000) :
    Calls Tryd.prog 62 #[.pointer (some ⟨f, 0, none⟩), .agg #[.int .i64 5, .int .i64 lit, GV], V] W (FPost (foldE f m R c D L vs ++ [inE DI V ins]) W f m (manyG L 5 ins)) := by
  have hV : IntsD DI W V ins := O0.ro 5 rfl
  have hVf := fun (h : 0 < ins.length) => hV.form h
  obtain ⟨AI, cI, rfl⟩ := hV.slice
  refine sx_enter (args := [.pointer (some ⟨f, 0, none⟩), .agg #[.int .i64 5, .int .i64 lit, GV], .slice AI ins.length cI]) Tryd.func62 rfl rfl (by simp) ?_
  refine cw_seq (fun FK1 K1 => ?_)
  refine cw_region ?_
  obtain ⟨g2, w3, r4, O5, hg6, hs7⟩ := own_box O0 38 (.agg #[.int .i64 5, .int .i64 lit, GV]) rfl
  refine wl_val (v := .pointer (some ⟨g2, 0, none⟩)) (fun ρ e => r4 ρ _ _ _ _ _ _ (e _ _ rfl)) rfl rfl ?_
  refine wl_val (v := .int .i64 0) (fun ρ e => ex_assign (e _ _ rfl)) rfl rfl ?_
  refine wl_nil ?_
  refine xw_next K1 ?_
  refine cw_seq (fun FK8 K8 => ?_)
  refine cw_region ?_
  refine wl_val (v := .int .i64 1) (fun ρ e => ex_assign (e _ _ rfl)) rfl rfl ?_
  refine wl_val (v := .int .i64 0) (fun ρ e => ex_assign (e _ _ rfl)) rfl rfl ?_
  refine wl_nil ?_
  refine xw_next K8 ?_
  refine cw_seq (fun FK9 K9 => ?_)
  refine cw_seq (fun FK10 K10 => ?_)
  refine cw_region ?_
  refine wl_val (v := .pointer (some ⟨g2, 0, none⟩)) (fun ρ e => ex_field (q := 0) fi38_0 (e _ _ rfl) rfl) rfl rfl ?_
  refine wl_val (v := .int .i64 5) (fun ρ e => ex_load1 ty3 (e _ _ rfl) (O5.cell 0 0 rfl rfl)) rfl rfl ?_
  refine wl_val (v := .bool true) (fun ρ e => ex_cmp (u := 5) (v := 5) (e _ _ rfl) (e _ _ rfl) (eql1 (by omega))) rfl rfl ?_
  refine wl_nil ?_
  refine xw_next K10 ?_
  refine cw_true rfl ?_
  refine cw_region ?_
  refine wl_val (v := .int .i64 0) (fun ρ e => ex_move (e _ _ rfl)) rfl rfl ?_
  refine wl_val (v := .int .i64 1) (fun ρ e => ex_move (e _ _ rfl)) rfl rfl ?_
  refine wl_val (v := .int .i64 0) (fun ρ e => ex_assign (e _ _ rfl)) rfl rfl ?_
  refine wl_val (v := .int .i64 1) (fun ρ e => ex_assign (e _ _ rfl)) rfl rfl ?_
  refine wl_nil ?_
  refine xw_next K9 ?_
  refine cw_seq (fun FK11 K11 => ?_)
  refine cw_region ?_
  refine wl_val (v := .slice none 0 0) (fun ρ e => ex_assign (e _ _ rfl)) rfl rfl ?_
  refine wl_nil ?_
  refine xw_next K11 ?_
  refine cw_seq (fun FK12 K12 => ?_)
  refine cw_region ?_
  obtain ⟨g13, w14, r15, O16, hg17, hs18⟩ := own_makeMap O5 87
  refine wl_val (v := .map (some g13)) (fun ρ e => r15 ρ _ _ _ _ _) rfl rfl ?_
  refine wl_val (v := .map (some g13)) (fun ρ e => ex_assign (e _ _ rfl)) rfl rfl ?_
  refine wl_nil ?_
  refine xw_next K12 ?_
  refine cw_seq (fun FK19 K19 => ?_)
  refine cw_seq (fun FK20 K20 => ?_)
  refine cw_region ?_
  refine wl_val (v := .slice AI ins.length cI) (fun ρ e => ex_move (e _ _ rfl)) rfl rfl ?_
  refine wl_val (v := .int .i64 ((ins.length : Nat) : Int)) (fun ρ e => ex_len el36 (e _ _ rfl)) rfl rfl ?_
  refine wl_val (v := .int .i64 0) (fun ρ e => ex_move (e _ _ rfl)) rfl rfl ?_
  refine wl_nil ?_
  refine xw_next K20 ?_
  refine cw_block ?_
  have O21 : Own (zone (foldE f m R c D L vs ++ [inE DI (.slice AI ins.length cI) ins])) W w14 [.row (.slice none 0 0) 3 1 0 (intCs []), .map g13 ([]), .blk g2 38 #[.int .i64 5, .int .i64 lit, GV], .blk f 56 #[.slice R L.length c, .map (some m)], .map m (encL strE (keysGo L 0)), .row (.slice R L.length c) 38 3 L.length (gcells L vs), .ro D (Ins D L vs), .ro TabD Tab, .ro DI (fun w => IntsD DI w (.slice AI ins.length cI) ins)] := O16.nilrow 3 1
  have O22 : Own (zone (foldE f m R c D L vs ++ [inE DI (.slice AI ins.length cI) ins])) W w14 [.row (.slice none 0 0) 3 1 0 (intCs []), .map g13 ([]), .blk g2 38 #[.int .i64 5, .int .i64 lit, GV], .blk f 56 #[.slice R L.length c, .map (some m)], .map m (encL strE (keysGo L 0)), .row (.slice R L.length c) 38 3 L.length (gcells L vs), .ro D (Ins D L vs), .ro TabD Tab, .ro DI (fun w => IntsD DI w (.slice AI ins.length cI) ins)] := O21
  refine cw_loop (ι := Nat × Option Addr × Nat × Nat × List Int × List (Int × Value)) (fun q => [(0, .pointer (some ⟨f, 0, none⟩)), (4, .pointer (some ⟨g2, 0, none⟩)), (6, .int .i64 0), (7, .int .i64 0), (8, .int .i64 1), (10, .map (some g13)), (19, .slice AI ins.length cI), (20, .int .i64 ((ins.length : Nat) : Int)), (9, .slice q.2.1 q.2.2.2.1 q.2.2.1), (21, .int .i64 (q.1 : Int))]) (fun q X => (q.1 ≤ ins.length) ∧ (q.2.2.2.1 = q.2.2.2.2.1.length) ∧ (q.2.2.2.1 ≤ q.1) ∧ (seenIs q.2.2.2.2.2 (fun x => decide (x ∈ q.2.2.2.2.1))) ∧ (∀ x ∈ q.2.2.2.2.1, 0 ≤ x ∧ x < (L.length : Int)) ∧ (manyGo L 0 1 ins [] = manyGo L 0 1 (ins.drop q.1) q.2.2.2.2.1) ∧ Own (zone (foldE f m R c D L vs ++ [inE DI (.slice AI ins.length cI) ins])) W X [.row (.slice q.2.1 q.2.2.2.1 q.2.2.1) 3 1 q.2.2.2.1 (intCs q.2.2.2.2.1), .map g13 (encL intE q.2.2.2.2.2), .blk g2 38 #[.int .i64 5, .int .i64 lit, GV], .blk f 56 #[.slice R L.length c, .map (some m)], .map m (encL strE (keysGo L 0)), .row (.slice R L.length c) 38 3 L.length (gcells L vs), .ro D (Ins D L vs), .ro TabD Tab, .ro DI (fun w => IntsD DI w (.slice AI ins.length cI) ins)]) (fun q => ins.length - q.1) (0, none, 0, 0, [], []) ⟨Nat.zero_le _, rfl, Nat.zero_le _, (fun x => by simp [look, lookV]), (fun x hx => absurd hx (List.not_mem_nil)), rfl, O22⟩ ⟨rfl, rfl, rfl, rfl, rfl, rfl, rfl, rfl, rfl, rfl, trivial⟩ (fun q w23 hJ F24 K25 => ?_)
  obtain ⟨k, A, cA, n, l, sl⟩ := q
  obtain ⟨hk0, hn, hnk, hsl, hl1, hgo, O26⟩ := hJ
  dsimp only at hk0 hn hnk hsl hl1 hgo O26 ⊢
  by_cases hk : k < ins.length
  · obtain ⟨x, hxk, hdr, hxm⟩ := drop_cons hk
    have hxL := hin x hxm
    obtain ⟨bI, oI, cJ, hbI⟩ := hVf (by omega)
    refine cw_seq (fun FK27 K27 => ?_)
    refine cw_region ?_
    refine wl_val (v := .bool true) (fun ρ e => ex_cmp (u := (k : Int)) (v := ((ins.length : Nat) : Int)) (e _ _ rfl) (e _ _ rfl) (lss1 (by omega))) rfl rfl ?_
    refine wl_nil ?_
    refine xw_next K27 ?_
    refine cw_seq (fun FK28 K28 => ?_)
    refine cw_true rfl ?_
    refine cw_skip ?_
    refine xw_next K28 ?_
    refine cw_seq (fun FK29 K29 => ?_)
    refine cw_block ?_
    refine cw_seq (fun FK30 K30 => ?_)
    refine cw_region ?_
    refine wl_val (v := .pointer (some ⟨bI, oI + k, none⟩)) (fun ρ e => ex_idx (q := oI + k) (o := oI) (i := k) el36 ((e _ _ rfl).trans hbI) (e _ _ rfl) hk (by omega)) rfl rfl ?_
    refine wl_val (v := .int .i64 x) (fun ρ e => ex_load1 ty3 (e _ _ rfl) (IntsD.cellq ((hbI ▸ (O26.ro 8 rfl)) : IntsD DI _ (.slice (some ⟨bI, oI, none⟩) ins.length cJ) ins) hxk)) rfl rfl ?_
    refine wl_val (v := .int .i64 x) (fun ρ e => ex_assign (e _ _ rfl)) rfl rfl ?_
    refine wl_nil ?_
    refine xw_next K30 ?_
    refine cw_seq (fun FK31 K31 => ?_)
    refine cw_seq (fun FK32 K32 => ?_)
    refine cw_region ?_
    refine wl_val (v := .pointer (some ⟨f, 0, none⟩)) (fun ρ e => ex_move (e _ _ rfl)) rfl rfl ?_
    refine wl_val (v := .int .i64 x) (fun ρ e => ex_move (e _ _ rfl)) rfl rfl ?_
    refine wl_val (v := .int .i64 1) (fun ρ e => ex_move (e _ _ rfl)) rfl rfl ?_
    by_cases c33 : kindAt L x = 1
    · skip
      refine wl_call (args := [.pointer (some ⟨f, 0, none⟩), .int .i64 x, .int .i64 1]) in_82 rfl rfl rfl ?_
      refine (is1 (f := f) (m := m) (R := R) (c := c) (D := D) (L := L) (vs := vs) (rest := [.row (.slice A n cA) 3 1 n (intCs l), .map g13 (encL intE sl), .blk g2 38 #[.int .i64 5, .int .i64 lit, GV], .ro DI (fun w => IntsD DI w (.slice AI ins.length cI) ins)]) (O26.re [3, 4, 5, 6, 7, 0, 1, 2, 8] rfl : Own (zone (foldE f m R c D L vs ++ [inE DI (.slice AI ins.length cI) ins])) W w23 [.blk f 56 #[.slice R L.length c, .map (some m)], .map m (encL strE (keysGo L 0)), .row (.slice R L.length c) 38 3 L.length (gcells L vs), .ro D (Ins D L vs), .ro TabD Tab, .row (.slice A n cA) 3 1 n (intCs l), .map g13 (encL intE sl), .blk g2 38 #[.int .i64 5, .int .i64 lit, GV], .ro DI (fun w => IntsD DI w (.slice AI ins.length cI) ins)]) hxL c33).mono ?_
      rintro _ w34 ⟨rfl, hb35⟩
      have O36 : Own (zone (foldE f m R c D L vs ++ [inE DI (.slice AI ins.length cI) ins])) W w34 [.row (.slice A n cA) 3 1 n (intCs l), .map g13 (encL intE sl), .blk g2 38 #[.int .i64 5, .int .i64 lit, GV], .blk f 56 #[.slice R L.length c, .map (some m)], .map m (encL strE (keysGo L 0)), .row (.slice R L.length c) 38 3 L.length (gcells L vs), .ro D (Ins D L vs), .ro TabD Tab, .ro DI (fun w => IntsD DI w (.slice AI ins.length cI) ins)] := O26.below hb35
      refine ⟨_, rfl, ?_⟩
      refine wl_nil ?_
      refine xw_next K32 ?_
      refine cw_true rfl ?_
      refine cw_seq (fun FK37 K37 => ?_)
      refine cw_region ?_
      refine wl_val (v := .int .i64 x) (fun ρ e => ex_move (e _ _ rfl)) rfl rfl ?_
      refine wl_val (v := .int .i64 x) (fun ρ e => ex_assign (e _ _ rfl)) rfl rfl ?_
      refine wl_nil ?_
      refine xw_next K37 ?_
      refine cw_ret ?_
      refine xw_past (by intro h; cases h) ?_
      refine xw_blockret ?_
      refine xw_past (by intro h; cases h) ?_
      refine xw_past (by intro h; cases h) ?_
      refine xw_blockret ?_
      refine xw_past (by intro h; cases h) ?_
      refine xw_ret (v := .int .i64 x) (fun T hT => res1 rfl T _ (hT 6 _ rfl)) ?_
      exact FPost.eq (q' := (L, x)) ⟨_, _, _, _, rfl, (O36.re [3, 4, 5, 6, 7] rfl : Own (zone (foldE f m R c D L vs ++ [inE DI (.slice AI ins.length cI) ins])) W w34 [.blk f 56 #[.slice R L.length c, .map (some m)], .map m (encL strE (keysGo L 0)), .row (.slice R L.length c) 38 3 L.length (gcells L vs), .ro D (Ins D L vs), .ro TabD Tab])⟩ (by rw [manyG_or, hgo, hdr, manyGo, if_pos c33])
    · skip
      refine wl_call (args := [.pointer (some ⟨f, 0, none⟩), .int .i64 x, .int .i64 1]) in_82 rfl rfl rfl ?_
      refine (is0 (f := f) (m := m) (R := R) (c := c) (D := D) (L := L) (vs := vs) (rest := [.row (.slice A n cA) 3 1 n (intCs l), .map g13 (encL intE sl), .blk g2 38 #[.int .i64 5, .int .i64 lit, GV], .ro DI (fun w => IntsD DI w (.slice AI ins.length cI) ins)]) (O26.re [3, 4, 5, 6, 7, 0, 1, 2, 8] rfl : Own (zone (foldE f m R c D L vs ++ [inE DI (.slice AI ins.length cI) ins])) W w23 [.blk f 56 #[.slice R L.length c, .map (some m)], .map m (encL strE (keysGo L 0)), .row (.slice R L.length c) 38 3 L.length (gcells L vs), .ro D (Ins D L vs), .ro TabD Tab, .row (.slice A n cA) 3 1 n (intCs l), .map g13 (encL intE sl), .blk g2 38 #[.int .i64 5, .int .i64 lit, GV], .ro DI (fun w => IntsD DI w (.slice AI ins.length cI) ins)]) hxL c33).mono ?_
      rintro _ w38 ⟨rfl, hb39⟩
      have O40 : Own (zone (foldE f m R c D L vs ++ [inE DI (.slice AI ins.length cI) ins])) W w38 [.row (.slice A n cA) 3 1 n (intCs l), .map g13 (encL intE sl), .blk g2 38 #[.int .i64 5, .int .i64 lit, GV], .blk f 56 #[.slice R L.length c, .map (some m)], .map m (encL strE (keysGo L 0)), .row (.slice R L.length c) 38 3 L.length (gcells L vs), .ro D (Ins D L vs), .ro TabD Tab, .ro DI (fun w => IntsD DI w (.slice AI ins.length cI) ins)] := O26.below hb39
      refine ⟨_, rfl, ?_⟩
      refine wl_nil ?_
      refine xw_next K32 ?_
      refine cw_false rfl ?_
      refine cw_skip ?_
      refine xw_next K31 ?_
      refine cw_seq (fun FK41 K41 => ?_)
      refine cw_region ?_
      refine wl_val (v := .pointer (some ⟨f, 0, none⟩)) (fun ρ e => ex_move (e _ _ rfl)) rfl rfl ?_
      refine wl_val (v := .int .i64 x) (fun ρ e => ex_move (e _ _ rfl)) rfl rfl ?_
      refine wl_val (v := .int .i64 0) (fun ρ e => ex_move (e _ _ rfl)) rfl rfl ?_
      by_cases c42 : kindAt L x = 0
      · skip
        refine wl_call (args := [.pointer (some ⟨f, 0, none⟩), .int .i64 x, .int .i64 0]) in_82 rfl rfl rfl ?_
        refine (is1 (f := f) (m := m) (R := R) (c := c) (D := D) (L := L) (vs := vs) (rest := [.row (.slice A n cA) 3 1 n (intCs l), .map g13 (encL intE sl), .blk g2 38 #[.int .i64 5, .int .i64 lit, GV], .ro DI (fun w => IntsD DI w (.slice AI ins.length cI) ins)]) (O40.re [3, 4, 5, 6, 7, 0, 1, 2, 8] rfl : Own (zone (foldE f m R c D L vs ++ [inE DI (.slice AI ins.length cI) ins])) W w38 [.blk f 56 #[.slice R L.length c, .map (some m)], .map m (encL strE (keysGo L 0)), .row (.slice R L.length c) 38 3 L.length (gcells L vs), .ro D (Ins D L vs), .ro TabD Tab, .row (.slice A n cA) 3 1 n (intCs l), .map g13 (encL intE sl), .blk g2 38 #[.int .i64 5, .int .i64 lit, GV], .ro DI (fun w => IntsD DI w (.slice AI ins.length cI) ins)]) hxL c42).mono ?_
        rintro _ w43 ⟨rfl, hb44⟩
        have O45 : Own (zone (foldE f m R c D L vs ++ [inE DI (.slice AI ins.length cI) ins])) W w43 [.row (.slice A n cA) 3 1 n (intCs l), .map g13 (encL intE sl), .blk g2 38 #[.int .i64 5, .int .i64 lit, GV], .blk f 56 #[.slice R L.length c, .map (some m)], .map m (encL strE (keysGo L 0)), .row (.slice R L.length c) 38 3 L.length (gcells L vs), .ro D (Ins D L vs), .ro TabD Tab, .ro DI (fun w => IntsD DI w (.slice AI ins.length cI) ins)] := O40.below hb44
        refine ⟨_, rfl, ?_⟩
        refine wl_val (v := .bool false) (fun ρ e => ex_lnot (b := true) (e _ _ rfl)) rfl rfl ?_
        refine wl_val (v := .bool false) (fun ρ e => ex_move (e _ _ rfl)) rfl rfl ?_
        refine wl_skip rfl rfl ?_
        refine wl_skip rfl rfl ?_
        refine wl_skip rfl rfl ?_
        refine wl_skip rfl rfl ?_
        refine wl_val (v := .bool false) (fun ρ e => ex_pick0 (e _ _ rfl) (e _ _ rfl)) rfl rfl ?_
        refine wl_nil ?_
        refine xw_next K41 ?_
        refine cw_false rfl ?_
        refine cw_skip ?_
        refine xw_block ?_
        refine xw_next K29 ?_
        refine cw_region ?_
        refine wl_val (v := .int .i64 ((k + 1 : Nat) : Int)) (fun ρ e => ex_arith (k := .i64) (u := (k : Int)) (v := 1) (e _ _ rfl) (e _ _ rfl) (congrArg some ((congrArg _ (by omega)).trans (wrap_in (u := ((k + 1 : Nat) : Int)) (by omega) (by omega))))) rfl rfl ?_
        refine wl_val (v := .int .i64 ((k + 1 : Nat) : Int)) (fun ρ e => ex_move (e _ _ rfl)) rfl rfl ?_
        refine wl_nil ?_
        refine xw_round K25 (k + 1, A, cA, n, l, sl) (by show ins.length - (k + 1) < ins.length - k; omega) ⟨(by show k + 1 ≤ _; omega), hn, (by show n ≤ k + 1; omega), hsl, hl1, (by show _ = manyGo L 0 1 (ins.drop (k + 1)) l; rw [hgo, hdr, manyGo, if_neg c33, if_neg (fun h => h.1 c42)]), O45⟩ ⟨rfl, rfl, rfl, rfl, rfl, rfl, rfl, rfl, rfl, rfl, trivial⟩
      · skip
        refine wl_call (args := [.pointer (some ⟨f, 0, none⟩), .int .i64 x, .int .i64 0]) in_82 rfl rfl rfl ?_
        refine (is0 (f := f) (m := m) (R := R) (c := c) (D := D) (L := L) (vs := vs) (rest := [.row (.slice A n cA) 3 1 n (intCs l), .map g13 (encL intE sl), .blk g2 38 #[.int .i64 5, .int .i64 lit, GV], .ro DI (fun w => IntsD DI w (.slice AI ins.length cI) ins)]) (O40.re [3, 4, 5, 6, 7, 0, 1, 2, 8] rfl : Own (zone (foldE f m R c D L vs ++ [inE DI (.slice AI ins.length cI) ins])) W w38 [.blk f 56 #[.slice R L.length c, .map (some m)], .map m (encL strE (keysGo L 0)), .row (.slice R L.length c) 38 3 L.length (gcells L vs), .ro D (Ins D L vs), .ro TabD Tab, .row (.slice A n cA) 3 1 n (intCs l), .map g13 (encL intE sl), .blk g2 38 #[.int .i64 5, .int .i64 lit, GV], .ro DI (fun w => IntsD DI w (.slice AI ins.length cI) ins)]) hxL c42).mono ?_
        rintro _ w46 ⟨rfl, hb47⟩
        have O48 : Own (zone (foldE f m R c D L vs ++ [inE DI (.slice AI ins.length cI) ins])) W w46 [.row (.slice A n cA) 3 1 n (intCs l), .map g13 (encL intE sl), .blk g2 38 #[.int .i64 5, .int .i64 lit, GV], .blk f 56 #[.slice R L.length c, .map (some m)], .map m (encL strE (keysGo L 0)), .row (.slice R L.length c) 38 3 L.length (gcells L vs), .ro D (Ins D L vs), .ro TabD Tab, .ro DI (fun w => IntsD DI w (.slice AI ins.length cI) ins)] := O40.below hb47
        refine ⟨_, rfl, ?_⟩
        refine wl_val (v := .bool true) (fun ρ e => ex_lnot (b := false) (e _ _ rfl)) rfl rfl ?_
        refine wl_val (v := .bool true) (fun ρ e => ex_move (e _ _ rfl)) rfl rfl ?_
        refine wl_val (v := .map (some g13)) (fun ρ e => ex_move (e _ _ rfl)) rfl rfl ?_
        refine wl_val (v := .int .i64 x) (fun ρ e => ex_move (e _ _ rfl)) rfl rfl ?_
        by_cases c49 : x ∈ l
        · skip
          refine wl_val (v := .bool true) (fun ρ e => ex_look0 intKey Tryd.underlying87 Tryd.underlying3 ze4 (O48.map 1 rfl) x ((hsl x).trans (congrArg Value.bool (decide_eq_true c49))) (e _ _ rfl) (e _ _ rfl)) rfl rfl ?_
          refine wl_val (v := .bool false) (fun ρ e => ex_lnot (b := true) (e _ _ rfl)) rfl rfl ?_
          refine wl_val (v := .bool false) (fun ρ e => ex_pick1 (e _ _ rfl) (e _ _ rfl)) rfl rfl ?_
          refine wl_nil ?_
          refine xw_next K41 ?_
          refine cw_false rfl ?_
          refine cw_skip ?_
          refine xw_block ?_
          refine xw_next K29 ?_
          refine cw_region ?_
          refine wl_val (v := .int .i64 ((k + 1 : Nat) : Int)) (fun ρ e => ex_arith (k := .i64) (u := (k : Int)) (v := 1) (e _ _ rfl) (e _ _ rfl) (congrArg some ((congrArg _ (by omega)).trans (wrap_in (u := ((k + 1 : Nat) : Int)) (by omega) (by omega))))) rfl rfl ?_
          refine wl_val (v := .int .i64 ((k + 1 : Nat) : Int)) (fun ρ e => ex_move (e _ _ rfl)) rfl rfl ?_
          refine wl_nil ?_
          refine xw_round K25 (k + 1, A, cA, n, l, sl) (by show ins.length - (k + 1) < ins.length - k; omega) ⟨(by show k + 1 ≤ _; omega), hn, (by show n ≤ k + 1; omega), hsl, hl1, (by show _ = manyGo L 0 1 (ins.drop (k + 1)) l; rw [hgo, hdr, manyGo, if_neg c33, if_neg (fun h => h.2 c49)]), O48⟩ ⟨rfl, rfl, rfl, rfl, rfl, rfl, rfl, rfl, rfl, rfl, trivial⟩
        · skip
          refine wl_val (v := .bool false) (fun ρ e => ex_look0 intKey Tryd.underlying87 Tryd.underlying3 ze4 (O48.map 1 rfl) x ((hsl x).trans (congrArg Value.bool (decide_eq_false c49))) (e _ _ rfl) (e _ _ rfl)) rfl rfl ?_
          refine wl_val (v := .bool true) (fun ρ e => ex_lnot (b := false) (e _ _ rfl)) rfl rfl ?_
          refine wl_val (v := .bool true) (fun ρ e => ex_pick1 (e _ _ rfl) (e _ _ rfl)) rfl rfl ?_
          refine wl_nil ?_
          refine xw_next K41 ?_
          refine cw_true rfl ?_
          refine cw_seq (fun FK50 K50 => ?_)
          refine cw_region ?_
          refine wl_val (v := .map (some g13)) (fun ρ e => ex_move (e _ _ rfl)) rfl rfl ?_
          refine wl_val (v := .int .i64 x) (fun ρ e => ex_move (e _ _ rfl)) rfl rfl ?_
          obtain ⟨w51, r52, O53, hs54⟩ := own_mapput (O48.re [1, 0, 2, 3, 4, 5, 6, 7, 8] rfl : Own (zone (foldE f m R c D L vs ++ [inE DI (.slice AI ins.length cI) ins])) W w46 [.map g13 (encL intE sl), .row (.slice A n cA) 3 1 n (intCs l), .blk g2 38 #[.int .i64 5, .int .i64 lit, GV], .blk f 56 #[.slice R L.length c, .map (some m)], .map m (encL strE (keysGo L 0)), .row (.slice R L.length c) 38 3 L.length (gcells L vs), .ro D (Ins D L vs), .ro TabD Tab, .ro DI (fun w => IntsD DI w (.slice AI ins.length cI) ins)]) intKey Tryd.underlying87 Tryd.underlying3 x (.bool true)
          refine wl_none (fun ρ e => r52 ρ _ _ _ _ _ _ _ (e _ _ rfl) (e _ _ rfl) (e _ _ rfl)) rfl ?_
          refine wl_nil ?_
          refine xw_next K50 ?_
          refine cw_region ?_
          refine wl_val (v := .slice A n cA) (fun ρ e => ex_move (e _ _ rfl)) rfl rfl ?_
          refine wl_val (v := .int .i64 x) (fun ρ e => ex_move (e _ _ rfl)) rfl rfl ?_
          obtain ⟨g55, w56, r57, O58, hg59, hs60⟩ := own_slice O53 el36 ze3 1 [(0, .int .i64 x)] (cs := #[.int .i64 x]) (by decide) (by kernel_rfl)
          refine wl_val (v := .slice (some ⟨g55, 0, none⟩) 1 1) (fun ρ e => r57 ρ _ _ _ _ _ _ (e.parts rfl)) rfl rfl ?_
          obtain ⟨A61, c62, w63, r64, O65, hz66, hc67⟩ := own_app1 (O58.re [2, 0, 1, 3, 4, 5, 6, 7, 8, 9] rfl : Own (zone (foldE f m R c D L vs ++ [inE DI (.slice AI ins.length cI) ins])) W w56 [.row (.slice A n cA) 3 1 n (intCs l), .blk g55 3 #[.int .i64 x], .map g13 (encL intE (aput x (.bool true) sl)), .blk g2 38 #[.int .i64 5, .int .i64 lit, GV], .blk f 56 #[.slice R L.length c, .map (some m)], .map m (encL strE (keysGo L 0)), .row (.slice R L.length c) 38 3 L.length (gcells L vs), .ro D (Ins D L vs), .ro TabD Tab, .ro DI (fun w => IntsD DI w (.slice AI ins.length cI) ins)]) ap36 ((O58.re [2, 0, 1, 3, 4, 5, 6, 7, 8, 9] rfl : Own (zone (foldE f m R c D L vs ++ [inE DI (.slice AI ins.length cI) ins])) W w56 [.row (.slice A n cA) 3 1 n (intCs l), .blk g55 3 #[.int .i64 x], .map g13 (encL intE (aput x (.bool true) sl)), .blk g2 38 #[.int .i64 5, .int .i64 lit, GV], .blk f 56 #[.slice R L.length c, .map (some m)], .map m (encL strE (keysGo L 0)), .row (.slice R L.length c) 38 3 L.length (gcells L vs), .ro D (Ins D L vs), .ro TabD Tab, .ro DI (fun w => IntsD DI w (.slice AI ins.length cI) ins)]).blk 1 rfl) (cells := [.int .i64 x]) rfl rfl (by omega) (by omega) (ys := (intCs (l ++ [x]))) (intCs_snoc l x)
          refine wl_val (v := .slice A61 (n + 1) c62) (fun ρ e => r64 ρ _ _ _ _ _ _ _ (e _ _ rfl) (e _ _ rfl)) rfl rfl ?_
          refine wl_val (v := .slice A61 (n + 1) c62) (fun ρ e => ex_assign (e _ _ rfl)) rfl rfl ?_
          refine wl_nil ?_
          refine xw_block ?_
          refine xw_next K29 ?_
          refine cw_region ?_
          refine wl_val (v := .int .i64 ((k + 1 : Nat) : Int)) (fun ρ e => ex_arith (k := .i64) (u := (k : Int)) (v := 1) (e _ _ rfl) (e _ _ rfl) (congrArg some ((congrArg _ (by omega)).trans (wrap_in (u := ((k + 1 : Nat) : Int)) (by omega) (by omega))))) rfl rfl ?_
          refine wl_val (v := .int .i64 ((k + 1 : Nat) : Int)) (fun ρ e => ex_move (e _ _ rfl)) rfl rfl ?_
          refine wl_nil ?_
          refine xw_round K25 (k + 1, A61, c62, n + 1, l ++ [x], (aput x (.bool true) sl)) (by show ins.length - (k + 1) < ins.length - k; omega) ⟨(by show k + 1 ≤ _; omega), (by show n + 1 = (l ++ [x]).length; simp [hn]), (by show n + 1 ≤ k + 1; omega), (by show seenIs _ _; exact hsl.put x true (fun y => by by_cases e : y = x <;> simp [e])), (fun y hy => (List.mem_append.1 hy).elim (hl1 y) (fun h => by rw [List.mem_singleton.1 h]; exact hxL)), (by show _ = manyGo L 0 1 (ins.drop (k + 1)) (l ++ [x]); rw [hgo, hdr, manyGo, if_neg c33, if_pos ⟨c42, c49⟩]), (O65.re [0, 2, 3, 4, 5, 6, 7, 8, 9] rfl : Own (zone (foldE f m R c D L vs ++ [inE DI (.slice AI ins.length cI) ins])) W w63 [.row (.slice A61 (n + 1) c62) 3 1 (n + 1) (intCs (l ++ [x])), .map g13 (encL intE (aput x (.bool true) sl)), .blk g2 38 #[.int .i64 5, .int .i64 lit, GV], .blk f 56 #[.slice R L.length c, .map (some m)], .map m (encL strE (keysGo L 0)), .row (.slice R L.length c) 38 3 L.length (gcells L vs), .ro D (Ins D L vs), .ro TabD Tab, .ro DI (fun w => IntsD DI w (.slice AI ins.length cI) ins)])⟩ ⟨rfl, rfl, rfl, rfl, rfl, rfl, rfl, rfl, rfl, rfl, trivial⟩
  · have hke : k = ins.length := by omega
    rw [List.drop_eq_nil_of_le (by omega)] at hgo
    simp only [manyGo] at hgo
    refine cw_seq (fun FK68 K68 => ?_)
    refine cw_region ?_
    refine wl_val (v := .bool false) (fun ρ e => ex_cmp (u := (k : Int)) (v := ((ins.length : Nat) : Int)) (e _ _ rfl) (e _ _ rfl) (lss0 (by omega))) rfl rfl ?_
    refine wl_nil ?_
    refine xw_next K68 ?_
    refine cw_seq (fun FK69 K69 => ?_)
    refine cw_false rfl ?_
    refine cw_exit ?_
    refine xw_past (by intro h; cases h) ?_
    refine xw_past (by intro h; cases h) ?_
    refine xw_here ?_
    refine xw_next K19 ?_
    refine cw_seq (fun FK70 K70 => ?_)
    refine cw_seq (fun FK71 K71 => ?_)
    refine cw_region ?_
    refine wl_val (v := .slice A n cA) (fun ρ e => ex_move (e _ _ rfl)) rfl rfl ?_
    refine wl_val (v := .int .i64 (n : Int)) (fun ρ e => ex_len el36 (e _ _ rfl)) rfl rfl ?_
    refine wl_nil ?_
    refine xw_next K71 ?_
    refine cw_block ?_
    refine cw_seq (fun FK72 K72 => ?_)
    rcases l with _ | ⟨x, _ | ⟨x2, l2⟩⟩
    · have hn' : n = 0 := hn
      refine cw_region ?_
      refine wl_val (v := .bool true) (fun ρ e => ex_cmp (u := (n : Int)) (v := 0) (e _ _ rfl) (e _ _ rfl) (eql1 (by omega))) rfl rfl ?_
      refine wl_val (v := .bool true) (fun ρ e => ex_assign (e _ _ rfl)) rfl rfl ?_
      refine wl_nil ?_
      refine xw_next K72 ?_
      refine cw_true rfl ?_
      refine cw_seq (fun FK73 K73 => ?_)
      refine cw_region ?_
      refine wl_val (v := .pointer (some ⟨f, 0, none⟩)) (fun ρ e => ex_move (e _ _ rfl)) rfl rfl ?_
      refine wl_val (v := .int .i64 0) (fun ρ e => ex_move (e _ _ rfl)) rfl rfl ?_
      refine wl_val (v := .agg #[.int .i64 0, .int .i64 0, .slice none 0 0]) (fun ρ e => ex_build (cells := #[.int .i64 0, .int .i64 0, .slice none 0 0]) st38 (e.parts rfl) rfl) rfl rfl ?_
      refine wl_call (args := [.pointer (some ⟨f, 0, none⟩), .agg #[.int .i64 0, .int .i64 0, .slice none 0 0]]) in_80 rfl rfl rfl ?_
      have O74 : Own (zone (foldE f m R c D L vs ++ [inE DI (.slice AI ins.length cI) ins])) W w23 [.ro (fun _ => False) (fun w => IntsD (fun _ => False) w (.slice none 0 0) ([])), .row (.slice A n cA) 3 1 n (intCs []), .map g13 (encL intE sl), .blk g2 38 #[.int .i64 5, .int .i64 lit, GV], .blk f 56 #[.slice R L.length c, .map (some m)], .map m (encL strE (keysGo L 0)), .row (.slice R L.length c) 38 3 L.length (gcells L vs), .ro D (Ins D L vs), .ro TabD Tab, .ro DI (fun w => IntsD DI w (.slice AI ins.length cI) ins)] := O26.nilin
      refine (call_find (f := f) (m := m) (R := R) (c := c) (D := D) (L := L) (vs := vs) (D2 := (fun _ => False)) (V := .slice none 0 0) (g := ⟨0, 0, []⟩) (rest := [.row (.slice A n cA) 3 1 n (intCs []), .map g13 (encL intE sl), .blk g2 38 #[.int .i64 5, .int .i64 lit, GV], .ro DI (fun w => IntsD DI w (.slice AI ins.length cI) ins)]) (O74.re [4, 5, 6, 7, 8, 0, 1, 2, 3, 9] rfl : Own (zone (foldE f m R c D L vs ++ [inE DI (.slice AI ins.length cI) ins])) W w23 [.blk f 56 #[.slice R L.length c, .map (some m)], .map m (encL strE (keysGo L 0)), .row (.slice R L.length c) 38 3 L.length (gcells L vs), .ro D (Ins D L vs), .ro TabD Tab, .ro (fun _ => False) (fun w => IntsD (fun _ => False) w (.slice none 0 0) ([])), .row (.slice A n cA) 3 1 n (intCs []), .map g13 (encL intE sl), .blk g2 38 #[.int .i64 5, .int .i64 lit, GV], .ro DI (fun w => IntsD DI w (.slice AI ins.length cI) ins)]) (small_c (smallI_lit 0 rfl) (smallI_lit 0 rfl)) hL).mono ?_
      rintro _ w75 ⟨R76, c77, D78, vs79, rfl, O80⟩
      refine ⟨_, rfl, ?_⟩
      refine wl_val (v := .int .i64 ((findG L ⟨0, 0, []⟩).2)) (fun ρ e => ex_assign (e _ _ rfl)) rfl rfl ?_
      refine wl_nil ?_
      refine xw_next K73 ?_
      refine cw_ret ?_
      refine xw_blockret ?_
      refine xw_past (by intro h; cases h) ?_
      refine xw_ret (v := .int .i64 ((findG L ⟨0, 0, []⟩).2)) (fun T hT => res1 rfl T _ (hT 6 _ rfl)) ?_
      exact FPost.eq ⟨_, _, _, _, rfl, (O80.re [0, 1, 2, 3, 4] rfl : Own (zone (foldE f m R c D L vs ++ [inE DI (.slice AI ins.length cI) ins])) W w75 [.blk f 56 #[.slice R76 (((findG L ⟨0, 0, []⟩).1).length) c77, .map (some m)], .map m (encL strE (keysGo ((findG L ⟨0, 0, []⟩).1) 0)), .row (.slice R76 (((findG L ⟨0, 0, []⟩).1).length) c77) 38 3 (((findG L ⟨0, 0, []⟩).1).length) (gcells ((findG L ⟨0, 0, []⟩).1) vs79), .ro D78 (Ins D78 ((findG L ⟨0, 0, []⟩).1) vs79), .ro TabD Tab])⟩ (by rw [manyG_or, hgo])
    · have hn' : n = 1 := hn
      obtain ⟨gl, rfl⟩ := O26.rowshape 0 rfl (by omega)
      refine cw_region ?_
      refine wl_val (v := .bool false) (fun ρ e => ex_cmp (u := (n : Int)) (v := 0) (e _ _ rfl) (e _ _ rfl) (eql0 (by omega))) rfl rfl ?_
      refine wl_val (v := .bool false) (fun ρ e => ex_assign (e _ _ rfl)) rfl rfl ?_
      refine wl_nil ?_
      refine xw_next K72 ?_
      refine cw_false rfl ?_
      refine cw_seq (fun FK81 K81 => ?_)
      refine cw_region ?_
      refine wl_val (v := .bool true) (fun ρ e => ex_cmp (u := (n : Int)) (v := 1) (e _ _ rfl) (e _ _ rfl) (eql1 (by omega))) rfl rfl ?_
      refine wl_val (v := .bool true) (fun ρ e => ex_assign (e _ _ rfl)) rfl rfl ?_
      refine wl_nil ?_
      refine xw_next K81 ?_
      refine cw_true rfl ?_
      refine cw_seq (fun FK82 K82 => ?_)
      refine cw_region ?_
      refine wl_val (v := .slice (some ⟨gl, 0, none⟩) n cA) (fun ρ e => ex_move (e _ _ rfl)) rfl rfl ?_
      refine wl_val (v := .pointer (some ⟨gl, 0, none⟩)) (fun ρ e => ex_idx (q := 0) (i := 0) el36 (e _ _ rfl) (e _ _ rfl) (by omega) (by omega)) rfl rfl ?_
      refine wl_val (v := .int .i64 x) (fun ρ e => ex_load1 ty3 (e _ _ rfl) (rowcell (O26.row 0 rfl) (j := 0) rfl)) rfl rfl ?_
      refine wl_val (v := .int .i64 x) (fun ρ e => ex_assign (e _ _ rfl)) rfl rfl ?_
      refine wl_nil ?_
      refine xw_next K82 ?_
      refine cw_ret ?_
      refine xw_blockret ?_
      refine xw_past (by intro h; cases h) ?_
      refine xw_ret (v := .int .i64 x) (fun T hT => res1 rfl T _ (hT 6 _ rfl)) ?_
      exact FPost.eq (q' := (L, x)) ⟨_, _, _, _, rfl, (O26.re [3, 4, 5, 6, 7] rfl : Own (zone (foldE f m R c D L vs ++ [inE DI (.slice AI ins.length cI) ins])) W w23 [.blk f 56 #[.slice R L.length c, .map (some m)], .map m (encL strE (keysGo L 0)), .row (.slice R L.length c) 38 3 L.length (gcells L vs), .ro D (Ins D L vs), .ro TabD Tab])⟩ (by rw [manyG_or, hgo])
    · have hn' : n = l2.length + 2 := hn
      refine cw_region ?_
      refine wl_val (v := .bool false) (fun ρ e => ex_cmp (u := (n : Int)) (v := 0) (e _ _ rfl) (e _ _ rfl) (eql0 (by omega))) rfl rfl ?_
      refine wl_val (v := .bool false) (fun ρ e => ex_assign (e _ _ rfl)) rfl rfl ?_
      refine wl_nil ?_
      refine xw_next K72 ?_
      refine cw_false rfl ?_
      refine cw_seq (fun FK83 K83 => ?_)
      refine cw_region ?_
      refine wl_val (v := .bool false) (fun ρ e => ex_cmp (u := (n : Int)) (v := 1) (e _ _ rfl) (e _ _ rfl) (eql0 (by omega))) rfl rfl ?_
      refine wl_val (v := .bool false) (fun ρ e => ex_assign (e _ _ rfl)) rfl rfl ?_
      refine wl_nil ?_
      refine xw_next K83 ?_
      refine cw_false rfl ?_
      refine cw_skip ?_
      refine xw_block ?_
      refine xw_next K70 ?_
      refine cw_seq (fun FK84 K84 => ?_)
      refine cw_region ?_
      refine wl_val (v := .pointer (some ⟨f, 0, none⟩)) (fun ρ e => ex_move (e _ _ rfl)) rfl rfl ?_
      refine wl_val (v := .pointer (some ⟨g2, 0, none⟩)) (fun ρ e => ex_field (q := 0) fi38_0 (e _ _ rfl) rfl) rfl rfl ?_
      refine wl_val (v := .int .i64 5) (fun ρ e => ex_load1 ty3 (e _ _ rfl) (O26.cell 2 0 rfl rfl)) rfl rfl ?_
      refine wl_val (v := .slice A n cA) (fun ρ e => ex_move (e _ _ rfl)) rfl rfl ?_
      refine wl_val (v := .agg #[.int .i64 5, .int .i64 0, .slice A n cA]) (fun ρ e => ex_build (cells := #[.int .i64 5, .int .i64 0, .slice A n cA]) st38 (e.parts rfl) rfl) rfl rfl ?_
      refine wl_call (args := [.pointer (some ⟨f, 0, none⟩), .agg #[.int .i64 5, .int .i64 0, .slice A n cA]]) in_80 rfl rfl rfl ?_
      have O85 : Own (zone (foldE f m R c D L vs ++ [inE DI (.slice AI ins.length cI) ins])) W w23 [.ro (fun k => (Value.ownBlock (.slice A n cA)) = some k) (fun w => IntsD (fun k => (Value.ownBlock (.slice A n cA)) = some k) w (.slice A n cA) (x :: x2 :: l2)), .map g13 (encL intE sl), .blk g2 38 #[.int .i64 5, .int .i64 lit, GV], .blk f 56 #[.slice R L.length c, .map (some m)], .map m (encL strE (keysGo L 0)), .row (.slice R L.length c) 38 3 L.length (gcells L vs), .ro D (Ins D L vs), .ro TabD Tab, .ro DI (fun w => IntsD DI w (.slice AI ins.length cI) ins)] := Own.rowin (l := (x :: x2 :: l2)) O26
      refine (call_find (f := f) (m := m) (R := R) (c := c) (D := D) (L := L) (vs := vs) (D2 := (fun k => (Value.ownBlock (.slice A n cA)) = some k)) (V := .slice A n cA) (g := ⟨5, 0, (x :: x2 :: l2)⟩) (rest := [.map g13 (encL intE sl), .blk g2 38 #[.int .i64 5, .int .i64 lit, GV], .ro DI (fun w => IntsD DI w (.slice AI ins.length cI) ins)]) (O85.re [3, 4, 5, 6, 7, 0, 1, 2, 8] rfl : Own (zone (foldE f m R c D L vs ++ [inE DI (.slice AI ins.length cI) ins])) W w23 [.blk f 56 #[.slice R L.length c, .map (some m)], .map m (encL strE (keysGo L 0)), .row (.slice R L.length c) 38 3 L.length (gcells L vs), .ro D (Ins D L vs), .ro TabD Tab, .ro (fun k => (Value.ownBlock (.slice A n cA)) = some k) (fun w => IntsD (fun k => (Value.ownBlock (.slice A n cA)) = some k) w (.slice A n cA) (x :: x2 :: l2)), .map g13 (encL intE sl), .blk g2 38 #[.int .i64 5, .int .i64 lit, GV], .ro DI (fun w => IntsD DI w (.slice AI ins.length cI) ins)]) (small_n (smallI_lit 5 rfl) (fun x hx => by have := hl1 x hx; unfold smallI; omega) (by omega)) hL).mono ?_
      rintro _ w86 ⟨R87, c88, D89, vs90, rfl, O91⟩
      refine ⟨_, rfl, ?_⟩
      refine wl_val (v := .int .i64 ((findG L ⟨5, 0, (x :: x2 :: l2)⟩).2)) (fun ρ e => ex_assign (e _ _ rfl)) rfl rfl ?_
      refine wl_nil ?_
      refine xw_next K84 ?_
      refine cw_ret ?_
      refine xw_ret (v := .int .i64 ((findG L ⟨5, 0, (x :: x2 :: l2)⟩).2)) (fun T hT => res1 rfl T _ (hT 6 _ rfl)) ?_
      exact FPost.eq ⟨_, _, _, _, rfl, (O91.re [0, 1, 2, 3, 4] rfl : Own (zone (foldE f m R c D L vs ++ [inE DI (.slice AI ins.length cI) ins])) W w86 [.blk f 56 #[.slice R87 (((findG L ⟨5, 0, (x :: x2 :: l2)⟩).1).length) c88, .map (some m)], .map m (encL strE (keysGo ((findG L ⟨5, 0, (x :: x2 :: l2)⟩).1) 0)), .row (.slice R87 (((findG L ⟨5, 0, (x :: x2 :: l2)⟩).1).length) c88) 38 3 (((findG L ⟨5, 0, (x :: x2 :: l2)⟩).1).length) (gcells ((findG L ⟨5, 0, (x :: x2 :: l2)⟩).1) vs90), .ro D89 (Ins D89 ((findG L ⟨5, 0, (x :: x2 :: l2)⟩).1) vs90), .ro TabD Tab])⟩ (by rw [manyG_or, hgo])
theorem many4 (O0 : Own (zone (foldE f m R c D L vs ++ [inE DI V ins])) W W (foldE f m R c D L vs ++ [inE DI V ins])) (hin : ∀ x ∈ ins, 0 ≤ x ∧ x < (L.length : Int)) (hil : ins.length ≤ 1000000) (hL : L.length ≤ 1000000) :
    Calls Tryd.prog 62 #[.pointer (some ⟨f, 0, none⟩), .agg #[.int .i64 4, .int .i64 lit, GV], V] W (FPost (foldE f m R c D L vs ++ [inE DI V ins]) W f m (manyG L 4 ins)) := by
  have hV : IntsD DI W V ins := O0.ro 5 rfl
  have hVf := fun (h : 0 < ins.length) => hV.form h
  obtain ⟨AI, cI, rfl⟩ := hV.slice
  refine sx_enter (args := [.pointer (some ⟨f, 0, none⟩), .agg #[.int .i64 4, .int .i64 lit, GV], .slice AI ins.length cI]) Tryd.func62 rfl rfl (by simp) ?_
  refine cw_seq (fun FK1 K1 => ?_)
  refine cw_region ?_
  obtain ⟨g2, w3, r4, O5, hg6, hs7⟩ := own_box O0 38 (.agg #[.int .i64 4, .int .i64 lit, GV]) rfl
  refine wl_val (v := .pointer (some ⟨g2, 0, none⟩)) (fun ρ e => r4 ρ _ _ _ _ _ _ (e _ _ rfl)) rfl rfl ?_
  refine wl_val (v := .int .i64 0) (fun ρ e => ex_assign (e _ _ rfl)) rfl rfl ?_
  refine wl_nil ?_
  refine xw_next K1 ?_
  refine cw_seq (fun FK8 K8 => ?_)
  refine cw_region ?_
  refine wl_val (v := .int .i64 1) (fun ρ e => ex_assign (e _ _ rfl)) rfl rfl ?_
  refine wl_val (v := .int .i64 0) (fun ρ e => ex_assign (e _ _ rfl)) rfl rfl ?_
  refine wl_nil ?_
  refine xw_next K8 ?_
  refine cw_seq (fun FK9 K9 => ?_)
  refine cw_seq (fun FK10 K10 => ?_)
  refine cw_region ?_
  refine wl_val (v := .pointer (some ⟨g2, 0, none⟩)) (fun ρ e => ex_field (q := 0) fi38_0 (e _ _ rfl) rfl) rfl rfl ?_
  refine wl_val (v := .int .i64 4) (fun ρ e => ex_load1 ty3 (e _ _ rfl) (O5.cell 0 0 rfl rfl)) rfl rfl ?_
  refine wl_val (v := .bool false) (fun ρ e => ex_cmp (u := 4) (v := 5) (e _ _ rfl) (e _ _ rfl) (eql0 (by omega))) rfl rfl ?_
  refine wl_nil ?_
  refine xw_next K10 ?_
  refine cw_false rfl ?_
  refine cw_skip ?_
  refine xw_next K9 ?_
  refine cw_seq (fun FK11 K11 => ?_)
  refine cw_region ?_
  refine wl_val (v := .slice none 0 0) (fun ρ e => ex_assign (e _ _ rfl)) rfl rfl ?_
  refine wl_nil ?_
  refine xw_next K11 ?_
  refine cw_seq (fun FK12 K12 => ?_)
  refine cw_region ?_
  obtain ⟨g13, w14, r15, O16, hg17, hs18⟩ := own_makeMap O5 87
  refine wl_val (v := .map (some g13)) (fun ρ e => r15 ρ _ _ _ _ _) rfl rfl ?_
  refine wl_val (v := .map (some g13)) (fun ρ e => ex_assign (e _ _ rfl)) rfl rfl ?_
  refine wl_nil ?_
  refine xw_next K12 ?_
  refine cw_seq (fun FK19 K19 => ?_)
  refine cw_seq (fun FK20 K20 => ?_)
  refine cw_region ?_
  refine wl_val (v := .slice AI ins.length cI) (fun ρ e => ex_move (e _ _ rfl)) rfl rfl ?_
  refine wl_val (v := .int .i64 ((ins.length : Nat) : Int)) (fun ρ e => ex_len el36 (e _ _ rfl)) rfl rfl ?_
  refine wl_val (v := .int .i64 0) (fun ρ e => ex_move (e _ _ rfl)) rfl rfl ?_
  refine wl_nil ?_
  refine xw_next K20 ?_
  refine cw_block ?_
  have O21 : Own (zone (foldE f m R c D L vs ++ [inE DI (.slice AI ins.length cI) ins])) W w14 [.row (.slice none 0 0) 3 1 0 (intCs []), .map g13 ([]), .blk g2 38 #[.int .i64 4, .int .i64 lit, GV], .blk f 56 #[.slice R L.length c, .map (some m)], .map m (encL strE (keysGo L 0)), .row (.slice R L.length c) 38 3 L.length (gcells L vs), .ro D (Ins D L vs), .ro TabD Tab, .ro DI (fun w => IntsD DI w (.slice AI ins.length cI) ins)] := O16.nilrow 3 1
  have O22 : Own (zone (foldE f m R c D L vs ++ [inE DI (.slice AI ins.length cI) ins])) W w14 [.row (.slice none 0 0) 3 1 0 (intCs []), .map g13 ([]), .blk g2 38 #[.int .i64 4, .int .i64 lit, GV], .blk f 56 #[.slice R L.length c, .map (some m)], .map m (encL strE (keysGo L 0)), .row (.slice R L.length c) 38 3 L.length (gcells L vs), .ro D (Ins D L vs), .ro TabD Tab, .ro DI (fun w => IntsD DI w (.slice AI ins.length cI) ins)] := O21
  refine cw_loop (ι := Nat × Option Addr × Nat × Nat × List Int × List (Int × Value)) (fun q => [(0, .pointer (some ⟨f, 0, none⟩)), (4, .pointer (some ⟨g2, 0, none⟩)), (6, .int .i64 0), (7, .int .i64 1), (8, .int .i64 0), (10, .map (some g13)), (19, .slice AI ins.length cI), (20, .int .i64 ((ins.length : Nat) : Int)), (9, .slice q.2.1 q.2.2.2.1 q.2.2.1), (21, .int .i64 (q.1 : Int))]) (fun q X => (q.1 ≤ ins.length) ∧ (q.2.2.2.1 = q.2.2.2.2.1.length) ∧ (q.2.2.2.1 ≤ q.1) ∧ (seenIs q.2.2.2.2.2 (fun x => decide (x ∈ q.2.2.2.2.1))) ∧ (∀ x ∈ q.2.2.2.2.1, 0 ≤ x ∧ x < (L.length : Int)) ∧ (manyGo L 1 0 ins [] = manyGo L 1 0 (ins.drop q.1) q.2.2.2.2.1) ∧ Own (zone (foldE f m R c D L vs ++ [inE DI (.slice AI ins.length cI) ins])) W X [.row (.slice q.2.1 q.2.2.2.1 q.2.2.1) 3 1 q.2.2.2.1 (intCs q.2.2.2.2.1), .map g13 (encL intE q.2.2.2.2.2), .blk g2 38 #[.int .i64 4, .int .i64 lit, GV], .blk f 56 #[.slice R L.length c, .map (some m)], .map m (encL strE (keysGo L 0)), .row (.slice R L.length c) 38 3 L.length (gcells L vs), .ro D (Ins D L vs), .ro TabD Tab, .ro DI (fun w => IntsD DI w (.slice AI ins.length cI) ins)]) (fun q => ins.length - q.1) (0, none, 0, 0, [], []) ⟨Nat.zero_le _, rfl, Nat.zero_le _, (fun x => by simp [look, lookV]), (fun x hx => absurd hx (List.not_mem_nil)), rfl, O22⟩ ⟨rfl, rfl, rfl, rfl, rfl, rfl, rfl, rfl, rfl, rfl, trivial⟩ (fun q w23 hJ F24 K25 => ?_)
  obtain ⟨k, A, cA, n, l, sl⟩ := q
  obtain ⟨hk0, hn, hnk, hsl, hl1, hgo, O26⟩ := hJ
  dsimp only at hk0 hn hnk hsl hl1 hgo O26 ⊢
  by_cases hk : k < ins.length
  · obtain ⟨x, hxk, hdr, hxm⟩ := drop_cons hk
    have hxL := hin x hxm
    obtain ⟨bI, oI, cJ, hbI⟩ := hVf (by omega)
    refine cw_seq (fun FK27 K27 => ?_)
    refine cw_region ?_
    refine wl_val (v := .bool true) (fun ρ e => ex_cmp (u := (k : Int)) (v := ((ins.length : Nat) : Int)) (e _ _ rfl) (e _ _ rfl) (lss1 (by omega))) rfl rfl ?_
    refine wl_nil ?_
    refine xw_next K27 ?_
    refine cw_seq (fun FK28 K28 => ?_)
    refine cw_true rfl ?_
    refine cw_skip ?_
    refine xw_next K28 ?_
    refine cw_seq (fun FK29 K29 => ?_)
    refine cw_block ?_
    refine cw_seq (fun FK30 K30 => ?_)
    refine cw_region ?_
    refine wl_val (v := .pointer (some ⟨bI, oI + k, none⟩)) (fun ρ e => ex_idx (q := oI + k) (o := oI) (i := k) el36 ((e _ _ rfl).trans hbI) (e _ _ rfl) hk (by omega)) rfl rfl ?_
    refine wl_val (v := .int .i64 x) (fun ρ e => ex_load1 ty3 (e _ _ rfl) (IntsD.cellq ((hbI ▸ (O26.ro 8 rfl)) : IntsD DI _ (.slice (some ⟨bI, oI, none⟩) ins.length cJ) ins) hxk)) rfl rfl ?_
    refine wl_val (v := .int .i64 x) (fun ρ e => ex_assign (e _ _ rfl)) rfl rfl ?_
    refine wl_nil ?_
    refine xw_next K30 ?_
    refine cw_seq (fun FK31 K31 => ?_)
    refine cw_seq (fun FK32 K32 => ?_)
    refine cw_region ?_
    refine wl_val (v := .pointer (some ⟨f, 0, none⟩)) (fun ρ e => ex_move (e _ _ rfl)) rfl rfl ?_
    refine wl_val (v := .int .i64 x) (fun ρ e => ex_move (e _ _ rfl)) rfl rfl ?_
    refine wl_val (v := .int .i64 0) (fun ρ e => ex_move (e _ _ rfl)) rfl rfl ?_
    by_cases c33 : kindAt L x = 0
    · skip
      refine wl_call (args := [.pointer (some ⟨f, 0, none⟩), .int .i64 x, .int .i64 0]) in_82 rfl rfl rfl ?_
      refine (is1 (f := f) (m := m) (R := R) (c := c) (D := D) (L := L) (vs := vs) (rest := [.row (.slice A n cA) 3 1 n (intCs l), .map g13 (encL intE sl), .blk g2 38 #[.int .i64 4, .int .i64 lit, GV], .ro DI (fun w => IntsD DI w (.slice AI ins.length cI) ins)]) (O26.re [3, 4, 5, 6, 7, 0, 1, 2, 8] rfl : Own (zone (foldE f m R c D L vs ++ [inE DI (.slice AI ins.length cI) ins])) W w23 [.blk f 56 #[.slice R L.length c, .map (some m)], .map m (encL strE (keysGo L 0)), .row (.slice R L.length c) 38 3 L.length (gcells L vs), .ro D (Ins D L vs), .ro TabD Tab, .row (.slice A n cA) 3 1 n (intCs l), .map g13 (encL intE sl), .blk g2 38 #[.int .i64 4, .int .i64 lit, GV], .ro DI (fun w => IntsD DI w (.slice AI ins.length cI) ins)]) hxL c33).mono ?_
      rintro _ w34 ⟨rfl, hb35⟩
      have O36 : Own (zone (foldE f m R c D L vs ++ [inE DI (.slice AI ins.length cI) ins])) W w34 [.row (.slice A n cA) 3 1 n (intCs l), .map g13 (encL intE sl), .blk g2 38 #[.int .i64 4, .int .i64 lit, GV], .blk f 56 #[.slice R L.length c, .map (some m)], .map m (encL strE (keysGo L 0)), .row (.slice R L.length c) 38 3 L.length (gcells L vs), .ro D (Ins D L vs), .ro TabD Tab, .ro DI (fun w => IntsD DI w (.slice AI ins.length cI) ins)] := O26.below hb35
      refine ⟨_, rfl, ?_⟩
      refine wl_nil ?_
      refine xw_next K32 ?_
      refine cw_true rfl ?_
      refine cw_seq (fun FK37 K37 => ?_)
      refine cw_region ?_
      refine wl_val (v := .int .i64 x) (fun ρ e => ex_move (e _ _ rfl)) rfl rfl ?_
      refine wl_val (v := .int .i64 x) (fun ρ e => ex_assign (e _ _ rfl)) rfl rfl ?_
      refine wl_nil ?_
      refine xw_next K37 ?_
      refine cw_ret ?_
      refine xw_past (by intro h; cases h) ?_
      refine xw_blockret ?_
      refine xw_past (by intro h; cases h) ?_
      refine xw_past (by intro h; cases h) ?_
      refine xw_blockret ?_
      refine xw_past (by intro h; cases h) ?_
      refine xw_ret (v := .int .i64 x) (fun T hT => res1 rfl T _ (hT 6 _ rfl)) ?_
      exact FPost.eq (q' := (L, x)) ⟨_, _, _, _, rfl, (O36.re [3, 4, 5, 6, 7] rfl : Own (zone (foldE f m R c D L vs ++ [inE DI (.slice AI ins.length cI) ins])) W w34 [.blk f 56 #[.slice R L.length c, .map (some m)], .map m (encL strE (keysGo L 0)), .row (.slice R L.length c) 38 3 L.length (gcells L vs), .ro D (Ins D L vs), .ro TabD Tab])⟩ (by rw [manyG_and, hgo, hdr, manyGo, if_pos c33])
    · skip
      refine wl_call (args := [.pointer (some ⟨f, 0, none⟩), .int .i64 x, .int .i64 0]) in_82 rfl rfl rfl ?_
      refine (is0 (f := f) (m := m) (R := R) (c := c) (D := D) (L := L) (vs := vs) (rest := [.row (.slice A n cA) 3 1 n (intCs l), .map g13 (encL intE sl), .blk g2 38 #[.int .i64 4, .int .i64 lit, GV], .ro DI (fun w => IntsD DI w (.slice AI ins.length cI) ins)]) (O26.re [3, 4, 5, 6, 7, 0, 1, 2, 8] rfl : Own (zone (foldE f m R c D L vs ++ [inE DI (.slice AI ins.length cI) ins])) W w23 [.blk f 56 #[.slice R L.length c, .map (some m)], .map m (encL strE (keysGo L 0)), .row (.slice R L.length c) 38 3 L.length (gcells L vs), .ro D (Ins D L vs), .ro TabD Tab, .row (.slice A n cA) 3 1 n (intCs l), .map g13 (encL intE sl), .blk g2 38 #[.int .i64 4, .int .i64 lit, GV], .ro DI (fun w => IntsD DI w (.slice AI ins.length cI) ins)]) hxL c33).mono ?_
      rintro _ w38 ⟨rfl, hb39⟩
      have O40 : Own (zone (foldE f m R c D L vs ++ [inE DI (.slice AI ins.length cI) ins])) W w38 [.row (.slice A n cA) 3 1 n (intCs l), .map g13 (encL intE sl), .blk g2 38 #[.int .i64 4, .int .i64 lit, GV], .blk f 56 #[.slice R L.length c, .map (some m)], .map m (encL strE (keysGo L 0)), .row (.slice R L.length c) 38 3 L.length (gcells L vs), .ro D (Ins D L vs), .ro TabD Tab, .ro DI (fun w => IntsD DI w (.slice AI ins.length cI) ins)] := O26.below hb39
      refine ⟨_, rfl, ?_⟩
      refine wl_nil ?_
      refine xw_next K32 ?_
      refine cw_false rfl ?_
      refine cw_skip ?_
      refine xw_next K31 ?_
      refine cw_seq (fun FK41 K41 => ?_)
      refine cw_region ?_
      refine wl_val (v := .pointer (some ⟨f, 0, none⟩)) (fun ρ e => ex_move (e _ _ rfl)) rfl rfl ?_
      refine wl_val (v := .int .i64 x) (fun ρ e => ex_move (e _ _ rfl)) rfl rfl ?_
      refine wl_val (v := .int .i64 1) (fun ρ e => ex_move (e _ _ rfl)) rfl rfl ?_
      by_cases c42 : kindAt L x = 1
      · skip
        refine wl_call (args := [.pointer (some ⟨f, 0, none⟩), .int .i64 x, .int .i64 1]) in_82 rfl rfl rfl ?_
        refine (is1 (f := f) (m := m) (R := R) (c := c) (D := D) (L := L) (vs := vs) (rest := [.row (.slice A n cA) 3 1 n (intCs l), .map g13 (encL intE sl), .blk g2 38 #[.int .i64 4, .int .i64 lit, GV], .ro DI (fun w => IntsD DI w (.slice AI ins.length cI) ins)]) (O40.re [3, 4, 5, 6, 7, 0, 1, 2, 8] rfl : Own (zone (foldE f m R c D L vs ++ [inE DI (.slice AI ins.length cI) ins])) W w38 [.blk f 56 #[.slice R L.length c, .map (some m)], .map m (encL strE (keysGo L 0)), .row (.slice R L.length c) 38 3 L.length (gcells L vs), .ro D (Ins D L vs), .ro TabD Tab, .row (.slice A n cA) 3 1 n (intCs l), .map g13 (encL intE sl), .blk g2 38 #[.int .i64 4, .int .i64 lit, GV], .ro DI (fun w => IntsD DI w (.slice AI ins.length cI) ins)]) hxL c42).mono ?_
        rintro _ w43 ⟨rfl, hb44⟩
        have O45 : Own (zone (foldE f m R c D L vs ++ [inE DI (.slice AI ins.length cI) ins])) W w43 [.row (.slice A n cA) 3 1 n (intCs l), .map g13 (encL intE sl), .blk g2 38 #[.int .i64 4, .int .i64 lit, GV], .blk f 56 #[.slice R L.length c, .map (some m)], .map m (encL strE (keysGo L 0)), .row (.slice R L.length c) 38 3 L.length (gcells L vs), .ro D (Ins D L vs), .ro TabD Tab, .ro DI (fun w => IntsD DI w (.slice AI ins.length cI) ins)] := O40.below hb44
        refine ⟨_, rfl, ?_⟩
        refine wl_val (v := .bool false) (fun ρ e => ex_lnot (b := true) (e _ _ rfl)) rfl rfl ?_
        refine wl_val (v := .bool false) (fun ρ e => ex_move (e _ _ rfl)) rfl rfl ?_
        refine wl_skip rfl rfl ?_
        refine wl_skip rfl rfl ?_
        refine wl_skip rfl rfl ?_
        refine wl_skip rfl rfl ?_
        refine wl_val (v := .bool false) (fun ρ e => ex_pick0 (e _ _ rfl) (e _ _ rfl)) rfl rfl ?_
        refine wl_nil ?_
        refine xw_next K41 ?_
        refine cw_false rfl ?_
        refine cw_skip ?_
        refine xw_block ?_
        refine xw_next K29 ?_
        refine cw_region ?_
        refine wl_val (v := .int .i64 ((k + 1 : Nat) : Int)) (fun ρ e => ex_arith (k := .i64) (u := (k : Int)) (v := 1) (e _ _ rfl) (e _ _ rfl) (congrArg some ((congrArg _ (by omega)).trans (wrap_in (u := ((k + 1 : Nat) : Int)) (by omega) (by omega))))) rfl rfl ?_
        refine wl_val (v := .int .i64 ((k + 1 : Nat) : Int)) (fun ρ e => ex_move (e _ _ rfl)) rfl rfl ?_
        refine wl_nil ?_
        refine xw_round K25 (k + 1, A, cA, n, l, sl) (by show ins.length - (k + 1) < ins.length - k; omega) ⟨(by show k + 1 ≤ _; omega), hn, (by show n ≤ k + 1; omega), hsl, hl1, (by show _ = manyGo L 1 0 (ins.drop (k + 1)) l; rw [hgo, hdr, manyGo, if_neg c33, if_neg (fun h => h.1 c42)]), O45⟩ ⟨rfl, rfl, rfl, rfl, rfl, rfl, rfl, rfl, rfl, rfl, trivial⟩
      · skip
        refine wl_call (args := [.pointer (some ⟨f, 0, none⟩), .int .i64 x, .int .i64 1]) in_82 rfl rfl rfl ?_
        refine (is0 (f := f) (m := m) (R := R) (c := c) (D := D) (L := L) (vs := vs) (rest := [.row (.slice A n cA) 3 1 n (intCs l), .map g13 (encL intE sl), .blk g2 38 #[.int .i64 4, .int .i64 lit, GV], .ro DI (fun w => IntsD DI w (.slice AI ins.length cI) ins)]) (O40.re [3, 4, 5, 6, 7, 0, 1, 2, 8] rfl : Own (zone (foldE f m R c D L vs ++ [inE DI (.slice AI ins.length cI) ins])) W w38 [.blk f 56 #[.slice R L.length c, .map (some m)], .map m (encL strE (keysGo L 0)), .row (.slice R L.length c) 38 3 L.length (gcells L vs), .ro D (Ins D L vs), .ro TabD Tab, .row (.slice A n cA) 3 1 n (intCs l), .map g13 (encL intE sl), .blk g2 38 #[.int .i64 4, .int .i64 lit, GV], .ro DI (fun w => IntsD DI w (.slice AI ins.length cI) ins)]) hxL c42).mono ?_
        rintro _ w46 ⟨rfl, hb47⟩
        have O48 : Own (zone (foldE f m R c D L vs ++ [inE DI (.slice AI ins.length cI) ins])) W w46 [.row (.slice A n cA) 3 1 n (intCs l), .map g13 (encL intE sl), .blk g2 38 #[.int .i64 4, .int .i64 lit, GV], .blk f 56 #[.slice R L.length c, .map (some m)], .map m (encL strE (keysGo L 0)), .row (.slice R L.length c) 38 3 L.length (gcells L vs), .ro D (Ins D L vs), .ro TabD Tab, .ro DI (fun w => IntsD DI w (.slice AI ins.length cI) ins)] := O40.below hb47
        refine ⟨_, rfl, ?_⟩
        refine wl_val (v := .bool true) (fun ρ e => ex_lnot (b := false) (e _ _ rfl)) rfl rfl ?_
        refine wl_val (v := .bool true) (fun ρ e => ex_move (e _ _ rfl)) rfl rfl ?_
        refine wl_val (v := .map (some g13)) (fun ρ e => ex_move (e _ _ rfl)) rfl rfl ?_
        refine wl_val (v := .int .i64 x) (fun ρ e => ex_move (e _ _ rfl)) rfl rfl ?_
        by_cases c49 : x ∈ l
        · skip
          refine wl_val (v := .bool true) (fun ρ e => ex_look0 intKey Tryd.underlying87 Tryd.underlying3 ze4 (O48.map 1 rfl) x ((hsl x).trans (congrArg Value.bool (decide_eq_true c49))) (e _ _ rfl) (e _ _ rfl)) rfl rfl ?_
          refine wl_val (v := .bool false) (fun ρ e => ex_lnot (b := true) (e _ _ rfl)) rfl rfl ?_
          refine wl_val (v := .bool false) (fun ρ e => ex_pick1 (e _ _ rfl) (e _ _ rfl)) rfl rfl ?_
          refine wl_nil ?_
          refine xw_next K41 ?_
          refine cw_false rfl ?_
          refine cw_skip ?_
          refine xw_block ?_
          refine xw_next K29 ?_
          refine cw_region ?_
          refine wl_val (v := .int .i64 ((k + 1 : Nat) : Int)) (fun ρ e => ex_arith (k := .i64) (u := (k : Int)) (v := 1) (e _ _ rfl) (e _ _ rfl) (congrArg some ((congrArg _ (by omega)).trans (wrap_in (u := ((k + 1 : Nat) : Int)) (by omega) (by omega))))) rfl rfl ?_
          refine wl_val (v := .int .i64 ((k + 1 : Nat) : Int)) (fun ρ e => ex_move (e _ _ rfl)) rfl rfl ?_
          refine wl_nil ?_
          refine xw_round K25 (k + 1, A, cA, n, l, sl) (by show ins.length - (k + 1) < ins.length - k; omega) ⟨(by show k + 1 ≤ _; omega), hn, (by show n ≤ k + 1; omega), hsl, hl1, (by show _ = manyGo L 1 0 (ins.drop (k + 1)) l; rw [hgo, hdr, manyGo, if_neg c33, if_neg (fun h => h.2 c49)]), O48⟩ ⟨rfl, rfl, rfl, rfl, rfl, rfl, rfl, rfl, rfl, rfl, trivial⟩
        · skip
          refine wl_val (v := .bool false) (fun ρ e => ex_look0 intKey Tryd.underlying87 Tryd.underlying3 ze4 (O48.map 1 rfl) x ((hsl x).trans (congrArg Value.bool (decide_eq_false c49))) (e _ _ rfl) (e _ _ rfl)) rfl rfl ?_
          refine wl_val (v := .bool true) (fun ρ e => ex_lnot (b := false) (e _ _ rfl)) rfl rfl ?_
          refine wl_val (v := .bool true) (fun ρ e => ex_pick1 (e _ _ rfl) (e _ _ rfl)) rfl rfl ?_
          refine wl_nil ?_
          refine xw_next K41 ?_
          refine cw_true rfl ?_
          refine cw_seq (fun FK50 K50 => ?_)
          refine cw_region ?_
          refine wl_val (v := .map (some g13)) (fun ρ e => ex_move (e _ _ rfl)) rfl rfl ?_
          refine wl_val (v := .int .i64 x) (fun ρ e => ex_move (e _ _ rfl)) rfl rfl ?_
          obtain ⟨w51, r52, O53, hs54⟩ := own_mapput (O48.re [1, 0, 2, 3, 4, 5, 6, 7, 8] rfl : Own (zone (foldE f m R c D L vs ++ [inE DI (.slice AI ins.length cI) ins])) W w46 [.map g13 (encL intE sl), .row (.slice A n cA) 3 1 n (intCs l), .blk g2 38 #[.int .i64 4, .int .i64 lit, GV], .blk f 56 #[.slice R L.length c, .map (some m)], .map m (encL strE (keysGo L 0)), .row (.slice R L.length c) 38 3 L.length (gcells L vs), .ro D (Ins D L vs), .ro TabD Tab, .ro DI (fun w => IntsD DI w (.slice AI ins.length cI) ins)]) intKey Tryd.underlying87 Tryd.underlying3 x (.bool true)
          refine wl_none (fun ρ e => r52 ρ _ _ _ _ _ _ _ (e _ _ rfl) (e _ _ rfl) (e _ _ rfl)) rfl ?_
          refine wl_nil ?_
          refine xw_next K50 ?_
          refine cw_region ?_
          refine wl_val (v := .slice A n cA) (fun ρ e => ex_move (e _ _ rfl)) rfl rfl ?_
          refine wl_val (v := .int .i64 x) (fun ρ e => ex_move (e _ _ rfl)) rfl rfl ?_
          obtain ⟨g55, w56, r57, O58, hg59, hs60⟩ := own_slice O53 el36 ze3 1 [(0, .int .i64 x)] (cs := #[.int .i64 x]) (by decide) (by kernel_rfl)
          refine wl_val (v := .slice (some ⟨g55, 0, none⟩) 1 1) (fun ρ e => r57 ρ _ _ _ _ _ _ (e.parts rfl)) rfl rfl ?_
          obtain ⟨A61, c62, w63, r64, O65, hz66, hc67⟩ := own_app1 (O58.re [2, 0, 1, 3, 4, 5, 6, 7, 8, 9] rfl : Own (zone (foldE f m R c D L vs ++ [inE DI (.slice AI ins.length cI) ins])) W w56 [.row (.slice A n cA) 3 1 n (intCs l), .blk g55 3 #[.int .i64 x], .map g13 (encL intE (aput x (.bool true) sl)), .blk g2 38 #[.int .i64 4, .int .i64 lit, GV], .blk f 56 #[.slice R L.length c, .map (some m)], .map m (encL strE (keysGo L 0)), .row (.slice R L.length c) 38 3 L.length (gcells L vs), .ro D (Ins D L vs), .ro TabD Tab, .ro DI (fun w => IntsD DI w (.slice AI ins.length cI) ins)]) ap36 ((O58.re [2, 0, 1, 3, 4, 5, 6, 7, 8, 9] rfl : Own (zone (foldE f m R c D L vs ++ [inE DI (.slice AI ins.length cI) ins])) W w56 [.row (.slice A n cA) 3 1 n (intCs l), .blk g55 3 #[.int .i64 x], .map g13 (encL intE (aput x (.bool true) sl)), .blk g2 38 #[.int .i64 4, .int .i64 lit, GV], .blk f 56 #[.slice R L.length c, .map (some m)], .map m (encL strE (keysGo L 0)), .row (.slice R L.length c) 38 3 L.length (gcells L vs), .ro D (Ins D L vs), .ro TabD Tab, .ro DI (fun w => IntsD DI w (.slice AI ins.length cI) ins)]).blk 1 rfl) (cells := [.int .i64 x]) rfl rfl (by omega) (by omega) (ys := (intCs (l ++ [x]))) (intCs_snoc l x)
          refine wl_val (v := .slice A61 (n + 1) c62) (fun ρ e => r64 ρ _ _ _ _ _ _ _ (e _ _ rfl) (e _ _ rfl)) rfl rfl ?_
          refine wl_val (v := .slice A61 (n + 1) c62) (fun ρ e => ex_assign (e _ _ rfl)) rfl rfl ?_
          refine wl_nil ?_
          refine xw_block ?_
          refine xw_next K29 ?_
          refine cw_region ?_
          refine wl_val (v := .int .i64 ((k + 1 : Nat) : Int)) (fun ρ e => ex_arith (k := .i64) (u := (k : Int)) (v := 1) (e _ _ rfl) (e _ _ rfl) (congrArg some ((congrArg _ (by omega)).trans (wrap_in (u := ((k + 1 : Nat) : Int)) (by omega) (by omega))))) rfl rfl ?_
          refine wl_val (v := .int .i64 ((k + 1 : Nat) : Int)) (fun ρ e => ex_move (e _ _ rfl)) rfl rfl ?_
          refine wl_nil ?_
          refine xw_round K25 (k + 1, A61, c62, n + 1, l ++ [x], (aput x (.bool true) sl)) (by show ins.length - (k + 1) < ins.length - k; omega) ⟨(by show k + 1 ≤ _; omega), (by show n + 1 = (l ++ [x]).length; simp [hn]), (by show n + 1 ≤ k + 1; omega), (by show seenIs _ _; exact hsl.put x true (fun y => by by_cases e : y = x <;> simp [e])), (fun y hy => (List.mem_append.1 hy).elim (hl1 y) (fun h => by rw [List.mem_singleton.1 h]; exact hxL)), (by show _ = manyGo L 1 0 (ins.drop (k + 1)) (l ++ [x]); rw [hgo, hdr, manyGo, if_neg c33, if_pos ⟨c42, c49⟩]), (O65.re [0, 2, 3, 4, 5, 6, 7, 8, 9] rfl : Own (zone (foldE f m R c D L vs ++ [inE DI (.slice AI ins.length cI) ins])) W w63 [.row (.slice A61 (n + 1) c62) 3 1 (n + 1) (intCs (l ++ [x])), .map g13 (encL intE (aput x (.bool true) sl)), .blk g2 38 #[.int .i64 4, .int .i64 lit, GV], .blk f 56 #[.slice R L.length c, .map (some m)], .map m (encL strE (keysGo L 0)), .row (.slice R L.length c) 38 3 L.length (gcells L vs), .ro D (Ins D L vs), .ro TabD Tab, .ro DI (fun w => IntsD DI w (.slice AI ins.length cI) ins)])⟩ ⟨rfl, rfl, rfl, rfl, rfl, rfl, rfl, rfl, rfl, rfl, trivial⟩
  · have hke : k = ins.length := by omega
    rw [List.drop_eq_nil_of_le (by omega)] at hgo
    simp only [manyGo] at hgo
    refine cw_seq (fun FK68 K68 => ?_)
    refine cw_region ?_
    refine wl_val (v := .bool false) (fun ρ e => ex_cmp (u := (k : Int)) (v := ((ins.length : Nat) : Int)) (e _ _ rfl) (e _ _ rfl) (lss0 (by omega))) rfl rfl ?_
    refine wl_nil ?_
    refine xw_next K68 ?_
    refine cw_seq (fun FK69 K69 => ?_)
    refine cw_false rfl ?_
    refine cw_exit ?_
    refine xw_past (by intro h; cases h) ?_
    refine xw_past (by intro h; cases h) ?_
    refine xw_here ?_
    refine xw_next K19 ?_
    refine cw_seq (fun FK70 K70 => ?_)
    refine cw_seq (fun FK71 K71 => ?_)
    refine cw_region ?_
    refine wl_val (v := .slice A n cA) (fun ρ e => ex_move (e _ _ rfl)) rfl rfl ?_
    refine wl_val (v := .int .i64 (n : Int)) (fun ρ e => ex_len el36 (e _ _ rfl)) rfl rfl ?_
    refine wl_nil ?_
    refine xw_next K71 ?_
    refine cw_block ?_
    refine cw_seq (fun FK72 K72 => ?_)
    rcases l with _ | ⟨x, _ | ⟨x2, l2⟩⟩
    · have hn' : n = 0 := hn
      refine cw_region ?_
      refine wl_val (v := .bool true) (fun ρ e => ex_cmp (u := (n : Int)) (v := 0) (e _ _ rfl) (e _ _ rfl) (eql1 (by omega))) rfl rfl ?_
      refine wl_val (v := .bool true) (fun ρ e => ex_assign (e _ _ rfl)) rfl rfl ?_
      refine wl_nil ?_
      refine xw_next K72 ?_
      refine cw_true rfl ?_
      refine cw_seq (fun FK73 K73 => ?_)
      refine cw_region ?_
      refine wl_val (v := .pointer (some ⟨f, 0, none⟩)) (fun ρ e => ex_move (e _ _ rfl)) rfl rfl ?_
      refine wl_val (v := .int .i64 1) (fun ρ e => ex_move (e _ _ rfl)) rfl rfl ?_
      refine wl_val (v := .agg #[.int .i64 1, .int .i64 0, .slice none 0 0]) (fun ρ e => ex_build (cells := #[.int .i64 1, .int .i64 0, .slice none 0 0]) st38 (e.parts rfl) rfl) rfl rfl ?_
      refine wl_call (args := [.pointer (some ⟨f, 0, none⟩), .agg #[.int .i64 1, .int .i64 0, .slice none 0 0]]) in_80 rfl rfl rfl ?_
      have O74 : Own (zone (foldE f m R c D L vs ++ [inE DI (.slice AI ins.length cI) ins])) W w23 [.ro (fun _ => False) (fun w => IntsD (fun _ => False) w (.slice none 0 0) ([])), .row (.slice A n cA) 3 1 n (intCs []), .map g13 (encL intE sl), .blk g2 38 #[.int .i64 4, .int .i64 lit, GV], .blk f 56 #[.slice R L.length c, .map (some m)], .map m (encL strE (keysGo L 0)), .row (.slice R L.length c) 38 3 L.length (gcells L vs), .ro D (Ins D L vs), .ro TabD Tab, .ro DI (fun w => IntsD DI w (.slice AI ins.length cI) ins)] := O26.nilin
      refine (call_find (f := f) (m := m) (R := R) (c := c) (D := D) (L := L) (vs := vs) (D2 := (fun _ => False)) (V := .slice none 0 0) (g := ⟨1, 0, []⟩) (rest := [.row (.slice A n cA) 3 1 n (intCs []), .map g13 (encL intE sl), .blk g2 38 #[.int .i64 4, .int .i64 lit, GV], .ro DI (fun w => IntsD DI w (.slice AI ins.length cI) ins)]) (O74.re [4, 5, 6, 7, 8, 0, 1, 2, 3, 9] rfl : Own (zone (foldE f m R c D L vs ++ [inE DI (.slice AI ins.length cI) ins])) W w23 [.blk f 56 #[.slice R L.length c, .map (some m)], .map m (encL strE (keysGo L 0)), .row (.slice R L.length c) 38 3 L.length (gcells L vs), .ro D (Ins D L vs), .ro TabD Tab, .ro (fun _ => False) (fun w => IntsD (fun _ => False) w (.slice none 0 0) ([])), .row (.slice A n cA) 3 1 n (intCs []), .map g13 (encL intE sl), .blk g2 38 #[.int .i64 4, .int .i64 lit, GV], .ro DI (fun w => IntsD DI w (.slice AI ins.length cI) ins)]) (small_c (smallI_lit 1 rfl) (smallI_lit 0 rfl)) hL).mono ?_
      rintro _ w75 ⟨R76, c77, D78, vs79, rfl, O80⟩
      refine ⟨_, rfl, ?_⟩
      refine wl_val (v := .int .i64 ((findG L ⟨1, 0, []⟩).2)) (fun ρ e => ex_assign (e _ _ rfl)) rfl rfl ?_
      refine wl_nil ?_
      refine xw_next K73 ?_
      refine cw_ret ?_
      refine xw_blockret ?_
      refine xw_past (by intro h; cases h) ?_
      refine xw_ret (v := .int .i64 ((findG L ⟨1, 0, []⟩).2)) (fun T hT => res1 rfl T _ (hT 6 _ rfl)) ?_
      exact FPost.eq ⟨_, _, _, _, rfl, (O80.re [0, 1, 2, 3, 4] rfl : Own (zone (foldE f m R c D L vs ++ [inE DI (.slice AI ins.length cI) ins])) W w75 [.blk f 56 #[.slice R76 (((findG L ⟨1, 0, []⟩).1).length) c77, .map (some m)], .map m (encL strE (keysGo ((findG L ⟨1, 0, []⟩).1) 0)), .row (.slice R76 (((findG L ⟨1, 0, []⟩).1).length) c77) 38 3 (((findG L ⟨1, 0, []⟩).1).length) (gcells ((findG L ⟨1, 0, []⟩).1) vs79), .ro D78 (Ins D78 ((findG L ⟨1, 0, []⟩).1) vs79), .ro TabD Tab])⟩ (by rw [manyG_and, hgo])
    · have hn' : n = 1 := hn
      obtain ⟨gl, rfl⟩ := O26.rowshape 0 rfl (by omega)
      refine cw_region ?_
      refine wl_val (v := .bool false) (fun ρ e => ex_cmp (u := (n : Int)) (v := 0) (e _ _ rfl) (e _ _ rfl) (eql0 (by omega))) rfl rfl ?_
      refine wl_val (v := .bool false) (fun ρ e => ex_assign (e _ _ rfl)) rfl rfl ?_
      refine wl_nil ?_
      refine xw_next K72 ?_
      refine cw_false rfl ?_
      refine cw_seq (fun FK81 K81 => ?_)
      refine cw_region ?_
      refine wl_val (v := .bool true) (fun ρ e => ex_cmp (u := (n : Int)) (v := 1) (e _ _ rfl) (e _ _ rfl) (eql1 (by omega))) rfl rfl ?_
      refine wl_val (v := .bool true) (fun ρ e => ex_assign (e _ _ rfl)) rfl rfl ?_
      refine wl_nil ?_
      refine xw_next K81 ?_
      refine cw_true rfl ?_
      refine cw_seq (fun FK82 K82 => ?_)
      refine cw_region ?_
      refine wl_val (v := .slice (some ⟨gl, 0, none⟩) n cA) (fun ρ e => ex_move (e _ _ rfl)) rfl rfl ?_
      refine wl_val (v := .pointer (some ⟨gl, 0, none⟩)) (fun ρ e => ex_idx (q := 0) (i := 0) el36 (e _ _ rfl) (e _ _ rfl) (by omega) (by omega)) rfl rfl ?_
      refine wl_val (v := .int .i64 x) (fun ρ e => ex_load1 ty3 (e _ _ rfl) (rowcell (O26.row 0 rfl) (j := 0) rfl)) rfl rfl ?_
      refine wl_val (v := .int .i64 x) (fun ρ e => ex_assign (e _ _ rfl)) rfl rfl ?_
      refine wl_nil ?_
      refine xw_next K82 ?_
      refine cw_ret ?_
      refine xw_blockret ?_
      refine xw_past (by intro h; cases h) ?_
      refine xw_ret (v := .int .i64 x) (fun T hT => res1 rfl T _ (hT 6 _ rfl)) ?_
      exact FPost.eq (q' := (L, x)) ⟨_, _, _, _, rfl, (O26.re [3, 4, 5, 6, 7] rfl : Own (zone (foldE f m R c D L vs ++ [inE DI (.slice AI ins.length cI) ins])) W w23 [.blk f 56 #[.slice R L.length c, .map (some m)], .map m (encL strE (keysGo L 0)), .row (.slice R L.length c) 38 3 L.length (gcells L vs), .ro D (Ins D L vs), .ro TabD Tab])⟩ (by rw [manyG_and, hgo])
    · have hn' : n = l2.length + 2 := hn
      refine cw_region ?_
      refine wl_val (v := .bool false) (fun ρ e => ex_cmp (u := (n : Int)) (v := 0) (e _ _ rfl) (e _ _ rfl) (eql0 (by omega))) rfl rfl ?_
      refine wl_val (v := .bool false) (fun ρ e => ex_assign (e _ _ rfl)) rfl rfl ?_
      refine wl_nil ?_
      refine xw_next K72 ?_
      refine cw_false rfl ?_
      refine cw_seq (fun FK83 K83 => ?_)
      refine cw_region ?_
      refine wl_val (v := .bool false) (fun ρ e => ex_cmp (u := (n : Int)) (v := 1) (e _ _ rfl) (e _ _ rfl) (eql0 (by omega))) rfl rfl ?_
      refine wl_val (v := .bool false) (fun ρ e => ex_assign (e _ _ rfl)) rfl rfl ?_
      refine wl_nil ?_
      refine xw_next K83 ?_
      refine cw_false rfl ?_
      refine cw_skip ?_
      refine xw_block ?_
      refine xw_next K70 ?_
      refine cw_seq (fun FK84 K84 => ?_)
      refine cw_region ?_
      refine wl_val (v := .pointer (some ⟨f, 0, none⟩)) (fun ρ e => ex_move (e _ _ rfl)) rfl rfl ?_
      refine wl_val (v := .pointer (some ⟨g2, 0, none⟩)) (fun ρ e => ex_field (q := 0) fi38_0 (e _ _ rfl) rfl) rfl rfl ?_
      refine wl_val (v := .int .i64 4) (fun ρ e => ex_load1 ty3 (e _ _ rfl) (O26.cell 2 0 rfl rfl)) rfl rfl ?_
      refine wl_val (v := .slice A n cA) (fun ρ e => ex_move (e _ _ rfl)) rfl rfl ?_
      refine wl_val (v := .agg #[.int .i64 4, .int .i64 0, .slice A n cA]) (fun ρ e => ex_build (cells := #[.int .i64 4, .int .i64 0, .slice A n cA]) st38 (e.parts rfl) rfl) rfl rfl ?_
      refine wl_call (args := [.pointer (some ⟨f, 0, none⟩), .agg #[.int .i64 4, .int .i64 0, .slice A n cA]]) in_80 rfl rfl rfl ?_
      have O85 : Own (zone (foldE f m R c D L vs ++ [inE DI (.slice AI ins.length cI) ins])) W w23 [.ro (fun k => (Value.ownBlock (.slice A n cA)) = some k) (fun w => IntsD (fun k => (Value.ownBlock (.slice A n cA)) = some k) w (.slice A n cA) (x :: x2 :: l2)), .map g13 (encL intE sl), .blk g2 38 #[.int .i64 4, .int .i64 lit, GV], .blk f 56 #[.slice R L.length c, .map (some m)], .map m (encL strE (keysGo L 0)), .row (.slice R L.length c) 38 3 L.length (gcells L vs), .ro D (Ins D L vs), .ro TabD Tab, .ro DI (fun w => IntsD DI w (.slice AI ins.length cI) ins)] := Own.rowin (l := (x :: x2 :: l2)) O26
      refine (call_find (f := f) (m := m) (R := R) (c := c) (D := D) (L := L) (vs := vs) (D2 := (fun k => (Value.ownBlock (.slice A n cA)) = some k)) (V := .slice A n cA) (g := ⟨4, 0, (x :: x2 :: l2)⟩) (rest := [.map g13 (encL intE sl), .blk g2 38 #[.int .i64 4, .int .i64 lit, GV], .ro DI (fun w => IntsD DI w (.slice AI ins.length cI) ins)]) (O85.re [3, 4, 5, 6, 7, 0, 1, 2, 8] rfl : Own (zone (foldE f m R c D L vs ++ [inE DI (.slice AI ins.length cI) ins])) W w23 [.blk f 56 #[.slice R L.length c, .map (some m)], .map m (encL strE (keysGo L 0)), .row (.slice R L.length c) 38 3 L.length (gcells L vs), .ro D (Ins D L vs), .ro TabD Tab, .ro (fun k => (Value.ownBlock (.slice A n cA)) = some k) (fun w => IntsD (fun k => (Value.ownBlock (.slice A n cA)) = some k) w (.slice A n cA) (x :: x2 :: l2)), .map g13 (encL intE sl), .blk g2 38 #[.int .i64 4, .int .i64 lit, GV], .ro DI (fun w => IntsD DI w (.slice AI ins.length cI) ins)]) (small_n (smallI_lit 4 rfl) (fun x hx => by have := hl1 x hx; unfold smallI; omega) (by omega)) hL).mono ?_
      rintro _ w86 ⟨R87, c88, D89, vs90, rfl, O91⟩
      refine ⟨_, rfl, ?_⟩
      refine wl_val (v := .int .i64 ((findG L ⟨4, 0, (x :: x2 :: l2)⟩).2)) (fun ρ e => ex_assign (e _ _ rfl)) rfl rfl ?_
      refine wl_nil ?_
      refine xw_next K84 ?_
      refine cw_ret ?_
      refine xw_ret (v := .int .i64 ((findG L ⟨4, 0, (x :: x2 :: l2)⟩).2)) (fun T hT => res1 rfl T _ (hT 6 _ rfl)) ?_
      exact FPost.eq ⟨_, _, _, _, rfl, (O91.re [0, 1, 2, 3, 4] rfl : Own (zone (foldE f m R c D L vs ++ [inE DI (.slice AI ins.length cI) ins])) W w86 [.blk f 56 #[.slice R87 (((findG L ⟨4, 0, (x :: x2 :: l2)⟩).1).length) c88, .map (some m)], .map m (encL strE (keysGo ((findG L ⟨4, 0, (x :: x2 :: l2)⟩).1) 0)), .row (.slice R87 (((findG L ⟨4, 0, (x :: x2 :: l2)⟩).1).length) c88) 38 3 (((findG L ⟨4, 0, (x :: x2 :: l2)⟩).1).length) (gcells ((findG L ⟨4, 0, (x :: x2 :: l2)⟩).1) vs90), .ro D89 (Ins D89 ((findG L ⟨4, 0, (x :: x2 :: l2)⟩).1) vs90), .ro TabD Tab])⟩ (by rw [manyG_and, hgo])
end
end Go.Proofs.YtbemhgojfehnjaaDoor
namespace Go.Proofs.YtbemhgojfehnjaaDoor
open Go Go.RowKit
section
variable {W : World} {f m c : Nat} {R : Option Addr} {D DI : Nat → Prop} {L : List Gate} {vs : List Value} {V GV : Value} {kind lit : Int} {ins : List Int}
theorem xor_ (O0 : Own (zone (foldE f m R c D L vs ++ [inE DI V ins])) W W (foldE f m R c D L vs ++ [inE DI V ins])) (hin : ∀ x ∈ ins, 0 ≤ x ∧ x < (L.length : Int)) (hil : ins.length ≤ 900000) (ok : okGs L) (hL : L.length ≤ 1000000) :
    Calls Tryd.prog 63 #[.pointer (some ⟨f, 0, none⟩), .agg #[.int .i64 6, .int .i64 lit, GV], V] W (FPost (foldE f m R c D L vs ++ [inE DI V ins]) W f m (xorG L ins)) := by
  have hV : IntsD DI W V ins := O0.ro 5 rfl
  have hVf := fun (h : 0 < ins.length) => hV.form h
  obtain ⟨AI, cI, rfl⟩ := hV.slice
  refine sx_enter (args := [.pointer (some ⟨f, 0, none⟩), .agg #[.int .i64 6, .int .i64 lit, GV], .slice AI ins.length cI]) Tryd.func63 rfl rfl (by simp) ?_
  refine cw_seq (fun FK1 K1 => ?_)
  refine cw_region ?_
  obtain ⟨g2, w3, r4, O5, hg6, hs7⟩ := own_box O0 38 (.agg #[.int .i64 6, .int .i64 lit, GV]) rfl
  refine wl_val (v := .pointer (some ⟨g2, 0, none⟩)) (fun ρ e => r4 ρ _ _ _ _ _ _ (e _ _ rfl)) rfl rfl ?_
  refine wl_val (v := .int .i64 0) (fun ρ e => ex_assign (e _ _ rfl)) rfl rfl ?_
  refine wl_nil ?_
  refine xw_next K1 ?_
  refine cw_seq (fun FK8 K8 => ?_)
  refine cw_region ?_
  obtain ⟨g9, w10, r11, O12, hg13, hs14⟩ := own_makeMap O5 87
  refine wl_val (v := .map (some g9)) (fun ρ e => r11 ρ _ _ _ _ _) rfl rfl ?_
  refine wl_val (v := .map (some g9)) (fun ρ e => ex_assign (e _ _ rfl)) rfl rfl ?_
  refine wl_nil ?_
  refine xw_next K8 ?_
  refine cw_seq (fun FK15 K15 => ?_)
  refine cw_seq (fun FK16 K16 => ?_)
  refine cw_region ?_
  refine wl_val (v := .slice AI ins.length cI) (fun ρ e => ex_move (e _ _ rfl)) rfl rfl ?_
  refine wl_val (v := .int .i64 ((ins.length : Nat) : Int)) (fun ρ e => ex_len el36 (e _ _ rfl)) rfl rfl ?_
  refine wl_val (v := .int .i64 0) (fun ρ e => ex_move (e _ _ rfl)) rfl rfl ?_
  refine wl_nil ?_
  refine xw_next K16 ?_
  refine cw_block ?_
  have O17 : Own (zone (foldE f m R c D L vs ++ [inE DI (.slice AI ins.length cI) ins])) W w10 [.map g9 ([]), .blk g2 38 #[.int .i64 6, .int .i64 lit, GV], .blk f 56 #[.slice R L.length c, .map (some m)], .map m (encL strE (keysGo L 0)), .row (.slice R L.length c) 38 3 L.length (gcells L vs), .ro D (Ins D L vs), .ro TabD Tab, .ro DI (fun w => IntsD DI w (.slice AI ins.length cI) ins)] := O12
  refine cw_loop (ι := Nat × List (Int × Value)) (fun q => [(0, .pointer (some ⟨f, 0, none⟩)), (2, .slice AI ins.length cI), (6, .int .i64 0), (7, .map (some g9)), (15, .slice AI ins.length cI), (16, .int .i64 ((ins.length : Nat) : Int)), (17, .int .i64 (q.1 : Int))]) (fun q X => (q.1 ≤ ins.length) ∧ (seenIs q.2 (fun y => oddIn y (ins.take q.1))) ∧ Own (zone (foldE f m R c D L vs ++ [inE DI (.slice AI ins.length cI) ins])) W X [.map g9 (encL intE q.2), .blk g2 38 #[.int .i64 6, .int .i64 lit, GV], .blk f 56 #[.slice R L.length c, .map (some m)], .map m (encL strE (keysGo L 0)), .row (.slice R L.length c) 38 3 L.length (gcells L vs), .ro D (Ins D L vs), .ro TabD Tab, .ro DI (fun w => IntsD DI w (.slice AI ins.length cI) ins)]) (fun q => ins.length - q.1) (0, []) ⟨Nat.zero_le _, seen_nil, O17⟩ ⟨rfl, rfl, rfl, rfl, rfl, rfl, rfl, trivial⟩ (fun q w18 hJ F19 K20 => ?_)
  obtain ⟨k, sl⟩ := q
  obtain ⟨hk0, hsl, O21⟩ := hJ
  dsimp only at hk0 hsl O21 ⊢
  by_cases hk : k < ins.length
  · obtain ⟨x, hxk, _, _⟩ := drop_cons hk
    obtain ⟨bI, oI, cJ, hbI⟩ := hVf (by omega)
    refine cw_seq (fun FK22 K22 => ?_)
    refine cw_region ?_
    refine wl_val (v := .bool true) (fun ρ e => ex_cmp (u := (k : Int)) (v := ((ins.length : Nat) : Int)) (e _ _ rfl) (e _ _ rfl) (lss1 (by omega))) rfl rfl ?_
    refine wl_nil ?_
    refine xw_next K22 ?_
    refine cw_seq (fun FK23 K23 => ?_)
    refine cw_true rfl ?_
    refine cw_skip ?_
    refine xw_next K23 ?_
    refine cw_seq (fun FK24 K24 => ?_)
    refine cw_block ?_
    refine cw_seq (fun FK25 K25 => ?_)
    refine cw_region ?_
    refine wl_val (v := .pointer (some ⟨bI, oI + k, none⟩)) (fun ρ e => ex_idx (q := oI + k) (o := oI) (i := k) el36 ((e _ _ rfl).trans hbI) (e _ _ rfl) hk (by omega)) rfl rfl ?_
    refine wl_val (v := .int .i64 x) (fun ρ e => ex_load1 ty3 (e _ _ rfl) (IntsD.cellq ((hbI ▸ (O21.ro 7 rfl)) : IntsD DI _ (.slice (some ⟨bI, oI, none⟩) ins.length cJ) ins) hxk)) rfl rfl ?_
    refine wl_val (v := .int .i64 x) (fun ρ e => ex_assign (e _ _ rfl)) rfl rfl ?_
    refine wl_nil ?_
    refine xw_next K25 ?_
    refine cw_region ?_
    refine wl_val (v := .map (some g9)) (fun ρ e => ex_move (e _ _ rfl)) rfl rfl ?_
    refine wl_val (v := .int .i64 x) (fun ρ e => ex_move (e _ _ rfl)) rfl rfl ?_
    refine wl_val (v := .map (some g9)) (fun ρ e => ex_move (e _ _ rfl)) rfl rfl ?_
    refine wl_val (v := .int .i64 x) (fun ρ e => ex_move (e _ _ rfl)) rfl rfl ?_
    refine wl_val (v := .bool (oddIn x (ins.take k))) (fun ρ e => ex_look0 intKey Tryd.underlying87 Tryd.underlying3 ze4 (O21.map 0 rfl) x (hsl x) (e _ _ rfl) (e _ _ rfl)) rfl rfl ?_
    refine wl_val (v := .bool (!(oddIn x (ins.take k)))) (fun ρ e => ex_lnot (b := (oddIn x (ins.take k))) (e _ _ rfl)) rfl rfl ?_
    obtain ⟨w26, r27, O28, hs29⟩ := own_mapput O21 intKey Tryd.underlying87 Tryd.underlying3 x (.bool (!(oddIn x (ins.take k))))
    refine wl_none (fun ρ e => r27 ρ _ _ _ _ _ _ _ (e _ _ rfl) (e _ _ rfl) (e _ _ rfl)) rfl ?_
    refine wl_nil ?_
    refine xw_block ?_
    refine xw_next K24 ?_
    refine cw_region ?_
    refine wl_val (v := .int .i64 ((k + 1 : Nat) : Int)) (fun ρ e => ex_arith (k := .i64) (u := (k : Int)) (v := 1) (e _ _ rfl) (e _ _ rfl) (congrArg some ((congrArg _ (by omega)).trans (wrap_in (u := ((k + 1 : Nat) : Int)) (by omega) (by omega))))) rfl rfl ?_
    refine wl_val (v := .int .i64 ((k + 1 : Nat) : Int)) (fun ρ e => ex_move (e _ _ rfl)) rfl rfl ?_
    refine wl_nil ?_
    refine xw_round K20 (k + 1, (aput x (.bool (!(oddIn x (ins.take k)))) sl)) (by show ins.length - (k + 1) < ins.length - k; omega) ⟨(by show k + 1 ≤ _; omega), odd_put hsl hk hxk, O28⟩ ⟨rfl, rfl, rfl, rfl, rfl, rfl, rfl, trivial⟩
  · have hke : k = ins.length := by omega
    rw [hke, List.take_length] at hsl
    refine cw_seq (fun FK30 K30 => ?_)
    refine cw_region ?_
    refine wl_val (v := .bool false) (fun ρ e => ex_cmp (u := (k : Int)) (v := ((ins.length : Nat) : Int)) (e _ _ rfl) (e _ _ rfl) (lss0 (by omega))) rfl rfl ?_
    refine wl_nil ?_
    refine xw_next K30 ?_
    refine cw_seq (fun FK31 K31 => ?_)
    refine cw_false rfl ?_
    refine cw_exit ?_
    refine xw_past (by intro h; cases h) ?_
    refine xw_past (by intro h; cases h) ?_
    refine xw_here ?_
    refine xw_next K15 ?_
    refine cw_seq (fun FK32 K32 => ?_)
    refine cw_region ?_
    refine wl_val (v := .slice none 0 0) (fun ρ e => ex_assign (e _ _ rfl)) rfl rfl ?_
    refine wl_nil ?_
    refine xw_next K32 ?_
    refine cw_seq (fun FK33 K33 => ?_)
    refine cw_region ?_
    refine wl_val (v := .int .i64 (-1)) (fun ρ e => ex_assign (e _ _ rfl)) rfl rfl ?_
    refine wl_nil ?_
    refine xw_next K33 ?_
    refine cw_seq (fun FK34 K34 => ?_)
    refine cw_seq (fun FK35 K35 => ?_)
    refine cw_region ?_
    refine wl_val (v := .slice AI ins.length cI) (fun ρ e => ex_move (e _ _ rfl)) rfl rfl ?_
    refine wl_val (v := .int .i64 ((ins.length : Nat) : Int)) (fun ρ e => ex_len el36 (e _ _ rfl)) rfl rfl ?_
    refine wl_val (v := .int .i64 0) (fun ρ e => ex_move (e _ _ rfl)) rfl rfl ?_
    refine wl_nil ?_
    refine xw_next K35 ?_
    refine cw_block ?_
    clear hk0 hke
    skip
    have O36 : Own (zone (foldE f m R c D L vs ++ [inE DI (.slice AI ins.length cI) ins])) W w18 [.row (.slice none 0 0) 3 1 0 (intCs []), .map g9 (encL intE sl), .blk g2 38 #[.int .i64 6, .int .i64 lit, GV], .blk f 56 #[.slice R L.length c, .map (some m)], .map m (encL strE (keysGo L 0)), .row (.slice R L.length c) 38 3 L.length (gcells L vs), .ro D (Ins D L vs), .ro TabD Tab, .ro DI (fun w => IntsD DI w (.slice AI ins.length cI) ins)] := O21.nilrow 3 1
    have O37 : Own (zone (foldE f m R c D L vs ++ [inE DI (.slice AI ins.length cI) ins])) W w18 [.row (.slice none 0 0) 3 1 0 (intCs []), .map g9 (encL intE sl), .blk g2 38 #[.int .i64 6, .int .i64 lit, GV], .blk f 56 #[.slice R L.length c, .map (some m)], .map m (encL strE (keysGo L 0)), .row (.slice R L.length c) 38 3 L.length (gcells L vs), .ro D (Ins D L vs), .ro TabD Tab, .ro DI (fun w => IntsD DI w (.slice AI ins.length cI) ins)] := O36
    refine cw_loop (ι := Nat × Option Addr × Nat × Nat × List Int × List (Int × Value) × (Int → Bool) × Int) (fun q => [(0, .pointer (some ⟨f, 0, none⟩)), (6, .int .i64 0), (7, .map (some g9)), (28, .slice AI ins.length cI), (29, .int .i64 ((ins.length : Nat) : Int)), (10, .slice q.2.1 q.2.2.2.1 q.2.2.1), (11, .int .i64 q.2.2.2.2.2.2.2), (30, .int .i64 (q.1 : Int))]) (fun q X => (q.1 ≤ ins.length) ∧ (q.2.2.2.1 = q.2.2.2.2.1.length) ∧ (q.2.2.2.1 ≤ q.1) ∧ (seenIs q.2.2.2.2.2.1 q.2.2.2.2.2.2.1) ∧ (∀ x ∈ q.2.2.2.2.1, 0 ≤ x ∧ x < (L.length : Int)) ∧ (q.2.2.2.2.2.2.2 = -1 ∨ 0 ≤ q.2.2.2.2.2.2.2 ∧ q.2.2.2.2.2.2.2 < (L.length : Int)) ∧ (xorGo L (fun y => oddIn y ins) ins [] (-1) = xorGo L q.2.2.2.2.2.2.1 (ins.drop q.1) q.2.2.2.2.1 q.2.2.2.2.2.2.2) ∧ Own (zone (foldE f m R c D L vs ++ [inE DI (.slice AI ins.length cI) ins])) W X [.row (.slice q.2.1 q.2.2.2.1 q.2.2.1) 3 1 q.2.2.2.1 (intCs q.2.2.2.2.1), .map g9 (encL intE q.2.2.2.2.2.1), .blk g2 38 #[.int .i64 6, .int .i64 lit, GV], .blk f 56 #[.slice R L.length c, .map (some m)], .map m (encL strE (keysGo L 0)), .row (.slice R L.length c) 38 3 L.length (gcells L vs), .ro D (Ins D L vs), .ro TabD Tab, .ro DI (fun w => IntsD DI w (.slice AI ins.length cI) ins)]) (fun q => ins.length - q.1) (0, none, 0, 0, [], sl, (fun y => oddIn y ins), (-1)) ⟨Nat.zero_le _, rfl, Nat.zero_le _, hsl, (fun x hx => absurd hx (List.not_mem_nil)), (.inl rfl), rfl, O37⟩ ⟨rfl, rfl, rfl, rfl, rfl, rfl, rfl, rfl, trivial⟩ (fun q w38 hJ F39 K40 => ?_)
    obtain ⟨k, A, cA, n, l, sm, p, last⟩ := q
    obtain ⟨hk0, hn, hnk, hsl, hl1, hla, hgo, O41⟩ := hJ
    dsimp only at hk0 hn hnk hsl hl1 hla hgo O41 ⊢
    skip
    by_cases hk : k < ins.length
    · obtain ⟨x, hxk, hdr, hxm⟩ := drop_cons hk
      have hxL := hin x hxm
      obtain ⟨bI, oI, cJ, hbI⟩ := hVf (by omega)
      refine cw_seq (fun FK42 K42 => ?_)
      refine cw_region ?_
      refine wl_val (v := .bool true) (fun ρ e => ex_cmp (u := (k : Int)) (v := ((ins.length : Nat) : Int)) (e _ _ rfl) (e _ _ rfl) (lss1 (by omega))) rfl rfl ?_
      refine wl_nil ?_
      refine xw_next K42 ?_
      refine cw_seq (fun FK43 K43 => ?_)
      refine cw_true rfl ?_
      refine cw_skip ?_
      refine xw_next K43 ?_
      refine cw_seq (fun FK44 K44 => ?_)
      refine cw_block ?_
      refine cw_seq (fun FK45 K45 => ?_)
      refine cw_region ?_
      refine wl_val (v := .pointer (some ⟨bI, oI + k, none⟩)) (fun ρ e => ex_idx (q := oI + k) (o := oI) (i := k) el36 ((e _ _ rfl).trans hbI) (e _ _ rfl) hk (by omega)) rfl rfl ?_
      refine wl_val (v := .int .i64 x) (fun ρ e => ex_load1 ty3 (e _ _ rfl) (IntsD.cellq ((hbI ▸ (O41.ro 8 rfl)) : IntsD DI _ (.slice (some ⟨bI, oI, none⟩) ins.length cJ) ins) hxk)) rfl rfl ?_
      refine wl_val (v := .int .i64 x) (fun ρ e => ex_assign (e _ _ rfl)) rfl rfl ?_
      refine wl_nil ?_
      refine xw_next K45 ?_
      refine cw_seq (fun FK46 K46 => ?_)
      refine cw_block ?_
      refine cw_seq (fun FK47 K47 => ?_)
      refine cw_region ?_
      refine wl_val (v := .map (some g9)) (fun ρ e => ex_move (e _ _ rfl)) rfl rfl ?_
      refine wl_val (v := .int .i64 x) (fun ρ e => ex_move (e _ _ rfl)) rfl rfl ?_
      by_cases c48 : p x = true
      · skip
        refine wl_val (v := .bool true) (fun ρ e => ex_look0 intKey Tryd.underlying87 Tryd.underlying3 ze4 (O41.map 1 rfl) x ((hsl x).trans (congrArg Value.bool c48)) (e _ _ rfl) (e _ _ rfl)) rfl rfl ?_
        refine wl_val (v := .bool false) (fun ρ e => ex_lnot (b := true) (e _ _ rfl)) rfl rfl ?_
        refine wl_val (v := .bool false) (fun ρ e => ex_move (e _ _ rfl)) rfl rfl ?_
        refine wl_val (v := .pointer (some ⟨f, 0, none⟩)) (fun ρ e => ex_move (e _ _ rfl)) rfl rfl ?_
        refine wl_val (v := .int .i64 x) (fun ρ e => ex_move (e _ _ rfl)) rfl rfl ?_
        by_cases c49 : kindAt L x = 0
        · skip
          refine wl_call (args := [.pointer (some ⟨f, 0, none⟩), .int .i64 x, .int .i64 0]) in_82 rfl rfl rfl ?_
          refine (is1 (f := f) (m := m) (R := R) (c := c) (D := D) (L := L) (vs := vs) (rest := [.row (.slice A n cA) 3 1 n (intCs l), .map g9 (encL intE sm), .blk g2 38 #[.int .i64 6, .int .i64 lit, GV], .ro DI (fun w => IntsD DI w (.slice AI ins.length cI) ins)]) (O41.re [3, 4, 5, 6, 7, 0, 1, 2, 8] rfl : Own (zone (foldE f m R c D L vs ++ [inE DI (.slice AI ins.length cI) ins])) W w38 [.blk f 56 #[.slice R L.length c, .map (some m)], .map m (encL strE (keysGo L 0)), .row (.slice R L.length c) 38 3 L.length (gcells L vs), .ro D (Ins D L vs), .ro TabD Tab, .row (.slice A n cA) 3 1 n (intCs l), .map g9 (encL intE sm), .blk g2 38 #[.int .i64 6, .int .i64 lit, GV], .ro DI (fun w => IntsD DI w (.slice AI ins.length cI) ins)]) hxL c49).mono ?_
          rintro _ w50 ⟨rfl, hb51⟩
          have O52 : Own (zone (foldE f m R c D L vs ++ [inE DI (.slice AI ins.length cI) ins])) W w50 [.row (.slice A n cA) 3 1 n (intCs l), .map g9 (encL intE sm), .blk g2 38 #[.int .i64 6, .int .i64 lit, GV], .blk f 56 #[.slice R L.length c, .map (some m)], .map m (encL strE (keysGo L 0)), .row (.slice R L.length c) 38 3 L.length (gcells L vs), .ro D (Ins D L vs), .ro TabD Tab, .ro DI (fun w => IntsD DI w (.slice AI ins.length cI) ins)] := O41.below hb51
          refine ⟨_, rfl, ?_⟩
          refine wl_val (v := .bool true) (fun ρ e => ex_pick0 (e _ _ rfl) (e _ _ rfl)) rfl rfl ?_
          refine wl_val (v := .bool true) (fun ρ e => ex_assign (e _ _ rfl)) rfl rfl ?_
          refine wl_nil ?_
          refine xw_next K47 ?_
          refine cw_true rfl ?_
          refine cw_exit ?_
          refine xw_other rfl ?_
          refine xw_past (by intro h; cases h) ?_
          refine xw_here ?_
          refine xw_next K44 ?_
          refine cw_region ?_
          refine wl_val (v := .int .i64 ((k + 1 : Nat) : Int)) (fun ρ e => ex_arith (k := .i64) (u := (k : Int)) (v := 1) (e _ _ rfl) (e _ _ rfl) (congrArg some ((congrArg _ (by omega)).trans (wrap_in (u := ((k + 1 : Nat) : Int)) (by omega) (by omega))))) rfl rfl ?_
          refine wl_val (v := .int .i64 ((k + 1 : Nat) : Int)) (fun ρ e => ex_move (e _ _ rfl)) rfl rfl ?_
          refine wl_nil ?_
          refine xw_round K40 (k + 1, A, cA, n, l, sm, p, last) (by show ins.length - (k + 1) < ins.length - k; omega) ⟨(by show k + 1 ≤ _; omega), hn, (by show n ≤ k + 1; omega), hsl, hl1, hla, (by show _ = xorGo L p (ins.drop (k + 1)) l last; rw [hgo, hdr, xorGo, if_pos (.inr c49)]), O52⟩ ⟨rfl, rfl, rfl, rfl, rfl, rfl, rfl, rfl, trivial⟩
        · skip
          refine wl_call (args := [.pointer (some ⟨f, 0, none⟩), .int .i64 x, .int .i64 0]) in_82 rfl rfl rfl ?_
          refine (is0 (f := f) (m := m) (R := R) (c := c) (D := D) (L := L) (vs := vs) (rest := [.row (.slice A n cA) 3 1 n (intCs l), .map g9 (encL intE sm), .blk g2 38 #[.int .i64 6, .int .i64 lit, GV], .ro DI (fun w => IntsD DI w (.slice AI ins.length cI) ins)]) (O41.re [3, 4, 5, 6, 7, 0, 1, 2, 8] rfl : Own (zone (foldE f m R c D L vs ++ [inE DI (.slice AI ins.length cI) ins])) W w38 [.blk f 56 #[.slice R L.length c, .map (some m)], .map m (encL strE (keysGo L 0)), .row (.slice R L.length c) 38 3 L.length (gcells L vs), .ro D (Ins D L vs), .ro TabD Tab, .row (.slice A n cA) 3 1 n (intCs l), .map g9 (encL intE sm), .blk g2 38 #[.int .i64 6, .int .i64 lit, GV], .ro DI (fun w => IntsD DI w (.slice AI ins.length cI) ins)]) hxL c49).mono ?_
          rintro _ w53 ⟨rfl, hb54⟩
          have O55 : Own (zone (foldE f m R c D L vs ++ [inE DI (.slice AI ins.length cI) ins])) W w53 [.row (.slice A n cA) 3 1 n (intCs l), .map g9 (encL intE sm), .blk g2 38 #[.int .i64 6, .int .i64 lit, GV], .blk f 56 #[.slice R L.length c, .map (some m)], .map m (encL strE (keysGo L 0)), .row (.slice R L.length c) 38 3 L.length (gcells L vs), .ro D (Ins D L vs), .ro TabD Tab, .ro DI (fun w => IntsD DI w (.slice AI ins.length cI) ins)] := O41.below hb54
          refine ⟨_, rfl, ?_⟩
          refine wl_val (v := .bool false) (fun ρ e => ex_pick0 (e _ _ rfl) (e _ _ rfl)) rfl rfl ?_
          refine wl_val (v := .bool false) (fun ρ e => ex_assign (e _ _ rfl)) rfl rfl ?_
          refine wl_nil ?_
          refine xw_next K47 ?_
          refine cw_false rfl ?_
          refine cw_seq (fun FK56 K56 => ?_)
          refine cw_region ?_
          refine wl_val (v := .pointer (some ⟨f, 0, none⟩)) (fun ρ e => ex_move (e _ _ rfl)) rfl rfl ?_
          refine wl_val (v := .int .i64 x) (fun ρ e => ex_move (e _ _ rfl)) rfl rfl ?_
          by_cases c57 : kindAt L x = 1
          · skip
            refine wl_call (args := [.pointer (some ⟨f, 0, none⟩), .int .i64 x, .int .i64 1]) in_82 rfl rfl rfl ?_
            refine (is1 (f := f) (m := m) (R := R) (c := c) (D := D) (L := L) (vs := vs) (rest := [.row (.slice A n cA) 3 1 n (intCs l), .map g9 (encL intE sm), .blk g2 38 #[.int .i64 6, .int .i64 lit, GV], .ro DI (fun w => IntsD DI w (.slice AI ins.length cI) ins)]) (O55.re [3, 4, 5, 6, 7, 0, 1, 2, 8] rfl : Own (zone (foldE f m R c D L vs ++ [inE DI (.slice AI ins.length cI) ins])) W w53 [.blk f 56 #[.slice R L.length c, .map (some m)], .map m (encL strE (keysGo L 0)), .row (.slice R L.length c) 38 3 L.length (gcells L vs), .ro D (Ins D L vs), .ro TabD Tab, .row (.slice A n cA) 3 1 n (intCs l), .map g9 (encL intE sm), .blk g2 38 #[.int .i64 6, .int .i64 lit, GV], .ro DI (fun w => IntsD DI w (.slice AI ins.length cI) ins)]) hxL c57).mono ?_
            rintro _ w58 ⟨rfl, hb59⟩
            have O60 : Own (zone (foldE f m R c D L vs ++ [inE DI (.slice AI ins.length cI) ins])) W w58 [.row (.slice A n cA) 3 1 n (intCs l), .map g9 (encL intE sm), .blk g2 38 #[.int .i64 6, .int .i64 lit, GV], .blk f 56 #[.slice R L.length c, .map (some m)], .map m (encL strE (keysGo L 0)), .row (.slice R L.length c) 38 3 L.length (gcells L vs), .ro D (Ins D L vs), .ro TabD Tab, .ro DI (fun w => IntsD DI w (.slice AI ins.length cI) ins)] := O55.below hb59
            refine ⟨_, rfl, ?_⟩
            refine wl_val (v := .bool true) (fun ρ e => ex_assign (e _ _ rfl)) rfl rfl ?_
            refine wl_nil ?_
            refine xw_next K56 ?_
            refine cw_true rfl ?_
            refine cw_region ?_
            refine wl_val (v := .int .i64 x) (fun ρ e => ex_move (e _ _ rfl)) rfl rfl ?_
            refine wl_val (v := .int .i64 x) (fun ρ e => ex_assign (e _ _ rfl)) rfl rfl ?_
            refine wl_nil ?_
            refine xw_block ?_
            refine xw_next K46 ?_
            refine cw_region ?_
            refine wl_val (v := .map (some g9)) (fun ρ e => ex_move (e _ _ rfl)) rfl rfl ?_
            refine wl_val (v := .int .i64 x) (fun ρ e => ex_move (e _ _ rfl)) rfl rfl ?_
            obtain ⟨w61, r62, O63, hs64⟩ := own_mapput (O60.re [1, 0, 2, 3, 4, 5, 6, 7, 8] rfl : Own (zone (foldE f m R c D L vs ++ [inE DI (.slice AI ins.length cI) ins])) W w58 [.map g9 (encL intE sm), .row (.slice A n cA) 3 1 n (intCs l), .blk g2 38 #[.int .i64 6, .int .i64 lit, GV], .blk f 56 #[.slice R L.length c, .map (some m)], .map m (encL strE (keysGo L 0)), .row (.slice R L.length c) 38 3 L.length (gcells L vs), .ro D (Ins D L vs), .ro TabD Tab, .ro DI (fun w => IntsD DI w (.slice AI ins.length cI) ins)]) intKey Tryd.underlying87 Tryd.underlying3 x (.bool false)
            refine wl_none (fun ρ e => r62 ρ _ _ _ _ _ _ _ (e _ _ rfl) (e _ _ rfl) (e _ _ rfl)) rfl ?_
            refine wl_nil ?_
            refine xw_block ?_
            refine xw_next K44 ?_
            refine cw_region ?_
            refine wl_val (v := .int .i64 ((k + 1 : Nat) : Int)) (fun ρ e => ex_arith (k := .i64) (u := (k : Int)) (v := 1) (e _ _ rfl) (e _ _ rfl) (congrArg some ((congrArg _ (by omega)).trans (wrap_in (u := ((k + 1 : Nat) : Int)) (by omega) (by omega))))) rfl rfl ?_
            refine wl_val (v := .int .i64 ((k + 1 : Nat) : Int)) (fun ρ e => ex_move (e _ _ rfl)) rfl rfl ?_
            refine wl_nil ?_
            refine xw_round K40 (k + 1, A, cA, n, l, (aput x (.bool false) sm), (fun y => if y = x then false else p y), x) (by show ins.length - (k + 1) < ins.length - k; omega) ⟨(by show k + 1 ≤ _; omega), hn, (by show n ≤ k + 1; omega), hsl.put x false (fun _ => rfl), hl1, (.inr hxL), (by show _ = xorGo L (fun y => if y = x then false else p y) (ins.drop (k + 1)) l x; rw [hgo, hdr, xorGo, if_neg (fun h => h.elim (fun h => by rw [c48] at h; cases h) c49), if_pos c57]), (O63.re [1, 0, 2, 3, 4, 5, 6, 7, 8] rfl : Own (zone (foldE f m R c D L vs ++ [inE DI (.slice AI ins.length cI) ins])) W w61 [.row (.slice A n cA) 3 1 n (intCs l), .map g9 (encL intE (aput x (.bool false) sm)), .blk g2 38 #[.int .i64 6, .int .i64 lit, GV], .blk f 56 #[.slice R L.length c, .map (some m)], .map m (encL strE (keysGo L 0)), .row (.slice R L.length c) 38 3 L.length (gcells L vs), .ro D (Ins D L vs), .ro TabD Tab, .ro DI (fun w => IntsD DI w (.slice AI ins.length cI) ins)])⟩ ⟨rfl, rfl, rfl, rfl, rfl, rfl, rfl, rfl, trivial⟩
          · skip
            refine wl_call (args := [.pointer (some ⟨f, 0, none⟩), .int .i64 x, .int .i64 1]) in_82 rfl rfl rfl ?_
            refine (is0 (f := f) (m := m) (R := R) (c := c) (D := D) (L := L) (vs := vs) (rest := [.row (.slice A n cA) 3 1 n (intCs l), .map g9 (encL intE sm), .blk g2 38 #[.int .i64 6, .int .i64 lit, GV], .ro DI (fun w => IntsD DI w (.slice AI ins.length cI) ins)]) (O55.re [3, 4, 5, 6, 7, 0, 1, 2, 8] rfl : Own (zone (foldE f m R c D L vs ++ [inE DI (.slice AI ins.length cI) ins])) W w53 [.blk f 56 #[.slice R L.length c, .map (some m)], .map m (encL strE (keysGo L 0)), .row (.slice R L.length c) 38 3 L.length (gcells L vs), .ro D (Ins D L vs), .ro TabD Tab, .row (.slice A n cA) 3 1 n (intCs l), .map g9 (encL intE sm), .blk g2 38 #[.int .i64 6, .int .i64 lit, GV], .ro DI (fun w => IntsD DI w (.slice AI ins.length cI) ins)]) hxL c57).mono ?_
            rintro _ w65 ⟨rfl, hb66⟩
            have O67 : Own (zone (foldE f m R c D L vs ++ [inE DI (.slice AI ins.length cI) ins])) W w65 [.row (.slice A n cA) 3 1 n (intCs l), .map g9 (encL intE sm), .blk g2 38 #[.int .i64 6, .int .i64 lit, GV], .blk f 56 #[.slice R L.length c, .map (some m)], .map m (encL strE (keysGo L 0)), .row (.slice R L.length c) 38 3 L.length (gcells L vs), .ro D (Ins D L vs), .ro TabD Tab, .ro DI (fun w => IntsD DI w (.slice AI ins.length cI) ins)] := O55.below hb66
            refine ⟨_, rfl, ?_⟩
            refine wl_val (v := .bool false) (fun ρ e => ex_assign (e _ _ rfl)) rfl rfl ?_
            refine wl_nil ?_
            refine xw_next K56 ?_
            refine cw_false rfl ?_
            refine cw_region ?_
            refine wl_val (v := .slice A n cA) (fun ρ e => ex_move (e _ _ rfl)) rfl rfl ?_
            refine wl_val (v := .int .i64 x) (fun ρ e => ex_move (e _ _ rfl)) rfl rfl ?_
            obtain ⟨g68, w69, r70, O71, hg72, hs73⟩ := own_slice O67 el36 ze3 1 [(0, .int .i64 x)] (cs := #[.int .i64 x]) (by decide) (by kernel_rfl)
            refine wl_val (v := .slice (some ⟨g68, 0, none⟩) 1 1) (fun ρ e => r70 ρ _ _ _ _ _ _ (e.parts rfl)) rfl rfl ?_
            obtain ⟨A74, c75, w76, r77, O78, hz79, hc80⟩ := own_app1 (O71.re [1, 0, 2, 3, 4, 5, 6, 7, 8, 9] rfl : Own (zone (foldE f m R c D L vs ++ [inE DI (.slice AI ins.length cI) ins])) W w69 [.row (.slice A n cA) 3 1 n (intCs l), .blk g68 3 #[.int .i64 x], .map g9 (encL intE sm), .blk g2 38 #[.int .i64 6, .int .i64 lit, GV], .blk f 56 #[.slice R L.length c, .map (some m)], .map m (encL strE (keysGo L 0)), .row (.slice R L.length c) 38 3 L.length (gcells L vs), .ro D (Ins D L vs), .ro TabD Tab, .ro DI (fun w => IntsD DI w (.slice AI ins.length cI) ins)]) ap36 ((O71.re [1, 0, 2, 3, 4, 5, 6, 7, 8, 9] rfl : Own (zone (foldE f m R c D L vs ++ [inE DI (.slice AI ins.length cI) ins])) W w69 [.row (.slice A n cA) 3 1 n (intCs l), .blk g68 3 #[.int .i64 x], .map g9 (encL intE sm), .blk g2 38 #[.int .i64 6, .int .i64 lit, GV], .blk f 56 #[.slice R L.length c, .map (some m)], .map m (encL strE (keysGo L 0)), .row (.slice R L.length c) 38 3 L.length (gcells L vs), .ro D (Ins D L vs), .ro TabD Tab, .ro DI (fun w => IntsD DI w (.slice AI ins.length cI) ins)]).blk 1 rfl) (cells := [.int .i64 x]) rfl rfl (by omega) (by omega) (ys := (intCs (l ++ [x]))) (intCs_snoc l x)
            refine wl_val (v := .slice A74 (n + 1) c75) (fun ρ e => r77 ρ _ _ _ _ _ _ _ (e _ _ rfl) (e _ _ rfl)) rfl rfl ?_
            refine wl_val (v := .slice A74 (n + 1) c75) (fun ρ e => ex_assign (e _ _ rfl)) rfl rfl ?_
            refine wl_nil ?_
            refine xw_block ?_
            refine xw_next K46 ?_
            refine cw_region ?_
            refine wl_val (v := .map (some g9)) (fun ρ e => ex_move (e _ _ rfl)) rfl rfl ?_
            refine wl_val (v := .int .i64 x) (fun ρ e => ex_move (e _ _ rfl)) rfl rfl ?_
            obtain ⟨w81, r82, O83, hs84⟩ := own_mapput (O78.re [2, 0, 1, 3, 4, 5, 6, 7, 8, 9] rfl : Own (zone (foldE f m R c D L vs ++ [inE DI (.slice AI ins.length cI) ins])) W w76 [.map g9 (encL intE sm), .row (.slice A74 (n + 1) c75) 3 1 (n + 1) (intCs (l ++ [x])), .blk g68 3 #[.int .i64 x], .blk g2 38 #[.int .i64 6, .int .i64 lit, GV], .blk f 56 #[.slice R L.length c, .map (some m)], .map m (encL strE (keysGo L 0)), .row (.slice R L.length c) 38 3 L.length (gcells L vs), .ro D (Ins D L vs), .ro TabD Tab, .ro DI (fun w => IntsD DI w (.slice AI ins.length cI) ins)]) intKey Tryd.underlying87 Tryd.underlying3 x (.bool false)
            refine wl_none (fun ρ e => r82 ρ _ _ _ _ _ _ _ (e _ _ rfl) (e _ _ rfl) (e _ _ rfl)) rfl ?_
            refine wl_nil ?_
            refine xw_block ?_
            refine xw_next K44 ?_
            refine cw_region ?_
            refine wl_val (v := .int .i64 ((k + 1 : Nat) : Int)) (fun ρ e => ex_arith (k := .i64) (u := (k : Int)) (v := 1) (e _ _ rfl) (e _ _ rfl) (congrArg some ((congrArg _ (by omega)).trans (wrap_in (u := ((k + 1 : Nat) : Int)) (by omega) (by omega))))) rfl rfl ?_
            refine wl_val (v := .int .i64 ((k + 1 : Nat) : Int)) (fun ρ e => ex_move (e _ _ rfl)) rfl rfl ?_
            refine wl_nil ?_
            refine xw_round K40 (k + 1, A74, c75, n + 1, l ++ [x], (aput x (.bool false) sm), (fun y => if y = x then false else p y), last) (by show ins.length - (k + 1) < ins.length - k; omega) ⟨(by show k + 1 ≤ _; omega), (by show n + 1 = (l ++ [x]).length; simp [hn]), (by show n + 1 ≤ k + 1; omega), hsl.put x false (fun _ => rfl), (fun y hy => (List.mem_append.1 hy).elim (hl1 y) (fun h => by rw [List.mem_singleton.1 h]; exact hxL)), hla, (by show _ = xorGo L (fun y => if y = x then false else p y) (ins.drop (k + 1)) (l ++ [x]) last; rw [hgo, hdr, xorGo, if_neg (fun h => h.elim (fun h => by rw [c48] at h; cases h) c49), if_neg c57]), (O83.re [1, 0, 3, 4, 5, 6, 7, 8, 9] rfl : Own (zone (foldE f m R c D L vs ++ [inE DI (.slice AI ins.length cI) ins])) W w81 [.row (.slice A74 (n + 1) c75) 3 1 (n + 1) (intCs (l ++ [x])), .map g9 (encL intE (aput x (.bool false) sm)), .blk g2 38 #[.int .i64 6, .int .i64 lit, GV], .blk f 56 #[.slice R L.length c, .map (some m)], .map m (encL strE (keysGo L 0)), .row (.slice R L.length c) 38 3 L.length (gcells L vs), .ro D (Ins D L vs), .ro TabD Tab, .ro DI (fun w => IntsD DI w (.slice AI ins.length cI) ins)])⟩ ⟨rfl, rfl, rfl, rfl, rfl, rfl, rfl, rfl, trivial⟩
      · skip
        refine wl_val (v := .bool false) (fun ρ e => ex_look0 intKey Tryd.underlying87 Tryd.underlying3 ze4 (O41.map 1 rfl) x ((hsl x).trans (congrArg Value.bool (Bool.eq_false_iff.2 c48))) (e _ _ rfl) (e _ _ rfl)) rfl rfl ?_
        refine wl_val (v := .bool true) (fun ρ e => ex_lnot (b := false) (e _ _ rfl)) rfl rfl ?_
        refine wl_val (v := .bool true) (fun ρ e => ex_move (e _ _ rfl)) rfl rfl ?_
        refine wl_skip rfl rfl ?_
        refine wl_skip rfl rfl ?_
        refine wl_skip rfl rfl ?_
        refine wl_val (v := .bool true) (fun ρ e => ex_pick1 (e _ _ rfl) (e _ _ rfl)) rfl rfl ?_
        refine wl_val (v := .bool true) (fun ρ e => ex_assign (e _ _ rfl)) rfl rfl ?_
        refine wl_nil ?_
        refine xw_next K47 ?_
        refine cw_true rfl ?_
        refine cw_exit ?_
        refine xw_other rfl ?_
        refine xw_past (by intro h; cases h) ?_
        refine xw_here ?_
        refine xw_next K44 ?_
        refine cw_region ?_
        refine wl_val (v := .int .i64 ((k + 1 : Nat) : Int)) (fun ρ e => ex_arith (k := .i64) (u := (k : Int)) (v := 1) (e _ _ rfl) (e _ _ rfl) (congrArg some ((congrArg _ (by omega)).trans (wrap_in (u := ((k + 1 : Nat) : Int)) (by omega) (by omega))))) rfl rfl ?_
        refine wl_val (v := .int .i64 ((k + 1 : Nat) : Int)) (fun ρ e => ex_move (e _ _ rfl)) rfl rfl ?_
        refine wl_nil ?_
        refine xw_round K40 (k + 1, A, cA, n, l, sm, p, last) (by show ins.length - (k + 1) < ins.length - k; omega) ⟨(by show k + 1 ≤ _; omega), hn, (by show n ≤ k + 1; omega), hsl, hl1, hla, (by show _ = xorGo L p (ins.drop (k + 1)) l last; rw [hgo, hdr, xorGo, if_pos (.inl (Bool.eq_false_iff.2 c48))]), O41⟩ ⟨rfl, rfl, rfl, rfl, rfl, rfl, rfl, rfl, trivial⟩
    · have hke2 : k = ins.length := by omega
      rw [List.drop_eq_nil_of_le (by omega)] at hgo
      simp only [xorGo] at hgo
      refine cw_seq (fun FK85 K85 => ?_)
      refine cw_region ?_
      refine wl_val (v := .bool false) (fun ρ e => ex_cmp (u := (k : Int)) (v := ((ins.length : Nat) : Int)) (e _ _ rfl) (e _ _ rfl) (lss0 (by omega))) rfl rfl ?_
      refine wl_nil ?_
      refine xw_next K85 ?_
      refine cw_seq (fun FK86 K86 => ?_)
      refine cw_false rfl ?_
      refine cw_exit ?_
      refine xw_past (by intro h; cases h) ?_
      refine xw_past (by intro h; cases h) ?_
      refine xw_here ?_
      refine xw_next K34 ?_
      refine cw_seq (fun FK87 K87 => ?_)
      refine cw_block ?_
      refine cw_seq (fun FK88 K88 => ?_)
      rcases l with _ | ⟨x, _ | ⟨x2, l2⟩⟩
      · have hn' : n = 0 := hn
        refine cw_region ?_
        refine wl_val (v := .slice A n cA) (fun ρ e => ex_move (e _ _ rfl)) rfl rfl ?_
        refine wl_val (v := .int .i64 (n : Int)) (fun ρ e => ex_len el36 (e _ _ rfl)) rfl rfl ?_
        refine wl_val (v := .bool true) (fun ρ e => ex_cmp (u := (n : Int)) (v := 0) (e _ _ rfl) (e _ _ rfl) (eql1 (by omega))) rfl rfl ?_
        refine wl_val (v := .bool true) (fun ρ e => ex_move (e _ _ rfl)) rfl rfl ?_
        refine wl_val (v := .int .i64 last) (fun ρ e => ex_move (e _ _ rfl)) rfl rfl ?_
        by_cases c89 : last < 0
        · skip
          refine wl_val (v := .bool true) (fun ρ e => ex_cmp (u := last) (v := 0) (e _ _ rfl) (e _ _ rfl) (lss1 (by omega))) rfl rfl ?_
          refine wl_val (v := .bool true) (fun ρ e => ex_pick1 (e _ _ rfl) (e _ _ rfl)) rfl rfl ?_
          refine wl_val (v := .bool true) (fun ρ e => ex_assign (e _ _ rfl)) rfl rfl ?_
          refine wl_nil ?_
          refine xw_next K88 ?_
          refine cw_true rfl ?_
          refine cw_seq (fun FK90 K90 => ?_)
          refine cw_region ?_
          refine wl_val (v := .pointer (some ⟨f, 0, none⟩)) (fun ρ e => ex_move (e _ _ rfl)) rfl rfl ?_
          refine wl_val (v := .agg #[.int .i64 0, .int .i64 0, .slice none 0 0]) (fun ρ e => ex_build (cells := #[.int .i64 0, .int .i64 0, .slice none 0 0]) st38 (e.parts rfl) rfl) rfl rfl ?_
          refine wl_call (args := [.pointer (some ⟨f, 0, none⟩), .agg #[.int .i64 0, .int .i64 0, .slice none 0 0]]) in_80 rfl rfl rfl ?_
          have O91 : Own (zone (foldE f m R c D L vs ++ [inE DI (.slice AI ins.length cI) ins])) W w38 [.ro (fun _ => False) (fun w => IntsD (fun _ => False) w (.slice none 0 0) ([])), .row (.slice A n cA) 3 1 n (intCs []), .map g9 (encL intE sm), .blk g2 38 #[.int .i64 6, .int .i64 lit, GV], .blk f 56 #[.slice R L.length c, .map (some m)], .map m (encL strE (keysGo L 0)), .row (.slice R L.length c) 38 3 L.length (gcells L vs), .ro D (Ins D L vs), .ro TabD Tab, .ro DI (fun w => IntsD DI w (.slice AI ins.length cI) ins)] := O41.nilin
          refine (call_find (f := f) (m := m) (R := R) (c := c) (D := D) (L := L) (vs := vs) (D2 := (fun _ => False)) (V := .slice none 0 0) (g := ⟨0, 0, []⟩) (rest := [.row (.slice A n cA) 3 1 n (intCs []), .map g9 (encL intE sm), .blk g2 38 #[.int .i64 6, .int .i64 lit, GV], .ro DI (fun w => IntsD DI w (.slice AI ins.length cI) ins)]) (O91.re [4, 5, 6, 7, 8, 0, 1, 2, 3, 9] rfl : Own (zone (foldE f m R c D L vs ++ [inE DI (.slice AI ins.length cI) ins])) W w38 [.blk f 56 #[.slice R L.length c, .map (some m)], .map m (encL strE (keysGo L 0)), .row (.slice R L.length c) 38 3 L.length (gcells L vs), .ro D (Ins D L vs), .ro TabD Tab, .ro (fun _ => False) (fun w => IntsD (fun _ => False) w (.slice none 0 0) ([])), .row (.slice A n cA) 3 1 n (intCs []), .map g9 (encL intE sm), .blk g2 38 #[.int .i64 6, .int .i64 lit, GV], .ro DI (fun w => IntsD DI w (.slice AI ins.length cI) ins)]) (small_c (smallI_lit 0 rfl) (smallI_lit 0 rfl)) hL).mono ?_
          rintro _ w92 ⟨R93, c94, D95, vs96, rfl, O97⟩
          refine ⟨_, rfl, ?_⟩
          refine wl_val (v := .int .i64 ((findG L ⟨0, 0, []⟩).2)) (fun ρ e => ex_assign (e _ _ rfl)) rfl rfl ?_
          refine wl_nil ?_
          refine xw_next K90 ?_
          refine cw_ret ?_
          refine xw_blockret ?_
          refine xw_past (by intro h; cases h) ?_
          refine xw_ret (v := .int .i64 ((findG L ⟨0, 0, []⟩).2)) (fun T hT => res1 rfl T _ (hT 6 _ rfl)) ?_
          exact FPost.eq ⟨_, _, _, _, rfl, (O97.re [0, 1, 2, 3, 4] rfl : Own (zone (foldE f m R c D L vs ++ [inE DI (.slice AI ins.length cI) ins])) W w92 [.blk f 56 #[.slice R93 (((findG L ⟨0, 0, []⟩).1).length) c94, .map (some m)], .map m (encL strE (keysGo ((findG L ⟨0, 0, []⟩).1) 0)), .row (.slice R93 (((findG L ⟨0, 0, []⟩).1).length) c94) 38 3 (((findG L ⟨0, 0, []⟩).1).length) (gcells ((findG L ⟨0, 0, []⟩).1) vs96), .ro D95 (Ins D95 ((findG L ⟨0, 0, []⟩).1) vs96), .ro TabD Tab])⟩ (by rw [xorG_0 hgo, if_pos c89])
        · skip
          refine wl_val (v := .bool false) (fun ρ e => ex_cmp (u := last) (v := 0) (e _ _ rfl) (e _ _ rfl) (lss0 (by omega))) rfl rfl ?_
          refine wl_val (v := .bool false) (fun ρ e => ex_pick1 (e _ _ rfl) (e _ _ rfl)) rfl rfl ?_
          refine wl_val (v := .bool false) (fun ρ e => ex_assign (e _ _ rfl)) rfl rfl ?_
          refine wl_nil ?_
          refine xw_next K88 ?_
          refine cw_false rfl ?_
          refine cw_seq (fun FK98 K98 => ?_)
          refine cw_region ?_
          refine wl_val (v := .slice A n cA) (fun ρ e => ex_move (e _ _ rfl)) rfl rfl ?_
          refine wl_val (v := .int .i64 (n : Int)) (fun ρ e => ex_len el36 (e _ _ rfl)) rfl rfl ?_
          refine wl_val (v := .bool true) (fun ρ e => ex_cmp (u := (n : Int)) (v := 0) (e _ _ rfl) (e _ _ rfl) (eql1 (by omega))) rfl rfl ?_
          refine wl_val (v := .bool true) (fun ρ e => ex_assign (e _ _ rfl)) rfl rfl ?_
          refine wl_nil ?_
          refine xw_next K98 ?_
          refine cw_true rfl ?_
          refine cw_seq (fun FK99 K99 => ?_)
          refine cw_region ?_
          refine wl_val (v := .int .i64 last) (fun ρ e => ex_move (e _ _ rfl)) rfl rfl ?_
          refine wl_val (v := .int .i64 last) (fun ρ e => ex_assign (e _ _ rfl)) rfl rfl ?_
          refine wl_nil ?_
          refine xw_next K99 ?_
          refine cw_ret ?_
          refine xw_blockret ?_
          refine xw_past (by intro h; cases h) ?_
          refine xw_ret (v := .int .i64 last) (fun T hT => res1 rfl T _ (hT 6 _ rfl)) ?_
          exact FPost.eq (q' := (L, last)) ⟨_, _, _, _, rfl, (O41.re [3, 4, 5, 6, 7] rfl : Own (zone (foldE f m R c D L vs ++ [inE DI (.slice AI ins.length cI) ins])) W w38 [.blk f 56 #[.slice R L.length c, .map (some m)], .map m (encL strE (keysGo L 0)), .row (.slice R L.length c) 38 3 L.length (gcells L vs), .ro D (Ins D L vs), .ro TabD Tab])⟩ (by rw [xorG_0 hgo, if_neg c89])
      · have hn' : n = 1 := hn
        obtain ⟨gl, rfl⟩ := O41.rowshape 0 rfl (by omega)
        refine cw_region ?_
        refine wl_val (v := .slice (some ⟨gl, 0, none⟩) n cA) (fun ρ e => ex_move (e _ _ rfl)) rfl rfl ?_
        refine wl_val (v := .int .i64 (n : Int)) (fun ρ e => ex_len el36 (e _ _ rfl)) rfl rfl ?_
        refine wl_val (v := .bool false) (fun ρ e => ex_cmp (u := (n : Int)) (v := 0) (e _ _ rfl) (e _ _ rfl) (eql0 (by omega))) rfl rfl ?_
        refine wl_val (v := .bool false) (fun ρ e => ex_move (e _ _ rfl)) rfl rfl ?_
        refine wl_skip rfl rfl ?_
        refine wl_skip rfl rfl ?_
        refine wl_val (v := .bool false) (fun ρ e => ex_pick0 (e _ _ rfl) (e _ _ rfl)) rfl rfl ?_
        refine wl_val (v := .bool false) (fun ρ e => ex_assign (e _ _ rfl)) rfl rfl ?_
        refine wl_nil ?_
        refine xw_next K88 ?_
        refine cw_false rfl ?_
        refine cw_seq (fun FK100 K100 => ?_)
        refine cw_region ?_
        refine wl_val (v := .slice (some ⟨gl, 0, none⟩) n cA) (fun ρ e => ex_move (e _ _ rfl)) rfl rfl ?_
        refine wl_val (v := .int .i64 (n : Int)) (fun ρ e => ex_len el36 (e _ _ rfl)) rfl rfl ?_
        refine wl_val (v := .bool false) (fun ρ e => ex_cmp (u := (n : Int)) (v := 0) (e _ _ rfl) (e _ _ rfl) (eql0 (by omega))) rfl rfl ?_
        refine wl_val (v := .bool false) (fun ρ e => ex_assign (e _ _ rfl)) rfl rfl ?_
        refine wl_nil ?_
        refine xw_next K100 ?_
        refine cw_false rfl ?_
        refine cw_seq (fun FK101 K101 => ?_)
        refine cw_region ?_
        refine wl_val (v := .slice (some ⟨gl, 0, none⟩) n cA) (fun ρ e => ex_move (e _ _ rfl)) rfl rfl ?_
        refine wl_val (v := .int .i64 (n : Int)) (fun ρ e => ex_len el36 (e _ _ rfl)) rfl rfl ?_
        refine wl_val (v := .bool true) (fun ρ e => ex_cmp (u := (n : Int)) (v := 1) (e _ _ rfl) (e _ _ rfl) (eql1 (by omega))) rfl rfl ?_
        refine wl_val (v := .bool true) (fun ρ e => ex_move (e _ _ rfl)) rfl rfl ?_
        refine wl_val (v := .int .i64 last) (fun ρ e => ex_move (e _ _ rfl)) rfl rfl ?_
        by_cases c102 : last < 0
        · skip
          refine wl_val (v := .bool true) (fun ρ e => ex_cmp (u := last) (v := 0) (e _ _ rfl) (e _ _ rfl) (lss1 (by omega))) rfl rfl ?_
          refine wl_val (v := .bool true) (fun ρ e => ex_pick1 (e _ _ rfl) (e _ _ rfl)) rfl rfl ?_
          refine wl_val (v := .bool true) (fun ρ e => ex_assign (e _ _ rfl)) rfl rfl ?_
          refine wl_nil ?_
          refine xw_next K101 ?_
          refine cw_true rfl ?_
          refine cw_seq (fun FK103 K103 => ?_)
          refine cw_region ?_
          refine wl_val (v := .slice (some ⟨gl, 0, none⟩) n cA) (fun ρ e => ex_move (e _ _ rfl)) rfl rfl ?_
          refine wl_val (v := .pointer (some ⟨gl, 0, none⟩)) (fun ρ e => ex_idx (q := 0) (i := 0) el36 (e _ _ rfl) (e _ _ rfl) (by omega) (by omega)) rfl rfl ?_
          refine wl_val (v := .int .i64 x) (fun ρ e => ex_load1 ty3 (e _ _ rfl) (rowcell (O41.row 0 rfl) (j := 0) rfl)) rfl rfl ?_
          refine wl_val (v := .int .i64 x) (fun ρ e => ex_assign (e _ _ rfl)) rfl rfl ?_
          refine wl_nil ?_
          refine xw_next K103 ?_
          refine cw_ret ?_
          refine xw_blockret ?_
          refine xw_past (by intro h; cases h) ?_
          refine xw_ret (v := .int .i64 x) (fun T hT => res1 rfl T _ (hT 6 _ rfl)) ?_
          exact FPost.eq (q' := (L, x)) ⟨_, _, _, _, rfl, (O41.re [3, 4, 5, 6, 7] rfl : Own (zone (foldE f m R c D L vs ++ [inE DI (.slice AI ins.length cI) ins])) W w38 [.blk f 56 #[.slice R L.length c, .map (some m)], .map m (encL strE (keysGo L 0)), .row (.slice R L.length c) 38 3 L.length (gcells L vs), .ro D (Ins D L vs), .ro TabD Tab])⟩ (by rw [xorG_1 hgo, if_pos c102])
        · skip
          refine wl_val (v := .bool false) (fun ρ e => ex_cmp (u := last) (v := 0) (e _ _ rfl) (e _ _ rfl) (lss0 (by omega))) rfl rfl ?_
          refine wl_val (v := .bool false) (fun ρ e => ex_pick1 (e _ _ rfl) (e _ _ rfl)) rfl rfl ?_
          refine wl_val (v := .bool false) (fun ρ e => ex_assign (e _ _ rfl)) rfl rfl ?_
          refine wl_nil ?_
          refine xw_next K101 ?_
          refine cw_false rfl ?_
          refine cw_seq (fun FK104 K104 => ?_)
          refine cw_region ?_
          refine wl_val (v := .slice (some ⟨gl, 0, none⟩) n cA) (fun ρ e => ex_move (e _ _ rfl)) rfl rfl ?_
          refine wl_val (v := .int .i64 (n : Int)) (fun ρ e => ex_len el36 (e _ _ rfl)) rfl rfl ?_
          refine wl_val (v := .bool true) (fun ρ e => ex_cmp (u := (n : Int)) (v := 1) (e _ _ rfl) (e _ _ rfl) (eql1 (by omega))) rfl rfl ?_
          refine wl_val (v := .bool true) (fun ρ e => ex_assign (e _ _ rfl)) rfl rfl ?_
          refine wl_nil ?_
          refine xw_next K104 ?_
          refine cw_true rfl ?_
          refine cw_seq (fun FK105 K105 => ?_)
          refine cw_region ?_
          refine wl_val (v := .pointer (some ⟨f, 0, none⟩)) (fun ρ e => ex_move (e _ _ rfl)) rfl rfl ?_
          refine wl_val (v := .slice (some ⟨gl, 0, none⟩) n cA) (fun ρ e => ex_move (e _ _ rfl)) rfl rfl ?_
          refine wl_val (v := .pointer (some ⟨gl, 0, none⟩)) (fun ρ e => ex_idx (q := 0) (i := 0) el36 (e _ _ rfl) (e _ _ rfl) (by omega) (by omega)) rfl rfl ?_
          refine wl_val (v := .int .i64 x) (fun ρ e => ex_load1 ty3 (e _ _ rfl) (rowcell (O41.row 0 rfl) (j := 0) rfl)) rfl rfl ?_
          refine wl_call (args := [.pointer (some ⟨f, 0, none⟩), .int .i64 x]) in_81 rfl rfl rfl ?_
          refine (FPost.use (A := foldE f m R c D L vs) (rest := [.row (.slice (some ⟨gl, 0, none⟩) n cA) 3 1 n (intCs [x]), .map g9 (encL intE sm), .blk g2 38 #[.int .i64 6, .int .i64 lit, GV], .ro DI (fun w => IntsD DI w (.slice AI ins.length cI) ins)]) (O41.re [3, 4, 5, 6, 7, 0, 1, 2, 8] rfl : Own (zone (foldE f m R c D L vs ++ [inE DI (.slice AI ins.length cI) ins])) W w38 [.blk f 56 #[.slice R L.length c, .map (some m)], .map m (encL strE (keysGo L 0)), .row (.slice R L.length c) 38 3 L.length (gcells L vs), .ro D (Ins D L vs), .ro TabD Tab, .row (.slice (some ⟨gl, 0, none⟩) n cA) 3 1 n (intCs [x]), .map g9 (encL intE sm), .blk g2 38 #[.int .i64 6, .int .i64 lit, GV], .ro DI (fun w => IntsD DI w (.slice AI ins.length cI) ins)]) (not_ (Own.hand (A := foldE f m R c D L vs) (R := [.row (.slice (some ⟨gl, 0, none⟩) n cA) 3 1 n (intCs [x]), .map g9 (encL intE sm), .blk g2 38 #[.int .i64 6, .int .i64 lit, GV], .ro DI (fun w => IntsD DI w (.slice AI ins.length cI) ins)]) (O41.re [3, 4, 5, 6, 7, 0, 1, 2, 8] rfl : Own (zone (foldE f m R c D L vs ++ [inE DI (.slice AI ins.length cI) ins])) W w38 [.blk f 56 #[.slice R L.length c, .map (some m)], .map m (encL strE (keysGo L 0)), .row (.slice R L.length c) 38 3 L.length (gcells L vs), .ro D (Ins D L vs), .ro TabD Tab, .row (.slice (some ⟨gl, 0, none⟩) n cA) 3 1 n (intCs [x]), .map g9 (encL intE sm), .blk g2 38 #[.int .i64 6, .int .i64 lit, GV], .ro DI (fun w => IntsD DI w (.slice AI ins.length cI) ins)])) (hl1 x (List.mem_cons_self)) ok hL)).mono ?_
          rintro _ w106 ⟨R107, c108, D109, vs110, rfl, O111⟩
          refine ⟨_, rfl, ?_⟩
          refine wl_val (v := .int .i64 ((notG L x).2)) (fun ρ e => ex_assign (e _ _ rfl)) rfl rfl ?_
          refine wl_nil ?_
          refine xw_next K105 ?_
          refine cw_ret ?_
          refine xw_blockret ?_
          refine xw_past (by intro h; cases h) ?_
          refine xw_ret (v := .int .i64 ((notG L x).2)) (fun T hT => res1 rfl T _ (hT 6 _ rfl)) ?_
          exact FPost.eq ⟨_, _, _, _, rfl, (O111.re [0, 1, 2, 3, 4] rfl : Own (zone (foldE f m R c D L vs ++ [inE DI (.slice AI ins.length cI) ins])) W w106 [.blk f 56 #[.slice R107 (((notG L x).1).length) c108, .map (some m)], .map m (encL strE (keysGo ((notG L x).1) 0)), .row (.slice R107 (((notG L x).1).length) c108) 38 3 (((notG L x).1).length) (gcells ((notG L x).1) vs110), .ro D109 (Ins D109 ((notG L x).1) vs110), .ro TabD Tab])⟩ (by rw [xorG_1 hgo, if_neg c102])
      · have hn' : n = l2.length + 2 := hn
        refine cw_region ?_
        refine wl_val (v := .slice A n cA) (fun ρ e => ex_move (e _ _ rfl)) rfl rfl ?_
        refine wl_val (v := .int .i64 (n : Int)) (fun ρ e => ex_len el36 (e _ _ rfl)) rfl rfl ?_
        refine wl_val (v := .bool false) (fun ρ e => ex_cmp (u := (n : Int)) (v := 0) (e _ _ rfl) (e _ _ rfl) (eql0 (by omega))) rfl rfl ?_
        refine wl_val (v := .bool false) (fun ρ e => ex_move (e _ _ rfl)) rfl rfl ?_
        refine wl_skip rfl rfl ?_
        refine wl_skip rfl rfl ?_
        refine wl_val (v := .bool false) (fun ρ e => ex_pick0 (e _ _ rfl) (e _ _ rfl)) rfl rfl ?_
        refine wl_val (v := .bool false) (fun ρ e => ex_assign (e _ _ rfl)) rfl rfl ?_
        refine wl_nil ?_
        refine xw_next K88 ?_
        refine cw_false rfl ?_
        refine cw_seq (fun FK112 K112 => ?_)
        refine cw_region ?_
        refine wl_val (v := .slice A n cA) (fun ρ e => ex_move (e _ _ rfl)) rfl rfl ?_
        refine wl_val (v := .int .i64 (n : Int)) (fun ρ e => ex_len el36 (e _ _ rfl)) rfl rfl ?_
        refine wl_val (v := .bool false) (fun ρ e => ex_cmp (u := (n : Int)) (v := 0) (e _ _ rfl) (e _ _ rfl) (eql0 (by omega))) rfl rfl ?_
        refine wl_val (v := .bool false) (fun ρ e => ex_assign (e _ _ rfl)) rfl rfl ?_
        refine wl_nil ?_
        refine xw_next K112 ?_
        refine cw_false rfl ?_
        refine cw_seq (fun FK113 K113 => ?_)
        refine cw_region ?_
        refine wl_val (v := .slice A n cA) (fun ρ e => ex_move (e _ _ rfl)) rfl rfl ?_
        refine wl_val (v := .int .i64 (n : Int)) (fun ρ e => ex_len el36 (e _ _ rfl)) rfl rfl ?_
        refine wl_val (v := .bool false) (fun ρ e => ex_cmp (u := (n : Int)) (v := 1) (e _ _ rfl) (e _ _ rfl) (eql0 (by omega))) rfl rfl ?_
        refine wl_val (v := .bool false) (fun ρ e => ex_move (e _ _ rfl)) rfl rfl ?_
        refine wl_skip rfl rfl ?_
        refine wl_skip rfl rfl ?_
        refine wl_val (v := .bool false) (fun ρ e => ex_pick0 (e _ _ rfl) (e _ _ rfl)) rfl rfl ?_
        refine wl_val (v := .bool false) (fun ρ e => ex_assign (e _ _ rfl)) rfl rfl ?_
        refine wl_nil ?_
        refine xw_next K113 ?_
        refine cw_false rfl ?_
        refine cw_seq (fun FK114 K114 => ?_)
        refine cw_region ?_
        refine wl_val (v := .slice A n cA) (fun ρ e => ex_move (e _ _ rfl)) rfl rfl ?_
        refine wl_val (v := .int .i64 (n : Int)) (fun ρ e => ex_len el36 (e _ _ rfl)) rfl rfl ?_
        refine wl_val (v := .bool false) (fun ρ e => ex_cmp (u := (n : Int)) (v := 1) (e _ _ rfl) (e _ _ rfl) (eql0 (by omega))) rfl rfl ?_
        refine wl_val (v := .bool false) (fun ρ e => ex_assign (e _ _ rfl)) rfl rfl ?_
        refine wl_nil ?_
        refine xw_next K114 ?_
        refine cw_false rfl ?_
        refine cw_seq (fun FK115 K115 => ?_)
        refine cw_region ?_
        refine wl_val (v := .int .i64 last) (fun ρ e => ex_move (e _ _ rfl)) rfl rfl ?_
        by_cases c116 : last ≥ 0
        · skip
          refine wl_val (v := .bool true) (fun ρ e => ex_cmp (u := last) (v := 0) (e _ _ rfl) (e _ _ rfl) (geq1 (by omega))) rfl rfl ?_
          refine wl_val (v := .bool true) (fun ρ e => ex_assign (e _ _ rfl)) rfl rfl ?_
          refine wl_nil ?_
          refine xw_next K115 ?_
          refine cw_true rfl ?_
          refine cw_region ?_
          refine wl_val (v := .slice A n cA) (fun ρ e => ex_move (e _ _ rfl)) rfl rfl ?_
          refine wl_val (v := .int .i64 last) (fun ρ e => ex_move (e _ _ rfl)) rfl rfl ?_
          obtain ⟨g117, w118, r119, O120, hg121, hs122⟩ := own_slice O41 el36 ze3 1 [(0, .int .i64 last)] (cs := #[.int .i64 last]) (by decide) (by kernel_rfl)
          refine wl_val (v := .slice (some ⟨g117, 0, none⟩) 1 1) (fun ρ e => r119 ρ _ _ _ _ _ _ (e.parts rfl)) rfl rfl ?_
          obtain ⟨A123, c124, w125, r126, O127, hz128, hc129⟩ := own_app1 (O120.re [1, 0, 2, 3, 4, 5, 6, 7, 8, 9] rfl : Own (zone (foldE f m R c D L vs ++ [inE DI (.slice AI ins.length cI) ins])) W w118 [.row (.slice A n cA) 3 1 n (intCs (x :: x2 :: l2)), .blk g117 3 #[.int .i64 last], .map g9 (encL intE sm), .blk g2 38 #[.int .i64 6, .int .i64 lit, GV], .blk f 56 #[.slice R L.length c, .map (some m)], .map m (encL strE (keysGo L 0)), .row (.slice R L.length c) 38 3 L.length (gcells L vs), .ro D (Ins D L vs), .ro TabD Tab, .ro DI (fun w => IntsD DI w (.slice AI ins.length cI) ins)]) ap36 ((O120.re [1, 0, 2, 3, 4, 5, 6, 7, 8, 9] rfl : Own (zone (foldE f m R c D L vs ++ [inE DI (.slice AI ins.length cI) ins])) W w118 [.row (.slice A n cA) 3 1 n (intCs (x :: x2 :: l2)), .blk g117 3 #[.int .i64 last], .map g9 (encL intE sm), .blk g2 38 #[.int .i64 6, .int .i64 lit, GV], .blk f 56 #[.slice R L.length c, .map (some m)], .map m (encL strE (keysGo L 0)), .row (.slice R L.length c) 38 3 L.length (gcells L vs), .ro D (Ins D L vs), .ro TabD Tab, .ro DI (fun w => IntsD DI w (.slice AI ins.length cI) ins)]).blk 1 rfl) (cells := [.int .i64 last]) rfl rfl (by omega) (by omega) (ys := (intCs ((x :: x2 :: l2) ++ [last]))) (intCs_snoc (x :: x2 :: l2) last)
          refine wl_val (v := .slice A123 (n + 1) c124) (fun ρ e => r126 ρ _ _ _ _ _ _ _ (e _ _ rfl) (e _ _ rfl)) rfl rfl ?_
          refine wl_val (v := .slice A123 (n + 1) c124) (fun ρ e => ex_assign (e _ _ rfl)) rfl rfl ?_
          refine wl_nil ?_
          refine xw_block ?_
          refine xw_next K87 ?_
          refine cw_seq (fun FK130 K130 => ?_)
          refine cw_region ?_
          refine wl_val (v := .pointer (some ⟨f, 0, none⟩)) (fun ρ e => ex_move (e _ _ rfl)) rfl rfl ?_
          refine wl_val (v := .slice A123 (n + 1) c124) (fun ρ e => ex_move (e _ _ rfl)) rfl rfl ?_
          refine wl_val (v := .agg #[.int .i64 6, .int .i64 0, .slice A123 (n + 1) c124]) (fun ρ e => ex_build (cells := #[.int .i64 6, .int .i64 0, .slice A123 (n + 1) c124]) st38 (e.parts rfl) rfl) rfl rfl ?_
          refine wl_call (args := [.pointer (some ⟨f, 0, none⟩), .agg #[.int .i64 6, .int .i64 0, .slice A123 (n + 1) c124]]) in_80 rfl rfl rfl ?_
          have O131 : Own (zone (foldE f m R c D L vs ++ [inE DI (.slice AI ins.length cI) ins])) W w125 [.ro (fun k => (Value.ownBlock (.slice A123 (n + 1) c124)) = some k) (fun w => IntsD (fun k => (Value.ownBlock (.slice A123 (n + 1) c124)) = some k) w (.slice A123 (n + 1) c124) ((x :: x2 :: l2) ++ [last])), .blk g117 3 #[.int .i64 last], .map g9 (encL intE sm), .blk g2 38 #[.int .i64 6, .int .i64 lit, GV], .blk f 56 #[.slice R L.length c, .map (some m)], .map m (encL strE (keysGo L 0)), .row (.slice R L.length c) 38 3 L.length (gcells L vs), .ro D (Ins D L vs), .ro TabD Tab, .ro DI (fun w => IntsD DI w (.slice AI ins.length cI) ins)] := Own.rowin (l := ((x :: x2 :: l2) ++ [last])) O127
          refine (call_find (f := f) (m := m) (R := R) (c := c) (D := D) (L := L) (vs := vs) (D2 := (fun k => (Value.ownBlock (.slice A123 (n + 1) c124)) = some k)) (V := .slice A123 (n + 1) c124) (g := ⟨6, 0, ((x :: x2 :: l2) ++ [last])⟩) (rest := [.blk g117 3 #[.int .i64 last], .map g9 (encL intE sm), .blk g2 38 #[.int .i64 6, .int .i64 lit, GV], .ro DI (fun w => IntsD DI w (.slice AI ins.length cI) ins)]) (O131.re [4, 5, 6, 7, 8, 0, 1, 2, 3, 9] rfl : Own (zone (foldE f m R c D L vs ++ [inE DI (.slice AI ins.length cI) ins])) W w125 [.blk f 56 #[.slice R L.length c, .map (some m)], .map m (encL strE (keysGo L 0)), .row (.slice R L.length c) 38 3 L.length (gcells L vs), .ro D (Ins D L vs), .ro TabD Tab, .ro (fun k => (Value.ownBlock (.slice A123 (n + 1) c124)) = some k) (fun w => IntsD (fun k => (Value.ownBlock (.slice A123 (n + 1) c124)) = some k) w (.slice A123 (n + 1) c124) ((x :: x2 :: l2) ++ [last])), .blk g117 3 #[.int .i64 last], .map g9 (encL intE sm), .blk g2 38 #[.int .i64 6, .int .i64 lit, GV], .ro DI (fun w => IntsD DI w (.slice AI ins.length cI) ins)]) (small_n (smallI_lit 6 rfl) (fun y hy => (List.mem_append.1 hy).elim (fun h => by have := hl1 y h; unfold smallI; omega) (fun h => by rw [List.mem_singleton.1 h]; unfold smallI; omega)) (by simp only [List.length_append, List.length_cons, List.length_nil]; omega)) hL).mono ?_
          rintro _ w132 ⟨R133, c134, D135, vs136, rfl, O137⟩
          refine ⟨_, rfl, ?_⟩
          refine wl_val (v := .int .i64 ((findG L ⟨6, 0, ((x :: x2 :: l2) ++ [last])⟩).2)) (fun ρ e => ex_assign (e _ _ rfl)) rfl rfl ?_
          refine wl_nil ?_
          refine xw_next K130 ?_
          refine cw_ret ?_
          refine xw_ret (v := .int .i64 ((findG L ⟨6, 0, ((x :: x2 :: l2) ++ [last])⟩).2)) (fun T hT => res1 rfl T _ (hT 6 _ rfl)) ?_
          exact FPost.eq ⟨_, _, _, _, rfl, (O137.re [0, 1, 2, 3, 4] rfl : Own (zone (foldE f m R c D L vs ++ [inE DI (.slice AI ins.length cI) ins])) W w132 [.blk f 56 #[.slice R133 (((findG L ⟨6, 0, ((x :: x2 :: l2) ++ [last])⟩).1).length) c134, .map (some m)], .map m (encL strE (keysGo ((findG L ⟨6, 0, ((x :: x2 :: l2) ++ [last])⟩).1) 0)), .row (.slice R133 (((findG L ⟨6, 0, ((x :: x2 :: l2) ++ [last])⟩).1).length) c134) 38 3 (((findG L ⟨6, 0, ((x :: x2 :: l2) ++ [last])⟩).1).length) (gcells ((findG L ⟨6, 0, ((x :: x2 :: l2) ++ [last])⟩).1) vs136), .ro D135 (Ins D135 ((findG L ⟨6, 0, ((x :: x2 :: l2) ++ [last])⟩).1) vs136), .ro TabD Tab])⟩ (by rw [xorG_2 hgo, if_pos (by omega)])
        · skip
          refine wl_val (v := .bool false) (fun ρ e => ex_cmp (u := last) (v := 0) (e _ _ rfl) (e _ _ rfl) (geq0 (by omega))) rfl rfl ?_
          refine wl_val (v := .bool false) (fun ρ e => ex_assign (e _ _ rfl)) rfl rfl ?_
          refine wl_nil ?_
          refine xw_next K115 ?_
          refine cw_false rfl ?_
          refine cw_skip ?_
          refine xw_block ?_
          refine xw_next K87 ?_
          refine cw_seq (fun FK138 K138 => ?_)
          refine cw_region ?_
          refine wl_val (v := .pointer (some ⟨f, 0, none⟩)) (fun ρ e => ex_move (e _ _ rfl)) rfl rfl ?_
          refine wl_val (v := .slice A n cA) (fun ρ e => ex_move (e _ _ rfl)) rfl rfl ?_
          refine wl_val (v := .agg #[.int .i64 6, .int .i64 0, .slice A n cA]) (fun ρ e => ex_build (cells := #[.int .i64 6, .int .i64 0, .slice A n cA]) st38 (e.parts rfl) rfl) rfl rfl ?_
          refine wl_call (args := [.pointer (some ⟨f, 0, none⟩), .agg #[.int .i64 6, .int .i64 0, .slice A n cA]]) in_80 rfl rfl rfl ?_
          have O139 : Own (zone (foldE f m R c D L vs ++ [inE DI (.slice AI ins.length cI) ins])) W w38 [.ro (fun k => (Value.ownBlock (.slice A n cA)) = some k) (fun w => IntsD (fun k => (Value.ownBlock (.slice A n cA)) = some k) w (.slice A n cA) (x :: x2 :: l2)), .map g9 (encL intE sm), .blk g2 38 #[.int .i64 6, .int .i64 lit, GV], .blk f 56 #[.slice R L.length c, .map (some m)], .map m (encL strE (keysGo L 0)), .row (.slice R L.length c) 38 3 L.length (gcells L vs), .ro D (Ins D L vs), .ro TabD Tab, .ro DI (fun w => IntsD DI w (.slice AI ins.length cI) ins)] := Own.rowin (l := (x :: x2 :: l2)) O41
          refine (call_find (f := f) (m := m) (R := R) (c := c) (D := D) (L := L) (vs := vs) (D2 := (fun k => (Value.ownBlock (.slice A n cA)) = some k)) (V := .slice A n cA) (g := ⟨6, 0, (x :: x2 :: l2)⟩) (rest := [.map g9 (encL intE sm), .blk g2 38 #[.int .i64 6, .int .i64 lit, GV], .ro DI (fun w => IntsD DI w (.slice AI ins.length cI) ins)]) (O139.re [3, 4, 5, 6, 7, 0, 1, 2, 8] rfl : Own (zone (foldE f m R c D L vs ++ [inE DI (.slice AI ins.length cI) ins])) W w38 [.blk f 56 #[.slice R L.length c, .map (some m)], .map m (encL strE (keysGo L 0)), .row (.slice R L.length c) 38 3 L.length (gcells L vs), .ro D (Ins D L vs), .ro TabD Tab, .ro (fun k => (Value.ownBlock (.slice A n cA)) = some k) (fun w => IntsD (fun k => (Value.ownBlock (.slice A n cA)) = some k) w (.slice A n cA) (x :: x2 :: l2)), .map g9 (encL intE sm), .blk g2 38 #[.int .i64 6, .int .i64 lit, GV], .ro DI (fun w => IntsD DI w (.slice AI ins.length cI) ins)]) (small_n (smallI_lit 6 rfl) (fun y hy => by have := hl1 y hy; unfold smallI; omega) (by simp only [List.length_cons]; omega)) hL).mono ?_
          rintro _ w140 ⟨R141, c142, D143, vs144, rfl, O145⟩
          refine ⟨_, rfl, ?_⟩
          refine wl_val (v := .int .i64 ((findG L ⟨6, 0, (x :: x2 :: l2)⟩).2)) (fun ρ e => ex_assign (e _ _ rfl)) rfl rfl ?_
          refine wl_nil ?_
          refine xw_next K138 ?_
          refine cw_ret ?_
          refine xw_ret (v := .int .i64 ((findG L ⟨6, 0, (x :: x2 :: l2)⟩).2)) (fun T hT => res1 rfl T _ (hT 6 _ rfl)) ?_
          exact FPost.eq ⟨_, _, _, _, rfl, (O145.re [0, 1, 2, 3, 4] rfl : Own (zone (foldE f m R c D L vs ++ [inE DI (.slice AI ins.length cI) ins])) W w140 [.blk f 56 #[.slice R141 (((findG L ⟨6, 0, (x :: x2 :: l2)⟩).1).length) c142, .map (some m)], .map m (encL strE (keysGo ((findG L ⟨6, 0, (x :: x2 :: l2)⟩).1) 0)), .row (.slice R141 (((findG L ⟨6, 0, (x :: x2 :: l2)⟩).1).length) c142) 38 3 (((findG L ⟨6, 0, (x :: x2 :: l2)⟩).1).length) (gcells ((findG L ⟨6, 0, (x :: x2 :: l2)⟩).1) vs144), .ro D143 (Ins D143 ((findG L ⟨6, 0, (x :: x2 :: l2)⟩).1) vs144), .ro TabD Tab])⟩ (by rw [xorG_2 hgo, if_neg (by omega)])
end
end Go.Proofs.YtbemhgojfehnjaaDoor
namespace Go.Proofs.YtbemhgojfehnjaaDoor
open Go Go.RowKit
def ruleF (k : Int) : FuncId := if k = 3 then 61 else if k = 4 ∨ k = 5 then 62 else if k = 6 then 63 else if k = 7 then 64 else if k = 8 then 65 else 60
theorem rule_look (f : Nat) {k : Int} (h : 0 ≤ k ∧ k ≤ 8) : lookV (look k (rulesL f) 0) .nilFunc = .func (.func (ruleF k)) #[.pointer (some ⟨f, 0, none⟩)] #[] := by
  have : k = 0 ∨ k = 1 ∨ k = 2 ∨ k = 3 ∨ k = 4 ∨ k = 5 ∨ k = 6 ∨ k = 7 ∨ k = 8 := by omega
  rcases this with rfl | rfl | rfl | rfl | rfl | rfl | rfl | rfl | rfl <;> rfl
theorem in_rule {k : Int} (h : 0 ≤ k ∧ k ≤ 8) : Enters Tryd.prog (ruleF k) := by
  have : k = 0 ∨ k = 1 ∨ k = 2 ∨ k = 3 ∨ k = 4 ∨ k = 5 ∨ k = 6 ∨ k = 7 ∨ k = 8 := by omega
  rcases this with rfl | rfl | rfl | rfl | rfl | rfl | rfl | rfl | rfl
  · exact in_60
  · exact in_60
  · exact in_60
  · exact in_61
  · exact in_62
  · exact in_62
  · exact in_63
  · exact in_64
  · exact in_65
theorem rule_call {W : World} {f m c : Nat} {R : Option Addr} {D DI : Nat → Prop} {L : List Gate} {vs : List Value} {V GV : Value} {g : Gate} {ins : List Int} {N i : Int} {B : Nat} (O0 : Own (zone (foldE f m R c D L vs ++ [inE DI V ins])) W W (foldE f m R c D L vs ++ [inE DI V ins])) (hw : wfL N B L) (hg : goodGate N i g = true) (hn : ins.length = g.inp.length) (hi : ∀ x ∈ ins, inR L x) (hb : ins.length + 1 ≤ B) (hB : B ≤ 900000) (hL : L.length ≤ 1000000) :
    Calls Tryd.prog (ruleF g.kind) #[.pointer (some ⟨f, 0, none⟩), .agg #[.int .i64 g.kind, .int .i64 g.lit, GV], V] W (FPost (foldE f m R c D L vs ++ [inE DI V ins]) W f m (stepG L g ins)) := by
  obtain ⟨p1, p2, _⟩ := good_parts hg
  have hk := allowed_kind p1
  have ok := wf_ok hw hL (by omega)
  have hl := lit_small p2
  rw [← hn] at p1
  obtain ⟨kind, lit, inp⟩ := g
  simp only at hk p1 hl hn ⊢
  have h9 : kind = 0 ∨ kind = 1 ∨ kind = 2 ∨ kind = 3 ∨ kind = 4 ∨ kind = 5 ∨ kind = 6 ∨ kind = 7 ∨ kind = 8 := by omega
  rcases h9 with rfl | rfl | rfl | rfl | rfl | rfl | rfl | rfl | rfl
  · exact same_ O0 (smallI_lit 0 rfl) hl hL
  · exact same_ O0 (smallI_lit 1 rfl) hl hL
  · exact same_ O0 (smallI_lit 2 rfl) hl hL
  · have := allowed3 p1
    match ins, (show ins.length = 1 by omega), O0, hi with
    | [a], _, O0, hi => exact complement_ O0 (hi a (by simp)) ok hL
  · exact many4 O0 hi (by omega) hL
  · exact many5 O0 hi (by omega) hL
  · exact xor_ O0 hi (by omega) ok hL
  · have := allowed7 p1
    match ins, (show ins.length = 2 by omega), O0, hi with
    | [a, b], _, O0, hi => exact iff_ O0 (hi a (by simp)) (hi b (by simp)) ok hL
  · have := allowed8 p1
    match ins, (show ins.length = 3 by omega), O0, hi with
    | [a, b, d], _, O0, hi => exact choose_ O0 (hi a (by simp)) (hi b (by simp)) (hi d (by simp)) ok hL
/-- A list that is being filled. -/
def filled (fd inp : List Int) (k : Nat) : List Int := (inp.take k).map (fun x : Int => fd.getD x.toNat 0) ++ List.replicate (inp.length - k) 0
theorem filled_zero (fd inp : List Int) : filled fd inp 0 = List.replicate inp.length 0 := by simp [filled]
theorem filled_full (fd inp : List Int) : filled fd inp inp.length = inp.map (fun x : Int => fd.getD x.toNat 0) := by simp [filled]
theorem filled_len (fd inp : List Int) {k : Nat} (h : k ≤ inp.length) : (filled fd inp k).length = inp.length := by simp [filled]; omega
theorem filled_succ (fd inp : List Int) {k : Nat} {x : Int} (h : inp[k]? = some x) : (filled fd inp k).set k (fd.getD x.toNat 0) = filled fd inp (k + 1) := by
  obtain ⟨hk, rfl⟩ := List.getElem?_eq_some_iff.1 h
  unfold filled
  have e : inp.take (k + 1) = inp.take k ++ [inp[k]] := (List.take_append_getElem hk).symm
  rw [List.set_append_right _ _ (by simp; omega)]
  simp only [List.length_map, List.length_take, Nat.min_eq_left (Nat.le_of_lt hk), Nat.sub_self]
  rw [show inp.length - k = (inp.length - (k + 1)) + 1 by omega, List.replicate_succ, List.set_cons_zero, e, List.map_append]
  simp only [List.map_cons, List.map_nil, List.append_assoc, List.singleton_append]
def padded (fd : List Int) (n : Nat) : List Int := fd ++ List.replicate (n - fd.length) 0
theorem padded_nil (n : Nat) : padded [] n = List.replicate n 0 := by simp [padded]
theorem padded_len {fd : List Int} {n : Nat} (h : fd.length ≤ n) : (padded fd n).length = n := by simp [padded]; omega
theorem padded_get {fd : List Int} {n k : Nat} (h : k < fd.length) : (padded fd n)[k]? = some (fd.getD ((k : Int).toNat) 0) := by
  unfold padded
  rw [List.getElem?_append_left h]
  simp [List.getElem?_eq_getElem h]
theorem padded_set {fd : List Int} {n : Nat} (h : fd.length < n) (x : Int) : (padded fd n).set fd.length x = padded (fd ++ [x]) n := by
  unfold padded
  rw [List.set_append_right _ _ (Nat.le_refl _), Nat.sub_self, show n - fd.length = (n - (fd.length + 1)) + 1 by omega, List.replicate_succ, List.set_cons_zero]
  simp
theorem padded_set' {fd : List Int} {n i : Nat} (hf : fd.length = i) (h : i < n) (x : Int) : (padded fd n).set i x = padded (fd ++ [x]) n := by subst hf; exact padded_set h x
section
variable {Z : Bool → Nat → Prop} {w0 w W W' : World} {L A' : List En}
theorem Own.joinr (h : Own Z w0 W L) (h' : Own Z0 W W' A') (ho : ∀ e ∈ A', e.own ∨ ∀ k, e.dom k → W.heap.size ≤ k) : Own Z w0 W' (A' ++ L) :=
  h.step (A := []) (Frame.of_below h'.old) (fun _ _ hn => hn.elim) h'.has h'.dist (fun e he k hk => by
    rcases ho e he with q | q
    · rcases h'.free e he k hk with h1 | h1
      · exact absurd (h1.2 q) (by simp [Z0])
      · exact .inr h1
    · exact .inr (q k hk))
theorem run_loadN {g o n : Nat} {T : TypeId} {vs : List Value} (hT : TyB T n true) (hn : vs.length = n) (h : ∀ j v, vs[j]? = some v → w.cell? ⟨g, o + j, none⟩ = some v) : (loadVar T ⟨g, o, none⟩).run Tryd.prog w = .ok (.agg vs.toArray) w := by
  have := run_loadFrom g o vs h n 0 #[] (by omega)
  simp [loadVar, run_isAgg hT, run_size hT.size, loadCells, this]
theorem row_cap {b T sz n m c : Nat} {A : Option Addr} {xs : List Value} (h : W.ownsRow b T sz (.slice A m c) n xs) : n ≤ c := by
  rcases h.2 with ⟨_, h1⟩ | ⟨g, cap, cur, h1, _, _, h2, _⟩
  · omega
  · injection h1 with _ _ h1
    omega
theorem ins_nil (w : World) : (insE (fun _ => False) [] []).holds w := ⟨⟨rfl, fun i g v h => by simp at h⟩, fun _ hk => hk.elim, fun _ _ _ _ _ => ⟨rfl, fun i g v h => by simp at h⟩⟩
/-- A new folder. -/
theorem Own.newfold {f m : Nat} (O : Own Z0 w0 W (.blk f 56 #[.slice none 0 0, .map (some m)] :: .map m [] :: L)) (ht : Tab w0) : Own Z0 w0 W (foldE f m none 0 (fun _ => False) [] [] ++ L) := by
  have O1 := (O.nilrow 38 3).add (Below.refl _ _) (ins_nil W) (fun _ hk => hk.elim)
  have O2 : Own Z0 w0 W ([tabE, insE (fun _ => False) [] [], .row (.slice none 0 0) 38 3 0 [], .blk f 56 #[.slice none 0 0, .map (some m)], .map m []] ++ L) := O1.oldro (tabE_holds ht)
  have hm : ∀ e ∈ foldE f m none 0 (fun _ => False) [] [], e ∈ ([tabE, insE (fun _ => False) [] [], .row (.slice none 0 0) 38 3 0 [], .blk f 56 #[.slice none 0 0, .map (some m)], .map m []] : List En) := fun e he => by
    have he' : e ∈ pickL [tabE, insE (fun _ => False) [] [], .row (.slice none 0 0) 38 3 0 [], .blk f 56 #[.slice none 0 0, .map (some m)], .map m []] [3, 4, 2, 1, 0] := he
    obtain ⟨i, _, h2⟩ := pickL_mem he'
    exact List.mem_of_getElem? h2
  exact O2.step (Frame.refl NoB W) (fun _ _ hn => hn.elim) (fun e he => O2.has e (List.mem_append_left _ (hm e he))) (pickL_pw (List.pairwise_append.1 O2.dist).1 (is := [3, 4, 2, 1, 0]) rfl)
    (fun e he k hk => .inl ⟨e, hm e he, hk, fun ho => ⟨e, hm e he, ho, hk⟩⟩)
end
end Go.Proofs.YtbemhgojfehnjaaDoor
namespace Go.Proofs.YtbemhgojfehnjaaDoor
open Go Go.RowKit
theorem check_zero {N : Int} {gs : List Gate} (h : checkOf N gs = 0) : 0 ≤ N ∧ N ≤ 128 ∧ gs.length ≤ 4096 ∧ sizeOf gs ≤ 65536 ∧ 0 < gs.length ∧ goodTo N gs gs.length = true := by
  unfold checkOf at h
  split at h
  · cases h
  · split at h
    · cases h
    · split at h
      · cases h
      · split at h
        · rename_i h4; exact ⟨by omega, by omega, by omega, by omega, by omega, h4⟩
        · cases h
/-- What Fold gives back. -/
def FoldPost (W : World) (N : Int) (gs : List Gate) (e : Ending) (w' : World) : Prop :=
  (checkOf N gs ≠ 0 ∧ e = .returned (.tuple #[.agg #[.int .i64 0, .slice none 0 0], .int .i64 (checkOf N gs)]) ∧ Below W.heap.size W w') ∨
  (checkOf N gs = 0 ∧ ∃ A c D vs, e = .returned (.tuple #[.agg #[.int .i64 N, .slice A (foldOf gs).length c], .int .i64 0]) ∧ Own Z0 W w' [.row (.slice A (foldOf gs).length c) 38 3 (foldOf gs).length (gcells (foldOf gs) vs), ownE D (foldOf gs) vs] ∧ ∀ k, D k → W.heap.size ≤ k)
theorem fold_ {W : World} {V : Value} {N : Int} {gs : List Gate} (hV : GatesV W W.heap.size V gs) (hsz : sizeOf gs ≤ 4611686018427387904) (tab : Tab W) : Calls Tryd.prog 18 #[.agg #[.int .i64 N, V]] W (FoldPost W N gs) := by
  obtain ⟨A, c, rfl, _, _, _⟩ := id hV
  have O0 : Own Z0 W W [] := Own.start W
  refine sx_enter (args := [.agg #[.int .i64 N, .slice A gs.length c]]) Tryd.func18 rfl rfl (by simp) ?_
  refine cw_seq (fun FK1 K1 => ?_)
  refine cw_region ?_
  obtain ⟨g2, w3, r4, O5, hg6, hs7⟩ := own_box O0 24 (.agg #[.int .i64 N, .slice A gs.length c]) rfl
  refine wl_val (v := .pointer (some ⟨g2, 0, none⟩)) (fun ρ e => r4 ρ _ _ _ _ _ _ (e _ _ rfl)) rfl rfl ?_
  obtain ⟨g8, w9, r10, O11, hg12, hs13⟩ := own_alloc O5 24 ze24 rfl
  refine wl_val (v := .pointer (some ⟨g8, 0, none⟩)) (fun ρ e => r10 ρ _ _ _ _ _) rfl rfl ?_
  refine wl_val (v := .int .i64 0) (fun ρ e => ex_assign (e _ _ rfl)) rfl rfl ?_
  refine wl_nil ?_
  refine xw_next K1 ?_
  refine cw_seq (fun FK14 K14 => ?_)
  refine cw_seq (fun FK15 K15 => ?_)
  refine cw_region ?_
  refine wl_val (v := .agg #[.int .i64 N, .slice A gs.length c]) (fun ρ e => ex_loadN (vs := [.int .i64 N, .slice A gs.length c]) ty24 (e _ _ rfl) rfl (O11.cells 1 0 rfl rfl)) rfl rfl ?_
  refine wl_call (args := [.agg #[.int .i64 N, .slice A gs.length c]]) in_22 rfl rfl rfl ?_
  refine (circ_check N _ gs _ W.heap.size O11.old.size (hV.below O11.old) hsz).mono ?_
  rintro _ w16 ⟨rfl, hb17⟩
  have O18 : Own Z0 W w16 [.blk g8 24 #[.int .i64 0, .slice none 0 0], .blk g2 24 #[.int .i64 N, .slice A gs.length c]] := O11.below hb17
  refine ⟨_, rfl, ?_⟩
  refine wl_val (v := .int .i64 (checkOf N gs)) (fun ρ e => ex_assign (e _ _ rfl)) rfl rfl ?_
  refine wl_nil ?_
  refine xw_next K15 ?_
  refine cw_seq (fun FK19 K19 => ?_)
  refine cw_region ?_
  refine wl_val (v := .int .i64 (checkOf N gs)) (fun ρ e => ex_move (e _ _ rfl)) rfl rfl ?_
  by_cases c20 : (checkOf N gs) ≠ 0
  · skip
    refine wl_val (v := .bool true) (fun ρ e => ex_cmp (u := (checkOf N gs)) (v := 0) (e _ _ rfl) (e _ _ rfl) (neq1 (by omega))) rfl rfl ?_
    refine wl_nil ?_
    refine xw_next K19 ?_
    refine cw_true rfl ?_
    refine cw_seq (fun FK21 K21 => ?_)
    refine cw_region ?_
    refine wl_val (v := .agg #[.int .i64 0, .slice none 0 0]) (fun ρ e => ex_build (cells := #[.int .i64 0, .slice none 0 0]) st24 (e.parts rfl) rfl) rfl rfl ?_
    refine wl_val (v := .int .i64 (checkOf N gs)) (fun ρ e => ex_move (e _ _ rfl)) rfl rfl ?_
    obtain ⟨w22, r23, O24, hs25⟩ := own_put (o := 0) (n := 2) O18 ty24 (.agg #[.int .i64 0, .slice none 0 0]) [.int .i64 0, .slice none 0 0] (cs' := #[.int .i64 0, .slice none 0 0]) rfl rfl rfl (Nat.le_of_ble_eq_true rfl) rfl
    refine wl_none (fun ρ e => r23 ρ _ _ _ _ _ _ (e _ _ rfl) (e _ _ rfl)) rfl ?_
    refine wl_val (v := .int .i64 (checkOf N gs)) (fun ρ e => ex_assign (e _ _ rfl)) rfl rfl ?_
    refine wl_nil ?_
    refine xw_next K21 ?_
    refine cw_ret ?_
    refine xw_past (by intro h; cases h) ?_
    refine xw_ret (v := .tuple #[.agg #[.int .i64 0, .slice none 0 0], .int .i64 (checkOf N gs)]) (fun T hT => res2c rfl T _ (hT 2 _ rfl) (hT 3 _ rfl) (run_loadN (vs := [.int .i64 0, .slice none 0 0]) ty24 rfl (O24.cells 0 0 rfl rfl))) ?_
    exact .inl ⟨c20, rfl, O24.old⟩
  · skip
    have c0 : checkOf N gs = 0 := by omega
    obtain ⟨hN0, hN1, hgl, hsz2, hg0, hgt⟩ := check_zero c0
    refine wl_val (v := .bool false) (fun ρ e => ex_cmp (u := (checkOf N gs)) (v := 0) (e _ _ rfl) (e _ _ rfl) (neq0 (by omega))) rfl rfl ?_
    refine wl_nil ?_
    refine xw_next K19 ?_
    refine cw_false rfl ?_
    refine cw_skip ?_
    refine xw_next K14 ?_
    refine cw_seq (fun FK26 K26 => ?_)
    refine cw_region ?_
    obtain ⟨g27, w28, r29, O30, hg31, hs32⟩ := own_makeMap O18 54
    refine wl_val (v := .map (some g27)) (fun ρ e => r29 ρ _ _ _ _ _) rfl rfl ?_
    refine wl_val (v := .agg #[.slice none 0 0, .map (some g27)]) (fun ρ e => ex_build (cells := #[.slice none 0 0, .map (some g27)]) st56 (e.parts rfl) rfl) rfl rfl ?_
    obtain ⟨g33, w34, r35, O36, hg37, hs38⟩ := own_box O30 56 (.agg #[.slice none 0 0, .map (some g27)]) rfl
    refine wl_val (v := .pointer (some ⟨g33, 0, none⟩)) (fun ρ e => r35 ρ _ _ _ _ _ _ (e _ _ rfl)) rfl rfl ?_
    refine wl_val (v := .pointer (some ⟨g33, 0, none⟩)) (fun ρ e => ex_assign (e _ _ rfl)) rfl rfl ?_
    refine wl_nil ?_
    refine xw_next K26 ?_
    refine cw_seq (fun FK39 K39 => ?_)
    refine cw_region ?_
    refine wl_val (v := .pointer (some ⟨g33, 0, none⟩)) (fun ρ e => ex_move (e _ _ rfl)) rfl rfl ?_
    refine wl_call (args := [.pointer (some ⟨g33, 0, none⟩)]) in_39 rfl rfl rfl ?_
    have O43 : Own Z0 W w34 (foldE g33 g27 none 0 (fun _ => False) [] [] ++ [.blk g8 24 #[.int .i64 0, .slice none 0 0], .blk g2 24 #[.int .i64 N, .slice A gs.length c]]) := Own.newfold O36 tab
    refine (rules_ _ _).mono ?_
    rintro _ w41 ⟨g40, rfl, h42⟩
    have O44 : Own Z0 W w41 [.map g40 (encL intE (rulesL g33)), .blk g33 56 #[.slice none 0 0, .map (some g27)], .map g27 (encL strE (keysGo ([]) 0)), .row (.slice none 0 0) 38 3 0 (gcells [] []), .ro (fun _ => False) (Ins (fun _ => False) ([]) []), .ro TabD Tab, .blk g8 24 #[.int .i64 0, .slice none 0 0], .blk g2 24 #[.int .i64 N, .slice A gs.length c]] := O43.join1 h42 trivial
    refine ⟨_, rfl, ?_⟩
    refine wl_val (v := .map (some g40)) (fun ρ e => ex_assign (e _ _ rfl)) rfl rfl ?_
    refine wl_nil ?_
    refine xw_next K39 ?_
    refine cw_seq (fun FK45 K45 => ?_)
    refine cw_region ?_
    refine wl_val (v := .pointer (some ⟨g2, 1, none⟩)) (fun ρ e => ex_field (q := 1) fi24_1 (e _ _ rfl) rfl) rfl rfl ?_
    refine wl_val (v := .slice A gs.length c) (fun ρ e => ex_load1 ty22 (e _ _ rfl) (O44.cell 7 1 rfl rfl)) rfl rfl ?_
    refine wl_val (v := .int .i64 ((gs.length : Nat) : Int)) (fun ρ e => ex_len el22 (e _ _ rfl)) rfl rfl ?_
    obtain ⟨g46, w47, r48, O49, hg50, hs51⟩ := own_make1 O44 ap36 rfl gs.length (by decide) (by omega) (cs := (intCs (List.replicate gs.length 0)).toArray) (by simp [intCs])
    refine wl_val (v := .slice (some ⟨g46, 0, none⟩) gs.length gs.length) (fun ρ e => r48 ρ _ _ _ _ _ _ _ (e _ _ rfl) (e _ _ rfl)) rfl rfl ?_
    refine wl_val (v := .slice (some ⟨g46, 0, none⟩) gs.length gs.length) (fun ρ e => ex_assign (e _ _ rfl)) rfl rfl ?_
    refine wl_nil ?_
    refine xw_next K45 ?_
    refine cw_seq (fun FK52 K52 => ?_)
    refine cw_seq (fun FK53 K53 => ?_)
    refine cw_region ?_
    refine wl_val (v := .pointer (some ⟨g2, 1, none⟩)) (fun ρ e => ex_field (q := 1) fi24_1 (e _ _ rfl) rfl) rfl rfl ?_
    refine wl_val (v := .slice A gs.length c) (fun ρ e => ex_load1 ty22 (e _ _ rfl) (O49.cell 8 1 rfl rfl)) rfl rfl ?_
    refine wl_val (v := .int .i64 ((gs.length : Nat) : Int)) (fun ρ e => ex_len el22 (e _ _ rfl)) rfl rfl ?_
    refine wl_val (v := .int .i64 0) (fun ρ e => ex_move (e _ _ rfl)) rfl rfl ?_
    refine wl_nil ?_
    refine xw_next K53 ?_
    refine cw_block ?_
    have O54 : Own Z0 W w47 [.blk g33 56 #[.slice none 0 0, .map (some g27)], .map g27 (encL strE (keysGo ([]) 0)), .row (.slice none 0 0) 38 3 0 (gcells [] []), .ro (fun _ => False) (Ins (fun _ => False) ([]) []), .ro TabD Tab, .map g40 (encL intE (rulesL g33)), .blk g46 3 ((intCs (List.replicate gs.length 0)).toArray), .blk g8 24 #[.int .i64 0, .slice none 0 0], .blk g2 24 #[.int .i64 N, .slice A gs.length c]] := (O49.re [2, 3, 4, 5, 6, 1, 0, 7, 8] rfl : Own Z0 W w47 [.blk g33 56 #[.slice none 0 0, .map (some g27)], .map g27 (encL strE (keysGo ([]) 0)), .row (.slice none 0 0) 38 3 0 (gcells [] []), .ro (fun _ => False) (Ins (fun _ => False) ([]) []), .ro TabD Tab, .map g40 (encL intE (rulesL g33)), .blk g46 3 ((intCs (List.replicate gs.length 0)).toArray), .blk g8 24 #[.int .i64 0, .slice none 0 0], .blk g2 24 #[.int .i64 N, .slice A gs.length c]])
    rw [← padded_nil] at O54
    refine cw_loop (ι := Nat × Option Addr × Nat × (Nat → Prop) × List Gate × List Value × List Int) (fun q => [(1, .pointer (some ⟨g2, 0, none⟩)), (2, .pointer (some ⟨g8, 0, none⟩)), (5, .pointer (some ⟨g33, 0, none⟩)), (6, .map (some g40)), (7, .slice (some ⟨g46, 0, none⟩) gs.length gs.length), (29, .slice A gs.length c), (30, .int .i64 ((gs.length : Nat) : Int)), (31, .int .i64 (q.1 : Int))]) (fun q X => (q.1 ≤ gs.length) ∧ (q.2.2.2.2.2.2.length = q.1) ∧ (wfL N 70000 q.2.2.2.2.1) ∧ (q.2.2.2.2.1.length ≤ q.1) ∧ (∀ x ∈ q.2.2.2.2.2.2, inR q.2.2.2.2.1 x) ∧ (foldGo gs ([], []) = foldGo (gs.drop q.1) (q.2.2.2.2.1, q.2.2.2.2.2.2)) ∧ Own Z0 W X [.blk g33 56 #[.slice q.2.1 q.2.2.2.2.1.length q.2.2.1, .map (some g27)], .map g27 (encL strE (keysGo q.2.2.2.2.1 0)), .row (.slice q.2.1 q.2.2.2.2.1.length q.2.2.1) 38 3 q.2.2.2.2.1.length (gcells q.2.2.2.2.1 q.2.2.2.2.2.1), .ro q.2.2.2.1 (Ins q.2.2.2.1 q.2.2.2.2.1 q.2.2.2.2.2.1), .ro TabD Tab, .map g40 (encL intE (rulesL g33)), .blk g46 3 ((intCs (padded q.2.2.2.2.2.2 gs.length)).toArray), .blk g8 24 #[.int .i64 0, .slice none 0 0], .blk g2 24 #[.int .i64 N, .slice A gs.length c]]) (fun q => gs.length - q.1) (0, none, 0, (fun _ => False), [], [], []) ⟨Nat.zero_le _, rfl, (fun i g h => by simp at h), Nat.le_refl _, (fun x hx => absurd hx (List.not_mem_nil)), rfl, O54⟩ ⟨rfl, rfl, rfl, rfl, rfl, rfl, rfl, rfl, trivial⟩ (fun q w55 hJ F56 K57 => ?_)
    obtain ⟨i, R, cR, D, L, vs, fd⟩ := q
    obtain ⟨hi0, hfl, hwf, hLi, hfd, hgo, O58⟩ := hJ
    dsimp only at hi0 hfl hwf hLi hfd hgo O58 ⊢
    by_cases hk : i < gs.length
    · obtain ⟨bG, oG, AI, cI, hbA, hbB, k0, k1, k2, hIV, hIc, hIm⟩ := hV.at_ (Below.refl _ _) hk
      have hdr : gs.drop i = gs[i] :: gs.drop (i + 1) := List.drop_eq_getElem_cons hk
      have hgi := (goodTo_iff N gs gs.length).1 hgt i hk
      rw [goodAt_eq N gs i hk] at hgi
      have hgp := good_parts hgi
      have hkd := allowed_kind hgp.1
      have hsi := sizeTo_le gs (i + 1)
      rw [sizeTo_succ gs i hk] at hsi
      rw [hdr] at hgo
      refine cw_seq (fun FK59 K59 => ?_)
      refine cw_region ?_
      refine wl_val (v := .bool true) (fun ρ e => ex_cmp (u := (i : Int)) (v := ((gs.length : Nat) : Int)) (e _ _ rfl) (e _ _ rfl) (lss1 (by omega))) rfl rfl ?_
      refine wl_nil ?_
      refine xw_next K59 ?_
      refine cw_seq (fun FK60 K60 => ?_)
      refine cw_true rfl ?_
      refine cw_skip ?_
      refine xw_next K60 ?_
      refine cw_seq (fun FK61 K61 => ?_)
      refine cw_block ?_
      refine cw_seq (fun FK62 K62 => ?_)
      refine cw_region ?_
      refine wl_val (v := .int .i64 (i : Int)) (fun ρ e => ex_move (e _ _ rfl)) rfl rfl ?_
      refine wl_val (v := .pointer (some ⟨bG, oG + i * 3, none⟩)) (fun ρ e => ex_idx (q := oG + i * 3) (g := bG) (o := oG) (i := i) el22 ((e _ _ rfl).trans (congrArg (fun z => Value.slice z gs.length c) hbA)) (e _ _ rfl) hk (by omega)) rfl rfl ?_
      refine wl_val (v := .agg #[.int .i64 (gs[i].kind), .int .i64 (gs[i].lit), .slice AI (gs[i].inp.length) cI]) (fun ρ e => ex_loadN (vs := [.int .i64 (gs[i].kind), .int .i64 (gs[i].lit), .slice AI (gs[i].inp.length) cI]) ty38 (e _ _ rfl) rfl (cells3 ((O58.old.cell (p := ⟨bG, oG + i * 3, none⟩) hbB).trans k0) ((O58.old.cell (p := ⟨bG, oG + i * 3 + 1, none⟩) hbB).trans k1) ((O58.old.cell (p := ⟨bG, oG + i * 3 + 2, none⟩) hbB).trans k2))) rfl rfl ?_
      obtain ⟨g63, w64, r65, O66, hg67, hs68⟩ := own_alloc O58 38 ze38 rfl
      refine wl_val (v := .pointer (some ⟨g63, 0, none⟩)) (fun ρ e => r65 ρ _ _ _ _ _) rfl rfl ?_
      refine wl_val (v := .int .i64 (i : Int)) (fun ρ e => ex_assign (e _ _ rfl)) rfl rfl ?_
      obtain ⟨w69, r70, O71, hs72⟩ := own_put (o := 0) (n := 3) O66 ty38 (.agg #[.int .i64 (gs[i].kind), .int .i64 (gs[i].lit), .slice AI (gs[i].inp.length) cI]) [.int .i64 (gs[i].kind), .int .i64 (gs[i].lit), .slice AI (gs[i].inp.length) cI] (cs' := #[.int .i64 (gs[i].kind), .int .i64 (gs[i].lit), .slice AI (gs[i].inp.length) cI]) rfl rfl rfl (Nat.le_of_ble_eq_true rfl) rfl
      refine wl_none (fun ρ e => r70 ρ _ _ _ _ _ _ (e _ _ rfl) (e _ _ rfl)) rfl ?_
      refine wl_nil ?_
      refine xw_next K62 ?_
      refine cw_seq (fun FK73 K73 => ?_)
      refine cw_region ?_
      refine wl_val (v := .pointer (some ⟨g63, 2, none⟩)) (fun ρ e => ex_field (q := 2) fi38_2 (e _ _ rfl) rfl) rfl rfl ?_
      refine wl_val (v := .slice AI (gs[i].inp.length) cI) (fun ρ e => ex_load1 ty36 (e _ _ rfl) (O71.cell 0 2 rfl rfl)) rfl rfl ?_
      refine wl_val (v := .int .i64 ((gs[i].inp.length : Nat) : Int)) (fun ρ e => ex_len el36 (e _ _ rfl)) rfl rfl ?_
      obtain ⟨g74, w75, r76, O77, hg78, hs79⟩ := own_make1 O71 ap36 rfl (gs[i].inp.length) (by decide) (by omega) (cs := (intCs (List.replicate (gs[i].inp.length) 0)).toArray) (by simp [intCs])
      refine wl_val (v := .slice (some ⟨g74, 0, none⟩) (gs[i].inp.length) (gs[i].inp.length)) (fun ρ e => r76 ρ _ _ _ _ _ _ _ (e _ _ rfl) (e _ _ rfl)) rfl rfl ?_
      refine wl_val (v := .slice (some ⟨g74, 0, none⟩) (gs[i].inp.length) (gs[i].inp.length)) (fun ρ e => ex_assign (e _ _ rfl)) rfl rfl ?_
      refine wl_nil ?_
      refine xw_next K73 ?_
      refine cw_seq (fun FK80 K80 => ?_)
      refine cw_seq (fun FK81 K81 => ?_)
      refine cw_region ?_
      refine wl_val (v := .pointer (some ⟨g63, 2, none⟩)) (fun ρ e => ex_field (q := 2) fi38_2 (e _ _ rfl) rfl) rfl rfl ?_
      refine wl_val (v := .slice AI (gs[i].inp.length) cI) (fun ρ e => ex_load1 ty36 (e _ _ rfl) (O77.cell 1 2 rfl rfl)) rfl rfl ?_
      refine wl_val (v := .int .i64 ((gs[i].inp.length : Nat) : Int)) (fun ρ e => ex_len el36 (e _ _ rfl)) rfl rfl ?_
      refine wl_val (v := .int .i64 0) (fun ρ e => ex_move (e _ _ rfl)) rfl rfl ?_
      refine wl_nil ?_
      refine xw_next K81 ?_
      refine cw_block ?_
      rw [← filled_zero fd] at O77
      refine cw_loop (ι := Nat × List Int) (fun q => [(1, .pointer (some ⟨g2, 0, none⟩)), (2, .pointer (some ⟨g8, 0, none⟩)), (5, .pointer (some ⟨g33, 0, none⟩)), (6, .map (some g40)), (7, .slice (some ⟨g46, 0, none⟩) gs.length gs.length), (8, .int .i64 (i : Int)), (9, .pointer (some ⟨g63, 0, none⟩)), (10, .slice (some ⟨g74, 0, none⟩) (gs[i].inp.length) (gs[i].inp.length)), (29, .slice A gs.length c), (30, .int .i64 ((gs.length : Nat) : Int)), (31, .int .i64 (i : Int)), (41, .slice AI (gs[i].inp.length) cI), (42, .int .i64 ((gs[i].inp.length : Nat) : Int)), (43, .int .i64 (q.1 : Int))]) (fun q X => (q.1 ≤ gs[i].inp.length) ∧ (q.2 = filled fd gs[i].inp q.1) ∧ Own Z0 W X [.blk g74 3 ((intCs q.2).toArray), .blk g63 38 #[.int .i64 (gs[i].kind), .int .i64 (gs[i].lit), .slice AI (gs[i].inp.length) cI], .blk g33 56 #[.slice R L.length cR, .map (some g27)], .map g27 (encL strE (keysGo L 0)), .row (.slice R L.length cR) 38 3 L.length (gcells L vs), .ro D (Ins D L vs), .ro TabD Tab, .map g40 (encL intE (rulesL g33)), .blk g46 3 ((intCs (padded fd gs.length)).toArray), .blk g8 24 #[.int .i64 0, .slice none 0 0], .blk g2 24 #[.int .i64 N, .slice A gs.length c]]) (fun q => gs[i].inp.length - q.1) (0, (filled fd gs[i].inp 0)) ⟨Nat.zero_le _, rfl, O77⟩ ⟨rfl, rfl, rfl, rfl, rfl, rfl, rfl, rfl, rfl, rfl, rfl, rfl, rfl, rfl, trivial⟩ (fun q w82 hJ F83 K84 => ?_)
      obtain ⟨k2, y⟩ := q
      obtain ⟨hk20, hy, O85⟩ := hJ
      dsimp only at hk20 hy O85 ⊢
      by_cases hk2 : k2 < gs[i].inp.length
      · obtain ⟨x0, hxk, hdr2, hxm⟩ := drop_cons hk2
        have hxr := hgp.2.2 x0 hxm
        obtain ⟨x, rfl⟩ : ∃ n : Nat, x0 = n := ⟨x0.toNat, by omega⟩
        obtain ⟨bI, oI, cJ, hbI⟩ := (IntsD.of_V hIV).form (by omega)
        have hyl : y.length = gs[i].inp.length := by rw [hy]; exact filled_len fd _ hk20
        refine cw_seq (fun FK86 K86 => ?_)
        refine cw_region ?_
        refine wl_val (v := .bool true) (fun ρ e => ex_cmp (u := (k2 : Int)) (v := ((gs[i].inp.length : Nat) : Int)) (e _ _ rfl) (e _ _ rfl) (lss1 (by omega))) rfl rfl ?_
        refine wl_nil ?_
        refine xw_next K86 ?_
        refine cw_seq (fun FK87 K87 => ?_)
        refine cw_true rfl ?_
        refine cw_skip ?_
        refine xw_next K87 ?_
        refine cw_seq (fun FK88 K88 => ?_)
        refine cw_block ?_
        refine cw_seq (fun FK89 K89 => ?_)
        refine cw_region ?_
        refine wl_val (v := .int .i64 (k2 : Int)) (fun ρ e => ex_move (e _ _ rfl)) rfl rfl ?_
        refine wl_val (v := .pointer (some ⟨bI, oI + k2, none⟩)) (fun ρ e => ex_idx (q := oI + k2) (o := oI) (i := k2) el36 ((e _ _ rfl).trans hbI) (e _ _ rfl) hk2 (by omega)) rfl rfl ?_
        refine wl_val (v := .int .i64 (x : Int)) (fun ρ e => ex_load1 ty3 (e _ _ rfl) (((hIV.below O85.old).at1 hbI hk2 hxk))) rfl rfl ?_
        refine wl_val (v := .int .i64 (k2 : Int)) (fun ρ e => ex_assign (e _ _ rfl)) rfl rfl ?_
        refine wl_val (v := .int .i64 (x : Int)) (fun ρ e => ex_assign (e _ _ rfl)) rfl rfl ?_
        refine wl_nil ?_
        refine xw_next K89 ?_
        refine cw_region ?_
        refine wl_val (v := .slice (some ⟨g74, 0, none⟩) (gs[i].inp.length) (gs[i].inp.length)) (fun ρ e => ex_move (e _ _ rfl)) rfl rfl ?_
        refine wl_val (v := .int .i64 (k2 : Int)) (fun ρ e => ex_move (e _ _ rfl)) rfl rfl ?_
        refine wl_val (v := .slice (some ⟨g46, 0, none⟩) gs.length gs.length) (fun ρ e => ex_move (e _ _ rfl)) rfl rfl ?_
        refine wl_val (v := .int .i64 (x : Int)) (fun ρ e => ex_move (e _ _ rfl)) rfl rfl ?_
        refine wl_val (v := .pointer (some ⟨g46, x, none⟩)) (fun ρ e => ex_idx (q := x) (i := x) el36 (e _ _ rfl) (e _ _ rfl) (by omega) (by omega)) rfl rfl ?_
        refine wl_val (v := .int .i64 (fd.getD (x : Int).toNat 0)) (fun ρ e => ex_load1 ty3 (e _ _ rfl) (O85.cell 8 x rfl (getI (padded_get (by omega))))) rfl rfl ?_
        refine wl_val (v := .pointer (some ⟨g74, k2, none⟩)) (fun ρ e => ex_idx (q := k2) (i := k2) el36 (e _ _ rfl) (e _ _ rfl) (by omega) (by omega)) rfl rfl ?_
        obtain ⟨w90, r91, O92, hs93⟩ := own_put (o := k2) (n := 1) O85 ty3 (.int .i64 (fd.getD (x : Int).toNat 0)) [.int .i64 (fd.getD (x : Int).toNat 0)] (cs' := (intCs (y.set k2 (fd.getD (x : Int).toNat 0))).toArray) rfl rfl rfl (by simp [intCs] <;> omega) (setI y k2 _)
        refine wl_none (fun ρ e => r91 ρ _ _ _ _ _ _ (e _ _ rfl) (e _ _ rfl)) rfl ?_
        refine wl_nil ?_
        refine xw_block ?_
        refine xw_next K88 ?_
        refine cw_region ?_
        refine wl_val (v := .int .i64 ((k2 + 1 : Nat) : Int)) (fun ρ e => ex_arith (k := .i64) (u := (k2 : Int)) (v := 1) (e _ _ rfl) (e _ _ rfl) (congrArg some ((congrArg _ (by omega)).trans (wrap_in (u := ((k2 + 1 : Nat) : Int)) (by omega) (by omega))))) rfl rfl ?_
        refine wl_val (v := .int .i64 ((k2 + 1 : Nat) : Int)) (fun ρ e => ex_move (e _ _ rfl)) rfl rfl ?_
        refine wl_nil ?_
        refine xw_round K84 (k2 + 1, (y.set k2 (fd.getD (x : Int).toNat 0))) (by show gs[i].inp.length - (k2 + 1) < gs[i].inp.length - k2; omega) ⟨(by show k2 + 1 ≤ _; omega), (by show List.set _ _ _ = _; rw [hy]; exact filled_succ fd _ hxk), O92⟩ ⟨rfl, rfl, rfl, rfl, rfl, rfl, rfl, rfl, rfl, rfl, rfl, rfl, rfl, rfl, trivial⟩
      · have hke : k2 = gs[i].inp.length := by omega
        rw [hke, filled_full] at hy
        subst hy
        refine cw_seq (fun FK94 K94 => ?_)
        refine cw_region ?_
        refine wl_val (v := .bool false) (fun ρ e => ex_cmp (u := (k2 : Int)) (v := ((gs[i].inp.length : Nat) : Int)) (e _ _ rfl) (e _ _ rfl) (lss0 (by omega))) rfl rfl ?_
        refine wl_nil ?_
        refine xw_next K94 ?_
        refine cw_seq (fun FK95 K95 => ?_)
        refine cw_false rfl ?_
        refine cw_exit ?_
        refine xw_past (by intro h; cases h) ?_
        refine xw_past (by intro h; cases h) ?_
        refine xw_here ?_
        refine xw_next K80 ?_
        refine cw_region ?_
        refine wl_val (v := .slice (some ⟨g46, 0, none⟩) gs.length gs.length) (fun ρ e => ex_move (e _ _ rfl)) rfl rfl ?_
        refine wl_val (v := .int .i64 (i : Int)) (fun ρ e => ex_move (e _ _ rfl)) rfl rfl ?_
        refine wl_val (v := .map (some g40)) (fun ρ e => ex_move (e _ _ rfl)) rfl rfl ?_
        refine wl_val (v := .pointer (some ⟨g63, 0, none⟩)) (fun ρ e => ex_field (q := 0) fi38_0 (e _ _ rfl) rfl) rfl rfl ?_
        refine wl_val (v := .int .i64 (gs[i].kind)) (fun ρ e => ex_load1 ty3 (e _ _ rfl) (O85.cell 1 0 rfl rfl)) rfl rfl ?_
        refine wl_val (v := .func (.func (ruleF gs[i].kind)) #[.pointer (some ⟨g33, 0, none⟩)] #[]) (fun ρ e => ex_look0 intKey Tryd.underlying57 Tryd.underlying3 ze59 (O85.map 7 rfl) gs[i].kind (rule_look g33 hkd) (e _ _ rfl) (e _ _ rfl)) rfl rfl ?_
        refine wl_val (v := .agg #[.int .i64 (gs[i].kind), .int .i64 (gs[i].lit), .slice AI (gs[i].inp.length) cI]) (fun ρ e => ex_loadN (vs := [.int .i64 (gs[i].kind), .int .i64 (gs[i].lit), .slice AI (gs[i].inp.length) cI]) ty38 (e _ _ rfl) rfl (O85.cells 1 0 rfl rfl)) rfl rfl ?_
        refine wl_val (v := .slice (some ⟨g74, 0, none⟩) (gs[i].inp.length) (gs[i].inp.length)) (fun ρ e => ex_move (e _ _ rfl)) rfl rfl ?_
        have O96 := Own.blkin (l := (gs[i].inp.map (fun x : Int => fd.getD x.toNat 0))) (n := gs[i].inp.length) O85 rfl (by simp) (by omega)
        have hinr : ∀ x ∈ (gs[i].inp.map (fun x : Int => fd.getD x.toNat 0)), inR L x := by
          intro x hx
          obtain ⟨z, hz, rfl⟩ := List.mem_map.1 hx
          have := hgp.2.2 z hz
          refine hfd _ ?_
          rw [List.getD_eq_getElem?_getD, List.getElem?_eq_getElem (show z.toNat < fd.length by omega)]
          exact List.getElem_mem _
        have st := stepG_ok hwf (by decide) hgi (ins := (gs[i].inp.map (fun x : Int => fd.getD x.toNat 0))) (by simp) hinr (by simp; omega)
        refine wl_callv (f := ruleF gs[i].kind) (args := [.agg #[.int .i64 (gs[i].kind), .int .i64 (gs[i].lit), .slice AI (gs[i].inp.length) cI], .slice (some ⟨g74, 0, none⟩) (gs[i].inp.length) (gs[i].inp.length)]) (all := [.pointer (some ⟨g33, 0, none⟩), .agg #[.int .i64 (gs[i].kind), .int .i64 (gs[i].lit), .slice AI (gs[i].inp.length) cI], .slice (some ⟨g74, 0, none⟩) (gs[i].inp.length) (gs[i].inp.length)]) (in_rule hkd) rfl rfl rfl rfl rfl ?_
        refine (FPost.use (A := (foldE g33 g27 R cR D L vs ++ [inE (fun k => k = g74) (.slice (some ⟨g74, 0, none⟩) (gs[i].inp.length) (gs[i].inp.length)) (gs[i].inp.map (fun x : Int => fd.getD x.toNat 0))])) (rest := [.blk g63 38 #[.int .i64 (gs[i].kind), .int .i64 (gs[i].lit), .slice AI (gs[i].inp.length) cI], .map g40 (encL intE (rulesL g33)), .blk g46 3 ((intCs (padded fd gs.length)).toArray), .blk g8 24 #[.int .i64 0, .slice none 0 0], .blk g2 24 #[.int .i64 N, .slice A gs.length c]]) (O96.re [2, 3, 4, 5, 6, 0, 1, 7, 8, 9, 10] rfl : Own Z0 W w82 [.blk g33 56 #[.slice R L.length cR, .map (some g27)], .map g27 (encL strE (keysGo L 0)), .row (.slice R L.length cR) 38 3 L.length (gcells L vs), .ro D (Ins D L vs), .ro TabD Tab, .ro (fun k => k = g74) (fun w => IntsD (fun k => k = g74) w (.slice (some ⟨g74, 0, none⟩) (gs[i].inp.length) (gs[i].inp.length)) (gs[i].inp.map (fun x : Int => fd.getD x.toNat 0))), .blk g63 38 #[.int .i64 (gs[i].kind), .int .i64 (gs[i].lit), .slice AI (gs[i].inp.length) cI], .map g40 (encL intE (rulesL g33)), .blk g46 3 ((intCs (padded fd gs.length)).toArray), .blk g8 24 #[.int .i64 0, .slice none 0 0], .blk g2 24 #[.int .i64 N, .slice A gs.length c]]) (rule_call (GV := .slice AI (gs[i].inp.length) cI) (Own.hand (A := (foldE g33 g27 R cR D L vs ++ [inE (fun k => k = g74) (.slice (some ⟨g74, 0, none⟩) (gs[i].inp.length) (gs[i].inp.length)) (gs[i].inp.map (fun x : Int => fd.getD x.toNat 0))])) (R := [.blk g63 38 #[.int .i64 (gs[i].kind), .int .i64 (gs[i].lit), .slice AI (gs[i].inp.length) cI], .map g40 (encL intE (rulesL g33)), .blk g46 3 ((intCs (padded fd gs.length)).toArray), .blk g8 24 #[.int .i64 0, .slice none 0 0], .blk g2 24 #[.int .i64 N, .slice A gs.length c]]) (O96.re [2, 3, 4, 5, 6, 0, 1, 7, 8, 9, 10] rfl : Own Z0 W w82 [.blk g33 56 #[.slice R L.length cR, .map (some g27)], .map g27 (encL strE (keysGo L 0)), .row (.slice R L.length cR) 38 3 L.length (gcells L vs), .ro D (Ins D L vs), .ro TabD Tab, .ro (fun k => k = g74) (fun w => IntsD (fun k => k = g74) w (.slice (some ⟨g74, 0, none⟩) (gs[i].inp.length) (gs[i].inp.length)) (gs[i].inp.map (fun x : Int => fd.getD x.toNat 0))), .blk g63 38 #[.int .i64 (gs[i].kind), .int .i64 (gs[i].lit), .slice AI (gs[i].inp.length) cI], .map g40 (encL intE (rulesL g33)), .blk g46 3 ((intCs (padded fd gs.length)).toArray), .blk g8 24 #[.int .i64 0, .slice none 0 0], .blk g2 24 #[.int .i64 N, .slice A gs.length c]])) hwf hgi (by simp) hinr (by simp; omega) (by decide) (by omega))).mono ?_
        rintro _ w97 ⟨R98, c99, D100, vs101, rfl, O102⟩
        refine ⟨_, rfl, ?_⟩
        refine wl_val (v := .pointer (some ⟨g46, i, none⟩)) (fun ρ e => ex_idx (q := i) (i := i) el36 (e _ _ rfl) (e _ _ rfl) (by omega) (by omega)) rfl rfl ?_
        obtain ⟨w103, r104, O105, hs106⟩ := own_put (o := i) (n := 1) (O102.re [7, 0, 1, 2, 3, 4, 5, 6, 8, 9] rfl : Own Z0 W w97 [.blk g46 3 ((intCs (padded fd gs.length)).toArray), .blk g33 56 #[.slice R98 (((stepG L gs[i] (gs[i].inp.map (fun x : Int => fd.getD x.toNat 0))).1).length) c99, .map (some g27)], .map g27 (encL strE (keysGo ((stepG L gs[i] (gs[i].inp.map (fun x : Int => fd.getD x.toNat 0))).1) 0)), .row (.slice R98 (((stepG L gs[i] (gs[i].inp.map (fun x : Int => fd.getD x.toNat 0))).1).length) c99) 38 3 (((stepG L gs[i] (gs[i].inp.map (fun x : Int => fd.getD x.toNat 0))).1).length) (gcells ((stepG L gs[i] (gs[i].inp.map (fun x : Int => fd.getD x.toNat 0))).1) vs101), .ro D100 (Ins D100 ((stepG L gs[i] (gs[i].inp.map (fun x : Int => fd.getD x.toNat 0))).1) vs101), .ro TabD Tab, .blk g63 38 #[.int .i64 (gs[i].kind), .int .i64 (gs[i].lit), .slice AI (gs[i].inp.length) cI], .map g40 (encL intE (rulesL g33)), .blk g8 24 #[.int .i64 0, .slice none 0 0], .blk g2 24 #[.int .i64 N, .slice A gs.length c]]) ty3 (.int .i64 ((stepG L gs[i] (gs[i].inp.map (fun x : Int => fd.getD x.toNat 0))).2)) [.int .i64 ((stepG L gs[i] (gs[i].inp.map (fun x : Int => fd.getD x.toNat 0))).2)] (cs' := (intCs ((padded fd gs.length).set i ((stepG L gs[i] (gs[i].inp.map (fun x : Int => fd.getD x.toNat 0))).2))).toArray) rfl rfl rfl (by simp [intCs, padded_len (show fd.length ≤ gs.length by omega)] <;> omega) (setI _ i _)
        refine wl_none (fun ρ e => r104 ρ _ _ _ _ _ _ (e _ _ rfl) (e _ _ rfl)) rfl ?_
        refine wl_nil ?_
        refine xw_block ?_
        refine xw_next K61 ?_
        refine cw_region ?_
        refine wl_val (v := .int .i64 ((i + 1 : Nat) : Int)) (fun ρ e => ex_arith (k := .i64) (u := (i : Int)) (v := 1) (e _ _ rfl) (e _ _ rfl) (congrArg some ((congrArg _ (by omega)).trans (wrap_in (u := ((i + 1 : Nat) : Int)) (by omega) (by omega))))) rfl rfl ?_
        refine wl_val (v := .int .i64 ((i + 1 : Nat) : Int)) (fun ρ e => ex_move (e _ _ rfl)) rfl rfl ?_
        refine wl_nil ?_
        have hst := st.le
        have hat := st.at_
        rw [padded_set' hfl hk] at O105
        refine xw_round K57 (i + 1, R98, c99, D100, (stepG L gs[i] (gs[i].inp.map (fun x : Int => fd.getD x.toNat 0))).1, vs101, (fd ++ [(stepG L gs[i] (gs[i].inp.map (fun x : Int => fd.getD x.toNat 0))).2])) (by show gs.length - (i + 1) < gs.length - i; omega) ⟨(by show i + 1 ≤ _; omega), (by show (fd ++ [_]).length = i + 1; simp [hfl]), st.wf, (by show List.length (stepG L gs[i] (gs[i].inp.map (fun x : Int => fd.getD x.toNat 0))).1 ≤ i + 1; omega), (fun x hx => (List.mem_append.1 hx).elim (fun h => by have := hfd x h; exact ⟨this.1, by have := this.2; show x < ((List.length (stepG L gs[i] (gs[i].inp.map (fun x : Int => fd.getD x.toNat 0))).1 : Nat) : Int); omega⟩) (fun h => by rw [List.mem_singleton.1 h]; exact hat)), hgo, (O105.re [1, 2, 3, 4, 5, 7, 0, 8, 9] rfl : Own Z0 W w103 [.blk g33 56 #[.slice R98 (((stepG L gs[i] (gs[i].inp.map (fun x : Int => fd.getD x.toNat 0))).1).length) c99, .map (some g27)], .map g27 (encL strE (keysGo ((stepG L gs[i] (gs[i].inp.map (fun x : Int => fd.getD x.toNat 0))).1) 0)), .row (.slice R98 (((stepG L gs[i] (gs[i].inp.map (fun x : Int => fd.getD x.toNat 0))).1).length) c99) 38 3 (((stepG L gs[i] (gs[i].inp.map (fun x : Int => fd.getD x.toNat 0))).1).length) (gcells ((stepG L gs[i] (gs[i].inp.map (fun x : Int => fd.getD x.toNat 0))).1) vs101), .ro D100 (Ins D100 ((stepG L gs[i] (gs[i].inp.map (fun x : Int => fd.getD x.toNat 0))).1) vs101), .ro TabD Tab, .map g40 (encL intE (rulesL g33)), .blk g46 3 ((intCs (padded (fd ++ [(stepG L gs[i] (gs[i].inp.map (fun x : Int => fd.getD x.toNat 0))).2]) gs.length)).toArray), .blk g8 24 #[.int .i64 0, .slice none 0 0], .blk g2 24 #[.int .i64 N, .slice A gs.length c]])⟩ ⟨rfl, rfl, rfl, rfl, rfl, rfl, rfl, rfl, trivial⟩
    · have hie : i = gs.length := by omega
      rw [List.drop_eq_nil_of_le (by omega)] at hgo
      simp only [foldGo] at hgo
      obtain ⟨rt0, hrt0⟩ : ∃ r, fd.getD (gs.length - 1) 0 = r := ⟨_, rfl⟩
      have hrtm : rt0 ∈ fd := by rw [← hrt0, List.getD_eq_getElem?_getD, List.getElem?_eq_getElem (show gs.length - 1 < fd.length by omega)]; exact List.getElem_mem _
      have hrtr := hfd rt0 hrtm
      obtain ⟨rt, rfl⟩ : ∃ n : Nat, rt0 = n := ⟨rt0.toNat, by have := hrtr.1; omega⟩
      have hrtg : (padded fd gs.length)[gs.length - 1]? = some (rt : Int) := by rw [padded_get (show gs.length - 1 < fd.length by omega), Int.toNat_natCast, hrt0]
      have hrtl : rt < L.length := by have := hrtr.2; omega
      refine cw_seq (fun FK107 K107 => ?_)
      refine cw_region ?_
      refine wl_val (v := .bool false) (fun ρ e => ex_cmp (u := (i : Int)) (v := ((gs.length : Nat) : Int)) (e _ _ rfl) (e _ _ rfl) (lss0 (by omega))) rfl rfl ?_
      refine wl_nil ?_
      refine xw_next K107 ?_
      refine cw_seq (fun FK108 K108 => ?_)
      refine cw_false rfl ?_
      refine cw_exit ?_
      refine xw_past (by intro h; cases h) ?_
      refine xw_past (by intro h; cases h) ?_
      refine xw_here ?_
      refine xw_next K52 ?_
      refine cw_seq (fun FK109 K109 => ?_)
      refine cw_drawn (fun X => Own Z0 W X [.blk g33 56 #[.slice R L.length cR, .map (some g27)], .ro D (Ins D L vs), .ro TabD Tab, .blk g46 3 ((intCs (padded fd gs.length)).toArray), .blk g8 24 #[.int .i64 0, .slice none 0 0], .blk g2 24 #[.int .i64 N, .slice A gs.length c]]) 14 [(0, 1), (1, 0), (2, 1), (3, 1), (4, 1), (5, 0), (6, 1), (7, 1), (8, 1), (9, 1), (10, 1), (11, 0), (12, 2), (13, 1), (14, 3), (15, 3)] (by kernel_rfl) (by kernel_rfl) (PQ.then_ PQ.body) ((O58.re [0, 3, 4, 6, 7, 8] rfl : Own Z0 W w55 [.blk g33 56 #[.slice R L.length cR, .map (some g27)], .ro D (Ins D L vs), .ro TabD Tab, .blk g46 3 ((intCs (padded fd gs.length)).toArray), .blk g8 24 #[.int .i64 0, .slice none 0 0], .blk g2 24 #[.int .i64 N, .slice A gs.length c]])).drew ?_
      have O110 : Own Z0 W w55.drew [.blk g33 56 #[.slice R L.length cR, .map (some g27)], .map g27 (encL strE (keysGo L 0)), .row (.slice R L.length cR) 38 3 L.length (gcells L vs), .ro D (Ins D L vs), .ro TabD Tab, .map g40 (encL intE (rulesL g33)), .blk g46 3 ((intCs (padded fd gs.length)).toArray), .blk g8 24 #[.int .i64 0, .slice none 0 0], .blk g2 24 #[.int .i64 N, .slice A gs.length c]] := O58.drew
      refine wt1 (v := .pointer (some ⟨g2, 0, none⟩)) rfl (fun ρ e W => ex_field (q := 0) fi24_0 (e _ _ rfl) rfl) rfl rfl ?_
      refine wt0 (v := .int .i64 N) rfl (fun ρ e W hW => ex_load1 ty3 (e _ _ rfl) (hW.cell 5 0 rfl rfl)) rfl rfl ?_
      refine wt1 (v := .pointer (some ⟨g33, 0, none⟩)) rfl (fun ρ e W => ex_move (e _ _ rfl)) rfl rfl ?_
      refine wt1 (v := .pointer (some ⟨g33, 0, none⟩)) rfl (fun ρ e W => ex_nil (e _ _ rfl)) rfl rfl ?_
      refine wt1 (v := .pointer (some ⟨g33, 0, none⟩)) rfl (fun ρ e W => ex_field (q := 0) fi56_0 (e _ _ rfl) rfl) rfl rfl ?_
      refine wt0 (v := .slice R L.length cR) rfl (fun ρ e W hW => ex_load1 ty22 (e _ _ rfl) (hW.cell 0 0 rfl rfl)) rfl rfl ?_
      refine wt1 (v := .slice (some ⟨g46, 0, none⟩) gs.length gs.length) rfl (fun ρ e W => ex_move (e _ _ rfl)) rfl rfl ?_
      refine wt1 (v := .slice (some ⟨g46, 0, none⟩) gs.length gs.length) rfl (fun ρ e W => ex_move (e _ _ rfl)) rfl rfl ?_
      refine wt1 (v := .int .i64 ((gs.length : Nat) : Int)) rfl (fun ρ e W => ex_len el36 (e _ _ rfl)) rfl rfl ?_
      refine wt1 (v := .int .i64 ((gs.length - 1 : Nat) : Int)) rfl (fun ρ e W => ex_arith (k := .i64) (u := ((gs.length : Nat) : Int)) (v := 1) (e _ _ rfl) (e _ _ rfl) (congrArg some ((congrArg _ (by omega)).trans (wrap_in (u := ((gs.length - 1 : Nat) : Int)) (by omega) (by omega))))) rfl rfl ?_
      refine wt1 (v := .pointer (some ⟨g46, (gs.length - 1), none⟩)) rfl (fun ρ e W => ex_idx (q := (gs.length - 1)) (i := gs.length - 1) el36 (e _ _ rfl) (e _ _ rfl) (by omega) (by omega)) rfl rfl ?_
      refine wt0 (v := .int .i64 (rt : Int)) rfl (fun ρ e W hW => ex_load1 ty3 (e _ _ rfl) (hW.cell 3 (gs.length - 1) rfl (getI hrtg))) rfl rfl ?_
      refine wt2_call (args := [.slice R L.length cR, .int .i64 (rt : Int)]) rfl in_40 rfl rfl rfl ?_
      refine (needed_ (O110.row 2 rfl) (O110.ro 3 rfl) (O110.get 3 rfl).2.1 hwf (by decide) (by omega) (row_cap (O110.row 2 rfl)) hrtl).mono ?_
      rintro _ w115 ⟨A111, c112, D113, vo114, rfl, h116, hd117⟩
      have hd117s := O110.old.size
      have O118 : Own Z0 W w115 [.row (.slice A111 ((neededG L (rt : Int)).length) c112) 38 3 ((neededG L (rt : Int)).length) (gcells (neededG L (rt : Int)) vo114), .ro D113 (OwnIns D113 (neededG L (rt : Int)) vo114), .blk g33 56 #[.slice R L.length cR, .map (some g27)], .map g27 (encL strE (keysGo L 0)), .row (.slice R L.length cR) 38 3 L.length (gcells L vs), .ro D (Ins D L vs), .ro TabD Tab, .map g40 (encL intE (rulesL g33)), .blk g46 3 ((intCs (padded fd gs.length)).toArray), .blk g8 24 #[.int .i64 0, .slice none 0 0], .blk g2 24 #[.int .i64 N, .slice A gs.length c]] := Own.joinr O110 h116 (fun e he => by rcases List.mem_cons.1 he with rfl | he; exact .inl trivial; exact .inr (by rw [List.mem_singleton.1 he]; exact hd117))
      refine ⟨_, rfl, (O118.re [2, 5, 6, 8, 9, 10] rfl : Own Z0 W w115 [.blk g33 56 #[.slice R L.length cR, .map (some g27)], .ro D (Ins D L vs), .ro TabD Tab, .blk g46 3 ((intCs (padded fd gs.length)).toArray), .blk g8 24 #[.int .i64 0, .slice none 0 0], .blk g2 24 #[.int .i64 N, .slice A gs.length c]]), ?_⟩
      refine wt1 (v := .agg #[.int .i64 N, .slice A111 ((neededG L (rt : Int)).length) c112]) rfl (fun ρ e W => ex_build (cells := #[.int .i64 N, .slice A111 ((neededG L (rt : Int)).length) c112]) st24 (e.parts rfl) rfl) rfl rfl ?_
      obtain ⟨w119, r120, O121, hs122⟩ := own_put (o := 0) (n := 2) (O118.re [9, 0, 1, 2, 3, 4, 5, 6, 7, 8, 10] rfl : Own Z0 W w115 [.blk g8 24 #[.int .i64 0, .slice none 0 0], .row (.slice A111 ((neededG L (rt : Int)).length) c112) 38 3 ((neededG L (rt : Int)).length) (gcells (neededG L (rt : Int)) vo114), .ro D113 (OwnIns D113 (neededG L (rt : Int)) vo114), .blk g33 56 #[.slice R L.length cR, .map (some g27)], .map g27 (encL strE (keysGo L 0)), .row (.slice R L.length cR) 38 3 L.length (gcells L vs), .ro D (Ins D L vs), .ro TabD Tab, .map g40 (encL intE (rulesL g33)), .blk g46 3 ((intCs (padded fd gs.length)).toArray), .blk g2 24 #[.int .i64 N, .slice A gs.length c]]) ty24 (.agg #[.int .i64 N, .slice A111 ((neededG L (rt : Int)).length) c112]) [.int .i64 N, .slice A111 ((neededG L (rt : Int)).length) c112] (cs' := #[.int .i64 N, .slice A111 ((neededG L (rt : Int)).length) c112]) rfl rfl rfl (Nat.le_of_ble_eq_true rfl) rfl
      refine wt3_none rfl (fun ρ e => r120 ρ _ _ _ _ _ _ (e _ _ rfl) (e _ _ rfl)) rfl ?_
      refine wt3 (v := .int .i64 0) rfl (fun ρ e => ex_assign (e _ _ rfl)) rfl rfl ?_
      refine wt_nil ?_
      refine xw_next K109 ?_
      refine cw_ret ?_
      refine xw_ret (v := .tuple #[.agg #[.int .i64 N, .slice A111 ((neededG L (rt : Int)).length) c112], .int .i64 0]) (fun T hT => res2c rfl T _ (hT 2 _ rfl) (hT 3 _ rfl) (run_loadN (vs := [.int .i64 N, .slice A111 ((neededG L (rt : Int)).length) c112]) ty24 rfl (O121.cells 0 0 rfl rfl))) ?_
      have hfo : foldOf gs = neededG L (rt : Int) := by unfold foldOf; rw [hgo]; simp only; rw [show fd.length = gs.length by omega, hrt0]
      refine .inr ⟨c0, ?_⟩
      rw [hfo]
      exact ⟨A111, c112, D113, vo114, rfl, (O121.re [1, 2] rfl : Own Z0 W w119 [.row (.slice A111 ((neededG L (rt : Int)).length) c112) 38 3 ((neededG L (rt : Int)).length) (gcells (neededG L (rt : Int)) vo114), .ro D113 (OwnIns D113 (neededG L (rt : Int)) vo114)]), fun k hk => Nat.le_trans hd117s (hd117 k hk)⟩
end Go.Proofs.YtbemhgojfehnjaaDoor
namespace Go.Proofs.YtbemhgojfehnjaaDoor
open Go Go.RowKit
theorem res1c {P : Program} {fn : Func} {a g : Nat} {v : Value} {T0 : TypeId} (h : fn.results = #[.cell a T0]) (T : Array Value) (w : World) (h1 : T[a]? = some (.pointer (some ⟨g, 0, none⟩))) (hv : (loadVar T0 ⟨g, 0, none⟩).run P w = .ok v w) : (results fn T).run P w = .ok v w := by
  simp [results, h, Array.getD_eq_getD_getElem?, h1, hv, asAddr]
theorem gatesV_of {w : World} {g n c B : Nat} {gs : List Gate} {vs : List Value} {D : Nat → Prop} (hc : ∀ j v, (gcells gs vs)[j]? = some v → w.cell? ⟨g, j, none⟩ = some v) (hI : Ins D gs vs w) (hD : ∀ k, D k → k < B) (hg : g < B) (hn : n = gs.length) (h1 : n ≤ c) (h2 : c ≤ maxLen) : GatesV w B (.slice (some ⟨g, 0, none⟩) n c) gs := by
  subst hn
  refine ⟨_, c, rfl, h1, h2, fun _ => ⟨g, 0, hg, rfl, fun i x hx => ?_⟩⟩
  have hi := (List.getElem?_eq_some_iff.1 hx).1
  have hi' : i < vs.length := by rw [← hI.1]; exact hi
  have hv : vs[i]? = some vs[i] := List.getElem?_eq_getElem hi'
  obtain ⟨q0, q1, q2⟩ := gcells_get hx hv
  rw [Nat.zero_add]
  exact ⟨hc _ _ q0, hc _ _ q1, _, hc _ _ q2, (hI.2 i _ _ hx hv).V hD⟩
theorem gates_of_own {w : World} {A : Option Addr} {n c : Nat} {gs : List Gate} {vs : List Value} {D : Nat → Prop} (hr : w.ownsRow 0 38 3 (.slice A n c) n (gcells gs vs)) (hI : OwnIns D gs vs w) (hD : ∀ k, D k → k < w.heap.size) : GatesV w w.heap.size (.slice A n c) gs := by
  have hlen : n = gs.length := by
    have h1 := hr.1
    have h2 : ∀ (L : List Gate) (v : List Value), L.length = v.length → (gcells L v).length = L.length * 3 := by
      intro L
      induction L with
      | nil => intro v _; rfl
      | cons g L ih =>
        intro v hv
        cases v with
        | nil => cases hv
        | cons u v =>
          show (gcell g u ++ gcells L v).length = _
          rw [List.length_append, ih v (by simpa using hv)]
          simp [gcell]; omega
    rw [h2 gs vs hI.1] at h1
    omega
  rcases hr.2 with ⟨h1, h2⟩ | ⟨g, cap, cur, h1, _, hg, h3, h4, _, _⟩
  · injection h1 with h5 h6 h7
    subst h5 h7
    have : gs = [] := List.length_eq_zero_iff.1 (by omega)
    subst this
    exact ⟨none, 0, by rw [h2]; rfl, Nat.le_refl _, Nat.zero_le _, fun h => absurd h (Nat.lt_irrefl _)⟩
  · injection h1 with h5 h6 h7
    subst h5 h7
    exact gatesV_of (fun j v hj => rowcell hr hj) hI.ins hD (Array.getElem?_eq_some_iff.1 hg).1 hlen h3 h4
theorem foldGo_ok {N : Int} {B : Nat} (hB : 3 ≤ B) : ∀ (r : List Gate) (i : Nat) (L : List Gate) (fd : List Int), (∀ (k : Nat) (g : Gate), r[k]? = some g → goodGate N ((i + k : Nat) : Int) g = true ∧ g.inp.length + 1 ≤ B) → wfL N B L → L.length ≤ i → fd.length = i → (∀ x ∈ fd, inR L x) →
    wfL N B (foldGo r (L, fd)).1 ∧ (foldGo r (L, fd)).1.length ≤ i + r.length ∧ (foldGo r (L, fd)).2.length = i + r.length ∧ (∀ x ∈ (foldGo r (L, fd)).2, inR (foldGo r (L, fd)).1 x)
  | [], i, L, fd, _, hw, hl, hf, hx => ⟨hw, by simpa [foldGo] using hl, by simpa [foldGo] using hf, hx⟩
  | g :: r, i, L, fd, hg, hw, hl, hf, hx => by
    obtain ⟨hg0, hb⟩ := hg 0 g rfl
    have hp := good_parts hg0
    have hi : ∀ x ∈ g.inp.map (fun k => fd.getD k.toNat 0), inR L x := by
      intro x hx'
      obtain ⟨z, hz, rfl⟩ := List.mem_map.1 hx'
      have := hp.2.2 z hz
      refine hx _ ?_
      rw [List.getD_eq_getElem?_getD, List.getElem?_eq_getElem (show z.toNat < fd.length by omega)]
      exact List.getElem_mem _
    have st := stepG_ok hw hB hg0 (ins := g.inp.map (fun k => fd.getD k.toNat 0)) (by simp) hi (by simpa using hb)
    have hle := st.le
    rw [foldGo]
    have := foldGo_ok hB r (i + 1) (stepG L g (g.inp.map fun k => fd.getD k.toNat 0)).1 (fd ++ [(stepG L g (g.inp.map fun k => fd.getD k.toNat 0)).2])
      (fun k g' hk => by have := hg (k + 1) g' (by simpa using hk); rwa [show i + 1 + k = i + (k + 1) by omega]) st.wf (by omega) (by simp [hf])
      (fun x hx' => by
        rcases List.mem_append.1 hx' with h | h
        · have := hx x h; exact ⟨this.1, by have := this.2; omega⟩
        · rw [List.mem_singleton.1 h]; exact st.at_)
    exact ⟨this.1, Nat.le_trans this.2.1 (by rw [List.length_cons]; omega), this.2.2.1.trans (by rw [List.length_cons]; omega), this.2.2.2⟩
theorem fold_start {N : Int} {gs : List Gate} (hc : checkOf N gs = 0) : wfL N 70000 (foldGo gs ([], [])).1 ∧ (foldGo gs ([], [])).1.length ≤ gs.length ∧ (foldGo gs ([], [])).2.length = gs.length ∧ (∀ x ∈ (foldGo gs ([], [])).2, inR (foldGo gs ([], [])).1 x) := by
  obtain ⟨_, _, hgl, hsz2, hg0, hgt⟩ := check_zero hc
  have := foldGo_ok (N := N) (B := 70000) (by decide) gs 0 [] [] (fun k g hk => by
    obtain ⟨hk', rfl⟩ := List.getElem?_eq_some_iff.1 hk
    have h1 := (goodTo_iff N gs gs.length).1 hgt k hk'
    rw [goodAt_eq N gs k hk'] at h1
    have h2 := sizeTo_le gs (k + 1)
    rw [sizeTo_succ gs k hk'] at h2
    exact ⟨by rw [Nat.zero_add]; exact h1, by omega⟩) (fun i g h => by simp at h) (Nat.le_refl _) rfl (fun x hx => absurd hx List.not_mem_nil)
  simpa using this
theorem placeGo_len (use : List Bool) : ∀ (r : List Gate) (i : Nat) (o : List Gate) (p : List Int), (placeGo use r i (o, p)).1.length ≤ o.length + r.length
  | [], _, o, p => by simp [placeGo]
  | g :: r, i, o, p => by
    rw [placeGo]
    split
    · exact Nat.le_trans (placeGo_len use r (i + 1) _ _) (by simp; omega)
    · exact Nat.le_trans (placeGo_len use r (i + 1) _ _) (by simp)
theorem placeGo_short (use : List Bool) {B : Nat} : ∀ (r : List Gate) (i : Nat) (o : List Gate) (p : List Int), (∀ g ∈ r, g.inp.length ≤ B) → (∀ g ∈ o, g.inp.length ≤ B) → ∀ g ∈ (placeGo use r i (o, p)).1, g.inp.length ≤ B
  | [], _, o, p, _, h => h
  | g :: r, i, o, p, h1, h2 => by
    rw [placeGo]
    split
    · refine placeGo_short use r (i + 1) _ _ (fun g' hg' => h1 g' (by simp [hg'])) (fun g' hg' => ?_)
      rcases List.mem_append.1 hg' with h | h
      · exact h2 g' h
      · rw [List.mem_singleton.1 h]; simpa using h1 g (by simp)
    · exact placeGo_short use r (i + 1) _ _ (fun g' hg' => h1 g' (by simp [hg'])) h2
theorem foldOf_len {N : Int} {gs : List Gate} (hc : checkOf N gs = 0) : (foldOf gs).length ≤ 1000000000 := by
  have h1 := fold_start hc
  obtain ⟨_, _, hgl, _⟩ := check_zero hc
  unfold foldOf neededG
  have := placeGo_len (useOf (foldGo gs ([], [])).1 ((foldGo gs ([], [])).2.getD ((foldGo gs ([], [])).2.length - 1) 0).toNat) ((foldGo gs ([], [])).1.take (((foldGo gs ([], [])).2.getD ((foldGo gs ([], [])).2.length - 1) 0).toNat + 1)) 0 [] (List.replicate (((foldGo gs ([], [])).2.getD ((foldGo gs ([], [])).2.length - 1) 0).toNat + 1) 0)
  refine Nat.le_trans this ?_
  have h2 := h1.2.1
  simp only [List.length_nil, List.length_take]
  omega
theorem foldOf_short {N : Int} {gs : List Gate} (hc : checkOf N gs = 0) : ∀ g ∈ foldOf gs, g.inp.length ≤ 1000000000 := by
  have h1 := fold_start hc
  unfold foldOf neededG
  refine placeGo_short (B := 1000000000) _ _ _ _ _ (fun g hg => ?_) (fun g hg => absurd hg List.not_mem_nil)
  obtain ⟨k, hk⟩ := List.mem_iff_getElem?.1 (List.mem_of_mem_take hg)
  have := (h1.1 k g hk).2
  omega
end Go.Proofs.YtbemhgojfehnjaaDoor
namespace Go.Proofs.YtbemhgojfehnjaaDoor
open Go
def total (l : List Gate) : Nat := (l.map fun g => g.inp.length).sum
theorem total_size (gs : List Gate) : sizeOf gs = total gs := by unfold sizeOf sizeTo total; rw [List.take_length]
theorem total_snoc (l : List Gate) (g : Gate) : total (l ++ [g]) = total l + g.inp.length := by simp [total]
theorem value_map {g : Gate} {v u : List Bool} (s : VS) (f : Int → Int) (h : ∀ x ∈ g.inp, vg v (f x) = vg u x) (h8 : g.kind = 8 → g.inp.length = 3) : valueOf ⟨g.kind, g.lit, g.inp.map f⟩ s v = valueOf g s u := by
  have h1 : inVals ⟨g.kind, g.lit, g.inp.map f⟩ v = inVals g u := by
    show (g.inp.map f).map (vg v) = g.inp.map (vg u)
    rw [List.map_map]
    exact List.map_congr_left h
  have h2 : g.kind = 8 → pickVal v (g.inp.map f) = pickVal u g.inp := by
    intro e
    have := h8 e
    match hi : g.inp, this with
    | [a, b, c], _ =>
      rw [hi] at h
      have ha := h a (by simp)
      have hb := h b (by simp)
      have hc := h c (by simp)
      show (if vg v (f a) then vg v (f b) else vg v (f c)) = (if vg u a then vg u b else vg u c)
      rw [ha, hb, hc]
  unfold valueOf
  simp only [h1, List.length_map]
  by_cases e : g.kind = 8
  · simp only [e, h2 e]
  · simp only [if_neg e]
/-- What holds when the gates of pre have been folded. -/
structure FI (N : Int) (B : Nat) (pre L : List Gate) (found : List Int) : Prop where
  wf : wfL N B L
  nd : ND L
  len : found.length = pre.length
  at_ : ∀ j, j < pre.length → inR L (found.getD j 0) ∧ ∀ s, vg (vals L s) (found.getD j 0) = (vals pre s).getD j false
  le : L.length ≤ pre.length
  sz : total L ≤ total pre
theorem getD_app {α : Type} (l : List α) (x d : α) (j : Nat) : (l ++ [x]).getD j d = if j = l.length then x else l.getD j d := by
  rw [List.getD_eq_getElem?_getD, List.getD_eq_getElem?_getD]
  split
  · rename_i h; subst h; simp
  · rename_i h
    by_cases h1 : j < l.length
    · rw [List.getElem?_append_left h1]
    · rw [List.getElem?_eq_none (by simp; omega), List.getElem?_eq_none (by omega)]
theorem fold_one {N : Int} {B : Nat} (hB : 3 ≤ B) {pre L : List Gate} {found : List Int} (h : FI N B pre L found) {g : Gate} (hg : goodGate N (pre.length : Int) g = true) (hb : g.inp.length + 1 ≤ B) :
    FI N B (pre ++ [g]) (stepG L g (g.inp.map fun k => found.getD k.toNat 0)).1 (found ++ [(stepG L g (g.inp.map fun k => found.getD k.toNat 0)).2]) := by
  obtain ⟨p1, p2, p3⟩ := good_parts hg
  have hin : ∀ x ∈ (g.inp.map fun k => found.getD k.toNat 0), inR L x := by
    intro x hx
    obtain ⟨k, hk, rfl⟩ := List.mem_map.1 hx
    have := p3 k hk
    exact (h.at_ k.toNat (by omega)).1
  have ok := stepG_ok h.wf hB hg (ins := g.inp.map fun k => found.getD k.toNat 0) (by simp) hin (by simpa using hb)
  have sm := step_sm h.wf h.nd hg (ins := g.inp.map fun k => found.getD k.toNat 0) (by simp) hin
  generalize stepG L g (g.inp.map fun k => found.getD k.toNat 0) = q at ok sm
  obtain ⟨L', i⟩ := q
  have hpre : ∀ (s : VS) (x : Int), inR L x → inR L' x ∧ vg (vals L' s) x = vg (vals L s) x := by
    intro s x hx
    rcases sm.add with e | ⟨g', e, _, _⟩
    · simp only at e; subst e; exact ⟨hx, rfl⟩
    · simp only at e; subst e
      refine ⟨⟨hx.1, by have := hx.2; simp; omega⟩, ?_⟩
      rw [vals_snoc, vg_app _ _ (by rw [vals_len]; exact hx.2) hx.1]
  have hval : ∀ s, vg (vals L' s) i = valueOf g s (vals pre s) := by
    intro s
    rw [sm.val s]
    refine value_map s (fun k => found.getD k.toNat 0) (fun x hx => ?_) (fun h8 => (good_len hg).2.2.2.1 h8)
    have := p3 x hx
    exact (h.at_ x.toNat (by omega)).2 s
  refine ⟨ok.wf, ?_, by simp [h.len], fun j hj => ?_, ?_, ?_⟩
  · rcases sm.add with e | ⟨g', e, hn, _⟩
    · simp only at e ⊢; rw [e]; exact h.nd
    · simp only at e ⊢; rw [e]; exact h.nd.snoc hn
  · rw [getD_app, h.len]
    split
    · rename_i e
      subst e
      refine ⟨ok.at_, fun s => ?_⟩
      rw [hval s, vals_snoc, getD_app, vals_len, if_pos rfl]
    · rename_i e
      rw [List.length_append, List.length_singleton] at hj
      obtain ⟨a, b⟩ := h.at_ j (by omega)
      refine ⟨(hpre VS.empty _ a).1, fun s => ?_⟩
      rw [(hpre s _ a).2, b s, vals_snoc, getD_app, vals_len, if_neg e]
  · rcases sm.add with e | ⟨g', e, _, _⟩
    · simp only at e ⊢; rw [e]; have := h.le; simp; omega
    · simp only at e ⊢; rw [e]; have := h.le; simp; omega
  · rw [total_snoc]
    rcases sm.add with e | ⟨g', e, _, hm⟩
    · simp only at e ⊢; rw [e]; have := h.sz; omega
    · simp only at e ⊢; rw [e, total_snoc]; have := h.sz; omega
theorem fold_all {N : Int} {B : Nat} (hB : 3 ≤ B) : ∀ (r pre L : List Gate) (found : List Int), FI N B pre L found → (∀ (k : Nat) (g : Gate), r[k]? = some g → goodGate N ((pre.length + k : Nat) : Int) g = true ∧ g.inp.length + 1 ≤ B) →
    FI N B (pre ++ r) (foldGo r (L, found)).1 (foldGo r (L, found)).2
  | [], pre, L, found, h, _ => by simpa [foldGo] using h
  | g :: r, pre, L, found, h, hr => by
    have h0 := hr 0 g rfl
    have h1 := fold_one hB h h0.1 h0.2
    have := fold_all hB r (pre ++ [g]) _ _ h1 (fun k x hk => by
      have := hr (k + 1) x (by simpa using hk)
      rw [List.length_append, List.length_singleton, show pre.length + 1 + k = pre.length + (k + 1) from by omega]
      exact this)
    rw [List.append_assoc] at this
    exact this
/-! Marks. -/
theorem getD_set (u : List Bool) (i j : Nat) : (u.set i true).getD j false = (u.getD j false || (decide (i = j) && decide (j < u.length))) := by
  rw [List.getD_eq_getElem?_getD, List.getD_eq_getElem?_getD, List.getElem?_set]
  by_cases e : i = j
  · subst e
    by_cases h : i < u.length
    · simp [h]
    · rw [if_pos rfl, if_neg h, List.getElem?_eq_none (by omega)]; simp [h]
  · simp [e]
theorem mark_keep : ∀ (l : List Int) (u : List Bool) (j : Nat), u.getD j false = true → (markIn u l).getD j false = true
  | [], _, _, h => h
  | x :: l, u, j, h => by rw [markIn_cons]; exact mark_keep l _ j (by rw [getD_set, h]; rfl)
theorem mark_hit : ∀ (l : List Int) (u : List Bool) (x : Int), x ∈ l → x.toNat < u.length → (markIn u l).getD x.toNat false = true
  | [], _, _, h, _ => by cases h
  | y :: l, u, x, h, hx => by
    rw [markIn_cons]
    rcases List.mem_cons.1 h with rfl | h
    · exact mark_keep l _ _ (by rw [getD_set]; simp [hx])
    · exact mark_hit l _ x h (by simpa using hx)
theorem mark_other : ∀ (l : List Int) (u : List Bool) (j : Nat), (∀ x ∈ l, x.toNat ≠ j) → (markIn u l).getD j false = u.getD j false
  | [], _, _, _ => rfl
  | y :: l, u, j, h => by
    rw [markIn_cons, mark_other l _ j (fun x hx => h x (by simp [hx])), getD_set]
    simp [h y (by simp)]
theorem use_all {N : Int} {B : Nat} {L : List Gate} (hw : wfL N B L) : ∀ (n : Nat) (u : List Bool), n ≤ u.length → n ≤ L.length →
    (useGo L n u).length = u.length ∧ (∀ j, u.getD j false = true → (useGo L n u).getD j false = true) ∧ (∀ j, n ≤ j + 1 → (useGo L n u).getD j false = u.getD j false) ∧
    (∀ i (hi : i < L.length), i < n → (useGo L n u).getD i false = true → ∀ x ∈ L[i].inp, (useGo L n u).getD x.toNat false = true)
  | 0, u, _, _ => ⟨rfl, fun _ h => h, fun _ _ => rfl, fun _ _ h => by omega⟩
  | n + 1, u, hu, hL => by
    rw [useGo_succ L u (by omega : n < L.length)]
    have hg := good_parts (hw n L[n] (List.getElem?_eq_getElem (by omega))).1
    obtain ⟨u', hu'⟩ : ∃ u', u' = (if u.getD n false then markIn u L[n].inp else u) := ⟨_, rfl⟩
    have hlen : u'.length = u.length := by
      rw [hu']
      split
      · exact markIn_len _ _
      · rfl
    have hk : ∀ j, u.getD j false = true → u'.getD j false = true := by
      intro j h
      rw [hu']
      split
      · exact mark_keep _ _ _ h
      · exact h
    have ho : ∀ j, n ≤ j → u'.getD j false = u.getD j false := by
      intro j h
      rw [hu']
      split
      · exact mark_other _ _ _ (fun x hx => by have := hg.2.2 x hx; omega)
      · rfl
    rw [← hu']
    obtain ⟨a, b, c, d⟩ := use_all hw n u' (by omega) (by omega)
    refine ⟨by rw [a, hlen], fun j h => b j (hk j h), fun j h => by rw [c j (by omega), ho j (by omega)], fun i hi hin hv x hx => ?_⟩
    by_cases e : i < n
    · exact d i hi e hv x hx
    · have e2 : i = n := by omega
      subst e2
      rw [c i (by omega), ho i (Nat.le_refl _)] at hv
      refine b _ ?_
      rw [hu', if_pos hv]
      have := hg.2.2 x hx
      exact mark_hit _ _ x hx (by omega)
/-! Places. -/
structure PI (N : Int) (B : Nat) (L : List Gate) (use : List Bool) (n i : Nat) (out : List Gate) (place : List Int) : Prop where
  wf : wfL N B out
  len : place.length = n
  at_ : ∀ j, j < i → use.getD j false = true → inR out (place.getD j 0) ∧ ∀ s, vg (vals out s) (place.getD j 0) = (vals L s).getD j false
  le : out.length ≤ i
  sz : total out ≤ total (L.take i)
  last : ∀ j, i = j + 1 → use.getD j false = true → 0 < out.length ∧ place.getD j 0 = ((out.length - 1 : Nat) : Int)
theorem getD_setI (p : List Int) (i j : Nat) (x : Int) (h : i < p.length) : (p.set i x).getD j 0 = if i = j then x else p.getD j 0 := by
  rw [List.getD_eq_getElem?_getD, List.getD_eq_getElem?_getD, List.getElem?_set]
  split
  · rfl
  · rfl
theorem wf_snoc {N : Int} {B : Nat} {L : List Gate} (hw : wfL N B L) {g : Gate} (hg : goodGate N (L.length : Int) g = true) (hb : g.inp.length ≤ B) : wfL N B (L ++ [g]) := by
  intro i x hx
  rcases get_snoc hx with ⟨a, _⟩ | ⟨rfl, rfl⟩
  · exact hw i x a
  · exact ⟨hg, hb⟩
theorem take_get {α : Type} {L : List α} {i : Nat} (h : i < L.length) : L.take (i + 1) = L.take i ++ [L[i]] := (List.take_append_getElem h).symm
theorem place_one {N : Int} {B : Nat} {L : List Gate} (hw : wfL N B L) {use : List Bool} {n i : Nat} {out : List Gate} {place : List Int} (h : PI N B L use n i out place) (hi : i < L.length) (hn : i < n)
    (hc : use.getD i false = true → ∀ x ∈ L[i].inp, use.getD x.toNat false = true) :
    if use.getD i false = true then PI N B L use n (i + 1) (out ++ [⟨L[i].kind, L[i].lit, L[i].inp.map fun k => place.getD k.toNat 0⟩]) (place.set i (out.length : Int)) else PI N B L use n (i + 1) out place := by
  have htk := take_get hi
  obtain ⟨hg, hb⟩ := hw i L[i] (List.getElem?_eq_getElem hi)
  obtain ⟨p1, p2, p3⟩ := good_parts hg
  by_cases hu : use.getD i false = true
  · rw [if_pos hu]
    have hin : ∀ x ∈ L[i].inp, inR out (place.getD x.toNat 0) ∧ ∀ s, vg (vals out s) (place.getD x.toNat 0) = vg (vals L s) x := by
      intro x hx
      have := p3 x hx
      exact h.at_ x.toNat (by omega) (hc hu x hx)
    obtain ⟨g', hg'⟩ : ∃ g' : Gate, g' = ⟨L[i].kind, L[i].lit, L[i].inp.map fun k => place.getD k.toNat 0⟩ := ⟨_, rfl⟩
    have hlen : g'.inp.length = L[i].inp.length := by rw [hg']; simp
    have hgood : goodGate N (out.length : Int) g' = true := by
      refine good_of (by rw [hlen, hg']; exact p1) (by rw [hg']; exact p2) (fun x hx => ?_)
      rw [hg'] at hx
      obtain ⟨k, hk, rfl⟩ := List.mem_map.1 hx
      exact (hin k hk).1
    have hval : ∀ s, valueOf g' s (vals out s) = (vals L s).getD i false := by
      intro s
      rw [vals_at hw s hi, hg']
      exact value_map s (fun k => place.getD k.toNat 0) (fun x hx => (hin x hx).2 s) (fun h8 => (good_len hg).2.2.2.1 h8)
    rw [← hg']
    refine ⟨wf_snoc h.wf hgood (by omega), by simp [h.len], fun j hj hju => ?_, by have := h.le; simp; omega, by rw [htk, total_snoc, total_snoc, hlen]; have := h.sz; omega, fun j hj _ => ?_⟩
    · rw [getD_setI _ _ _ _ (by rw [h.len]; exact hn)]
      split
      · rename_i e
        subst e
        refine ⟨⟨by omega, by simp only [List.length_append, List.length_singleton]; omega⟩, fun s => ?_⟩
        rw [← hval s, vals_snoc]
        show (vals out s ++ [valueOf g' s (vals out s)]).getD out.length false = _
        rw [getD_app, vals_len, if_pos rfl]
      · rename_i e
        obtain ⟨a, b⟩ := h.at_ j (by omega) hju
        refine ⟨⟨a.1, by have := a.2; simp only [List.length_append, List.length_singleton]; omega⟩, fun s => ?_⟩
        rw [vals_snoc, vg_app _ _ (by rw [vals_len]; exact a.2) a.1, b s]
    · have e : i = j := by omega
      subst e
      rw [getD_setI _ _ _ _ (by rw [h.len]; exact hn), if_pos rfl]
      simp
  · rw [if_neg hu]
    refine ⟨h.wf, h.len, fun j hj hju => ?_, by have := h.le; omega, by rw [htk, total_snoc]; have := h.sz; omega, fun j hj hju => ?_⟩
    · by_cases e : j = i
      · subst e; exact absurd hju hu
      · exact h.at_ j (by omega) hju
    · have e : i = j := by omega
      subst e
      exact absurd hju hu
theorem place_all {N : Int} {B : Nat} {L : List Gate} (hw : wfL N B L) {use : List Bool} {n : Nat} (hn : n ≤ L.length) (hc : ∀ i (hi : i < L.length), i < n → use.getD i false = true → ∀ x ∈ L[i].inp, use.getD x.toNat false = true) :
    ∀ (m i : Nat) (r : List Gate) (out : List Gate) (place : List Int), i + m = n → r = (L.take n).drop i → PI N B L use n i out place → PI N B L use n n (placeGo use r i (out, place)).1 (placeGo use r i (out, place)).2
  | 0, i, r, out, place, hm, hr, h => by
    have : r = [] := by rw [hr]; simp; omega
    rw [this]
    have e : i = n := by omega
    subst e
    exact h
  | m + 1, i, r, out, place, hm, hr, h => by
    have hi : i < L.length := by omega
    have h1 := place_one hw h hi (by omega) (hc i hi (by omega))
    have hr2 : r = L[i] :: (L.take n).drop (i + 1) := by
      rw [hr, List.drop_eq_getElem_cons (by simp; omega)]
      simp
    rw [hr2, placeGo]
    split
    · rename_i hu
      rw [if_pos hu] at h1
      exact place_all hw hn hc m (i + 1) _ _ _ (by omega) rfl h1
    · rename_i hu
      rw [if_neg hu] at h1
      exact place_all hw hn hc m (i + 1) _ _ _ (by omega) rfl h1
theorem need_all {N : Int} {B : Nat} {L : List Gate} (hw : wfL N B L) {root : Int} (hr : inR L root) :
    wfL N B (neededG L root) ∧ 0 < (neededG L root).length ∧ (neededG L root).length ≤ L.length ∧ total (neededG L root) ≤ total L ∧ ∀ s, (vals (neededG L root) s).getD ((neededG L root).length - 1) false = vg (vals L s) root := by
  obtain ⟨n, hn⟩ : ∃ n, root.toNat = n := ⟨_, rfl⟩
  have h0 := hr.1
  have h1 := hr.2
  have hnl : n < L.length := by omega
  unfold neededG
  rw [hn]
  have hu := use_all hw (n + 1) ((List.replicate (n + 1) false).set n true) (by simp) (by omega)
  have hroot : (useOf L n).getD n false = true := by
    unfold useOf
    rw [hu.2.2.1 n (Nat.le_refl _), getD_set]
    simp
  have hp := place_all hw (use := useOf L n) (n := n + 1) (by omega) (fun i hi hin hv => hu.2.2.2 i hi hin hv) (n + 1) 0 (L.take (n + 1)) [] (List.replicate (n + 1) 0) (by omega) rfl
    ⟨fun i g h => by simp at h, by simp, fun j hj => by omega, Nat.le_refl _, Nat.le_refl _, fun j hj => by omega⟩
  generalize placeGo (useOf L n) (L.take (n + 1)) 0 ([], List.replicate (n + 1) 0) = q at hp
  obtain ⟨out, place⟩ := q
  obtain ⟨l1, l2⟩ := hp.last n rfl hroot
  refine ⟨hp.wf, l1, by have := hp.le; simp only at this ⊢; omega, ?_, fun s => ?_⟩
  · have h3 := hp.sz
    have h4 : total (L.take (n + 1)) ≤ total L := by
      have := sizeTo_le L (n + 1)
      rw [total_size] at this
      exact this
    simp only at h3 ⊢
    omega
  · have := (hp.at_ n (by omega) hroot).2 s
    rw [l2] at this
    unfold vg at this ⊢
    rw [hn, ← this]
    simp
theorem fold_sem {N : Int} {gs : List Gate} (hc : checkOf N gs = 0) : checkOf N (foldOf gs) = 0 ∧ (∀ s, evalOf N (foldOf gs) s = evalOf N gs s) ∧ (foldOf gs).length ≤ gs.length ∧ sizeOf (foldOf gs) ≤ sizeOf gs := by
  obtain ⟨b0, b1, b2, b3, b4⟩ := check_bounds hc
  have hf := fold_all (N := N) (B := 100000) (by decide) gs [] [] [] ⟨fun i g h => by simp at h, ND.nil, rfl, fun j hj => by simp at hj, Nat.le_refl _, Nat.le_refl _⟩ (fun k g hk => by
    obtain ⟨hk', rfl⟩ := List.getElem?_eq_some_iff.1 hk
    have h2 := sizeTo_le gs (k + 1)
    rw [sizeTo_succ gs k hk'] at h2
    rw [List.length_nil, Nat.zero_add]
    exact ⟨check_gate hc k hk', by omega⟩)
  rw [List.nil_append] at hf
  unfold foldOf
  dsimp only
  generalize foldGo gs ([], []) = q at hf
  obtain ⟨L, found⟩ := q
  simp only at hf ⊢
  obtain ⟨ha, hv⟩ := hf.at_ (gs.length - 1) (by omega)
  rw [hf.len]
  generalize found.getD (gs.length - 1) 0 = root at ha hv
  obtain ⟨c1, c2, c3, c4, c5⟩ := need_all hf.wf ha
  generalize neededG L root = out at c1 c2 c3 c4 c5
  have hle := hf.le
  have hsz := hf.sz
  have hchk : checkOf N out = 0 := by
    unfold checkOf
    rw [if_neg (by omega), total_size, if_neg (by rw [total_size] at b4; omega), if_neg (by omega), if_pos]
    rw [goodTo_iff]
    intro i hi
    rw [goodAt_eq _ _ _ hi]
    exact (c1 i out[i] (List.getElem?_eq_getElem hi)).1
  refine ⟨hchk, fun s => ?_, by omega, by rw [total_size, total_size]; omega⟩
  unfold evalOf valOf
  rw [hchk, hc]
  have := c5 s
  rw [hv s] at this
  unfold vals at this
  rw [this]
end Go.Proofs.YtbemhgojfehnjaaDoor
namespace Go.Proofs.YtbemhgojfehnjaaDoor
open Go
/-- Neither false nor true. -/
def livK (L : List Gate) (x : Int) : Prop := kindAt L x ≠ 0 ∧ kindAt L x ≠ 1
structure NfG (L : List Gate) (g : Gate) : Prop where
  k3 : g.kind = 3 → ∀ a, g.inp = [a] → 3 < kindAt L a
  k45 : g.kind = 4 ∨ g.kind = 5 → 2 ≤ g.inp.length ∧ g.inp.Nodup ∧ ∀ x ∈ g.inp, livK L x
  k6 : g.kind = 6 → ∃ l t, g.inp = l ++ t ∧ 2 ≤ l.length ∧ l.Nodup ∧ (∀ x ∈ l, livK L x) ∧ (t = [] ∨ ∃ y, t = [y] ∧ kindAt L y = 1)
  k7 : g.kind = 7 → ∀ a b, g.inp = [a, b] → a ≠ b ∧ livK L a ∧ livK L b
  k8 : g.kind = 8 → ∀ a b c, g.inp = [a, b, c] → livK L a ∧ b ≠ c ∧ ¬ (kindAt L b = 1 ∧ kindAt L c = 0) ∧ ¬ (kindAt L b = 0 ∧ kindAt L c = 1)
/-- A gate that a step adds is in that form. -/
def Nf (L : List Gate) (q : List Gate × Int) : Prop := ∀ g, q.1 = L ++ [g] → NfG L g
section
variable {N : Int} {B : Nat} {L : List Gate}
/-! Such gates are kept. -/
end
end Go.Proofs.YtbemhgojfehnjaaDoor
