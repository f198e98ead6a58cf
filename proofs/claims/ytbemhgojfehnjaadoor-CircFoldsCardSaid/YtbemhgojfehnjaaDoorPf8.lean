/-
  Lemmas and contracts, joined: Rfold Rloose Claw7.
-/
import Derived.Test.YtbemhgojfehnjaaDoorPf7
import Derived.Test.YtbemhgojfehnjaaDoorPf4
import Derived.Test.YtbemhgojfehnjaaDoorPf5
namespace Go.Proofs.YtbemhgojfehnjaaDoor
open Go Go.RowKit
theorem intCs_get {l : List Int} {k : Nat} {x : Int} (h : l[k]? = some x) : (intCs l)[k]? = some (.int .i64 x) := by simp [intCs, h]
theorem FI.start (N : Int) (B : Nat) : FI N B [] [] [] := ⟨fun i g h => by simp at h, ND.nil, rfl, fun j hj => by simp at hj, Nat.le_refl _, Nat.le_refl _⟩
theorem Own.newref {W w0 : World} {L : List En} {f : Nat} (O : Own Z0 w0 W (.blk f 63 #[.slice none 0 0] :: L)) : Own Z0 w0 W (refE f none 0 (fun _ => False) [] [] ++ L) := by
  have O2 : Own Z0 w0 W ([insE (fun _ => False) [] [], .row (.slice none 0 0) 38 3 0 [], .blk f 63 #[.slice none 0 0]] ++ L) := (O.nilrow 38 3).add (Below.refl _ _) (ins_nil W) (fun _ hk => hk.elim)
  have hm : ∀ e ∈ refE f none 0 (fun _ => False) [] [], e ∈ ([insE (fun _ => False) [] [], .row (.slice none 0 0) 38 3 0 [], .blk f 63 #[.slice none 0 0]] : List En) := fun e he => by
    have he' : e ∈ pickL [insE (fun _ => False) [] [], .row (.slice none 0 0) 38 3 0 [], .blk f 63 #[.slice none 0 0]] [2, 1, 0] := he
    obtain ⟨i, _, h2⟩ := pickL_mem he'
    exact List.mem_of_getElem? h2
  exact O2.step (Frame.refl NoB W) (fun _ _ hn => hn.elim) (fun e he => O2.has e (List.mem_append_left _ (hm e he))) (pickL_pw (List.pairwise_append.1 O2.dist).1 (is := [2, 1, 0]) rfl)
    (fun e he k hk => .inl ⟨e, hm e he, hk, fun ho => ⟨e, hm e he, ho, hk⟩⟩)
theorem rfold_ {W : World} {V : Value} {N : Int} {gs : List Gate} (hV : GatesV W W.heap.size V gs) (hsz : sizeOf gs ≤ 4611686018427387904) : Calls Tryd.prog 19 #[.agg #[.int .i64 N, V]] W (FoldPost W N gs) := by
  obtain ⟨A, c, rfl, _, _, _⟩ := id hV
  have O0 : Own Z0 W W [] := Own.start W
  refine sx_enter (args := [.agg #[.int .i64 N, .slice A gs.length c]]) Tryd.func19 rfl rfl (by simp) ?_
  refine cw_seq (fun FK1 K1 => ?_)
  refine cw_region ?_
  obtain ⟨g2, w3, r4, O5, hg6, hs7⟩ := own_box O0 24 (.agg #[.int .i64 N, .slice A gs.length c]) rfl
  refine wl_val (v := .pointer (some ⟨g2, 0, none⟩)) (fun ρ e => r4 ρ _ _ _ _ _ _ (e _ _ rfl)) rfl rfl ?_
  obtain ⟨g8, w9, r10, O11, hg12, hs13⟩ := own_alloc O5 24 ze24 rfl
  refine wl_val (v := .pointer (some ⟨g8, 0, none⟩)) (fun ρ e => r10 ρ _ _ _ _ _) rfl rfl ?_
  refine wl_val (v := .int .i64 0) (fun ρ e => ex_assign (e _ _ rfl)) rfl rfl ?_
  refine wl_nil ?_
  refine xw_next K1 ?_
  refine cw_seq (fun FK14 K14 => ?_)
  refine cw_region ?_
  refine wl_val (v := .agg #[.int .i64 N, .slice A gs.length c]) (fun ρ e => ex_loadN (vs := [.int .i64 N, .slice A gs.length c]) ty24 (e _ _ rfl) rfl (O11.cells 1 0 rfl rfl)) rfl rfl ?_
  refine wl_call (args := [.agg #[.int .i64 N, .slice A gs.length c]]) in_29 rfl rfl rfl ?_
  refine (ref07_check N _ gs _ W.heap.size O11.old.size (hV.below O11.old) hsz).mono ?_
  rintro _ w15 ⟨rfl, hb16⟩
  have O17 : Own Z0 W w15 [.blk g8 24 #[.int .i64 0, .slice none 0 0], .blk g2 24 #[.int .i64 N, .slice A gs.length c]] := O11.below hb16
  refine ⟨_, rfl, ?_⟩
  refine wl_val (v := .int .i64 (checkOf N gs)) (fun ρ e => ex_assign (e _ _ rfl)) rfl rfl ?_
  refine wl_nil ?_
  refine xw_next K14 ?_
  refine cw_seq (fun FK18 K18 => ?_)
  refine cw_seq (fun FK19 K19 => ?_)
  refine cw_region ?_
  refine wl_val (v := .int .i64 (checkOf N gs)) (fun ρ e => ex_move (e _ _ rfl)) rfl rfl ?_
  by_cases c20 : (checkOf N gs) ≠ 0
  · skip
    refine wl_val (v := .bool true) (fun ρ e => ex_cmp (u := (checkOf N gs)) (v := 0) (e _ _ rfl) (e _ _ rfl) (neq1 (by omega))) rfl rfl ?_
    refine wl_nil ?_
    refine xw_next K19 ?_
    refine cw_true rfl ?_
    refine cw_seq (fun FK21 K21 => ?_)
    refine cw_region ?_
    refine wl_val (v := .agg #[.int .i64 0, .slice none 0 0]) (fun ρ e => ex_build (cells := #[.int .i64 0, .slice none 0 0]) st24 (e.parts rfl) rfl) rfl rfl ?_
    refine wl_val (v := .int .i64 (checkOf N gs)) (fun ρ e => ex_move (e _ _ rfl)) rfl rfl ?_
    obtain ⟨w22, r23, O24, hs25⟩ := own_put (o := 0) (n := 2) O17 ty24 (.agg #[.int .i64 0, .slice none 0 0]) [.int .i64 0, .slice none 0 0] (cs' := #[.int .i64 0, .slice none 0 0]) rfl rfl rfl (Nat.le_of_ble_eq_true rfl) rfl
    refine wl_none (fun ρ e => r23 ρ _ _ _ _ _ _ (e _ _ rfl) (e _ _ rfl)) rfl ?_
    refine wl_val (v := .int .i64 (checkOf N gs)) (fun ρ e => ex_assign (e _ _ rfl)) rfl rfl ?_
    refine wl_nil ?_
    refine xw_next K21 ?_
    refine cw_ret ?_
    refine xw_past (by intro h; cases h) ?_
    refine xw_ret (v := .tuple #[.agg #[.int .i64 0, .slice none 0 0], .int .i64 (checkOf N gs)]) (fun T hT => res2c rfl T _ (hT 2 _ rfl) (hT 3 _ rfl) (run_loadN (vs := [.int .i64 0, .slice none 0 0]) ty24 rfl (O24.cells 0 0 rfl rfl))) ?_
    exact .inl ⟨c20, rfl, O24.old⟩
  · skip
    have c0 : checkOf N gs = 0 := by omega
    obtain ⟨hN0, hN1, hgl, hsz2, hg0, hgt⟩ := check_zero c0
    refine wl_val (v := .bool false) (fun ρ e => ex_cmp (u := (checkOf N gs)) (v := 0) (e _ _ rfl) (e _ _ rfl) (neq0 (by omega))) rfl rfl ?_
    refine wl_nil ?_
    refine xw_next K19 ?_
    refine cw_false rfl ?_
    refine cw_skip ?_
    refine xw_next K18 ?_
    refine cw_seq (fun FK26 K26 => ?_)
    refine cw_region ?_
    refine wl_val (v := .agg #[.slice none 0 0]) (fun ρ e => ex_build (cells := #[.slice none 0 0]) st63 (e.parts rfl) rfl) rfl rfl ?_
    obtain ⟨g27, w28, r29, O30, hg31, hs32⟩ := own_box O17 63 (.agg #[.slice none 0 0]) rfl
    refine wl_val (v := .pointer (some ⟨g27, 0, none⟩)) (fun ρ e => r29 ρ _ _ _ _ _ _ (e _ _ rfl)) rfl rfl ?_
    refine wl_val (v := .pointer (some ⟨g27, 0, none⟩)) (fun ρ e => ex_assign (e _ _ rfl)) rfl rfl ?_
    refine wl_nil ?_
    refine xw_next K26 ?_
    refine cw_seq (fun FK33 K33 => ?_)
    refine cw_region ?_
    refine wl_val (v := .slice none 0 0) (fun ρ e => ex_assign (e _ _ rfl)) rfl rfl ?_
    refine wl_nil ?_
    refine xw_next K33 ?_
    refine cw_seq (fun FK34 K34 => ?_)
    refine cw_seq (fun FK35 K35 => ?_)
    refine cw_region ?_
    refine wl_val (v := .int .i64 0) (fun ρ e => ex_assign (e _ _ rfl)) rfl rfl ?_
    refine wl_nil ?_
    refine xw_next K35 ?_
    refine cw_block ?_
    have O36 : Own Z0 W w28 (refE g27 none 0 (fun _ => False) [] [] ++ [.blk g8 24 #[.int .i64 0, .slice none 0 0], .blk g2 24 #[.int .i64 N, .slice A gs.length c]]) := Own.newref O30
    have O37 : Own Z0 W w28 [.row (.slice none 0 0) 3 1 0 (intCs []), .blk g27 63 #[.slice none 0 0], .row (.slice none 0 0) 38 3 0 (gcells [] []), .ro (fun _ => False) (Ins (fun _ => False) [] []), .blk g8 24 #[.int .i64 0, .slice none 0 0], .blk g2 24 #[.int .i64 N, .slice A gs.length c]] := O36.nilrow 3 1
    have O38 : Own Z0 W w28 [.blk g27 63 #[.slice none 0 0], .row (.slice none 0 0) 38 3 0 (gcells [] []), .ro (fun _ => False) (Ins (fun _ => False) [] []), .row (.slice none 0 0) 3 1 0 (intCs []), .blk g8 24 #[.int .i64 0, .slice none 0 0], .blk g2 24 #[.int .i64 N, .slice A gs.length c]] := (O37.re [1, 2, 3, 0, 4, 5] rfl : Own Z0 W w28 [.blk g27 63 #[.slice none 0 0], .row (.slice none 0 0) 38 3 0 (gcells [] []), .ro (fun _ => False) (Ins (fun _ => False) [] []), .row (.slice none 0 0) 3 1 0 (intCs []), .blk g8 24 #[.int .i64 0, .slice none 0 0], .blk g2 24 #[.int .i64 N, .slice A gs.length c]])
    refine cw_loop (ι := Nat × Option Addr × Nat × (Nat → Prop) × List Gate × List Value × Option Addr × Nat × List Int) (fun q => [(1, .pointer (some ⟨g2, 0, none⟩)), (2, .pointer (some ⟨g8, 0, none⟩)), (5, .pointer (some ⟨g27, 0, none⟩)), (6, .slice q.2.2.2.2.2.2.1 q.1 q.2.2.2.2.2.2.2.1), (7, .int .i64 (q.1 : Int))]) (fun q X => (q.1 ≤ gs.length) ∧ (FI N 70000 (gs.take q.1) q.2.2.2.2.1 q.2.2.2.2.2.2.2.2) ∧ (foldGo gs ([], []) = foldGo (gs.drop q.1) (q.2.2.2.2.1, q.2.2.2.2.2.2.2.2)) ∧ Own Z0 W X [.blk g27 63 #[.slice q.2.1 q.2.2.2.2.1.length q.2.2.1], .row (.slice q.2.1 q.2.2.2.2.1.length q.2.2.1) 38 3 q.2.2.2.2.1.length (gcells q.2.2.2.2.1 q.2.2.2.2.2.1), .ro q.2.2.2.1 (Ins q.2.2.2.1 q.2.2.2.2.1 q.2.2.2.2.2.1), .row (.slice q.2.2.2.2.2.2.1 q.1 q.2.2.2.2.2.2.2.1) 3 1 q.1 (intCs q.2.2.2.2.2.2.2.2), .blk g8 24 #[.int .i64 0, .slice none 0 0], .blk g2 24 #[.int .i64 N, .slice A gs.length c]]) (fun q => gs.length - q.1) (0, none, 0, (fun _ => False), [], [], none, 0, []) ⟨Nat.zero_le _, FI.start N 70000, rfl, O38⟩ ⟨rfl, rfl, rfl, rfl, rfl, trivial⟩ (fun q w39 hJ F40 K41 => ?_)
    obtain ⟨i, R, cR, D, L, vs, AF, cF, fd⟩ := q
    obtain ⟨hi0, hFI, hgo, O42⟩ := hJ
    dsimp only at hi0 hFI hgo O42 ⊢
    have hfl : fd.length = i := by rw [hFI.len]; exact List.length_take_of_le hi0
    have hLi : L.length ≤ i := by have := hFI.le; rw [List.length_take_of_le hi0] at this; exact this
    have hwf := hFI.wf
    have hfa := hFI.at_
    rw [List.length_take_of_le hi0] at hfa
    by_cases hk : i < gs.length
    · obtain ⟨bG, oG, AI, cI, hbA, hbB, q0, q1, q2, hIV, hIc, hIm⟩ := hV.at_ (Below.refl _ _) hk
      have hdr : gs.drop i = gs[i] :: gs.drop (i + 1) := List.drop_eq_getElem_cons hk
      have hgi := (goodTo_iff N gs gs.length).1 hgt i hk
      rw [goodAt_eq N gs i hk] at hgi
      have hgp := good_parts hgi
      have hsi := sizeTo_le gs (i + 1)
      rw [sizeTo_succ gs i hk] at hsi
      rw [hdr] at hgo
      refine cw_seq (fun FK43 K43 => ?_)
      refine cw_seq (fun FK44 K44 => ?_)
      refine cw_region ?_
      refine wl_val (v := .int .i64 (i : Int)) (fun ρ e => ex_move (e _ _ rfl)) rfl rfl ?_
      refine wl_val (v := .pointer (some ⟨g2, 1, none⟩)) (fun ρ e => ex_field (q := 1) fi24_1 (e _ _ rfl) rfl) rfl rfl ?_
      refine wl_val (v := .slice A gs.length c) (fun ρ e => ex_load1 ty22 (e _ _ rfl) (O42.cell 5 1 rfl rfl)) rfl rfl ?_
      refine wl_val (v := .int .i64 ((gs.length : Nat) : Int)) (fun ρ e => ex_len el22 (e _ _ rfl)) rfl rfl ?_
      refine wl_val (v := .bool true) (fun ρ e => ex_cmp (u := (i : Int)) (v := ((gs.length : Nat) : Int)) (e _ _ rfl) (e _ _ rfl) (lss1 (by omega))) rfl rfl ?_
      refine wl_nil ?_
      refine xw_next K44 ?_
      refine cw_true rfl ?_
      refine cw_skip ?_
      refine xw_next K43 ?_
      refine cw_seq (fun FK45 K45 => ?_)
      refine cw_block ?_
      refine cw_seq (fun FK46 K46 => ?_)
      refine cw_region ?_
      refine wl_val (v := .slice none 0 0) (fun ρ e => ex_assign (e _ _ rfl)) rfl rfl ?_
      refine wl_nil ?_
      refine xw_next K46 ?_
      refine cw_seq (fun FK47 K47 => ?_)
      refine cw_seq (fun FK48 K48 => ?_)
      refine cw_region ?_
      refine wl_val (v := .int .i64 0) (fun ρ e => ex_assign (e _ _ rfl)) rfl rfl ?_
      refine wl_nil ?_
      refine xw_next K48 ?_
      refine cw_block ?_
      have O49 : Own Z0 W w39 [.row (.slice none 0 0) 3 1 0 (intCs []), .blk g27 63 #[.slice R L.length cR], .row (.slice R L.length cR) 38 3 L.length (gcells L vs), .ro D (Ins D L vs), .row (.slice AF i cF) 3 1 i (intCs fd), .blk g8 24 #[.int .i64 0, .slice none 0 0], .blk g2 24 #[.int .i64 N, .slice A gs.length c]] := O42.nilrow 3 1
      refine cw_loop (ι := Nat × Option Addr × Nat × List Int) (fun q => [(1, .pointer (some ⟨g2, 0, none⟩)), (2, .pointer (some ⟨g8, 0, none⟩)), (5, .pointer (some ⟨g27, 0, none⟩)), (6, .slice AF i cF), (7, .int .i64 (i : Int)), (8, .slice q.2.1 q.1 q.2.2.1), (9, .int .i64 (q.1 : Int))]) (fun q X => (q.1 ≤ gs[i].inp.length) ∧ (q.2.2.2 = (gs[i].inp.take q.1).map (fun k => fd.getD k.toNat 0)) ∧ Own Z0 W X [.row (.slice q.2.1 q.1 q.2.2.1) 3 1 q.1 (intCs q.2.2.2), .blk g27 63 #[.slice R L.length cR], .row (.slice R L.length cR) 38 3 L.length (gcells L vs), .ro D (Ins D L vs), .row (.slice AF i cF) 3 1 i (intCs fd), .blk g8 24 #[.int .i64 0, .slice none 0 0], .blk g2 24 #[.int .i64 N, .slice A gs.length c]]) (fun q => gs[i].inp.length - q.1) (0, none, 0, []) ⟨Nat.zero_le _, rfl, O49⟩ ⟨rfl, rfl, rfl, rfl, rfl, rfl, rfl, trivial⟩ (fun q w50 hJ F51 K52 => ?_)
      obtain ⟨k2, A3, c3, l3⟩ := q
      obtain ⟨hk20, hl3, O53⟩ := hJ
      dsimp only at hk20 hl3 O53 ⊢
      by_cases hk2 : k2 < gs[i].inp.length
      · obtain ⟨x0, hxk, hdr2, hxm⟩ := drop_cons hk2
        have hxr := hgp.2.2 x0 hxm
        obtain ⟨x, rfl⟩ : ∃ n : Nat, x0 = n := ⟨x0.toNat, by omega⟩
        obtain ⟨bI, oI, cJ, hbI⟩ := (IntsD.of_V hIV).form (by omega)
        have hfx : fd[x]? = some (fd.getD (x : Int).toNat 0) := by simp [List.getElem?_eq_getElem (show x < fd.length by omega)]
        obtain ⟨gF, hgF⟩ := O53.rowshape 4 rfl (by omega)
        refine cw_seq (fun FK54 K54 => ?_)
        refine cw_seq (fun FK55 K55 => ?_)
        refine cw_region ?_
        refine wl_val (v := .int .i64 (k2 : Int)) (fun ρ e => ex_move (e _ _ rfl)) rfl rfl ?_
        refine wl_val (v := .pointer (some ⟨g2, 1, none⟩)) (fun ρ e => ex_field (q := 1) fi24_1 (e _ _ rfl) rfl) rfl rfl ?_
        refine wl_val (v := .slice A gs.length c) (fun ρ e => ex_load1 ty22 (e _ _ rfl) (O53.cell 6 1 rfl rfl)) rfl rfl ?_
        refine wl_val (v := .int .i64 (i : Int)) (fun ρ e => ex_move (e _ _ rfl)) rfl rfl ?_
        refine wl_val (v := .pointer (some ⟨bG, oG + i * 3, none⟩)) (fun ρ e => ex_idx (q := oG + i * 3) (g := bG) (o := oG) (i := i) el22 ((e _ _ rfl).trans (congrArg (fun z => Value.slice z gs.length c) hbA)) (e _ _ rfl) hk (by omega)) rfl rfl ?_
        refine wl_val (v := .pointer (some ⟨bG, oG + i * 3 + 2, none⟩)) (fun ρ e => ex_field (q := oG + i * 3 + 2) fi38_2 (e _ _ rfl) rfl) rfl rfl ?_
        refine wl_val (v := .slice AI (gs[i].inp.length) cI) (fun ρ e => ex_load1 ty36 (e _ _ rfl) ((O53.old.cell (p := ⟨bG, oG + i * 3 + 2, none⟩) hbB).trans q2)) rfl rfl ?_
        refine wl_val (v := .int .i64 ((gs[i].inp.length : Nat) : Int)) (fun ρ e => ex_len el36 (e _ _ rfl)) rfl rfl ?_
        refine wl_val (v := .bool true) (fun ρ e => ex_cmp (u := (k2 : Int)) (v := ((gs[i].inp.length : Nat) : Int)) (e _ _ rfl) (e _ _ rfl) (lss1 (by omega))) rfl rfl ?_
        refine wl_nil ?_
        refine xw_next K55 ?_
        refine cw_true rfl ?_
        refine cw_skip ?_
        refine xw_next K54 ?_
        refine cw_seq (fun FK56 K56 => ?_)
        refine cw_block ?_
        refine cw_region ?_
        refine wl_val (v := .slice A3 k2 c3) (fun ρ e => ex_move (e _ _ rfl)) rfl rfl ?_
        refine wl_val (v := .slice AF i cF) (fun ρ e => ex_move (e _ _ rfl)) rfl rfl ?_
        refine wl_val (v := .pointer (some ⟨g2, 1, none⟩)) (fun ρ e => ex_field (q := 1) fi24_1 (e _ _ rfl) rfl) rfl rfl ?_
        refine wl_val (v := .slice A gs.length c) (fun ρ e => ex_load1 ty22 (e _ _ rfl) (O53.cell 6 1 rfl rfl)) rfl rfl ?_
        refine wl_val (v := .int .i64 (i : Int)) (fun ρ e => ex_move (e _ _ rfl)) rfl rfl ?_
        refine wl_val (v := .pointer (some ⟨bG, oG + i * 3, none⟩)) (fun ρ e => ex_idx (q := oG + i * 3) (g := bG) (o := oG) (i := i) el22 ((e _ _ rfl).trans (congrArg (fun z => Value.slice z gs.length c) hbA)) (e _ _ rfl) hk (by omega)) rfl rfl ?_
        refine wl_val (v := .pointer (some ⟨bG, oG + i * 3 + 2, none⟩)) (fun ρ e => ex_field (q := oG + i * 3 + 2) fi38_2 (e _ _ rfl) rfl) rfl rfl ?_
        refine wl_val (v := .slice AI (gs[i].inp.length) cI) (fun ρ e => ex_load1 ty36 (e _ _ rfl) ((O53.old.cell (p := ⟨bG, oG + i * 3 + 2, none⟩) hbB).trans q2)) rfl rfl ?_
        refine wl_val (v := .int .i64 (k2 : Int)) (fun ρ e => ex_move (e _ _ rfl)) rfl rfl ?_
        refine wl_val (v := .pointer (some ⟨bI, oI + k2, none⟩)) (fun ρ e => ex_idx (q := oI + k2) (o := oI) (i := k2) el36 ((e _ _ rfl).trans hbI) (e _ _ rfl) hk2 (by omega)) rfl rfl ?_
        refine wl_val (v := .int .i64 (x : Int)) (fun ρ e => ex_load1 ty3 (e _ _ rfl) (((hIV.below O53.old).at1 hbI hk2 hxk))) rfl rfl ?_
        refine wl_val (v := .pointer (some ⟨gF, x, none⟩)) (fun ρ e => ex_idx (q := x) (g := gF) (o := 0) (i := x) el36 ((e _ _ rfl).trans (congrArg (fun z => Value.slice z i cF) hgF)) (e _ _ rfl) (by omega) (by omega)) rfl rfl ?_
        refine wl_val (v := .int .i64 (fd.getD (x : Int).toNat 0)) (fun ρ e => ex_load1 ty3 (e _ _ rfl) (rowcell (hgF ▸ (O53.row 4 rfl) : World.ownsRow _ 0 3 1 (.slice (some ⟨gF, 0, none⟩) i cF) i (intCs fd)) (j := x) (intCs_get hfx))) rfl rfl ?_
        obtain ⟨g57, w58, r59, O60, hg61, hs62⟩ := own_slice O53 el36 ze3 1 [(0, .int .i64 (fd.getD (x : Int).toNat 0))] (cs := #[.int .i64 (fd.getD (x : Int).toNat 0)]) (by decide) (by kernel_rfl)
        refine wl_val (v := .slice (some ⟨g57, 0, none⟩) 1 1) (fun ρ e => r59 ρ _ _ _ _ _ _ (e.parts rfl)) rfl rfl ?_
        obtain ⟨A63, c64, w65, r66, O67, hz68, hc69⟩ := own_app1 (O60.re [1, 0, 2, 3, 4, 5, 6, 7] rfl : Own Z0 W w58 [.row (.slice A3 k2 c3) 3 1 k2 (intCs l3), .blk g57 3 #[.int .i64 (fd.getD (x : Int).toNat 0)], .blk g27 63 #[.slice R L.length cR], .row (.slice R L.length cR) 38 3 L.length (gcells L vs), .ro D (Ins D L vs), .row (.slice AF i cF) 3 1 i (intCs fd), .blk g8 24 #[.int .i64 0, .slice none 0 0], .blk g2 24 #[.int .i64 N, .slice A gs.length c]]) ap36 ((O60.re [1, 0, 2, 3, 4, 5, 6, 7] rfl : Own Z0 W w58 [.row (.slice A3 k2 c3) 3 1 k2 (intCs l3), .blk g57 3 #[.int .i64 (fd.getD (x : Int).toNat 0)], .blk g27 63 #[.slice R L.length cR], .row (.slice R L.length cR) 38 3 L.length (gcells L vs), .ro D (Ins D L vs), .row (.slice AF i cF) 3 1 i (intCs fd), .blk g8 24 #[.int .i64 0, .slice none 0 0], .blk g2 24 #[.int .i64 N, .slice A gs.length c]]).blk 1 rfl) (cells := [.int .i64 (fd.getD (x : Int).toNat 0)]) rfl rfl (by omega) (by omega) (ys := (intCs (l3 ++ [fd.getD (x : Int).toNat 0]))) (intCs_snoc l3 _)
        refine wl_val (v := .slice A63 (k2 + 1) c64) (fun ρ e => r66 ρ _ _ _ _ _ _ _ (e _ _ rfl) (e _ _ rfl)) rfl rfl ?_
        refine wl_val (v := .slice A63 (k2 + 1) c64) (fun ρ e => ex_assign (e _ _ rfl)) rfl rfl ?_
        refine wl_nil ?_
        refine xw_block ?_
        refine xw_next K56 ?_
        refine cw_region ?_
        refine wl_val (v := .int .i64 (k2 : Int)) (fun ρ e => ex_move (e _ _ rfl)) rfl rfl ?_
        refine wl_val (v := .int .i64 ((k2 + 1 : Nat) : Int)) (fun ρ e => ex_arith (k := .i64) (u := (k2 : Int)) (v := 1) (e _ _ rfl) (e _ _ rfl) (congrArg some ((congrArg _ (by omega)).trans (wrap_in (u := ((k2 + 1 : Nat) : Int)) (by omega) (by omega))))) rfl rfl ?_
        refine wl_val (v := .int .i64 ((k2 + 1 : Nat) : Int)) (fun ρ e => ex_assign (e _ _ rfl)) rfl rfl ?_
        refine wl_nil ?_
        refine xw_round K52 (k2 + 1, A63, c64, (l3 ++ [fd.getD (x : Int).toNat 0])) (by show gs[i].inp.length - (k2 + 1) < gs[i].inp.length - k2; omega) ⟨(by show k2 + 1 ≤ _; omega), (by show l3 ++ [_] = (gs[i].inp.take (k2 + 1)).map _; rw [hl3, take_more hxk, List.map_append]; rfl), (O67.re [0, 2, 3, 4, 5, 6, 7] rfl : Own Z0 W w65 [.row (.slice A63 (k2 + 1) c64) 3 1 (k2 + 1) (intCs (l3 ++ [fd.getD (x : Int).toNat 0])), .blk g27 63 #[.slice R L.length cR], .row (.slice R L.length cR) 38 3 L.length (gcells L vs), .ro D (Ins D L vs), .row (.slice AF i cF) 3 1 i (intCs fd), .blk g8 24 #[.int .i64 0, .slice none 0 0], .blk g2 24 #[.int .i64 N, .slice A gs.length c]])⟩ ⟨rfl, rfl, rfl, rfl, rfl, rfl, rfl, trivial⟩
      · have hke : k2 = gs[i].inp.length := by omega
        have hke2 := hl3
        rw [hke, List.take_length] at hke2
        subst hke2
        refine cw_seq (fun FK70 K70 => ?_)
        refine cw_seq (fun FK71 K71 => ?_)
        refine cw_region ?_
        refine wl_val (v := .int .i64 (k2 : Int)) (fun ρ e => ex_move (e _ _ rfl)) rfl rfl ?_
        refine wl_val (v := .pointer (some ⟨g2, 1, none⟩)) (fun ρ e => ex_field (q := 1) fi24_1 (e _ _ rfl) rfl) rfl rfl ?_
        refine wl_val (v := .slice A gs.length c) (fun ρ e => ex_load1 ty22 (e _ _ rfl) (O53.cell 6 1 rfl rfl)) rfl rfl ?_
        refine wl_val (v := .int .i64 (i : Int)) (fun ρ e => ex_move (e _ _ rfl)) rfl rfl ?_
        refine wl_val (v := .pointer (some ⟨bG, oG + i * 3, none⟩)) (fun ρ e => ex_idx (q := oG + i * 3) (g := bG) (o := oG) (i := i) el22 ((e _ _ rfl).trans (congrArg (fun z => Value.slice z gs.length c) hbA)) (e _ _ rfl) hk (by omega)) rfl rfl ?_
        refine wl_val (v := .pointer (some ⟨bG, oG + i * 3 + 2, none⟩)) (fun ρ e => ex_field (q := oG + i * 3 + 2) fi38_2 (e _ _ rfl) rfl) rfl rfl ?_
        refine wl_val (v := .slice AI (gs[i].inp.length) cI) (fun ρ e => ex_load1 ty36 (e _ _ rfl) ((O53.old.cell (p := ⟨bG, oG + i * 3 + 2, none⟩) hbB).trans q2)) rfl rfl ?_
        refine wl_val (v := .int .i64 ((gs[i].inp.length : Nat) : Int)) (fun ρ e => ex_len el36 (e _ _ rfl)) rfl rfl ?_
        refine wl_val (v := .bool false) (fun ρ e => ex_cmp (u := (k2 : Int)) (v := ((gs[i].inp.length : Nat) : Int)) (e _ _ rfl) (e _ _ rfl) (lss0 (by omega))) rfl rfl ?_
        refine wl_nil ?_
        refine xw_next K71 ?_
        refine cw_false rfl ?_
        refine cw_exit ?_
        refine xw_past (by intro h; cases h) ?_
        refine xw_past (by intro h; cases h) ?_
        refine xw_here ?_
        refine xw_next K47 ?_
        refine cw_region ?_
        refine wl_val (v := .slice AF i cF) (fun ρ e => ex_move (e _ _ rfl)) rfl rfl ?_
        refine wl_val (v := .pointer (some ⟨g27, 0, none⟩)) (fun ρ e => ex_move (e _ _ rfl)) rfl rfl ?_
        refine wl_val (v := .pointer (some ⟨g2, 1, none⟩)) (fun ρ e => ex_field (q := 1) fi24_1 (e _ _ rfl) rfl) rfl rfl ?_
        refine wl_val (v := .slice A gs.length c) (fun ρ e => ex_load1 ty22 (e _ _ rfl) (O53.cell 6 1 rfl rfl)) rfl rfl ?_
        refine wl_val (v := .int .i64 (i : Int)) (fun ρ e => ex_move (e _ _ rfl)) rfl rfl ?_
        refine wl_val (v := .pointer (some ⟨bG, oG + i * 3, none⟩)) (fun ρ e => ex_idx (q := oG + i * 3) (g := bG) (o := oG) (i := i) el22 ((e _ _ rfl).trans (congrArg (fun z => Value.slice z gs.length c) hbA)) (e _ _ rfl) hk (by omega)) rfl rfl ?_
        refine wl_val (v := .agg #[.int .i64 (gs[i].kind), .int .i64 (gs[i].lit), .slice AI (gs[i].inp.length) cI]) (fun ρ e => ex_loadN (vs := [.int .i64 (gs[i].kind), .int .i64 (gs[i].lit), .slice AI (gs[i].inp.length) cI]) ty38 (e _ _ rfl) rfl (cells3 ((O53.old.cell (p := ⟨bG, oG + i * 3, none⟩) hbB).trans q0) ((O53.old.cell (p := ⟨bG, oG + i * 3 + 1, none⟩) hbB).trans q1) ((O53.old.cell (p := ⟨bG, oG + i * 3 + 2, none⟩) hbB).trans q2))) rfl rfl ?_
        refine wl_val (v := .slice A3 k2 c3) (fun ρ e => ex_move (e _ _ rfl)) rfl rfl ?_
        refine wl_call (args := [.pointer (some ⟨g27, 0, none⟩), .agg #[.int .i64 (gs[i].kind), .int .i64 (gs[i].lit), .slice AI (gs[i].inp.length) cI], .slice A3 k2 c3]) in_41 rfl rfl rfl ?_
        have O72 : Own Z0 W w50 [.ro (fun k => (Value.ownBlock (.slice A3 k2 c3)) = some k) (fun w => IntsD (fun k => (Value.ownBlock (.slice A3 k2 c3)) = some k) w (.slice A3 k2 c3) (gs[i].inp.map (fun k => fd.getD k.toNat 0))), .blk g27 63 #[.slice R L.length cR], .row (.slice R L.length cR) 38 3 L.length (gcells L vs), .ro D (Ins D L vs), .row (.slice AF i cF) 3 1 i (intCs fd), .blk g8 24 #[.int .i64 0, .slice none 0 0], .blk g2 24 #[.int .i64 N, .slice A gs.length c]] := Own.rowin (l := (gs[i].inp.map (fun k => fd.getD k.toNat 0))) O53
        have hinr : ∀ x ∈ (gs[i].inp.map (fun k => fd.getD k.toNat 0)), inR L x := by
          intro x hx
          obtain ⟨z, hz, rfl⟩ := List.mem_map.1 hx
          have := hgp.2.2 z hz
          exact (hfa z.toNat (by omega)).1
        have hgi2 : goodGate N ((gs.take i).length : Int) gs[i] = true := by rw [List.length_take_of_le hi0]; exact hgi
        have hF2 := fold_one (by decide) hFI hgi2 (by omega)
        have hst := hF2.le
        rw [List.length_append, List.length_take_of_le hi0, List.length_singleton] at hst
        have hcall := rgate_ (GV := .slice AI (gs[i].inp.length) cI) (Own.hand (A := (refE g27 R cR D L vs ++ [inE (fun k => (Value.ownBlock (.slice A3 k2 c3)) = some k) (.slice A3 k2 c3) (gs[i].inp.map (fun k => fd.getD k.toNat 0))])) (R := [.row (.slice AF i cF) 3 1 i (intCs fd), .blk g8 24 #[.int .i64 0, .slice none 0 0], .blk g2 24 #[.int .i64 N, .slice A gs.length c]]) (O72.re [1, 2, 3, 0, 4, 5, 6] rfl : Own Z0 W w50 [.blk g27 63 #[.slice R L.length cR], .row (.slice R L.length cR) 38 3 L.length (gcells L vs), .ro D (Ins D L vs), .ro (fun k => (Value.ownBlock (.slice A3 k2 c3)) = some k) (fun w => IntsD (fun k => (Value.ownBlock (.slice A3 k2 c3)) = some k) w (.slice A3 k2 c3) (gs[i].inp.map (fun k => fd.getD k.toNat 0))), .row (.slice AF i cF) 3 1 i (intCs fd), .blk g8 24 #[.int .i64 0, .slice none 0 0], .blk g2 24 #[.int .i64 N, .slice A gs.length c]])) hwf hFI.nd hgi (by simp) hinr (by simp; omega) (by decide) (by omega)
        simp only [foldGo] at hgo
        obtain ⟨q9, hq9⟩ : ∃ q, stepG L gs[i] (gs[i].inp.map (fun k => fd.getD k.toNat 0)) = q := ⟨_, rfl⟩
        rw [hq9] at hcall hF2 hst hgo
        refine (RPost.use (A := (refE g27 R cR D L vs ++ [inE (fun k => (Value.ownBlock (.slice A3 k2 c3)) = some k) (.slice A3 k2 c3) (gs[i].inp.map (fun k => fd.getD k.toNat 0))])) (rest := [.row (.slice AF i cF) 3 1 i (intCs fd), .blk g8 24 #[.int .i64 0, .slice none 0 0], .blk g2 24 #[.int .i64 N, .slice A gs.length c]]) (O72.re [1, 2, 3, 0, 4, 5, 6] rfl : Own Z0 W w50 [.blk g27 63 #[.slice R L.length cR], .row (.slice R L.length cR) 38 3 L.length (gcells L vs), .ro D (Ins D L vs), .ro (fun k => (Value.ownBlock (.slice A3 k2 c3)) = some k) (fun w => IntsD (fun k => (Value.ownBlock (.slice A3 k2 c3)) = some k) w (.slice A3 k2 c3) (gs[i].inp.map (fun k => fd.getD k.toNat 0))), .row (.slice AF i cF) 3 1 i (intCs fd), .blk g8 24 #[.int .i64 0, .slice none 0 0], .blk g2 24 #[.int .i64 N, .slice A gs.length c]]) hcall).mono ?_
        rintro _ w73 ⟨R74, c75, D76, vs77, rfl, O78⟩
        refine ⟨_, rfl, ?_⟩
        obtain ⟨g79, w80, r81, O82, hg83, hs84⟩ := own_slice O78 el36 ze3 1 [(0, .int .i64 ((q9).2))] (cs := #[.int .i64 ((q9).2)]) (by decide) (by kernel_rfl)
        refine wl_val (v := .slice (some ⟨g79, 0, none⟩) 1 1) (fun ρ e => r81 ρ _ _ _ _ _ _ (e.parts rfl)) rfl rfl ?_
        obtain ⟨A85, c86, w87, r88, O89, hz90, hc91⟩ := own_app1 (O82.re [4, 0, 1, 2, 3, 5, 6] rfl : Own Z0 W w80 [.row (.slice AF i cF) 3 1 i (intCs fd), .blk g79 3 #[.int .i64 ((q9).2)], .blk g27 63 #[.slice R74 (((q9).1).length) c75], .row (.slice R74 (((q9).1).length) c75) 38 3 (((q9).1).length) (gcells ((q9).1) vs77), .ro D76 (Ins D76 ((q9).1) vs77), .blk g8 24 #[.int .i64 0, .slice none 0 0], .blk g2 24 #[.int .i64 N, .slice A gs.length c]]) ap36 ((O82.re [4, 0, 1, 2, 3, 5, 6] rfl : Own Z0 W w80 [.row (.slice AF i cF) 3 1 i (intCs fd), .blk g79 3 #[.int .i64 ((q9).2)], .blk g27 63 #[.slice R74 (((q9).1).length) c75], .row (.slice R74 (((q9).1).length) c75) 38 3 (((q9).1).length) (gcells ((q9).1) vs77), .ro D76 (Ins D76 ((q9).1) vs77), .blk g8 24 #[.int .i64 0, .slice none 0 0], .blk g2 24 #[.int .i64 N, .slice A gs.length c]]).blk 1 rfl) (cells := [.int .i64 ((q9).2)]) rfl rfl (by omega) (by omega) (ys := (intCs (fd ++ [q9.2]))) (intCs_snoc fd _)
        refine wl_val (v := .slice A85 (i + 1) c86) (fun ρ e => r88 ρ _ _ _ _ _ _ _ (e _ _ rfl) (e _ _ rfl)) rfl rfl ?_
        refine wl_val (v := .slice A85 (i + 1) c86) (fun ρ e => ex_assign (e _ _ rfl)) rfl rfl ?_
        refine wl_nil ?_
        refine xw_block ?_
        refine xw_next K45 ?_
        refine cw_region ?_
        refine wl_val (v := .int .i64 (i : Int)) (fun ρ e => ex_move (e _ _ rfl)) rfl rfl ?_
        refine wl_val (v := .int .i64 ((i + 1 : Nat) : Int)) (fun ρ e => ex_arith (k := .i64) (u := (i : Int)) (v := 1) (e _ _ rfl) (e _ _ rfl) (congrArg some ((congrArg _ (by omega)).trans (wrap_in (u := ((i + 1 : Nat) : Int)) (by omega) (by omega))))) rfl rfl ?_
        refine wl_val (v := .int .i64 ((i + 1 : Nat) : Int)) (fun ρ e => ex_assign (e _ _ rfl)) rfl rfl ?_
        refine wl_nil ?_
        rw [← take_more (List.getElem?_eq_getElem hk)] at hF2
        refine xw_round K41 (i + 1, R74, c75, D76, q9.1, vs77, A85, c86, (fd ++ [q9.2])) (by show gs.length - (i + 1) < gs.length - i; omega) ⟨(by show i + 1 ≤ _; omega), hF2, hgo, (O89.re [2, 3, 4, 0, 5, 6] rfl : Own Z0 W w87 [.blk g27 63 #[.slice R74 (((q9).1).length) c75], .row (.slice R74 (((q9).1).length) c75) 38 3 (((q9).1).length) (gcells ((q9).1) vs77), .ro D76 (Ins D76 ((q9).1) vs77), .row (.slice A85 (i + 1) c86) 3 1 (i + 1) (intCs (fd ++ [q9.2])), .blk g8 24 #[.int .i64 0, .slice none 0 0], .blk g2 24 #[.int .i64 N, .slice A gs.length c]])⟩ ⟨rfl, rfl, rfl, rfl, rfl, trivial⟩
    · have hie : i = gs.length := by omega
      rw [List.drop_eq_nil_of_le (by omega)] at hgo
      simp only [foldGo] at hgo
      have hrtr := (hfa (gs.length - 1) (by omega)).1
      obtain ⟨rt0, hrt0⟩ : ∃ r, fd.getD (gs.length - 1) 0 = r := ⟨_, rfl⟩
      rw [hrt0] at hrtr
      obtain ⟨rt, rfl⟩ : ∃ n : Nat, rt0 = n := ⟨rt0.toNat, by have := hrtr.1; omega⟩
      have hrtg : fd[i - 1]? = some (rt : Int) := by rw [← hrt0, hie, List.getD_eq_getElem?_getD, List.getElem?_eq_getElem (show gs.length - 1 < fd.length by omega)]; rfl
      have hrtl : rt < L.length := by have := hrtr.2; omega
      obtain ⟨gF, hgF⟩ := O42.rowshape 3 rfl (by omega)
      refine cw_seq (fun FK92 K92 => ?_)
      refine cw_seq (fun FK93 K93 => ?_)
      refine cw_region ?_
      refine wl_val (v := .int .i64 (i : Int)) (fun ρ e => ex_move (e _ _ rfl)) rfl rfl ?_
      refine wl_val (v := .pointer (some ⟨g2, 1, none⟩)) (fun ρ e => ex_field (q := 1) fi24_1 (e _ _ rfl) rfl) rfl rfl ?_
      refine wl_val (v := .slice A gs.length c) (fun ρ e => ex_load1 ty22 (e _ _ rfl) (O42.cell 5 1 rfl rfl)) rfl rfl ?_
      refine wl_val (v := .int .i64 ((gs.length : Nat) : Int)) (fun ρ e => ex_len el22 (e _ _ rfl)) rfl rfl ?_
      refine wl_val (v := .bool false) (fun ρ e => ex_cmp (u := (i : Int)) (v := ((gs.length : Nat) : Int)) (e _ _ rfl) (e _ _ rfl) (lss0 (by omega))) rfl rfl ?_
      refine wl_nil ?_
      refine xw_next K93 ?_
      refine cw_false rfl ?_
      refine cw_exit ?_
      refine xw_past (by intro h; cases h) ?_
      refine xw_past (by intro h; cases h) ?_
      refine xw_here ?_
      refine xw_next K34 ?_
      refine cw_seq (fun FK94 K94 => ?_)
      refine cw_drawn (fun X => Own Z0 W X [.blk g27 63 #[.slice R L.length cR], .row (.slice R L.length cR) 38 3 L.length (gcells L vs), .ro D (Ins D L vs), .row (.slice AF i cF) 3 1 i (intCs fd), .blk g8 24 #[.int .i64 0, .slice none 0 0], .blk g2 24 #[.int .i64 N, .slice A gs.length c]]) 14 [(0, 1), (1, 0), (2, 1), (3, 1), (4, 1), (5, 0), (6, 1), (7, 1), (8, 1), (9, 1), (10, 1), (11, 0), (12, 2), (13, 1), (14, 3), (15, 3)] (by kernel_rfl) (by kernel_rfl) (PQ.then_ PQ.body) (O42).drew ?_
      have O95 : Own Z0 W w39.drew [.blk g27 63 #[.slice R L.length cR], .row (.slice R L.length cR) 38 3 L.length (gcells L vs), .ro D (Ins D L vs), .row (.slice AF i cF) 3 1 i (intCs fd), .blk g8 24 #[.int .i64 0, .slice none 0 0], .blk g2 24 #[.int .i64 N, .slice A gs.length c]] := O42.drew
      refine wt1 (v := .pointer (some ⟨g2, 0, none⟩)) rfl (fun ρ e W => ex_field (q := 0) fi24_0 (e _ _ rfl) rfl) rfl rfl ?_
      refine wt0 (v := .int .i64 N) rfl (fun ρ e W hW => ex_load1 ty3 (e _ _ rfl) (hW.cell 5 0 rfl rfl)) rfl rfl ?_
      refine wt1 (v := .pointer (some ⟨g27, 0, none⟩)) rfl (fun ρ e W => ex_move (e _ _ rfl)) rfl rfl ?_
      refine wt1 (v := .pointer (some ⟨g27, 0, none⟩)) rfl (fun ρ e W => ex_nil (e _ _ rfl)) rfl rfl ?_
      refine wt1 (v := .pointer (some ⟨g27, 0, none⟩)) rfl (fun ρ e W => ex_field (q := 0) fi63_0 (e _ _ rfl) rfl) rfl rfl ?_
      refine wt0 (v := .slice R L.length cR) rfl (fun ρ e W hW => ex_load1 ty22 (e _ _ rfl) (hW.cell 0 0 rfl rfl)) rfl rfl ?_
      refine wt1 (v := .slice AF i cF) rfl (fun ρ e W => ex_move (e _ _ rfl)) rfl rfl ?_
      refine wt1 (v := .slice AF i cF) rfl (fun ρ e W => ex_move (e _ _ rfl)) rfl rfl ?_
      refine wt1 (v := .int .i64 (i : Int)) rfl (fun ρ e W => ex_len el36 (e _ _ rfl)) rfl rfl ?_
      refine wt1 (v := .int .i64 ((i - 1 : Nat) : Int)) rfl (fun ρ e W => ex_arith (k := .i64) (u := (i : Int)) (v := 1) (e _ _ rfl) (e _ _ rfl) (congrArg some ((congrArg _ (by omega)).trans (wrap_in (u := ((i - 1 : Nat) : Int)) (by omega) (by omega))))) rfl rfl ?_
      refine wt1 (v := .pointer (some ⟨gF, i - 1, none⟩)) rfl (fun ρ e W => ex_idx (q := i - 1) (g := gF) (o := 0) (i := i - 1) el36 ((e _ _ rfl).trans (congrArg (fun z => Value.slice z i cF) hgF)) (e _ _ rfl) (by omega) (by omega)) rfl rfl ?_
      refine wt0 (v := .int .i64 (rt : Int)) rfl (fun ρ e W hW => ex_load1 ty3 (e _ _ rfl) (rowcell (hgF ▸ (hW.row 3 rfl) : World.ownsRow _ 0 3 1 (.slice (some ⟨gF, 0, none⟩) i cF) i (intCs fd)) (j := i - 1) (intCs_get hrtg))) rfl rfl ?_
      refine wt2_call (args := [.slice R L.length cR, .int .i64 (rt : Int)]) rfl in_42 rfl rfl rfl ?_
      refine (rneeded_ (O95.row 1 rfl) (O95.ro 2 rfl) (O95.get 2 rfl).2.1 hwf (by decide) (by omega) hrtl).mono ?_
      rintro _ w100 ⟨A96, c97, D98, vo99, rfl, h101, hd102⟩
      have hd102s := O95.old.size
      have O103 : Own Z0 W w100 [.row (.slice A96 ((neededG L (rt : Int)).length) c97) 38 3 ((neededG L (rt : Int)).length) (gcells (neededG L (rt : Int)) vo99), .ro D98 (OwnIns D98 (neededG L (rt : Int)) vo99), .blk g27 63 #[.slice R L.length cR], .row (.slice R L.length cR) 38 3 L.length (gcells L vs), .ro D (Ins D L vs), .row (.slice AF i cF) 3 1 i (intCs fd), .blk g8 24 #[.int .i64 0, .slice none 0 0], .blk g2 24 #[.int .i64 N, .slice A gs.length c]] := Own.joinr O95 h101 (fun e he => by rcases List.mem_cons.1 he with rfl | he; exact .inl trivial; exact .inr (by rw [List.mem_singleton.1 he]; exact hd102))
      refine ⟨_, rfl, (O103.re [2, 3, 4, 5, 6, 7] rfl : Own Z0 W w100 [.blk g27 63 #[.slice R L.length cR], .row (.slice R L.length cR) 38 3 L.length (gcells L vs), .ro D (Ins D L vs), .row (.slice AF i cF) 3 1 i (intCs fd), .blk g8 24 #[.int .i64 0, .slice none 0 0], .blk g2 24 #[.int .i64 N, .slice A gs.length c]]), ?_⟩
      refine wt1 (v := .agg #[.int .i64 N, .slice A96 ((neededG L (rt : Int)).length) c97]) rfl (fun ρ e W => ex_build (cells := #[.int .i64 N, .slice A96 ((neededG L (rt : Int)).length) c97]) st24 (e.parts rfl) rfl) rfl rfl ?_
      obtain ⟨w104, r105, O106, hs107⟩ := own_put (o := 0) (n := 2) (O103.re [6, 0, 1, 2, 3, 4, 5, 7] rfl : Own Z0 W w100 [.blk g8 24 #[.int .i64 0, .slice none 0 0], .row (.slice A96 ((neededG L (rt : Int)).length) c97) 38 3 ((neededG L (rt : Int)).length) (gcells (neededG L (rt : Int)) vo99), .ro D98 (OwnIns D98 (neededG L (rt : Int)) vo99), .blk g27 63 #[.slice R L.length cR], .row (.slice R L.length cR) 38 3 L.length (gcells L vs), .ro D (Ins D L vs), .row (.slice AF i cF) 3 1 i (intCs fd), .blk g2 24 #[.int .i64 N, .slice A gs.length c]]) ty24 (.agg #[.int .i64 N, .slice A96 ((neededG L (rt : Int)).length) c97]) [.int .i64 N, .slice A96 ((neededG L (rt : Int)).length) c97] (cs' := #[.int .i64 N, .slice A96 ((neededG L (rt : Int)).length) c97]) rfl rfl rfl (Nat.le_of_ble_eq_true rfl) rfl
      refine wt3_none rfl (fun ρ e => r105 ρ _ _ _ _ _ _ (e _ _ rfl) (e _ _ rfl)) rfl ?_
      refine wt3 (v := .int .i64 0) rfl (fun ρ e => ex_assign (e _ _ rfl)) rfl rfl ?_
      refine wt_nil ?_
      refine xw_next K94 ?_
      refine cw_ret ?_
      refine xw_ret (v := .tuple #[.agg #[.int .i64 N, .slice A96 ((neededG L (rt : Int)).length) c97], .int .i64 0]) (fun T hT => res2c rfl T _ (hT 2 _ rfl) (hT 3 _ rfl) (run_loadN (vs := [.int .i64 N, .slice A96 ((neededG L (rt : Int)).length) c97]) ty24 rfl (O106.cells 0 0 rfl rfl))) ?_
      have hfo : foldOf gs = neededG L (rt : Int) := by unfold foldOf; rw [hgo]; simp only; rw [show fd.length = gs.length by omega, hrt0]
      refine .inr ⟨c0, ?_⟩
      rw [hfo]
      exact ⟨A96, c97, D98, vo99, rfl, (O106.re [1, 2] rfl : Own Z0 W w104 [.row (.slice A96 ((neededG L (rt : Int)).length) c97) 38 3 ((neededG L (rt : Int)).length) (gcells (neededG L (rt : Int)) vo99), .ro D98 (OwnIns D98 (neededG L (rt : Int)) vo99)]), fun k hk => Nat.le_trans hd102s (hd102 k hk)⟩
end Go.Proofs.YtbemhgojfehnjaaDoor
namespace Go.Proofs.YtbemhgojfehnjaaDoor
open Go Go.RowKit
/-- Gates that lie in the block rg and their inputs in the blocks of T; what the numbers are is not told. -/
structure Loose (T : Nat → Prop) (rg : Nat) (gs : List Gate) (vs : List Value) (X : World) : Prop where
  rg_ : T rg
  row : ∃ cs, Blk X rg 38 cs ∧ gs.length * 3 ≤ cs.size ∧ ∀ (i : Nat) (v : Value), i < gs.length → vs[i]? = some v → cs[i * 3 + 2]? = some v
  elt : ∀ (i : Nat) (h : i < gs.length) (v : Value), vs[i]? = some v → ∃ A c, v = .slice A gs[i].inp.length c ∧ (0 < gs[i].inp.length → ∃ b cs, A = some ⟨b, 0, none⟩ ∧ T b ∧ b ≠ rg ∧ Blk X b 3 cs ∧ gs[i].inp.length ≤ cs.size)
section
variable {T : Nat → Prop} {rg : Nat} {gs : List Gate} {vs : List Value} {X : World}
theorem Loose.move (h : Loose T rg gs vs X) {X' : World} (hk : ∀ k, T k → X'.heap[k]? = X.heap[k]?) : Loose T rg gs vs X' := by
  refine ⟨h.rg_, ?_, fun i hi v hv => ?_⟩
  · obtain ⟨cs, h1, h2⟩ := h.row
    exact ⟨cs, (hk rg h.rg_).trans h1, h2⟩
  · obtain ⟨A, c, e, q⟩ := h.elt i hi v hv
    refine ⟨A, c, e, fun hp => ?_⟩
    obtain ⟨b, cs, h1, h2, h3, h4, h5⟩ := q hp
    exact ⟨b, cs, h1, h2, h3, (hk b h2).trans h4, h5⟩
theorem Loose.putK (h : Loose T rg gs vs X) (i : Nat) (u : Value) : Loose T rg gs vs (X.setCell ⟨rg, i * 3, none⟩ u) := by
  refine ⟨h.rg_, ?_, fun j hj v hv => ?_⟩
  · obtain ⟨cs, h1, h2, h3⟩ := h.row
    refine ⟨_, h1.put (i * 3) u, by simpa using h2, fun j v hj hv => ?_⟩
    rw [Array.getElem?_setIfInBounds_ne (by omega)]
    exact h3 j v hj hv
  · obtain ⟨A, c, e, q⟩ := h.elt j hj v hv
    refine ⟨A, c, e, fun hp => ?_⟩
    obtain ⟨b, cs, h1, h2, h3, h4, h5⟩ := q hp
    exact ⟨b, cs, h1, h2, h3, h4.far h3 u, h5⟩
theorem Loose.putE (h : Loose T rg gs vs X) {b : Nat} (hb : b ≠ rg) (k : Nat) (u : Value) : Loose T rg gs vs (X.setCell ⟨b, k, none⟩ u) := by
  refine ⟨h.rg_, ?_, fun j hj v hv => ?_⟩
  · obtain ⟨cs, h1, h2⟩ := h.row
    exact ⟨cs, h1.far (fun e => hb e.symm) u, h2⟩
  · obtain ⟨A, c, e, q⟩ := h.elt j hj v hv
    refine ⟨A, c, e, fun hp => ?_⟩
    obtain ⟨b', cs, h1, h2, h3, h4, h5⟩ := q hp
    by_cases hbb : b' = b
    · subst hbb
      exact ⟨b', _, h1, h2, h3, h4.put k u, by simpa using h5⟩
    · exact ⟨b', cs, h1, h2, h3, h4.far hbb u, h5⟩
theorem Loose.start {D : Nat → Prop} {n c : Nat} (hr : X.ownsRow 0 38 3 (.slice (some ⟨rg, 0, none⟩) n c) n (gcells gs vs)) (hI : OwnIns D gs vs X) (hn : n = gs.length) (hD : ∀ k, D k → k ≠ rg) : Loose (fun k => k = rg ∨ D k) rg gs vs X := by
  refine ⟨.inl rfl, ?_, fun i hi v hv => ?_⟩
  · rcases hr.2 with ⟨h1, _⟩ | ⟨g, cap, cur, h1, _, hg, _, _, h3, h4⟩
    · cases h1
    · injection h1 with h1 _ _
      injection h1 with h1
      injection h1 with h1 _ _
      subst h1
      refine ⟨cur, hg, ?_, fun i v hi hv => ?_⟩
      · have := congrArg List.length h4
        have h5 : (gcells gs vs).length = gs.length * 3 := gcells_len _ _ hI.1
        rw [List.length_take, h5] at this
        simp at this
        omega
      · have h6 := (gcells_get (List.getElem?_eq_getElem hi) hv).2.2
        rw [← h4, List.getElem?_take_of_lt (by omega)] at h6
        simpa using h6
  · obtain ⟨h1, h2⟩ := hI.2 i _ v (List.getElem?_eq_getElem hi) hv
    rcases h1.2 with ⟨rfl, h3⟩ | ⟨g, cap, cur, rfl, _, hg, _, _, h5, h6⟩
    · exact ⟨none, 0, by rw [h3], fun hp => absurd hp (by omega)⟩
    · refine ⟨_, cap, rfl, fun _ => ⟨g, cur, rfl, .inr (h2 g rfl), hD g (h2 g rfl), hg, ?_⟩⟩
      have := congrArg List.length h6
      simp [intCs] at this
      omega
/-- A block that nothing tells of is written. -/
theorem Own.wild {w0 W : World} {L : List En} (h : Own Z0 w0 W L) {g : Nat} (i : Nat) (u : Value) (hg : w0.heap.size ≤ g) (hd : ∀ e ∈ L, ¬ e.dom g) : Own Z0 w0 (W.setCell ⟨g, i, none⟩ u) L := by
  have fr := Frame.put W g i u
  refine ⟨h.fr.trans fr (fun k hk e => by subst e; omega), fun e he => ?_, h.dist, h.free⟩
  exact En.move (h.has e he) fr.size (fun k hk => fr.block k (En.lt (h.has e he) hk) (fun hT => by subst hT; exact hd e he hk))
end
section
variable {ρ : Operand → Value} {d : Option Tmp} {x y : Operand} {t : TypeId} {pos : String} {aft : Array Edge} {gd : Option (Nat × Bool)} {w : World}
theorem ex_setInt {p : Addr} {u : Int} {u0 : Value} (hx : ρ x = .pointer (some p)) (hy : ρ y = .int .i64 u) (h : w.cell? p = some u0) (hf : w.frozen? p = false) : (execOp ρ ⟨d, .store 3 x y, t, pos, aft, gd⟩).run Tryd.prog w = .ok .skip (w.setCell p (.int .i64 u)) := by
  simp [go_sem, hx, hy, h, hf]
end
end Go.Proofs.YtbemhgojfehnjaaDoor
namespace Go.Proofs.YtbemhgojfehnjaaDoor
open Go Go.RowKit
theorem circFolds_ok {W : World} {V : Value} {N : Int} {gs : List Gate} (hV : GatesV W W.heap.size V gs) (tab : Tab W) : Calls Tryd.prog 4 #[.agg #[.int .i64 N, V]] W fun e w' => e = .returned (.bool true) ∧ Below W.heap.size W w' := by
  obtain ⟨A, c, rfl, hAc, hcm, _⟩ := id hV
  have hmx : maxLen = 9223372036854775807 := rfl
  cases hl : lightOf N gs
  · skip
    have O0 : Own Z0 W W [] := Own.start W
    refine sx_enter (args := [.agg #[.int .i64 N, .slice A gs.length c]]) Tryd.func4 rfl rfl (by simp) ?_
    refine cw_seq (fun FK1 K1 => ?_)
    refine cw_region ?_
    obtain ⟨g2, w3, r4, O5, hg6, hs7⟩ := own_box O0 24 (.agg #[.int .i64 N, .slice A gs.length c]) rfl
    refine wl_val (v := .pointer (some ⟨g2, 0, none⟩)) (fun ρ e => r4 ρ _ _ _ _ _ _ (e _ _ rfl)) rfl rfl ?_
    refine wl_val (v := .bool false) (fun ρ e => ex_assign (e _ _ rfl)) rfl rfl ?_
    refine wl_nil ?_
    refine xw_next K1 ?_
    refine cw_seq (fun FK8 K8 => ?_)
    refine cw_seq (fun FK9 K9 => ?_)
    refine cw_region ?_
    refine wl_val (v := .agg #[.int .i64 N, .slice A gs.length c]) (fun ρ e => ex_loadN (vs := [.int .i64 N, .slice A gs.length c]) ty24 (e _ _ rfl) rfl (O5.cells 0 0 rfl rfl)) rfl rfl ?_
    refine wl_call (args := [.agg #[.int .i64 N, .slice A gs.length c]]) in_13 rfl rfl rfl ?_
    have h13 := light_ (N := N) (gs := gs) ((hV.below O5.old).more O5.old.size)
    rw [hl] at h13
    refine h13.mono ?_
    rintro _ w10 ⟨rfl, hb11⟩
    have O12 : Own Z0 W w10 [.blk g2 24 #[.int .i64 N, .slice A gs.length c]] := O5.below hb11
    refine ⟨_, rfl, ?_⟩
    refine wl_val (v := .bool true) (fun ρ e => ex_lnot (b := false) (e _ _ rfl)) rfl rfl ?_
    refine wl_nil ?_
    refine xw_next K9 ?_
    refine cw_true rfl ?_
    refine cw_seq (fun FK14 K14 => ?_)
    refine cw_region ?_
    refine wl_call (args := []) in_14 rfl rfl rfl ?_
    refine (works_ (tab.below (Nat.le_refl _) O12.old)).mono ?_
    rintro _ w15 ⟨rfl, hb16⟩
    have O17 : Own Z0 W w15 [.blk g2 24 #[.int .i64 N, .slice A gs.length c]] := O12.below hb16
    refine ⟨_, rfl, ?_⟩
    refine wl_val (v := .bool true) (fun ρ e => ex_assign (e _ _ rfl)) rfl rfl ?_
    refine wl_nil ?_
    refine xw_next K14 ?_
    refine cw_ret ?_
    refine xw_past (by intro h; cases h) ?_
    refine xw_ret (v := .bool true) (fun T hT => res1 rfl T _ (hT 2 _ rfl)) ?_
    exact ⟨rfl, O17.old⟩
  · skip
    have hlt := light_true hl
    have hsz := light_size (N := N) hlt.1 hlt.2
    have hsh : shortG gs := fun g hg => by have := hlt.2 g hg; omega
    have hgl := hlt.1
    have O0 : Own Z0 W W [] := Own.start W
    refine sx_enter (args := [.agg #[.int .i64 N, .slice A gs.length c]]) Tryd.func4 rfl rfl (by simp) ?_
    refine cw_seq (fun FK1 K1 => ?_)
    refine cw_region ?_
    obtain ⟨g2, w3, r4, O5, hg6, hs7⟩ := own_box O0 24 (.agg #[.int .i64 N, .slice A gs.length c]) rfl
    refine wl_val (v := .pointer (some ⟨g2, 0, none⟩)) (fun ρ e => r4 ρ _ _ _ _ _ _ (e _ _ rfl)) rfl rfl ?_
    refine wl_val (v := .bool false) (fun ρ e => ex_assign (e _ _ rfl)) rfl rfl ?_
    refine wl_nil ?_
    refine xw_next K1 ?_
    refine cw_seq (fun FK8 K8 => ?_)
    refine cw_seq (fun FK9 K9 => ?_)
    refine cw_region ?_
    refine wl_val (v := .agg #[.int .i64 N, .slice A gs.length c]) (fun ρ e => ex_loadN (vs := [.int .i64 N, .slice A gs.length c]) ty24 (e _ _ rfl) rfl (O5.cells 0 0 rfl rfl)) rfl rfl ?_
    refine wl_call (args := [.agg #[.int .i64 N, .slice A gs.length c]]) in_13 rfl rfl rfl ?_
    have h13 := light_ (N := N) (gs := gs) ((hV.below O5.old).more O5.old.size)
    rw [hl] at h13
    refine h13.mono ?_
    rintro _ w10 ⟨rfl, hb11⟩
    have O12 : Own Z0 W w10 [.blk g2 24 #[.int .i64 N, .slice A gs.length c]] := O5.below hb11
    refine ⟨_, rfl, ?_⟩
    refine wl_val (v := .bool false) (fun ρ e => ex_lnot (b := true) (e _ _ rfl)) rfl rfl ?_
    refine wl_nil ?_
    refine xw_next K9 ?_
    refine cw_false rfl ?_
    refine cw_skip ?_
    refine xw_next K8 ?_
    refine cw_seq (fun FK14 K14 => ?_)
    refine cw_region ?_
    refine wl_val (v := .agg #[.int .i64 N, .slice A gs.length c]) (fun ρ e => ex_loadN (vs := [.int .i64 N, .slice A gs.length c]) ty24 (e _ _ rfl) rfl (O12.cells 0 0 rfl rfl)) rfl rfl ?_
    refine wl_call (args := [.agg #[.int .i64 N, .slice A gs.length c]]) in_16 rfl rfl rfl ?_
    refine (copy_ (N := N) (gs := gs) ((hV.below O12.old).more O12.old.size) (fun g hg => by have := hlt.2 g hg; omega) (by omega)).mono ?_
    rintro _ w19 ⟨A15, c16, D17, vs18, rfl, h20, hd21⟩
    have O22 : Own Z0 W w19 [.row (.slice A15 gs.length c16) 38 3 gs.length (gcells gs vs18), .ro D17 (OwnIns D17 gs vs18), .blk g2 24 #[.int .i64 N, .slice A gs.length c]] := Own.joinr O12 h20 (fun e he => by rcases List.mem_cons.1 he with rfl | he; exact .inl trivial; exact .inr (by rw [List.mem_singleton.1 he]; exact hd21))
    refine ⟨_, rfl, ?_⟩
    obtain ⟨g23, w24, r25, O26, hg27, hs28⟩ := own_alloc O22 24 ze24 rfl
    refine wl_val (v := .pointer (some ⟨g23, 0, none⟩)) (fun ρ e => r25 ρ _ _ _ _ _) rfl rfl ?_
    obtain ⟨w29, r30, O31, hs32⟩ := own_put (o := 0) (n := 2) O26 ty24 (.agg #[.int .i64 N, .slice A15 gs.length c16]) [.int .i64 N, .slice A15 gs.length c16] (cs' := #[.int .i64 N, .slice A15 gs.length c16]) rfl rfl rfl (Nat.le_of_ble_eq_true rfl) rfl
    refine wl_none (fun ρ e => r30 ρ _ _ _ _ _ _ (e _ _ rfl) (e _ _ rfl)) rfl ?_
    refine wl_nil ?_
    refine xw_next K14 ?_
    refine cw_seq (fun FK33 K33 => ?_)
    refine cw_region ?_
    refine wl_val (v := .agg #[.int .i64 N, .slice A15 gs.length c16]) (fun ρ e => ex_loadN (vs := [.int .i64 N, .slice A15 gs.length c16]) ty24 (e _ _ rfl) rfl (O31.cells 0 0 rfl rfl)) rfl rfl ?_
    have h34 := fold_ (N := N) (gates_of_own (O31.row 1 rfl) (O31.ro 2 rfl) (O31.get 2 rfl).2.1) hsz (tab.below (Nat.le_refl _) O31.old)
    by_cases c35 : checkOf N gs = 0
    · skip
      have hc := c35
      obtain ⟨hc2, _, hle, hsl⟩ := fold_sem hc
      have hpos : 0 < (foldOf gs).length := (check_zero hc2).2.2.2.2.1
      have hlen := foldOf_len hc
      refine wl_call (args := [.agg #[.int .i64 N, .slice A15 gs.length c16]]) in_18 rfl rfl rfl ?_
      refine h34.mono ?_
      intro _ w36 hq
      obtain ⟨_, A37, c38, D39, vo40, rfl, ho41, hd42⟩ := hq.resolve_left (fun z => z.1 hc)
      have hsep : ∀ k, D39 k → ¬ D17 k := fun k h1 h2 => by have := hd42 k h1; have := (O31.get 2 rfl).2.1 k h2; omega
      have hnew : ∀ k, D39 k → W.heap.size ≤ k := fun k h1 => Nat.le_trans O31.old.size (hd42 k h1)
      have O43 : Own Z0 W w36 [.row (.slice A37 ((foldOf gs).length) c38) 38 3 ((foldOf gs).length) (gcells (foldOf gs) vo40), .ro D39 (OwnIns D39 (foldOf gs) vo40), .blk g23 24 #[.int .i64 N, .slice A15 gs.length c16], .row (.slice A15 gs.length c16) 38 3 gs.length (gcells gs vs18), .ro D17 (OwnIns D17 gs vs18), .blk g2 24 #[.int .i64 N, .slice A gs.length c]] := Own.joinr O31 ho41 (fun e he => by rcases List.mem_cons.1 he with rfl | he; exact .inl trivial; exact .inr (by rw [List.mem_singleton.1 he]; exact hd42))
      refine ⟨_, rfl, ?_⟩
      refine wl_val (v := .tuple #[.agg #[.int .i64 N, .slice A37 ((foldOf gs).length) c38], .int .i64 0]) (fun ρ e => ex_move (e _ _ rfl)) rfl rfl ?_
      refine wl_val (v := .agg #[.int .i64 N, .slice A37 ((foldOf gs).length) c38]) (fun ρ e => ex_extract (vs := #[.agg #[.int .i64 N, .slice A37 ((foldOf gs).length) c38], .int .i64 0]) (e _ _ rfl) rfl) rfl rfl ?_
      refine wl_val (v := .int .i64 0) (fun ρ e => ex_extract (vs := #[.agg #[.int .i64 N, .slice A37 ((foldOf gs).length) c38], .int .i64 0]) (e _ _ rfl) rfl) rfl rfl ?_
      obtain ⟨g44, w45, r46, O47, hg48, hs49⟩ := own_alloc O43 24 ze24 rfl
      refine wl_val (v := .pointer (some ⟨g44, 0, none⟩)) (fun ρ e => r46 ρ _ _ _ _ _) rfl rfl ?_
      obtain ⟨w50, r51, O52, hs53⟩ := own_put (o := 0) (n := 2) O47 ty24 (.agg #[.int .i64 N, .slice A37 ((foldOf gs).length) c38]) [.int .i64 N, .slice A37 ((foldOf gs).length) c38] (cs' := #[.int .i64 N, .slice A37 ((foldOf gs).length) c38]) rfl rfl rfl (Nat.le_of_ble_eq_true rfl) rfl
      refine wl_none (fun ρ e => r51 ρ _ _ _ _ _ _ (e _ _ rfl) (e _ _ rfl)) rfl ?_
      refine wl_val (v := .int .i64 0) (fun ρ e => ex_assign (e _ _ rfl)) rfl rfl ?_
      refine wl_nil ?_
      refine xw_next K33 ?_
      refine cw_seq (fun FK54 K54 => ?_)
      refine cw_region ?_
      refine wl_val (v := .agg #[.int .i64 N, .slice A gs.length c]) (fun ρ e => ex_loadN (vs := [.int .i64 N, .slice A gs.length c]) ty24 (e _ _ rfl) rfl (O52.cells 6 0 rfl rfl)) rfl rfl ?_
      refine wl_call (args := [.agg #[.int .i64 N, .slice A gs.length c]]) in_19 rfl rfl rfl ?_
      have h55 := rfold_ (N := N) ((hV.below O52.old).more O52.old.size) hsz
      refine h55.mono ?_
      intro _ w56 hq
      obtain ⟨_, A57, c58, D59, vo60, rfl, ho61, hd62⟩ := hq.resolve_left (fun z => z.1 hc)
      have O63 : Own Z0 W w56 [.row (.slice A57 ((foldOf gs).length) c58) 38 3 ((foldOf gs).length) (gcells (foldOf gs) vo60), .ro D59 (OwnIns D59 (foldOf gs) vo60), .blk g44 24 #[.int .i64 N, .slice A37 ((foldOf gs).length) c38], .row (.slice A37 ((foldOf gs).length) c38) 38 3 ((foldOf gs).length) (gcells (foldOf gs) vo40), .ro D39 (OwnIns D39 (foldOf gs) vo40), .blk g23 24 #[.int .i64 N, .slice A15 gs.length c16], .row (.slice A15 gs.length c16) 38 3 gs.length (gcells gs vs18), .ro D17 (OwnIns D17 gs vs18), .blk g2 24 #[.int .i64 N, .slice A gs.length c]] := Own.joinr O52 ho61 (fun e he => by rcases List.mem_cons.1 he with rfl | he; exact .inl trivial; exact .inr (by rw [List.mem_singleton.1 he]; exact hd62))
      refine ⟨_, rfl, ?_⟩
      refine wl_val (v := .tuple #[.agg #[.int .i64 N, .slice A57 ((foldOf gs).length) c58], .int .i64 0]) (fun ρ e => ex_move (e _ _ rfl)) rfl rfl ?_
      refine wl_val (v := .agg #[.int .i64 N, .slice A57 ((foldOf gs).length) c58]) (fun ρ e => ex_extract (vs := #[.agg #[.int .i64 N, .slice A57 ((foldOf gs).length) c58], .int .i64 0]) (e _ _ rfl) rfl) rfl rfl ?_
      refine wl_val (v := .int .i64 0) (fun ρ e => ex_extract (vs := #[.agg #[.int .i64 N, .slice A57 ((foldOf gs).length) c58], .int .i64 0]) (e _ _ rfl) rfl) rfl rfl ?_
      obtain ⟨g64, w65, r66, O67, hg68, hs69⟩ := own_alloc O63 24 ze24 rfl
      refine wl_val (v := .pointer (some ⟨g64, 0, none⟩)) (fun ρ e => r66 ρ _ _ _ _ _) rfl rfl ?_
      obtain ⟨w70, r71, O72, hs73⟩ := own_put (o := 0) (n := 2) O67 ty24 (.agg #[.int .i64 N, .slice A57 ((foldOf gs).length) c58]) [.int .i64 N, .slice A57 ((foldOf gs).length) c58] (cs' := #[.int .i64 N, .slice A57 ((foldOf gs).length) c58]) rfl rfl rfl (Nat.le_of_ble_eq_true rfl) rfl
      refine wl_none (fun ρ e => r71 ρ _ _ _ _ _ _ (e _ _ rfl) (e _ _ rfl)) rfl ?_
      refine wl_val (v := .int .i64 0) (fun ρ e => ex_assign (e _ _ rfl)) rfl rfl ?_
      refine wl_nil ?_
      refine xw_next K54 ?_
      refine cw_seq (fun FK74 K74 => ?_)
      refine cw_seq (fun FK75 K75 => ?_)
      refine cw_region ?_
      refine wl_val (v := .int .i64 0) (fun ρ e => ex_move (e _ _ rfl)) rfl rfl ?_
      refine wl_val (v := .int .i64 0) (fun ρ e => ex_move (e _ _ rfl)) rfl rfl ?_
      refine wl_val (v := .bool false) (fun ρ e => ex_cmp (u := 0) (v := 0) (e _ _ rfl) (e _ _ rfl) (neq0 (by omega))) rfl rfl ?_
      refine wl_val (v := .bool false) (fun ρ e => ex_move (e _ _ rfl)) rfl rfl ?_
      refine wl_val (v := .agg #[.int .i64 N, .slice A37 ((foldOf gs).length) c38]) (fun ρ e => ex_loadN (vs := [.int .i64 N, .slice A37 ((foldOf gs).length) c38]) ty24 (e _ _ rfl) rfl (O72.cells 3 0 rfl rfl)) rfl rfl ?_
      refine wl_val (v := .agg #[.int .i64 N, .slice A57 ((foldOf gs).length) c58]) (fun ρ e => ex_loadN (vs := [.int .i64 N, .slice A57 ((foldOf gs).length) c58]) ty24 (e _ _ rfl) rfl (O72.cells 0 0 rfl rfl)) rfl rfl ?_
      refine wl_call (args := [.agg #[.int .i64 N, .slice A37 ((foldOf gs).length) c38], .agg #[.int .i64 N, .slice A57 ((foldOf gs).length) c58]]) in_20 rfl rfl rfl ?_
      have h79 := rcsame_ (N := N) (M := N) (gates_of_own (O72.row 4 rfl) (O72.ro 5 rfl) (O72.get 5 rfl).2.1) (gates_of_own (O72.row 1 rfl) (O72.ro 2 rfl) (O72.get 2 rfl).2.1) (foldOf_short hc) (foldOf_short hc) hlen hlen
      rw [decide_eq_true (show N = N ∧ (foldOf gs) = (foldOf gs) from ⟨rfl, rfl⟩)] at h79
      refine h79.mono ?_
      rintro _ w76 ⟨rfl, hb77⟩
      have O78 : Own Z0 W w76 [.blk g64 24 #[.int .i64 N, .slice A57 ((foldOf gs).length) c58], .row (.slice A57 ((foldOf gs).length) c58) 38 3 ((foldOf gs).length) (gcells (foldOf gs) vo60), .ro D59 (OwnIns D59 (foldOf gs) vo60), .blk g44 24 #[.int .i64 N, .slice A37 ((foldOf gs).length) c38], .row (.slice A37 ((foldOf gs).length) c38) 38 3 ((foldOf gs).length) (gcells (foldOf gs) vo40), .ro D39 (OwnIns D39 (foldOf gs) vo40), .blk g23 24 #[.int .i64 N, .slice A15 gs.length c16], .row (.slice A15 gs.length c16) 38 3 gs.length (gcells gs vs18), .ro D17 (OwnIns D17 gs vs18), .blk g2 24 #[.int .i64 N, .slice A gs.length c]] := O72.below hb77
      refine ⟨_, rfl, ?_⟩
      refine wl_val (v := .bool false) (fun ρ e => ex_lnot (b := true) (e _ _ rfl)) rfl rfl ?_
      refine wl_val (v := .bool false) (fun ρ e => ex_pick0 (e _ _ rfl) (e _ _ rfl)) rfl rfl ?_
      refine wl_val (v := .bool false) (fun ρ e => ex_move (e _ _ rfl)) rfl rfl ?_
      refine wl_val (v := .agg #[.int .i64 N, .slice A15 gs.length c16]) (fun ρ e => ex_loadN (vs := [.int .i64 N, .slice A15 gs.length c16]) ty24 (e _ _ rfl) rfl (O78.cells 6 0 rfl rfl)) rfl rfl ?_
      refine wl_val (v := .agg #[.int .i64 N, .slice A gs.length c]) (fun ρ e => ex_loadN (vs := [.int .i64 N, .slice A gs.length c]) ty24 (e _ _ rfl) rfl (O78.cells 9 0 rfl rfl)) rfl rfl ?_
      refine wl_call (args := [.agg #[.int .i64 N, .slice A15 gs.length c16], .agg #[.int .i64 N, .slice A gs.length c]]) in_20 rfl rfl rfl ?_
      have h83 := rcsame_ (N := N) (M := N) (gates_of_own (O78.row 7 rfl) (O78.ro 8 rfl) (O78.get 8 rfl).2.1) ((hV.below O78.old).more O78.old.size) hsh hsh (by omega) (by omega)
      rw [decide_eq_true (show N = N ∧ gs = gs from ⟨rfl, rfl⟩)] at h83
      refine h83.mono ?_
      rintro _ w80 ⟨rfl, hb81⟩
      have O82 : Own Z0 W w80 [.blk g64 24 #[.int .i64 N, .slice A57 ((foldOf gs).length) c58], .row (.slice A57 ((foldOf gs).length) c58) 38 3 ((foldOf gs).length) (gcells (foldOf gs) vo60), .ro D59 (OwnIns D59 (foldOf gs) vo60), .blk g44 24 #[.int .i64 N, .slice A37 ((foldOf gs).length) c38], .row (.slice A37 ((foldOf gs).length) c38) 38 3 ((foldOf gs).length) (gcells (foldOf gs) vo40), .ro D39 (OwnIns D39 (foldOf gs) vo40), .blk g23 24 #[.int .i64 N, .slice A15 gs.length c16], .row (.slice A15 gs.length c16) 38 3 gs.length (gcells gs vs18), .ro D17 (OwnIns D17 gs vs18), .blk g2 24 #[.int .i64 N, .slice A gs.length c]] := O78.below hb81
      refine ⟨_, rfl, ?_⟩
      refine wl_val (v := .bool false) (fun ρ e => ex_lnot (b := true) (e _ _ rfl)) rfl rfl ?_
      refine wl_val (v := .bool false) (fun ρ e => ex_pick0 (e _ _ rfl) (e _ _ rfl)) rfl rfl ?_
      refine wl_nil ?_
      refine xw_next K75 ?_
      refine cw_false rfl ?_
      refine cw_skip ?_
      refine xw_next K74 ?_
      refine cw_seq (fun FK84 K84 => ?_)
      refine cw_seq (fun FK85 K85 => ?_)
      refine cw_region ?_
      refine wl_val (v := .pointer (some ⟨g44, 1, none⟩)) (fun ρ e => ex_field (q := 1) fi24_1 (e _ _ rfl) rfl) rfl rfl ?_
      refine wl_val (v := .slice A37 ((foldOf gs).length) c38) (fun ρ e => ex_load1 ty22 (e _ _ rfl) (O82.cell 3 1 rfl rfl)) rfl rfl ?_
      refine wl_val (v := .int .i64 (((foldOf gs).length : Nat) : Int)) (fun ρ e => ex_len el22 (e _ _ rfl)) rfl rfl ?_
      refine wl_val (v := .int .i64 0) (fun ρ e => ex_move (e _ _ rfl)) rfl rfl ?_
      refine wl_nil ?_
      refine xw_next K85 ?_
      refine cw_block ?_
      obtain ⟨rg, hrg⟩ := O82.rowshape 4 rfl hpos
      have O86 := (O82.re [4, 5, 0, 3, 6, 9, 7, 8] rfl : Own Z0 W w80 [.row (.slice A37 ((foldOf gs).length) c38) 38 3 ((foldOf gs).length) (gcells (foldOf gs) vo40), .ro D39 (OwnIns D39 (foldOf gs) vo40), .blk g64 24 #[.int .i64 N, .slice A57 ((foldOf gs).length) c58], .blk g44 24 #[.int .i64 N, .slice A37 ((foldOf gs).length) c38], .blk g23 24 #[.int .i64 N, .slice A15 gs.length c16], .blk g2 24 #[.int .i64 N, .slice A gs.length c], .row (.slice A15 gs.length c16) 38 3 gs.length (gcells gs vs18), .ro D17 (OwnIns D17 gs vs18)])
      have hDr : ∀ k, D39 k → k ≠ rg := fun k h1 h2 => pw_get O86.dist (i := 0) (j := 1) rfl rfl (by decide) (.inl trivial) k (by rw [hrg, h2]; rfl) h1
      have hlo0 : Loose (fun k => k = rg ∨ D39 k) rg (foldOf gs) vo40 w80 := Loose.start (hrg ▸ O86.row 0 rfl) (O86.ro 1 rfl) rfl hDr
      have hTn : ∀ k, (fun k => k = rg ∨ D39 k) k → W.heap.size ≤ k := fun k hk => hk.elim (fun q => q ▸ O86.rownew 0 rfl rg (by rw [hrg]; rfl)) (hnew k)
      have hTd : ∀ k, (fun k => k = rg ∨ D39 k) k → ∀ e ∈ ([.blk g64 24 #[.int .i64 N, .slice A57 ((foldOf gs).length) c58], .blk g44 24 #[.int .i64 N, .slice A37 ((foldOf gs).length) c38], .blk g23 24 #[.int .i64 N, .slice A15 gs.length c16], .blk g2 24 #[.int .i64 N, .slice A gs.length c], .row (.slice A15 gs.length c16) 38 3 gs.length (gcells gs vs18), .ro D17 (OwnIns D17 gs vs18)] : List En), ¬ e.dom k := by
        intro k hk e he h
        rcases hk with q | q
        · have h0 := (List.pairwise_cons.1 O86.dist).1 e (List.mem_cons_of_mem _ he) (.inl trivial) k (by rw [hrg, q]; rfl) h
          exact h0
        · have h1 := (List.pairwise_cons.1 (List.pairwise_cons.1 O86.dist).2).1 e he
          rcases List.mem_cons.1 he with rfl | he
          · exact h1 (.inr trivial) k q h
          rcases List.mem_cons.1 he with rfl | he
          · exact h1 (.inr trivial) k q h
          rcases List.mem_cons.1 he with rfl | he
          · exact h1 (.inr trivial) k q h
          rcases List.mem_cons.1 he with rfl | he
          · exact h1 (.inr trivial) k q h
          rcases List.mem_cons.1 he with rfl | he
          · exact h1 (.inr trivial) k q h
          rcases List.mem_cons.1 he with rfl | he
          · exact hsep k q h
          exact absurd he List.not_mem_nil
      have O87 : Own Z0 W w80 [.blk g64 24 #[.int .i64 N, .slice A57 ((foldOf gs).length) c58], .blk g44 24 #[.int .i64 N, .slice A37 ((foldOf gs).length) c38], .blk g23 24 #[.int .i64 N, .slice A15 gs.length c16], .blk g2 24 #[.int .i64 N, .slice A gs.length c], .row (.slice A15 gs.length c16) 38 3 gs.length (gcells gs vs18), .ro D17 (OwnIns D17 gs vs18)] := (O82.re [0, 3, 6, 9, 7, 8] rfl : Own Z0 W w80 [.blk g64 24 #[.int .i64 N, .slice A57 ((foldOf gs).length) c58], .blk g44 24 #[.int .i64 N, .slice A37 ((foldOf gs).length) c38], .blk g23 24 #[.int .i64 N, .slice A15 gs.length c16], .blk g2 24 #[.int .i64 N, .slice A gs.length c], .row (.slice A15 gs.length c16) 38 3 gs.length (gcells gs vs18), .ro D17 (OwnIns D17 gs vs18)])
      have hvl : (foldOf gs).length = vo40.length := (O86.ro 1 rfl : OwnIns D39 (foldOf gs) vo40 _).1
      refine cw_loop (ι := Nat) (fun q => [(1, .pointer (some ⟨g2, 0, none⟩)), (3, .pointer (some ⟨g23, 0, none⟩)), (4, .pointer (some ⟨g44, 0, none⟩)), (43, .int .i64 (((foldOf gs).length : Nat) : Int)), (44, .int .i64 (q : Int))]) (fun q X => (q ≤ (foldOf gs).length) ∧ (Loose (fun k => k = rg ∨ D39 k) rg (foldOf gs) vo40 X) ∧ Own Z0 W X [.blk g64 24 #[.int .i64 N, .slice A57 ((foldOf gs).length) c58], .blk g44 24 #[.int .i64 N, .slice A37 ((foldOf gs).length) c38], .blk g23 24 #[.int .i64 N, .slice A15 gs.length c16], .blk g2 24 #[.int .i64 N, .slice A gs.length c], .row (.slice A15 gs.length c16) 38 3 gs.length (gcells gs vs18), .ro D17 (OwnIns D17 gs vs18)]) (fun q => (foldOf gs).length - q) 0 ⟨Nat.zero_le _, hlo0, O87⟩ ⟨rfl, rfl, rfl, rfl, rfl, trivial⟩ (fun q w88 hJ F89 K90 => ?_)
      obtain ⟨i, rfl⟩ : ∃ x, x = q := ⟨_, rfl⟩
      obtain ⟨hi0, hlo, O91⟩ := hJ
      try dsimp only at hi0 hlo O91 ⊢
      by_cases hk : i < (foldOf gs).length
      · obtain ⟨cs, hcs, hcz, hcv⟩ := hlo.row
        obtain ⟨vi, hvi⟩ : ∃ v, vo40[i]? = some v := ⟨_, List.getElem?_eq_getElem (show i < vo40.length by have := hvl; omega)⟩
        obtain ⟨AE, cE, rfl, hE⟩ := hlo.elt i hk vi hvi
        have hsh2 := foldOf_short hc _ (List.getElem_mem hk)
        refine cw_seq (fun FK92 K92 => ?_)
        refine cw_region ?_
        refine wl_val (v := .bool true) (fun ρ e => ex_cmp (u := (i : Int)) (v := (((foldOf gs).length : Nat) : Int)) (e _ _ rfl) (e _ _ rfl) (lss1 (by omega))) rfl rfl ?_
        refine wl_nil ?_
        refine xw_next K92 ?_
        refine cw_seq (fun FK93 K93 => ?_)
        refine cw_true rfl ?_
        refine cw_skip ?_
        refine xw_next K93 ?_
        refine cw_seq (fun FK94 K94 => ?_)
        refine cw_block ?_
        refine cw_seq (fun FK95 K95 => ?_)
        refine cw_region ?_
        refine wl_val (v := .int .i64 (i : Int)) (fun ρ e => ex_move (e _ _ rfl)) rfl rfl ?_
        refine wl_val (v := .int .i64 (i : Int)) (fun ρ e => ex_assign (e _ _ rfl)) rfl rfl ?_
        refine wl_nil ?_
        refine xw_next K95 ?_
        refine cw_seq (fun FK96 K96 => ?_)
        refine cw_seq (fun FK97 K97 => ?_)
        refine cw_region ?_
        refine wl_val (v := .pointer (some ⟨g44, 1, none⟩)) (fun ρ e => ex_field (q := 1) fi24_1 (e _ _ rfl) rfl) rfl rfl ?_
        refine wl_val (v := .slice A37 ((foldOf gs).length) c38) (fun ρ e => ex_load1 ty22 (e _ _ rfl) (O91.cell 1 1 rfl rfl)) rfl rfl ?_
        refine wl_val (v := .int .i64 (i : Int)) (fun ρ e => ex_move (e _ _ rfl)) rfl rfl ?_
        refine wl_val (v := .pointer (some ⟨rg, i * 3, none⟩)) (fun ρ e => ex_idx (q := i * 3) (o := 0) (g := rg) (i := i) el22 ((e _ _ rfl).trans (congrArg (fun z => Value.slice z _ _) hrg)) (e _ _ rfl) hk (by omega)) rfl rfl ?_
        refine wl_val (v := .pointer (some ⟨rg, i * 3 + 2, none⟩)) (fun ρ e => ex_field (q := i * 3 + 2) fi38_2 (e _ _ rfl) rfl) rfl rfl ?_
        refine wl_val (v := .slice AE ((foldOf gs)[i].inp.length) cE) (fun ρ e => ex_load1 ty36 (e _ _ rfl) ((hcs.cell (i * 3 + 2)).trans (hcv i _ hk hvi))) rfl rfl ?_
        refine wl_val (v := .int .i64 (((foldOf gs)[i].inp.length : Nat) : Int)) (fun ρ e => ex_len el36 (e _ _ rfl)) rfl rfl ?_
        refine wl_val (v := .int .i64 0) (fun ρ e => ex_move (e _ _ rfl)) rfl rfl ?_
        refine wl_nil ?_
        refine xw_next K97 ?_
        refine cw_block ?_
        refine cw_loop (ι := Nat) (fun q => [(1, .pointer (some ⟨g2, 0, none⟩)), (3, .pointer (some ⟨g23, 0, none⟩)), (4, .pointer (some ⟨g44, 0, none⟩)), (8, .int .i64 (i : Int)), (43, .int .i64 (((foldOf gs).length : Nat) : Int)), (44, .int .i64 (i : Int)), (53, .int .i64 (((foldOf gs)[i].inp.length : Nat) : Int)), (54, .int .i64 (q : Int))]) (fun q X => (q ≤ (foldOf gs)[i].inp.length) ∧ (Loose (fun k => k = rg ∨ D39 k) rg (foldOf gs) vo40 X) ∧ Own Z0 W X [.blk g64 24 #[.int .i64 N, .slice A57 ((foldOf gs).length) c58], .blk g44 24 #[.int .i64 N, .slice A37 ((foldOf gs).length) c38], .blk g23 24 #[.int .i64 N, .slice A15 gs.length c16], .blk g2 24 #[.int .i64 N, .slice A gs.length c], .row (.slice A15 gs.length c16) 38 3 gs.length (gcells gs vs18), .ro D17 (OwnIns D17 gs vs18)]) (fun q => (foldOf gs)[i].inp.length - q) 0 ⟨Nat.zero_le _, hlo, O91⟩ ⟨rfl, rfl, rfl, rfl, rfl, rfl, rfl, rfl, trivial⟩ (fun q w98 hJ F99 K100 => ?_)
        obtain ⟨k2, rfl⟩ : ∃ x, x = q := ⟨_, rfl⟩
        obtain ⟨hk20, hlo, O101⟩ := hJ
        try dsimp only at hk20 hlo O101 ⊢
        by_cases hk2 : k2 < (foldOf gs)[i].inp.length
        · obtain ⟨cs, hcs, hcz, hcv⟩ := hlo.row
          obtain ⟨AE, cE, hve, hE⟩ := hlo.elt i hk _ hvi
          injection hve with h1 _ h2
          subst h1; subst h2
          obtain ⟨bE, csE, hbE, hbT, hbr, hbB, hbz⟩ := hE (by omega)
          refine cw_seq (fun FK102 K102 => ?_)
          refine cw_region ?_
          refine wl_val (v := .bool true) (fun ρ e => ex_cmp (u := (k2 : Int)) (v := (((foldOf gs)[i].inp.length : Nat) : Int)) (e _ _ rfl) (e _ _ rfl) (lss1 (by omega))) rfl rfl ?_
          refine wl_nil ?_
          refine xw_next K102 ?_
          refine cw_seq (fun FK103 K103 => ?_)
          refine cw_true rfl ?_
          refine cw_skip ?_
          refine xw_next K103 ?_
          refine cw_seq (fun FK104 K104 => ?_)
          refine cw_block ?_
          refine cw_seq (fun FK105 K105 => ?_)
          refine cw_region ?_
          refine wl_val (v := .int .i64 (k2 : Int)) (fun ρ e => ex_move (e _ _ rfl)) rfl rfl ?_
          refine wl_val (v := .int .i64 (k2 : Int)) (fun ρ e => ex_assign (e _ _ rfl)) rfl rfl ?_
          refine wl_nil ?_
          refine xw_next K105 ?_
          refine cw_region ?_
          refine wl_val (v := .pointer (some ⟨g44, 1, none⟩)) (fun ρ e => ex_field (q := 1) fi24_1 (e _ _ rfl) rfl) rfl rfl ?_
          refine wl_val (v := .slice A37 ((foldOf gs).length) c38) (fun ρ e => ex_load1 ty22 (e _ _ rfl) (O101.cell 1 1 rfl rfl)) rfl rfl ?_
          refine wl_val (v := .int .i64 (i : Int)) (fun ρ e => ex_move (e _ _ rfl)) rfl rfl ?_
          refine wl_val (v := .pointer (some ⟨rg, i * 3, none⟩)) (fun ρ e => ex_idx (q := i * 3) (o := 0) (g := rg) (i := i) el22 ((e _ _ rfl).trans (congrArg (fun z => Value.slice z _ _) hrg)) (e _ _ rfl) hk (by omega)) rfl rfl ?_
          refine wl_val (v := .pointer (some ⟨rg, i * 3 + 2, none⟩)) (fun ρ e => ex_field (q := i * 3 + 2) fi38_2 (e _ _ rfl) rfl) rfl rfl ?_
          refine wl_val (v := .slice AE ((foldOf gs)[i].inp.length) cE) (fun ρ e => ex_load1 ty36 (e _ _ rfl) ((hcs.cell (i * 3 + 2)).trans (hcv i _ hk hvi))) rfl rfl ?_
          refine wl_val (v := .int .i64 (k2 : Int)) (fun ρ e => ex_move (e _ _ rfl)) rfl rfl ?_
          refine wl_val (v := .pointer (some ⟨bE, k2, none⟩)) (fun ρ e => ex_idx (q := k2) (g := bE) (o := 0) (i := k2) el36 ((e _ _ rfl).trans (congrArg (fun z => Value.slice z _ _) hbE)) (e _ _ rfl) hk2 (by omega)) rfl rfl ?_
          obtain ⟨w106, hw107⟩ : ∃ z, w98.setCell ⟨bE, k2, none⟩ (.int .i64 (-7)) = z := ⟨_, rfl⟩
          have hlo := hw107 ▸ hlo.putE hbr k2 (.int .i64 (-7))
          have O108 : Own Z0 W w106 [.blk g64 24 #[.int .i64 N, .slice A57 ((foldOf gs).length) c58], .blk g44 24 #[.int .i64 N, .slice A37 ((foldOf gs).length) c38], .blk g23 24 #[.int .i64 N, .slice A15 gs.length c16], .blk g2 24 #[.int .i64 N, .slice A gs.length c], .row (.slice A15 gs.length c16) 38 3 gs.length (gcells gs vs18), .ro D17 (OwnIns D17 gs vs18)] := hw107 ▸ O101.wild k2 (.int .i64 (-7)) (hTn bE hbT) (hTd bE hbT)
          refine wl_none (fun ρ e => hw107 ▸ ex_setInt (u := (-7)) (e _ _ rfl) (e _ _ rfl) ((hbB.cell k2).trans (Array.getElem?_eq_getElem (by omega))) (hbB.free _)) rfl ?_
          refine wl_nil ?_
          refine xw_block ?_
          refine xw_next K104 ?_
          refine cw_region ?_
          refine wl_val (v := .int .i64 ((k2 + 1 : Nat) : Int)) (fun ρ e => ex_arith (k := .i64) (u := (k2 : Int)) (v := 1) (e _ _ rfl) (e _ _ rfl) (congrArg some ((congrArg _ (by omega)).trans (wrap_in (u := ((k2 + 1 : Nat) : Int)) (by omega) (by omega))))) rfl rfl ?_
          refine wl_val (v := .int .i64 ((k2 + 1 : Nat) : Int)) (fun ρ e => ex_move (e _ _ rfl)) rfl rfl ?_
          refine wl_nil ?_
          refine xw_round K100 (k2 + 1) (by show (foldOf gs)[i].inp.length - (k2 + 1) < (foldOf gs)[i].inp.length - k2; omega) ⟨(by show k2 + 1 ≤ _; omega), hlo, O108⟩ ⟨rfl, rfl, rfl, rfl, rfl, rfl, rfl, rfl, trivial⟩
        · obtain ⟨cs, hcs, hcz, hcv⟩ := hlo.row
          refine cw_seq (fun FK109 K109 => ?_)
          refine cw_region ?_
          refine wl_val (v := .bool false) (fun ρ e => ex_cmp (u := (k2 : Int)) (v := (((foldOf gs)[i].inp.length : Nat) : Int)) (e _ _ rfl) (e _ _ rfl) (lss0 (by omega))) rfl rfl ?_
          refine wl_nil ?_
          refine xw_next K109 ?_
          refine cw_seq (fun FK110 K110 => ?_)
          refine cw_false rfl ?_
          refine cw_exit ?_
          refine xw_past (by intro h; cases h) ?_
          refine xw_past (by intro h; cases h) ?_
          refine xw_here ?_
          refine xw_next K96 ?_
          refine cw_region ?_
          refine wl_val (v := .pointer (some ⟨g44, 1, none⟩)) (fun ρ e => ex_field (q := 1) fi24_1 (e _ _ rfl) rfl) rfl rfl ?_
          refine wl_val (v := .slice A37 ((foldOf gs).length) c38) (fun ρ e => ex_load1 ty22 (e _ _ rfl) (O101.cell 1 1 rfl rfl)) rfl rfl ?_
          refine wl_val (v := .int .i64 (i : Int)) (fun ρ e => ex_move (e _ _ rfl)) rfl rfl ?_
          refine wl_val (v := .pointer (some ⟨rg, i * 3, none⟩)) (fun ρ e => ex_idx (q := i * 3) (o := 0) (g := rg) (i := i) el22 ((e _ _ rfl).trans (congrArg (fun z => Value.slice z _ _) hrg)) (e _ _ rfl) hk (by omega)) rfl rfl ?_
          refine wl_val (v := .pointer (some ⟨rg, i * 3, none⟩)) (fun ρ e => ex_field (q := i * 3) fi38_0 (e _ _ rfl) rfl) rfl rfl ?_
          obtain ⟨w111, hw112⟩ : ∃ z, w98.setCell ⟨rg, i * 3, none⟩ (.int .i64 (-7)) = z := ⟨_, rfl⟩
          have hlo := hw112 ▸ hlo.putK i (.int .i64 (-7))
          have O113 : Own Z0 W w111 [.blk g64 24 #[.int .i64 N, .slice A57 ((foldOf gs).length) c58], .blk g44 24 #[.int .i64 N, .slice A37 ((foldOf gs).length) c38], .blk g23 24 #[.int .i64 N, .slice A15 gs.length c16], .blk g2 24 #[.int .i64 N, .slice A gs.length c], .row (.slice A15 gs.length c16) 38 3 gs.length (gcells gs vs18), .ro D17 (OwnIns D17 gs vs18)] := hw112 ▸ O101.wild (i * 3) (.int .i64 (-7)) (hTn rg (.inl rfl)) (hTd rg (.inl rfl))
          refine wl_none (fun ρ e => hw112 ▸ ex_setInt (u := (-7)) (e _ _ rfl) (e _ _ rfl) ((hcs.cell (i * 3)).trans (Array.getElem?_eq_getElem (by omega))) (hcs.free _)) rfl ?_
          refine wl_nil ?_
          refine xw_block ?_
          refine xw_next K94 ?_
          refine cw_region ?_
          refine wl_val (v := .int .i64 ((i + 1 : Nat) : Int)) (fun ρ e => ex_arith (k := .i64) (u := (i : Int)) (v := 1) (e _ _ rfl) (e _ _ rfl) (congrArg some ((congrArg _ (by omega)).trans (wrap_in (u := ((i + 1 : Nat) : Int)) (by omega) (by omega))))) rfl rfl ?_
          refine wl_val (v := .int .i64 ((i + 1 : Nat) : Int)) (fun ρ e => ex_move (e _ _ rfl)) rfl rfl ?_
          refine wl_nil ?_
          refine xw_round K90 (i + 1) (by show (foldOf gs).length - (i + 1) < (foldOf gs).length - i; omega) ⟨(by show i + 1 ≤ _; omega), hlo, O113⟩ ⟨rfl, rfl, rfl, rfl, rfl, trivial⟩
      · skip
        refine cw_seq (fun FK114 K114 => ?_)
        refine cw_region ?_
        refine wl_val (v := .bool false) (fun ρ e => ex_cmp (u := (i : Int)) (v := (((foldOf gs).length : Nat) : Int)) (e _ _ rfl) (e _ _ rfl) (lss0 (by omega))) rfl rfl ?_
        refine wl_nil ?_
        refine xw_next K114 ?_
        refine cw_seq (fun FK115 K115 => ?_)
        refine cw_false rfl ?_
        refine cw_exit ?_
        refine xw_past (by intro h; cases h) ?_
        refine xw_past (by intro h; cases h) ?_
        refine xw_here ?_
        refine xw_next K84 ?_
        refine cw_seq (fun FK116 K116 => ?_)
        refine cw_region ?_
        refine wl_val (v := .agg #[.int .i64 N, .slice A15 gs.length c16]) (fun ρ e => ex_loadN (vs := [.int .i64 N, .slice A15 gs.length c16]) ty24 (e _ _ rfl) rfl (O91.cells 2 0 rfl rfl)) rfl rfl ?_
        refine wl_val (v := .agg #[.int .i64 N, .slice A gs.length c]) (fun ρ e => ex_loadN (vs := [.int .i64 N, .slice A gs.length c]) ty24 (e _ _ rfl) rfl (O91.cells 3 0 rfl rfl)) rfl rfl ?_
        refine wl_call (args := [.agg #[.int .i64 N, .slice A15 gs.length c16], .agg #[.int .i64 N, .slice A gs.length c]]) in_20 rfl rfl rfl ?_
        have h120 := rcsame_ (N := N) (M := N) (gates_of_own (O91.row 4 rfl) (O91.ro 5 rfl) (O91.get 5 rfl).2.1) ((hV.below O91.old).more O91.old.size) hsh hsh (by omega) (by omega)
        rw [decide_eq_true (show N = N ∧ gs = gs from ⟨rfl, rfl⟩)] at h120
        refine h120.mono ?_
        rintro _ w117 ⟨rfl, hb118⟩
        have O119 : Own Z0 W w117 [.blk g64 24 #[.int .i64 N, .slice A57 ((foldOf gs).length) c58], .blk g44 24 #[.int .i64 N, .slice A37 ((foldOf gs).length) c38], .blk g23 24 #[.int .i64 N, .slice A15 gs.length c16], .blk g2 24 #[.int .i64 N, .slice A gs.length c], .row (.slice A15 gs.length c16) 38 3 gs.length (gcells gs vs18), .ro D17 (OwnIns D17 gs vs18)] := O91.below hb118
        refine ⟨_, rfl, ?_⟩
        refine wl_val (v := .bool true) (fun ρ e => ex_move (e _ _ rfl)) rfl rfl ?_
        refine wl_call (args := []) in_14 rfl rfl rfl ?_
        refine (works_ (tab.below (Nat.le_refl _) O119.old)).mono ?_
        rintro _ w121 ⟨rfl, hb122⟩
        have O123 : Own Z0 W w121 [.blk g64 24 #[.int .i64 N, .slice A57 ((foldOf gs).length) c58], .blk g44 24 #[.int .i64 N, .slice A37 ((foldOf gs).length) c38], .blk g23 24 #[.int .i64 N, .slice A15 gs.length c16], .blk g2 24 #[.int .i64 N, .slice A gs.length c], .row (.slice A15 gs.length c16) 38 3 gs.length (gcells gs vs18), .ro D17 (OwnIns D17 gs vs18)] := O119.below hb122
        refine ⟨_, rfl, ?_⟩
        refine wl_val (v := .bool true) (fun ρ e => ex_pick1 (e _ _ rfl) (e _ _ rfl)) rfl rfl ?_
        refine wl_val (v := .bool true) (fun ρ e => ex_assign (e _ _ rfl)) rfl rfl ?_
        refine wl_nil ?_
        refine xw_next K116 ?_
        refine cw_ret ?_
        refine xw_ret (v := .bool true) (fun T hT => res1 rfl T _ (hT 2 _ rfl)) ?_
        exact ⟨rfl, O123.old⟩
    · skip
      have hc := c35
      refine wl_call (args := [.agg #[.int .i64 N, .slice A15 gs.length c16]]) in_18 rfl rfl rfl ?_
      refine h34.mono ?_
      intro _ w124 hq
      obtain ⟨_, rfl, hb125⟩ := hq.resolve_right (fun z => hc z.1)
      have O126 : Own Z0 W w124 [.blk g23 24 #[.int .i64 N, .slice A15 gs.length c16], .row (.slice A15 gs.length c16) 38 3 gs.length (gcells gs vs18), .ro D17 (OwnIns D17 gs vs18), .blk g2 24 #[.int .i64 N, .slice A gs.length c]] := O31.below hb125
      refine ⟨_, rfl, ?_⟩
      refine wl_val (v := .tuple #[.agg #[.int .i64 0, .slice none 0 0], .int .i64 (checkOf N gs)]) (fun ρ e => ex_move (e _ _ rfl)) rfl rfl ?_
      refine wl_val (v := .agg #[.int .i64 0, .slice none 0 0]) (fun ρ e => ex_extract (vs := #[.agg #[.int .i64 0, .slice none 0 0], .int .i64 (checkOf N gs)]) (e _ _ rfl) rfl) rfl rfl ?_
      refine wl_val (v := .int .i64 (checkOf N gs)) (fun ρ e => ex_extract (vs := #[.agg #[.int .i64 0, .slice none 0 0], .int .i64 (checkOf N gs)]) (e _ _ rfl) rfl) rfl rfl ?_
      obtain ⟨g127, w128, r129, O130, hg131, hs132⟩ := own_alloc O126 24 ze24 rfl
      refine wl_val (v := .pointer (some ⟨g127, 0, none⟩)) (fun ρ e => r129 ρ _ _ _ _ _) rfl rfl ?_
      obtain ⟨w133, r134, O135, hs136⟩ := own_put (o := 0) (n := 2) O130 ty24 (.agg #[.int .i64 0, .slice none 0 0]) [.int .i64 0, .slice none 0 0] (cs' := #[.int .i64 0, .slice none 0 0]) rfl rfl rfl (Nat.le_of_ble_eq_true rfl) rfl
      refine wl_none (fun ρ e => r134 ρ _ _ _ _ _ _ (e _ _ rfl) (e _ _ rfl)) rfl ?_
      refine wl_val (v := .int .i64 (checkOf N gs)) (fun ρ e => ex_assign (e _ _ rfl)) rfl rfl ?_
      refine wl_nil ?_
      refine xw_next K33 ?_
      refine cw_seq (fun FK137 K137 => ?_)
      refine cw_region ?_
      refine wl_val (v := .agg #[.int .i64 N, .slice A gs.length c]) (fun ρ e => ex_loadN (vs := [.int .i64 N, .slice A gs.length c]) ty24 (e _ _ rfl) rfl (O135.cells 4 0 rfl rfl)) rfl rfl ?_
      refine wl_call (args := [.agg #[.int .i64 N, .slice A gs.length c]]) in_19 rfl rfl rfl ?_
      have h138 := rfold_ (N := N) ((hV.below O135.old).more O135.old.size) hsz
      refine h138.mono ?_
      intro _ w139 hq
      obtain ⟨_, rfl, hb140⟩ := hq.resolve_right (fun z => hc z.1)
      have O141 : Own Z0 W w139 [.blk g127 24 #[.int .i64 0, .slice none 0 0], .blk g23 24 #[.int .i64 N, .slice A15 gs.length c16], .row (.slice A15 gs.length c16) 38 3 gs.length (gcells gs vs18), .ro D17 (OwnIns D17 gs vs18), .blk g2 24 #[.int .i64 N, .slice A gs.length c]] := O135.below hb140
      refine ⟨_, rfl, ?_⟩
      refine wl_val (v := .tuple #[.agg #[.int .i64 0, .slice none 0 0], .int .i64 (checkOf N gs)]) (fun ρ e => ex_move (e _ _ rfl)) rfl rfl ?_
      refine wl_val (v := .agg #[.int .i64 0, .slice none 0 0]) (fun ρ e => ex_extract (vs := #[.agg #[.int .i64 0, .slice none 0 0], .int .i64 (checkOf N gs)]) (e _ _ rfl) rfl) rfl rfl ?_
      refine wl_val (v := .int .i64 (checkOf N gs)) (fun ρ e => ex_extract (vs := #[.agg #[.int .i64 0, .slice none 0 0], .int .i64 (checkOf N gs)]) (e _ _ rfl) rfl) rfl rfl ?_
      obtain ⟨g142, w143, r144, O145, hg146, hs147⟩ := own_alloc O141 24 ze24 rfl
      refine wl_val (v := .pointer (some ⟨g142, 0, none⟩)) (fun ρ e => r144 ρ _ _ _ _ _) rfl rfl ?_
      obtain ⟨w148, r149, O150, hs151⟩ := own_put (o := 0) (n := 2) O145 ty24 (.agg #[.int .i64 0, .slice none 0 0]) [.int .i64 0, .slice none 0 0] (cs' := #[.int .i64 0, .slice none 0 0]) rfl rfl rfl (Nat.le_of_ble_eq_true rfl) rfl
      refine wl_none (fun ρ e => r149 ρ _ _ _ _ _ _ (e _ _ rfl) (e _ _ rfl)) rfl ?_
      refine wl_val (v := .int .i64 (checkOf N gs)) (fun ρ e => ex_assign (e _ _ rfl)) rfl rfl ?_
      refine wl_nil ?_
      refine xw_next K137 ?_
      refine cw_seq (fun FK152 K152 => ?_)
      refine cw_seq (fun FK153 K153 => ?_)
      refine cw_region ?_
      refine wl_val (v := .int .i64 (checkOf N gs)) (fun ρ e => ex_move (e _ _ rfl)) rfl rfl ?_
      refine wl_val (v := .int .i64 (checkOf N gs)) (fun ρ e => ex_move (e _ _ rfl)) rfl rfl ?_
      refine wl_val (v := .bool false) (fun ρ e => ex_cmp (u := (checkOf N gs)) (v := (checkOf N gs)) (e _ _ rfl) (e _ _ rfl) (neq0 (by omega))) rfl rfl ?_
      refine wl_val (v := .bool false) (fun ρ e => ex_move (e _ _ rfl)) rfl rfl ?_
      refine wl_val (v := .agg #[.int .i64 0, .slice none 0 0]) (fun ρ e => ex_loadN (vs := [.int .i64 0, .slice none 0 0]) ty24 (e _ _ rfl) rfl (O150.cells 1 0 rfl rfl)) rfl rfl ?_
      refine wl_val (v := .agg #[.int .i64 0, .slice none 0 0]) (fun ρ e => ex_loadN (vs := [.int .i64 0, .slice none 0 0]) ty24 (e _ _ rfl) rfl (O150.cells 0 0 rfl rfl)) rfl rfl ?_
      refine wl_call (args := [.agg #[.int .i64 0, .slice none 0 0], .agg #[.int .i64 0, .slice none 0 0]]) in_20 rfl rfl rfl ?_
      have h157 := rcsame_ (N := 0) (M := 0) (gates_nil w148 w148.heap.size) (gates_nil w148 w148.heap.size) (fun g hg => absurd hg (List.not_mem_nil)) (fun g hg => absurd hg (List.not_mem_nil)) (Nat.zero_le _) (Nat.zero_le _)
      rw [decide_eq_true (show (0 : Int) = 0 ∧ ([] : List Gate) = [] from ⟨rfl, rfl⟩)] at h157
      refine h157.mono ?_
      rintro _ w154 ⟨rfl, hb155⟩
      have O156 : Own Z0 W w154 [.blk g142 24 #[.int .i64 0, .slice none 0 0], .blk g127 24 #[.int .i64 0, .slice none 0 0], .blk g23 24 #[.int .i64 N, .slice A15 gs.length c16], .row (.slice A15 gs.length c16) 38 3 gs.length (gcells gs vs18), .ro D17 (OwnIns D17 gs vs18), .blk g2 24 #[.int .i64 N, .slice A gs.length c]] := O150.below hb155
      refine ⟨_, rfl, ?_⟩
      refine wl_val (v := .bool false) (fun ρ e => ex_lnot (b := true) (e _ _ rfl)) rfl rfl ?_
      refine wl_val (v := .bool false) (fun ρ e => ex_pick0 (e _ _ rfl) (e _ _ rfl)) rfl rfl ?_
      refine wl_val (v := .bool false) (fun ρ e => ex_move (e _ _ rfl)) rfl rfl ?_
      refine wl_val (v := .agg #[.int .i64 N, .slice A15 gs.length c16]) (fun ρ e => ex_loadN (vs := [.int .i64 N, .slice A15 gs.length c16]) ty24 (e _ _ rfl) rfl (O156.cells 2 0 rfl rfl)) rfl rfl ?_
      refine wl_val (v := .agg #[.int .i64 N, .slice A gs.length c]) (fun ρ e => ex_loadN (vs := [.int .i64 N, .slice A gs.length c]) ty24 (e _ _ rfl) rfl (O156.cells 5 0 rfl rfl)) rfl rfl ?_
      refine wl_call (args := [.agg #[.int .i64 N, .slice A15 gs.length c16], .agg #[.int .i64 N, .slice A gs.length c]]) in_20 rfl rfl rfl ?_
      have h161 := rcsame_ (N := N) (M := N) (gates_of_own (O156.row 3 rfl) (O156.ro 4 rfl) (O156.get 4 rfl).2.1) ((hV.below O156.old).more O156.old.size) hsh hsh (by omega) (by omega)
      rw [decide_eq_true (show N = N ∧ gs = gs from ⟨rfl, rfl⟩)] at h161
      refine h161.mono ?_
      rintro _ w158 ⟨rfl, hb159⟩
      have O160 : Own Z0 W w158 [.blk g142 24 #[.int .i64 0, .slice none 0 0], .blk g127 24 #[.int .i64 0, .slice none 0 0], .blk g23 24 #[.int .i64 N, .slice A15 gs.length c16], .row (.slice A15 gs.length c16) 38 3 gs.length (gcells gs vs18), .ro D17 (OwnIns D17 gs vs18), .blk g2 24 #[.int .i64 N, .slice A gs.length c]] := O156.below hb159
      refine ⟨_, rfl, ?_⟩
      refine wl_val (v := .bool false) (fun ρ e => ex_lnot (b := true) (e _ _ rfl)) rfl rfl ?_
      refine wl_val (v := .bool false) (fun ρ e => ex_pick0 (e _ _ rfl) (e _ _ rfl)) rfl rfl ?_
      refine wl_nil ?_
      refine xw_next K153 ?_
      refine cw_false rfl ?_
      refine cw_skip ?_
      refine xw_next K152 ?_
      refine cw_seq (fun FK162 K162 => ?_)
      refine cw_seq (fun FK163 K163 => ?_)
      refine cw_region ?_
      refine wl_val (v := .pointer (some ⟨g127, 1, none⟩)) (fun ρ e => ex_field (q := 1) fi24_1 (e _ _ rfl) rfl) rfl rfl ?_
      refine wl_val (v := .slice none 0 0) (fun ρ e => ex_load1 ty22 (e _ _ rfl) (O160.cell 1 1 rfl rfl)) rfl rfl ?_
      refine wl_val (v := .int .i64 (0 : Int)) (fun ρ e => ex_len el22 (e _ _ rfl)) rfl rfl ?_
      refine wl_val (v := .int .i64 0) (fun ρ e => ex_move (e _ _ rfl)) rfl rfl ?_
      refine wl_nil ?_
      refine xw_next K163 ?_
      refine cw_block ?_
      refine cw_loop (ι := Nat) (fun q => [(1, .pointer (some ⟨g2, 0, none⟩)), (3, .pointer (some ⟨g23, 0, none⟩)), (4, .pointer (some ⟨g127, 0, none⟩)), (43, .int .i64 (0 : Int)), (44, .int .i64 (q : Int))]) (fun q X => (q = 0) ∧ Own Z0 W X [.blk g142 24 #[.int .i64 0, .slice none 0 0], .blk g127 24 #[.int .i64 0, .slice none 0 0], .blk g23 24 #[.int .i64 N, .slice A15 gs.length c16], .row (.slice A15 gs.length c16) 38 3 gs.length (gcells gs vs18), .ro D17 (OwnIns D17 gs vs18), .blk g2 24 #[.int .i64 N, .slice A gs.length c]]) (fun q => 0) 0 ⟨rfl, O160⟩ ⟨rfl, rfl, rfl, rfl, rfl, trivial⟩ (fun q w164 hJ F165 K166 => ?_)
      obtain ⟨i, rfl⟩ : ∃ x, x = q := ⟨_, rfl⟩
      obtain ⟨hi0, O167⟩ := hJ
      try dsimp only at hi0 O167 ⊢
      subst hi0
      refine cw_seq (fun FK168 K168 => ?_)
      refine cw_region ?_
      refine wl_val (v := .bool false) (fun ρ e => ex_cmp (u := 0) (v := (0 : Int)) (e _ _ rfl) (e _ _ rfl) (lss0 (by omega))) rfl rfl ?_
      refine wl_nil ?_
      refine xw_next K168 ?_
      refine cw_seq (fun FK169 K169 => ?_)
      refine cw_false rfl ?_
      refine cw_exit ?_
      refine xw_past (by intro h; cases h) ?_
      refine xw_past (by intro h; cases h) ?_
      refine xw_here ?_
      refine xw_next K162 ?_
      refine cw_seq (fun FK170 K170 => ?_)
      refine cw_region ?_
      refine wl_val (v := .agg #[.int .i64 N, .slice A15 gs.length c16]) (fun ρ e => ex_loadN (vs := [.int .i64 N, .slice A15 gs.length c16]) ty24 (e _ _ rfl) rfl (O167.cells 2 0 rfl rfl)) rfl rfl ?_
      refine wl_val (v := .agg #[.int .i64 N, .slice A gs.length c]) (fun ρ e => ex_loadN (vs := [.int .i64 N, .slice A gs.length c]) ty24 (e _ _ rfl) rfl (O167.cells 5 0 rfl rfl)) rfl rfl ?_
      refine wl_call (args := [.agg #[.int .i64 N, .slice A15 gs.length c16], .agg #[.int .i64 N, .slice A gs.length c]]) in_20 rfl rfl rfl ?_
      have h174 := rcsame_ (N := N) (M := N) (gates_of_own (O167.row 3 rfl) (O167.ro 4 rfl) (O167.get 4 rfl).2.1) ((hV.below O167.old).more O167.old.size) hsh hsh (by omega) (by omega)
      rw [decide_eq_true (show N = N ∧ gs = gs from ⟨rfl, rfl⟩)] at h174
      refine h174.mono ?_
      rintro _ w171 ⟨rfl, hb172⟩
      have O173 : Own Z0 W w171 [.blk g142 24 #[.int .i64 0, .slice none 0 0], .blk g127 24 #[.int .i64 0, .slice none 0 0], .blk g23 24 #[.int .i64 N, .slice A15 gs.length c16], .row (.slice A15 gs.length c16) 38 3 gs.length (gcells gs vs18), .ro D17 (OwnIns D17 gs vs18), .blk g2 24 #[.int .i64 N, .slice A gs.length c]] := O167.below hb172
      refine ⟨_, rfl, ?_⟩
      refine wl_val (v := .bool true) (fun ρ e => ex_move (e _ _ rfl)) rfl rfl ?_
      refine wl_call (args := []) in_14 rfl rfl rfl ?_
      refine (works_ (tab.below (Nat.le_refl _) O173.old)).mono ?_
      rintro _ w175 ⟨rfl, hb176⟩
      have O177 : Own Z0 W w175 [.blk g142 24 #[.int .i64 0, .slice none 0 0], .blk g127 24 #[.int .i64 0, .slice none 0 0], .blk g23 24 #[.int .i64 N, .slice A15 gs.length c16], .row (.slice A15 gs.length c16) 38 3 gs.length (gcells gs vs18), .ro D17 (OwnIns D17 gs vs18), .blk g2 24 #[.int .i64 N, .slice A gs.length c]] := O173.below hb176
      refine ⟨_, rfl, ?_⟩
      refine wl_val (v := .bool true) (fun ρ e => ex_pick1 (e _ _ rfl) (e _ _ rfl)) rfl rfl ?_
      refine wl_val (v := .bool true) (fun ρ e => ex_assign (e _ _ rfl)) rfl rfl ?_
      refine wl_nil ?_
      refine xw_next K170 ?_
      refine cw_ret ?_
      refine xw_ret (v := .bool true) (fun T hT => res1 rfl T _ (hT 2 _ rfl)) ?_
      exact ⟨rfl, O177.old⟩
end Go.Proofs.YtbemhgojfehnjaaDoor
