/-
  Lemmas and contracts, joined: VlKeeps.
-/
import Derived.Test.YtpeoodkepjhhiaaDoorPf5
namespace Go.Proofs.YtpeoodkepjhhiaaDoor
open Go Go.RowKit
theorem Holds.step {l : List (VS × Value)} {S : List VS} {i : Nat} {s : VS} (h : Holds l (S.take i)) (hs : S[i]? = some s) : Holds (aput s (.bool true) l) (S.take (i + 1)) := by
  rw [List.take_add_one, hs]
  exact h.put s
theorem newOf_step {S l : List VS} {i : Nat} {s : VS} (hs : l[i]? = some s) : newOf S (l.take (i + 1)) = newOf S (l.take i) + if s ∉ S then 1 else 0 := by
  rw [List.take_add_one, hs, newOf_append]
  by_cases h : s ∈ S
  · rw [if_neg (fun q => q h)]
    exact congrArg (newOf S (l.take i) + ·) (newOf_in h)
  · rw [if_pos h]
    exact congrArg (newOf S (l.take i) + ·) (newOf_one h)
theorem newOf_le (S l : List VS) (j : Nat) : newOf S (l.take j) ≤ j := by
  unfold newOf
  refine Nat.le_trans List.countP_le_length ?_
  rw [List.length_take]
  omega
set_option maxHeartbeats 4000000 in
theorem vtreeKeeps_ok {W : World} {V : Value} {bs : List Nat} (hB : BytesD (fun k => k < W.heap.size) W V bs) {x0 x2 : Int} (hx0 : (Lit.int .u8 x0).wf = true) (hx2 : (Lit.int .u8 x2).wf = true) (tab : Tab W) : Calls Tryd.prog 12 #[.int .u8 x0, V, .int .u8 x2] W fun e w' => e = .returned (.bool true) ∧ Below W.heap.size W w' := by
  obtain ⟨x, hx, rfl⟩ := byte_nat hx0
  obtain ⟨y, hy, rfl⟩ := byte_nat hx2
  obtain ⟨B, bc, rfl⟩ := hB.slice
  have hD : ∀ k, (fun k => k < W.heap.size) k → k < W.heap.size := fun _ h => h
  have O0 : Own Z0 W W [] := Own.start W
  refine sx_enter (args := [.int .u8 (x : Int), .slice B bs.length bc, .int .u8 (y : Int)]) Tryd.func12 rfl rfl (by simp) ?_
  refine cw_seq (fun FK1 K1 => ?_)
  refine cw_region ?_
  refine wl_val (v := .bool false) (fun ρ e => ex_assign (e _ _ rfl)) rfl rfl ?_
  refine wl_nil ?_
  refine xw_next K1 ?_
  refine cw_seq (fun FK2 K2 => ?_)
  refine cw_seq (fun FK3 K3 => ?_)
  refine cw_region ?_
  refine wl_val (v := .slice B bs.length bc) (fun ρ e => ex_move (e _ _ rfl)) rfl rfl ?_
  refine wl_val (v := .int .i64 ((bs.length : Nat) : Int)) (fun ρ e => ex_len el32 (e _ _ rfl)) rfl rfl ?_
  by_cases c4 : ((bs.length : Nat) : Int) > 200
  · skip
    refine wl_val (v := .bool true) (fun ρ e => ex_cmp (u := ((bs.length : Nat) : Int)) (v := 200) (e _ _ rfl) (e _ _ rfl) (gtr1 (by omega))) rfl rfl ?_
    refine wl_nil ?_
    refine xw_next K3 ?_
    refine cw_true rfl ?_
    refine cw_seq (fun FK5 K5 => ?_)
    refine cw_region ?_
    refine wl_call (args := []) in_14 rfl rfl rfl ?_
    refine (works_ (tab.below (Nat.le_refl _) O0.old)).mono ?_
    rintro _ w6 ⟨rfl, hb7⟩
    have O8 : Own Z0 W w6 [] := O0.below hb7
    refine ⟨_, rfl, ?_⟩
    refine wl_val (v := .bool true) (fun ρ e => ex_assign (e _ _ rfl)) rfl rfl ?_
    refine wl_nil ?_
    refine xw_next K5 ?_
    refine cw_ret ?_
    refine xw_past (by intro h; cases h) ?_
    refine xw_ret (v := .bool true) (fun T hT => res1 rfl T _ (hT 6 _ rfl)) ?_
    exact ⟨rfl, O8.old⟩
  · skip
    refine wl_val (v := .bool false) (fun ρ e => ex_cmp (u := ((bs.length : Nat) : Int)) (v := 200) (e _ _ rfl) (e _ _ rfl) (gtr0 (by omega))) rfl rfl ?_
    refine wl_nil ?_
    refine xw_next K3 ?_
    refine cw_false rfl ?_
    refine cw_skip ?_
    refine xw_next K2 ?_
    refine cw_seq (fun FK9 K9 => ?_)
    refine cw_region ?_
    refine wl_val (v := .int .u8 (x : Int)) (fun ρ e => ex_move (e _ _ rfl)) rfl rfl ?_
    refine wl_val (v := .slice B bs.length bc) (fun ρ e => ex_move (e _ _ rfl)) rfl rfl ?_
    refine wl_call (args := [.int .u8 (x : Int), .slice B bs.length bc]) in_20 rfl rfl rfl ?_
    refine (grown_ (hB.move (fun k hk => (O0.old).block k (hD k hk))) (fun k hk => Nat.lt_of_lt_of_le (hD k hk) (O0.old).size) (by omega) hx).mono ?_
    rintro _ w12 ⟨T, A10, c11, hgd, hl, rfl, h13⟩
    have O14 := O0.join1 h13 trivial
    have hpos := T.size_pos
    have hsm := hgd.small
    obtain ⟨g15, hg15⟩ := rowaddr (O14.row 0 rfl) hpos
    subst hg15
    have hplT := post_len T 0
    refine ⟨_, rfl, ?_⟩
    refine wl_val (v := .slice (some ⟨g15, 0, none⟩) T.size c11) (fun ρ e => ex_assign (e _ _ rfl)) rfl rfl ?_
    refine wl_nil ?_
    refine xw_next K9 ?_
    refine cw_seq (fun FK16 K16 => ?_)
    refine cw_seq (fun FK17 K17 => ?_)
    refine cw_region ?_
    refine wl_val (v := .slice (some ⟨g15, 0, none⟩) T.size c11) (fun ρ e => ex_move (e _ _ rfl)) rfl rfl ?_
    refine wl_val (v := .int .i64 ((T.size : Nat) : Int)) (fun ρ e => ex_len el23 (e _ _ rfl)) rfl rfl ?_
    refine wl_val (v := .bool false) (fun ρ e => ex_cmp (u := ((T.size : Nat) : Int)) (v := 0) (e _ _ rfl) (e _ _ rfl) (eql0 (by omega))) rfl rfl ?_
    refine wl_nil ?_
    refine xw_next K17 ?_
    refine cw_false rfl ?_
    refine cw_skip ?_
    refine xw_next K16 ?_
    refine cw_seq (fun FK18 K18 => ?_)
    refine cw_region ?_
    refine wl_val (v := .int .u8 (y : Int)) (fun ρ e => ex_move (e _ _ rfl)) rfl rfl ?_
    refine wl_val (v := .int .i64 (y : Int)) (fun ρ e => ex_conv8 (e _ _ rfl) (by omega)) rfl rfl ?_
    refine wl_val (v := .slice (some ⟨g15, 0, none⟩) T.size c11) (fun ρ e => ex_move (e _ _ rfl)) rfl rfl ?_
    refine wl_val (v := .int .i64 ((T.size : Nat) : Int)) (fun ρ e => ex_len el23 (e _ _ rfl)) rfl rfl ?_
    obtain ⟨i, hi_, li⟩ : ∃ q, y % T.size = q ∧ q < T.size := ⟨_, rfl, Nat.mod_lt _ (by omega)⟩
    refine wl_val (v := .int .i64 (i : Int)) (fun ρ e => ex_remg (a := y) (b := T.size) (e _ _ rfl) (e _ _ rfl) (by omega) hi_) rfl rfl ?_
    refine wl_val (v := .int .i64 (i : Int)) (fun ρ e => ex_assign (e _ _ rfl)) rfl rfl ?_
    refine wl_nil ?_
    refine xw_next K18 ?_
    refine cw_seq (fun FK19 K19 => ?_)
    refine cw_seq (fun FK20 K20 => ?_)
    refine cw_region ?_
    refine wl_val (v := .int .i64 0) (fun ρ e => ex_move (e _ _ rfl)) rfl rfl ?_
    refine wl_nil ?_
    refine xw_next K20 ?_
    refine cw_block ?_
    have O21 : Own Z0 W w12 [.row (.slice (some ⟨g15, 0, none⟩) T.size c11) 38 3 T.size (ncells (post T 0))] := O14
    refine cw_loop (ι := Nat) (fun q => [(7, .slice (some ⟨g15, 0, none⟩) T.size c11), (8, .int .i64 (i : Int)), (36, .int .i64 (q : Int))]) (fun q X => (q ≤ 3) ∧ Own Z0 W X [.row (.slice (some ⟨g15, 0, none⟩) T.size c11) 38 3 T.size (ncells (post T 0))]) (fun q => 3 - q) 0 ⟨Nat.zero_le _, O21⟩ ⟨rfl, rfl, rfl, trivial⟩ (fun q w22 hJ F23 K24 => ?_)
    obtain ⟨kk, rfl⟩ : ∃ x, x = q := ⟨_, rfl⟩
    obtain ⟨hk0, O25⟩ := hJ
    try dsimp only at hk0 O25 ⊢
    rcases (show kk = 0 ∨ kk = 1 ∨ kk = 2 ∨ kk = 3 by omega) with rfl | rfl | rfl | rfl
    · skip
      refine cw_seq (fun FK26 K26 => ?_)
      refine cw_region ?_
      refine wl_val (v := .bool true) (fun ρ e => ex_cmp (u := ((0 : Nat) : Int)) (v := 3) (e _ _ rfl) (e _ _ rfl) (lss1 (by omega))) rfl rfl ?_
      refine wl_nil ?_
      refine xw_next K26 ?_
      refine cw_seq (fun FK27 K27 => ?_)
      refine cw_true rfl ?_
      refine cw_skip ?_
      refine xw_next K27 ?_
      refine cw_seq (fun FK28 K28 => ?_)
      refine cw_block ?_
      refine cw_seq (fun FK29 K29 => ?_)
      refine cw_region ?_
      refine wl_val (v := .int .i64 ((0 : Nat) : Int)) (fun ρ e => ex_move (e _ _ rfl)) rfl rfl ?_
      refine wl_val (v := .int .i64 ((0 : Nat) : Int)) (fun ρ e => ex_assign (e _ _ rfl)) rfl rfl ?_
      refine wl_nil ?_
      refine xw_next K29 ?_
      refine cw_seq (fun FK30 K30 => ?_)
      refine cw_region ?_
      refine wl_val (v := .slice (some ⟨g15, 0, none⟩) T.size c11) (fun ρ e => ex_move (e _ _ rfl)) rfl rfl ?_
      refine wl_val (v := .slice (some ⟨g15, 0, none⟩) T.size c11) (fun ρ e => ex_assign (e _ _ rfl)) rfl rfl ?_
      refine wl_val (v := .int .i64 0) (fun ρ e => ex_assign (e _ _ rfl)) rfl rfl ?_
      refine wl_nil ?_
      refine xw_next K30 ?_
      refine cw_seq (fun FK31 K31 => ?_)
      refine cw_seq (fun FK32 K32 => ?_)
      refine cw_region ?_
      refine wl_val (v := .int .i64 ((0 : Nat) : Int)) (fun ρ e => ex_move (e _ _ rfl)) rfl rfl ?_
      refine wl_nil ?_
      refine xw_next K32 ?_
      refine cw_block ?_
      refine cw_seq (fun FK33 K33 => ?_)
      refine cw_region ?_
      refine wl_val (v := .bool true) (fun ρ e => ex_cmp (u := ((0 : Nat) : Int)) (v := 0) (e _ _ rfl) (e _ _ rfl) (eql1 (by omega))) rfl rfl ?_
      refine wl_val (v := .bool true) (fun ρ e => ex_assign (e _ _ rfl)) rfl rfl ?_
      refine wl_nil ?_
      refine xw_next K33 ?_
      refine cw_true rfl ?_
      refine cw_region ?_
      refine wl_val (v := .slice (some ⟨g15, 0, none⟩) T.size c11) (fun ρ e => ex_move (e _ _ rfl)) rfl rfl ?_
      refine wl_val (v := .int .i64 (i : Int)) (fun ρ e => ex_move (e _ _ rfl)) rfl rfl ?_
      by_cases c34 : (tAt 1 T 0 i).isSome = true
      · skip
        obtain ⟨U, hU⟩ := Option.isSome_iff_exists.1 c34
        have gU := tAt_good hgd hU
        have sU := tAt_size hU
        have hplU := post_len U 0
        have hcount := new_count (by omega) hgd hU
        have lU := (tAt_leaves hU).2 (by omega)
        refine wl_call (args := [.slice (some ⟨g15, 0, none⟩) T.size c11, .int .i64 (i : Int)]) in_32 rfl rfl rfl ?_
        have hc40 := rotr_ (NodesD.of_row (O25.row 0 rfl)) (fun k hk => (World.ownsRow.lt (O25.row 0 rfl) k hk).2) (i : Int)
        rw [show movOf (post T 0) 1 (i : Int) = ((post U 0), 0) from mov_some hgd (by omega) li hU] at hc40
        refine hc40.mono ?_
        rintro _ w37 ⟨A35, c36, rfl, h38⟩
        have O39 := O25.join1 h38 trivial
        rw [hplU] at O39
        obtain ⟨g41, hg41⟩ := rowaddr (O39.row 0 rfl) U.size_pos
        subst hg41
        rw [hplU]
        refine ⟨_, rfl, ?_⟩
        refine wl_val (v := .tuple #[.slice (some ⟨g41, 0, none⟩) U.size c36, .int .i64 0]) (fun ρ e => ex_move (e _ _ rfl)) rfl rfl ?_
        refine wl_val (v := .slice (some ⟨g41, 0, none⟩) U.size c36) (fun ρ e => ex_extract (vs := #[.slice (some ⟨g41, 0, none⟩) U.size c36, .int .i64 0]) (e _ _ rfl) rfl) rfl rfl ?_
        refine wl_val (v := .int .i64 0) (fun ρ e => ex_extract (vs := #[.slice (some ⟨g41, 0, none⟩) U.size c36, .int .i64 0]) (e _ _ rfl) rfl) rfl rfl ?_
        refine wl_val (v := .slice (some ⟨g41, 0, none⟩) U.size c36) (fun ρ e => ex_assign (e _ _ rfl)) rfl rfl ?_
        refine wl_val (v := .int .i64 0) (fun ρ e => ex_assign (e _ _ rfl)) rfl rfl ?_
        refine wl_nil ?_
        refine xw_block ?_
        refine xw_next K31 ?_
        refine cw_seq (fun FK42 K42 => ?_)
        refine cw_seq (fun FK43 K43 => ?_)
        refine cw_region ?_
        refine wl_val (v := .int .i64 0) (fun ρ e => ex_move (e _ _ rfl)) rfl rfl ?_
        refine wl_val (v := .bool false) (fun ρ e => ex_cmp (u := 0) (v := 0) (e _ _ rfl) (e _ _ rfl) (neq0 rfl)) rfl rfl ?_
        refine wl_nil ?_
        refine xw_next K43 ?_
        refine cw_false rfl ?_
        refine cw_skip ?_
        refine xw_next K42 ?_
        refine cw_seq (fun FK44 K44 => ?_)
        refine cw_seq (fun FK45 K45 => ?_)
        refine cw_region ?_
        refine wl_val (v := .slice (some ⟨g41, 0, none⟩) U.size c36) (fun ρ e => ex_move (e _ _ rfl)) rfl rfl ?_
        refine wl_call (args := [.slice (some ⟨g41, 0, none⟩) U.size c36]) in_23 rfl rfl rfl ?_
        refine (checkb_ (NodesD.of_row (O39.row 0 rfl)) (fun k hk => (World.ownsRow.lt (O39.row 0 rfl) k hk).2) (chk_val (post_ok gU))).mono ?_
        rintro _ w46 ⟨rfl, hb47⟩
        have O48 : Own Z0 W w46 [.row (.slice (some ⟨g41, 0, none⟩) U.size c36) 38 3 U.size (ncells (post U 0)), .row (.slice (some ⟨g15, 0, none⟩) T.size c11) 38 3 T.size (ncells (post T 0))] := O39.below hb47
        refine ⟨_, rfl, ?_⟩
        refine wl_val (v := .bool false) (fun ρ e => ex_cmp (u := 0) (v := 0) (e _ _ rfl) (e _ _ rfl) (neq0 rfl)) rfl rfl ?_
        refine wl_val (v := .bool false) (fun ρ e => ex_move (e _ _ rfl)) rfl rfl ?_
        refine wl_val (v := .slice (some ⟨g41, 0, none⟩) U.size c36) (fun ρ e => ex_move (e _ _ rfl)) rfl rfl ?_
        refine wl_val (v := .int .i64 ((U.size : Nat) : Int)) (fun ρ e => ex_len el23 (e _ _ rfl)) rfl rfl ?_
        refine wl_val (v := .slice (some ⟨g15, 0, none⟩) T.size c11) (fun ρ e => ex_move (e _ _ rfl)) rfl rfl ?_
        refine wl_val (v := .int .i64 ((T.size : Nat) : Int)) (fun ρ e => ex_len el23 (e _ _ rfl)) rfl rfl ?_
        refine wl_val (v := .bool false) (fun ρ e => ex_cmp (u := ((U.size : Nat) : Int)) (v := ((T.size : Nat) : Int)) (e _ _ rfl) (e _ _ rfl) (neq0 (by omega))) rfl rfl ?_
        refine wl_val (v := .bool false) (fun ρ e => ex_pick0 (e _ _ rfl) (e _ _ rfl)) rfl rfl ?_
        refine wl_nil ?_
        refine xw_next K45 ?_
        refine cw_false rfl ?_
        refine cw_skip ?_
        refine xw_next K44 ?_
        refine cw_seq (fun FK49 K49 => ?_)
        refine cw_region ?_
        refine wl_val (v := .slice (some ⟨g15, 0, none⟩) T.size c11) (fun ρ e => ex_move (e _ _ rfl)) rfl rfl ?_
        refine wl_call (args := [.slice (some ⟨g15, 0, none⟩) T.size c11]) in_30 rfl rfl rfl ?_
        have hv56 := NodesD.of_row (O48.row 1 rfl)
        have hc55 := leaves_ (ts := post T 0) (hplT ▸ hv56) (fun k hk => (World.ownsRow.lt (O48.row 1 rfl) k hk).2) (by rw [hplT]; omega)
        rw [hplT, leaves_post T 0 hgd.2] at hc55
        refine hc55.mono ?_
        rintro _ w52 ⟨A50, c51, rfl, h53⟩
        have O54 := O48.join1 h53 trivial
        obtain ⟨g57, hg57⟩ := rowaddr (O54.row 0 rfl) (by have := T.size_leaves; omega)
        subst hg57
        refine ⟨_, rfl, ?_⟩
        refine wl_val (v := .slice (some ⟨g41, 0, none⟩) U.size c36) (fun ρ e => ex_move (e _ _ rfl)) rfl rfl ?_
        refine wl_call (args := [.slice (some ⟨g41, 0, none⟩) U.size c36]) in_30 rfl rfl rfl ?_
        have hv64 := NodesD.of_row (O54.row 1 rfl)
        have hc63 := leaves_ (ts := post U 0) (hplU ▸ hv64) (fun k hk => (World.ownsRow.lt (O54.row 1 rfl) k hk).2) (by rw [hplU]; omega)
        rw [hplU, leaves_post U 0 gU.2, lU] at hc63
        refine hc63.mono ?_
        rintro _ w60 ⟨A58, c59, rfl, h61⟩
        have O62 := O54.join1 h61 trivial
        obtain ⟨g65, hg65⟩ := rowaddr (O62.row 0 rfl) (by have := T.size_leaves; omega)
        subst hg65
        refine ⟨_, rfl, ?_⟩
        refine wl_val (v := .slice (some ⟨g57, 0, none⟩) T.leaves.length c51) (fun ρ e => ex_assign (e _ _ rfl)) rfl rfl ?_
        refine wl_val (v := .slice (some ⟨g65, 0, none⟩) T.leaves.length c59) (fun ρ e => ex_assign (e _ _ rfl)) rfl rfl ?_
        refine wl_nil ?_
        refine xw_next K49 ?_
        refine cw_seq (fun FK66 K66 => ?_)
        refine cw_seq (fun FK67 K67 => ?_)
        refine cw_region ?_
        refine wl_val (v := .slice (some ⟨g57, 0, none⟩) T.leaves.length c51) (fun ρ e => ex_move (e _ _ rfl)) rfl rfl ?_
        refine wl_val (v := .int .i64 ((T.leaves.length : Nat) : Int)) (fun ρ e => ex_len el36 (e _ _ rfl)) rfl rfl ?_
        refine wl_val (v := .int .i64 0) (fun ρ e => ex_move (e _ _ rfl)) rfl rfl ?_
        refine wl_nil ?_
        refine xw_next K67 ?_
        refine cw_block ?_
        have O68 : Own Z0 W w60 [.row (.slice (some ⟨g57, 0, none⟩) T.leaves.length c51) 3 1 T.leaves.length (intCs T.leaves), .row (.slice (some ⟨g65, 0, none⟩) T.leaves.length c59) 3 1 T.leaves.length (intCs T.leaves), .row (.slice (some ⟨g41, 0, none⟩) U.size c36) 38 3 U.size (ncells (post U 0)), .row (.slice (some ⟨g15, 0, none⟩) T.size c11) 38 3 T.size (ncells (post T 0))] := (O62.re [1, 0, 2, 3] rfl : Own Z0 W w60 [.row (.slice (some ⟨g57, 0, none⟩) T.leaves.length c51) 3 1 T.leaves.length (intCs T.leaves), .row (.slice (some ⟨g65, 0, none⟩) T.leaves.length c59) 3 1 T.leaves.length (intCs T.leaves), .row (.slice (some ⟨g41, 0, none⟩) U.size c36) 38 3 U.size (ncells (post U 0)), .row (.slice (some ⟨g15, 0, none⟩) T.size c11) 38 3 T.size (ncells (post T 0))])
        refine cw_loop (ι := Nat) (fun q => [(7, .slice (some ⟨g15, 0, none⟩) T.size c11), (8, .int .i64 (i : Int)), (9, .int .i64 ((0 : Nat) : Int)), (10, .slice (some ⟨g41, 0, none⟩) U.size c36), (12, .slice (some ⟨g57, 0, none⟩) T.leaves.length c51), (13, .slice (some ⟨g65, 0, none⟩) T.leaves.length c59), (36, .int .i64 ((0 : Nat) : Int)), (82, .int .i64 ((T.leaves.length : Nat) : Int)), (83, .int .i64 (q : Int))]) (fun q X => (q ≤ T.leaves.length) ∧ Own Z0 W X [.row (.slice (some ⟨g57, 0, none⟩) T.leaves.length c51) 3 1 T.leaves.length (intCs T.leaves), .row (.slice (some ⟨g65, 0, none⟩) T.leaves.length c59) 3 1 T.leaves.length (intCs T.leaves), .row (.slice (some ⟨g41, 0, none⟩) U.size c36) 38 3 U.size (ncells (post U 0)), .row (.slice (some ⟨g15, 0, none⟩) T.size c11) 38 3 T.size (ncells (post T 0))]) (fun q => T.leaves.length - q) 0 ⟨Nat.zero_le _, O68⟩ ⟨rfl, rfl, rfl, rfl, rfl, rfl, rfl, rfl, rfl, trivial⟩ (fun q w69 hJ F70 K71 => ?_)
        obtain ⟨j, rfl⟩ : ∃ x, x = q := ⟨_, rfl⟩
        obtain ⟨hj0, O72⟩ := hJ
        try dsimp only at hj0 O72 ⊢
        by_cases hj : j < T.leaves.length
        · skip
          obtain ⟨v, hv⟩ : ∃ v, T.leaves[j]? = some v := ⟨_, List.getElem?_eq_getElem hj⟩
          refine cw_seq (fun FK73 K73 => ?_)
          refine cw_region ?_
          refine wl_val (v := .bool true) (fun ρ e => ex_cmp (u := (j : Int)) (v := ((T.leaves.length : Nat) : Int)) (e _ _ rfl) (e _ _ rfl) (lss1 (by omega))) rfl rfl ?_
          refine wl_nil ?_
          refine xw_next K73 ?_
          refine cw_seq (fun FK74 K74 => ?_)
          refine cw_true rfl ?_
          refine cw_skip ?_
          refine xw_next K74 ?_
          refine cw_seq (fun FK75 K75 => ?_)
          refine cw_block ?_
          refine cw_seq (fun FK76 K76 => ?_)
          refine cw_region ?_
          refine wl_val (v := .int .i64 (j : Int)) (fun ρ e => ex_move (e _ _ rfl)) rfl rfl ?_
          refine wl_val (v := .int .i64 (j : Int)) (fun ρ e => ex_assign (e _ _ rfl)) rfl rfl ?_
          refine wl_nil ?_
          refine xw_next K76 ?_
          refine cw_seq (fun FK77 K77 => ?_)
          refine cw_drawn (fun X => Own Z0 W X [.row (.slice (some ⟨g57, 0, none⟩) T.leaves.length c51) 3 1 T.leaves.length (intCs T.leaves), .row (.slice (some ⟨g65, 0, none⟩) T.leaves.length c59) 3 1 T.leaves.length (intCs T.leaves), .row (.slice (some ⟨g41, 0, none⟩) U.size c36) 38 3 U.size (ncells (post U 0)), .row (.slice (some ⟨g15, 0, none⟩) T.size c11) 38 3 T.size (ncells (post T 0))]) 20 [(0, 1), (1, 1), (2, 1), (3, 1), (4, 1), (5, 1), (6, 1), (7, 1), (8, 1), (9, 1), (10, 1), (11, 1), (12, 0), (13, 1), (14, 1), (15, 1), (16, 0), (17, 1), (18, 1), (19, 1)] (by kernel_rfl) (by kernel_rfl) (PQ.then_ (PQ.block (PQ.then_ (PQ.then_ (PQ.block (PQ.then_ (PQ.block (PQ.then_ (PQ.then_ (PQ.block (PQ.then_ PQ.body))))))))))) (O72).drew ?_
          have O78 : Own Z0 W w69.drew [.row (.slice (some ⟨g57, 0, none⟩) T.leaves.length c51) 3 1 T.leaves.length (intCs T.leaves), .row (.slice (some ⟨g65, 0, none⟩) T.leaves.length c59) 3 1 T.leaves.length (intCs T.leaves), .row (.slice (some ⟨g41, 0, none⟩) U.size c36) 38 3 U.size (ncells (post U 0)), .row (.slice (some ⟨g15, 0, none⟩) T.size c11) 38 3 T.size (ncells (post T 0))] := O72.drew
          refine wt1 (v := .int .i64 ((0 : Nat) : Int)) rfl (fun ρ e W => ex_move (e _ _ rfl)) rfl rfl ?_
          refine wt1 (v := .bool true) rfl (fun ρ e W => ex_cmp (u := ((0 : Nat) : Int)) (v := 2) (e _ _ rfl) (e _ _ rfl) (lss1 (by omega))) rfl rfl ?_
          refine wt1 (v := .bool true) rfl (fun ρ e W => ex_move (e _ _ rfl)) rfl rfl ?_
          refine wt1 (v := .slice (some ⟨g65, 0, none⟩) T.leaves.length c59) rfl (fun ρ e W => ex_move (e _ _ rfl)) rfl rfl ?_
          refine wt1 (v := .int .i64 ((T.leaves.length : Nat) : Int)) rfl (fun ρ e W => ex_len el36 (e _ _ rfl)) rfl rfl ?_
          refine wt1 (v := .slice (some ⟨g57, 0, none⟩) T.leaves.length c51) rfl (fun ρ e W => ex_move (e _ _ rfl)) rfl rfl ?_
          refine wt1 (v := .int .i64 ((T.leaves.length : Nat) : Int)) rfl (fun ρ e W => ex_len el36 (e _ _ rfl)) rfl rfl ?_
          refine wt1 (v := .bool false) rfl (fun ρ e W => ex_cmp (u := ((T.leaves.length : Nat) : Int)) (v := ((T.leaves.length : Nat) : Int)) (e _ _ rfl) (e _ _ rfl) (neq0 rfl)) rfl rfl ?_
          refine wt1 (v := .bool false) rfl (fun ρ e W => ex_move (e _ _ rfl)) rfl rfl ?_
          refine wt1 (v := .slice (some ⟨g57, 0, none⟩) T.leaves.length c51) rfl (fun ρ e W => ex_move (e _ _ rfl)) rfl rfl ?_
          refine wt1 (v := .int .i64 (j : Int)) rfl (fun ρ e W => ex_move (e _ _ rfl)) rfl rfl ?_
          refine wt1 (v := .pointer (some ⟨g57, j, none⟩)) rfl (fun ρ e W => ex_idx (q := j) (i := j) el36 (e _ _ rfl) (e _ _ rfl) (by omega) (by omega)) rfl rfl ?_
          refine wt0 (v := .int .i64 v) rfl (fun ρ e W hW => ex_load1 ty3 (e _ _ rfl) (rowcell (hW.row 0 rfl) (intCs_get hv))) rfl rfl ?_
          refine wt1 (v := .slice (some ⟨g65, 0, none⟩) T.leaves.length c59) rfl (fun ρ e W => ex_move (e _ _ rfl)) rfl rfl ?_
          refine wt1 (v := .int .i64 (j : Int)) rfl (fun ρ e W => ex_move (e _ _ rfl)) rfl rfl ?_
          refine wt1 (v := .pointer (some ⟨g65, j, none⟩)) rfl (fun ρ e W => ex_idx (q := j) (i := j) el36 (e _ _ rfl) (e _ _ rfl) (by omega) (by omega)) rfl rfl ?_
          refine wt0 (v := .int .i64 v) rfl (fun ρ e W hW => ex_load1 ty3 (e _ _ rfl) (rowcell (hW.row 1 rfl) (intCs_get hv))) rfl rfl ?_
          refine wt1 (v := .bool false) rfl (fun ρ e W => ex_cmp (u := v) (v := v) (e _ _ rfl) (e _ _ rfl) (neq0 rfl)) rfl rfl ?_
          refine wt1 (v := .bool false) rfl (fun ρ e W => ex_pick0 (e _ _ rfl) (e _ _ rfl)) rfl rfl ?_
          refine wt1 (v := .bool false) rfl (fun ρ e W => ex_pick1 (e _ _ rfl) (e _ _ rfl)) rfl rfl ?_
          refine wt_nil ?_
          refine xw_next K77 ?_
          refine cw_false rfl ?_
          refine cw_skip ?_
          refine xw_block ?_
          refine xw_next K75 ?_
          refine cw_region ?_
          refine wl_val (v := .int .i64 ((j + 1 : Nat) : Int)) (fun ρ e => ex_arith (k := .i64) (u := (j : Int)) (v := 1) (e _ _ rfl) (e _ _ rfl) (congrArg some ((congrArg _ (by omega)).trans (wrap_in (u := ((j + 1 : Nat) : Int)) (by omega) (by omega))))) rfl rfl ?_
          refine wl_val (v := .int .i64 ((j + 1 : Nat) : Int)) (fun ρ e => ex_move (e _ _ rfl)) rfl rfl ?_
          refine wl_nil ?_
          refine xw_round K71 (j + 1) (by show T.leaves.length - (j + 1) < T.leaves.length - j; omega) ⟨(by show j + 1 ≤ T.leaves.length; omega), O78⟩ ⟨rfl, rfl, rfl, rfl, rfl, rfl, rfl, rfl, rfl, trivial⟩
        · skip
          refine cw_seq (fun FK79 K79 => ?_)
          refine cw_region ?_
          refine wl_val (v := .bool false) (fun ρ e => ex_cmp (u := (j : Int)) (v := ((T.leaves.length : Nat) : Int)) (e _ _ rfl) (e _ _ rfl) (lss0 (by omega))) rfl rfl ?_
          refine wl_nil ?_
          refine xw_next K79 ?_
          refine cw_seq (fun FK80 K80 => ?_)
          refine cw_false rfl ?_
          refine cw_exit ?_
          refine xw_past (by intro h; cases h) ?_
          refine xw_past (by intro h; cases h) ?_
          refine xw_here ?_
          refine xw_next K66 ?_
          refine cw_seq (fun FK81 K81 => ?_)
          refine cw_region ?_
          obtain ⟨g82, w83, r84, O85, hg86, hs87⟩ := own_makeMap O72 61
          refine wl_val (v := .map (some g82)) (fun ρ e => r84 ρ _ _ _ _ _) rfl rfl ?_
          refine wl_val (v := .map (some g82)) (fun ρ e => ex_assign (e _ _ rfl)) rfl rfl ?_
          refine wl_nil ?_
          refine xw_next K81 ?_
          refine cw_seq (fun FK88 K88 => ?_)
          refine cw_seq (fun FK89 K89 => ?_)
          refine cw_region ?_
          refine wl_val (v := .slice (some ⟨g15, 0, none⟩) T.size c11) (fun ρ e => ex_move (e _ _ rfl)) rfl rfl ?_
          refine wl_call (args := [.slice (some ⟨g15, 0, none⟩) T.size c11]) in_44 rfl rfl rfl ?_
          have hv96 := NodesD.of_row (O85.row 4 rfl)
          have hc94 := vvars_ok (ts := post T 0) (hplT ▸ hv96) (fun k hk => (World.ownsRow.lt (O85.row 4 rfl) k hk).2) (post_ok hgd)
          rw [hplT] at hc94
          refine hc94.mono ?_
          rintro _ w91 ⟨g95, c90, rfl, h92⟩
          have O93 := O85.join1 h92 trivial
          refine ⟨_, rfl, ?_⟩
          refine wl_val (v := .int .i64 ((T.size : Nat) : Int)) (fun ρ e => ex_len el53 (e _ _ rfl)) rfl rfl ?_
          refine wl_val (v := .int .i64 0) (fun ρ e => ex_move (e _ _ rfl)) rfl rfl ?_
          refine wl_nil ?_
          refine xw_next K89 ?_
          refine cw_block ?_
          have O97 : Own Z0 W w91 [.map g82 (encL encS []), .row (.slice (some ⟨g95, 0, none⟩) T.size c90) 57 2 T.size (vcells (setsOf (post T 0))), .row (.slice (some ⟨g41, 0, none⟩) U.size c36) 38 3 U.size (ncells (post U 0)), .row (.slice (some ⟨g15, 0, none⟩) T.size c11) 38 3 T.size (ncells (post T 0))] := (O93.re [1, 0, 4, 5] rfl : Own Z0 W w91 [.map g82 ([]), .row (.slice (some ⟨g95, 0, none⟩) T.size c90) 57 2 T.size (vcells (setsOf (post T 0))), .row (.slice (some ⟨g41, 0, none⟩) U.size c36) 38 3 U.size (ncells (post U 0)), .row (.slice (some ⟨g15, 0, none⟩) T.size c11) 38 3 T.size (ncells (post T 0))])
          refine cw_loop (ι := Nat × List (VS × Value)) (fun q => [(7, .slice (some ⟨g15, 0, none⟩) T.size c11), (8, .int .i64 (i : Int)), (9, .int .i64 ((0 : Nat) : Int)), (10, .slice (some ⟨g41, 0, none⟩) U.size c36), (15, .map (some g82)), (36, .int .i64 ((0 : Nat) : Int)), (109, .slice (some ⟨g95, 0, none⟩) T.size c90), (110, .int .i64 ((T.size : Nat) : Int)), (111, .int .i64 (q.1 : Int))]) (fun q X => (q.1 ≤ T.size) ∧ (Holds q.2 ((setsOf (post T 0)).take q.1)) ∧ Own Z0 W X [.map g82 (encL encS q.2), .row (.slice (some ⟨g95, 0, none⟩) T.size c90) 57 2 T.size (vcells (setsOf (post T 0))), .row (.slice (some ⟨g41, 0, none⟩) U.size c36) 38 3 U.size (ncells (post U 0)), .row (.slice (some ⟨g15, 0, none⟩) T.size c11) 38 3 T.size (ncells (post T 0))]) (fun q => T.size - q.1) (0, []) ⟨Nat.zero_le _, (by rw [List.take_zero]; exact holds_nil), O97⟩ ⟨rfl, rfl, rfl, rfl, rfl, rfl, rfl, rfl, rfl, trivial⟩ (fun q w98 hJ F99 K100 => ?_)
          obtain ⟨j, l⟩ := q
          obtain ⟨hj0, hold, O101⟩ := hJ
          dsimp only at hj0 hold O101 ⊢
          by_cases hj : j < T.size
          · skip
            obtain ⟨sv, hsv⟩ : ∃ s, (setsOf (post T 0))[j]? = some s := ⟨_, List.getElem?_eq_getElem (show j < (setsOf (post T 0)).length by rw [setsOf_len, hplT]; exact hj)⟩
            refine cw_seq (fun FK102 K102 => ?_)
            refine cw_region ?_
            refine wl_val (v := .bool true) (fun ρ e => ex_cmp (u := (j : Int)) (v := ((T.size : Nat) : Int)) (e _ _ rfl) (e _ _ rfl) (lss1 (by omega))) rfl rfl ?_
            refine wl_nil ?_
            refine xw_next K102 ?_
            refine cw_seq (fun FK103 K103 => ?_)
            refine cw_true rfl ?_
            refine cw_skip ?_
            refine xw_next K103 ?_
            refine cw_seq (fun FK104 K104 => ?_)
            refine cw_block ?_
            refine cw_seq (fun FK105 K105 => ?_)
            refine cw_region ?_
            refine wl_val (v := .pointer (some ⟨g95, j * 2, none⟩)) (fun ρ e => ex_idx (q := j * 2) (i := j) el53 (e _ _ rfl) (e _ _ rfl) (by omega) (by omega)) rfl rfl ?_
            refine wl_val (v := .agg #[.int .u64 (sv.a.toNat : Int), .int .u64 (sv.b.toNat : Int)]) (fun ρ e => ex_loadN (vs := [.int .u64 (sv.a.toNat : Int), .int .u64 (sv.b.toNat : Int)]) ty57 (e _ _ rfl) rfl (cells2 (rowcell (O101.row 1 rfl) (vcells_get hsv).1) (rowcell (O101.row 1 rfl) (vcells_get hsv).2))) rfl rfl ?_
            obtain ⟨g106, w107, r108, O109, hg110, hs111⟩ := own_alloc O101 57 ze57 rfl
            refine wl_val (v := .pointer (some ⟨g106, 0, none⟩)) (fun ρ e => r108 ρ _ _ _ _ _) rfl rfl ?_
            obtain ⟨w112, r113, O114, hs115⟩ := own_put (o := 0) (n := 2) O109 ty57 (.agg #[.int .u64 (sv.a.toNat : Int), .int .u64 (sv.b.toNat : Int)]) [.int .u64 (sv.a.toNat : Int), .int .u64 (sv.b.toNat : Int)] (cs' := #[.int .u64 (sv.a.toNat : Int), .int .u64 (sv.b.toNat : Int)]) rfl rfl rfl (Nat.le_of_ble_eq_true rfl) rfl
            refine wl_none (fun ρ e => r113 ρ _ _ _ _ _ _ (e _ _ rfl) (e _ _ rfl)) rfl ?_
            refine wl_nil ?_
            refine xw_next K105 ?_
            refine cw_region ?_
            refine wl_val (v := .map (some g82)) (fun ρ e => ex_move (e _ _ rfl)) rfl rfl ?_
            refine wl_val (v := .agg #[.int .u64 (sv.a.toNat : Int), .int .u64 (sv.b.toNat : Int)]) (fun ρ e => ex_loadN (vs := [.int .u64 (sv.a.toNat : Int), .int .u64 (sv.b.toNat : Int)]) ty57 (e _ _ rfl) rfl (O114.cells 0 0 rfl rfl)) rfl rfl ?_
            obtain ⟨w116, r117, O118, hs119⟩ := own_mapputS (O114.re [1, 0, 2, 3, 4] rfl : Own Z0 W w112 [.map g82 (encL encS l), .blk g106 57 #[.int .u64 (sv.a.toNat : Int), .int .u64 (sv.b.toNat : Int)], .row (.slice (some ⟨g95, 0, none⟩) T.size c90) 57 2 T.size (vcells (setsOf (post T 0))), .row (.slice (some ⟨g41, 0, none⟩) U.size c36) 38 3 U.size (ncells (post U 0)), .row (.slice (some ⟨g15, 0, none⟩) T.size c11) 38 3 T.size (ncells (post T 0))]) Tryd.underlying61 sv (.bool true)
            refine wl_none (fun ρ e => r117 ρ _ _ _ _ _ _ _ (e _ _ rfl) (e _ _ rfl) (e _ _ rfl)) rfl ?_
            refine wl_nil ?_
            refine xw_block ?_
            refine xw_next K104 ?_
            refine cw_region ?_
            refine wl_val (v := .int .i64 ((j + 1 : Nat) : Int)) (fun ρ e => ex_arith (k := .i64) (u := (j : Int)) (v := 1) (e _ _ rfl) (e _ _ rfl) (congrArg some ((congrArg _ (by omega)).trans (wrap_in (u := ((j + 1 : Nat) : Int)) (by omega) (by omega))))) rfl rfl ?_
            refine wl_val (v := .int .i64 ((j + 1 : Nat) : Int)) (fun ρ e => ex_move (e _ _ rfl)) rfl rfl ?_
            refine wl_nil ?_
            refine xw_round K100 (j + 1, (aput sv (.bool true) l)) (by show T.size - (j + 1) < T.size - j; omega) ⟨(by show j + 1 ≤ T.size; omega), (hold.step hsv), (O118.re [0, 2, 3, 4] rfl : Own Z0 W w116 [.map g82 (encL encS (aput sv (.bool true) l)), .row (.slice (some ⟨g95, 0, none⟩) T.size c90) 57 2 T.size (vcells (setsOf (post T 0))), .row (.slice (some ⟨g41, 0, none⟩) U.size c36) 38 3 U.size (ncells (post U 0)), .row (.slice (some ⟨g15, 0, none⟩) T.size c11) 38 3 T.size (ncells (post T 0))])⟩ ⟨rfl, rfl, rfl, rfl, rfl, rfl, rfl, rfl, rfl, trivial⟩
          · have hje : j = T.size := by omega
            have hold2 := hold
            rw [hje, ← hplT, ← setsOf_len (post T 0), List.take_length] at hold2
            clear hold
            have hold := hold2
            refine cw_seq (fun FK120 K120 => ?_)
            refine cw_region ?_
            refine wl_val (v := .bool false) (fun ρ e => ex_cmp (u := (j : Int)) (v := ((T.size : Nat) : Int)) (e _ _ rfl) (e _ _ rfl) (lss0 (by omega))) rfl rfl ?_
            refine wl_nil ?_
            refine xw_next K120 ?_
            refine cw_seq (fun FK121 K121 => ?_)
            refine cw_false rfl ?_
            refine cw_exit ?_
            refine xw_past (by intro h; cases h) ?_
            refine xw_past (by intro h; cases h) ?_
            refine xw_here ?_
            refine xw_next K88 ?_
            refine cw_seq (fun FK122 K122 => ?_)
            refine cw_region ?_
            refine wl_val (v := .int .i64 0) (fun ρ e => ex_assign (e _ _ rfl)) rfl rfl ?_
            refine wl_nil ?_
            refine xw_next K122 ?_
            refine cw_seq (fun FK123 K123 => ?_)
            refine cw_seq (fun FK124 K124 => ?_)
            refine cw_region ?_
            refine wl_val (v := .slice (some ⟨g41, 0, none⟩) U.size c36) (fun ρ e => ex_move (e _ _ rfl)) rfl rfl ?_
            refine wl_call (args := [.slice (some ⟨g41, 0, none⟩) U.size c36]) in_44 rfl rfl rfl ?_
            have hv131 := NodesD.of_row (O101.row 2 rfl)
            have hc129 := vvars_ok (ts := post U 0) (hplU ▸ hv131) (fun k hk => (World.ownsRow.lt (O101.row 2 rfl) k hk).2) (post_ok gU)
            rw [hplU] at hc129
            refine hc129.mono ?_
            rintro _ w126 ⟨g130, c125, rfl, h127⟩
            have O128 := O101.join1 h127 trivial
            refine ⟨_, rfl, ?_⟩
            refine wl_val (v := .int .i64 ((U.size : Nat) : Int)) (fun ρ e => ex_len el53 (e _ _ rfl)) rfl rfl ?_
            refine wl_val (v := .int .i64 0) (fun ρ e => ex_move (e _ _ rfl)) rfl rfl ?_
            refine wl_nil ?_
            refine xw_next K124 ?_
            refine cw_block ?_
            have O132 : Own Z0 W w126 [.map g82 (encL encS l), .row (.slice (some ⟨g130, 0, none⟩) U.size c125) 57 2 U.size (vcells (setsOf (post U 0))), .row (.slice (some ⟨g15, 0, none⟩) T.size c11) 38 3 T.size (ncells (post T 0))] := (O128.re [1, 0, 4] rfl : Own Z0 W w126 [.map g82 (encL encS l), .row (.slice (some ⟨g130, 0, none⟩) U.size c125) 57 2 U.size (vcells (setsOf (post U 0))), .row (.slice (some ⟨g15, 0, none⟩) T.size c11) 38 3 T.size (ncells (post T 0))])
            have hn0 : 0 = newOf (setsOf (post T 0)) ((setsOf (post U 0)).take 0) := by rw [List.take_zero]; rfl
            refine cw_loop (ι := Nat × Nat) (fun q => [(7, .slice (some ⟨g15, 0, none⟩) T.size c11), (8, .int .i64 (i : Int)), (9, .int .i64 ((0 : Nat) : Int)), (15, .map (some g82)), (36, .int .i64 ((0 : Nat) : Int)), (119, .slice (some ⟨g130, 0, none⟩) U.size c125), (120, .int .i64 ((U.size : Nat) : Int)), (18, .int .i64 (q.2 : Int)), (121, .int .i64 (q.1 : Int))]) (fun q X => (q.1 ≤ U.size) ∧ (q.2 = newOf (setsOf (post T 0)) ((setsOf (post U 0)).take q.1)) ∧ Own Z0 W X [.map g82 (encL encS l), .row (.slice (some ⟨g130, 0, none⟩) U.size c125) 57 2 U.size (vcells (setsOf (post U 0))), .row (.slice (some ⟨g15, 0, none⟩) T.size c11) 38 3 T.size (ncells (post T 0))]) (fun q => U.size - q.1) (0, 0) ⟨Nat.zero_le _, hn0, O132⟩ ⟨rfl, rfl, rfl, rfl, rfl, rfl, rfl, rfl, rfl, trivial⟩ (fun q w133 hJ F134 K135 => ?_)
            obtain ⟨j, cn⟩ := q
            obtain ⟨hj0, hcn, O136⟩ := hJ
            dsimp only at hj0 hcn O136 ⊢
            by_cases hj : j < U.size
            · skip
              obtain ⟨sv, hsv⟩ : ∃ s, (setsOf (post U 0))[j]? = some s := ⟨_, List.getElem?_eq_getElem (show j < (setsOf (post U 0)).length by rw [setsOf_len, hplU]; exact hj)⟩
              have hcb : cn ≤ j := by rw [hcn]; exact newOf_le _ _ _
              refine cw_seq (fun FK137 K137 => ?_)
              refine cw_region ?_
              refine wl_val (v := .bool true) (fun ρ e => ex_cmp (u := (j : Int)) (v := ((U.size : Nat) : Int)) (e _ _ rfl) (e _ _ rfl) (lss1 (by omega))) rfl rfl ?_
              refine wl_nil ?_
              refine xw_next K137 ?_
              refine cw_seq (fun FK138 K138 => ?_)
              refine cw_true rfl ?_
              refine cw_skip ?_
              refine xw_next K138 ?_
              refine cw_seq (fun FK139 K139 => ?_)
              refine cw_block ?_
              refine cw_seq (fun FK140 K140 => ?_)
              refine cw_region ?_
              refine wl_val (v := .pointer (some ⟨g130, j * 2, none⟩)) (fun ρ e => ex_idx (q := j * 2) (i := j) el53 (e _ _ rfl) (e _ _ rfl) (by omega) (by omega)) rfl rfl ?_
              refine wl_val (v := .agg #[.int .u64 (sv.a.toNat : Int), .int .u64 (sv.b.toNat : Int)]) (fun ρ e => ex_loadN (vs := [.int .u64 (sv.a.toNat : Int), .int .u64 (sv.b.toNat : Int)]) ty57 (e _ _ rfl) rfl (cells2 (rowcell (O136.row 1 rfl) (vcells_get hsv).1) (rowcell (O136.row 1 rfl) (vcells_get hsv).2))) rfl rfl ?_
              obtain ⟨g141, w142, r143, O144, hg145, hs146⟩ := own_alloc O136 57 ze57 rfl
              refine wl_val (v := .pointer (some ⟨g141, 0, none⟩)) (fun ρ e => r143 ρ _ _ _ _ _) rfl rfl ?_
              obtain ⟨w147, r148, O149, hs150⟩ := own_put (o := 0) (n := 2) O144 ty57 (.agg #[.int .u64 (sv.a.toNat : Int), .int .u64 (sv.b.toNat : Int)]) [.int .u64 (sv.a.toNat : Int), .int .u64 (sv.b.toNat : Int)] (cs' := #[.int .u64 (sv.a.toNat : Int), .int .u64 (sv.b.toNat : Int)]) rfl rfl rfl (Nat.le_of_ble_eq_true rfl) rfl
              refine wl_none (fun ρ e => r148 ρ _ _ _ _ _ _ (e _ _ rfl) (e _ _ rfl)) rfl ?_
              refine wl_nil ?_
              refine xw_next K140 ?_
              refine cw_seq (fun FK151 K151 => ?_)
              refine cw_region ?_
              refine wl_val (v := .map (some g82)) (fun ρ e => ex_move (e _ _ rfl)) rfl rfl ?_
              refine wl_val (v := .agg #[.int .u64 (sv.a.toNat : Int), .int .u64 (sv.b.toNat : Int)]) (fun ρ e => ex_loadN (vs := [.int .u64 (sv.a.toNat : Int), .int .u64 (sv.b.toNat : Int)]) ty57 (e _ _ rfl) rfl (O149.cells 0 0 rfl rfl)) rfl rfl ?_
              refine wl_val (v := .bool (decide (sv ∈ (setsOf (post T 0))))) (fun ρ e => ex_lookS Tryd.underlying61 ze4 (O149.map 1 rfl) sv (hold.at_ sv) (e _ _ rfl) (e _ _ rfl)) rfl rfl ?_
              refine wl_val (v := .bool (!(decide (sv ∈ (setsOf (post T 0)))))) (fun ρ e => ex_lnot (b := (decide (sv ∈ (setsOf (post T 0))))) (e _ _ rfl)) rfl rfl ?_
              refine wl_nil ?_
              refine xw_next K151 ?_
              refine cw_cond (b := (!(decide (sv ∈ (setsOf (post T 0)))))) rfl (fun c152 => ?_) (fun c152 => ?_)
              · skip
                refine cw_region ?_
                refine wl_val (v := .int .i64 (cn : Int)) (fun ρ e => ex_move (e _ _ rfl)) rfl rfl ?_
                refine wl_val (v := .int .i64 ((cn + 1 : Nat) : Int)) (fun ρ e => ex_arith (k := .i64) (u := (cn : Int)) (v := 1) (e _ _ rfl) (e _ _ rfl) (congrArg some ((congrArg _ (by omega)).trans (wrap_in (u := ((cn + 1 : Nat) : Int)) (by omega) (by omega))))) rfl rfl ?_
                refine wl_val (v := .int .i64 ((cn + 1 : Nat) : Int)) (fun ρ e => ex_assign (e _ _ rfl)) rfl rfl ?_
                refine wl_nil ?_
                refine xw_block ?_
                refine xw_next K139 ?_
                refine cw_region ?_
                refine wl_val (v := .int .i64 ((j + 1 : Nat) : Int)) (fun ρ e => ex_arith (k := .i64) (u := (j : Int)) (v := 1) (e _ _ rfl) (e _ _ rfl) (congrArg some ((congrArg _ (by omega)).trans (wrap_in (u := ((j + 1 : Nat) : Int)) (by omega) (by omega))))) rfl rfl ?_
                refine wl_val (v := .int .i64 ((j + 1 : Nat) : Int)) (fun ρ e => ex_move (e _ _ rfl)) rfl rfl ?_
                refine wl_nil ?_
                refine xw_round K135 (j + 1, cn + 1) (by show U.size - (j + 1) < U.size - j; omega) ⟨(by show j + 1 ≤ U.size; omega), (by show cn + 1 = newOf (setsOf (post T 0)) ((setsOf (post U 0)).take (j + 1)); have h9 := newOf_step (S := (setsOf (post T 0))) hsv; rw [if_pos (by simpa using c152)] at h9; omega), (O149.re [1, 2, 3] rfl : Own Z0 W w147 [.map g82 (encL encS l), .row (.slice (some ⟨g130, 0, none⟩) U.size c125) 57 2 U.size (vcells (setsOf (post U 0))), .row (.slice (some ⟨g15, 0, none⟩) T.size c11) 38 3 T.size (ncells (post T 0))])⟩ ⟨rfl, rfl, rfl, rfl, rfl, rfl, rfl, rfl, rfl, trivial⟩
              · skip
                refine cw_skip ?_
                refine xw_block ?_
                refine xw_next K139 ?_
                refine cw_region ?_
                refine wl_val (v := .int .i64 ((j + 1 : Nat) : Int)) (fun ρ e => ex_arith (k := .i64) (u := (j : Int)) (v := 1) (e _ _ rfl) (e _ _ rfl) (congrArg some ((congrArg _ (by omega)).trans (wrap_in (u := ((j + 1 : Nat) : Int)) (by omega) (by omega))))) rfl rfl ?_
                refine wl_val (v := .int .i64 ((j + 1 : Nat) : Int)) (fun ρ e => ex_move (e _ _ rfl)) rfl rfl ?_
                refine wl_nil ?_
                refine xw_round K135 (j + 1, cn) (by show U.size - (j + 1) < U.size - j; omega) ⟨(by show j + 1 ≤ U.size; omega), (by show cn = newOf (setsOf (post T 0)) ((setsOf (post U 0)).take (j + 1)); have h9 := newOf_step (S := (setsOf (post T 0))) hsv; rw [if_neg (by simpa using c152)] at h9; omega), (O149.re [1, 2, 3] rfl : Own Z0 W w147 [.map g82 (encL encS l), .row (.slice (some ⟨g130, 0, none⟩) U.size c125) 57 2 U.size (vcells (setsOf (post U 0))), .row (.slice (some ⟨g15, 0, none⟩) T.size c11) 38 3 T.size (ncells (post T 0))])⟩ ⟨rfl, rfl, rfl, rfl, rfl, rfl, rfl, rfl, rfl, trivial⟩
            · have hje : j = U.size := by omega
              rw [hje, ← hplU, ← setsOf_len (post U 0), List.take_length, hcount] at hcn
              obtain rfl : cn = 1 := by simpa using hcn
              refine cw_seq (fun FK153 K153 => ?_)
              refine cw_region ?_
              refine wl_val (v := .bool false) (fun ρ e => ex_cmp (u := (j : Int)) (v := ((U.size : Nat) : Int)) (e _ _ rfl) (e _ _ rfl) (lss0 (by omega))) rfl rfl ?_
              refine wl_nil ?_
              refine xw_next K153 ?_
              refine cw_seq (fun FK154 K154 => ?_)
              refine cw_false rfl ?_
              refine cw_exit ?_
              refine xw_past (by intro h; cases h) ?_
              refine xw_past (by intro h; cases h) ?_
              refine xw_here ?_
              refine xw_next K123 ?_
              refine cw_seq (fun FK155 K155 => ?_)
              refine cw_region ?_
              refine wl_val (v := .int .i64 ((0 : Nat) : Int)) (fun ρ e => ex_move (e _ _ rfl)) rfl rfl ?_
              refine wl_val (v := .bool true) (fun ρ e => ex_cmp (u := ((0 : Nat) : Int)) (v := 2) (e _ _ rfl) (e _ _ rfl) (lss1 (by omega))) rfl rfl ?_
              refine wl_val (v := .bool true) (fun ρ e => ex_move (e _ _ rfl)) rfl rfl ?_
              refine wl_val (v := .int .i64 ((1 : Nat) : Int)) (fun ρ e => ex_move (e _ _ rfl)) rfl rfl ?_
              refine wl_val (v := .bool false) (fun ρ e => ex_cmp (u := ((1 : Nat) : Int)) (v := 1) (e _ _ rfl) (e _ _ rfl) (neq0 (by omega))) rfl rfl ?_
              refine wl_val (v := .bool false) (fun ρ e => ex_pick1 (e _ _ rfl) (e _ _ rfl)) rfl rfl ?_
              refine wl_val (v := .bool false) (fun ρ e => ex_move (e _ _ rfl)) rfl rfl ?_
              refine wl_val (v := .int .i64 ((0 : Nat) : Int)) (fun ρ e => ex_move (e _ _ rfl)) rfl rfl ?_
              refine wl_val (v := .bool false) (fun ρ e => ex_cmp (u := ((0 : Nat) : Int)) (v := 2) (e _ _ rfl) (e _ _ rfl) (eql0 (by omega))) rfl rfl ?_
              refine wl_val (v := .bool false) (fun ρ e => ex_move (e _ _ rfl)) rfl rfl ?_
              refine wl_skip rfl rfl ?_
              refine wl_skip rfl rfl ?_
              refine wl_val (v := .bool false) (fun ρ e => ex_pick0 (e _ _ rfl) (e _ _ rfl)) rfl rfl ?_
              refine wl_val (v := .bool false) (fun ρ e => ex_pick0 (e _ _ rfl) (e _ _ rfl)) rfl rfl ?_
              refine wl_nil ?_
              refine xw_next K155 ?_
              refine cw_false rfl ?_
              refine cw_skip ?_
              refine xw_block ?_
              refine xw_next K28 ?_
              refine cw_region ?_
              refine wl_val (v := .int .i64 ((0 + 1 : Nat) : Int)) (fun ρ e => ex_arith (k := .i64) (u := ((0 : Nat) : Int)) (v := 1) (e _ _ rfl) (e _ _ rfl) (congrArg some ((congrArg _ (by omega)).trans (wrap_in (u := ((0 + 1 : Nat) : Int)) (by omega) (by omega))))) rfl rfl ?_
              refine wl_val (v := .int .i64 ((0 + 1 : Nat) : Int)) (fun ρ e => ex_move (e _ _ rfl)) rfl rfl ?_
              refine wl_nil ?_
              refine xw_round K24 (0 + 1) (by show 3 - (0 + 1) < 3 - 0; omega) ⟨(by show 0 + 1 ≤ 3; omega), (O136.re [2] rfl : Own Z0 W w133 [.row (.slice (some ⟨g15, 0, none⟩) T.size c11) 38 3 T.size (ncells (post T 0))])⟩ ⟨rfl, rfl, rfl, trivial⟩
      · skip
        have hU : tAt 1 T 0 i = none := by simpa using c34
        refine wl_call (args := [.slice (some ⟨g15, 0, none⟩) T.size c11, .int .i64 (i : Int)]) in_32 rfl rfl rfl ?_
        have hc161 := rotr_ (NodesD.of_row (O25.row 0 rfl)) (fun k hk => (World.ownsRow.lt (O25.row 0 rfl) k hk).2) (i : Int)
        rw [show movOf (post T 0) 1 (i : Int) = (([] : List VN), 1) from mov_none hgd (by omega) li hU] at hc161
        refine hc161.mono ?_
        rintro _ w158 ⟨A156, c157, rfl, h159⟩
        have O160 := O25.join1 h159 trivial
        refine ⟨_, rfl, ?_⟩
        refine wl_val (v := .tuple #[.slice A156 (([] : List VN).length) c157, .int .i64 1]) (fun ρ e => ex_move (e _ _ rfl)) rfl rfl ?_
        refine wl_val (v := .slice A156 (([] : List VN).length) c157) (fun ρ e => ex_extract (vs := #[.slice A156 (([] : List VN).length) c157, .int .i64 1]) (e _ _ rfl) rfl) rfl rfl ?_
        refine wl_val (v := .int .i64 1) (fun ρ e => ex_extract (vs := #[.slice A156 (([] : List VN).length) c157, .int .i64 1]) (e _ _ rfl) rfl) rfl rfl ?_
        refine wl_val (v := .slice A156 (([] : List VN).length) c157) (fun ρ e => ex_assign (e _ _ rfl)) rfl rfl ?_
        refine wl_val (v := .int .i64 1) (fun ρ e => ex_assign (e _ _ rfl)) rfl rfl ?_
        refine wl_nil ?_
        refine xw_block ?_
        refine xw_next K31 ?_
        refine cw_seq (fun FK162 K162 => ?_)
        refine cw_seq (fun FK163 K163 => ?_)
        refine cw_region ?_
        refine wl_val (v := .int .i64 1) (fun ρ e => ex_move (e _ _ rfl)) rfl rfl ?_
        refine wl_val (v := .bool true) (fun ρ e => ex_cmp (u := 1) (v := 0) (e _ _ rfl) (e _ _ rfl) (neq1 (by omega))) rfl rfl ?_
        refine wl_nil ?_
        refine xw_next K163 ?_
        refine cw_true rfl ?_
        refine cw_exit ?_
        refine xw_past (by intro h; cases h) ?_
        refine xw_here ?_
        refine xw_next K28 ?_
        refine cw_region ?_
        refine wl_val (v := .int .i64 ((0 + 1 : Nat) : Int)) (fun ρ e => ex_arith (k := .i64) (u := ((0 : Nat) : Int)) (v := 1) (e _ _ rfl) (e _ _ rfl) (congrArg some ((congrArg _ (by omega)).trans (wrap_in (u := ((0 + 1 : Nat) : Int)) (by omega) (by omega))))) rfl rfl ?_
        refine wl_val (v := .int .i64 ((0 + 1 : Nat) : Int)) (fun ρ e => ex_move (e _ _ rfl)) rfl rfl ?_
        refine wl_nil ?_
        refine xw_round K24 (0 + 1) (by show 3 - (0 + 1) < 3 - 0; omega) ⟨(by show 0 + 1 ≤ 3; omega), (O160.re [1] rfl : Own Z0 W w158 [.row (.slice (some ⟨g15, 0, none⟩) T.size c11) 38 3 T.size (ncells (post T 0))])⟩ ⟨rfl, rfl, rfl, trivial⟩
    · skip
      refine cw_seq (fun FK164 K164 => ?_)
      refine cw_region ?_
      refine wl_val (v := .bool true) (fun ρ e => ex_cmp (u := ((1 : Nat) : Int)) (v := 3) (e _ _ rfl) (e _ _ rfl) (lss1 (by omega))) rfl rfl ?_
      refine wl_nil ?_
      refine xw_next K164 ?_
      refine cw_seq (fun FK165 K165 => ?_)
      refine cw_true rfl ?_
      refine cw_skip ?_
      refine xw_next K165 ?_
      refine cw_seq (fun FK166 K166 => ?_)
      refine cw_block ?_
      refine cw_seq (fun FK167 K167 => ?_)
      refine cw_region ?_
      refine wl_val (v := .int .i64 ((1 : Nat) : Int)) (fun ρ e => ex_move (e _ _ rfl)) rfl rfl ?_
      refine wl_val (v := .int .i64 ((1 : Nat) : Int)) (fun ρ e => ex_assign (e _ _ rfl)) rfl rfl ?_
      refine wl_nil ?_
      refine xw_next K167 ?_
      refine cw_seq (fun FK168 K168 => ?_)
      refine cw_region ?_
      refine wl_val (v := .slice (some ⟨g15, 0, none⟩) T.size c11) (fun ρ e => ex_move (e _ _ rfl)) rfl rfl ?_
      refine wl_val (v := .slice (some ⟨g15, 0, none⟩) T.size c11) (fun ρ e => ex_assign (e _ _ rfl)) rfl rfl ?_
      refine wl_val (v := .int .i64 0) (fun ρ e => ex_assign (e _ _ rfl)) rfl rfl ?_
      refine wl_nil ?_
      refine xw_next K168 ?_
      refine cw_seq (fun FK169 K169 => ?_)
      refine cw_seq (fun FK170 K170 => ?_)
      refine cw_region ?_
      refine wl_val (v := .int .i64 ((1 : Nat) : Int)) (fun ρ e => ex_move (e _ _ rfl)) rfl rfl ?_
      refine wl_nil ?_
      refine xw_next K170 ?_
      refine cw_block ?_
      refine cw_seq (fun FK171 K171 => ?_)
      refine cw_region ?_
      refine wl_val (v := .bool false) (fun ρ e => ex_cmp (u := ((1 : Nat) : Int)) (v := 0) (e _ _ rfl) (e _ _ rfl) (eql0 (by omega))) rfl rfl ?_
      refine wl_val (v := .bool false) (fun ρ e => ex_assign (e _ _ rfl)) rfl rfl ?_
      refine wl_nil ?_
      refine xw_next K171 ?_
      refine cw_false rfl ?_
      refine cw_seq (fun FK172 K172 => ?_)
      refine cw_region ?_
      refine wl_val (v := .bool true) (fun ρ e => ex_cmp (u := ((1 : Nat) : Int)) (v := 1) (e _ _ rfl) (e _ _ rfl) (eql1 (by omega))) rfl rfl ?_
      refine wl_val (v := .bool true) (fun ρ e => ex_assign (e _ _ rfl)) rfl rfl ?_
      refine wl_nil ?_
      refine xw_next K172 ?_
      refine cw_true rfl ?_
      refine cw_region ?_
      refine wl_val (v := .slice (some ⟨g15, 0, none⟩) T.size c11) (fun ρ e => ex_move (e _ _ rfl)) rfl rfl ?_
      refine wl_val (v := .int .i64 (i : Int)) (fun ρ e => ex_move (e _ _ rfl)) rfl rfl ?_
      by_cases c173 : (tAt 2 T 0 i).isSome = true
      · skip
        obtain ⟨U, hU⟩ := Option.isSome_iff_exists.1 c173
        have gU := tAt_good hgd hU
        have sU := tAt_size hU
        have hplU := post_len U 0
        have hcount := new_count (by omega) hgd hU
        have lU := (tAt_leaves hU).2 (by omega)
        refine wl_call (args := [.slice (some ⟨g15, 0, none⟩) T.size c11, .int .i64 (i : Int)]) in_33 rfl rfl rfl ?_
        have hc179 := rotl_ (NodesD.of_row (O25.row 0 rfl)) (fun k hk => (World.ownsRow.lt (O25.row 0 rfl) k hk).2) (i : Int)
        rw [show movOf (post T 0) 2 (i : Int) = ((post U 0), 0) from mov_some hgd (by omega) li hU] at hc179
        refine hc179.mono ?_
        rintro _ w176 ⟨A174, c175, rfl, h177⟩
        have O178 := O25.join1 h177 trivial
        rw [hplU] at O178
        obtain ⟨g180, hg180⟩ := rowaddr (O178.row 0 rfl) U.size_pos
        subst hg180
        rw [hplU]
        refine ⟨_, rfl, ?_⟩
        refine wl_val (v := .tuple #[.slice (some ⟨g180, 0, none⟩) U.size c175, .int .i64 0]) (fun ρ e => ex_move (e _ _ rfl)) rfl rfl ?_
        refine wl_val (v := .slice (some ⟨g180, 0, none⟩) U.size c175) (fun ρ e => ex_extract (vs := #[.slice (some ⟨g180, 0, none⟩) U.size c175, .int .i64 0]) (e _ _ rfl) rfl) rfl rfl ?_
        refine wl_val (v := .int .i64 0) (fun ρ e => ex_extract (vs := #[.slice (some ⟨g180, 0, none⟩) U.size c175, .int .i64 0]) (e _ _ rfl) rfl) rfl rfl ?_
        refine wl_val (v := .slice (some ⟨g180, 0, none⟩) U.size c175) (fun ρ e => ex_assign (e _ _ rfl)) rfl rfl ?_
        refine wl_val (v := .int .i64 0) (fun ρ e => ex_assign (e _ _ rfl)) rfl rfl ?_
        refine wl_nil ?_
        refine xw_block ?_
        refine xw_next K169 ?_
        refine cw_seq (fun FK181 K181 => ?_)
        refine cw_seq (fun FK182 K182 => ?_)
        refine cw_region ?_
        refine wl_val (v := .int .i64 0) (fun ρ e => ex_move (e _ _ rfl)) rfl rfl ?_
        refine wl_val (v := .bool false) (fun ρ e => ex_cmp (u := 0) (v := 0) (e _ _ rfl) (e _ _ rfl) (neq0 rfl)) rfl rfl ?_
        refine wl_nil ?_
        refine xw_next K182 ?_
        refine cw_false rfl ?_
        refine cw_skip ?_
        refine xw_next K181 ?_
        refine cw_seq (fun FK183 K183 => ?_)
        refine cw_seq (fun FK184 K184 => ?_)
        refine cw_region ?_
        refine wl_val (v := .slice (some ⟨g180, 0, none⟩) U.size c175) (fun ρ e => ex_move (e _ _ rfl)) rfl rfl ?_
        refine wl_call (args := [.slice (some ⟨g180, 0, none⟩) U.size c175]) in_23 rfl rfl rfl ?_
        refine (checkb_ (NodesD.of_row (O178.row 0 rfl)) (fun k hk => (World.ownsRow.lt (O178.row 0 rfl) k hk).2) (chk_val (post_ok gU))).mono ?_
        rintro _ w185 ⟨rfl, hb186⟩
        have O187 : Own Z0 W w185 [.row (.slice (some ⟨g180, 0, none⟩) U.size c175) 38 3 U.size (ncells (post U 0)), .row (.slice (some ⟨g15, 0, none⟩) T.size c11) 38 3 T.size (ncells (post T 0))] := O178.below hb186
        refine ⟨_, rfl, ?_⟩
        refine wl_val (v := .bool false) (fun ρ e => ex_cmp (u := 0) (v := 0) (e _ _ rfl) (e _ _ rfl) (neq0 rfl)) rfl rfl ?_
        refine wl_val (v := .bool false) (fun ρ e => ex_move (e _ _ rfl)) rfl rfl ?_
        refine wl_val (v := .slice (some ⟨g180, 0, none⟩) U.size c175) (fun ρ e => ex_move (e _ _ rfl)) rfl rfl ?_
        refine wl_val (v := .int .i64 ((U.size : Nat) : Int)) (fun ρ e => ex_len el23 (e _ _ rfl)) rfl rfl ?_
        refine wl_val (v := .slice (some ⟨g15, 0, none⟩) T.size c11) (fun ρ e => ex_move (e _ _ rfl)) rfl rfl ?_
        refine wl_val (v := .int .i64 ((T.size : Nat) : Int)) (fun ρ e => ex_len el23 (e _ _ rfl)) rfl rfl ?_
        refine wl_val (v := .bool false) (fun ρ e => ex_cmp (u := ((U.size : Nat) : Int)) (v := ((T.size : Nat) : Int)) (e _ _ rfl) (e _ _ rfl) (neq0 (by omega))) rfl rfl ?_
        refine wl_val (v := .bool false) (fun ρ e => ex_pick0 (e _ _ rfl) (e _ _ rfl)) rfl rfl ?_
        refine wl_nil ?_
        refine xw_next K184 ?_
        refine cw_false rfl ?_
        refine cw_skip ?_
        refine xw_next K183 ?_
        refine cw_seq (fun FK188 K188 => ?_)
        refine cw_region ?_
        refine wl_val (v := .slice (some ⟨g15, 0, none⟩) T.size c11) (fun ρ e => ex_move (e _ _ rfl)) rfl rfl ?_
        refine wl_call (args := [.slice (some ⟨g15, 0, none⟩) T.size c11]) in_30 rfl rfl rfl ?_
        have hv195 := NodesD.of_row (O187.row 1 rfl)
        have hc194 := leaves_ (ts := post T 0) (hplT ▸ hv195) (fun k hk => (World.ownsRow.lt (O187.row 1 rfl) k hk).2) (by rw [hplT]; omega)
        rw [hplT, leaves_post T 0 hgd.2] at hc194
        refine hc194.mono ?_
        rintro _ w191 ⟨A189, c190, rfl, h192⟩
        have O193 := O187.join1 h192 trivial
        obtain ⟨g196, hg196⟩ := rowaddr (O193.row 0 rfl) (by have := T.size_leaves; omega)
        subst hg196
        refine ⟨_, rfl, ?_⟩
        refine wl_val (v := .slice (some ⟨g180, 0, none⟩) U.size c175) (fun ρ e => ex_move (e _ _ rfl)) rfl rfl ?_
        refine wl_call (args := [.slice (some ⟨g180, 0, none⟩) U.size c175]) in_30 rfl rfl rfl ?_
        have hv203 := NodesD.of_row (O193.row 1 rfl)
        have hc202 := leaves_ (ts := post U 0) (hplU ▸ hv203) (fun k hk => (World.ownsRow.lt (O193.row 1 rfl) k hk).2) (by rw [hplU]; omega)
        rw [hplU, leaves_post U 0 gU.2, lU] at hc202
        refine hc202.mono ?_
        rintro _ w199 ⟨A197, c198, rfl, h200⟩
        have O201 := O193.join1 h200 trivial
        obtain ⟨g204, hg204⟩ := rowaddr (O201.row 0 rfl) (by have := T.size_leaves; omega)
        subst hg204
        refine ⟨_, rfl, ?_⟩
        refine wl_val (v := .slice (some ⟨g196, 0, none⟩) T.leaves.length c190) (fun ρ e => ex_assign (e _ _ rfl)) rfl rfl ?_
        refine wl_val (v := .slice (some ⟨g204, 0, none⟩) T.leaves.length c198) (fun ρ e => ex_assign (e _ _ rfl)) rfl rfl ?_
        refine wl_nil ?_
        refine xw_next K188 ?_
        refine cw_seq (fun FK205 K205 => ?_)
        refine cw_seq (fun FK206 K206 => ?_)
        refine cw_region ?_
        refine wl_val (v := .slice (some ⟨g196, 0, none⟩) T.leaves.length c190) (fun ρ e => ex_move (e _ _ rfl)) rfl rfl ?_
        refine wl_val (v := .int .i64 ((T.leaves.length : Nat) : Int)) (fun ρ e => ex_len el36 (e _ _ rfl)) rfl rfl ?_
        refine wl_val (v := .int .i64 0) (fun ρ e => ex_move (e _ _ rfl)) rfl rfl ?_
        refine wl_nil ?_
        refine xw_next K206 ?_
        refine cw_block ?_
        have O207 : Own Z0 W w199 [.row (.slice (some ⟨g196, 0, none⟩) T.leaves.length c190) 3 1 T.leaves.length (intCs T.leaves), .row (.slice (some ⟨g204, 0, none⟩) T.leaves.length c198) 3 1 T.leaves.length (intCs T.leaves), .row (.slice (some ⟨g180, 0, none⟩) U.size c175) 38 3 U.size (ncells (post U 0)), .row (.slice (some ⟨g15, 0, none⟩) T.size c11) 38 3 T.size (ncells (post T 0))] := (O201.re [1, 0, 2, 3] rfl : Own Z0 W w199 [.row (.slice (some ⟨g196, 0, none⟩) T.leaves.length c190) 3 1 T.leaves.length (intCs T.leaves), .row (.slice (some ⟨g204, 0, none⟩) T.leaves.length c198) 3 1 T.leaves.length (intCs T.leaves), .row (.slice (some ⟨g180, 0, none⟩) U.size c175) 38 3 U.size (ncells (post U 0)), .row (.slice (some ⟨g15, 0, none⟩) T.size c11) 38 3 T.size (ncells (post T 0))])
        refine cw_loop (ι := Nat) (fun q => [(7, .slice (some ⟨g15, 0, none⟩) T.size c11), (8, .int .i64 (i : Int)), (9, .int .i64 ((1 : Nat) : Int)), (10, .slice (some ⟨g180, 0, none⟩) U.size c175), (12, .slice (some ⟨g196, 0, none⟩) T.leaves.length c190), (13, .slice (some ⟨g204, 0, none⟩) T.leaves.length c198), (36, .int .i64 ((1 : Nat) : Int)), (82, .int .i64 ((T.leaves.length : Nat) : Int)), (83, .int .i64 (q : Int))]) (fun q X => (q ≤ T.leaves.length) ∧ Own Z0 W X [.row (.slice (some ⟨g196, 0, none⟩) T.leaves.length c190) 3 1 T.leaves.length (intCs T.leaves), .row (.slice (some ⟨g204, 0, none⟩) T.leaves.length c198) 3 1 T.leaves.length (intCs T.leaves), .row (.slice (some ⟨g180, 0, none⟩) U.size c175) 38 3 U.size (ncells (post U 0)), .row (.slice (some ⟨g15, 0, none⟩) T.size c11) 38 3 T.size (ncells (post T 0))]) (fun q => T.leaves.length - q) 0 ⟨Nat.zero_le _, O207⟩ ⟨rfl, rfl, rfl, rfl, rfl, rfl, rfl, rfl, rfl, trivial⟩ (fun q w208 hJ F209 K210 => ?_)
        obtain ⟨j, rfl⟩ : ∃ x, x = q := ⟨_, rfl⟩
        obtain ⟨hj0, O211⟩ := hJ
        try dsimp only at hj0 O211 ⊢
        by_cases hj : j < T.leaves.length
        · skip
          obtain ⟨v, hv⟩ : ∃ v, T.leaves[j]? = some v := ⟨_, List.getElem?_eq_getElem hj⟩
          refine cw_seq (fun FK212 K212 => ?_)
          refine cw_region ?_
          refine wl_val (v := .bool true) (fun ρ e => ex_cmp (u := (j : Int)) (v := ((T.leaves.length : Nat) : Int)) (e _ _ rfl) (e _ _ rfl) (lss1 (by omega))) rfl rfl ?_
          refine wl_nil ?_
          refine xw_next K212 ?_
          refine cw_seq (fun FK213 K213 => ?_)
          refine cw_true rfl ?_
          refine cw_skip ?_
          refine xw_next K213 ?_
          refine cw_seq (fun FK214 K214 => ?_)
          refine cw_block ?_
          refine cw_seq (fun FK215 K215 => ?_)
          refine cw_region ?_
          refine wl_val (v := .int .i64 (j : Int)) (fun ρ e => ex_move (e _ _ rfl)) rfl rfl ?_
          refine wl_val (v := .int .i64 (j : Int)) (fun ρ e => ex_assign (e _ _ rfl)) rfl rfl ?_
          refine wl_nil ?_
          refine xw_next K215 ?_
          refine cw_seq (fun FK216 K216 => ?_)
          refine cw_drawn (fun X => Own Z0 W X [.row (.slice (some ⟨g196, 0, none⟩) T.leaves.length c190) 3 1 T.leaves.length (intCs T.leaves), .row (.slice (some ⟨g204, 0, none⟩) T.leaves.length c198) 3 1 T.leaves.length (intCs T.leaves), .row (.slice (some ⟨g180, 0, none⟩) U.size c175) 38 3 U.size (ncells (post U 0)), .row (.slice (some ⟨g15, 0, none⟩) T.size c11) 38 3 T.size (ncells (post T 0))]) 20 [(0, 1), (1, 1), (2, 1), (3, 1), (4, 1), (5, 1), (6, 1), (7, 1), (8, 1), (9, 1), (10, 1), (11, 1), (12, 0), (13, 1), (14, 1), (15, 1), (16, 0), (17, 1), (18, 1), (19, 1)] (by kernel_rfl) (by kernel_rfl) (PQ.then_ (PQ.block (PQ.then_ (PQ.then_ (PQ.block (PQ.then_ (PQ.block (PQ.then_ (PQ.then_ (PQ.block (PQ.then_ PQ.body))))))))))) (O211).drew ?_
          have O217 : Own Z0 W w208.drew [.row (.slice (some ⟨g196, 0, none⟩) T.leaves.length c190) 3 1 T.leaves.length (intCs T.leaves), .row (.slice (some ⟨g204, 0, none⟩) T.leaves.length c198) 3 1 T.leaves.length (intCs T.leaves), .row (.slice (some ⟨g180, 0, none⟩) U.size c175) 38 3 U.size (ncells (post U 0)), .row (.slice (some ⟨g15, 0, none⟩) T.size c11) 38 3 T.size (ncells (post T 0))] := O211.drew
          refine wt1 (v := .int .i64 ((1 : Nat) : Int)) rfl (fun ρ e W => ex_move (e _ _ rfl)) rfl rfl ?_
          refine wt1 (v := .bool true) rfl (fun ρ e W => ex_cmp (u := ((1 : Nat) : Int)) (v := 2) (e _ _ rfl) (e _ _ rfl) (lss1 (by omega))) rfl rfl ?_
          refine wt1 (v := .bool true) rfl (fun ρ e W => ex_move (e _ _ rfl)) rfl rfl ?_
          refine wt1 (v := .slice (some ⟨g204, 0, none⟩) T.leaves.length c198) rfl (fun ρ e W => ex_move (e _ _ rfl)) rfl rfl ?_
          refine wt1 (v := .int .i64 ((T.leaves.length : Nat) : Int)) rfl (fun ρ e W => ex_len el36 (e _ _ rfl)) rfl rfl ?_
          refine wt1 (v := .slice (some ⟨g196, 0, none⟩) T.leaves.length c190) rfl (fun ρ e W => ex_move (e _ _ rfl)) rfl rfl ?_
          refine wt1 (v := .int .i64 ((T.leaves.length : Nat) : Int)) rfl (fun ρ e W => ex_len el36 (e _ _ rfl)) rfl rfl ?_
          refine wt1 (v := .bool false) rfl (fun ρ e W => ex_cmp (u := ((T.leaves.length : Nat) : Int)) (v := ((T.leaves.length : Nat) : Int)) (e _ _ rfl) (e _ _ rfl) (neq0 rfl)) rfl rfl ?_
          refine wt1 (v := .bool false) rfl (fun ρ e W => ex_move (e _ _ rfl)) rfl rfl ?_
          refine wt1 (v := .slice (some ⟨g196, 0, none⟩) T.leaves.length c190) rfl (fun ρ e W => ex_move (e _ _ rfl)) rfl rfl ?_
          refine wt1 (v := .int .i64 (j : Int)) rfl (fun ρ e W => ex_move (e _ _ rfl)) rfl rfl ?_
          refine wt1 (v := .pointer (some ⟨g196, j, none⟩)) rfl (fun ρ e W => ex_idx (q := j) (i := j) el36 (e _ _ rfl) (e _ _ rfl) (by omega) (by omega)) rfl rfl ?_
          refine wt0 (v := .int .i64 v) rfl (fun ρ e W hW => ex_load1 ty3 (e _ _ rfl) (rowcell (hW.row 0 rfl) (intCs_get hv))) rfl rfl ?_
          refine wt1 (v := .slice (some ⟨g204, 0, none⟩) T.leaves.length c198) rfl (fun ρ e W => ex_move (e _ _ rfl)) rfl rfl ?_
          refine wt1 (v := .int .i64 (j : Int)) rfl (fun ρ e W => ex_move (e _ _ rfl)) rfl rfl ?_
          refine wt1 (v := .pointer (some ⟨g204, j, none⟩)) rfl (fun ρ e W => ex_idx (q := j) (i := j) el36 (e _ _ rfl) (e _ _ rfl) (by omega) (by omega)) rfl rfl ?_
          refine wt0 (v := .int .i64 v) rfl (fun ρ e W hW => ex_load1 ty3 (e _ _ rfl) (rowcell (hW.row 1 rfl) (intCs_get hv))) rfl rfl ?_
          refine wt1 (v := .bool false) rfl (fun ρ e W => ex_cmp (u := v) (v := v) (e _ _ rfl) (e _ _ rfl) (neq0 rfl)) rfl rfl ?_
          refine wt1 (v := .bool false) rfl (fun ρ e W => ex_pick0 (e _ _ rfl) (e _ _ rfl)) rfl rfl ?_
          refine wt1 (v := .bool false) rfl (fun ρ e W => ex_pick1 (e _ _ rfl) (e _ _ rfl)) rfl rfl ?_
          refine wt_nil ?_
          refine xw_next K216 ?_
          refine cw_false rfl ?_
          refine cw_skip ?_
          refine xw_block ?_
          refine xw_next K214 ?_
          refine cw_region ?_
          refine wl_val (v := .int .i64 ((j + 1 : Nat) : Int)) (fun ρ e => ex_arith (k := .i64) (u := (j : Int)) (v := 1) (e _ _ rfl) (e _ _ rfl) (congrArg some ((congrArg _ (by omega)).trans (wrap_in (u := ((j + 1 : Nat) : Int)) (by omega) (by omega))))) rfl rfl ?_
          refine wl_val (v := .int .i64 ((j + 1 : Nat) : Int)) (fun ρ e => ex_move (e _ _ rfl)) rfl rfl ?_
          refine wl_nil ?_
          refine xw_round K210 (j + 1) (by show T.leaves.length - (j + 1) < T.leaves.length - j; omega) ⟨(by show j + 1 ≤ T.leaves.length; omega), O217⟩ ⟨rfl, rfl, rfl, rfl, rfl, rfl, rfl, rfl, rfl, trivial⟩
        · skip
          refine cw_seq (fun FK218 K218 => ?_)
          refine cw_region ?_
          refine wl_val (v := .bool false) (fun ρ e => ex_cmp (u := (j : Int)) (v := ((T.leaves.length : Nat) : Int)) (e _ _ rfl) (e _ _ rfl) (lss0 (by omega))) rfl rfl ?_
          refine wl_nil ?_
          refine xw_next K218 ?_
          refine cw_seq (fun FK219 K219 => ?_)
          refine cw_false rfl ?_
          refine cw_exit ?_
          refine xw_past (by intro h; cases h) ?_
          refine xw_past (by intro h; cases h) ?_
          refine xw_here ?_
          refine xw_next K205 ?_
          refine cw_seq (fun FK220 K220 => ?_)
          refine cw_region ?_
          obtain ⟨g221, w222, r223, O224, hg225, hs226⟩ := own_makeMap O211 61
          refine wl_val (v := .map (some g221)) (fun ρ e => r223 ρ _ _ _ _ _) rfl rfl ?_
          refine wl_val (v := .map (some g221)) (fun ρ e => ex_assign (e _ _ rfl)) rfl rfl ?_
          refine wl_nil ?_
          refine xw_next K220 ?_
          refine cw_seq (fun FK227 K227 => ?_)
          refine cw_seq (fun FK228 K228 => ?_)
          refine cw_region ?_
          refine wl_val (v := .slice (some ⟨g15, 0, none⟩) T.size c11) (fun ρ e => ex_move (e _ _ rfl)) rfl rfl ?_
          refine wl_call (args := [.slice (some ⟨g15, 0, none⟩) T.size c11]) in_44 rfl rfl rfl ?_
          have hv235 := NodesD.of_row (O224.row 4 rfl)
          have hc233 := vvars_ok (ts := post T 0) (hplT ▸ hv235) (fun k hk => (World.ownsRow.lt (O224.row 4 rfl) k hk).2) (post_ok hgd)
          rw [hplT] at hc233
          refine hc233.mono ?_
          rintro _ w230 ⟨g234, c229, rfl, h231⟩
          have O232 := O224.join1 h231 trivial
          refine ⟨_, rfl, ?_⟩
          refine wl_val (v := .int .i64 ((T.size : Nat) : Int)) (fun ρ e => ex_len el53 (e _ _ rfl)) rfl rfl ?_
          refine wl_val (v := .int .i64 0) (fun ρ e => ex_move (e _ _ rfl)) rfl rfl ?_
          refine wl_nil ?_
          refine xw_next K228 ?_
          refine cw_block ?_
          have O236 : Own Z0 W w230 [.map g221 (encL encS []), .row (.slice (some ⟨g234, 0, none⟩) T.size c229) 57 2 T.size (vcells (setsOf (post T 0))), .row (.slice (some ⟨g180, 0, none⟩) U.size c175) 38 3 U.size (ncells (post U 0)), .row (.slice (some ⟨g15, 0, none⟩) T.size c11) 38 3 T.size (ncells (post T 0))] := (O232.re [1, 0, 4, 5] rfl : Own Z0 W w230 [.map g221 ([]), .row (.slice (some ⟨g234, 0, none⟩) T.size c229) 57 2 T.size (vcells (setsOf (post T 0))), .row (.slice (some ⟨g180, 0, none⟩) U.size c175) 38 3 U.size (ncells (post U 0)), .row (.slice (some ⟨g15, 0, none⟩) T.size c11) 38 3 T.size (ncells (post T 0))])
          refine cw_loop (ι := Nat × List (VS × Value)) (fun q => [(7, .slice (some ⟨g15, 0, none⟩) T.size c11), (8, .int .i64 (i : Int)), (9, .int .i64 ((1 : Nat) : Int)), (10, .slice (some ⟨g180, 0, none⟩) U.size c175), (15, .map (some g221)), (36, .int .i64 ((1 : Nat) : Int)), (109, .slice (some ⟨g234, 0, none⟩) T.size c229), (110, .int .i64 ((T.size : Nat) : Int)), (111, .int .i64 (q.1 : Int))]) (fun q X => (q.1 ≤ T.size) ∧ (Holds q.2 ((setsOf (post T 0)).take q.1)) ∧ Own Z0 W X [.map g221 (encL encS q.2), .row (.slice (some ⟨g234, 0, none⟩) T.size c229) 57 2 T.size (vcells (setsOf (post T 0))), .row (.slice (some ⟨g180, 0, none⟩) U.size c175) 38 3 U.size (ncells (post U 0)), .row (.slice (some ⟨g15, 0, none⟩) T.size c11) 38 3 T.size (ncells (post T 0))]) (fun q => T.size - q.1) (0, []) ⟨Nat.zero_le _, (by rw [List.take_zero]; exact holds_nil), O236⟩ ⟨rfl, rfl, rfl, rfl, rfl, rfl, rfl, rfl, rfl, trivial⟩ (fun q w237 hJ F238 K239 => ?_)
          obtain ⟨j, l⟩ := q
          obtain ⟨hj0, hold, O240⟩ := hJ
          dsimp only at hj0 hold O240 ⊢
          by_cases hj : j < T.size
          · skip
            obtain ⟨sv, hsv⟩ : ∃ s, (setsOf (post T 0))[j]? = some s := ⟨_, List.getElem?_eq_getElem (show j < (setsOf (post T 0)).length by rw [setsOf_len, hplT]; exact hj)⟩
            refine cw_seq (fun FK241 K241 => ?_)
            refine cw_region ?_
            refine wl_val (v := .bool true) (fun ρ e => ex_cmp (u := (j : Int)) (v := ((T.size : Nat) : Int)) (e _ _ rfl) (e _ _ rfl) (lss1 (by omega))) rfl rfl ?_
            refine wl_nil ?_
            refine xw_next K241 ?_
            refine cw_seq (fun FK242 K242 => ?_)
            refine cw_true rfl ?_
            refine cw_skip ?_
            refine xw_next K242 ?_
            refine cw_seq (fun FK243 K243 => ?_)
            refine cw_block ?_
            refine cw_seq (fun FK244 K244 => ?_)
            refine cw_region ?_
            refine wl_val (v := .pointer (some ⟨g234, j * 2, none⟩)) (fun ρ e => ex_idx (q := j * 2) (i := j) el53 (e _ _ rfl) (e _ _ rfl) (by omega) (by omega)) rfl rfl ?_
            refine wl_val (v := .agg #[.int .u64 (sv.a.toNat : Int), .int .u64 (sv.b.toNat : Int)]) (fun ρ e => ex_loadN (vs := [.int .u64 (sv.a.toNat : Int), .int .u64 (sv.b.toNat : Int)]) ty57 (e _ _ rfl) rfl (cells2 (rowcell (O240.row 1 rfl) (vcells_get hsv).1) (rowcell (O240.row 1 rfl) (vcells_get hsv).2))) rfl rfl ?_
            obtain ⟨g245, w246, r247, O248, hg249, hs250⟩ := own_alloc O240 57 ze57 rfl
            refine wl_val (v := .pointer (some ⟨g245, 0, none⟩)) (fun ρ e => r247 ρ _ _ _ _ _) rfl rfl ?_
            obtain ⟨w251, r252, O253, hs254⟩ := own_put (o := 0) (n := 2) O248 ty57 (.agg #[.int .u64 (sv.a.toNat : Int), .int .u64 (sv.b.toNat : Int)]) [.int .u64 (sv.a.toNat : Int), .int .u64 (sv.b.toNat : Int)] (cs' := #[.int .u64 (sv.a.toNat : Int), .int .u64 (sv.b.toNat : Int)]) rfl rfl rfl (Nat.le_of_ble_eq_true rfl) rfl
            refine wl_none (fun ρ e => r252 ρ _ _ _ _ _ _ (e _ _ rfl) (e _ _ rfl)) rfl ?_
            refine wl_nil ?_
            refine xw_next K244 ?_
            refine cw_region ?_
            refine wl_val (v := .map (some g221)) (fun ρ e => ex_move (e _ _ rfl)) rfl rfl ?_
            refine wl_val (v := .agg #[.int .u64 (sv.a.toNat : Int), .int .u64 (sv.b.toNat : Int)]) (fun ρ e => ex_loadN (vs := [.int .u64 (sv.a.toNat : Int), .int .u64 (sv.b.toNat : Int)]) ty57 (e _ _ rfl) rfl (O253.cells 0 0 rfl rfl)) rfl rfl ?_
            obtain ⟨w255, r256, O257, hs258⟩ := own_mapputS (O253.re [1, 0, 2, 3, 4] rfl : Own Z0 W w251 [.map g221 (encL encS l), .blk g245 57 #[.int .u64 (sv.a.toNat : Int), .int .u64 (sv.b.toNat : Int)], .row (.slice (some ⟨g234, 0, none⟩) T.size c229) 57 2 T.size (vcells (setsOf (post T 0))), .row (.slice (some ⟨g180, 0, none⟩) U.size c175) 38 3 U.size (ncells (post U 0)), .row (.slice (some ⟨g15, 0, none⟩) T.size c11) 38 3 T.size (ncells (post T 0))]) Tryd.underlying61 sv (.bool true)
            refine wl_none (fun ρ e => r256 ρ _ _ _ _ _ _ _ (e _ _ rfl) (e _ _ rfl) (e _ _ rfl)) rfl ?_
            refine wl_nil ?_
            refine xw_block ?_
            refine xw_next K243 ?_
            refine cw_region ?_
            refine wl_val (v := .int .i64 ((j + 1 : Nat) : Int)) (fun ρ e => ex_arith (k := .i64) (u := (j : Int)) (v := 1) (e _ _ rfl) (e _ _ rfl) (congrArg some ((congrArg _ (by omega)).trans (wrap_in (u := ((j + 1 : Nat) : Int)) (by omega) (by omega))))) rfl rfl ?_
            refine wl_val (v := .int .i64 ((j + 1 : Nat) : Int)) (fun ρ e => ex_move (e _ _ rfl)) rfl rfl ?_
            refine wl_nil ?_
            refine xw_round K239 (j + 1, (aput sv (.bool true) l)) (by show T.size - (j + 1) < T.size - j; omega) ⟨(by show j + 1 ≤ T.size; omega), (hold.step hsv), (O257.re [0, 2, 3, 4] rfl : Own Z0 W w255 [.map g221 (encL encS (aput sv (.bool true) l)), .row (.slice (some ⟨g234, 0, none⟩) T.size c229) 57 2 T.size (vcells (setsOf (post T 0))), .row (.slice (some ⟨g180, 0, none⟩) U.size c175) 38 3 U.size (ncells (post U 0)), .row (.slice (some ⟨g15, 0, none⟩) T.size c11) 38 3 T.size (ncells (post T 0))])⟩ ⟨rfl, rfl, rfl, rfl, rfl, rfl, rfl, rfl, rfl, trivial⟩
          · have hje : j = T.size := by omega
            have hold2 := hold
            rw [hje, ← hplT, ← setsOf_len (post T 0), List.take_length] at hold2
            clear hold
            have hold := hold2
            refine cw_seq (fun FK259 K259 => ?_)
            refine cw_region ?_
            refine wl_val (v := .bool false) (fun ρ e => ex_cmp (u := (j : Int)) (v := ((T.size : Nat) : Int)) (e _ _ rfl) (e _ _ rfl) (lss0 (by omega))) rfl rfl ?_
            refine wl_nil ?_
            refine xw_next K259 ?_
            refine cw_seq (fun FK260 K260 => ?_)
            refine cw_false rfl ?_
            refine cw_exit ?_
            refine xw_past (by intro h; cases h) ?_
            refine xw_past (by intro h; cases h) ?_
            refine xw_here ?_
            refine xw_next K227 ?_
            refine cw_seq (fun FK261 K261 => ?_)
            refine cw_region ?_
            refine wl_val (v := .int .i64 0) (fun ρ e => ex_assign (e _ _ rfl)) rfl rfl ?_
            refine wl_nil ?_
            refine xw_next K261 ?_
            refine cw_seq (fun FK262 K262 => ?_)
            refine cw_seq (fun FK263 K263 => ?_)
            refine cw_region ?_
            refine wl_val (v := .slice (some ⟨g180, 0, none⟩) U.size c175) (fun ρ e => ex_move (e _ _ rfl)) rfl rfl ?_
            refine wl_call (args := [.slice (some ⟨g180, 0, none⟩) U.size c175]) in_44 rfl rfl rfl ?_
            have hv270 := NodesD.of_row (O240.row 2 rfl)
            have hc268 := vvars_ok (ts := post U 0) (hplU ▸ hv270) (fun k hk => (World.ownsRow.lt (O240.row 2 rfl) k hk).2) (post_ok gU)
            rw [hplU] at hc268
            refine hc268.mono ?_
            rintro _ w265 ⟨g269, c264, rfl, h266⟩
            have O267 := O240.join1 h266 trivial
            refine ⟨_, rfl, ?_⟩
            refine wl_val (v := .int .i64 ((U.size : Nat) : Int)) (fun ρ e => ex_len el53 (e _ _ rfl)) rfl rfl ?_
            refine wl_val (v := .int .i64 0) (fun ρ e => ex_move (e _ _ rfl)) rfl rfl ?_
            refine wl_nil ?_
            refine xw_next K263 ?_
            refine cw_block ?_
            have O271 : Own Z0 W w265 [.map g221 (encL encS l), .row (.slice (some ⟨g269, 0, none⟩) U.size c264) 57 2 U.size (vcells (setsOf (post U 0))), .row (.slice (some ⟨g15, 0, none⟩) T.size c11) 38 3 T.size (ncells (post T 0))] := (O267.re [1, 0, 4] rfl : Own Z0 W w265 [.map g221 (encL encS l), .row (.slice (some ⟨g269, 0, none⟩) U.size c264) 57 2 U.size (vcells (setsOf (post U 0))), .row (.slice (some ⟨g15, 0, none⟩) T.size c11) 38 3 T.size (ncells (post T 0))])
            have hn0 : 0 = newOf (setsOf (post T 0)) ((setsOf (post U 0)).take 0) := by rw [List.take_zero]; rfl
            refine cw_loop (ι := Nat × Nat) (fun q => [(7, .slice (some ⟨g15, 0, none⟩) T.size c11), (8, .int .i64 (i : Int)), (9, .int .i64 ((1 : Nat) : Int)), (15, .map (some g221)), (36, .int .i64 ((1 : Nat) : Int)), (119, .slice (some ⟨g269, 0, none⟩) U.size c264), (120, .int .i64 ((U.size : Nat) : Int)), (18, .int .i64 (q.2 : Int)), (121, .int .i64 (q.1 : Int))]) (fun q X => (q.1 ≤ U.size) ∧ (q.2 = newOf (setsOf (post T 0)) ((setsOf (post U 0)).take q.1)) ∧ Own Z0 W X [.map g221 (encL encS l), .row (.slice (some ⟨g269, 0, none⟩) U.size c264) 57 2 U.size (vcells (setsOf (post U 0))), .row (.slice (some ⟨g15, 0, none⟩) T.size c11) 38 3 T.size (ncells (post T 0))]) (fun q => U.size - q.1) (0, 0) ⟨Nat.zero_le _, hn0, O271⟩ ⟨rfl, rfl, rfl, rfl, rfl, rfl, rfl, rfl, rfl, trivial⟩ (fun q w272 hJ F273 K274 => ?_)
            obtain ⟨j, cn⟩ := q
            obtain ⟨hj0, hcn, O275⟩ := hJ
            dsimp only at hj0 hcn O275 ⊢
            by_cases hj : j < U.size
            · skip
              obtain ⟨sv, hsv⟩ : ∃ s, (setsOf (post U 0))[j]? = some s := ⟨_, List.getElem?_eq_getElem (show j < (setsOf (post U 0)).length by rw [setsOf_len, hplU]; exact hj)⟩
              have hcb : cn ≤ j := by rw [hcn]; exact newOf_le _ _ _
              refine cw_seq (fun FK276 K276 => ?_)
              refine cw_region ?_
              refine wl_val (v := .bool true) (fun ρ e => ex_cmp (u := (j : Int)) (v := ((U.size : Nat) : Int)) (e _ _ rfl) (e _ _ rfl) (lss1 (by omega))) rfl rfl ?_
              refine wl_nil ?_
              refine xw_next K276 ?_
              refine cw_seq (fun FK277 K277 => ?_)
              refine cw_true rfl ?_
              refine cw_skip ?_
              refine xw_next K277 ?_
              refine cw_seq (fun FK278 K278 => ?_)
              refine cw_block ?_
              refine cw_seq (fun FK279 K279 => ?_)
              refine cw_region ?_
              refine wl_val (v := .pointer (some ⟨g269, j * 2, none⟩)) (fun ρ e => ex_idx (q := j * 2) (i := j) el53 (e _ _ rfl) (e _ _ rfl) (by omega) (by omega)) rfl rfl ?_
              refine wl_val (v := .agg #[.int .u64 (sv.a.toNat : Int), .int .u64 (sv.b.toNat : Int)]) (fun ρ e => ex_loadN (vs := [.int .u64 (sv.a.toNat : Int), .int .u64 (sv.b.toNat : Int)]) ty57 (e _ _ rfl) rfl (cells2 (rowcell (O275.row 1 rfl) (vcells_get hsv).1) (rowcell (O275.row 1 rfl) (vcells_get hsv).2))) rfl rfl ?_
              obtain ⟨g280, w281, r282, O283, hg284, hs285⟩ := own_alloc O275 57 ze57 rfl
              refine wl_val (v := .pointer (some ⟨g280, 0, none⟩)) (fun ρ e => r282 ρ _ _ _ _ _) rfl rfl ?_
              obtain ⟨w286, r287, O288, hs289⟩ := own_put (o := 0) (n := 2) O283 ty57 (.agg #[.int .u64 (sv.a.toNat : Int), .int .u64 (sv.b.toNat : Int)]) [.int .u64 (sv.a.toNat : Int), .int .u64 (sv.b.toNat : Int)] (cs' := #[.int .u64 (sv.a.toNat : Int), .int .u64 (sv.b.toNat : Int)]) rfl rfl rfl (Nat.le_of_ble_eq_true rfl) rfl
              refine wl_none (fun ρ e => r287 ρ _ _ _ _ _ _ (e _ _ rfl) (e _ _ rfl)) rfl ?_
              refine wl_nil ?_
              refine xw_next K279 ?_
              refine cw_seq (fun FK290 K290 => ?_)
              refine cw_region ?_
              refine wl_val (v := .map (some g221)) (fun ρ e => ex_move (e _ _ rfl)) rfl rfl ?_
              refine wl_val (v := .agg #[.int .u64 (sv.a.toNat : Int), .int .u64 (sv.b.toNat : Int)]) (fun ρ e => ex_loadN (vs := [.int .u64 (sv.a.toNat : Int), .int .u64 (sv.b.toNat : Int)]) ty57 (e _ _ rfl) rfl (O288.cells 0 0 rfl rfl)) rfl rfl ?_
              refine wl_val (v := .bool (decide (sv ∈ (setsOf (post T 0))))) (fun ρ e => ex_lookS Tryd.underlying61 ze4 (O288.map 1 rfl) sv (hold.at_ sv) (e _ _ rfl) (e _ _ rfl)) rfl rfl ?_
              refine wl_val (v := .bool (!(decide (sv ∈ (setsOf (post T 0)))))) (fun ρ e => ex_lnot (b := (decide (sv ∈ (setsOf (post T 0))))) (e _ _ rfl)) rfl rfl ?_
              refine wl_nil ?_
              refine xw_next K290 ?_
              refine cw_cond (b := (!(decide (sv ∈ (setsOf (post T 0)))))) rfl (fun c291 => ?_) (fun c291 => ?_)
              · skip
                refine cw_region ?_
                refine wl_val (v := .int .i64 (cn : Int)) (fun ρ e => ex_move (e _ _ rfl)) rfl rfl ?_
                refine wl_val (v := .int .i64 ((cn + 1 : Nat) : Int)) (fun ρ e => ex_arith (k := .i64) (u := (cn : Int)) (v := 1) (e _ _ rfl) (e _ _ rfl) (congrArg some ((congrArg _ (by omega)).trans (wrap_in (u := ((cn + 1 : Nat) : Int)) (by omega) (by omega))))) rfl rfl ?_
                refine wl_val (v := .int .i64 ((cn + 1 : Nat) : Int)) (fun ρ e => ex_assign (e _ _ rfl)) rfl rfl ?_
                refine wl_nil ?_
                refine xw_block ?_
                refine xw_next K278 ?_
                refine cw_region ?_
                refine wl_val (v := .int .i64 ((j + 1 : Nat) : Int)) (fun ρ e => ex_arith (k := .i64) (u := (j : Int)) (v := 1) (e _ _ rfl) (e _ _ rfl) (congrArg some ((congrArg _ (by omega)).trans (wrap_in (u := ((j + 1 : Nat) : Int)) (by omega) (by omega))))) rfl rfl ?_
                refine wl_val (v := .int .i64 ((j + 1 : Nat) : Int)) (fun ρ e => ex_move (e _ _ rfl)) rfl rfl ?_
                refine wl_nil ?_
                refine xw_round K274 (j + 1, cn + 1) (by show U.size - (j + 1) < U.size - j; omega) ⟨(by show j + 1 ≤ U.size; omega), (by show cn + 1 = newOf (setsOf (post T 0)) ((setsOf (post U 0)).take (j + 1)); have h9 := newOf_step (S := (setsOf (post T 0))) hsv; rw [if_pos (by simpa using c291)] at h9; omega), (O288.re [1, 2, 3] rfl : Own Z0 W w286 [.map g221 (encL encS l), .row (.slice (some ⟨g269, 0, none⟩) U.size c264) 57 2 U.size (vcells (setsOf (post U 0))), .row (.slice (some ⟨g15, 0, none⟩) T.size c11) 38 3 T.size (ncells (post T 0))])⟩ ⟨rfl, rfl, rfl, rfl, rfl, rfl, rfl, rfl, rfl, trivial⟩
              · skip
                refine cw_skip ?_
                refine xw_block ?_
                refine xw_next K278 ?_
                refine cw_region ?_
                refine wl_val (v := .int .i64 ((j + 1 : Nat) : Int)) (fun ρ e => ex_arith (k := .i64) (u := (j : Int)) (v := 1) (e _ _ rfl) (e _ _ rfl) (congrArg some ((congrArg _ (by omega)).trans (wrap_in (u := ((j + 1 : Nat) : Int)) (by omega) (by omega))))) rfl rfl ?_
                refine wl_val (v := .int .i64 ((j + 1 : Nat) : Int)) (fun ρ e => ex_move (e _ _ rfl)) rfl rfl ?_
                refine wl_nil ?_
                refine xw_round K274 (j + 1, cn) (by show U.size - (j + 1) < U.size - j; omega) ⟨(by show j + 1 ≤ U.size; omega), (by show cn = newOf (setsOf (post T 0)) ((setsOf (post U 0)).take (j + 1)); have h9 := newOf_step (S := (setsOf (post T 0))) hsv; rw [if_neg (by simpa using c291)] at h9; omega), (O288.re [1, 2, 3] rfl : Own Z0 W w286 [.map g221 (encL encS l), .row (.slice (some ⟨g269, 0, none⟩) U.size c264) 57 2 U.size (vcells (setsOf (post U 0))), .row (.slice (some ⟨g15, 0, none⟩) T.size c11) 38 3 T.size (ncells (post T 0))])⟩ ⟨rfl, rfl, rfl, rfl, rfl, rfl, rfl, rfl, rfl, trivial⟩
            · have hje : j = U.size := by omega
              rw [hje, ← hplU, ← setsOf_len (post U 0), List.take_length, hcount] at hcn
              obtain rfl : cn = 1 := by simpa using hcn
              refine cw_seq (fun FK292 K292 => ?_)
              refine cw_region ?_
              refine wl_val (v := .bool false) (fun ρ e => ex_cmp (u := (j : Int)) (v := ((U.size : Nat) : Int)) (e _ _ rfl) (e _ _ rfl) (lss0 (by omega))) rfl rfl ?_
              refine wl_nil ?_
              refine xw_next K292 ?_
              refine cw_seq (fun FK293 K293 => ?_)
              refine cw_false rfl ?_
              refine cw_exit ?_
              refine xw_past (by intro h; cases h) ?_
              refine xw_past (by intro h; cases h) ?_
              refine xw_here ?_
              refine xw_next K262 ?_
              refine cw_seq (fun FK294 K294 => ?_)
              refine cw_region ?_
              refine wl_val (v := .int .i64 ((1 : Nat) : Int)) (fun ρ e => ex_move (e _ _ rfl)) rfl rfl ?_
              refine wl_val (v := .bool true) (fun ρ e => ex_cmp (u := ((1 : Nat) : Int)) (v := 2) (e _ _ rfl) (e _ _ rfl) (lss1 (by omega))) rfl rfl ?_
              refine wl_val (v := .bool true) (fun ρ e => ex_move (e _ _ rfl)) rfl rfl ?_
              refine wl_val (v := .int .i64 ((1 : Nat) : Int)) (fun ρ e => ex_move (e _ _ rfl)) rfl rfl ?_
              refine wl_val (v := .bool false) (fun ρ e => ex_cmp (u := ((1 : Nat) : Int)) (v := 1) (e _ _ rfl) (e _ _ rfl) (neq0 (by omega))) rfl rfl ?_
              refine wl_val (v := .bool false) (fun ρ e => ex_pick1 (e _ _ rfl) (e _ _ rfl)) rfl rfl ?_
              refine wl_val (v := .bool false) (fun ρ e => ex_move (e _ _ rfl)) rfl rfl ?_
              refine wl_val (v := .int .i64 ((1 : Nat) : Int)) (fun ρ e => ex_move (e _ _ rfl)) rfl rfl ?_
              refine wl_val (v := .bool false) (fun ρ e => ex_cmp (u := ((1 : Nat) : Int)) (v := 2) (e _ _ rfl) (e _ _ rfl) (eql0 (by omega))) rfl rfl ?_
              refine wl_val (v := .bool false) (fun ρ e => ex_move (e _ _ rfl)) rfl rfl ?_
              refine wl_skip rfl rfl ?_
              refine wl_skip rfl rfl ?_
              refine wl_val (v := .bool false) (fun ρ e => ex_pick0 (e _ _ rfl) (e _ _ rfl)) rfl rfl ?_
              refine wl_val (v := .bool false) (fun ρ e => ex_pick0 (e _ _ rfl) (e _ _ rfl)) rfl rfl ?_
              refine wl_nil ?_
              refine xw_next K294 ?_
              refine cw_false rfl ?_
              refine cw_skip ?_
              refine xw_block ?_
              refine xw_next K166 ?_
              refine cw_region ?_
              refine wl_val (v := .int .i64 ((1 + 1 : Nat) : Int)) (fun ρ e => ex_arith (k := .i64) (u := ((1 : Nat) : Int)) (v := 1) (e _ _ rfl) (e _ _ rfl) (congrArg some ((congrArg _ (by omega)).trans (wrap_in (u := ((1 + 1 : Nat) : Int)) (by omega) (by omega))))) rfl rfl ?_
              refine wl_val (v := .int .i64 ((1 + 1 : Nat) : Int)) (fun ρ e => ex_move (e _ _ rfl)) rfl rfl ?_
              refine wl_nil ?_
              refine xw_round K24 (1 + 1) (by show 3 - (1 + 1) < 3 - 1; omega) ⟨(by show 1 + 1 ≤ 3; omega), (O275.re [2] rfl : Own Z0 W w272 [.row (.slice (some ⟨g15, 0, none⟩) T.size c11) 38 3 T.size (ncells (post T 0))])⟩ ⟨rfl, rfl, rfl, trivial⟩
      · skip
        have hU : tAt 2 T 0 i = none := by simpa using c173
        refine wl_call (args := [.slice (some ⟨g15, 0, none⟩) T.size c11, .int .i64 (i : Int)]) in_33 rfl rfl rfl ?_
        have hc300 := rotl_ (NodesD.of_row (O25.row 0 rfl)) (fun k hk => (World.ownsRow.lt (O25.row 0 rfl) k hk).2) (i : Int)
        rw [show movOf (post T 0) 2 (i : Int) = (([] : List VN), 1) from mov_none hgd (by omega) li hU] at hc300
        refine hc300.mono ?_
        rintro _ w297 ⟨A295, c296, rfl, h298⟩
        have O299 := O25.join1 h298 trivial
        refine ⟨_, rfl, ?_⟩
        refine wl_val (v := .tuple #[.slice A295 (([] : List VN).length) c296, .int .i64 1]) (fun ρ e => ex_move (e _ _ rfl)) rfl rfl ?_
        refine wl_val (v := .slice A295 (([] : List VN).length) c296) (fun ρ e => ex_extract (vs := #[.slice A295 (([] : List VN).length) c296, .int .i64 1]) (e _ _ rfl) rfl) rfl rfl ?_
        refine wl_val (v := .int .i64 1) (fun ρ e => ex_extract (vs := #[.slice A295 (([] : List VN).length) c296, .int .i64 1]) (e _ _ rfl) rfl) rfl rfl ?_
        refine wl_val (v := .slice A295 (([] : List VN).length) c296) (fun ρ e => ex_assign (e _ _ rfl)) rfl rfl ?_
        refine wl_val (v := .int .i64 1) (fun ρ e => ex_assign (e _ _ rfl)) rfl rfl ?_
        refine wl_nil ?_
        refine xw_block ?_
        refine xw_next K169 ?_
        refine cw_seq (fun FK301 K301 => ?_)
        refine cw_seq (fun FK302 K302 => ?_)
        refine cw_region ?_
        refine wl_val (v := .int .i64 1) (fun ρ e => ex_move (e _ _ rfl)) rfl rfl ?_
        refine wl_val (v := .bool true) (fun ρ e => ex_cmp (u := 1) (v := 0) (e _ _ rfl) (e _ _ rfl) (neq1 (by omega))) rfl rfl ?_
        refine wl_nil ?_
        refine xw_next K302 ?_
        refine cw_true rfl ?_
        refine cw_exit ?_
        refine xw_past (by intro h; cases h) ?_
        refine xw_here ?_
        refine xw_next K166 ?_
        refine cw_region ?_
        refine wl_val (v := .int .i64 ((1 + 1 : Nat) : Int)) (fun ρ e => ex_arith (k := .i64) (u := ((1 : Nat) : Int)) (v := 1) (e _ _ rfl) (e _ _ rfl) (congrArg some ((congrArg _ (by omega)).trans (wrap_in (u := ((1 + 1 : Nat) : Int)) (by omega) (by omega))))) rfl rfl ?_
        refine wl_val (v := .int .i64 ((1 + 1 : Nat) : Int)) (fun ρ e => ex_move (e _ _ rfl)) rfl rfl ?_
        refine wl_nil ?_
        refine xw_round K24 (1 + 1) (by show 3 - (1 + 1) < 3 - 1; omega) ⟨(by show 1 + 1 ≤ 3; omega), (O299.re [1] rfl : Own Z0 W w297 [.row (.slice (some ⟨g15, 0, none⟩) T.size c11) 38 3 T.size (ncells (post T 0))])⟩ ⟨rfl, rfl, rfl, trivial⟩
    · skip
      refine cw_seq (fun FK303 K303 => ?_)
      refine cw_region ?_
      refine wl_val (v := .bool true) (fun ρ e => ex_cmp (u := ((2 : Nat) : Int)) (v := 3) (e _ _ rfl) (e _ _ rfl) (lss1 (by omega))) rfl rfl ?_
      refine wl_nil ?_
      refine xw_next K303 ?_
      refine cw_seq (fun FK304 K304 => ?_)
      refine cw_true rfl ?_
      refine cw_skip ?_
      refine xw_next K304 ?_
      refine cw_seq (fun FK305 K305 => ?_)
      refine cw_block ?_
      refine cw_seq (fun FK306 K306 => ?_)
      refine cw_region ?_
      refine wl_val (v := .int .i64 ((2 : Nat) : Int)) (fun ρ e => ex_move (e _ _ rfl)) rfl rfl ?_
      refine wl_val (v := .int .i64 ((2 : Nat) : Int)) (fun ρ e => ex_assign (e _ _ rfl)) rfl rfl ?_
      refine wl_nil ?_
      refine xw_next K306 ?_
      refine cw_seq (fun FK307 K307 => ?_)
      refine cw_region ?_
      refine wl_val (v := .slice (some ⟨g15, 0, none⟩) T.size c11) (fun ρ e => ex_move (e _ _ rfl)) rfl rfl ?_
      refine wl_val (v := .slice (some ⟨g15, 0, none⟩) T.size c11) (fun ρ e => ex_assign (e _ _ rfl)) rfl rfl ?_
      refine wl_val (v := .int .i64 0) (fun ρ e => ex_assign (e _ _ rfl)) rfl rfl ?_
      refine wl_nil ?_
      refine xw_next K307 ?_
      refine cw_seq (fun FK308 K308 => ?_)
      refine cw_seq (fun FK309 K309 => ?_)
      refine cw_region ?_
      refine wl_val (v := .int .i64 ((2 : Nat) : Int)) (fun ρ e => ex_move (e _ _ rfl)) rfl rfl ?_
      refine wl_nil ?_
      refine xw_next K309 ?_
      refine cw_block ?_
      refine cw_seq (fun FK310 K310 => ?_)
      refine cw_region ?_
      refine wl_val (v := .bool false) (fun ρ e => ex_cmp (u := ((2 : Nat) : Int)) (v := 0) (e _ _ rfl) (e _ _ rfl) (eql0 (by omega))) rfl rfl ?_
      refine wl_val (v := .bool false) (fun ρ e => ex_assign (e _ _ rfl)) rfl rfl ?_
      refine wl_nil ?_
      refine xw_next K310 ?_
      refine cw_false rfl ?_
      refine cw_seq (fun FK311 K311 => ?_)
      refine cw_region ?_
      refine wl_val (v := .bool false) (fun ρ e => ex_cmp (u := ((2 : Nat) : Int)) (v := 1) (e _ _ rfl) (e _ _ rfl) (eql0 (by omega))) rfl rfl ?_
      refine wl_val (v := .bool false) (fun ρ e => ex_assign (e _ _ rfl)) rfl rfl ?_
      refine wl_nil ?_
      refine xw_next K311 ?_
      refine cw_false rfl ?_
      refine cw_seq (fun FK312 K312 => ?_)
      refine cw_region ?_
      refine wl_val (v := .bool true) (fun ρ e => ex_cmp (u := ((2 : Nat) : Int)) (v := 2) (e _ _ rfl) (e _ _ rfl) (eql1 (by omega))) rfl rfl ?_
      refine wl_val (v := .bool true) (fun ρ e => ex_assign (e _ _ rfl)) rfl rfl ?_
      refine wl_nil ?_
      refine xw_next K312 ?_
      refine cw_true rfl ?_
      refine cw_region ?_
      refine wl_val (v := .slice (some ⟨g15, 0, none⟩) T.size c11) (fun ρ e => ex_move (e _ _ rfl)) rfl rfl ?_
      refine wl_val (v := .int .i64 (i : Int)) (fun ρ e => ex_move (e _ _ rfl)) rfl rfl ?_
      by_cases c313 : (tAt 3 T 0 i).isSome = true
      · skip
        obtain ⟨U, hU⟩ := Option.isSome_iff_exists.1 c313
        have gU := tAt_good hgd hU
        have sU := tAt_size hU
        have hplU := post_len U 0
        have hcount := new_count (by omega) hgd hU
        refine wl_call (args := [.slice (some ⟨g15, 0, none⟩) T.size c11, .int .i64 (i : Int)]) in_34 rfl rfl rfl ?_
        have hc319 := swap_ (NodesD.of_row (O25.row 0 rfl)) (fun k hk => (World.ownsRow.lt (O25.row 0 rfl) k hk).2) (i : Int)
        rw [show movOf (post T 0) 3 (i : Int) = ((post U 0), 0) from mov_some hgd (by omega) li hU] at hc319
        refine hc319.mono ?_
        rintro _ w316 ⟨A314, c315, rfl, h317⟩
        have O318 := O25.join1 h317 trivial
        rw [hplU] at O318
        obtain ⟨g320, hg320⟩ := rowaddr (O318.row 0 rfl) U.size_pos
        subst hg320
        rw [hplU]
        refine ⟨_, rfl, ?_⟩
        refine wl_val (v := .tuple #[.slice (some ⟨g320, 0, none⟩) U.size c315, .int .i64 0]) (fun ρ e => ex_move (e _ _ rfl)) rfl rfl ?_
        refine wl_val (v := .slice (some ⟨g320, 0, none⟩) U.size c315) (fun ρ e => ex_extract (vs := #[.slice (some ⟨g320, 0, none⟩) U.size c315, .int .i64 0]) (e _ _ rfl) rfl) rfl rfl ?_
        refine wl_val (v := .int .i64 0) (fun ρ e => ex_extract (vs := #[.slice (some ⟨g320, 0, none⟩) U.size c315, .int .i64 0]) (e _ _ rfl) rfl) rfl rfl ?_
        refine wl_val (v := .slice (some ⟨g320, 0, none⟩) U.size c315) (fun ρ e => ex_assign (e _ _ rfl)) rfl rfl ?_
        refine wl_val (v := .int .i64 0) (fun ρ e => ex_assign (e _ _ rfl)) rfl rfl ?_
        refine wl_nil ?_
        refine xw_block ?_
        refine xw_next K308 ?_
        refine cw_seq (fun FK321 K321 => ?_)
        refine cw_seq (fun FK322 K322 => ?_)
        refine cw_region ?_
        refine wl_val (v := .int .i64 0) (fun ρ e => ex_move (e _ _ rfl)) rfl rfl ?_
        refine wl_val (v := .bool false) (fun ρ e => ex_cmp (u := 0) (v := 0) (e _ _ rfl) (e _ _ rfl) (neq0 rfl)) rfl rfl ?_
        refine wl_nil ?_
        refine xw_next K322 ?_
        refine cw_false rfl ?_
        refine cw_skip ?_
        refine xw_next K321 ?_
        refine cw_seq (fun FK323 K323 => ?_)
        refine cw_seq (fun FK324 K324 => ?_)
        refine cw_region ?_
        refine wl_val (v := .slice (some ⟨g320, 0, none⟩) U.size c315) (fun ρ e => ex_move (e _ _ rfl)) rfl rfl ?_
        refine wl_call (args := [.slice (some ⟨g320, 0, none⟩) U.size c315]) in_23 rfl rfl rfl ?_
        refine (checkb_ (NodesD.of_row (O318.row 0 rfl)) (fun k hk => (World.ownsRow.lt (O318.row 0 rfl) k hk).2) (chk_val (post_ok gU))).mono ?_
        rintro _ w325 ⟨rfl, hb326⟩
        have O327 : Own Z0 W w325 [.row (.slice (some ⟨g320, 0, none⟩) U.size c315) 38 3 U.size (ncells (post U 0)), .row (.slice (some ⟨g15, 0, none⟩) T.size c11) 38 3 T.size (ncells (post T 0))] := O318.below hb326
        refine ⟨_, rfl, ?_⟩
        refine wl_val (v := .bool false) (fun ρ e => ex_cmp (u := 0) (v := 0) (e _ _ rfl) (e _ _ rfl) (neq0 rfl)) rfl rfl ?_
        refine wl_val (v := .bool false) (fun ρ e => ex_move (e _ _ rfl)) rfl rfl ?_
        refine wl_val (v := .slice (some ⟨g320, 0, none⟩) U.size c315) (fun ρ e => ex_move (e _ _ rfl)) rfl rfl ?_
        refine wl_val (v := .int .i64 ((U.size : Nat) : Int)) (fun ρ e => ex_len el23 (e _ _ rfl)) rfl rfl ?_
        refine wl_val (v := .slice (some ⟨g15, 0, none⟩) T.size c11) (fun ρ e => ex_move (e _ _ rfl)) rfl rfl ?_
        refine wl_val (v := .int .i64 ((T.size : Nat) : Int)) (fun ρ e => ex_len el23 (e _ _ rfl)) rfl rfl ?_
        refine wl_val (v := .bool false) (fun ρ e => ex_cmp (u := ((U.size : Nat) : Int)) (v := ((T.size : Nat) : Int)) (e _ _ rfl) (e _ _ rfl) (neq0 (by omega))) rfl rfl ?_
        refine wl_val (v := .bool false) (fun ρ e => ex_pick0 (e _ _ rfl) (e _ _ rfl)) rfl rfl ?_
        refine wl_nil ?_
        refine xw_next K324 ?_
        refine cw_false rfl ?_
        refine cw_skip ?_
        refine xw_next K323 ?_
        refine cw_seq (fun FK328 K328 => ?_)
        refine cw_region ?_
        refine wl_val (v := .slice (some ⟨g15, 0, none⟩) T.size c11) (fun ρ e => ex_move (e _ _ rfl)) rfl rfl ?_
        refine wl_call (args := [.slice (some ⟨g15, 0, none⟩) T.size c11]) in_30 rfl rfl rfl ?_
        have hv335 := NodesD.of_row (O327.row 1 rfl)
        have hc334 := leaves_ (ts := post T 0) (hplT ▸ hv335) (fun k hk => (World.ownsRow.lt (O327.row 1 rfl) k hk).2) (by rw [hplT]; omega)
        rw [hplT, leaves_post T 0 hgd.2] at hc334
        refine hc334.mono ?_
        rintro _ w331 ⟨A329, c330, rfl, h332⟩
        have O333 := O327.join1 h332 trivial
        obtain ⟨g336, hg336⟩ := rowaddr (O333.row 0 rfl) (by have := T.size_leaves; omega)
        subst hg336
        refine ⟨_, rfl, ?_⟩
        refine wl_val (v := .slice (some ⟨g320, 0, none⟩) U.size c315) (fun ρ e => ex_move (e _ _ rfl)) rfl rfl ?_
        refine wl_call (args := [.slice (some ⟨g320, 0, none⟩) U.size c315]) in_30 rfl rfl rfl ?_
        have hv343 := NodesD.of_row (O333.row 1 rfl)
        have hc342 := leaves_ (ts := post U 0) (hplU ▸ hv343) (fun k hk => (World.ownsRow.lt (O333.row 1 rfl) k hk).2) (by rw [hplU]; omega)
        rw [hplU, leaves_post U 0 gU.2] at hc342
        refine hc342.mono ?_
        rintro _ w339 ⟨A337, c338, rfl, h340⟩
        have O341 := O333.join1 h340 trivial
        obtain ⟨g344, hg344⟩ := rowaddr (O341.row 0 rfl) (by have := U.size_leaves; omega)
        subst hg344
        refine ⟨_, rfl, ?_⟩
        refine wl_val (v := .slice (some ⟨g336, 0, none⟩) T.leaves.length c330) (fun ρ e => ex_assign (e _ _ rfl)) rfl rfl ?_
        refine wl_val (v := .slice (some ⟨g344, 0, none⟩) U.leaves.length c338) (fun ρ e => ex_assign (e _ _ rfl)) rfl rfl ?_
        refine wl_nil ?_
        refine xw_next K328 ?_
        refine cw_seq (fun FK345 K345 => ?_)
        refine cw_seq (fun FK346 K346 => ?_)
        refine cw_region ?_
        refine wl_val (v := .slice (some ⟨g336, 0, none⟩) T.leaves.length c330) (fun ρ e => ex_move (e _ _ rfl)) rfl rfl ?_
        refine wl_val (v := .int .i64 ((T.leaves.length : Nat) : Int)) (fun ρ e => ex_len el36 (e _ _ rfl)) rfl rfl ?_
        refine wl_val (v := .int .i64 0) (fun ρ e => ex_move (e _ _ rfl)) rfl rfl ?_
        refine wl_nil ?_
        refine xw_next K346 ?_
        refine cw_block ?_
        have O347 : Own Z0 W w339 [.row (.slice (some ⟨g336, 0, none⟩) T.leaves.length c330) 3 1 T.leaves.length (intCs T.leaves), .row (.slice (some ⟨g344, 0, none⟩) U.leaves.length c338) 3 1 U.leaves.length (intCs U.leaves), .row (.slice (some ⟨g320, 0, none⟩) U.size c315) 38 3 U.size (ncells (post U 0)), .row (.slice (some ⟨g15, 0, none⟩) T.size c11) 38 3 T.size (ncells (post T 0))] := (O341.re [1, 0, 2, 3] rfl : Own Z0 W w339 [.row (.slice (some ⟨g336, 0, none⟩) T.leaves.length c330) 3 1 T.leaves.length (intCs T.leaves), .row (.slice (some ⟨g344, 0, none⟩) U.leaves.length c338) 3 1 U.leaves.length (intCs U.leaves), .row (.slice (some ⟨g320, 0, none⟩) U.size c315) 38 3 U.size (ncells (post U 0)), .row (.slice (some ⟨g15, 0, none⟩) T.size c11) 38 3 T.size (ncells (post T 0))])
        refine cw_loop (ι := Nat) (fun q => [(7, .slice (some ⟨g15, 0, none⟩) T.size c11), (8, .int .i64 (i : Int)), (9, .int .i64 ((2 : Nat) : Int)), (10, .slice (some ⟨g320, 0, none⟩) U.size c315), (12, .slice (some ⟨g336, 0, none⟩) T.leaves.length c330), (13, .slice (some ⟨g344, 0, none⟩) U.leaves.length c338), (36, .int .i64 ((2 : Nat) : Int)), (82, .int .i64 ((T.leaves.length : Nat) : Int)), (83, .int .i64 (q : Int))]) (fun q X => (q ≤ T.leaves.length) ∧ Own Z0 W X [.row (.slice (some ⟨g336, 0, none⟩) T.leaves.length c330) 3 1 T.leaves.length (intCs T.leaves), .row (.slice (some ⟨g344, 0, none⟩) U.leaves.length c338) 3 1 U.leaves.length (intCs U.leaves), .row (.slice (some ⟨g320, 0, none⟩) U.size c315) 38 3 U.size (ncells (post U 0)), .row (.slice (some ⟨g15, 0, none⟩) T.size c11) 38 3 T.size (ncells (post T 0))]) (fun q => T.leaves.length - q) 0 ⟨Nat.zero_le _, O347⟩ ⟨rfl, rfl, rfl, rfl, rfl, rfl, rfl, rfl, rfl, trivial⟩ (fun q w348 hJ F349 K350 => ?_)
        obtain ⟨j, rfl⟩ : ∃ x, x = q := ⟨_, rfl⟩
        obtain ⟨hj0, O351⟩ := hJ
        try dsimp only at hj0 O351 ⊢
        by_cases hj : j < T.leaves.length
        · skip
          obtain ⟨v, hv⟩ : ∃ v, T.leaves[j]? = some v := ⟨_, List.getElem?_eq_getElem hj⟩
          refine cw_seq (fun FK352 K352 => ?_)
          refine cw_region ?_
          refine wl_val (v := .bool true) (fun ρ e => ex_cmp (u := (j : Int)) (v := ((T.leaves.length : Nat) : Int)) (e _ _ rfl) (e _ _ rfl) (lss1 (by omega))) rfl rfl ?_
          refine wl_nil ?_
          refine xw_next K352 ?_
          refine cw_seq (fun FK353 K353 => ?_)
          refine cw_true rfl ?_
          refine cw_skip ?_
          refine xw_next K353 ?_
          refine cw_seq (fun FK354 K354 => ?_)
          refine cw_block ?_
          refine cw_seq (fun FK355 K355 => ?_)
          refine cw_region ?_
          refine wl_val (v := .int .i64 (j : Int)) (fun ρ e => ex_move (e _ _ rfl)) rfl rfl ?_
          refine wl_val (v := .int .i64 (j : Int)) (fun ρ e => ex_assign (e _ _ rfl)) rfl rfl ?_
          refine wl_nil ?_
          refine xw_next K355 ?_
          refine cw_seq (fun FK356 K356 => ?_)
          refine cw_drawn (fun X => Own Z0 W X [.row (.slice (some ⟨g336, 0, none⟩) T.leaves.length c330) 3 1 T.leaves.length (intCs T.leaves), .row (.slice (some ⟨g344, 0, none⟩) U.leaves.length c338) 3 1 U.leaves.length (intCs U.leaves), .row (.slice (some ⟨g320, 0, none⟩) U.size c315) 38 3 U.size (ncells (post U 0)), .row (.slice (some ⟨g15, 0, none⟩) T.size c11) 38 3 T.size (ncells (post T 0))]) 20 [(0, 1), (1, 1), (2, 1), (3, 1), (4, 1), (5, 1), (6, 1), (7, 1), (8, 1), (9, 1), (10, 1), (11, 1), (12, 0), (13, 1), (14, 1), (15, 1), (16, 0), (17, 1), (18, 1), (19, 1)] (by kernel_rfl) (by kernel_rfl) (PQ.then_ (PQ.block (PQ.then_ (PQ.then_ (PQ.block (PQ.then_ (PQ.block (PQ.then_ (PQ.then_ (PQ.block (PQ.then_ PQ.body))))))))))) (O351).drew ?_
          have O357 : Own Z0 W w348.drew [.row (.slice (some ⟨g336, 0, none⟩) T.leaves.length c330) 3 1 T.leaves.length (intCs T.leaves), .row (.slice (some ⟨g344, 0, none⟩) U.leaves.length c338) 3 1 U.leaves.length (intCs U.leaves), .row (.slice (some ⟨g320, 0, none⟩) U.size c315) 38 3 U.size (ncells (post U 0)), .row (.slice (some ⟨g15, 0, none⟩) T.size c11) 38 3 T.size (ncells (post T 0))] := O351.drew
          refine wt1 (v := .int .i64 ((2 : Nat) : Int)) rfl (fun ρ e W => ex_move (e _ _ rfl)) rfl rfl ?_
          refine wt1 (v := .bool false) rfl (fun ρ e W => ex_cmp (u := ((2 : Nat) : Int)) (v := 2) (e _ _ rfl) (e _ _ rfl) (lss0 (by omega))) rfl rfl ?_
          refine wt1 (v := .bool false) rfl (fun ρ e W => ex_move (e _ _ rfl)) rfl rfl ?_
          refine wt1_skip rfl rfl rfl ?_
          refine wt1_skip rfl rfl rfl ?_
          refine wt1_skip rfl rfl rfl ?_
          refine wt1_skip rfl rfl rfl ?_
          refine wt1_skip rfl rfl rfl ?_
          refine wt1_skip rfl rfl rfl ?_
          refine wt1_skip rfl rfl rfl ?_
          refine wt1_skip rfl rfl rfl ?_
          refine wt1_skip rfl rfl rfl ?_
          refine wt0_skip rfl rfl rfl ?_
          refine wt1_skip rfl rfl rfl ?_
          refine wt1_skip rfl rfl rfl ?_
          refine wt1_skip rfl rfl rfl ?_
          refine wt0_skip rfl rfl rfl ?_
          refine wt1_skip rfl rfl rfl ?_
          refine wt1_skip rfl rfl rfl ?_
          refine wt1 (v := .bool false) rfl (fun ρ e W => ex_pick0 (e _ _ rfl) (e _ _ rfl)) rfl rfl ?_
          refine wt_nil ?_
          refine xw_next K356 ?_
          refine cw_false rfl ?_
          refine cw_skip ?_
          refine xw_block ?_
          refine xw_next K354 ?_
          refine cw_region ?_
          refine wl_val (v := .int .i64 ((j + 1 : Nat) : Int)) (fun ρ e => ex_arith (k := .i64) (u := (j : Int)) (v := 1) (e _ _ rfl) (e _ _ rfl) (congrArg some ((congrArg _ (by omega)).trans (wrap_in (u := ((j + 1 : Nat) : Int)) (by omega) (by omega))))) rfl rfl ?_
          refine wl_val (v := .int .i64 ((j + 1 : Nat) : Int)) (fun ρ e => ex_move (e _ _ rfl)) rfl rfl ?_
          refine wl_nil ?_
          refine xw_round K350 (j + 1) (by show T.leaves.length - (j + 1) < T.leaves.length - j; omega) ⟨(by show j + 1 ≤ T.leaves.length; omega), O357⟩ ⟨rfl, rfl, rfl, rfl, rfl, rfl, rfl, rfl, rfl, trivial⟩
        · skip
          refine cw_seq (fun FK358 K358 => ?_)
          refine cw_region ?_
          refine wl_val (v := .bool false) (fun ρ e => ex_cmp (u := (j : Int)) (v := ((T.leaves.length : Nat) : Int)) (e _ _ rfl) (e _ _ rfl) (lss0 (by omega))) rfl rfl ?_
          refine wl_nil ?_
          refine xw_next K358 ?_
          refine cw_seq (fun FK359 K359 => ?_)
          refine cw_false rfl ?_
          refine cw_exit ?_
          refine xw_past (by intro h; cases h) ?_
          refine xw_past (by intro h; cases h) ?_
          refine xw_here ?_
          refine xw_next K345 ?_
          refine cw_seq (fun FK360 K360 => ?_)
          refine cw_region ?_
          obtain ⟨g361, w362, r363, O364, hg365, hs366⟩ := own_makeMap O351 61
          refine wl_val (v := .map (some g361)) (fun ρ e => r363 ρ _ _ _ _ _) rfl rfl ?_
          refine wl_val (v := .map (some g361)) (fun ρ e => ex_assign (e _ _ rfl)) rfl rfl ?_
          refine wl_nil ?_
          refine xw_next K360 ?_
          refine cw_seq (fun FK367 K367 => ?_)
          refine cw_seq (fun FK368 K368 => ?_)
          refine cw_region ?_
          refine wl_val (v := .slice (some ⟨g15, 0, none⟩) T.size c11) (fun ρ e => ex_move (e _ _ rfl)) rfl rfl ?_
          refine wl_call (args := [.slice (some ⟨g15, 0, none⟩) T.size c11]) in_44 rfl rfl rfl ?_
          have hv375 := NodesD.of_row (O364.row 4 rfl)
          have hc373 := vvars_ok (ts := post T 0) (hplT ▸ hv375) (fun k hk => (World.ownsRow.lt (O364.row 4 rfl) k hk).2) (post_ok hgd)
          rw [hplT] at hc373
          refine hc373.mono ?_
          rintro _ w370 ⟨g374, c369, rfl, h371⟩
          have O372 := O364.join1 h371 trivial
          refine ⟨_, rfl, ?_⟩
          refine wl_val (v := .int .i64 ((T.size : Nat) : Int)) (fun ρ e => ex_len el53 (e _ _ rfl)) rfl rfl ?_
          refine wl_val (v := .int .i64 0) (fun ρ e => ex_move (e _ _ rfl)) rfl rfl ?_
          refine wl_nil ?_
          refine xw_next K368 ?_
          refine cw_block ?_
          have O376 : Own Z0 W w370 [.map g361 (encL encS []), .row (.slice (some ⟨g374, 0, none⟩) T.size c369) 57 2 T.size (vcells (setsOf (post T 0))), .row (.slice (some ⟨g320, 0, none⟩) U.size c315) 38 3 U.size (ncells (post U 0)), .row (.slice (some ⟨g15, 0, none⟩) T.size c11) 38 3 T.size (ncells (post T 0))] := (O372.re [1, 0, 4, 5] rfl : Own Z0 W w370 [.map g361 ([]), .row (.slice (some ⟨g374, 0, none⟩) T.size c369) 57 2 T.size (vcells (setsOf (post T 0))), .row (.slice (some ⟨g320, 0, none⟩) U.size c315) 38 3 U.size (ncells (post U 0)), .row (.slice (some ⟨g15, 0, none⟩) T.size c11) 38 3 T.size (ncells (post T 0))])
          refine cw_loop (ι := Nat × List (VS × Value)) (fun q => [(7, .slice (some ⟨g15, 0, none⟩) T.size c11), (8, .int .i64 (i : Int)), (9, .int .i64 ((2 : Nat) : Int)), (10, .slice (some ⟨g320, 0, none⟩) U.size c315), (15, .map (some g361)), (36, .int .i64 ((2 : Nat) : Int)), (109, .slice (some ⟨g374, 0, none⟩) T.size c369), (110, .int .i64 ((T.size : Nat) : Int)), (111, .int .i64 (q.1 : Int))]) (fun q X => (q.1 ≤ T.size) ∧ (Holds q.2 ((setsOf (post T 0)).take q.1)) ∧ Own Z0 W X [.map g361 (encL encS q.2), .row (.slice (some ⟨g374, 0, none⟩) T.size c369) 57 2 T.size (vcells (setsOf (post T 0))), .row (.slice (some ⟨g320, 0, none⟩) U.size c315) 38 3 U.size (ncells (post U 0)), .row (.slice (some ⟨g15, 0, none⟩) T.size c11) 38 3 T.size (ncells (post T 0))]) (fun q => T.size - q.1) (0, []) ⟨Nat.zero_le _, (by rw [List.take_zero]; exact holds_nil), O376⟩ ⟨rfl, rfl, rfl, rfl, rfl, rfl, rfl, rfl, rfl, trivial⟩ (fun q w377 hJ F378 K379 => ?_)
          obtain ⟨j, l⟩ := q
          obtain ⟨hj0, hold, O380⟩ := hJ
          dsimp only at hj0 hold O380 ⊢
          by_cases hj : j < T.size
          · skip
            obtain ⟨sv, hsv⟩ : ∃ s, (setsOf (post T 0))[j]? = some s := ⟨_, List.getElem?_eq_getElem (show j < (setsOf (post T 0)).length by rw [setsOf_len, hplT]; exact hj)⟩
            refine cw_seq (fun FK381 K381 => ?_)
            refine cw_region ?_
            refine wl_val (v := .bool true) (fun ρ e => ex_cmp (u := (j : Int)) (v := ((T.size : Nat) : Int)) (e _ _ rfl) (e _ _ rfl) (lss1 (by omega))) rfl rfl ?_
            refine wl_nil ?_
            refine xw_next K381 ?_
            refine cw_seq (fun FK382 K382 => ?_)
            refine cw_true rfl ?_
            refine cw_skip ?_
            refine xw_next K382 ?_
            refine cw_seq (fun FK383 K383 => ?_)
            refine cw_block ?_
            refine cw_seq (fun FK384 K384 => ?_)
            refine cw_region ?_
            refine wl_val (v := .pointer (some ⟨g374, j * 2, none⟩)) (fun ρ e => ex_idx (q := j * 2) (i := j) el53 (e _ _ rfl) (e _ _ rfl) (by omega) (by omega)) rfl rfl ?_
            refine wl_val (v := .agg #[.int .u64 (sv.a.toNat : Int), .int .u64 (sv.b.toNat : Int)]) (fun ρ e => ex_loadN (vs := [.int .u64 (sv.a.toNat : Int), .int .u64 (sv.b.toNat : Int)]) ty57 (e _ _ rfl) rfl (cells2 (rowcell (O380.row 1 rfl) (vcells_get hsv).1) (rowcell (O380.row 1 rfl) (vcells_get hsv).2))) rfl rfl ?_
            obtain ⟨g385, w386, r387, O388, hg389, hs390⟩ := own_alloc O380 57 ze57 rfl
            refine wl_val (v := .pointer (some ⟨g385, 0, none⟩)) (fun ρ e => r387 ρ _ _ _ _ _) rfl rfl ?_
            obtain ⟨w391, r392, O393, hs394⟩ := own_put (o := 0) (n := 2) O388 ty57 (.agg #[.int .u64 (sv.a.toNat : Int), .int .u64 (sv.b.toNat : Int)]) [.int .u64 (sv.a.toNat : Int), .int .u64 (sv.b.toNat : Int)] (cs' := #[.int .u64 (sv.a.toNat : Int), .int .u64 (sv.b.toNat : Int)]) rfl rfl rfl (Nat.le_of_ble_eq_true rfl) rfl
            refine wl_none (fun ρ e => r392 ρ _ _ _ _ _ _ (e _ _ rfl) (e _ _ rfl)) rfl ?_
            refine wl_nil ?_
            refine xw_next K384 ?_
            refine cw_region ?_
            refine wl_val (v := .map (some g361)) (fun ρ e => ex_move (e _ _ rfl)) rfl rfl ?_
            refine wl_val (v := .agg #[.int .u64 (sv.a.toNat : Int), .int .u64 (sv.b.toNat : Int)]) (fun ρ e => ex_loadN (vs := [.int .u64 (sv.a.toNat : Int), .int .u64 (sv.b.toNat : Int)]) ty57 (e _ _ rfl) rfl (O393.cells 0 0 rfl rfl)) rfl rfl ?_
            obtain ⟨w395, r396, O397, hs398⟩ := own_mapputS (O393.re [1, 0, 2, 3, 4] rfl : Own Z0 W w391 [.map g361 (encL encS l), .blk g385 57 #[.int .u64 (sv.a.toNat : Int), .int .u64 (sv.b.toNat : Int)], .row (.slice (some ⟨g374, 0, none⟩) T.size c369) 57 2 T.size (vcells (setsOf (post T 0))), .row (.slice (some ⟨g320, 0, none⟩) U.size c315) 38 3 U.size (ncells (post U 0)), .row (.slice (some ⟨g15, 0, none⟩) T.size c11) 38 3 T.size (ncells (post T 0))]) Tryd.underlying61 sv (.bool true)
            refine wl_none (fun ρ e => r396 ρ _ _ _ _ _ _ _ (e _ _ rfl) (e _ _ rfl) (e _ _ rfl)) rfl ?_
            refine wl_nil ?_
            refine xw_block ?_
            refine xw_next K383 ?_
            refine cw_region ?_
            refine wl_val (v := .int .i64 ((j + 1 : Nat) : Int)) (fun ρ e => ex_arith (k := .i64) (u := (j : Int)) (v := 1) (e _ _ rfl) (e _ _ rfl) (congrArg some ((congrArg _ (by omega)).trans (wrap_in (u := ((j + 1 : Nat) : Int)) (by omega) (by omega))))) rfl rfl ?_
            refine wl_val (v := .int .i64 ((j + 1 : Nat) : Int)) (fun ρ e => ex_move (e _ _ rfl)) rfl rfl ?_
            refine wl_nil ?_
            refine xw_round K379 (j + 1, (aput sv (.bool true) l)) (by show T.size - (j + 1) < T.size - j; omega) ⟨(by show j + 1 ≤ T.size; omega), (hold.step hsv), (O397.re [0, 2, 3, 4] rfl : Own Z0 W w395 [.map g361 (encL encS (aput sv (.bool true) l)), .row (.slice (some ⟨g374, 0, none⟩) T.size c369) 57 2 T.size (vcells (setsOf (post T 0))), .row (.slice (some ⟨g320, 0, none⟩) U.size c315) 38 3 U.size (ncells (post U 0)), .row (.slice (some ⟨g15, 0, none⟩) T.size c11) 38 3 T.size (ncells (post T 0))])⟩ ⟨rfl, rfl, rfl, rfl, rfl, rfl, rfl, rfl, rfl, trivial⟩
          · have hje : j = T.size := by omega
            have hold2 := hold
            rw [hje, ← hplT, ← setsOf_len (post T 0), List.take_length] at hold2
            clear hold
            have hold := hold2
            refine cw_seq (fun FK399 K399 => ?_)
            refine cw_region ?_
            refine wl_val (v := .bool false) (fun ρ e => ex_cmp (u := (j : Int)) (v := ((T.size : Nat) : Int)) (e _ _ rfl) (e _ _ rfl) (lss0 (by omega))) rfl rfl ?_
            refine wl_nil ?_
            refine xw_next K399 ?_
            refine cw_seq (fun FK400 K400 => ?_)
            refine cw_false rfl ?_
            refine cw_exit ?_
            refine xw_past (by intro h; cases h) ?_
            refine xw_past (by intro h; cases h) ?_
            refine xw_here ?_
            refine xw_next K367 ?_
            refine cw_seq (fun FK401 K401 => ?_)
            refine cw_region ?_
            refine wl_val (v := .int .i64 0) (fun ρ e => ex_assign (e _ _ rfl)) rfl rfl ?_
            refine wl_nil ?_
            refine xw_next K401 ?_
            refine cw_seq (fun FK402 K402 => ?_)
            refine cw_seq (fun FK403 K403 => ?_)
            refine cw_region ?_
            refine wl_val (v := .slice (some ⟨g320, 0, none⟩) U.size c315) (fun ρ e => ex_move (e _ _ rfl)) rfl rfl ?_
            refine wl_call (args := [.slice (some ⟨g320, 0, none⟩) U.size c315]) in_44 rfl rfl rfl ?_
            have hv410 := NodesD.of_row (O380.row 2 rfl)
            have hc408 := vvars_ok (ts := post U 0) (hplU ▸ hv410) (fun k hk => (World.ownsRow.lt (O380.row 2 rfl) k hk).2) (post_ok gU)
            rw [hplU] at hc408
            refine hc408.mono ?_
            rintro _ w405 ⟨g409, c404, rfl, h406⟩
            have O407 := O380.join1 h406 trivial
            refine ⟨_, rfl, ?_⟩
            refine wl_val (v := .int .i64 ((U.size : Nat) : Int)) (fun ρ e => ex_len el53 (e _ _ rfl)) rfl rfl ?_
            refine wl_val (v := .int .i64 0) (fun ρ e => ex_move (e _ _ rfl)) rfl rfl ?_
            refine wl_nil ?_
            refine xw_next K403 ?_
            refine cw_block ?_
            have O411 : Own Z0 W w405 [.map g361 (encL encS l), .row (.slice (some ⟨g409, 0, none⟩) U.size c404) 57 2 U.size (vcells (setsOf (post U 0))), .row (.slice (some ⟨g15, 0, none⟩) T.size c11) 38 3 T.size (ncells (post T 0))] := (O407.re [1, 0, 4] rfl : Own Z0 W w405 [.map g361 (encL encS l), .row (.slice (some ⟨g409, 0, none⟩) U.size c404) 57 2 U.size (vcells (setsOf (post U 0))), .row (.slice (some ⟨g15, 0, none⟩) T.size c11) 38 3 T.size (ncells (post T 0))])
            have hn0 : 0 = newOf (setsOf (post T 0)) ((setsOf (post U 0)).take 0) := by rw [List.take_zero]; rfl
            refine cw_loop (ι := Nat × Nat) (fun q => [(7, .slice (some ⟨g15, 0, none⟩) T.size c11), (8, .int .i64 (i : Int)), (9, .int .i64 ((2 : Nat) : Int)), (15, .map (some g361)), (36, .int .i64 ((2 : Nat) : Int)), (119, .slice (some ⟨g409, 0, none⟩) U.size c404), (120, .int .i64 ((U.size : Nat) : Int)), (18, .int .i64 (q.2 : Int)), (121, .int .i64 (q.1 : Int))]) (fun q X => (q.1 ≤ U.size) ∧ (q.2 = newOf (setsOf (post T 0)) ((setsOf (post U 0)).take q.1)) ∧ Own Z0 W X [.map g361 (encL encS l), .row (.slice (some ⟨g409, 0, none⟩) U.size c404) 57 2 U.size (vcells (setsOf (post U 0))), .row (.slice (some ⟨g15, 0, none⟩) T.size c11) 38 3 T.size (ncells (post T 0))]) (fun q => U.size - q.1) (0, 0) ⟨Nat.zero_le _, hn0, O411⟩ ⟨rfl, rfl, rfl, rfl, rfl, rfl, rfl, rfl, rfl, trivial⟩ (fun q w412 hJ F413 K414 => ?_)
            obtain ⟨j, cn⟩ := q
            obtain ⟨hj0, hcn, O415⟩ := hJ
            dsimp only at hj0 hcn O415 ⊢
            by_cases hj : j < U.size
            · skip
              obtain ⟨sv, hsv⟩ : ∃ s, (setsOf (post U 0))[j]? = some s := ⟨_, List.getElem?_eq_getElem (show j < (setsOf (post U 0)).length by rw [setsOf_len, hplU]; exact hj)⟩
              have hcb : cn ≤ j := by rw [hcn]; exact newOf_le _ _ _
              refine cw_seq (fun FK416 K416 => ?_)
              refine cw_region ?_
              refine wl_val (v := .bool true) (fun ρ e => ex_cmp (u := (j : Int)) (v := ((U.size : Nat) : Int)) (e _ _ rfl) (e _ _ rfl) (lss1 (by omega))) rfl rfl ?_
              refine wl_nil ?_
              refine xw_next K416 ?_
              refine cw_seq (fun FK417 K417 => ?_)
              refine cw_true rfl ?_
              refine cw_skip ?_
              refine xw_next K417 ?_
              refine cw_seq (fun FK418 K418 => ?_)
              refine cw_block ?_
              refine cw_seq (fun FK419 K419 => ?_)
              refine cw_region ?_
              refine wl_val (v := .pointer (some ⟨g409, j * 2, none⟩)) (fun ρ e => ex_idx (q := j * 2) (i := j) el53 (e _ _ rfl) (e _ _ rfl) (by omega) (by omega)) rfl rfl ?_
              refine wl_val (v := .agg #[.int .u64 (sv.a.toNat : Int), .int .u64 (sv.b.toNat : Int)]) (fun ρ e => ex_loadN (vs := [.int .u64 (sv.a.toNat : Int), .int .u64 (sv.b.toNat : Int)]) ty57 (e _ _ rfl) rfl (cells2 (rowcell (O415.row 1 rfl) (vcells_get hsv).1) (rowcell (O415.row 1 rfl) (vcells_get hsv).2))) rfl rfl ?_
              obtain ⟨g420, w421, r422, O423, hg424, hs425⟩ := own_alloc O415 57 ze57 rfl
              refine wl_val (v := .pointer (some ⟨g420, 0, none⟩)) (fun ρ e => r422 ρ _ _ _ _ _) rfl rfl ?_
              obtain ⟨w426, r427, O428, hs429⟩ := own_put (o := 0) (n := 2) O423 ty57 (.agg #[.int .u64 (sv.a.toNat : Int), .int .u64 (sv.b.toNat : Int)]) [.int .u64 (sv.a.toNat : Int), .int .u64 (sv.b.toNat : Int)] (cs' := #[.int .u64 (sv.a.toNat : Int), .int .u64 (sv.b.toNat : Int)]) rfl rfl rfl (Nat.le_of_ble_eq_true rfl) rfl
              refine wl_none (fun ρ e => r427 ρ _ _ _ _ _ _ (e _ _ rfl) (e _ _ rfl)) rfl ?_
              refine wl_nil ?_
              refine xw_next K419 ?_
              refine cw_seq (fun FK430 K430 => ?_)
              refine cw_region ?_
              refine wl_val (v := .map (some g361)) (fun ρ e => ex_move (e _ _ rfl)) rfl rfl ?_
              refine wl_val (v := .agg #[.int .u64 (sv.a.toNat : Int), .int .u64 (sv.b.toNat : Int)]) (fun ρ e => ex_loadN (vs := [.int .u64 (sv.a.toNat : Int), .int .u64 (sv.b.toNat : Int)]) ty57 (e _ _ rfl) rfl (O428.cells 0 0 rfl rfl)) rfl rfl ?_
              refine wl_val (v := .bool (decide (sv ∈ (setsOf (post T 0))))) (fun ρ e => ex_lookS Tryd.underlying61 ze4 (O428.map 1 rfl) sv (hold.at_ sv) (e _ _ rfl) (e _ _ rfl)) rfl rfl ?_
              refine wl_val (v := .bool (!(decide (sv ∈ (setsOf (post T 0)))))) (fun ρ e => ex_lnot (b := (decide (sv ∈ (setsOf (post T 0))))) (e _ _ rfl)) rfl rfl ?_
              refine wl_nil ?_
              refine xw_next K430 ?_
              refine cw_cond (b := (!(decide (sv ∈ (setsOf (post T 0)))))) rfl (fun c431 => ?_) (fun c431 => ?_)
              · skip
                refine cw_region ?_
                refine wl_val (v := .int .i64 (cn : Int)) (fun ρ e => ex_move (e _ _ rfl)) rfl rfl ?_
                refine wl_val (v := .int .i64 ((cn + 1 : Nat) : Int)) (fun ρ e => ex_arith (k := .i64) (u := (cn : Int)) (v := 1) (e _ _ rfl) (e _ _ rfl) (congrArg some ((congrArg _ (by omega)).trans (wrap_in (u := ((cn + 1 : Nat) : Int)) (by omega) (by omega))))) rfl rfl ?_
                refine wl_val (v := .int .i64 ((cn + 1 : Nat) : Int)) (fun ρ e => ex_assign (e _ _ rfl)) rfl rfl ?_
                refine wl_nil ?_
                refine xw_block ?_
                refine xw_next K418 ?_
                refine cw_region ?_
                refine wl_val (v := .int .i64 ((j + 1 : Nat) : Int)) (fun ρ e => ex_arith (k := .i64) (u := (j : Int)) (v := 1) (e _ _ rfl) (e _ _ rfl) (congrArg some ((congrArg _ (by omega)).trans (wrap_in (u := ((j + 1 : Nat) : Int)) (by omega) (by omega))))) rfl rfl ?_
                refine wl_val (v := .int .i64 ((j + 1 : Nat) : Int)) (fun ρ e => ex_move (e _ _ rfl)) rfl rfl ?_
                refine wl_nil ?_
                refine xw_round K414 (j + 1, cn + 1) (by show U.size - (j + 1) < U.size - j; omega) ⟨(by show j + 1 ≤ U.size; omega), (by show cn + 1 = newOf (setsOf (post T 0)) ((setsOf (post U 0)).take (j + 1)); have h9 := newOf_step (S := (setsOf (post T 0))) hsv; rw [if_pos (by simpa using c431)] at h9; omega), (O428.re [1, 2, 3] rfl : Own Z0 W w426 [.map g361 (encL encS l), .row (.slice (some ⟨g409, 0, none⟩) U.size c404) 57 2 U.size (vcells (setsOf (post U 0))), .row (.slice (some ⟨g15, 0, none⟩) T.size c11) 38 3 T.size (ncells (post T 0))])⟩ ⟨rfl, rfl, rfl, rfl, rfl, rfl, rfl, rfl, rfl, trivial⟩
              · skip
                refine cw_skip ?_
                refine xw_block ?_
                refine xw_next K418 ?_
                refine cw_region ?_
                refine wl_val (v := .int .i64 ((j + 1 : Nat) : Int)) (fun ρ e => ex_arith (k := .i64) (u := (j : Int)) (v := 1) (e _ _ rfl) (e _ _ rfl) (congrArg some ((congrArg _ (by omega)).trans (wrap_in (u := ((j + 1 : Nat) : Int)) (by omega) (by omega))))) rfl rfl ?_
                refine wl_val (v := .int .i64 ((j + 1 : Nat) : Int)) (fun ρ e => ex_move (e _ _ rfl)) rfl rfl ?_
                refine wl_nil ?_
                refine xw_round K414 (j + 1, cn) (by show U.size - (j + 1) < U.size - j; omega) ⟨(by show j + 1 ≤ U.size; omega), (by show cn = newOf (setsOf (post T 0)) ((setsOf (post U 0)).take (j + 1)); have h9 := newOf_step (S := (setsOf (post T 0))) hsv; rw [if_neg (by simpa using c431)] at h9; omega), (O428.re [1, 2, 3] rfl : Own Z0 W w426 [.map g361 (encL encS l), .row (.slice (some ⟨g409, 0, none⟩) U.size c404) 57 2 U.size (vcells (setsOf (post U 0))), .row (.slice (some ⟨g15, 0, none⟩) T.size c11) 38 3 T.size (ncells (post T 0))])⟩ ⟨rfl, rfl, rfl, rfl, rfl, rfl, rfl, rfl, rfl, trivial⟩
            · have hje : j = U.size := by omega
              rw [hje, ← hplU, ← setsOf_len (post U 0), List.take_length, hcount] at hcn
              obtain rfl : cn = 0 := by simpa using hcn
              refine cw_seq (fun FK432 K432 => ?_)
              refine cw_region ?_
              refine wl_val (v := .bool false) (fun ρ e => ex_cmp (u := (j : Int)) (v := ((U.size : Nat) : Int)) (e _ _ rfl) (e _ _ rfl) (lss0 (by omega))) rfl rfl ?_
              refine wl_nil ?_
              refine xw_next K432 ?_
              refine cw_seq (fun FK433 K433 => ?_)
              refine cw_false rfl ?_
              refine cw_exit ?_
              refine xw_past (by intro h; cases h) ?_
              refine xw_past (by intro h; cases h) ?_
              refine xw_here ?_
              refine xw_next K402 ?_
              refine cw_seq (fun FK434 K434 => ?_)
              refine cw_region ?_
              refine wl_val (v := .int .i64 ((2 : Nat) : Int)) (fun ρ e => ex_move (e _ _ rfl)) rfl rfl ?_
              refine wl_val (v := .bool false) (fun ρ e => ex_cmp (u := ((2 : Nat) : Int)) (v := 2) (e _ _ rfl) (e _ _ rfl) (lss0 (by omega))) rfl rfl ?_
              refine wl_val (v := .bool false) (fun ρ e => ex_move (e _ _ rfl)) rfl rfl ?_
              refine wl_skip rfl rfl ?_
              refine wl_skip rfl rfl ?_
              refine wl_val (v := .bool false) (fun ρ e => ex_pick0 (e _ _ rfl) (e _ _ rfl)) rfl rfl ?_
              refine wl_val (v := .bool false) (fun ρ e => ex_move (e _ _ rfl)) rfl rfl ?_
              refine wl_val (v := .int .i64 ((2 : Nat) : Int)) (fun ρ e => ex_move (e _ _ rfl)) rfl rfl ?_
              refine wl_val (v := .bool true) (fun ρ e => ex_cmp (u := ((2 : Nat) : Int)) (v := 2) (e _ _ rfl) (e _ _ rfl) (eql1 (by omega))) rfl rfl ?_
              refine wl_val (v := .bool true) (fun ρ e => ex_move (e _ _ rfl)) rfl rfl ?_
              refine wl_val (v := .int .i64 ((0 : Nat) : Int)) (fun ρ e => ex_move (e _ _ rfl)) rfl rfl ?_
              refine wl_val (v := .bool false) (fun ρ e => ex_cmp (u := ((0 : Nat) : Int)) (v := 0) (e _ _ rfl) (e _ _ rfl) (neq0 (by omega))) rfl rfl ?_
              refine wl_val (v := .bool false) (fun ρ e => ex_pick1 (e _ _ rfl) (e _ _ rfl)) rfl rfl ?_
              refine wl_val (v := .bool false) (fun ρ e => ex_pick0 (e _ _ rfl) (e _ _ rfl)) rfl rfl ?_
              refine wl_nil ?_
              refine xw_next K434 ?_
              refine cw_false rfl ?_
              refine cw_skip ?_
              refine xw_block ?_
              refine xw_next K305 ?_
              refine cw_region ?_
              refine wl_val (v := .int .i64 ((2 + 1 : Nat) : Int)) (fun ρ e => ex_arith (k := .i64) (u := ((2 : Nat) : Int)) (v := 1) (e _ _ rfl) (e _ _ rfl) (congrArg some ((congrArg _ (by omega)).trans (wrap_in (u := ((2 + 1 : Nat) : Int)) (by omega) (by omega))))) rfl rfl ?_
              refine wl_val (v := .int .i64 ((2 + 1 : Nat) : Int)) (fun ρ e => ex_move (e _ _ rfl)) rfl rfl ?_
              refine wl_nil ?_
              refine xw_round K24 (2 + 1) (by show 3 - (2 + 1) < 3 - 2; omega) ⟨(by show 2 + 1 ≤ 3; omega), (O415.re [2] rfl : Own Z0 W w412 [.row (.slice (some ⟨g15, 0, none⟩) T.size c11) 38 3 T.size (ncells (post T 0))])⟩ ⟨rfl, rfl, rfl, trivial⟩
      · skip
        have hU : tAt 3 T 0 i = none := by simpa using c313
        refine wl_call (args := [.slice (some ⟨g15, 0, none⟩) T.size c11, .int .i64 (i : Int)]) in_34 rfl rfl rfl ?_
        have hc440 := swap_ (NodesD.of_row (O25.row 0 rfl)) (fun k hk => (World.ownsRow.lt (O25.row 0 rfl) k hk).2) (i : Int)
        rw [show movOf (post T 0) 3 (i : Int) = (([] : List VN), 1) from mov_none hgd (by omega) li hU] at hc440
        refine hc440.mono ?_
        rintro _ w437 ⟨A435, c436, rfl, h438⟩
        have O439 := O25.join1 h438 trivial
        refine ⟨_, rfl, ?_⟩
        refine wl_val (v := .tuple #[.slice A435 (([] : List VN).length) c436, .int .i64 1]) (fun ρ e => ex_move (e _ _ rfl)) rfl rfl ?_
        refine wl_val (v := .slice A435 (([] : List VN).length) c436) (fun ρ e => ex_extract (vs := #[.slice A435 (([] : List VN).length) c436, .int .i64 1]) (e _ _ rfl) rfl) rfl rfl ?_
        refine wl_val (v := .int .i64 1) (fun ρ e => ex_extract (vs := #[.slice A435 (([] : List VN).length) c436, .int .i64 1]) (e _ _ rfl) rfl) rfl rfl ?_
        refine wl_val (v := .slice A435 (([] : List VN).length) c436) (fun ρ e => ex_assign (e _ _ rfl)) rfl rfl ?_
        refine wl_val (v := .int .i64 1) (fun ρ e => ex_assign (e _ _ rfl)) rfl rfl ?_
        refine wl_nil ?_
        refine xw_block ?_
        refine xw_next K308 ?_
        refine cw_seq (fun FK441 K441 => ?_)
        refine cw_seq (fun FK442 K442 => ?_)
        refine cw_region ?_
        refine wl_val (v := .int .i64 1) (fun ρ e => ex_move (e _ _ rfl)) rfl rfl ?_
        refine wl_val (v := .bool true) (fun ρ e => ex_cmp (u := 1) (v := 0) (e _ _ rfl) (e _ _ rfl) (neq1 (by omega))) rfl rfl ?_
        refine wl_nil ?_
        refine xw_next K442 ?_
        refine cw_true rfl ?_
        refine cw_exit ?_
        refine xw_past (by intro h; cases h) ?_
        refine xw_here ?_
        refine xw_next K305 ?_
        refine cw_region ?_
        refine wl_val (v := .int .i64 ((2 + 1 : Nat) : Int)) (fun ρ e => ex_arith (k := .i64) (u := ((2 : Nat) : Int)) (v := 1) (e _ _ rfl) (e _ _ rfl) (congrArg some ((congrArg _ (by omega)).trans (wrap_in (u := ((2 + 1 : Nat) : Int)) (by omega) (by omega))))) rfl rfl ?_
        refine wl_val (v := .int .i64 ((2 + 1 : Nat) : Int)) (fun ρ e => ex_move (e _ _ rfl)) rfl rfl ?_
        refine wl_nil ?_
        refine xw_round K24 (2 + 1) (by show 3 - (2 + 1) < 3 - 2; omega) ⟨(by show 2 + 1 ≤ 3; omega), (O439.re [1] rfl : Own Z0 W w437 [.row (.slice (some ⟨g15, 0, none⟩) T.size c11) 38 3 T.size (ncells (post T 0))])⟩ ⟨rfl, rfl, rfl, trivial⟩
    · skip
      refine cw_seq (fun FK443 K443 => ?_)
      refine cw_region ?_
      refine wl_val (v := .bool false) (fun ρ e => ex_cmp (u := ((3 : Nat) : Int)) (v := 3) (e _ _ rfl) (e _ _ rfl) (lss0 (by omega))) rfl rfl ?_
      refine wl_nil ?_
      refine xw_next K443 ?_
      refine cw_seq (fun FK444 K444 => ?_)
      refine cw_false rfl ?_
      refine cw_exit ?_
      refine xw_past (by intro h; cases h) ?_
      refine xw_past (by intro h; cases h) ?_
      refine xw_here ?_
      refine xw_next K19 ?_
      refine cw_seq (fun FK445 K445 => ?_)
      refine cw_region ?_
      refine wl_call (args := []) in_14 rfl rfl rfl ?_
      refine (works_ (tab.below (Nat.le_refl _) O25.old)).mono ?_
      rintro _ w446 ⟨rfl, hb447⟩
      have O448 : Own Z0 W w446 [.row (.slice (some ⟨g15, 0, none⟩) T.size c11) 38 3 T.size (ncells (post T 0))] := O25.below hb447
      refine ⟨_, rfl, ?_⟩
      refine wl_val (v := .bool true) (fun ρ e => ex_assign (e _ _ rfl)) rfl rfl ?_
      refine wl_nil ?_
      refine xw_next K445 ?_
      refine cw_ret ?_
      refine xw_ret (v := .bool true) (fun T hT => res1 rfl T _ (hT 6 _ rfl)) ?_
      exact ⟨rfl, O448.old⟩

end Go.Proofs.YtpeoodkepjhhiaaDoor
