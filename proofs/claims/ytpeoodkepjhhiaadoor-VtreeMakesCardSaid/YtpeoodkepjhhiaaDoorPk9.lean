/-
  Lemmas and contracts, joined: Vrmake VlMakes.
-/
import Derived.Test.YtpeoodkepjhhiaaDoorPk8
namespace Go.Proofs.YtpeoodkepjhhiaaDoor
open Go Go.RowKit
theorem IntsD.take_ {D : Nat → Prop} {w : World} {b o n c k : Nat} {xs : List Int} (h : IntsD D w (.slice (some ⟨b, o, none⟩) n c) xs) (hk : k ≤ xs.length) : IntsD D w (.slice (some ⟨b, o, none⟩) k c) (xs.take k) := by
  obtain ⟨A, c', h1, h2, h3, h4⟩ := h
  injection h1 with hA _ hc
  subst hc
  have hl : (xs.take k).length = k := by rw [List.length_take]; omega
  refine ⟨some ⟨b, o, none⟩, c, by rw [hl], by omega, h3, fun hp => ?_⟩
  obtain ⟨b', o', h5, h6, h7⟩ := h4 (by omega)
  refine ⟨b', o', h5, hA.trans h6, fun i x hx => h7 i x ?_⟩
  rw [List.getElem?_take] at hx
  split at hx
  · exact hx
  · cases hx
theorem rorder_ {W : World} {D : Nat → Prop} {V : Value} {l : List Int} (hI : IntsD D W V l) (hD : ∀ k, D k → k < W.heap.size) (hsz : l.length ≤ 1000000) :
    Calls Tryd.prog 77 #[V] W fun e w' => e = .returned (.bool (ordB l)) ∧ Below W.heap.size W w' := by
  obtain ⟨A, c, rfl⟩ := hI.slice
  have hcap := hI.cap
  rcases Nat.eq_zero_or_pos l.length with h0 | h0
  · skip
    have O0 : Own Z0 W W [] := Own.start W
    refine sx_enter (args := [.slice A l.length c]) Tryd.func77 rfl rfl (by simp) ?_
    refine cw_seq (fun FK1 K1 => ?_)
    refine cw_region ?_
    refine wl_val (v := .bool false) (fun ρ e => ex_assign (e _ _ rfl)) rfl rfl ?_
    refine wl_nil ?_
    refine xw_next K1 ?_
    refine cw_seq (fun FK2 K2 => ?_)
    refine cw_seq (fun FK3 K3 => ?_)
    refine cw_region ?_
    refine wl_val (v := .int .i64 0) (fun ρ e => ex_assign (e _ _ rfl)) rfl rfl ?_
    refine wl_nil ?_
    refine xw_next K3 ?_
    refine cw_block ?_
    refine cw_loop (ι := Nat) (fun q => [(0, .slice A l.length c), (3, .int .i64 (q : Int))]) (fun q X => (q ≤ l.length) ∧ (opreB (l.take q) = true) ∧ Own Z0 W X []) (fun q => l.length - q) 0 ⟨Nat.zero_le _, (by rw [List.take_zero]; rfl), O0⟩ ⟨rfl, rfl, trivial⟩ (fun q w4 hJ F5 K6 => ?_)
    obtain ⟨i, rfl⟩ : ∃ x, x = q := ⟨_, rfl⟩
    obtain ⟨hi0, hp, O7⟩ := hJ
    try dsimp only at hi0 hp O7 ⊢
    by_cases hi : i < l.length
    · skip
      exact absurd hi (by omega)
    · have hie : i = l.length := by omega
      refine cw_seq (fun FK8 K8 => ?_)
      refine cw_seq (fun FK9 K9 => ?_)
      refine cw_region ?_
      refine wl_val (v := .int .i64 (i : Int)) (fun ρ e => ex_move (e _ _ rfl)) rfl rfl ?_
      refine wl_val (v := .slice A l.length c) (fun ρ e => ex_move (e _ _ rfl)) rfl rfl ?_
      refine wl_val (v := .int .i64 ((l.length : Nat) : Int)) (fun ρ e => ex_len el36 (e _ _ rfl)) rfl rfl ?_
      refine wl_val (v := .bool false) (fun ρ e => ex_cmp (u := (i : Int)) (v := ((l.length : Nat) : Int)) (e _ _ rfl) (e _ _ rfl) (lss0 (by omega))) rfl rfl ?_
      refine wl_nil ?_
      refine xw_next K9 ?_
      refine cw_false rfl ?_
      refine cw_exit ?_
      refine xw_past (by intro h; cases h) ?_
      refine xw_past (by intro h; cases h) ?_
      refine xw_here ?_
      refine xw_next K2 ?_
      refine cw_seq (fun FK10 K10 => ?_)
      refine cw_region ?_
      refine wl_val (v := .slice A l.length c) (fun ρ e => ex_move (e _ _ rfl)) rfl rfl ?_
      refine wl_val (v := .int .i64 ((l.length : Nat) : Int)) (fun ρ e => ex_len el36 (e _ _ rfl)) rfl rfl ?_
      refine wl_val (v := .bool false) (fun ρ e => ex_cmp (u := ((l.length : Nat) : Int)) (v := 0) (e _ _ rfl) (e _ _ rfl) (gtr0 (by omega))) rfl rfl ?_
      refine wl_val (v := .bool false) (fun ρ e => ex_assign (e _ _ rfl)) rfl rfl ?_
      refine wl_nil ?_
      refine xw_next K10 ?_
      refine cw_ret ?_
      refine xw_ret (v := .bool false) (fun T hT => res1 rfl T _ (hT 2 _ rfl)) ?_
      rw [hie, List.take_length] at hp
      have hr : ordB l = false := Bool.eq_false_iff.2 fun q => by have := (ordB_iff.1 q).1; omega
      rw [hr]
      exact ⟨rfl, O7.old⟩
  · obtain ⟨b, o, c', hv0⟩ := hI.form h0
    injection hv0 with hA _ hc
    subst hA hc
    have O0 : Own Z0 W W [.ro D (fun w => IntsD D w (.slice (some ⟨b, o, none⟩) l.length c) l)] := (Own.start W).oldro (D := D) (p := (fun w => IntsD D w (.slice (some ⟨b, o, none⟩) l.length c) l)) (inE_holds hI hD)
    refine sx_enter (args := [.slice (some ⟨b, o, none⟩) l.length c]) Tryd.func77 rfl rfl (by simp) ?_
    refine cw_seq (fun FK11 K11 => ?_)
    refine cw_region ?_
    refine wl_val (v := .bool false) (fun ρ e => ex_assign (e _ _ rfl)) rfl rfl ?_
    refine wl_nil ?_
    refine xw_next K11 ?_
    refine cw_seq (fun FK12 K12 => ?_)
    refine cw_seq (fun FK13 K13 => ?_)
    refine cw_region ?_
    refine wl_val (v := .int .i64 0) (fun ρ e => ex_assign (e _ _ rfl)) rfl rfl ?_
    refine wl_nil ?_
    refine xw_next K13 ?_
    refine cw_block ?_
    refine cw_loop (ι := Nat) (fun q => [(0, .slice (some ⟨b, o, none⟩) l.length c), (3, .int .i64 (q : Int))]) (fun q X => (q ≤ l.length) ∧ (opreB (l.take q) = true) ∧ Own Z0 W X [.ro D (fun w => IntsD D w (.slice (some ⟨b, o, none⟩) l.length c) l)]) (fun q => l.length - q) 0 ⟨Nat.zero_le _, (by rw [List.take_zero]; rfl), O0⟩ ⟨rfl, rfl, trivial⟩ (fun q w14 hJ F15 K16 => ?_)
    obtain ⟨i, rfl⟩ : ∃ x, x = q := ⟨_, rfl⟩
    obtain ⟨hi0, hp, O17⟩ := hJ
    try dsimp only at hi0 hp O17 ⊢
    by_cases hi : i < l.length
    · skip
      obtain ⟨v, hv⟩ : ∃ v, l[i]? = some v := ⟨l[i], List.getElem?_eq_getElem hi⟩
      have htk : l.take (i + 1) = l.take i ++ [v] := take_more hv
      refine cw_seq (fun FK18 K18 => ?_)
      refine cw_seq (fun FK19 K19 => ?_)
      refine cw_region ?_
      refine wl_val (v := .int .i64 (i : Int)) (fun ρ e => ex_move (e _ _ rfl)) rfl rfl ?_
      refine wl_val (v := .slice (some ⟨b, o, none⟩) l.length c) (fun ρ e => ex_move (e _ _ rfl)) rfl rfl ?_
      refine wl_val (v := .int .i64 ((l.length : Nat) : Int)) (fun ρ e => ex_len el36 (e _ _ rfl)) rfl rfl ?_
      refine wl_val (v := .bool true) (fun ρ e => ex_cmp (u := (i : Int)) (v := ((l.length : Nat) : Int)) (e _ _ rfl) (e _ _ rfl) (lss1 (by omega))) rfl rfl ?_
      refine wl_nil ?_
      refine xw_next K19 ?_
      refine cw_true rfl ?_
      refine cw_skip ?_
      refine xw_next K18 ?_
      refine cw_seq (fun FK20 K20 => ?_)
      refine cw_block ?_
      refine cw_seq (fun FK21 K21 => ?_)
      refine cw_drawn (fun X => Own Z0 W X [.ro D (fun w => IntsD D w (.slice (some ⟨b, o, none⟩) l.length c) l)]) 22 [(0, 1), (1, 1), (2, 1), (3, 0), (4, 1), (5, 1), (6, 1), (7, 1), (8, 1), (9, 0), (10, 1), (11, 1), (12, 1), (13, 1), (14, 1), (15, 1), (16, 1), (17, 1), (18, 1), (19, 0), (20, 2), (21, 1)] (by kernel_rfl) (by kernel_rfl) (PQ.then_ (PQ.block (PQ.then_ (PQ.then_ (PQ.block (PQ.then_ PQ.body)))))) (O17).drew ?_
      have O22 : Own Z0 W w14.drew [.ro D (fun w => IntsD D w (.slice (some ⟨b, o, none⟩) l.length c) l)] := O17.drew
      refine wt1 (v := .slice (some ⟨b, o, none⟩) l.length c) rfl (fun ρ e W => ex_move (e _ _ rfl)) rfl rfl ?_
      refine wt1 (v := .int .i64 (i : Int)) rfl (fun ρ e W => ex_move (e _ _ rfl)) rfl rfl ?_
      refine wt1 (v := .pointer (some ⟨b, o + i, none⟩)) rfl (fun ρ e W => ex_idx (q := o + i) (i := i) el36 (e _ _ rfl) (e _ _ rfl) (by omega) (by omega)) rfl rfl ?_
      refine wt0 (v := .int .i64 v) rfl (fun ρ e W hW => ex_load1 ty3 (e _ _ rfl) (IntsD.cellq ((hW.ro 0 rfl) : IntsD _ _ (.slice (some ⟨b, o, none⟩) l.length c) l) hv)) rfl rfl ?_
      by_cases c23 : v < 1
      · skip
        refine wt1 (v := .bool true) rfl (fun ρ e W => ex_cmp (u := v) (v := 1) (e _ _ rfl) (e _ _ rfl) (lss1 (by omega))) rfl rfl ?_
        refine wt1 (v := .bool true) rfl (fun ρ e W => ex_move (e _ _ rfl)) rfl rfl ?_
        refine wt1_skip rfl rfl rfl ?_
        refine wt1_skip rfl rfl rfl ?_
        refine wt1_skip rfl rfl rfl ?_
        refine wt0_skip rfl rfl rfl ?_
        refine wt1_skip rfl rfl rfl ?_
        refine wt1 (v := .bool true) rfl (fun ρ e W => ex_pick1 (e _ _ rfl) (e _ _ rfl)) rfl rfl ?_
        refine wt1 (v := .bool true) rfl (fun ρ e W => ex_move (e _ _ rfl)) rfl rfl ?_
        refine wt1_skip rfl rfl rfl ?_
        refine wt1_skip rfl rfl rfl ?_
        refine wt1_skip rfl rfl rfl ?_
        refine wt1_skip rfl rfl rfl ?_
        refine wt1_skip rfl rfl rfl ?_
        refine wt1_skip rfl rfl rfl ?_
        refine wt0_skip rfl rfl rfl ?_
        refine wt2_skip rfl rfl rfl O22 ?_
        refine wt1 (v := .bool true) rfl (fun ρ e W => ex_pick1 (e _ _ rfl) (e _ _ rfl)) rfl rfl ?_
        refine wt_nil ?_
        refine xw_next K21 ?_
        refine cw_true rfl ?_
        refine cw_seq (fun FK24 K24 => ?_)
        refine cw_region ?_
        refine wl_val (v := .bool false) (fun ρ e => ex_assign (e _ _ rfl)) rfl rfl ?_
        refine wl_nil ?_
        refine xw_next K24 ?_
        refine cw_ret ?_
        refine xw_blockret ?_
        refine xw_past (by intro h; cases h) ?_
        refine xw_past (by intro h; cases h) ?_
        refine xw_blockret ?_
        refine xw_past (by intro h; cases h) ?_
        refine xw_ret (v := .bool false) (fun T hT => res1 rfl T _ (hT 2 _ rfl)) ?_
        have hno : ordB l = false := Bool.eq_false_iff.2 fun q => by have q2 := opre_take (ordB_iff.1 q).2 (i + 1); rw [htk, opre_snoc hp] at q2; first | omega | (have := q2.2.2; simp_all)
        rw [hno]
        exact ⟨rfl, O22.old⟩
      · skip
        refine wt1 (v := .bool false) rfl (fun ρ e W => ex_cmp (u := v) (v := 1) (e _ _ rfl) (e _ _ rfl) (lss0 (by omega))) rfl rfl ?_
        refine wt1 (v := .bool false) rfl (fun ρ e W => ex_move (e _ _ rfl)) rfl rfl ?_
        refine wt1 (v := .slice (some ⟨b, o, none⟩) l.length c) rfl (fun ρ e W => ex_move (e _ _ rfl)) rfl rfl ?_
        refine wt1 (v := .int .i64 (i : Int)) rfl (fun ρ e W => ex_move (e _ _ rfl)) rfl rfl ?_
        refine wt1 (v := .pointer (some ⟨b, o + i, none⟩)) rfl (fun ρ e W => ex_idx (q := o + i) (i := i) el36 (e _ _ rfl) (e _ _ rfl) (by omega) (by omega)) rfl rfl ?_
        refine wt0 (v := .int .i64 v) rfl (fun ρ e W hW => ex_load1 ty3 (e _ _ rfl) (IntsD.cellq ((hW.ro 0 rfl) : IntsD _ _ (.slice (some ⟨b, o, none⟩) l.length c) l) hv)) rfl rfl ?_
        by_cases c25 : v > 128
        · skip
          refine wt1 (v := .bool true) rfl (fun ρ e W => ex_cmp (u := v) (v := 128) (e _ _ rfl) (e _ _ rfl) (gtr1 (by omega))) rfl rfl ?_
          refine wt1 (v := .bool true) rfl (fun ρ e W => ex_pick0 (e _ _ rfl) (e _ _ rfl)) rfl rfl ?_
          refine wt1 (v := .bool true) rfl (fun ρ e W => ex_move (e _ _ rfl)) rfl rfl ?_
          refine wt1_skip rfl rfl rfl ?_
          refine wt1_skip rfl rfl rfl ?_
          refine wt1_skip rfl rfl rfl ?_
          refine wt1_skip rfl rfl rfl ?_
          refine wt1_skip rfl rfl rfl ?_
          refine wt1_skip rfl rfl rfl ?_
          refine wt0_skip rfl rfl rfl ?_
          refine wt2_skip rfl rfl rfl O22 ?_
          refine wt1 (v := .bool true) rfl (fun ρ e W => ex_pick1 (e _ _ rfl) (e _ _ rfl)) rfl rfl ?_
          refine wt_nil ?_
          refine xw_next K21 ?_
          refine cw_true rfl ?_
          refine cw_seq (fun FK26 K26 => ?_)
          refine cw_region ?_
          refine wl_val (v := .bool false) (fun ρ e => ex_assign (e _ _ rfl)) rfl rfl ?_
          refine wl_nil ?_
          refine xw_next K26 ?_
          refine cw_ret ?_
          refine xw_blockret ?_
          refine xw_past (by intro h; cases h) ?_
          refine xw_past (by intro h; cases h) ?_
          refine xw_blockret ?_
          refine xw_past (by intro h; cases h) ?_
          refine xw_ret (v := .bool false) (fun T hT => res1 rfl T _ (hT 2 _ rfl)) ?_
          have hno : ordB l = false := Bool.eq_false_iff.2 fun q => by have q2 := opre_take (ordB_iff.1 q).2 (i + 1); rw [htk, opre_snoc hp] at q2; first | omega | (have := q2.2.2; simp_all)
          rw [hno]
          exact ⟨rfl, O22.old⟩
        · skip
          refine wt1 (v := .bool false) rfl (fun ρ e W => ex_cmp (u := v) (v := 128) (e _ _ rfl) (e _ _ rfl) (gtr0 (by omega))) rfl rfl ?_
          refine wt1 (v := .bool false) rfl (fun ρ e W => ex_pick0 (e _ _ rfl) (e _ _ rfl)) rfl rfl ?_
          refine wt1 (v := .bool false) rfl (fun ρ e W => ex_move (e _ _ rfl)) rfl rfl ?_
          refine wt1 (v := .slice (some ⟨b, o, none⟩) l.length c) rfl (fun ρ e W => ex_move (e _ _ rfl)) rfl rfl ?_
          refine wt1 (v := .int .i64 (i : Int)) rfl (fun ρ e W => ex_move (e _ _ rfl)) rfl rfl ?_
          refine wt1 (v := .slice (some ⟨b, o, none⟩) i c) rfl (fun ρ e W => ex_sliceHi (h := i) el36 (e _ _ rfl) (e _ _ rfl) (by omega)) rfl rfl ?_
          refine wt1 (v := .slice (some ⟨b, o, none⟩) l.length c) rfl (fun ρ e W => ex_move (e _ _ rfl)) rfl rfl ?_
          refine wt1 (v := .int .i64 (i : Int)) rfl (fun ρ e W => ex_move (e _ _ rfl)) rfl rfl ?_
          refine wt1 (v := .pointer (some ⟨b, o + i, none⟩)) rfl (fun ρ e W => ex_idx (q := o + i) (i := i) el36 (e _ _ rfl) (e _ _ rfl) (by omega) (by omega)) rfl rfl ?_
          refine wt0 (v := .int .i64 v) rfl (fun ρ e W hW => ex_load1 ty3 (e _ _ rfl) (IntsD.cellq ((hW.ro 0 rfl) : IntsD _ _ (.slice (some ⟨b, o, none⟩) l.length c) l) hv)) rfl rfl ?_
          refine wt2_call (args := [.slice (some ⟨b, o, none⟩) i c, .int .i64 v]) rfl in_49 rfl rfl rfl ?_
          refine (contains_ ((hI.move (fun k hk => (O22.old).block k (hD k hk))).take_ (k := i) (by omega)) (fun k hk => Nat.lt_of_lt_of_le (hD k hk) (O22.old).size) (by rw [List.length_take]; omega) v).mono ?_
          rintro _ w27 ⟨rfl, hb28⟩
          have O29 : Own Z0 W w27 [.ro D (fun w => IntsD D w (.slice (some ⟨b, o, none⟩) l.length c) l)] := O22.below hb28
          refine ⟨_, rfl, O29, ?_⟩
          refine wt1 (v := .bool (decide (v ∈ l.take i))) rfl (fun ρ e W => ex_pick0 (e _ _ rfl) (e _ _ rfl)) rfl rfl ?_
          refine wt_nil ?_
          refine xw_next K21 ?_
          refine cw_cond (b := (decide (v ∈ l.take i))) rfl (fun c30 => ?_) (fun c30 => ?_)
          · skip
            refine cw_seq (fun FK31 K31 => ?_)
            refine cw_region ?_
            refine wl_val (v := .bool false) (fun ρ e => ex_assign (e _ _ rfl)) rfl rfl ?_
            refine wl_nil ?_
            refine xw_next K31 ?_
            refine cw_ret ?_
            refine xw_blockret ?_
            refine xw_past (by intro h; cases h) ?_
            refine xw_past (by intro h; cases h) ?_
            refine xw_blockret ?_
            refine xw_past (by intro h; cases h) ?_
            refine xw_ret (v := .bool false) (fun T hT => res1 rfl T _ (hT 2 _ rfl)) ?_
            have hno : ordB l = false := Bool.eq_false_iff.2 fun q => by have q2 := opre_take (ordB_iff.1 q).2 (i + 1); rw [htk, opre_snoc hp] at q2; first | omega | (have := q2.2.2; simp_all)
            rw [hno]
            exact ⟨rfl, O29.old⟩
          · skip
            refine cw_skip ?_
            refine xw_block ?_
            refine xw_next K20 ?_
            refine cw_region ?_
            refine wl_val (v := .int .i64 (i : Int)) (fun ρ e => ex_move (e _ _ rfl)) rfl rfl ?_
            refine wl_val (v := .int .i64 ((i + 1 : Nat) : Int)) (fun ρ e => ex_arith (k := .i64) (u := (i : Int)) (v := 1) (e _ _ rfl) (e _ _ rfl) (congrArg some ((congrArg _ (by omega)).trans (wrap_in (u := ((i + 1 : Nat) : Int)) (by omega) (by omega))))) rfl rfl ?_
            refine wl_val (v := .int .i64 ((i + 1 : Nat) : Int)) (fun ρ e => ex_assign (e _ _ rfl)) rfl rfl ?_
            refine wl_nil ?_
            refine xw_round K16 (i + 1) (by show l.length - (i + 1) < l.length - i; omega) ⟨(by show i + 1 ≤ l.length; omega), (by show opreB (l.take (i + 1)) = true; rw [htk]; exact (opre_snoc hp).2 ⟨by omega, by omega, by simpa using c30⟩), O29⟩ ⟨rfl, rfl, trivial⟩
    · have hie : i = l.length := by omega
      refine cw_seq (fun FK32 K32 => ?_)
      refine cw_seq (fun FK33 K33 => ?_)
      refine cw_region ?_
      refine wl_val (v := .int .i64 (i : Int)) (fun ρ e => ex_move (e _ _ rfl)) rfl rfl ?_
      refine wl_val (v := .slice (some ⟨b, o, none⟩) l.length c) (fun ρ e => ex_move (e _ _ rfl)) rfl rfl ?_
      refine wl_val (v := .int .i64 ((l.length : Nat) : Int)) (fun ρ e => ex_len el36 (e _ _ rfl)) rfl rfl ?_
      refine wl_val (v := .bool false) (fun ρ e => ex_cmp (u := (i : Int)) (v := ((l.length : Nat) : Int)) (e _ _ rfl) (e _ _ rfl) (lss0 (by omega))) rfl rfl ?_
      refine wl_nil ?_
      refine xw_next K33 ?_
      refine cw_false rfl ?_
      refine cw_exit ?_
      refine xw_past (by intro h; cases h) ?_
      refine xw_past (by intro h; cases h) ?_
      refine xw_here ?_
      refine xw_next K12 ?_
      refine cw_seq (fun FK34 K34 => ?_)
      refine cw_region ?_
      refine wl_val (v := .slice (some ⟨b, o, none⟩) l.length c) (fun ρ e => ex_move (e _ _ rfl)) rfl rfl ?_
      refine wl_val (v := .int .i64 ((l.length : Nat) : Int)) (fun ρ e => ex_len el36 (e _ _ rfl)) rfl rfl ?_
      refine wl_val (v := .bool true) (fun ρ e => ex_cmp (u := ((l.length : Nat) : Int)) (v := 0) (e _ _ rfl) (e _ _ rfl) (gtr1 (by omega))) rfl rfl ?_
      refine wl_val (v := .bool true) (fun ρ e => ex_assign (e _ _ rfl)) rfl rfl ?_
      refine wl_nil ?_
      refine xw_next K34 ?_
      refine cw_ret ?_
      refine xw_ret (v := .bool true) (fun T hT => res1 rfl T _ (hT 2 _ rfl)) ?_
      rw [hie, List.take_length] at hp
      have hr : ordB l = true := ordB_iff.2 ⟨by omega, hp⟩
      rw [hr]
      exact ⟨rfl, O17.old⟩
theorem rgrow1 {L0 : List Int} {D : Nat → Prop} {bl ol cl : Nat} (hL : L0.length ≤ 1000000) :
    ∀ (k s m cc : Nat), s + m ≤ L0.length → 1 ≤ m → m ≤ k → m ≤ cc → ∀ (Z : Bool → Nat → Prop) (w0 W : World) (A : Option Addr) (n c : Nat) (l : List VN), Own Z w0 W [.row (.slice A n c) 38 3 n (ncells l), .ro D (fun w => IntsD D w (.slice (some ⟨bl, ol, none⟩) L0.length cl) L0)] → n + 2 * m ≤ 1000000 →
    Calls Tryd.prog 78 #[.slice (some ⟨bl, ol + s, none⟩) m cc, .int .i64 1, .slice A n c] W fun e w' => ∃ A' c', e = .returned (.slice A' (n + Tr.size (mkT (gOf 1) k ((L0.drop s).take m))) c') ∧ Own Z w0 w' [.row (.slice A' (n + Tr.size (mkT (gOf 1) k ((L0.drop s).take m))) c') 38 3 (n + Tr.size (mkT (gOf 1) k ((L0.drop s).take m))) (ncells (l ++ post (mkT (gOf 1) k ((L0.drop s).take m)) n)), .ro D (fun w => IntsD D w (.slice (some ⟨bl, ol, none⟩) L0.length cl) L0)]
  | 0, s, m, cc, _, h1, h2, _ => absurd h1 (by omega)
  | k + 1, s, m, cc, hsm, hm1, hmk, hmc => fun Z w0 W A n c l O0 hlim => by
    have IH := rgrow1 (L0 := L0) (bl := bl) (ol := ol) (cl := cl) (D := D) hL k
    obtain ⟨v0, hv0⟩ : ∃ v, L0[s]? = some v := ⟨L0[s], List.getElem?_eq_getElem (by omega)⟩
    have hlen : ((L0.drop s).take m).length = m := by rw [List.length_take, List.length_drop]; omega
    by_cases h1 : m = 1
    · skip
      have hT : (mkT (gOf 1) (k + 1) ((L0.drop s).take m)) = .leaf v0 := mkT_one (by rw [hlen]; omega) (by rw [List.getElem?_take_of_lt (by omega), List.getElem?_drop, Nat.add_zero]; exact hv0)
      refine sx_enter (args := [.slice (some ⟨bl, ol + s, none⟩) m cc, .int .i64 1, .slice A n c]) Tryd.func78 rfl rfl (by simp) ?_
      refine cw_seq (fun FK1 K1 => ?_)
      refine cw_region ?_
      refine wl_val (v := .slice none 0 0) (fun ρ e => ex_assign (e _ _ rfl)) rfl rfl ?_
      refine wl_nil ?_
      refine xw_next K1 ?_
      refine cw_seq (fun FK2 K2 => ?_)
      refine cw_seq (fun FK3 K3 => ?_)
      refine cw_region ?_
      refine wl_val (v := .slice (some ⟨bl, ol + s, none⟩) m cc) (fun ρ e => ex_move (e _ _ rfl)) rfl rfl ?_
      refine wl_val (v := .int .i64 (m : Int)) (fun ρ e => ex_len el36 (e _ _ rfl)) rfl rfl ?_
      refine wl_val (v := .bool true) (fun ρ e => ex_cmp (u := (m : Int)) (v := 1) (e _ _ rfl) (e _ _ rfl) (eql1 (by omega))) rfl rfl ?_
      refine wl_nil ?_
      refine xw_next K3 ?_
      refine cw_true rfl ?_
      refine cw_seq (fun FK4 K4 => ?_)
      refine cw_region ?_
      refine wl_val (v := .slice A n c) (fun ρ e => ex_move (e _ _ rfl)) rfl rfl ?_
      refine wl_val (v := .slice (some ⟨bl, ol + s, none⟩) m cc) (fun ρ e => ex_move (e _ _ rfl)) rfl rfl ?_
      refine wl_val (v := .pointer (some ⟨bl, ol + s, none⟩)) (fun ρ e => ex_idx (q := ol + s) (i := 0) el36 (e _ _ rfl) (e _ _ rfl) (by omega) (by omega)) rfl rfl ?_
      refine wl_val (v := .int .i64 v0) (fun ρ e => ex_load1 ty3 (e _ _ rfl) (IntsD.cellq ((O0.ro 1 rfl) : IntsD _ _ (.slice (some ⟨bl, ol, none⟩) L0.length cl) L0) hv0)) rfl rfl ?_
      refine wl_val (v := .agg #[.int .i64 (-1), .int .i64 (-1), .int .i64 v0]) (fun ρ e => ex_build (cells := #[.int .i64 (-1), .int .i64 (-1), .int .i64 v0]) st38 (e.parts rfl) rfl) rfl rfl ?_
      obtain ⟨g5, w6, r7, O8, hg9, hs10⟩ := own_slice O0 el23 ze38 1 [(0, .agg #[.int .i64 (-1), .int .i64 (-1), .int .i64 v0])] (cs := #[.int .i64 (-1), .int .i64 (-1), .int .i64 v0]) (by decide) (by kernel_rfl)
      refine wl_val (v := .slice (some ⟨g5, 0, none⟩) 1 1) (fun ρ e => r7 ρ _ _ _ _ _ _ (e.parts rfl)) rfl rfl ?_
      obtain ⟨A11, c12, w13, r14, O15, hz16, hc17⟩ := own_app1 (O8.re [1, 0, 2] rfl : Own Z w0 w6 [.row (.slice A n c) 38 3 n (ncells l), .blk g5 38 #[.int .i64 (-1), .int .i64 (-1), .int .i64 v0], .ro D (fun w => IntsD D w (.slice (some ⟨bl, ol, none⟩) L0.length cl) L0)]) ap23 ((O8.re [1, 0, 2] rfl : Own Z w0 w6 [.row (.slice A n c) 38 3 n (ncells l), .blk g5 38 #[.int .i64 (-1), .int .i64 (-1), .int .i64 v0], .ro D (fun w => IntsD D w (.slice (some ⟨bl, ol, none⟩) L0.length cl) L0)]).blk 1 rfl) (cells := [.int .i64 (-1), .int .i64 (-1), .int .i64 v0]) rfl rfl (by omega) (by omega) (ys := (ncells (l ++ [(VN.mk (-1) (-1) v0)]))) (ncells_snoc l (VN.mk (-1) (-1) v0))
      refine wl_val (v := .slice A11 (n + 1) c12) (fun ρ e => r14 ρ _ _ _ _ _ _ _ (e _ _ rfl) (e _ _ rfl)) rfl rfl ?_
      refine wl_val (v := .slice A11 (n + 1) c12) (fun ρ e => ex_assign (e _ _ rfl)) rfl rfl ?_
      refine wl_nil ?_
      refine xw_next K4 ?_
      refine cw_ret ?_
      refine xw_past (by intro h; cases h) ?_
      refine xw_ret (v := .slice A11 (n + 1) c12) (fun T hT => res1 rfl T _ (hT 6 _ rfl)) ?_
      have hn : n + 1 = n + Tr.size (mkT (gOf 1) (k + 1) ((L0.drop s).take m)) := by rw [hT]; simp only [Tr.size] <;> omega
      have hl : (l ++ [(VN.mk (-1) (-1) v0)]) = l ++ post (mkT (gOf 1) (k + 1) ((L0.drop s).take m)) n := by rw [hT]; simp [post]
      have hO := (O15.re [0, 2] rfl : Own Z w0 w13 [.row (.slice A11 (n + 1) c12) 38 3 (n + 1) (ncells (l ++ [(VN.mk (-1) (-1) v0)])), .ro D (fun w => IntsD D w (.slice (some ⟨bl, ol, none⟩) L0.length cl) L0)])
      rw [hn, hl] at hO
      exact ⟨A11, c12, by rw [hn], hO⟩
    · skip
      have hm2 : 2 ≤ m := by omega
      have hgm : 1 ≤ 1 ∧ 1 < m := by omega
      have hT : (mkT (gOf 1) (k + 1) ((L0.drop s).take m)) = .node (mkT (gOf 1) k ((L0.drop s).take (1))) (mkT (gOf 1) k ((L0.drop (s + (1))).take (m - (1)))) := by rw [mkT_more (by rw [hlen]; exact hm2), hlen, List.take_take, show gOf 1 m = 1 from rfl, Nat.min_eq_left (by omega), List.drop_take, List.drop_drop]
      have hsz1 : Tr.size (mkT (gOf 1) k ((L0.drop s).take (1))) = 2 * (1) - 1 := by rw [(mkT_leaves (gOf_good 1) k _ (by rw [List.length_take, List.length_drop]; omega) (by rw [List.length_take, List.length_drop]; omega)).2, List.length_take, List.length_drop, Nat.min_eq_left (by omega)]
      have hsz2 : Tr.size (mkT (gOf 1) k ((L0.drop (s + (1))).take (m - (1)))) = 2 * (m - (1)) - 1 := by rw [(mkT_leaves (gOf_good 1) k _ (by rw [List.length_take, List.length_drop]; omega) (by rw [List.length_take, List.length_drop]; omega)).2, List.length_take, List.length_drop, Nat.min_eq_left (by omega)]
      refine sx_enter (args := [.slice (some ⟨bl, ol + s, none⟩) m cc, .int .i64 1, .slice A n c]) Tryd.func78 rfl rfl (by simp) ?_
      refine cw_seq (fun FK1 K1 => ?_)
      refine cw_region ?_
      refine wl_val (v := .slice none 0 0) (fun ρ e => ex_assign (e _ _ rfl)) rfl rfl ?_
      refine wl_nil ?_
      refine xw_next K1 ?_
      refine cw_seq (fun FK2 K2 => ?_)
      refine cw_seq (fun FK3 K3 => ?_)
      refine cw_region ?_
      refine wl_val (v := .slice (some ⟨bl, ol + s, none⟩) m cc) (fun ρ e => ex_move (e _ _ rfl)) rfl rfl ?_
      refine wl_val (v := .int .i64 (m : Int)) (fun ρ e => ex_len el36 (e _ _ rfl)) rfl rfl ?_
      refine wl_val (v := .bool false) (fun ρ e => ex_cmp (u := (m : Int)) (v := 1) (e _ _ rfl) (e _ _ rfl) (eql0 (by omega))) rfl rfl ?_
      refine wl_nil ?_
      refine xw_next K3 ?_
      refine cw_false rfl ?_
      refine cw_skip ?_
      refine xw_next K2 ?_
      refine cw_seq (fun FK4 K4 => ?_)
      refine cw_region ?_
      refine wl_val (v := .int .i64 1) (fun ρ e => ex_assign (e _ _ rfl)) rfl rfl ?_
      refine wl_nil ?_
      refine xw_next K4 ?_
      refine cw_seq (fun FK5 K5 => ?_)
      refine cw_seq (fun FK6 K6 => ?_)
      refine cw_region ?_
      refine wl_val (v := .int .i64 1) (fun ρ e => ex_move (e _ _ rfl)) rfl rfl ?_
      refine wl_val (v := .bool false) (fun ρ e => ex_cmp (u := 1) (v := 2) (e _ _ rfl) (e _ _ rfl) (eql0 (by omega))) rfl rfl ?_
      refine wl_nil ?_
      refine xw_next K6 ?_
      refine cw_false rfl ?_
      refine cw_skip ?_
      refine xw_next K5 ?_
      refine cw_seq (fun FK7 K7 => ?_)
      refine cw_seq (fun FK8 K8 => ?_)
      refine cw_region ?_
      refine wl_val (v := .int .i64 1) (fun ρ e => ex_move (e _ _ rfl)) rfl rfl ?_
      refine wl_val (v := .bool false) (fun ρ e => ex_cmp (u := 1) (v := 3) (e _ _ rfl) (e _ _ rfl) (eql0 (by omega))) rfl rfl ?_
      refine wl_nil ?_
      refine xw_next K8 ?_
      refine cw_false rfl ?_
      refine cw_skip ?_
      refine xw_next K7 ?_
      refine cw_seq (fun FK9 K9 => ?_)
      refine cw_region ?_
      refine wl_val (v := .slice (some ⟨bl, ol + s, none⟩) m cc) (fun ρ e => ex_move (e _ _ rfl)) rfl rfl ?_
      refine wl_val (v := .int .i64 1) (fun ρ e => ex_move (e _ _ rfl)) rfl rfl ?_
      refine wl_val (v := .slice (some ⟨bl, ol + s, none⟩) 1 cc) (fun ρ e => ex_sliceHi (h := 1) el36 (e _ _ rfl) (e _ _ rfl) (by omega)) rfl rfl ?_
      refine wl_val (v := .int .i64 1) (fun ρ e => ex_move (e _ _ rfl)) rfl rfl ?_
      refine wl_val (v := .slice A n c) (fun ρ e => ex_move (e _ _ rfl)) rfl rfl ?_
      refine wl_call (args := [.slice (some ⟨bl, ol + s, none⟩) 1 cc, .int .i64 1, .slice A n c]) in_78 rfl rfl rfl ?_
      have O14h := Own.hand (A := [.row (.slice A n c) 38 3 n (ncells l), .ro D (fun w => IntsD D w (.slice (some ⟨bl, ol, none⟩) L0.length cl) L0)]) (R := []) O0
      refine (IH s (1) cc (by omega) (by omega) (by omega) (by omega) _ _ _ _ _ _ l O14h (by omega)).mono ?_
      rintro _ w12 ⟨A10, c11, rfl, h13⟩
      have O14 : Own Z w0 w12 [.row (.slice A10 (n + Tr.size (mkT (gOf 1) k ((L0.drop s).take (1)))) c11) 38 3 (n + Tr.size (mkT (gOf 1) k ((L0.drop s).take (1)))) (ncells (l ++ post (mkT (gOf 1) k ((L0.drop s).take (1))) n)), .ro D (fun w => IntsD D w (.slice (some ⟨bl, ol, none⟩) L0.length cl) L0)] := Own.frame (A := [.row (.slice A n c) 38 3 n (ncells l), .ro D (fun w => IntsD D w (.slice (some ⟨bl, ol, none⟩) L0.length cl) L0)]) (R := []) O0 h13
      refine ⟨_, rfl, ?_⟩
      refine wl_val (v := .slice A10 (n + Tr.size (mkT (gOf 1) k ((L0.drop s).take (1)))) c11) (fun ρ e => ex_assign (e _ _ rfl)) rfl rfl ?_
      refine wl_nil ?_
      refine xw_next K9 ?_
      refine cw_seq (fun FK15 K15 => ?_)
      refine cw_region ?_
      refine wl_val (v := .slice A10 (n + Tr.size (mkT (gOf 1) k ((L0.drop s).take (1)))) c11) (fun ρ e => ex_move (e _ _ rfl)) rfl rfl ?_
      refine wl_val (v := .int .i64 (((n + Tr.size (mkT (gOf 1) k ((L0.drop s).take (1)))) : Nat) : Int)) (fun ρ e => ex_len el23 (e _ _ rfl)) rfl rfl ?_
      refine wl_val (v := .int .i64 (((n + Tr.size (mkT (gOf 1) k ((L0.drop s).take (1)))) - 1 : Nat) : Int)) (fun ρ e => ex_arith (k := .i64) (u := (((n + Tr.size (mkT (gOf 1) k ((L0.drop s).take (1)))) : Nat) : Int)) (v := 1) (e _ _ rfl) (e _ _ rfl) (congrArg some ((congrArg _ (show _ = (((n + Tr.size (mkT (gOf 1) k ((L0.drop s).take (1)))) - 1 : Nat) : Int) by omega)).trans (wrap_in (by omega) (by omega))))) rfl rfl ?_
      refine wl_val (v := .int .i64 (((n + Tr.size (mkT (gOf 1) k ((L0.drop s).take (1)))) - 1 : Nat) : Int)) (fun ρ e => ex_assign (e _ _ rfl)) rfl rfl ?_
      refine wl_nil ?_
      refine xw_next K15 ?_
      refine cw_seq (fun FK16 K16 => ?_)
      refine cw_region ?_
      refine wl_val (v := .slice (some ⟨bl, ol + s, none⟩) m cc) (fun ρ e => ex_move (e _ _ rfl)) rfl rfl ?_
      refine wl_val (v := .int .i64 1) (fun ρ e => ex_move (e _ _ rfl)) rfl rfl ?_
      refine wl_val (v := .slice (some ⟨bl, ol + (s + (1)), none⟩) (m - (1)) (cc - (1))) (fun ρ e => ex_sliceLo (k := 1) (q := ol + (s + (1))) el36 (e _ _ rfl) (e _ _ rfl) (by omega) (by omega) (by omega)) rfl rfl ?_
      refine wl_val (v := .int .i64 1) (fun ρ e => ex_move (e _ _ rfl)) rfl rfl ?_
      refine wl_val (v := .slice A10 (n + Tr.size (mkT (gOf 1) k ((L0.drop s).take (1)))) c11) (fun ρ e => ex_move (e _ _ rfl)) rfl rfl ?_
      refine wl_call (args := [.slice (some ⟨bl, ol + (s + (1)), none⟩) (m - (1)) (cc - (1)), .int .i64 1, .slice A10 (n + Tr.size (mkT (gOf 1) k ((L0.drop s).take (1)))) c11]) in_78 rfl rfl rfl ?_
      have O21h := Own.hand (A := [.row (.slice A10 (n + Tr.size (mkT (gOf 1) k ((L0.drop s).take (1)))) c11) 38 3 (n + Tr.size (mkT (gOf 1) k ((L0.drop s).take (1)))) (ncells (l ++ post (mkT (gOf 1) k ((L0.drop s).take (1))) n)), .ro D (fun w => IntsD D w (.slice (some ⟨bl, ol, none⟩) L0.length cl) L0)]) (R := []) O14
      refine (IH (s + (1)) (m - (1)) (cc - (1)) (by omega) (by omega) (by omega) (by omega) _ _ _ _ _ _ (l ++ post (mkT (gOf 1) k ((L0.drop s).take (1))) n) O21h (by omega)).mono ?_
      rintro _ w19 ⟨A17, c18, rfl, h20⟩
      have O21 : Own Z w0 w19 [.row (.slice A17 ((n + Tr.size (mkT (gOf 1) k ((L0.drop s).take (1)))) + Tr.size (mkT (gOf 1) k ((L0.drop (s + (1))).take (m - (1))))) c18) 38 3 ((n + Tr.size (mkT (gOf 1) k ((L0.drop s).take (1)))) + Tr.size (mkT (gOf 1) k ((L0.drop (s + (1))).take (m - (1))))) (ncells ((l ++ post (mkT (gOf 1) k ((L0.drop s).take (1))) n) ++ post (mkT (gOf 1) k ((L0.drop (s + (1))).take (m - (1)))) (n + Tr.size (mkT (gOf 1) k ((L0.drop s).take (1)))))), .ro D (fun w => IntsD D w (.slice (some ⟨bl, ol, none⟩) L0.length cl) L0)] := Own.frame (A := [.row (.slice A10 (n + Tr.size (mkT (gOf 1) k ((L0.drop s).take (1)))) c11) 38 3 (n + Tr.size (mkT (gOf 1) k ((L0.drop s).take (1)))) (ncells (l ++ post (mkT (gOf 1) k ((L0.drop s).take (1))) n)), .ro D (fun w => IntsD D w (.slice (some ⟨bl, ol, none⟩) L0.length cl) L0)]) (R := []) O14 h20
      refine ⟨_, rfl, ?_⟩
      refine wl_val (v := .slice A17 ((n + Tr.size (mkT (gOf 1) k ((L0.drop s).take (1)))) + Tr.size (mkT (gOf 1) k ((L0.drop (s + (1))).take (m - (1))))) c18) (fun ρ e => ex_assign (e _ _ rfl)) rfl rfl ?_
      refine wl_nil ?_
      refine xw_next K16 ?_
      refine cw_seq (fun FK22 K22 => ?_)
      refine cw_region ?_
      refine wl_val (v := .slice A17 ((n + Tr.size (mkT (gOf 1) k ((L0.drop s).take (1)))) + Tr.size (mkT (gOf 1) k ((L0.drop (s + (1))).take (m - (1))))) c18) (fun ρ e => ex_move (e _ _ rfl)) rfl rfl ?_
      refine wl_val (v := .int .i64 (((n + Tr.size (mkT (gOf 1) k ((L0.drop s).take (1)))) - 1 : Nat) : Int)) (fun ρ e => ex_move (e _ _ rfl)) rfl rfl ?_
      refine wl_val (v := .slice A17 ((n + Tr.size (mkT (gOf 1) k ((L0.drop s).take (1)))) + Tr.size (mkT (gOf 1) k ((L0.drop (s + (1))).take (m - (1))))) c18) (fun ρ e => ex_move (e _ _ rfl)) rfl rfl ?_
      refine wl_val (v := .int .i64 ((((n + Tr.size (mkT (gOf 1) k ((L0.drop s).take (1)))) + Tr.size (mkT (gOf 1) k ((L0.drop (s + (1))).take (m - (1))))) : Nat) : Int)) (fun ρ e => ex_len el23 (e _ _ rfl)) rfl rfl ?_
      refine wl_val (v := .int .i64 ((((n + Tr.size (mkT (gOf 1) k ((L0.drop s).take (1)))) + Tr.size (mkT (gOf 1) k ((L0.drop (s + (1))).take (m - (1))))) - 1 : Nat) : Int)) (fun ρ e => ex_arith (k := .i64) (u := ((((n + Tr.size (mkT (gOf 1) k ((L0.drop s).take (1)))) + Tr.size (mkT (gOf 1) k ((L0.drop (s + (1))).take (m - (1))))) : Nat) : Int)) (v := 1) (e _ _ rfl) (e _ _ rfl) (congrArg some ((congrArg _ (show _ = ((((n + Tr.size (mkT (gOf 1) k ((L0.drop s).take (1)))) + Tr.size (mkT (gOf 1) k ((L0.drop (s + (1))).take (m - (1))))) - 1 : Nat) : Int) by omega)).trans (wrap_in (by omega) (by omega))))) rfl rfl ?_
      refine wl_val (v := .agg #[.int .i64 (((n + Tr.size (mkT (gOf 1) k ((L0.drop s).take (1)))) - 1 : Nat) : Int), .int .i64 ((((n + Tr.size (mkT (gOf 1) k ((L0.drop s).take (1)))) + Tr.size (mkT (gOf 1) k ((L0.drop (s + (1))).take (m - (1))))) - 1 : Nat) : Int), .int .i64 0]) (fun ρ e => ex_build (cells := #[.int .i64 (((n + Tr.size (mkT (gOf 1) k ((L0.drop s).take (1)))) - 1 : Nat) : Int), .int .i64 ((((n + Tr.size (mkT (gOf 1) k ((L0.drop s).take (1)))) + Tr.size (mkT (gOf 1) k ((L0.drop (s + (1))).take (m - (1))))) - 1 : Nat) : Int), .int .i64 0]) st38 (e.parts rfl) rfl) rfl rfl ?_
      obtain ⟨g23, w24, r25, O26, hg27, hs28⟩ := own_slice O21 el23 ze38 1 [(0, .agg #[.int .i64 (((n + Tr.size (mkT (gOf 1) k ((L0.drop s).take (1)))) - 1 : Nat) : Int), .int .i64 ((((n + Tr.size (mkT (gOf 1) k ((L0.drop s).take (1)))) + Tr.size (mkT (gOf 1) k ((L0.drop (s + (1))).take (m - (1))))) - 1 : Nat) : Int), .int .i64 0])] (cs := #[.int .i64 (((n + Tr.size (mkT (gOf 1) k ((L0.drop s).take (1)))) - 1 : Nat) : Int), .int .i64 ((((n + Tr.size (mkT (gOf 1) k ((L0.drop s).take (1)))) + Tr.size (mkT (gOf 1) k ((L0.drop (s + (1))).take (m - (1))))) - 1 : Nat) : Int), .int .i64 0]) (by decide) (by kernel_rfl)
      refine wl_val (v := .slice (some ⟨g23, 0, none⟩) 1 1) (fun ρ e => r25 ρ _ _ _ _ _ _ (e.parts rfl)) rfl rfl ?_
      obtain ⟨A29, c30, w31, r32, O33, hz34, hc35⟩ := own_app1 (O26.re [1, 0, 2] rfl : Own Z w0 w24 [.row (.slice A17 ((n + Tr.size (mkT (gOf 1) k ((L0.drop s).take (1)))) + Tr.size (mkT (gOf 1) k ((L0.drop (s + (1))).take (m - (1))))) c18) 38 3 ((n + Tr.size (mkT (gOf 1) k ((L0.drop s).take (1)))) + Tr.size (mkT (gOf 1) k ((L0.drop (s + (1))).take (m - (1))))) (ncells ((l ++ post (mkT (gOf 1) k ((L0.drop s).take (1))) n) ++ post (mkT (gOf 1) k ((L0.drop (s + (1))).take (m - (1)))) (n + Tr.size (mkT (gOf 1) k ((L0.drop s).take (1)))))), .blk g23 38 #[.int .i64 (((n + Tr.size (mkT (gOf 1) k ((L0.drop s).take (1)))) - 1 : Nat) : Int), .int .i64 ((((n + Tr.size (mkT (gOf 1) k ((L0.drop s).take (1)))) + Tr.size (mkT (gOf 1) k ((L0.drop (s + (1))).take (m - (1))))) - 1 : Nat) : Int), .int .i64 0], .ro D (fun w => IntsD D w (.slice (some ⟨bl, ol, none⟩) L0.length cl) L0)]) ap23 ((O26.re [1, 0, 2] rfl : Own Z w0 w24 [.row (.slice A17 ((n + Tr.size (mkT (gOf 1) k ((L0.drop s).take (1)))) + Tr.size (mkT (gOf 1) k ((L0.drop (s + (1))).take (m - (1))))) c18) 38 3 ((n + Tr.size (mkT (gOf 1) k ((L0.drop s).take (1)))) + Tr.size (mkT (gOf 1) k ((L0.drop (s + (1))).take (m - (1))))) (ncells ((l ++ post (mkT (gOf 1) k ((L0.drop s).take (1))) n) ++ post (mkT (gOf 1) k ((L0.drop (s + (1))).take (m - (1)))) (n + Tr.size (mkT (gOf 1) k ((L0.drop s).take (1)))))), .blk g23 38 #[.int .i64 (((n + Tr.size (mkT (gOf 1) k ((L0.drop s).take (1)))) - 1 : Nat) : Int), .int .i64 ((((n + Tr.size (mkT (gOf 1) k ((L0.drop s).take (1)))) + Tr.size (mkT (gOf 1) k ((L0.drop (s + (1))).take (m - (1))))) - 1 : Nat) : Int), .int .i64 0], .ro D (fun w => IntsD D w (.slice (some ⟨bl, ol, none⟩) L0.length cl) L0)]).blk 1 rfl) (cells := [.int .i64 (((n + Tr.size (mkT (gOf 1) k ((L0.drop s).take (1)))) - 1 : Nat) : Int), .int .i64 ((((n + Tr.size (mkT (gOf 1) k ((L0.drop s).take (1)))) + Tr.size (mkT (gOf 1) k ((L0.drop (s + (1))).take (m - (1))))) - 1 : Nat) : Int), .int .i64 0]) rfl rfl (by omega) (by omega) (ys := (ncells (((l ++ post (mkT (gOf 1) k ((L0.drop s).take (1))) n) ++ post (mkT (gOf 1) k ((L0.drop (s + (1))).take (m - (1)))) (n + Tr.size (mkT (gOf 1) k ((L0.drop s).take (1))))) ++ [(VN.mk (((n + Tr.size (mkT (gOf 1) k ((L0.drop s).take (1)))) - 1 : Nat) : Int) ((((n + Tr.size (mkT (gOf 1) k ((L0.drop s).take (1)))) + Tr.size (mkT (gOf 1) k ((L0.drop (s + (1))).take (m - (1))))) - 1 : Nat) : Int) 0)]))) (ncells_snoc ((l ++ post (mkT (gOf 1) k ((L0.drop s).take (1))) n) ++ post (mkT (gOf 1) k ((L0.drop (s + (1))).take (m - (1)))) (n + Tr.size (mkT (gOf 1) k ((L0.drop s).take (1))))) (VN.mk (((n + Tr.size (mkT (gOf 1) k ((L0.drop s).take (1)))) - 1 : Nat) : Int) ((((n + Tr.size (mkT (gOf 1) k ((L0.drop s).take (1)))) + Tr.size (mkT (gOf 1) k ((L0.drop (s + (1))).take (m - (1))))) - 1 : Nat) : Int) 0))
      refine wl_val (v := .slice A29 (((n + Tr.size (mkT (gOf 1) k ((L0.drop s).take (1)))) + Tr.size (mkT (gOf 1) k ((L0.drop (s + (1))).take (m - (1))))) + 1) c30) (fun ρ e => r32 ρ _ _ _ _ _ _ _ (e _ _ rfl) (e _ _ rfl)) rfl rfl ?_
      refine wl_val (v := .slice A29 (((n + Tr.size (mkT (gOf 1) k ((L0.drop s).take (1)))) + Tr.size (mkT (gOf 1) k ((L0.drop (s + (1))).take (m - (1))))) + 1) c30) (fun ρ e => ex_assign (e _ _ rfl)) rfl rfl ?_
      refine wl_nil ?_
      refine xw_next K22 ?_
      refine cw_ret ?_
      refine xw_ret (v := .slice A29 (((n + Tr.size (mkT (gOf 1) k ((L0.drop s).take (1)))) + Tr.size (mkT (gOf 1) k ((L0.drop (s + (1))).take (m - (1))))) + 1) c30) (fun T hT => res1 rfl T _ (hT 6 _ rfl)) ?_
      have hn : ((n + Tr.size (mkT (gOf 1) k ((L0.drop s).take (1)))) + Tr.size (mkT (gOf 1) k ((L0.drop (s + (1))).take (m - (1))))) + 1 = n + Tr.size (mkT (gOf 1) (k + 1) ((L0.drop s).take m)) := by rw [hT]; simp only [Tr.size] <;> omega
      have hl : (((l ++ post (mkT (gOf 1) k ((L0.drop s).take (1))) n) ++ post (mkT (gOf 1) k ((L0.drop (s + (1))).take (m - (1)))) (n + Tr.size (mkT (gOf 1) k ((L0.drop s).take (1))))) ++ [(VN.mk (((n + Tr.size (mkT (gOf 1) k ((L0.drop s).take (1)))) - 1 : Nat) : Int) ((((n + Tr.size (mkT (gOf 1) k ((L0.drop s).take (1)))) + Tr.size (mkT (gOf 1) k ((L0.drop (s + (1))).take (m - (1))))) - 1 : Nat) : Int) 0)]) = l ++ post (mkT (gOf 1) (k + 1) ((L0.drop s).take m)) n := by rw [hT]; simp [post]
      have hO := (O33.re [0, 2] rfl : Own Z w0 w31 [.row (.slice A29 (((n + Tr.size (mkT (gOf 1) k ((L0.drop s).take (1)))) + Tr.size (mkT (gOf 1) k ((L0.drop (s + (1))).take (m - (1))))) + 1) c30) 38 3 (((n + Tr.size (mkT (gOf 1) k ((L0.drop s).take (1)))) + Tr.size (mkT (gOf 1) k ((L0.drop (s + (1))).take (m - (1))))) + 1) (ncells (((l ++ post (mkT (gOf 1) k ((L0.drop s).take (1))) n) ++ post (mkT (gOf 1) k ((L0.drop (s + (1))).take (m - (1)))) (n + Tr.size (mkT (gOf 1) k ((L0.drop s).take (1))))) ++ [(VN.mk (((n + Tr.size (mkT (gOf 1) k ((L0.drop s).take (1)))) - 1 : Nat) : Int) ((((n + Tr.size (mkT (gOf 1) k ((L0.drop s).take (1)))) + Tr.size (mkT (gOf 1) k ((L0.drop (s + (1))).take (m - (1))))) - 1 : Nat) : Int) 0)])), .ro D (fun w => IntsD D w (.slice (some ⟨bl, ol, none⟩) L0.length cl) L0)])
      rw [hn, hl] at hO
      exact ⟨A29, c30, by rw [hn], hO⟩
theorem rorderb_ {W : World} {D : Nat → Prop} {V : Value} {l : List Int} (hI : IntsD D W V l) (hD : ∀ k, D k → k < W.heap.size) (hsz : l.length ≤ 1000000) {r : Bool} (h : ordB l = r) :
    Calls Tryd.prog 77 #[V] W fun e w' => e = .returned (.bool r) ∧ Below W.heap.size W w' := h ▸ rorder_ hI hD hsz
theorem rmade1 {W : World} {D : Nat → Prop} {V : Value} {L0 : List Int} (hI : IntsD D W V L0) (hD : ∀ k, D k → k < W.heap.size) (hsz : L0.length ≤ 1000000) : Calls Tryd.prog 58 #[V, .int .i64 1] W fun e w' => ∃ A' c', e = .returned (.tuple #[.slice A' (makeOf 1 L0).1.length c', .int .i64 (makeOf 1 L0).2]) ∧ Own Z0 W w' [.row (.slice A' (makeOf 1 L0).1.length c') 38 3 (makeOf 1 L0).1.length (ncells (makeOf 1 L0).1)] := by
  obtain ⟨A, cl, rfl⟩ := hI.slice
  have O0 : Own Z0 W W [] := Own.start W
  refine sx_enter (args := [.slice A L0.length cl, .int .i64 1]) Tryd.func58 rfl rfl (by simp) ?_
  refine cw_seq (fun FK1 K1 => ?_)
  refine cw_region ?_
  refine wl_val (v := .slice none 0 0) (fun ρ e => ex_assign (e _ _ rfl)) rfl rfl ?_
  refine wl_val (v := .int .i64 0) (fun ρ e => ex_assign (e _ _ rfl)) rfl rfl ?_
  refine wl_nil ?_
  refine xw_next K1 ?_
  refine cw_seq (fun FK2 K2 => ?_)
  refine cw_seq (fun FK3 K3 => ?_)
  refine cw_region ?_
  refine wl_val (v := .slice A L0.length cl) (fun ρ e => ex_move (e _ _ rfl)) rfl rfl ?_
  by_cases c4 : (ordB L0) = true
  · skip
    have hlp := (ordB_iff.1 c4).1
    have hl128 := range_few (ordB_iff.1 c4).2
    obtain ⟨bl, ol, c', hv0⟩ := hI.form hlp
    injection hv0 with hA _ hc
    subst hA hc
    have hcl : L0.length ≤ cl := hI.cap
    have O5 := O0.oldro (D := D) (p := (fun w => IntsD D w (.slice (some ⟨bl, ol, none⟩) L0.length cl) L0)) (inE_holds hI hD)
    refine wl_call (args := [.slice (some ⟨bl, ol, none⟩) L0.length cl]) in_77 rfl rfl rfl ?_
    refine (rorderb_ (hI.move (fun k hk => (O5.old).block k (hD k hk))) (fun k hk => Nat.lt_of_lt_of_le (hD k hk) (O5.old).size) (by omega) (show ordB L0 = true from c4)).mono ?_
    rintro _ w6 ⟨rfl, hb7⟩
    have O8 : Own Z0 W w6 [.ro D (fun w => IntsD D w (.slice (some ⟨bl, ol, none⟩) L0.length cl) L0)] := O5.below hb7
    refine ⟨_, rfl, ?_⟩
    refine wl_val (v := .bool false) (fun ρ e => ex_lnot (b := true) (e _ _ rfl)) rfl rfl ?_
    refine wl_nil ?_
    refine xw_next K3 ?_
    refine cw_false rfl ?_
    refine cw_skip ?_
    refine xw_next K2 ?_
    refine cw_seq (fun FK9 K9 => ?_)
    refine cw_region ?_
    refine wl_val (v := .slice (some ⟨bl, ol, none⟩) L0.length cl) (fun ρ e => ex_move (e _ _ rfl)) rfl rfl ?_
    refine wl_val (v := .int .i64 1) (fun ρ e => ex_move (e _ _ rfl)) rfl rfl ?_
    refine wl_call (args := [.slice (some ⟨bl, ol, none⟩) L0.length cl, .int .i64 1, .slice none 0 0]) in_78 rfl rfl rfl ?_
    have O10 : Own Z0 W w6 [.row (.slice none 0 0) 38 3 0 (ncells []), .ro D (fun w => IntsD D w (.slice (some ⟨bl, ol, none⟩) L0.length cl) L0)] := O8.nilrow 38 3
    have O15h := Own.hand (A := [.row (.slice none 0 0) 38 3 0 (ncells []), .ro D (fun w => IntsD D w (.slice (some ⟨bl, ol, none⟩) L0.length cl) L0)]) (R := []) O10
    have hwh : (L0.drop 0).take L0.length = L0 := by rw [List.drop_zero, List.take_length]
    have hpt := rgrow1 (by omega) L0.length 0 L0.length cl (by omega) (by omega) (by omega) hcl _ _ _ _ _ _ [] O15h (by omega)
    rw [hwh] at hpt
    refine hpt.mono ?_
    rintro _ w13 ⟨A11, c12, rfl, h14⟩
    have O15 : Own Z0 W w13 [.row (.slice A11 (0 + Tr.size (mkT (gOf 1) L0.length L0)) c12) 38 3 (0 + Tr.size (mkT (gOf 1) L0.length L0)) (ncells ([] ++ post (mkT (gOf 1) L0.length L0) 0)), .ro D (fun w => IntsD D w (.slice (some ⟨bl, ol, none⟩) L0.length cl) L0)] := Own.frame (A := [.row (.slice none 0 0) 38 3 0 (ncells []), .ro D (fun w => IntsD D w (.slice (some ⟨bl, ol, none⟩) L0.length cl) L0)]) (R := []) O10 h14
    refine ⟨_, rfl, ?_⟩
    refine wl_val (v := .slice A11 (0 + Tr.size (mkT (gOf 1) L0.length L0)) c12) (fun ρ e => ex_assign (e _ _ rfl)) rfl rfl ?_
    refine wl_val (v := .int .i64 0) (fun ρ e => ex_assign (e _ _ rfl)) rfl rfl ?_
    refine wl_nil ?_
    refine xw_next K9 ?_
    refine cw_ret ?_
    refine xw_ret (v := .tuple #[.slice A11 (0 + Tr.size (mkT (gOf 1) L0.length L0)) c12, .int .i64 0]) (fun T hT => res2 rfl T _ (hT 4 _ rfl) (hT 5 _ rfl)) ?_
    have hm : makeOf 1 L0 = (post (mkT (gOf 1) L0.length L0) 0, 0) := by unfold makeOf; rw [c4]; rfl
    rw [hm]
    simp only [post_len]
    have hO := (O15.re [0] rfl : Own Z0 W w13 [.row (.slice A11 (0 + Tr.size (mkT (gOf 1) L0.length L0)) c12) 38 3 (0 + Tr.size (mkT (gOf 1) L0.length L0)) (ncells ([] ++ post (mkT (gOf 1) L0.length L0) 0))])
    rw [Nat.zero_add, List.nil_append] at hO
    exact ⟨A11, c12, by rw [Nat.zero_add], hO⟩
  · skip
    refine wl_call (args := [.slice A L0.length cl]) in_77 rfl rfl rfl ?_
    refine (rorderb_ (hI.move (fun k hk => (O0.old).block k (hD k hk))) (fun k hk => Nat.lt_of_lt_of_le (hD k hk) (O0.old).size) (by omega) (show ordB L0 = false from Bool.eq_false_iff.2 c4)).mono ?_
    rintro _ w16 ⟨rfl, hb17⟩
    have O18 : Own Z0 W w16 [] := O0.below hb17
    refine ⟨_, rfl, ?_⟩
    refine wl_val (v := .bool true) (fun ρ e => ex_lnot (b := false) (e _ _ rfl)) rfl rfl ?_
    refine wl_nil ?_
    refine xw_next K3 ?_
    refine cw_true rfl ?_
    refine cw_seq (fun FK19 K19 => ?_)
    refine cw_region ?_
    refine wl_val (v := .slice none 0 0) (fun ρ e => ex_assign (e _ _ rfl)) rfl rfl ?_
    refine wl_val (v := .int .i64 1) (fun ρ e => ex_assign (e _ _ rfl)) rfl rfl ?_
    refine wl_nil ?_
    refine xw_next K19 ?_
    refine cw_ret ?_
    refine xw_past (by intro h; cases h) ?_
    refine xw_ret (v := .tuple #[.slice none 0 0, .int .i64 1]) (fun T hT => res2 rfl T _ (hT 4 _ rfl) (hT 5 _ rfl)) ?_
    have hm : makeOf 1 L0 = ([], 1) := by unfold makeOf; rw [Bool.eq_false_iff.2 c4]; rfl
    rw [hm]
    have O20 := O18.nilrow 38 3
    exact ⟨none, 0, rfl, O20.re [0] rfl⟩
theorem rmake1 {W : World} {D : Nat → Prop} {V : Value} {L0 : List Int} (hI : IntsD D W V L0) (hD : ∀ k, D k → k < W.heap.size) (hsz : L0.length ≤ 1000000) :
    Calls Tryd.prog 27 #[V] W fun e w' => ∃ A' c', e = .returned (.tuple #[.slice A' (makeOf 1 L0).1.length c', .int .i64 (makeOf 1 L0).2]) ∧ Own Z0 W w' [.row (.slice A' (makeOf 1 L0).1.length c') 38 3 (makeOf 1 L0).1.length (ncells (makeOf 1 L0).1)] := by
  obtain ⟨A, cl, rfl⟩ := hI.slice
  have O0 : Own Z0 W W [] := Own.start W
  refine sx_enter (args := [.slice A L0.length cl]) Tryd.func27 rfl rfl (by simp) ?_
  refine cw_seq (fun FK1 K1 => ?_)
  refine cw_region ?_
  refine wl_val (v := .slice none 0 0) (fun ρ e => ex_assign (e _ _ rfl)) rfl rfl ?_
  refine wl_val (v := .int .i64 0) (fun ρ e => ex_assign (e _ _ rfl)) rfl rfl ?_
  refine wl_nil ?_
  refine xw_next K1 ?_
  refine cw_seq (fun FK2 K2 => ?_)
  refine cw_region ?_
  refine wl_val (v := .slice A L0.length cl) (fun ρ e => ex_move (e _ _ rfl)) rfl rfl ?_
  refine wl_call (args := [.slice A L0.length cl, .int .i64 1]) in_58 rfl rfl rfl ?_
  refine (rmade1 (hI.move (fun k hk => (O0.old).block k (hD k hk))) (fun k hk => Nat.lt_of_lt_of_le (hD k hk) (O0.old).size) hsz).mono ?_
  rintro _ w5 ⟨A3, c4, rfl, h6⟩
  have O7 := O0.join1 h6 trivial
  refine ⟨_, rfl, ?_⟩
  refine wl_val (v := .slice A3 ((makeOf 1 L0).1.length) c4) (fun ρ e => ex_extract (vs := #[.slice A3 ((makeOf 1 L0).1.length) c4, .int .i64 ((makeOf 1 L0).2)]) (e _ _ rfl) rfl) rfl rfl ?_
  refine wl_val (v := .int .i64 ((makeOf 1 L0).2)) (fun ρ e => ex_extract (vs := #[.slice A3 ((makeOf 1 L0).1.length) c4, .int .i64 ((makeOf 1 L0).2)]) (e _ _ rfl) rfl) rfl rfl ?_
  refine wl_val (v := .slice A3 ((makeOf 1 L0).1.length) c4) (fun ρ e => ex_assign (e _ _ rfl)) rfl rfl ?_
  refine wl_val (v := .int .i64 ((makeOf 1 L0).2)) (fun ρ e => ex_assign (e _ _ rfl)) rfl rfl ?_
  refine wl_nil ?_
  refine xw_next K2 ?_
  refine cw_ret ?_
  refine xw_ret (v := .tuple #[.slice A3 ((makeOf 1 L0).1.length) c4, .int .i64 ((makeOf 1 L0).2)]) (fun T hT => res2 rfl T _ (hT 2 _ rfl) (hT 3 _ rfl)) ?_
  exact ⟨A3, c4, rfl, O7⟩
theorem rgrow2 {L0 : List Int} {D : Nat → Prop} {bl ol cl : Nat} (hL : L0.length ≤ 1000000) :
    ∀ (k s m cc : Nat), s + m ≤ L0.length → 1 ≤ m → m ≤ k → m ≤ cc → ∀ (Z : Bool → Nat → Prop) (w0 W : World) (A : Option Addr) (n c : Nat) (l : List VN), Own Z w0 W [.row (.slice A n c) 38 3 n (ncells l), .ro D (fun w => IntsD D w (.slice (some ⟨bl, ol, none⟩) L0.length cl) L0)] → n + 2 * m ≤ 1000000 →
    Calls Tryd.prog 78 #[.slice (some ⟨bl, ol + s, none⟩) m cc, .int .i64 2, .slice A n c] W fun e w' => ∃ A' c', e = .returned (.slice A' (n + Tr.size (mkT (gOf 2) k ((L0.drop s).take m))) c') ∧ Own Z w0 w' [.row (.slice A' (n + Tr.size (mkT (gOf 2) k ((L0.drop s).take m))) c') 38 3 (n + Tr.size (mkT (gOf 2) k ((L0.drop s).take m))) (ncells (l ++ post (mkT (gOf 2) k ((L0.drop s).take m)) n)), .ro D (fun w => IntsD D w (.slice (some ⟨bl, ol, none⟩) L0.length cl) L0)]
  | 0, s, m, cc, _, h1, h2, _ => absurd h1 (by omega)
  | k + 1, s, m, cc, hsm, hm1, hmk, hmc => fun Z w0 W A n c l O0 hlim => by
    have IH := rgrow2 (L0 := L0) (bl := bl) (ol := ol) (cl := cl) (D := D) hL k
    obtain ⟨v0, hv0⟩ : ∃ v, L0[s]? = some v := ⟨L0[s], List.getElem?_eq_getElem (by omega)⟩
    have hlen : ((L0.drop s).take m).length = m := by rw [List.length_take, List.length_drop]; omega
    by_cases h1 : m = 1
    · skip
      have hT : (mkT (gOf 2) (k + 1) ((L0.drop s).take m)) = .leaf v0 := mkT_one (by rw [hlen]; omega) (by rw [List.getElem?_take_of_lt (by omega), List.getElem?_drop, Nat.add_zero]; exact hv0)
      refine sx_enter (args := [.slice (some ⟨bl, ol + s, none⟩) m cc, .int .i64 2, .slice A n c]) Tryd.func78 rfl rfl (by simp) ?_
      refine cw_seq (fun FK1 K1 => ?_)
      refine cw_region ?_
      refine wl_val (v := .slice none 0 0) (fun ρ e => ex_assign (e _ _ rfl)) rfl rfl ?_
      refine wl_nil ?_
      refine xw_next K1 ?_
      refine cw_seq (fun FK2 K2 => ?_)
      refine cw_seq (fun FK3 K3 => ?_)
      refine cw_region ?_
      refine wl_val (v := .slice (some ⟨bl, ol + s, none⟩) m cc) (fun ρ e => ex_move (e _ _ rfl)) rfl rfl ?_
      refine wl_val (v := .int .i64 (m : Int)) (fun ρ e => ex_len el36 (e _ _ rfl)) rfl rfl ?_
      refine wl_val (v := .bool true) (fun ρ e => ex_cmp (u := (m : Int)) (v := 1) (e _ _ rfl) (e _ _ rfl) (eql1 (by omega))) rfl rfl ?_
      refine wl_nil ?_
      refine xw_next K3 ?_
      refine cw_true rfl ?_
      refine cw_seq (fun FK4 K4 => ?_)
      refine cw_region ?_
      refine wl_val (v := .slice A n c) (fun ρ e => ex_move (e _ _ rfl)) rfl rfl ?_
      refine wl_val (v := .slice (some ⟨bl, ol + s, none⟩) m cc) (fun ρ e => ex_move (e _ _ rfl)) rfl rfl ?_
      refine wl_val (v := .pointer (some ⟨bl, ol + s, none⟩)) (fun ρ e => ex_idx (q := ol + s) (i := 0) el36 (e _ _ rfl) (e _ _ rfl) (by omega) (by omega)) rfl rfl ?_
      refine wl_val (v := .int .i64 v0) (fun ρ e => ex_load1 ty3 (e _ _ rfl) (IntsD.cellq ((O0.ro 1 rfl) : IntsD _ _ (.slice (some ⟨bl, ol, none⟩) L0.length cl) L0) hv0)) rfl rfl ?_
      refine wl_val (v := .agg #[.int .i64 (-1), .int .i64 (-1), .int .i64 v0]) (fun ρ e => ex_build (cells := #[.int .i64 (-1), .int .i64 (-1), .int .i64 v0]) st38 (e.parts rfl) rfl) rfl rfl ?_
      obtain ⟨g5, w6, r7, O8, hg9, hs10⟩ := own_slice O0 el23 ze38 1 [(0, .agg #[.int .i64 (-1), .int .i64 (-1), .int .i64 v0])] (cs := #[.int .i64 (-1), .int .i64 (-1), .int .i64 v0]) (by decide) (by kernel_rfl)
      refine wl_val (v := .slice (some ⟨g5, 0, none⟩) 1 1) (fun ρ e => r7 ρ _ _ _ _ _ _ (e.parts rfl)) rfl rfl ?_
      obtain ⟨A11, c12, w13, r14, O15, hz16, hc17⟩ := own_app1 (O8.re [1, 0, 2] rfl : Own Z w0 w6 [.row (.slice A n c) 38 3 n (ncells l), .blk g5 38 #[.int .i64 (-1), .int .i64 (-1), .int .i64 v0], .ro D (fun w => IntsD D w (.slice (some ⟨bl, ol, none⟩) L0.length cl) L0)]) ap23 ((O8.re [1, 0, 2] rfl : Own Z w0 w6 [.row (.slice A n c) 38 3 n (ncells l), .blk g5 38 #[.int .i64 (-1), .int .i64 (-1), .int .i64 v0], .ro D (fun w => IntsD D w (.slice (some ⟨bl, ol, none⟩) L0.length cl) L0)]).blk 1 rfl) (cells := [.int .i64 (-1), .int .i64 (-1), .int .i64 v0]) rfl rfl (by omega) (by omega) (ys := (ncells (l ++ [(VN.mk (-1) (-1) v0)]))) (ncells_snoc l (VN.mk (-1) (-1) v0))
      refine wl_val (v := .slice A11 (n + 1) c12) (fun ρ e => r14 ρ _ _ _ _ _ _ _ (e _ _ rfl) (e _ _ rfl)) rfl rfl ?_
      refine wl_val (v := .slice A11 (n + 1) c12) (fun ρ e => ex_assign (e _ _ rfl)) rfl rfl ?_
      refine wl_nil ?_
      refine xw_next K4 ?_
      refine cw_ret ?_
      refine xw_past (by intro h; cases h) ?_
      refine xw_ret (v := .slice A11 (n + 1) c12) (fun T hT => res1 rfl T _ (hT 6 _ rfl)) ?_
      have hn : n + 1 = n + Tr.size (mkT (gOf 2) (k + 1) ((L0.drop s).take m)) := by rw [hT]; simp only [Tr.size] <;> omega
      have hl : (l ++ [(VN.mk (-1) (-1) v0)]) = l ++ post (mkT (gOf 2) (k + 1) ((L0.drop s).take m)) n := by rw [hT]; simp [post]
      have hO := (O15.re [0, 2] rfl : Own Z w0 w13 [.row (.slice A11 (n + 1) c12) 38 3 (n + 1) (ncells (l ++ [(VN.mk (-1) (-1) v0)])), .ro D (fun w => IntsD D w (.slice (some ⟨bl, ol, none⟩) L0.length cl) L0)])
      rw [hn, hl] at hO
      exact ⟨A11, c12, by rw [hn], hO⟩
    · skip
      have hm2 : 2 ≤ m := by omega
      have hgm : 1 ≤ m - 1 ∧ m - 1 < m := by omega
      have hT : (mkT (gOf 2) (k + 1) ((L0.drop s).take m)) = .node (mkT (gOf 2) k ((L0.drop s).take (m - 1))) (mkT (gOf 2) k ((L0.drop (s + (m - 1))).take (m - (m - 1)))) := by rw [mkT_more (by rw [hlen]; exact hm2), hlen, List.take_take, show gOf 2 m = m - 1 from rfl, Nat.min_eq_left (by omega), List.drop_take, List.drop_drop]
      have hsz1 : Tr.size (mkT (gOf 2) k ((L0.drop s).take (m - 1))) = 2 * (m - 1) - 1 := by rw [(mkT_leaves (gOf_good 2) k _ (by rw [List.length_take, List.length_drop]; omega) (by rw [List.length_take, List.length_drop]; omega)).2, List.length_take, List.length_drop, Nat.min_eq_left (by omega)]
      have hsz2 : Tr.size (mkT (gOf 2) k ((L0.drop (s + (m - 1))).take (m - (m - 1)))) = 2 * (m - (m - 1)) - 1 := by rw [(mkT_leaves (gOf_good 2) k _ (by rw [List.length_take, List.length_drop]; omega) (by rw [List.length_take, List.length_drop]; omega)).2, List.length_take, List.length_drop, Nat.min_eq_left (by omega)]
      refine sx_enter (args := [.slice (some ⟨bl, ol + s, none⟩) m cc, .int .i64 2, .slice A n c]) Tryd.func78 rfl rfl (by simp) ?_
      refine cw_seq (fun FK1 K1 => ?_)
      refine cw_region ?_
      refine wl_val (v := .slice none 0 0) (fun ρ e => ex_assign (e _ _ rfl)) rfl rfl ?_
      refine wl_nil ?_
      refine xw_next K1 ?_
      refine cw_seq (fun FK2 K2 => ?_)
      refine cw_seq (fun FK3 K3 => ?_)
      refine cw_region ?_
      refine wl_val (v := .slice (some ⟨bl, ol + s, none⟩) m cc) (fun ρ e => ex_move (e _ _ rfl)) rfl rfl ?_
      refine wl_val (v := .int .i64 (m : Int)) (fun ρ e => ex_len el36 (e _ _ rfl)) rfl rfl ?_
      refine wl_val (v := .bool false) (fun ρ e => ex_cmp (u := (m : Int)) (v := 1) (e _ _ rfl) (e _ _ rfl) (eql0 (by omega))) rfl rfl ?_
      refine wl_nil ?_
      refine xw_next K3 ?_
      refine cw_false rfl ?_
      refine cw_skip ?_
      refine xw_next K2 ?_
      refine cw_seq (fun FK4 K4 => ?_)
      refine cw_region ?_
      refine wl_val (v := .int .i64 1) (fun ρ e => ex_assign (e _ _ rfl)) rfl rfl ?_
      refine wl_nil ?_
      refine xw_next K4 ?_
      refine cw_seq (fun FK5 K5 => ?_)
      refine cw_seq (fun FK6 K6 => ?_)
      refine cw_region ?_
      refine wl_val (v := .int .i64 2) (fun ρ e => ex_move (e _ _ rfl)) rfl rfl ?_
      refine wl_val (v := .bool true) (fun ρ e => ex_cmp (u := 2) (v := 2) (e _ _ rfl) (e _ _ rfl) (eql1 (by omega))) rfl rfl ?_
      refine wl_nil ?_
      refine xw_next K6 ?_
      refine cw_true rfl ?_
      refine cw_region ?_
      refine wl_val (v := .slice (some ⟨bl, ol + s, none⟩) m cc) (fun ρ e => ex_move (e _ _ rfl)) rfl rfl ?_
      refine wl_val (v := .int .i64 (m : Int)) (fun ρ e => ex_len el36 (e _ _ rfl)) rfl rfl ?_
      refine wl_val (v := .int .i64 ((m - 1 : Nat) : Int)) (fun ρ e => ex_arith (k := .i64) (u := (m : Int)) (v := 1) (e _ _ rfl) (e _ _ rfl) (congrArg some ((congrArg _ (show _ = ((m - 1 : Nat) : Int) by omega)).trans (wrap_in (by omega) (by omega))))) rfl rfl ?_
      refine wl_val (v := .int .i64 ((m - 1 : Nat) : Int)) (fun ρ e => ex_assign (e _ _ rfl)) rfl rfl ?_
      refine wl_nil ?_
      refine xw_next K5 ?_
      refine cw_seq (fun FK7 K7 => ?_)
      refine cw_seq (fun FK8 K8 => ?_)
      refine cw_region ?_
      refine wl_val (v := .int .i64 2) (fun ρ e => ex_move (e _ _ rfl)) rfl rfl ?_
      refine wl_val (v := .bool false) (fun ρ e => ex_cmp (u := 2) (v := 3) (e _ _ rfl) (e _ _ rfl) (eql0 (by omega))) rfl rfl ?_
      refine wl_nil ?_
      refine xw_next K8 ?_
      refine cw_false rfl ?_
      refine cw_skip ?_
      refine xw_next K7 ?_
      refine cw_seq (fun FK9 K9 => ?_)
      refine cw_region ?_
      refine wl_val (v := .slice (some ⟨bl, ol + s, none⟩) m cc) (fun ρ e => ex_move (e _ _ rfl)) rfl rfl ?_
      refine wl_val (v := .int .i64 ((m - 1 : Nat) : Int)) (fun ρ e => ex_move (e _ _ rfl)) rfl rfl ?_
      refine wl_val (v := .slice (some ⟨bl, ol + s, none⟩) (m - 1) cc) (fun ρ e => ex_sliceHi (h := m - 1) el36 (e _ _ rfl) (e _ _ rfl) (by omega)) rfl rfl ?_
      refine wl_val (v := .int .i64 2) (fun ρ e => ex_move (e _ _ rfl)) rfl rfl ?_
      refine wl_val (v := .slice A n c) (fun ρ e => ex_move (e _ _ rfl)) rfl rfl ?_
      refine wl_call (args := [.slice (some ⟨bl, ol + s, none⟩) (m - 1) cc, .int .i64 2, .slice A n c]) in_78 rfl rfl rfl ?_
      have O14h := Own.hand (A := [.row (.slice A n c) 38 3 n (ncells l), .ro D (fun w => IntsD D w (.slice (some ⟨bl, ol, none⟩) L0.length cl) L0)]) (R := []) O0
      refine (IH s (m - 1) cc (by omega) (by omega) (by omega) (by omega) _ _ _ _ _ _ l O14h (by omega)).mono ?_
      rintro _ w12 ⟨A10, c11, rfl, h13⟩
      have O14 : Own Z w0 w12 [.row (.slice A10 (n + Tr.size (mkT (gOf 2) k ((L0.drop s).take (m - 1)))) c11) 38 3 (n + Tr.size (mkT (gOf 2) k ((L0.drop s).take (m - 1)))) (ncells (l ++ post (mkT (gOf 2) k ((L0.drop s).take (m - 1))) n)), .ro D (fun w => IntsD D w (.slice (some ⟨bl, ol, none⟩) L0.length cl) L0)] := Own.frame (A := [.row (.slice A n c) 38 3 n (ncells l), .ro D (fun w => IntsD D w (.slice (some ⟨bl, ol, none⟩) L0.length cl) L0)]) (R := []) O0 h13
      refine ⟨_, rfl, ?_⟩
      refine wl_val (v := .slice A10 (n + Tr.size (mkT (gOf 2) k ((L0.drop s).take (m - 1)))) c11) (fun ρ e => ex_assign (e _ _ rfl)) rfl rfl ?_
      refine wl_nil ?_
      refine xw_next K9 ?_
      refine cw_seq (fun FK15 K15 => ?_)
      refine cw_region ?_
      refine wl_val (v := .slice A10 (n + Tr.size (mkT (gOf 2) k ((L0.drop s).take (m - 1)))) c11) (fun ρ e => ex_move (e _ _ rfl)) rfl rfl ?_
      refine wl_val (v := .int .i64 (((n + Tr.size (mkT (gOf 2) k ((L0.drop s).take (m - 1)))) : Nat) : Int)) (fun ρ e => ex_len el23 (e _ _ rfl)) rfl rfl ?_
      refine wl_val (v := .int .i64 (((n + Tr.size (mkT (gOf 2) k ((L0.drop s).take (m - 1)))) - 1 : Nat) : Int)) (fun ρ e => ex_arith (k := .i64) (u := (((n + Tr.size (mkT (gOf 2) k ((L0.drop s).take (m - 1)))) : Nat) : Int)) (v := 1) (e _ _ rfl) (e _ _ rfl) (congrArg some ((congrArg _ (show _ = (((n + Tr.size (mkT (gOf 2) k ((L0.drop s).take (m - 1)))) - 1 : Nat) : Int) by omega)).trans (wrap_in (by omega) (by omega))))) rfl rfl ?_
      refine wl_val (v := .int .i64 (((n + Tr.size (mkT (gOf 2) k ((L0.drop s).take (m - 1)))) - 1 : Nat) : Int)) (fun ρ e => ex_assign (e _ _ rfl)) rfl rfl ?_
      refine wl_nil ?_
      refine xw_next K15 ?_
      refine cw_seq (fun FK16 K16 => ?_)
      refine cw_region ?_
      refine wl_val (v := .slice (some ⟨bl, ol + s, none⟩) m cc) (fun ρ e => ex_move (e _ _ rfl)) rfl rfl ?_
      refine wl_val (v := .int .i64 ((m - 1 : Nat) : Int)) (fun ρ e => ex_move (e _ _ rfl)) rfl rfl ?_
      refine wl_val (v := .slice (some ⟨bl, ol + (s + (m - 1)), none⟩) (m - (m - 1)) (cc - (m - 1))) (fun ρ e => ex_sliceLo (k := m - 1) (q := ol + (s + (m - 1))) el36 (e _ _ rfl) (e _ _ rfl) (by omega) (by omega) (by omega)) rfl rfl ?_
      refine wl_val (v := .int .i64 2) (fun ρ e => ex_move (e _ _ rfl)) rfl rfl ?_
      refine wl_val (v := .slice A10 (n + Tr.size (mkT (gOf 2) k ((L0.drop s).take (m - 1)))) c11) (fun ρ e => ex_move (e _ _ rfl)) rfl rfl ?_
      refine wl_call (args := [.slice (some ⟨bl, ol + (s + (m - 1)), none⟩) (m - (m - 1)) (cc - (m - 1)), .int .i64 2, .slice A10 (n + Tr.size (mkT (gOf 2) k ((L0.drop s).take (m - 1)))) c11]) in_78 rfl rfl rfl ?_
      have O21h := Own.hand (A := [.row (.slice A10 (n + Tr.size (mkT (gOf 2) k ((L0.drop s).take (m - 1)))) c11) 38 3 (n + Tr.size (mkT (gOf 2) k ((L0.drop s).take (m - 1)))) (ncells (l ++ post (mkT (gOf 2) k ((L0.drop s).take (m - 1))) n)), .ro D (fun w => IntsD D w (.slice (some ⟨bl, ol, none⟩) L0.length cl) L0)]) (R := []) O14
      refine (IH (s + (m - 1)) (m - (m - 1)) (cc - (m - 1)) (by omega) (by omega) (by omega) (by omega) _ _ _ _ _ _ (l ++ post (mkT (gOf 2) k ((L0.drop s).take (m - 1))) n) O21h (by omega)).mono ?_
      rintro _ w19 ⟨A17, c18, rfl, h20⟩
      have O21 : Own Z w0 w19 [.row (.slice A17 ((n + Tr.size (mkT (gOf 2) k ((L0.drop s).take (m - 1)))) + Tr.size (mkT (gOf 2) k ((L0.drop (s + (m - 1))).take (m - (m - 1))))) c18) 38 3 ((n + Tr.size (mkT (gOf 2) k ((L0.drop s).take (m - 1)))) + Tr.size (mkT (gOf 2) k ((L0.drop (s + (m - 1))).take (m - (m - 1))))) (ncells ((l ++ post (mkT (gOf 2) k ((L0.drop s).take (m - 1))) n) ++ post (mkT (gOf 2) k ((L0.drop (s + (m - 1))).take (m - (m - 1)))) (n + Tr.size (mkT (gOf 2) k ((L0.drop s).take (m - 1)))))), .ro D (fun w => IntsD D w (.slice (some ⟨bl, ol, none⟩) L0.length cl) L0)] := Own.frame (A := [.row (.slice A10 (n + Tr.size (mkT (gOf 2) k ((L0.drop s).take (m - 1)))) c11) 38 3 (n + Tr.size (mkT (gOf 2) k ((L0.drop s).take (m - 1)))) (ncells (l ++ post (mkT (gOf 2) k ((L0.drop s).take (m - 1))) n)), .ro D (fun w => IntsD D w (.slice (some ⟨bl, ol, none⟩) L0.length cl) L0)]) (R := []) O14 h20
      refine ⟨_, rfl, ?_⟩
      refine wl_val (v := .slice A17 ((n + Tr.size (mkT (gOf 2) k ((L0.drop s).take (m - 1)))) + Tr.size (mkT (gOf 2) k ((L0.drop (s + (m - 1))).take (m - (m - 1))))) c18) (fun ρ e => ex_assign (e _ _ rfl)) rfl rfl ?_
      refine wl_nil ?_
      refine xw_next K16 ?_
      refine cw_seq (fun FK22 K22 => ?_)
      refine cw_region ?_
      refine wl_val (v := .slice A17 ((n + Tr.size (mkT (gOf 2) k ((L0.drop s).take (m - 1)))) + Tr.size (mkT (gOf 2) k ((L0.drop (s + (m - 1))).take (m - (m - 1))))) c18) (fun ρ e => ex_move (e _ _ rfl)) rfl rfl ?_
      refine wl_val (v := .int .i64 (((n + Tr.size (mkT (gOf 2) k ((L0.drop s).take (m - 1)))) - 1 : Nat) : Int)) (fun ρ e => ex_move (e _ _ rfl)) rfl rfl ?_
      refine wl_val (v := .slice A17 ((n + Tr.size (mkT (gOf 2) k ((L0.drop s).take (m - 1)))) + Tr.size (mkT (gOf 2) k ((L0.drop (s + (m - 1))).take (m - (m - 1))))) c18) (fun ρ e => ex_move (e _ _ rfl)) rfl rfl ?_
      refine wl_val (v := .int .i64 ((((n + Tr.size (mkT (gOf 2) k ((L0.drop s).take (m - 1)))) + Tr.size (mkT (gOf 2) k ((L0.drop (s + (m - 1))).take (m - (m - 1))))) : Nat) : Int)) (fun ρ e => ex_len el23 (e _ _ rfl)) rfl rfl ?_
      refine wl_val (v := .int .i64 ((((n + Tr.size (mkT (gOf 2) k ((L0.drop s).take (m - 1)))) + Tr.size (mkT (gOf 2) k ((L0.drop (s + (m - 1))).take (m - (m - 1))))) - 1 : Nat) : Int)) (fun ρ e => ex_arith (k := .i64) (u := ((((n + Tr.size (mkT (gOf 2) k ((L0.drop s).take (m - 1)))) + Tr.size (mkT (gOf 2) k ((L0.drop (s + (m - 1))).take (m - (m - 1))))) : Nat) : Int)) (v := 1) (e _ _ rfl) (e _ _ rfl) (congrArg some ((congrArg _ (show _ = ((((n + Tr.size (mkT (gOf 2) k ((L0.drop s).take (m - 1)))) + Tr.size (mkT (gOf 2) k ((L0.drop (s + (m - 1))).take (m - (m - 1))))) - 1 : Nat) : Int) by omega)).trans (wrap_in (by omega) (by omega))))) rfl rfl ?_
      refine wl_val (v := .agg #[.int .i64 (((n + Tr.size (mkT (gOf 2) k ((L0.drop s).take (m - 1)))) - 1 : Nat) : Int), .int .i64 ((((n + Tr.size (mkT (gOf 2) k ((L0.drop s).take (m - 1)))) + Tr.size (mkT (gOf 2) k ((L0.drop (s + (m - 1))).take (m - (m - 1))))) - 1 : Nat) : Int), .int .i64 0]) (fun ρ e => ex_build (cells := #[.int .i64 (((n + Tr.size (mkT (gOf 2) k ((L0.drop s).take (m - 1)))) - 1 : Nat) : Int), .int .i64 ((((n + Tr.size (mkT (gOf 2) k ((L0.drop s).take (m - 1)))) + Tr.size (mkT (gOf 2) k ((L0.drop (s + (m - 1))).take (m - (m - 1))))) - 1 : Nat) : Int), .int .i64 0]) st38 (e.parts rfl) rfl) rfl rfl ?_
      obtain ⟨g23, w24, r25, O26, hg27, hs28⟩ := own_slice O21 el23 ze38 1 [(0, .agg #[.int .i64 (((n + Tr.size (mkT (gOf 2) k ((L0.drop s).take (m - 1)))) - 1 : Nat) : Int), .int .i64 ((((n + Tr.size (mkT (gOf 2) k ((L0.drop s).take (m - 1)))) + Tr.size (mkT (gOf 2) k ((L0.drop (s + (m - 1))).take (m - (m - 1))))) - 1 : Nat) : Int), .int .i64 0])] (cs := #[.int .i64 (((n + Tr.size (mkT (gOf 2) k ((L0.drop s).take (m - 1)))) - 1 : Nat) : Int), .int .i64 ((((n + Tr.size (mkT (gOf 2) k ((L0.drop s).take (m - 1)))) + Tr.size (mkT (gOf 2) k ((L0.drop (s + (m - 1))).take (m - (m - 1))))) - 1 : Nat) : Int), .int .i64 0]) (by decide) (by kernel_rfl)
      refine wl_val (v := .slice (some ⟨g23, 0, none⟩) 1 1) (fun ρ e => r25 ρ _ _ _ _ _ _ (e.parts rfl)) rfl rfl ?_
      obtain ⟨A29, c30, w31, r32, O33, hz34, hc35⟩ := own_app1 (O26.re [1, 0, 2] rfl : Own Z w0 w24 [.row (.slice A17 ((n + Tr.size (mkT (gOf 2) k ((L0.drop s).take (m - 1)))) + Tr.size (mkT (gOf 2) k ((L0.drop (s + (m - 1))).take (m - (m - 1))))) c18) 38 3 ((n + Tr.size (mkT (gOf 2) k ((L0.drop s).take (m - 1)))) + Tr.size (mkT (gOf 2) k ((L0.drop (s + (m - 1))).take (m - (m - 1))))) (ncells ((l ++ post (mkT (gOf 2) k ((L0.drop s).take (m - 1))) n) ++ post (mkT (gOf 2) k ((L0.drop (s + (m - 1))).take (m - (m - 1)))) (n + Tr.size (mkT (gOf 2) k ((L0.drop s).take (m - 1)))))), .blk g23 38 #[.int .i64 (((n + Tr.size (mkT (gOf 2) k ((L0.drop s).take (m - 1)))) - 1 : Nat) : Int), .int .i64 ((((n + Tr.size (mkT (gOf 2) k ((L0.drop s).take (m - 1)))) + Tr.size (mkT (gOf 2) k ((L0.drop (s + (m - 1))).take (m - (m - 1))))) - 1 : Nat) : Int), .int .i64 0], .ro D (fun w => IntsD D w (.slice (some ⟨bl, ol, none⟩) L0.length cl) L0)]) ap23 ((O26.re [1, 0, 2] rfl : Own Z w0 w24 [.row (.slice A17 ((n + Tr.size (mkT (gOf 2) k ((L0.drop s).take (m - 1)))) + Tr.size (mkT (gOf 2) k ((L0.drop (s + (m - 1))).take (m - (m - 1))))) c18) 38 3 ((n + Tr.size (mkT (gOf 2) k ((L0.drop s).take (m - 1)))) + Tr.size (mkT (gOf 2) k ((L0.drop (s + (m - 1))).take (m - (m - 1))))) (ncells ((l ++ post (mkT (gOf 2) k ((L0.drop s).take (m - 1))) n) ++ post (mkT (gOf 2) k ((L0.drop (s + (m - 1))).take (m - (m - 1)))) (n + Tr.size (mkT (gOf 2) k ((L0.drop s).take (m - 1)))))), .blk g23 38 #[.int .i64 (((n + Tr.size (mkT (gOf 2) k ((L0.drop s).take (m - 1)))) - 1 : Nat) : Int), .int .i64 ((((n + Tr.size (mkT (gOf 2) k ((L0.drop s).take (m - 1)))) + Tr.size (mkT (gOf 2) k ((L0.drop (s + (m - 1))).take (m - (m - 1))))) - 1 : Nat) : Int), .int .i64 0], .ro D (fun w => IntsD D w (.slice (some ⟨bl, ol, none⟩) L0.length cl) L0)]).blk 1 rfl) (cells := [.int .i64 (((n + Tr.size (mkT (gOf 2) k ((L0.drop s).take (m - 1)))) - 1 : Nat) : Int), .int .i64 ((((n + Tr.size (mkT (gOf 2) k ((L0.drop s).take (m - 1)))) + Tr.size (mkT (gOf 2) k ((L0.drop (s + (m - 1))).take (m - (m - 1))))) - 1 : Nat) : Int), .int .i64 0]) rfl rfl (by omega) (by omega) (ys := (ncells (((l ++ post (mkT (gOf 2) k ((L0.drop s).take (m - 1))) n) ++ post (mkT (gOf 2) k ((L0.drop (s + (m - 1))).take (m - (m - 1)))) (n + Tr.size (mkT (gOf 2) k ((L0.drop s).take (m - 1))))) ++ [(VN.mk (((n + Tr.size (mkT (gOf 2) k ((L0.drop s).take (m - 1)))) - 1 : Nat) : Int) ((((n + Tr.size (mkT (gOf 2) k ((L0.drop s).take (m - 1)))) + Tr.size (mkT (gOf 2) k ((L0.drop (s + (m - 1))).take (m - (m - 1))))) - 1 : Nat) : Int) 0)]))) (ncells_snoc ((l ++ post (mkT (gOf 2) k ((L0.drop s).take (m - 1))) n) ++ post (mkT (gOf 2) k ((L0.drop (s + (m - 1))).take (m - (m - 1)))) (n + Tr.size (mkT (gOf 2) k ((L0.drop s).take (m - 1))))) (VN.mk (((n + Tr.size (mkT (gOf 2) k ((L0.drop s).take (m - 1)))) - 1 : Nat) : Int) ((((n + Tr.size (mkT (gOf 2) k ((L0.drop s).take (m - 1)))) + Tr.size (mkT (gOf 2) k ((L0.drop (s + (m - 1))).take (m - (m - 1))))) - 1 : Nat) : Int) 0))
      refine wl_val (v := .slice A29 (((n + Tr.size (mkT (gOf 2) k ((L0.drop s).take (m - 1)))) + Tr.size (mkT (gOf 2) k ((L0.drop (s + (m - 1))).take (m - (m - 1))))) + 1) c30) (fun ρ e => r32 ρ _ _ _ _ _ _ _ (e _ _ rfl) (e _ _ rfl)) rfl rfl ?_
      refine wl_val (v := .slice A29 (((n + Tr.size (mkT (gOf 2) k ((L0.drop s).take (m - 1)))) + Tr.size (mkT (gOf 2) k ((L0.drop (s + (m - 1))).take (m - (m - 1))))) + 1) c30) (fun ρ e => ex_assign (e _ _ rfl)) rfl rfl ?_
      refine wl_nil ?_
      refine xw_next K22 ?_
      refine cw_ret ?_
      refine xw_ret (v := .slice A29 (((n + Tr.size (mkT (gOf 2) k ((L0.drop s).take (m - 1)))) + Tr.size (mkT (gOf 2) k ((L0.drop (s + (m - 1))).take (m - (m - 1))))) + 1) c30) (fun T hT => res1 rfl T _ (hT 6 _ rfl)) ?_
      have hn : ((n + Tr.size (mkT (gOf 2) k ((L0.drop s).take (m - 1)))) + Tr.size (mkT (gOf 2) k ((L0.drop (s + (m - 1))).take (m - (m - 1))))) + 1 = n + Tr.size (mkT (gOf 2) (k + 1) ((L0.drop s).take m)) := by rw [hT]; simp only [Tr.size] <;> omega
      have hl : (((l ++ post (mkT (gOf 2) k ((L0.drop s).take (m - 1))) n) ++ post (mkT (gOf 2) k ((L0.drop (s + (m - 1))).take (m - (m - 1)))) (n + Tr.size (mkT (gOf 2) k ((L0.drop s).take (m - 1))))) ++ [(VN.mk (((n + Tr.size (mkT (gOf 2) k ((L0.drop s).take (m - 1)))) - 1 : Nat) : Int) ((((n + Tr.size (mkT (gOf 2) k ((L0.drop s).take (m - 1)))) + Tr.size (mkT (gOf 2) k ((L0.drop (s + (m - 1))).take (m - (m - 1))))) - 1 : Nat) : Int) 0)]) = l ++ post (mkT (gOf 2) (k + 1) ((L0.drop s).take m)) n := by rw [hT]; simp [post]
      have hO := (O33.re [0, 2] rfl : Own Z w0 w31 [.row (.slice A29 (((n + Tr.size (mkT (gOf 2) k ((L0.drop s).take (m - 1)))) + Tr.size (mkT (gOf 2) k ((L0.drop (s + (m - 1))).take (m - (m - 1))))) + 1) c30) 38 3 (((n + Tr.size (mkT (gOf 2) k ((L0.drop s).take (m - 1)))) + Tr.size (mkT (gOf 2) k ((L0.drop (s + (m - 1))).take (m - (m - 1))))) + 1) (ncells (((l ++ post (mkT (gOf 2) k ((L0.drop s).take (m - 1))) n) ++ post (mkT (gOf 2) k ((L0.drop (s + (m - 1))).take (m - (m - 1)))) (n + Tr.size (mkT (gOf 2) k ((L0.drop s).take (m - 1))))) ++ [(VN.mk (((n + Tr.size (mkT (gOf 2) k ((L0.drop s).take (m - 1)))) - 1 : Nat) : Int) ((((n + Tr.size (mkT (gOf 2) k ((L0.drop s).take (m - 1)))) + Tr.size (mkT (gOf 2) k ((L0.drop (s + (m - 1))).take (m - (m - 1))))) - 1 : Nat) : Int) 0)])), .ro D (fun w => IntsD D w (.slice (some ⟨bl, ol, none⟩) L0.length cl) L0)])
      rw [hn, hl] at hO
      exact ⟨A29, c30, by rw [hn], hO⟩
theorem rmade2 {W : World} {D : Nat → Prop} {V : Value} {L0 : List Int} (hI : IntsD D W V L0) (hD : ∀ k, D k → k < W.heap.size) (hsz : L0.length ≤ 1000000) : Calls Tryd.prog 58 #[V, .int .i64 2] W fun e w' => ∃ A' c', e = .returned (.tuple #[.slice A' (makeOf 2 L0).1.length c', .int .i64 (makeOf 2 L0).2]) ∧ Own Z0 W w' [.row (.slice A' (makeOf 2 L0).1.length c') 38 3 (makeOf 2 L0).1.length (ncells (makeOf 2 L0).1)] := by
  obtain ⟨A, cl, rfl⟩ := hI.slice
  have O0 : Own Z0 W W [] := Own.start W
  refine sx_enter (args := [.slice A L0.length cl, .int .i64 2]) Tryd.func58 rfl rfl (by simp) ?_
  refine cw_seq (fun FK1 K1 => ?_)
  refine cw_region ?_
  refine wl_val (v := .slice none 0 0) (fun ρ e => ex_assign (e _ _ rfl)) rfl rfl ?_
  refine wl_val (v := .int .i64 0) (fun ρ e => ex_assign (e _ _ rfl)) rfl rfl ?_
  refine wl_nil ?_
  refine xw_next K1 ?_
  refine cw_seq (fun FK2 K2 => ?_)
  refine cw_seq (fun FK3 K3 => ?_)
  refine cw_region ?_
  refine wl_val (v := .slice A L0.length cl) (fun ρ e => ex_move (e _ _ rfl)) rfl rfl ?_
  by_cases c4 : (ordB L0) = true
  · skip
    have hlp := (ordB_iff.1 c4).1
    have hl128 := range_few (ordB_iff.1 c4).2
    obtain ⟨bl, ol, c', hv0⟩ := hI.form hlp
    injection hv0 with hA _ hc
    subst hA hc
    have hcl : L0.length ≤ cl := hI.cap
    have O5 := O0.oldro (D := D) (p := (fun w => IntsD D w (.slice (some ⟨bl, ol, none⟩) L0.length cl) L0)) (inE_holds hI hD)
    refine wl_call (args := [.slice (some ⟨bl, ol, none⟩) L0.length cl]) in_77 rfl rfl rfl ?_
    refine (rorderb_ (hI.move (fun k hk => (O5.old).block k (hD k hk))) (fun k hk => Nat.lt_of_lt_of_le (hD k hk) (O5.old).size) (by omega) (show ordB L0 = true from c4)).mono ?_
    rintro _ w6 ⟨rfl, hb7⟩
    have O8 : Own Z0 W w6 [.ro D (fun w => IntsD D w (.slice (some ⟨bl, ol, none⟩) L0.length cl) L0)] := O5.below hb7
    refine ⟨_, rfl, ?_⟩
    refine wl_val (v := .bool false) (fun ρ e => ex_lnot (b := true) (e _ _ rfl)) rfl rfl ?_
    refine wl_nil ?_
    refine xw_next K3 ?_
    refine cw_false rfl ?_
    refine cw_skip ?_
    refine xw_next K2 ?_
    refine cw_seq (fun FK9 K9 => ?_)
    refine cw_region ?_
    refine wl_val (v := .slice (some ⟨bl, ol, none⟩) L0.length cl) (fun ρ e => ex_move (e _ _ rfl)) rfl rfl ?_
    refine wl_val (v := .int .i64 2) (fun ρ e => ex_move (e _ _ rfl)) rfl rfl ?_
    refine wl_call (args := [.slice (some ⟨bl, ol, none⟩) L0.length cl, .int .i64 2, .slice none 0 0]) in_78 rfl rfl rfl ?_
    have O10 : Own Z0 W w6 [.row (.slice none 0 0) 38 3 0 (ncells []), .ro D (fun w => IntsD D w (.slice (some ⟨bl, ol, none⟩) L0.length cl) L0)] := O8.nilrow 38 3
    have O15h := Own.hand (A := [.row (.slice none 0 0) 38 3 0 (ncells []), .ro D (fun w => IntsD D w (.slice (some ⟨bl, ol, none⟩) L0.length cl) L0)]) (R := []) O10
    have hwh : (L0.drop 0).take L0.length = L0 := by rw [List.drop_zero, List.take_length]
    have hpt := rgrow2 (by omega) L0.length 0 L0.length cl (by omega) (by omega) (by omega) hcl _ _ _ _ _ _ [] O15h (by omega)
    rw [hwh] at hpt
    refine hpt.mono ?_
    rintro _ w13 ⟨A11, c12, rfl, h14⟩
    have O15 : Own Z0 W w13 [.row (.slice A11 (0 + Tr.size (mkT (gOf 2) L0.length L0)) c12) 38 3 (0 + Tr.size (mkT (gOf 2) L0.length L0)) (ncells ([] ++ post (mkT (gOf 2) L0.length L0) 0)), .ro D (fun w => IntsD D w (.slice (some ⟨bl, ol, none⟩) L0.length cl) L0)] := Own.frame (A := [.row (.slice none 0 0) 38 3 0 (ncells []), .ro D (fun w => IntsD D w (.slice (some ⟨bl, ol, none⟩) L0.length cl) L0)]) (R := []) O10 h14
    refine ⟨_, rfl, ?_⟩
    refine wl_val (v := .slice A11 (0 + Tr.size (mkT (gOf 2) L0.length L0)) c12) (fun ρ e => ex_assign (e _ _ rfl)) rfl rfl ?_
    refine wl_val (v := .int .i64 0) (fun ρ e => ex_assign (e _ _ rfl)) rfl rfl ?_
    refine wl_nil ?_
    refine xw_next K9 ?_
    refine cw_ret ?_
    refine xw_ret (v := .tuple #[.slice A11 (0 + Tr.size (mkT (gOf 2) L0.length L0)) c12, .int .i64 0]) (fun T hT => res2 rfl T _ (hT 4 _ rfl) (hT 5 _ rfl)) ?_
    have hm : makeOf 2 L0 = (post (mkT (gOf 2) L0.length L0) 0, 0) := by unfold makeOf; rw [c4]; rfl
    rw [hm]
    simp only [post_len]
    have hO := (O15.re [0] rfl : Own Z0 W w13 [.row (.slice A11 (0 + Tr.size (mkT (gOf 2) L0.length L0)) c12) 38 3 (0 + Tr.size (mkT (gOf 2) L0.length L0)) (ncells ([] ++ post (mkT (gOf 2) L0.length L0) 0))])
    rw [Nat.zero_add, List.nil_append] at hO
    exact ⟨A11, c12, by rw [Nat.zero_add], hO⟩
  · skip
    refine wl_call (args := [.slice A L0.length cl]) in_77 rfl rfl rfl ?_
    refine (rorderb_ (hI.move (fun k hk => (O0.old).block k (hD k hk))) (fun k hk => Nat.lt_of_lt_of_le (hD k hk) (O0.old).size) (by omega) (show ordB L0 = false from Bool.eq_false_iff.2 c4)).mono ?_
    rintro _ w16 ⟨rfl, hb17⟩
    have O18 : Own Z0 W w16 [] := O0.below hb17
    refine ⟨_, rfl, ?_⟩
    refine wl_val (v := .bool true) (fun ρ e => ex_lnot (b := false) (e _ _ rfl)) rfl rfl ?_
    refine wl_nil ?_
    refine xw_next K3 ?_
    refine cw_true rfl ?_
    refine cw_seq (fun FK19 K19 => ?_)
    refine cw_region ?_
    refine wl_val (v := .slice none 0 0) (fun ρ e => ex_assign (e _ _ rfl)) rfl rfl ?_
    refine wl_val (v := .int .i64 1) (fun ρ e => ex_assign (e _ _ rfl)) rfl rfl ?_
    refine wl_nil ?_
    refine xw_next K19 ?_
    refine cw_ret ?_
    refine xw_past (by intro h; cases h) ?_
    refine xw_ret (v := .tuple #[.slice none 0 0, .int .i64 1]) (fun T hT => res2 rfl T _ (hT 4 _ rfl) (hT 5 _ rfl)) ?_
    have hm : makeOf 2 L0 = ([], 1) := by unfold makeOf; rw [Bool.eq_false_iff.2 c4]; rfl
    rw [hm]
    have O20 := O18.nilrow 38 3
    exact ⟨none, 0, rfl, O20.re [0] rfl⟩
theorem rmake2 {W : World} {D : Nat → Prop} {V : Value} {L0 : List Int} (hI : IntsD D W V L0) (hD : ∀ k, D k → k < W.heap.size) (hsz : L0.length ≤ 1000000) :
    Calls Tryd.prog 28 #[V] W fun e w' => ∃ A' c', e = .returned (.tuple #[.slice A' (makeOf 2 L0).1.length c', .int .i64 (makeOf 2 L0).2]) ∧ Own Z0 W w' [.row (.slice A' (makeOf 2 L0).1.length c') 38 3 (makeOf 2 L0).1.length (ncells (makeOf 2 L0).1)] := by
  obtain ⟨A, cl, rfl⟩ := hI.slice
  have O0 : Own Z0 W W [] := Own.start W
  refine sx_enter (args := [.slice A L0.length cl]) Tryd.func28 rfl rfl (by simp) ?_
  refine cw_seq (fun FK1 K1 => ?_)
  refine cw_region ?_
  refine wl_val (v := .slice none 0 0) (fun ρ e => ex_assign (e _ _ rfl)) rfl rfl ?_
  refine wl_val (v := .int .i64 0) (fun ρ e => ex_assign (e _ _ rfl)) rfl rfl ?_
  refine wl_nil ?_
  refine xw_next K1 ?_
  refine cw_seq (fun FK2 K2 => ?_)
  refine cw_region ?_
  refine wl_val (v := .slice A L0.length cl) (fun ρ e => ex_move (e _ _ rfl)) rfl rfl ?_
  refine wl_call (args := [.slice A L0.length cl, .int .i64 2]) in_58 rfl rfl rfl ?_
  refine (rmade2 (hI.move (fun k hk => (O0.old).block k (hD k hk))) (fun k hk => Nat.lt_of_lt_of_le (hD k hk) (O0.old).size) hsz).mono ?_
  rintro _ w5 ⟨A3, c4, rfl, h6⟩
  have O7 := O0.join1 h6 trivial
  refine ⟨_, rfl, ?_⟩
  refine wl_val (v := .slice A3 ((makeOf 2 L0).1.length) c4) (fun ρ e => ex_extract (vs := #[.slice A3 ((makeOf 2 L0).1.length) c4, .int .i64 ((makeOf 2 L0).2)]) (e _ _ rfl) rfl) rfl rfl ?_
  refine wl_val (v := .int .i64 ((makeOf 2 L0).2)) (fun ρ e => ex_extract (vs := #[.slice A3 ((makeOf 2 L0).1.length) c4, .int .i64 ((makeOf 2 L0).2)]) (e _ _ rfl) rfl) rfl rfl ?_
  refine wl_val (v := .slice A3 ((makeOf 2 L0).1.length) c4) (fun ρ e => ex_assign (e _ _ rfl)) rfl rfl ?_
  refine wl_val (v := .int .i64 ((makeOf 2 L0).2)) (fun ρ e => ex_assign (e _ _ rfl)) rfl rfl ?_
  refine wl_nil ?_
  refine xw_next K2 ?_
  refine cw_ret ?_
  refine xw_ret (v := .tuple #[.slice A3 ((makeOf 2 L0).1.length) c4, .int .i64 ((makeOf 2 L0).2)]) (fun T hT => res2 rfl T _ (hT 2 _ rfl) (hT 3 _ rfl)) ?_
  exact ⟨A3, c4, rfl, O7⟩
theorem rgrow3 {L0 : List Int} {D : Nat → Prop} {bl ol cl : Nat} (hL : L0.length ≤ 1000000) :
    ∀ (k s m cc : Nat), s + m ≤ L0.length → 1 ≤ m → m ≤ k → m ≤ cc → ∀ (Z : Bool → Nat → Prop) (w0 W : World) (A : Option Addr) (n c : Nat) (l : List VN), Own Z w0 W [.row (.slice A n c) 38 3 n (ncells l), .ro D (fun w => IntsD D w (.slice (some ⟨bl, ol, none⟩) L0.length cl) L0)] → n + 2 * m ≤ 1000000 →
    Calls Tryd.prog 78 #[.slice (some ⟨bl, ol + s, none⟩) m cc, .int .i64 3, .slice A n c] W fun e w' => ∃ A' c', e = .returned (.slice A' (n + Tr.size (mkT (gOf 3) k ((L0.drop s).take m))) c') ∧ Own Z w0 w' [.row (.slice A' (n + Tr.size (mkT (gOf 3) k ((L0.drop s).take m))) c') 38 3 (n + Tr.size (mkT (gOf 3) k ((L0.drop s).take m))) (ncells (l ++ post (mkT (gOf 3) k ((L0.drop s).take m)) n)), .ro D (fun w => IntsD D w (.slice (some ⟨bl, ol, none⟩) L0.length cl) L0)]
  | 0, s, m, cc, _, h1, h2, _ => absurd h1 (by omega)
  | k + 1, s, m, cc, hsm, hm1, hmk, hmc => fun Z w0 W A n c l O0 hlim => by
    have IH := rgrow3 (L0 := L0) (bl := bl) (ol := ol) (cl := cl) (D := D) hL k
    obtain ⟨v0, hv0⟩ : ∃ v, L0[s]? = some v := ⟨L0[s], List.getElem?_eq_getElem (by omega)⟩
    have hlen : ((L0.drop s).take m).length = m := by rw [List.length_take, List.length_drop]; omega
    by_cases h1 : m = 1
    · skip
      have hT : (mkT (gOf 3) (k + 1) ((L0.drop s).take m)) = .leaf v0 := mkT_one (by rw [hlen]; omega) (by rw [List.getElem?_take_of_lt (by omega), List.getElem?_drop, Nat.add_zero]; exact hv0)
      refine sx_enter (args := [.slice (some ⟨bl, ol + s, none⟩) m cc, .int .i64 3, .slice A n c]) Tryd.func78 rfl rfl (by simp) ?_
      refine cw_seq (fun FK1 K1 => ?_)
      refine cw_region ?_
      refine wl_val (v := .slice none 0 0) (fun ρ e => ex_assign (e _ _ rfl)) rfl rfl ?_
      refine wl_nil ?_
      refine xw_next K1 ?_
      refine cw_seq (fun FK2 K2 => ?_)
      refine cw_seq (fun FK3 K3 => ?_)
      refine cw_region ?_
      refine wl_val (v := .slice (some ⟨bl, ol + s, none⟩) m cc) (fun ρ e => ex_move (e _ _ rfl)) rfl rfl ?_
      refine wl_val (v := .int .i64 (m : Int)) (fun ρ e => ex_len el36 (e _ _ rfl)) rfl rfl ?_
      refine wl_val (v := .bool true) (fun ρ e => ex_cmp (u := (m : Int)) (v := 1) (e _ _ rfl) (e _ _ rfl) (eql1 (by omega))) rfl rfl ?_
      refine wl_nil ?_
      refine xw_next K3 ?_
      refine cw_true rfl ?_
      refine cw_seq (fun FK4 K4 => ?_)
      refine cw_region ?_
      refine wl_val (v := .slice A n c) (fun ρ e => ex_move (e _ _ rfl)) rfl rfl ?_
      refine wl_val (v := .slice (some ⟨bl, ol + s, none⟩) m cc) (fun ρ e => ex_move (e _ _ rfl)) rfl rfl ?_
      refine wl_val (v := .pointer (some ⟨bl, ol + s, none⟩)) (fun ρ e => ex_idx (q := ol + s) (i := 0) el36 (e _ _ rfl) (e _ _ rfl) (by omega) (by omega)) rfl rfl ?_
      refine wl_val (v := .int .i64 v0) (fun ρ e => ex_load1 ty3 (e _ _ rfl) (IntsD.cellq ((O0.ro 1 rfl) : IntsD _ _ (.slice (some ⟨bl, ol, none⟩) L0.length cl) L0) hv0)) rfl rfl ?_
      refine wl_val (v := .agg #[.int .i64 (-1), .int .i64 (-1), .int .i64 v0]) (fun ρ e => ex_build (cells := #[.int .i64 (-1), .int .i64 (-1), .int .i64 v0]) st38 (e.parts rfl) rfl) rfl rfl ?_
      obtain ⟨g5, w6, r7, O8, hg9, hs10⟩ := own_slice O0 el23 ze38 1 [(0, .agg #[.int .i64 (-1), .int .i64 (-1), .int .i64 v0])] (cs := #[.int .i64 (-1), .int .i64 (-1), .int .i64 v0]) (by decide) (by kernel_rfl)
      refine wl_val (v := .slice (some ⟨g5, 0, none⟩) 1 1) (fun ρ e => r7 ρ _ _ _ _ _ _ (e.parts rfl)) rfl rfl ?_
      obtain ⟨A11, c12, w13, r14, O15, hz16, hc17⟩ := own_app1 (O8.re [1, 0, 2] rfl : Own Z w0 w6 [.row (.slice A n c) 38 3 n (ncells l), .blk g5 38 #[.int .i64 (-1), .int .i64 (-1), .int .i64 v0], .ro D (fun w => IntsD D w (.slice (some ⟨bl, ol, none⟩) L0.length cl) L0)]) ap23 ((O8.re [1, 0, 2] rfl : Own Z w0 w6 [.row (.slice A n c) 38 3 n (ncells l), .blk g5 38 #[.int .i64 (-1), .int .i64 (-1), .int .i64 v0], .ro D (fun w => IntsD D w (.slice (some ⟨bl, ol, none⟩) L0.length cl) L0)]).blk 1 rfl) (cells := [.int .i64 (-1), .int .i64 (-1), .int .i64 v0]) rfl rfl (by omega) (by omega) (ys := (ncells (l ++ [(VN.mk (-1) (-1) v0)]))) (ncells_snoc l (VN.mk (-1) (-1) v0))
      refine wl_val (v := .slice A11 (n + 1) c12) (fun ρ e => r14 ρ _ _ _ _ _ _ _ (e _ _ rfl) (e _ _ rfl)) rfl rfl ?_
      refine wl_val (v := .slice A11 (n + 1) c12) (fun ρ e => ex_assign (e _ _ rfl)) rfl rfl ?_
      refine wl_nil ?_
      refine xw_next K4 ?_
      refine cw_ret ?_
      refine xw_past (by intro h; cases h) ?_
      refine xw_ret (v := .slice A11 (n + 1) c12) (fun T hT => res1 rfl T _ (hT 6 _ rfl)) ?_
      have hn : n + 1 = n + Tr.size (mkT (gOf 3) (k + 1) ((L0.drop s).take m)) := by rw [hT]; simp only [Tr.size] <;> omega
      have hl : (l ++ [(VN.mk (-1) (-1) v0)]) = l ++ post (mkT (gOf 3) (k + 1) ((L0.drop s).take m)) n := by rw [hT]; simp [post]
      have hO := (O15.re [0, 2] rfl : Own Z w0 w13 [.row (.slice A11 (n + 1) c12) 38 3 (n + 1) (ncells (l ++ [(VN.mk (-1) (-1) v0)])), .ro D (fun w => IntsD D w (.slice (some ⟨bl, ol, none⟩) L0.length cl) L0)])
      rw [hn, hl] at hO
      exact ⟨A11, c12, by rw [hn], hO⟩
    · skip
      have hm2 : 2 ≤ m := by omega
      have hgm : 1 ≤ (m + 1) / 2 ∧ (m + 1) / 2 < m := by omega
      have hT : (mkT (gOf 3) (k + 1) ((L0.drop s).take m)) = .node (mkT (gOf 3) k ((L0.drop s).take ((m + 1) / 2))) (mkT (gOf 3) k ((L0.drop (s + ((m + 1) / 2))).take (m - ((m + 1) / 2)))) := by rw [mkT_more (by rw [hlen]; exact hm2), hlen, List.take_take, show gOf 3 m = (m + 1) / 2 from rfl, Nat.min_eq_left (by omega), List.drop_take, List.drop_drop]
      have hsz1 : Tr.size (mkT (gOf 3) k ((L0.drop s).take ((m + 1) / 2))) = 2 * ((m + 1) / 2) - 1 := by rw [(mkT_leaves (gOf_good 3) k _ (by rw [List.length_take, List.length_drop]; omega) (by rw [List.length_take, List.length_drop]; omega)).2, List.length_take, List.length_drop, Nat.min_eq_left (by omega)]
      have hsz2 : Tr.size (mkT (gOf 3) k ((L0.drop (s + ((m + 1) / 2))).take (m - ((m + 1) / 2)))) = 2 * (m - ((m + 1) / 2)) - 1 := by rw [(mkT_leaves (gOf_good 3) k _ (by rw [List.length_take, List.length_drop]; omega) (by rw [List.length_take, List.length_drop]; omega)).2, List.length_take, List.length_drop, Nat.min_eq_left (by omega)]
      refine sx_enter (args := [.slice (some ⟨bl, ol + s, none⟩) m cc, .int .i64 3, .slice A n c]) Tryd.func78 rfl rfl (by simp) ?_
      refine cw_seq (fun FK1 K1 => ?_)
      refine cw_region ?_
      refine wl_val (v := .slice none 0 0) (fun ρ e => ex_assign (e _ _ rfl)) rfl rfl ?_
      refine wl_nil ?_
      refine xw_next K1 ?_
      refine cw_seq (fun FK2 K2 => ?_)
      refine cw_seq (fun FK3 K3 => ?_)
      refine cw_region ?_
      refine wl_val (v := .slice (some ⟨bl, ol + s, none⟩) m cc) (fun ρ e => ex_move (e _ _ rfl)) rfl rfl ?_
      refine wl_val (v := .int .i64 (m : Int)) (fun ρ e => ex_len el36 (e _ _ rfl)) rfl rfl ?_
      refine wl_val (v := .bool false) (fun ρ e => ex_cmp (u := (m : Int)) (v := 1) (e _ _ rfl) (e _ _ rfl) (eql0 (by omega))) rfl rfl ?_
      refine wl_nil ?_
      refine xw_next K3 ?_
      refine cw_false rfl ?_
      refine cw_skip ?_
      refine xw_next K2 ?_
      refine cw_seq (fun FK4 K4 => ?_)
      refine cw_region ?_
      refine wl_val (v := .int .i64 1) (fun ρ e => ex_assign (e _ _ rfl)) rfl rfl ?_
      refine wl_nil ?_
      refine xw_next K4 ?_
      refine cw_seq (fun FK5 K5 => ?_)
      refine cw_seq (fun FK6 K6 => ?_)
      refine cw_region ?_
      refine wl_val (v := .int .i64 3) (fun ρ e => ex_move (e _ _ rfl)) rfl rfl ?_
      refine wl_val (v := .bool false) (fun ρ e => ex_cmp (u := 3) (v := 2) (e _ _ rfl) (e _ _ rfl) (eql0 (by omega))) rfl rfl ?_
      refine wl_nil ?_
      refine xw_next K6 ?_
      refine cw_false rfl ?_
      refine cw_skip ?_
      refine xw_next K5 ?_
      refine cw_seq (fun FK7 K7 => ?_)
      refine cw_seq (fun FK8 K8 => ?_)
      refine cw_region ?_
      refine wl_val (v := .int .i64 3) (fun ρ e => ex_move (e _ _ rfl)) rfl rfl ?_
      refine wl_val (v := .bool true) (fun ρ e => ex_cmp (u := 3) (v := 3) (e _ _ rfl) (e _ _ rfl) (eql1 (by omega))) rfl rfl ?_
      refine wl_nil ?_
      refine xw_next K8 ?_
      refine cw_true rfl ?_
      refine cw_region ?_
      refine wl_val (v := .slice (some ⟨bl, ol + s, none⟩) m cc) (fun ρ e => ex_move (e _ _ rfl)) rfl rfl ?_
      refine wl_val (v := .int .i64 (m : Int)) (fun ρ e => ex_len el36 (e _ _ rfl)) rfl rfl ?_
      refine wl_val (v := .int .i64 ((m + 1 : Nat) : Int)) (fun ρ e => ex_arith (k := .i64) (u := (m : Int)) (v := 1) (e _ _ rfl) (e _ _ rfl) (congrArg some ((congrArg _ (by omega)).trans (wrap_in (u := ((m + 1 : Nat) : Int)) (by omega) (by omega))))) rfl rfl ?_
      refine wl_val (v := .int .i64 (((m + 1) / 2 : Nat) : Int)) (fun ρ e => ex_quo2 (e _ _ rfl) (e _ _ rfl) (by omega)) rfl rfl ?_
      refine wl_val (v := .int .i64 (((m + 1) / 2 : Nat) : Int)) (fun ρ e => ex_assign (e _ _ rfl)) rfl rfl ?_
      refine wl_nil ?_
      refine xw_next K7 ?_
      refine cw_seq (fun FK9 K9 => ?_)
      refine cw_region ?_
      refine wl_val (v := .slice (some ⟨bl, ol + s, none⟩) m cc) (fun ρ e => ex_move (e _ _ rfl)) rfl rfl ?_
      refine wl_val (v := .int .i64 (((m + 1) / 2 : Nat) : Int)) (fun ρ e => ex_move (e _ _ rfl)) rfl rfl ?_
      refine wl_val (v := .slice (some ⟨bl, ol + s, none⟩) ((m + 1) / 2) cc) (fun ρ e => ex_sliceHi (h := (m + 1) / 2) el36 (e _ _ rfl) (e _ _ rfl) (by omega)) rfl rfl ?_
      refine wl_val (v := .int .i64 3) (fun ρ e => ex_move (e _ _ rfl)) rfl rfl ?_
      refine wl_val (v := .slice A n c) (fun ρ e => ex_move (e _ _ rfl)) rfl rfl ?_
      refine wl_call (args := [.slice (some ⟨bl, ol + s, none⟩) ((m + 1) / 2) cc, .int .i64 3, .slice A n c]) in_78 rfl rfl rfl ?_
      have O14h := Own.hand (A := [.row (.slice A n c) 38 3 n (ncells l), .ro D (fun w => IntsD D w (.slice (some ⟨bl, ol, none⟩) L0.length cl) L0)]) (R := []) O0
      refine (IH s ((m + 1) / 2) cc (by omega) (by omega) (by omega) (by omega) _ _ _ _ _ _ l O14h (by omega)).mono ?_
      rintro _ w12 ⟨A10, c11, rfl, h13⟩
      have O14 : Own Z w0 w12 [.row (.slice A10 (n + Tr.size (mkT (gOf 3) k ((L0.drop s).take ((m + 1) / 2)))) c11) 38 3 (n + Tr.size (mkT (gOf 3) k ((L0.drop s).take ((m + 1) / 2)))) (ncells (l ++ post (mkT (gOf 3) k ((L0.drop s).take ((m + 1) / 2))) n)), .ro D (fun w => IntsD D w (.slice (some ⟨bl, ol, none⟩) L0.length cl) L0)] := Own.frame (A := [.row (.slice A n c) 38 3 n (ncells l), .ro D (fun w => IntsD D w (.slice (some ⟨bl, ol, none⟩) L0.length cl) L0)]) (R := []) O0 h13
      refine ⟨_, rfl, ?_⟩
      refine wl_val (v := .slice A10 (n + Tr.size (mkT (gOf 3) k ((L0.drop s).take ((m + 1) / 2)))) c11) (fun ρ e => ex_assign (e _ _ rfl)) rfl rfl ?_
      refine wl_nil ?_
      refine xw_next K9 ?_
      refine cw_seq (fun FK15 K15 => ?_)
      refine cw_region ?_
      refine wl_val (v := .slice A10 (n + Tr.size (mkT (gOf 3) k ((L0.drop s).take ((m + 1) / 2)))) c11) (fun ρ e => ex_move (e _ _ rfl)) rfl rfl ?_
      refine wl_val (v := .int .i64 (((n + Tr.size (mkT (gOf 3) k ((L0.drop s).take ((m + 1) / 2)))) : Nat) : Int)) (fun ρ e => ex_len el23 (e _ _ rfl)) rfl rfl ?_
      refine wl_val (v := .int .i64 (((n + Tr.size (mkT (gOf 3) k ((L0.drop s).take ((m + 1) / 2)))) - 1 : Nat) : Int)) (fun ρ e => ex_arith (k := .i64) (u := (((n + Tr.size (mkT (gOf 3) k ((L0.drop s).take ((m + 1) / 2)))) : Nat) : Int)) (v := 1) (e _ _ rfl) (e _ _ rfl) (congrArg some ((congrArg _ (show _ = (((n + Tr.size (mkT (gOf 3) k ((L0.drop s).take ((m + 1) / 2)))) - 1 : Nat) : Int) by omega)).trans (wrap_in (by omega) (by omega))))) rfl rfl ?_
      refine wl_val (v := .int .i64 (((n + Tr.size (mkT (gOf 3) k ((L0.drop s).take ((m + 1) / 2)))) - 1 : Nat) : Int)) (fun ρ e => ex_assign (e _ _ rfl)) rfl rfl ?_
      refine wl_nil ?_
      refine xw_next K15 ?_
      refine cw_seq (fun FK16 K16 => ?_)
      refine cw_region ?_
      refine wl_val (v := .slice (some ⟨bl, ol + s, none⟩) m cc) (fun ρ e => ex_move (e _ _ rfl)) rfl rfl ?_
      refine wl_val (v := .int .i64 (((m + 1) / 2 : Nat) : Int)) (fun ρ e => ex_move (e _ _ rfl)) rfl rfl ?_
      refine wl_val (v := .slice (some ⟨bl, ol + (s + ((m + 1) / 2)), none⟩) (m - ((m + 1) / 2)) (cc - ((m + 1) / 2))) (fun ρ e => ex_sliceLo (k := (m + 1) / 2) (q := ol + (s + ((m + 1) / 2))) el36 (e _ _ rfl) (e _ _ rfl) (by omega) (by omega) (by omega)) rfl rfl ?_
      refine wl_val (v := .int .i64 3) (fun ρ e => ex_move (e _ _ rfl)) rfl rfl ?_
      refine wl_val (v := .slice A10 (n + Tr.size (mkT (gOf 3) k ((L0.drop s).take ((m + 1) / 2)))) c11) (fun ρ e => ex_move (e _ _ rfl)) rfl rfl ?_
      refine wl_call (args := [.slice (some ⟨bl, ol + (s + ((m + 1) / 2)), none⟩) (m - ((m + 1) / 2)) (cc - ((m + 1) / 2)), .int .i64 3, .slice A10 (n + Tr.size (mkT (gOf 3) k ((L0.drop s).take ((m + 1) / 2)))) c11]) in_78 rfl rfl rfl ?_
      have O21h := Own.hand (A := [.row (.slice A10 (n + Tr.size (mkT (gOf 3) k ((L0.drop s).take ((m + 1) / 2)))) c11) 38 3 (n + Tr.size (mkT (gOf 3) k ((L0.drop s).take ((m + 1) / 2)))) (ncells (l ++ post (mkT (gOf 3) k ((L0.drop s).take ((m + 1) / 2))) n)), .ro D (fun w => IntsD D w (.slice (some ⟨bl, ol, none⟩) L0.length cl) L0)]) (R := []) O14
      refine (IH (s + ((m + 1) / 2)) (m - ((m + 1) / 2)) (cc - ((m + 1) / 2)) (by omega) (by omega) (by omega) (by omega) _ _ _ _ _ _ (l ++ post (mkT (gOf 3) k ((L0.drop s).take ((m + 1) / 2))) n) O21h (by omega)).mono ?_
      rintro _ w19 ⟨A17, c18, rfl, h20⟩
      have O21 : Own Z w0 w19 [.row (.slice A17 ((n + Tr.size (mkT (gOf 3) k ((L0.drop s).take ((m + 1) / 2)))) + Tr.size (mkT (gOf 3) k ((L0.drop (s + ((m + 1) / 2))).take (m - ((m + 1) / 2))))) c18) 38 3 ((n + Tr.size (mkT (gOf 3) k ((L0.drop s).take ((m + 1) / 2)))) + Tr.size (mkT (gOf 3) k ((L0.drop (s + ((m + 1) / 2))).take (m - ((m + 1) / 2))))) (ncells ((l ++ post (mkT (gOf 3) k ((L0.drop s).take ((m + 1) / 2))) n) ++ post (mkT (gOf 3) k ((L0.drop (s + ((m + 1) / 2))).take (m - ((m + 1) / 2)))) (n + Tr.size (mkT (gOf 3) k ((L0.drop s).take ((m + 1) / 2)))))), .ro D (fun w => IntsD D w (.slice (some ⟨bl, ol, none⟩) L0.length cl) L0)] := Own.frame (A := [.row (.slice A10 (n + Tr.size (mkT (gOf 3) k ((L0.drop s).take ((m + 1) / 2)))) c11) 38 3 (n + Tr.size (mkT (gOf 3) k ((L0.drop s).take ((m + 1) / 2)))) (ncells (l ++ post (mkT (gOf 3) k ((L0.drop s).take ((m + 1) / 2))) n)), .ro D (fun w => IntsD D w (.slice (some ⟨bl, ol, none⟩) L0.length cl) L0)]) (R := []) O14 h20
      refine ⟨_, rfl, ?_⟩
      refine wl_val (v := .slice A17 ((n + Tr.size (mkT (gOf 3) k ((L0.drop s).take ((m + 1) / 2)))) + Tr.size (mkT (gOf 3) k ((L0.drop (s + ((m + 1) / 2))).take (m - ((m + 1) / 2))))) c18) (fun ρ e => ex_assign (e _ _ rfl)) rfl rfl ?_
      refine wl_nil ?_
      refine xw_next K16 ?_
      refine cw_seq (fun FK22 K22 => ?_)
      refine cw_region ?_
      refine wl_val (v := .slice A17 ((n + Tr.size (mkT (gOf 3) k ((L0.drop s).take ((m + 1) / 2)))) + Tr.size (mkT (gOf 3) k ((L0.drop (s + ((m + 1) / 2))).take (m - ((m + 1) / 2))))) c18) (fun ρ e => ex_move (e _ _ rfl)) rfl rfl ?_
      refine wl_val (v := .int .i64 (((n + Tr.size (mkT (gOf 3) k ((L0.drop s).take ((m + 1) / 2)))) - 1 : Nat) : Int)) (fun ρ e => ex_move (e _ _ rfl)) rfl rfl ?_
      refine wl_val (v := .slice A17 ((n + Tr.size (mkT (gOf 3) k ((L0.drop s).take ((m + 1) / 2)))) + Tr.size (mkT (gOf 3) k ((L0.drop (s + ((m + 1) / 2))).take (m - ((m + 1) / 2))))) c18) (fun ρ e => ex_move (e _ _ rfl)) rfl rfl ?_
      refine wl_val (v := .int .i64 ((((n + Tr.size (mkT (gOf 3) k ((L0.drop s).take ((m + 1) / 2)))) + Tr.size (mkT (gOf 3) k ((L0.drop (s + ((m + 1) / 2))).take (m - ((m + 1) / 2))))) : Nat) : Int)) (fun ρ e => ex_len el23 (e _ _ rfl)) rfl rfl ?_
      refine wl_val (v := .int .i64 ((((n + Tr.size (mkT (gOf 3) k ((L0.drop s).take ((m + 1) / 2)))) + Tr.size (mkT (gOf 3) k ((L0.drop (s + ((m + 1) / 2))).take (m - ((m + 1) / 2))))) - 1 : Nat) : Int)) (fun ρ e => ex_arith (k := .i64) (u := ((((n + Tr.size (mkT (gOf 3) k ((L0.drop s).take ((m + 1) / 2)))) + Tr.size (mkT (gOf 3) k ((L0.drop (s + ((m + 1) / 2))).take (m - ((m + 1) / 2))))) : Nat) : Int)) (v := 1) (e _ _ rfl) (e _ _ rfl) (congrArg some ((congrArg _ (show _ = ((((n + Tr.size (mkT (gOf 3) k ((L0.drop s).take ((m + 1) / 2)))) + Tr.size (mkT (gOf 3) k ((L0.drop (s + ((m + 1) / 2))).take (m - ((m + 1) / 2))))) - 1 : Nat) : Int) by omega)).trans (wrap_in (by omega) (by omega))))) rfl rfl ?_
      refine wl_val (v := .agg #[.int .i64 (((n + Tr.size (mkT (gOf 3) k ((L0.drop s).take ((m + 1) / 2)))) - 1 : Nat) : Int), .int .i64 ((((n + Tr.size (mkT (gOf 3) k ((L0.drop s).take ((m + 1) / 2)))) + Tr.size (mkT (gOf 3) k ((L0.drop (s + ((m + 1) / 2))).take (m - ((m + 1) / 2))))) - 1 : Nat) : Int), .int .i64 0]) (fun ρ e => ex_build (cells := #[.int .i64 (((n + Tr.size (mkT (gOf 3) k ((L0.drop s).take ((m + 1) / 2)))) - 1 : Nat) : Int), .int .i64 ((((n + Tr.size (mkT (gOf 3) k ((L0.drop s).take ((m + 1) / 2)))) + Tr.size (mkT (gOf 3) k ((L0.drop (s + ((m + 1) / 2))).take (m - ((m + 1) / 2))))) - 1 : Nat) : Int), .int .i64 0]) st38 (e.parts rfl) rfl) rfl rfl ?_
      obtain ⟨g23, w24, r25, O26, hg27, hs28⟩ := own_slice O21 el23 ze38 1 [(0, .agg #[.int .i64 (((n + Tr.size (mkT (gOf 3) k ((L0.drop s).take ((m + 1) / 2)))) - 1 : Nat) : Int), .int .i64 ((((n + Tr.size (mkT (gOf 3) k ((L0.drop s).take ((m + 1) / 2)))) + Tr.size (mkT (gOf 3) k ((L0.drop (s + ((m + 1) / 2))).take (m - ((m + 1) / 2))))) - 1 : Nat) : Int), .int .i64 0])] (cs := #[.int .i64 (((n + Tr.size (mkT (gOf 3) k ((L0.drop s).take ((m + 1) / 2)))) - 1 : Nat) : Int), .int .i64 ((((n + Tr.size (mkT (gOf 3) k ((L0.drop s).take ((m + 1) / 2)))) + Tr.size (mkT (gOf 3) k ((L0.drop (s + ((m + 1) / 2))).take (m - ((m + 1) / 2))))) - 1 : Nat) : Int), .int .i64 0]) (by decide) (by kernel_rfl)
      refine wl_val (v := .slice (some ⟨g23, 0, none⟩) 1 1) (fun ρ e => r25 ρ _ _ _ _ _ _ (e.parts rfl)) rfl rfl ?_
      obtain ⟨A29, c30, w31, r32, O33, hz34, hc35⟩ := own_app1 (O26.re [1, 0, 2] rfl : Own Z w0 w24 [.row (.slice A17 ((n + Tr.size (mkT (gOf 3) k ((L0.drop s).take ((m + 1) / 2)))) + Tr.size (mkT (gOf 3) k ((L0.drop (s + ((m + 1) / 2))).take (m - ((m + 1) / 2))))) c18) 38 3 ((n + Tr.size (mkT (gOf 3) k ((L0.drop s).take ((m + 1) / 2)))) + Tr.size (mkT (gOf 3) k ((L0.drop (s + ((m + 1) / 2))).take (m - ((m + 1) / 2))))) (ncells ((l ++ post (mkT (gOf 3) k ((L0.drop s).take ((m + 1) / 2))) n) ++ post (mkT (gOf 3) k ((L0.drop (s + ((m + 1) / 2))).take (m - ((m + 1) / 2)))) (n + Tr.size (mkT (gOf 3) k ((L0.drop s).take ((m + 1) / 2)))))), .blk g23 38 #[.int .i64 (((n + Tr.size (mkT (gOf 3) k ((L0.drop s).take ((m + 1) / 2)))) - 1 : Nat) : Int), .int .i64 ((((n + Tr.size (mkT (gOf 3) k ((L0.drop s).take ((m + 1) / 2)))) + Tr.size (mkT (gOf 3) k ((L0.drop (s + ((m + 1) / 2))).take (m - ((m + 1) / 2))))) - 1 : Nat) : Int), .int .i64 0], .ro D (fun w => IntsD D w (.slice (some ⟨bl, ol, none⟩) L0.length cl) L0)]) ap23 ((O26.re [1, 0, 2] rfl : Own Z w0 w24 [.row (.slice A17 ((n + Tr.size (mkT (gOf 3) k ((L0.drop s).take ((m + 1) / 2)))) + Tr.size (mkT (gOf 3) k ((L0.drop (s + ((m + 1) / 2))).take (m - ((m + 1) / 2))))) c18) 38 3 ((n + Tr.size (mkT (gOf 3) k ((L0.drop s).take ((m + 1) / 2)))) + Tr.size (mkT (gOf 3) k ((L0.drop (s + ((m + 1) / 2))).take (m - ((m + 1) / 2))))) (ncells ((l ++ post (mkT (gOf 3) k ((L0.drop s).take ((m + 1) / 2))) n) ++ post (mkT (gOf 3) k ((L0.drop (s + ((m + 1) / 2))).take (m - ((m + 1) / 2)))) (n + Tr.size (mkT (gOf 3) k ((L0.drop s).take ((m + 1) / 2)))))), .blk g23 38 #[.int .i64 (((n + Tr.size (mkT (gOf 3) k ((L0.drop s).take ((m + 1) / 2)))) - 1 : Nat) : Int), .int .i64 ((((n + Tr.size (mkT (gOf 3) k ((L0.drop s).take ((m + 1) / 2)))) + Tr.size (mkT (gOf 3) k ((L0.drop (s + ((m + 1) / 2))).take (m - ((m + 1) / 2))))) - 1 : Nat) : Int), .int .i64 0], .ro D (fun w => IntsD D w (.slice (some ⟨bl, ol, none⟩) L0.length cl) L0)]).blk 1 rfl) (cells := [.int .i64 (((n + Tr.size (mkT (gOf 3) k ((L0.drop s).take ((m + 1) / 2)))) - 1 : Nat) : Int), .int .i64 ((((n + Tr.size (mkT (gOf 3) k ((L0.drop s).take ((m + 1) / 2)))) + Tr.size (mkT (gOf 3) k ((L0.drop (s + ((m + 1) / 2))).take (m - ((m + 1) / 2))))) - 1 : Nat) : Int), .int .i64 0]) rfl rfl (by omega) (by omega) (ys := (ncells (((l ++ post (mkT (gOf 3) k ((L0.drop s).take ((m + 1) / 2))) n) ++ post (mkT (gOf 3) k ((L0.drop (s + ((m + 1) / 2))).take (m - ((m + 1) / 2)))) (n + Tr.size (mkT (gOf 3) k ((L0.drop s).take ((m + 1) / 2))))) ++ [(VN.mk (((n + Tr.size (mkT (gOf 3) k ((L0.drop s).take ((m + 1) / 2)))) - 1 : Nat) : Int) ((((n + Tr.size (mkT (gOf 3) k ((L0.drop s).take ((m + 1) / 2)))) + Tr.size (mkT (gOf 3) k ((L0.drop (s + ((m + 1) / 2))).take (m - ((m + 1) / 2))))) - 1 : Nat) : Int) 0)]))) (ncells_snoc ((l ++ post (mkT (gOf 3) k ((L0.drop s).take ((m + 1) / 2))) n) ++ post (mkT (gOf 3) k ((L0.drop (s + ((m + 1) / 2))).take (m - ((m + 1) / 2)))) (n + Tr.size (mkT (gOf 3) k ((L0.drop s).take ((m + 1) / 2))))) (VN.mk (((n + Tr.size (mkT (gOf 3) k ((L0.drop s).take ((m + 1) / 2)))) - 1 : Nat) : Int) ((((n + Tr.size (mkT (gOf 3) k ((L0.drop s).take ((m + 1) / 2)))) + Tr.size (mkT (gOf 3) k ((L0.drop (s + ((m + 1) / 2))).take (m - ((m + 1) / 2))))) - 1 : Nat) : Int) 0))
      refine wl_val (v := .slice A29 (((n + Tr.size (mkT (gOf 3) k ((L0.drop s).take ((m + 1) / 2)))) + Tr.size (mkT (gOf 3) k ((L0.drop (s + ((m + 1) / 2))).take (m - ((m + 1) / 2))))) + 1) c30) (fun ρ e => r32 ρ _ _ _ _ _ _ _ (e _ _ rfl) (e _ _ rfl)) rfl rfl ?_
      refine wl_val (v := .slice A29 (((n + Tr.size (mkT (gOf 3) k ((L0.drop s).take ((m + 1) / 2)))) + Tr.size (mkT (gOf 3) k ((L0.drop (s + ((m + 1) / 2))).take (m - ((m + 1) / 2))))) + 1) c30) (fun ρ e => ex_assign (e _ _ rfl)) rfl rfl ?_
      refine wl_nil ?_
      refine xw_next K22 ?_
      refine cw_ret ?_
      refine xw_ret (v := .slice A29 (((n + Tr.size (mkT (gOf 3) k ((L0.drop s).take ((m + 1) / 2)))) + Tr.size (mkT (gOf 3) k ((L0.drop (s + ((m + 1) / 2))).take (m - ((m + 1) / 2))))) + 1) c30) (fun T hT => res1 rfl T _ (hT 6 _ rfl)) ?_
      have hn : ((n + Tr.size (mkT (gOf 3) k ((L0.drop s).take ((m + 1) / 2)))) + Tr.size (mkT (gOf 3) k ((L0.drop (s + ((m + 1) / 2))).take (m - ((m + 1) / 2))))) + 1 = n + Tr.size (mkT (gOf 3) (k + 1) ((L0.drop s).take m)) := by rw [hT]; simp only [Tr.size] <;> omega
      have hl : (((l ++ post (mkT (gOf 3) k ((L0.drop s).take ((m + 1) / 2))) n) ++ post (mkT (gOf 3) k ((L0.drop (s + ((m + 1) / 2))).take (m - ((m + 1) / 2)))) (n + Tr.size (mkT (gOf 3) k ((L0.drop s).take ((m + 1) / 2))))) ++ [(VN.mk (((n + Tr.size (mkT (gOf 3) k ((L0.drop s).take ((m + 1) / 2)))) - 1 : Nat) : Int) ((((n + Tr.size (mkT (gOf 3) k ((L0.drop s).take ((m + 1) / 2)))) + Tr.size (mkT (gOf 3) k ((L0.drop (s + ((m + 1) / 2))).take (m - ((m + 1) / 2))))) - 1 : Nat) : Int) 0)]) = l ++ post (mkT (gOf 3) (k + 1) ((L0.drop s).take m)) n := by rw [hT]; simp [post]
      have hO := (O33.re [0, 2] rfl : Own Z w0 w31 [.row (.slice A29 (((n + Tr.size (mkT (gOf 3) k ((L0.drop s).take ((m + 1) / 2)))) + Tr.size (mkT (gOf 3) k ((L0.drop (s + ((m + 1) / 2))).take (m - ((m + 1) / 2))))) + 1) c30) 38 3 (((n + Tr.size (mkT (gOf 3) k ((L0.drop s).take ((m + 1) / 2)))) + Tr.size (mkT (gOf 3) k ((L0.drop (s + ((m + 1) / 2))).take (m - ((m + 1) / 2))))) + 1) (ncells (((l ++ post (mkT (gOf 3) k ((L0.drop s).take ((m + 1) / 2))) n) ++ post (mkT (gOf 3) k ((L0.drop (s + ((m + 1) / 2))).take (m - ((m + 1) / 2)))) (n + Tr.size (mkT (gOf 3) k ((L0.drop s).take ((m + 1) / 2))))) ++ [(VN.mk (((n + Tr.size (mkT (gOf 3) k ((L0.drop s).take ((m + 1) / 2)))) - 1 : Nat) : Int) ((((n + Tr.size (mkT (gOf 3) k ((L0.drop s).take ((m + 1) / 2)))) + Tr.size (mkT (gOf 3) k ((L0.drop (s + ((m + 1) / 2))).take (m - ((m + 1) / 2))))) - 1 : Nat) : Int) 0)])), .ro D (fun w => IntsD D w (.slice (some ⟨bl, ol, none⟩) L0.length cl) L0)])
      rw [hn, hl] at hO
      exact ⟨A29, c30, by rw [hn], hO⟩
theorem rmade3 {W : World} {D : Nat → Prop} {V : Value} {L0 : List Int} (hI : IntsD D W V L0) (hD : ∀ k, D k → k < W.heap.size) (hsz : L0.length ≤ 1000000) : Calls Tryd.prog 58 #[V, .int .i64 3] W fun e w' => ∃ A' c', e = .returned (.tuple #[.slice A' (makeOf 3 L0).1.length c', .int .i64 (makeOf 3 L0).2]) ∧ Own Z0 W w' [.row (.slice A' (makeOf 3 L0).1.length c') 38 3 (makeOf 3 L0).1.length (ncells (makeOf 3 L0).1)] := by
  obtain ⟨A, cl, rfl⟩ := hI.slice
  have O0 : Own Z0 W W [] := Own.start W
  refine sx_enter (args := [.slice A L0.length cl, .int .i64 3]) Tryd.func58 rfl rfl (by simp) ?_
  refine cw_seq (fun FK1 K1 => ?_)
  refine cw_region ?_
  refine wl_val (v := .slice none 0 0) (fun ρ e => ex_assign (e _ _ rfl)) rfl rfl ?_
  refine wl_val (v := .int .i64 0) (fun ρ e => ex_assign (e _ _ rfl)) rfl rfl ?_
  refine wl_nil ?_
  refine xw_next K1 ?_
  refine cw_seq (fun FK2 K2 => ?_)
  refine cw_seq (fun FK3 K3 => ?_)
  refine cw_region ?_
  refine wl_val (v := .slice A L0.length cl) (fun ρ e => ex_move (e _ _ rfl)) rfl rfl ?_
  by_cases c4 : (ordB L0) = true
  · skip
    have hlp := (ordB_iff.1 c4).1
    have hl128 := range_few (ordB_iff.1 c4).2
    obtain ⟨bl, ol, c', hv0⟩ := hI.form hlp
    injection hv0 with hA _ hc
    subst hA hc
    have hcl : L0.length ≤ cl := hI.cap
    have O5 := O0.oldro (D := D) (p := (fun w => IntsD D w (.slice (some ⟨bl, ol, none⟩) L0.length cl) L0)) (inE_holds hI hD)
    refine wl_call (args := [.slice (some ⟨bl, ol, none⟩) L0.length cl]) in_77 rfl rfl rfl ?_
    refine (rorderb_ (hI.move (fun k hk => (O5.old).block k (hD k hk))) (fun k hk => Nat.lt_of_lt_of_le (hD k hk) (O5.old).size) (by omega) (show ordB L0 = true from c4)).mono ?_
    rintro _ w6 ⟨rfl, hb7⟩
    have O8 : Own Z0 W w6 [.ro D (fun w => IntsD D w (.slice (some ⟨bl, ol, none⟩) L0.length cl) L0)] := O5.below hb7
    refine ⟨_, rfl, ?_⟩
    refine wl_val (v := .bool false) (fun ρ e => ex_lnot (b := true) (e _ _ rfl)) rfl rfl ?_
    refine wl_nil ?_
    refine xw_next K3 ?_
    refine cw_false rfl ?_
    refine cw_skip ?_
    refine xw_next K2 ?_
    refine cw_seq (fun FK9 K9 => ?_)
    refine cw_region ?_
    refine wl_val (v := .slice (some ⟨bl, ol, none⟩) L0.length cl) (fun ρ e => ex_move (e _ _ rfl)) rfl rfl ?_
    refine wl_val (v := .int .i64 3) (fun ρ e => ex_move (e _ _ rfl)) rfl rfl ?_
    refine wl_call (args := [.slice (some ⟨bl, ol, none⟩) L0.length cl, .int .i64 3, .slice none 0 0]) in_78 rfl rfl rfl ?_
    have O10 : Own Z0 W w6 [.row (.slice none 0 0) 38 3 0 (ncells []), .ro D (fun w => IntsD D w (.slice (some ⟨bl, ol, none⟩) L0.length cl) L0)] := O8.nilrow 38 3
    have O15h := Own.hand (A := [.row (.slice none 0 0) 38 3 0 (ncells []), .ro D (fun w => IntsD D w (.slice (some ⟨bl, ol, none⟩) L0.length cl) L0)]) (R := []) O10
    have hwh : (L0.drop 0).take L0.length = L0 := by rw [List.drop_zero, List.take_length]
    have hpt := rgrow3 (by omega) L0.length 0 L0.length cl (by omega) (by omega) (by omega) hcl _ _ _ _ _ _ [] O15h (by omega)
    rw [hwh] at hpt
    refine hpt.mono ?_
    rintro _ w13 ⟨A11, c12, rfl, h14⟩
    have O15 : Own Z0 W w13 [.row (.slice A11 (0 + Tr.size (mkT (gOf 3) L0.length L0)) c12) 38 3 (0 + Tr.size (mkT (gOf 3) L0.length L0)) (ncells ([] ++ post (mkT (gOf 3) L0.length L0) 0)), .ro D (fun w => IntsD D w (.slice (some ⟨bl, ol, none⟩) L0.length cl) L0)] := Own.frame (A := [.row (.slice none 0 0) 38 3 0 (ncells []), .ro D (fun w => IntsD D w (.slice (some ⟨bl, ol, none⟩) L0.length cl) L0)]) (R := []) O10 h14
    refine ⟨_, rfl, ?_⟩
    refine wl_val (v := .slice A11 (0 + Tr.size (mkT (gOf 3) L0.length L0)) c12) (fun ρ e => ex_assign (e _ _ rfl)) rfl rfl ?_
    refine wl_val (v := .int .i64 0) (fun ρ e => ex_assign (e _ _ rfl)) rfl rfl ?_
    refine wl_nil ?_
    refine xw_next K9 ?_
    refine cw_ret ?_
    refine xw_ret (v := .tuple #[.slice A11 (0 + Tr.size (mkT (gOf 3) L0.length L0)) c12, .int .i64 0]) (fun T hT => res2 rfl T _ (hT 4 _ rfl) (hT 5 _ rfl)) ?_
    have hm : makeOf 3 L0 = (post (mkT (gOf 3) L0.length L0) 0, 0) := by unfold makeOf; rw [c4]; rfl
    rw [hm]
    simp only [post_len]
    have hO := (O15.re [0] rfl : Own Z0 W w13 [.row (.slice A11 (0 + Tr.size (mkT (gOf 3) L0.length L0)) c12) 38 3 (0 + Tr.size (mkT (gOf 3) L0.length L0)) (ncells ([] ++ post (mkT (gOf 3) L0.length L0) 0))])
    rw [Nat.zero_add, List.nil_append] at hO
    exact ⟨A11, c12, by rw [Nat.zero_add], hO⟩
  · skip
    refine wl_call (args := [.slice A L0.length cl]) in_77 rfl rfl rfl ?_
    refine (rorderb_ (hI.move (fun k hk => (O0.old).block k (hD k hk))) (fun k hk => Nat.lt_of_lt_of_le (hD k hk) (O0.old).size) (by omega) (show ordB L0 = false from Bool.eq_false_iff.2 c4)).mono ?_
    rintro _ w16 ⟨rfl, hb17⟩
    have O18 : Own Z0 W w16 [] := O0.below hb17
    refine ⟨_, rfl, ?_⟩
    refine wl_val (v := .bool true) (fun ρ e => ex_lnot (b := false) (e _ _ rfl)) rfl rfl ?_
    refine wl_nil ?_
    refine xw_next K3 ?_
    refine cw_true rfl ?_
    refine cw_seq (fun FK19 K19 => ?_)
    refine cw_region ?_
    refine wl_val (v := .slice none 0 0) (fun ρ e => ex_assign (e _ _ rfl)) rfl rfl ?_
    refine wl_val (v := .int .i64 1) (fun ρ e => ex_assign (e _ _ rfl)) rfl rfl ?_
    refine wl_nil ?_
    refine xw_next K19 ?_
    refine cw_ret ?_
    refine xw_past (by intro h; cases h) ?_
    refine xw_ret (v := .tuple #[.slice none 0 0, .int .i64 1]) (fun T hT => res2 rfl T _ (hT 4 _ rfl) (hT 5 _ rfl)) ?_
    have hm : makeOf 3 L0 = ([], 1) := by unfold makeOf; rw [Bool.eq_false_iff.2 c4]; rfl
    rw [hm]
    have O20 := O18.nilrow 38 3
    exact ⟨none, 0, rfl, O20.re [0] rfl⟩
theorem rmake3 {W : World} {D : Nat → Prop} {V : Value} {L0 : List Int} (hI : IntsD D W V L0) (hD : ∀ k, D k → k < W.heap.size) (hsz : L0.length ≤ 1000000) :
    Calls Tryd.prog 29 #[V] W fun e w' => ∃ A' c', e = .returned (.tuple #[.slice A' (makeOf 3 L0).1.length c', .int .i64 (makeOf 3 L0).2]) ∧ Own Z0 W w' [.row (.slice A' (makeOf 3 L0).1.length c') 38 3 (makeOf 3 L0).1.length (ncells (makeOf 3 L0).1)] := by
  obtain ⟨A, cl, rfl⟩ := hI.slice
  have O0 : Own Z0 W W [] := Own.start W
  refine sx_enter (args := [.slice A L0.length cl]) Tryd.func29 rfl rfl (by simp) ?_
  refine cw_seq (fun FK1 K1 => ?_)
  refine cw_region ?_
  refine wl_val (v := .slice none 0 0) (fun ρ e => ex_assign (e _ _ rfl)) rfl rfl ?_
  refine wl_val (v := .int .i64 0) (fun ρ e => ex_assign (e _ _ rfl)) rfl rfl ?_
  refine wl_nil ?_
  refine xw_next K1 ?_
  refine cw_seq (fun FK2 K2 => ?_)
  refine cw_region ?_
  refine wl_val (v := .slice A L0.length cl) (fun ρ e => ex_move (e _ _ rfl)) rfl rfl ?_
  refine wl_call (args := [.slice A L0.length cl, .int .i64 3]) in_58 rfl rfl rfl ?_
  refine (rmade3 (hI.move (fun k hk => (O0.old).block k (hD k hk))) (fun k hk => Nat.lt_of_lt_of_le (hD k hk) (O0.old).size) hsz).mono ?_
  rintro _ w5 ⟨A3, c4, rfl, h6⟩
  have O7 := O0.join1 h6 trivial
  refine ⟨_, rfl, ?_⟩
  refine wl_val (v := .slice A3 ((makeOf 3 L0).1.length) c4) (fun ρ e => ex_extract (vs := #[.slice A3 ((makeOf 3 L0).1.length) c4, .int .i64 ((makeOf 3 L0).2)]) (e _ _ rfl) rfl) rfl rfl ?_
  refine wl_val (v := .int .i64 ((makeOf 3 L0).2)) (fun ρ e => ex_extract (vs := #[.slice A3 ((makeOf 3 L0).1.length) c4, .int .i64 ((makeOf 3 L0).2)]) (e _ _ rfl) rfl) rfl rfl ?_
  refine wl_val (v := .slice A3 ((makeOf 3 L0).1.length) c4) (fun ρ e => ex_assign (e _ _ rfl)) rfl rfl ?_
  refine wl_val (v := .int .i64 ((makeOf 3 L0).2)) (fun ρ e => ex_assign (e _ _ rfl)) rfl rfl ?_
  refine wl_nil ?_
  refine xw_next K2 ?_
  refine cw_ret ?_
  refine xw_ret (v := .tuple #[.slice A3 ((makeOf 3 L0).1.length) c4, .int .i64 ((makeOf 3 L0).2)]) (fun T hT => res2 rfl T _ (hT 2 _ rfl) (hT 3 _ rfl)) ?_
  exact ⟨A3, c4, rfl, O7⟩

end Go.Proofs.YtpeoodkepjhhiaaDoor
namespace Go.Proofs.YtpeoodkepjhhiaaDoor
open Go Go.RowKit
theorem vtreeMakes_ok {W : World} {D : Nat → Prop} {V : Value} {L0 : List Int} (hI : IntsD D W V L0) (hD : ∀ k, D k → k < W.heap.size) (tab : Tab W) : Calls Tryd.prog 6 #[V] W fun e w' => e = .returned (.bool true) ∧ Below W.heap.size W w' := by
  obtain ⟨A, cl, rfl⟩ := hI.slice
  have O0 : Own Z0 W W [] := Own.start W
  refine sx_enter (args := [.slice A L0.length cl]) Tryd.func6 rfl rfl (by simp) ?_
  refine cw_seq (fun FK1 K1 => ?_)
  refine cw_region ?_
  refine wl_val (v := .bool false) (fun ρ e => ex_assign (e _ _ rfl)) rfl rfl ?_
  refine wl_nil ?_
  refine xw_next K1 ?_
  refine cw_seq (fun FK2 K2 => ?_)
  refine cw_seq (fun FK3 K3 => ?_)
  refine cw_region ?_
  refine wl_val (v := .slice A L0.length cl) (fun ρ e => ex_move (e _ _ rfl)) rfl rfl ?_
  refine wl_val (v := .int .i64 ((L0.length : Nat) : Int)) (fun ρ e => ex_len el36 (e _ _ rfl)) rfl rfl ?_
  by_cases c4 : ((L0.length : Nat) : Int) > 300
  · skip
    refine wl_val (v := .bool true) (fun ρ e => ex_cmp (u := ((L0.length : Nat) : Int)) (v := 300) (e _ _ rfl) (e _ _ rfl) (gtr1 (by omega))) rfl rfl ?_
    refine wl_nil ?_
    refine xw_next K3 ?_
    refine cw_true rfl ?_
    refine cw_seq (fun FK5 K5 => ?_)
    refine cw_region ?_
    refine wl_call (args := []) in_14 rfl rfl rfl ?_
    refine (works_ (tab.below (Nat.le_refl _) O0.old)).mono ?_
    rintro _ w6 ⟨rfl, hb7⟩
    have O8 : Own Z0 W w6 [] := O0.below hb7
    refine ⟨_, rfl, ?_⟩
    refine wl_val (v := .bool true) (fun ρ e => ex_assign (e _ _ rfl)) rfl rfl ?_
    refine wl_nil ?_
    refine xw_next K5 ?_
    refine cw_ret ?_
    refine xw_past (by intro h; cases h) ?_
    refine xw_ret (v := .bool true) (fun T hT => res1 rfl T _ (hT 2 _ rfl)) ?_
    exact ⟨rfl, O8.old⟩
  · skip
    refine wl_val (v := .bool false) (fun ρ e => ex_cmp (u := ((L0.length : Nat) : Int)) (v := 300) (e _ _ rfl) (e _ _ rfl) (gtr0 (by omega))) rfl rfl ?_
    refine wl_nil ?_
    refine xw_next K3 ?_
    refine cw_false rfl ?_
    refine cw_skip ?_
    refine xw_next K2 ?_
    refine cw_seq (fun FK9 K9 => ?_)
    refine cw_region ?_
    refine wl_val (v := .slice A L0.length cl) (fun ρ e => ex_move (e _ _ rfl)) rfl rfl ?_
    refine wl_call (args := [.slice A L0.length cl]) in_24 rfl rfl rfl ?_
    refine (right_ (hI.move (fun k hk => (O0.old).block k (hD k hk))) (fun k hk => Nat.lt_of_lt_of_le (hD k hk) (O0.old).size) (by omega)).mono ?_
    rintro _ w12 ⟨A10, c11, rfl, h13⟩
    have O14 := O0.join1 h13 trivial
    refine ⟨_, rfl, ?_⟩
    refine wl_val (v := .tuple #[.slice A10 ((makeOf 1 L0).1.length) c11, .int .i64 ((makeOf 1 L0).2)]) (fun ρ e => ex_move (e _ _ rfl)) rfl rfl ?_
    refine wl_val (v := .slice A10 ((makeOf 1 L0).1.length) c11) (fun ρ e => ex_extract (vs := #[.slice A10 ((makeOf 1 L0).1.length) c11, .int .i64 ((makeOf 1 L0).2)]) (e _ _ rfl) rfl) rfl rfl ?_
    refine wl_val (v := .int .i64 ((makeOf 1 L0).2)) (fun ρ e => ex_extract (vs := #[.slice A10 ((makeOf 1 L0).1.length) c11, .int .i64 ((makeOf 1 L0).2)]) (e _ _ rfl) rfl) rfl rfl ?_
    refine wl_val (v := .slice A10 ((makeOf 1 L0).1.length) c11) (fun ρ e => ex_assign (e _ _ rfl)) rfl rfl ?_
    refine wl_val (v := .int .i64 ((makeOf 1 L0).2)) (fun ρ e => ex_assign (e _ _ rfl)) rfl rfl ?_
    refine wl_nil ?_
    refine xw_next K9 ?_
    refine cw_seq (fun FK15 K15 => ?_)
    refine cw_region ?_
    refine wl_val (v := .slice A L0.length cl) (fun ρ e => ex_move (e _ _ rfl)) rfl rfl ?_
    refine wl_call (args := [.slice A L0.length cl]) in_25 rfl rfl rfl ?_
    refine (left_ (hI.move (fun k hk => (O14.old).block k (hD k hk))) (fun k hk => Nat.lt_of_lt_of_le (hD k hk) (O14.old).size) (by omega)).mono ?_
    rintro _ w18 ⟨A16, c17, rfl, h19⟩
    have O20 := O14.join1 h19 trivial
    refine ⟨_, rfl, ?_⟩
    refine wl_val (v := .tuple #[.slice A16 ((makeOf 2 L0).1.length) c17, .int .i64 ((makeOf 2 L0).2)]) (fun ρ e => ex_move (e _ _ rfl)) rfl rfl ?_
    refine wl_val (v := .slice A16 ((makeOf 2 L0).1.length) c17) (fun ρ e => ex_extract (vs := #[.slice A16 ((makeOf 2 L0).1.length) c17, .int .i64 ((makeOf 2 L0).2)]) (e _ _ rfl) rfl) rfl rfl ?_
    refine wl_val (v := .int .i64 ((makeOf 2 L0).2)) (fun ρ e => ex_extract (vs := #[.slice A16 ((makeOf 2 L0).1.length) c17, .int .i64 ((makeOf 2 L0).2)]) (e _ _ rfl) rfl) rfl rfl ?_
    refine wl_val (v := .slice A16 ((makeOf 2 L0).1.length) c17) (fun ρ e => ex_assign (e _ _ rfl)) rfl rfl ?_
    refine wl_val (v := .int .i64 ((makeOf 2 L0).2)) (fun ρ e => ex_assign (e _ _ rfl)) rfl rfl ?_
    refine wl_nil ?_
    refine xw_next K15 ?_
    refine cw_seq (fun FK21 K21 => ?_)
    refine cw_region ?_
    refine wl_val (v := .slice A L0.length cl) (fun ρ e => ex_move (e _ _ rfl)) rfl rfl ?_
    refine wl_call (args := [.slice A L0.length cl]) in_26 rfl rfl rfl ?_
    refine (balanced_ (hI.move (fun k hk => (O20.old).block k (hD k hk))) (fun k hk => Nat.lt_of_lt_of_le (hD k hk) (O20.old).size) (by omega)).mono ?_
    rintro _ w24 ⟨A22, c23, rfl, h25⟩
    have O26 := O20.join1 h25 trivial
    refine ⟨_, rfl, ?_⟩
    refine wl_val (v := .tuple #[.slice A22 ((makeOf 3 L0).1.length) c23, .int .i64 ((makeOf 3 L0).2)]) (fun ρ e => ex_move (e _ _ rfl)) rfl rfl ?_
    refine wl_val (v := .slice A22 ((makeOf 3 L0).1.length) c23) (fun ρ e => ex_extract (vs := #[.slice A22 ((makeOf 3 L0).1.length) c23, .int .i64 ((makeOf 3 L0).2)]) (e _ _ rfl) rfl) rfl rfl ?_
    refine wl_val (v := .int .i64 ((makeOf 3 L0).2)) (fun ρ e => ex_extract (vs := #[.slice A22 ((makeOf 3 L0).1.length) c23, .int .i64 ((makeOf 3 L0).2)]) (e _ _ rfl) rfl) rfl rfl ?_
    refine wl_val (v := .slice A22 ((makeOf 3 L0).1.length) c23) (fun ρ e => ex_assign (e _ _ rfl)) rfl rfl ?_
    refine wl_val (v := .int .i64 ((makeOf 3 L0).2)) (fun ρ e => ex_assign (e _ _ rfl)) rfl rfl ?_
    refine wl_nil ?_
    refine xw_next K21 ?_
    refine cw_seq (fun FK27 K27 => ?_)
    refine cw_region ?_
    refine wl_val (v := .slice A L0.length cl) (fun ρ e => ex_move (e _ _ rfl)) rfl rfl ?_
    refine wl_call (args := [.slice A L0.length cl]) in_27 rfl rfl rfl ?_
    refine (rmake1 (hI.move (fun k hk => (O26.old).block k (hD k hk))) (fun k hk => Nat.lt_of_lt_of_le (hD k hk) (O26.old).size) (by omega)).mono ?_
    rintro _ w30 ⟨A28, c29, rfl, h31⟩
    have O32 := O26.join1 h31 trivial
    refine ⟨_, rfl, ?_⟩
    refine wl_val (v := .tuple #[.slice A28 ((makeOf 1 L0).1.length) c29, .int .i64 ((makeOf 1 L0).2)]) (fun ρ e => ex_move (e _ _ rfl)) rfl rfl ?_
    refine wl_val (v := .slice A28 ((makeOf 1 L0).1.length) c29) (fun ρ e => ex_extract (vs := #[.slice A28 ((makeOf 1 L0).1.length) c29, .int .i64 ((makeOf 1 L0).2)]) (e _ _ rfl) rfl) rfl rfl ?_
    refine wl_val (v := .int .i64 ((makeOf 1 L0).2)) (fun ρ e => ex_extract (vs := #[.slice A28 ((makeOf 1 L0).1.length) c29, .int .i64 ((makeOf 1 L0).2)]) (e _ _ rfl) rfl) rfl rfl ?_
    refine wl_val (v := .slice A28 ((makeOf 1 L0).1.length) c29) (fun ρ e => ex_assign (e _ _ rfl)) rfl rfl ?_
    refine wl_val (v := .int .i64 ((makeOf 1 L0).2)) (fun ρ e => ex_assign (e _ _ rfl)) rfl rfl ?_
    refine wl_nil ?_
    refine xw_next K27 ?_
    refine cw_seq (fun FK33 K33 => ?_)
    refine cw_region ?_
    refine wl_val (v := .slice A L0.length cl) (fun ρ e => ex_move (e _ _ rfl)) rfl rfl ?_
    refine wl_call (args := [.slice A L0.length cl]) in_28 rfl rfl rfl ?_
    refine (rmake2 (hI.move (fun k hk => (O32.old).block k (hD k hk))) (fun k hk => Nat.lt_of_lt_of_le (hD k hk) (O32.old).size) (by omega)).mono ?_
    rintro _ w36 ⟨A34, c35, rfl, h37⟩
    have O38 := O32.join1 h37 trivial
    refine ⟨_, rfl, ?_⟩
    refine wl_val (v := .tuple #[.slice A34 ((makeOf 2 L0).1.length) c35, .int .i64 ((makeOf 2 L0).2)]) (fun ρ e => ex_move (e _ _ rfl)) rfl rfl ?_
    refine wl_val (v := .slice A34 ((makeOf 2 L0).1.length) c35) (fun ρ e => ex_extract (vs := #[.slice A34 ((makeOf 2 L0).1.length) c35, .int .i64 ((makeOf 2 L0).2)]) (e _ _ rfl) rfl) rfl rfl ?_
    refine wl_val (v := .int .i64 ((makeOf 2 L0).2)) (fun ρ e => ex_extract (vs := #[.slice A34 ((makeOf 2 L0).1.length) c35, .int .i64 ((makeOf 2 L0).2)]) (e _ _ rfl) rfl) rfl rfl ?_
    refine wl_val (v := .slice A34 ((makeOf 2 L0).1.length) c35) (fun ρ e => ex_assign (e _ _ rfl)) rfl rfl ?_
    refine wl_val (v := .int .i64 ((makeOf 2 L0).2)) (fun ρ e => ex_assign (e _ _ rfl)) rfl rfl ?_
    refine wl_nil ?_
    refine xw_next K33 ?_
    refine cw_seq (fun FK39 K39 => ?_)
    refine cw_region ?_
    refine wl_val (v := .slice A L0.length cl) (fun ρ e => ex_move (e _ _ rfl)) rfl rfl ?_
    refine wl_call (args := [.slice A L0.length cl]) in_29 rfl rfl rfl ?_
    refine (rmake3 (hI.move (fun k hk => (O38.old).block k (hD k hk))) (fun k hk => Nat.lt_of_lt_of_le (hD k hk) (O38.old).size) (by omega)).mono ?_
    rintro _ w42 ⟨A40, c41, rfl, h43⟩
    have O44 := O38.join1 h43 trivial
    refine ⟨_, rfl, ?_⟩
    refine wl_val (v := .tuple #[.slice A40 ((makeOf 3 L0).1.length) c41, .int .i64 ((makeOf 3 L0).2)]) (fun ρ e => ex_move (e _ _ rfl)) rfl rfl ?_
    refine wl_val (v := .slice A40 ((makeOf 3 L0).1.length) c41) (fun ρ e => ex_extract (vs := #[.slice A40 ((makeOf 3 L0).1.length) c41, .int .i64 ((makeOf 3 L0).2)]) (e _ _ rfl) rfl) rfl rfl ?_
    refine wl_val (v := .int .i64 ((makeOf 3 L0).2)) (fun ρ e => ex_extract (vs := #[.slice A40 ((makeOf 3 L0).1.length) c41, .int .i64 ((makeOf 3 L0).2)]) (e _ _ rfl) rfl) rfl rfl ?_
    refine wl_val (v := .slice A40 ((makeOf 3 L0).1.length) c41) (fun ρ e => ex_assign (e _ _ rfl)) rfl rfl ?_
    refine wl_val (v := .int .i64 ((makeOf 3 L0).2)) (fun ρ e => ex_assign (e _ _ rfl)) rfl rfl ?_
    refine wl_nil ?_
    refine xw_next K39 ?_
    refine cw_seq (fun FK45 K45 => ?_)
    refine cw_region ?_
    refine wl_val (v := .slice A10 ((makeOf 1 L0).1.length) c11) (fun ρ e => ex_move (e _ _ rfl)) rfl rfl ?_
    refine wl_val (v := .int .i64 ((makeOf 1 L0).2)) (fun ρ e => ex_move (e _ _ rfl)) rfl rfl ?_
    refine wl_val (v := .slice A28 ((makeOf 1 L0).1.length) c29) (fun ρ e => ex_move (e _ _ rfl)) rfl rfl ?_
    refine wl_val (v := .int .i64 ((makeOf 1 L0).2)) (fun ρ e => ex_move (e _ _ rfl)) rfl rfl ?_
    refine wl_call (args := [.slice A10 ((makeOf 1 L0).1.length) c11, .int .i64 ((makeOf 1 L0).2), .slice A28 ((makeOf 1 L0).1.length) c29, .int .i64 ((makeOf 1 L0).2)]) in_19 rfl rfl rfl ?_
    refine (equal_ (NodesD.of_row (O44.row 5 rfl)) (fun k hk => (World.ownsRow.lt (O44.row 5 rfl) k hk).2) (NodesD.of_row (O44.row 2 rfl)) (fun k hk => (World.ownsRow.lt (O44.row 2 rfl) k hk).2) ((makeOf 1 L0).2)).mono ?_
    rintro _ w46 ⟨rfl, hb47⟩
    have O48 : Own Z0 W w46 [.row (.slice A40 ((makeOf 3 L0).1.length) c41) 38 3 ((makeOf 3 L0).1.length) (ncells (makeOf 3 L0).1), .row (.slice A34 ((makeOf 2 L0).1.length) c35) 38 3 ((makeOf 2 L0).1.length) (ncells (makeOf 2 L0).1), .row (.slice A28 ((makeOf 1 L0).1.length) c29) 38 3 ((makeOf 1 L0).1.length) (ncells (makeOf 1 L0).1), .row (.slice A22 ((makeOf 3 L0).1.length) c23) 38 3 ((makeOf 3 L0).1.length) (ncells (makeOf 3 L0).1), .row (.slice A16 ((makeOf 2 L0).1.length) c17) 38 3 ((makeOf 2 L0).1.length) (ncells (makeOf 2 L0).1), .row (.slice A10 ((makeOf 1 L0).1.length) c11) 38 3 ((makeOf 1 L0).1.length) (ncells (makeOf 1 L0).1)] := O44.below hb47
    refine ⟨_, rfl, ?_⟩
    refine wl_val (v := .bool true) (fun ρ e => ex_move (e _ _ rfl)) rfl rfl ?_
    refine wl_val (v := .slice A16 ((makeOf 2 L0).1.length) c17) (fun ρ e => ex_move (e _ _ rfl)) rfl rfl ?_
    refine wl_val (v := .int .i64 ((makeOf 2 L0).2)) (fun ρ e => ex_move (e _ _ rfl)) rfl rfl ?_
    refine wl_val (v := .slice A34 ((makeOf 2 L0).1.length) c35) (fun ρ e => ex_move (e _ _ rfl)) rfl rfl ?_
    refine wl_val (v := .int .i64 ((makeOf 2 L0).2)) (fun ρ e => ex_move (e _ _ rfl)) rfl rfl ?_
    refine wl_call (args := [.slice A16 ((makeOf 2 L0).1.length) c17, .int .i64 ((makeOf 2 L0).2), .slice A34 ((makeOf 2 L0).1.length) c35, .int .i64 ((makeOf 2 L0).2)]) in_19 rfl rfl rfl ?_
    refine (equal_ (NodesD.of_row (O48.row 4 rfl)) (fun k hk => (World.ownsRow.lt (O48.row 4 rfl) k hk).2) (NodesD.of_row (O48.row 1 rfl)) (fun k hk => (World.ownsRow.lt (O48.row 1 rfl) k hk).2) ((makeOf 2 L0).2)).mono ?_
    rintro _ w49 ⟨rfl, hb50⟩
    have O51 : Own Z0 W w49 [.row (.slice A40 ((makeOf 3 L0).1.length) c41) 38 3 ((makeOf 3 L0).1.length) (ncells (makeOf 3 L0).1), .row (.slice A34 ((makeOf 2 L0).1.length) c35) 38 3 ((makeOf 2 L0).1.length) (ncells (makeOf 2 L0).1), .row (.slice A28 ((makeOf 1 L0).1.length) c29) 38 3 ((makeOf 1 L0).1.length) (ncells (makeOf 1 L0).1), .row (.slice A22 ((makeOf 3 L0).1.length) c23) 38 3 ((makeOf 3 L0).1.length) (ncells (makeOf 3 L0).1), .row (.slice A16 ((makeOf 2 L0).1.length) c17) 38 3 ((makeOf 2 L0).1.length) (ncells (makeOf 2 L0).1), .row (.slice A10 ((makeOf 1 L0).1.length) c11) 38 3 ((makeOf 1 L0).1.length) (ncells (makeOf 1 L0).1)] := O48.below hb50
    refine ⟨_, rfl, ?_⟩
    refine wl_val (v := .bool true) (fun ρ e => ex_pick1 (e _ _ rfl) (e _ _ rfl)) rfl rfl ?_
    refine wl_val (v := .bool true) (fun ρ e => ex_move (e _ _ rfl)) rfl rfl ?_
    refine wl_val (v := .slice A22 ((makeOf 3 L0).1.length) c23) (fun ρ e => ex_move (e _ _ rfl)) rfl rfl ?_
    refine wl_val (v := .int .i64 ((makeOf 3 L0).2)) (fun ρ e => ex_move (e _ _ rfl)) rfl rfl ?_
    refine wl_val (v := .slice A40 ((makeOf 3 L0).1.length) c41) (fun ρ e => ex_move (e _ _ rfl)) rfl rfl ?_
    refine wl_val (v := .int .i64 ((makeOf 3 L0).2)) (fun ρ e => ex_move (e _ _ rfl)) rfl rfl ?_
    refine wl_call (args := [.slice A22 ((makeOf 3 L0).1.length) c23, .int .i64 ((makeOf 3 L0).2), .slice A40 ((makeOf 3 L0).1.length) c41, .int .i64 ((makeOf 3 L0).2)]) in_19 rfl rfl rfl ?_
    refine (equal_ (NodesD.of_row (O51.row 3 rfl)) (fun k hk => (World.ownsRow.lt (O51.row 3 rfl) k hk).2) (NodesD.of_row (O51.row 0 rfl)) (fun k hk => (World.ownsRow.lt (O51.row 0 rfl) k hk).2) ((makeOf 3 L0).2)).mono ?_
    rintro _ w52 ⟨rfl, hb53⟩
    have O54 : Own Z0 W w52 [.row (.slice A40 ((makeOf 3 L0).1.length) c41) 38 3 ((makeOf 3 L0).1.length) (ncells (makeOf 3 L0).1), .row (.slice A34 ((makeOf 2 L0).1.length) c35) 38 3 ((makeOf 2 L0).1.length) (ncells (makeOf 2 L0).1), .row (.slice A28 ((makeOf 1 L0).1.length) c29) 38 3 ((makeOf 1 L0).1.length) (ncells (makeOf 1 L0).1), .row (.slice A22 ((makeOf 3 L0).1.length) c23) 38 3 ((makeOf 3 L0).1.length) (ncells (makeOf 3 L0).1), .row (.slice A16 ((makeOf 2 L0).1.length) c17) 38 3 ((makeOf 2 L0).1.length) (ncells (makeOf 2 L0).1), .row (.slice A10 ((makeOf 1 L0).1.length) c11) 38 3 ((makeOf 1 L0).1.length) (ncells (makeOf 1 L0).1)] := O51.below hb53
    refine ⟨_, rfl, ?_⟩
    refine wl_val (v := .bool true) (fun ρ e => ex_pick1 (e _ _ rfl) (e _ _ rfl)) rfl rfl ?_
    refine wl_val (v := .bool true) (fun ρ e => ex_move (e _ _ rfl)) rfl rfl ?_
    refine wl_call (args := []) in_14 rfl rfl rfl ?_
    refine (works_ (tab.below (Nat.le_refl _) O54.old)).mono ?_
    rintro _ w55 ⟨rfl, hb56⟩
    have O57 : Own Z0 W w55 [.row (.slice A40 ((makeOf 3 L0).1.length) c41) 38 3 ((makeOf 3 L0).1.length) (ncells (makeOf 3 L0).1), .row (.slice A34 ((makeOf 2 L0).1.length) c35) 38 3 ((makeOf 2 L0).1.length) (ncells (makeOf 2 L0).1), .row (.slice A28 ((makeOf 1 L0).1.length) c29) 38 3 ((makeOf 1 L0).1.length) (ncells (makeOf 1 L0).1), .row (.slice A22 ((makeOf 3 L0).1.length) c23) 38 3 ((makeOf 3 L0).1.length) (ncells (makeOf 3 L0).1), .row (.slice A16 ((makeOf 2 L0).1.length) c17) 38 3 ((makeOf 2 L0).1.length) (ncells (makeOf 2 L0).1), .row (.slice A10 ((makeOf 1 L0).1.length) c11) 38 3 ((makeOf 1 L0).1.length) (ncells (makeOf 1 L0).1)] := O54.below hb56
    refine ⟨_, rfl, ?_⟩
    refine wl_val (v := .bool true) (fun ρ e => ex_pick1 (e _ _ rfl) (e _ _ rfl)) rfl rfl ?_
    refine wl_val (v := .bool true) (fun ρ e => ex_assign (e _ _ rfl)) rfl rfl ?_
    refine wl_nil ?_
    refine xw_next K45 ?_
    refine cw_ret ?_
    refine xw_ret (v := .bool true) (fun T hT => res1 rfl T _ (hT 2 _ rfl)) ?_
    exact ⟨rfl, O57.old⟩
end Go.Proofs.YtpeoodkepjhhiaaDoor
