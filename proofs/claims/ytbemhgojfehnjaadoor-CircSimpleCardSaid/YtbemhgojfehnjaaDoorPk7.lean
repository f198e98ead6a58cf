/-
  Lemmas and contracts, joined: Csame WorksQ Ops5 Crsame WSets4 WSets5 Sem0.
-/
import Derived.Test.YtbemhgojfehnjaaDoorPk6
import Derived.Test.YtbemhgojfehnjaaDoorPk1
namespace Go.Proofs.YtbemhgojfehnjaaDoor
open Go Go.RowKit
theorem take_snoc {α : Type} {xs ys : List α} {k : Nat} {x : α} (h : xs.take k = ys.take k) (hx : xs[k]? = some x) (hy : ys[k]? = some x) : xs.take (k + 1) = ys.take (k + 1) := by
  rw [List.take_add_one, List.take_add_one, h, hx, hy]
theorem equal_ {W : World} {V1 V2 : Value} {xs ys : List Int} (hV1 : IntsV W W.heap.size V1 xs) (hV2 : IntsV W W.heap.size V2 ys) (hn : xs.length ≤ 1000000000) (hn2 : ys.length ≤ 1000000000) : Calls Tryd.prog 46 #[V1, V2] W fun e w' => e = .returned (.bool (decide (xs = ys))) ∧ Below W.heap.size W w' := by
  obtain ⟨A1, c1, rfl, _, _, _⟩ := id hV1
  obtain ⟨A2, c2, rfl, _, _, _⟩ := id hV2
  have O0 : Own Z0 W W [] := Own.start W
  refine sx_enter (args := [.slice A1 xs.length c1, .slice A2 ys.length c2]) Tryd.func46 rfl rfl (by simp) ?_
  refine cw_seq (fun FK1 K1 => ?_)
  refine cw_region ?_
  refine wl_val (v := .bool false) (fun ρ e => ex_assign (e _ _ rfl)) rfl rfl ?_
  refine wl_nil ?_
  refine xw_next K1 ?_
  refine cw_seq (fun FK2 K2 => ?_)
  refine cw_seq (fun FK3 K3 => ?_)
  refine cw_region ?_
  refine wl_val (v := .slice A1 xs.length c1) (fun ρ e => ex_move (e _ _ rfl)) rfl rfl ?_
  refine wl_val (v := .int .i64 ((xs.length : Nat) : Int)) (fun ρ e => ex_len el36 (e _ _ rfl)) rfl rfl ?_
  refine wl_val (v := .slice A2 ys.length c2) (fun ρ e => ex_move (e _ _ rfl)) rfl rfl ?_
  refine wl_val (v := .int .i64 ((ys.length : Nat) : Int)) (fun ρ e => ex_len el36 (e _ _ rfl)) rfl rfl ?_
  by_cases c4 : ((xs.length : Nat) : Int) ≠ ((ys.length : Nat) : Int)
  · skip
    refine wl_val (v := .bool true) (fun ρ e => ex_cmp (u := ((xs.length : Nat) : Int)) (v := ((ys.length : Nat) : Int)) (e _ _ rfl) (e _ _ rfl) (neq1 (by omega))) rfl rfl ?_
    refine wl_nil ?_
    refine xw_next K3 ?_
    refine cw_true rfl ?_
    refine cw_seq (fun FK5 K5 => ?_)
    refine cw_region ?_
    refine wl_val (v := .bool false) (fun ρ e => ex_assign (e _ _ rfl)) rfl rfl ?_
    refine wl_nil ?_
    refine xw_next K5 ?_
    refine cw_ret ?_
    refine xw_past (by intro h; cases h) ?_
    refine xw_ret (v := .bool false) (fun T hT => res1 rfl T _ (hT 4 _ rfl)) ?_
    exact ⟨by rw [decide_eq_false (fun e => c4 (by rw [e]))], O0.old⟩
  · skip
    have hlen : xs.length = ys.length := by omega
    refine wl_val (v := .bool false) (fun ρ e => ex_cmp (u := ((xs.length : Nat) : Int)) (v := ((ys.length : Nat) : Int)) (e _ _ rfl) (e _ _ rfl) (neq0 (by omega))) rfl rfl ?_
    refine wl_nil ?_
    refine xw_next K3 ?_
    refine cw_false rfl ?_
    refine cw_skip ?_
    refine xw_next K2 ?_
    refine cw_seq (fun FK6 K6 => ?_)
    refine cw_seq (fun FK7 K7 => ?_)
    refine cw_region ?_
    refine wl_val (v := .slice A1 xs.length c1) (fun ρ e => ex_move (e _ _ rfl)) rfl rfl ?_
    refine wl_val (v := .int .i64 ((xs.length : Nat) : Int)) (fun ρ e => ex_len el36 (e _ _ rfl)) rfl rfl ?_
    refine wl_val (v := .int .i64 0) (fun ρ e => ex_move (e _ _ rfl)) rfl rfl ?_
    refine wl_nil ?_
    refine xw_next K7 ?_
    refine cw_block ?_
    refine cw_loop (ι := Nat) (fun q => [(0, .slice A1 xs.length c1), (1, .slice A2 ys.length c2), (4, .bool false), (11, .slice A1 xs.length c1), (12, .int .i64 ((xs.length : Nat) : Int)), (13, .int .i64 (q : Int))]) (fun q X => (q ≤ xs.length) ∧ (xs.take q = ys.take q) ∧ Own Z0 W X []) (fun q => xs.length - q) 0 ⟨Nat.zero_le _, rfl, O0⟩ ⟨rfl, rfl, rfl, rfl, rfl, rfl, trivial⟩ (fun q w8 hJ F9 K10 => ?_)
    obtain ⟨k, rfl⟩ : ∃ x, x = q := ⟨_, rfl⟩
    obtain ⟨hk0, hp, O11⟩ := hJ
    try dsimp only at hk0 hp O11 ⊢
    by_cases hk : k < xs.length
    · obtain ⟨x, hxk, hdx, _⟩ := drop_cons hk
      obtain ⟨y, hyk, hdy, _⟩ := drop_cons (show k < ys.length by omega)
      obtain ⟨b1, o1, d1, hb1⟩ := (IntsD.of_V hV1).form (by omega)
      obtain ⟨b2, o2, d2, hb2⟩ := (IntsD.of_V hV2).form (by omega)
      refine cw_seq (fun FK12 K12 => ?_)
      refine cw_region ?_
      refine wl_val (v := .bool true) (fun ρ e => ex_cmp (u := (k : Int)) (v := ((xs.length : Nat) : Int)) (e _ _ rfl) (e _ _ rfl) (lss1 (by omega))) rfl rfl ?_
      refine wl_nil ?_
      refine xw_next K12 ?_
      refine cw_seq (fun FK13 K13 => ?_)
      refine cw_true rfl ?_
      refine cw_skip ?_
      refine xw_next K13 ?_
      refine cw_seq (fun FK14 K14 => ?_)
      refine cw_block ?_
      refine cw_seq (fun FK15 K15 => ?_)
      refine cw_region ?_
      refine wl_val (v := .int .i64 (k : Int)) (fun ρ e => ex_move (e _ _ rfl)) rfl rfl ?_
      refine wl_val (v := .int .i64 (k : Int)) (fun ρ e => ex_assign (e _ _ rfl)) rfl rfl ?_
      refine wl_nil ?_
      refine xw_next K15 ?_
      refine cw_seq (fun FK16 K16 => ?_)
      refine cw_drawn (fun X => Own Z0 W X []) 9 [(0, 1), (1, 1), (2, 1), (3, 0), (4, 1), (5, 1), (6, 1), (7, 0), (8, 1)] (by kernel_rfl) (by kernel_rfl) (PQ.then_ (PQ.block (PQ.then_ (PQ.then_ (PQ.block (PQ.then_ PQ.body)))))) (O11).drew ?_
      have O17 : Own Z0 W w8.drew [] := O11.drew
      refine wt1 (v := .slice A1 xs.length c1) rfl (fun ρ e W => ex_move (e _ _ rfl)) rfl rfl ?_
      refine wt1 (v := .int .i64 (k : Int)) rfl (fun ρ e W => ex_move (e _ _ rfl)) rfl rfl ?_
      refine wt1 (v := .pointer (some ⟨b1, o1 + k, none⟩)) rfl (fun ρ e W => ex_idx (q := o1 + k) (o := o1) (i := k) el36 ((e _ _ rfl).trans hb1) (e _ _ rfl) (by omega) (by omega)) rfl rfl ?_
      refine wt0 (v := .int .i64 x) rfl (fun ρ e W hW => ex_load1 ty3 (e _ _ rfl) (((hV1.below hW.old).at1 hb1 (by omega) hxk))) rfl rfl ?_
      refine wt1 (v := .slice A2 ys.length c2) rfl (fun ρ e W => ex_move (e _ _ rfl)) rfl rfl ?_
      refine wt1 (v := .int .i64 (k : Int)) rfl (fun ρ e W => ex_move (e _ _ rfl)) rfl rfl ?_
      refine wt1 (v := .pointer (some ⟨b2, o2 + k, none⟩)) rfl (fun ρ e W => ex_idx (q := o2 + k) (o := o2) (i := k) el36 ((e _ _ rfl).trans hb2) (e _ _ rfl) (by omega) (by omega)) rfl rfl ?_
      refine wt0 (v := .int .i64 y) rfl (fun ρ e W hW => ex_load1 ty3 (e _ _ rfl) (((hV2.below hW.old).at1 hb2 (by omega) hyk))) rfl rfl ?_
      by_cases c18 : x ≠ y
      · skip
        refine wt1 (v := .bool true) rfl (fun ρ e W => ex_cmp (u := x) (v := y) (e _ _ rfl) (e _ _ rfl) (neq1 (by omega))) rfl rfl ?_
        refine wt_nil ?_
        refine xw_next K16 ?_
        refine cw_true rfl ?_
        refine cw_seq (fun FK19 K19 => ?_)
        refine cw_region ?_
        refine wl_val (v := .bool false) (fun ρ e => ex_assign (e _ _ rfl)) rfl rfl ?_
        refine wl_nil ?_
        refine xw_next K19 ?_
        refine cw_ret ?_
        refine xw_blockret ?_
        refine xw_past (by intro h; cases h) ?_
        refine xw_past (by intro h; cases h) ?_
        refine xw_blockret ?_
        refine xw_past (by intro h; cases h) ?_
        refine xw_ret (v := .bool false) (fun T hT => res1 rfl T _ (hT 4 _ rfl)) ?_
        exact ⟨by rw [decide_eq_false (fun e => c18 (by subst e; rw [hxk] at hyk; exact Option.some.inj hyk))], O17.old⟩
      · skip
        have c18e : y = x := by omega
        refine wt1 (v := .bool false) rfl (fun ρ e W => ex_cmp (u := x) (v := y) (e _ _ rfl) (e _ _ rfl) (neq0 (by omega))) rfl rfl ?_
        refine wt_nil ?_
        refine xw_next K16 ?_
        refine cw_false rfl ?_
        refine cw_skip ?_
        refine xw_block ?_
        refine xw_next K14 ?_
        refine cw_region ?_
        refine wl_val (v := .int .i64 ((k + 1 : Nat) : Int)) (fun ρ e => ex_arith (k := .i64) (u := (k : Int)) (v := 1) (e _ _ rfl) (e _ _ rfl) (congrArg some ((congrArg _ (by omega)).trans (wrap_in (u := ((k + 1 : Nat) : Int)) (by omega) (by omega))))) rfl rfl ?_
        refine wl_val (v := .int .i64 ((k + 1 : Nat) : Int)) (fun ρ e => ex_move (e _ _ rfl)) rfl rfl ?_
        refine wl_nil ?_
        refine xw_round K10 (k + 1) (by show xs.length - (k + 1) < xs.length - k; omega) ⟨(by show k + 1 ≤ _; omega), (take_snoc hp hxk (c18e ▸ hyk)), O17⟩ ⟨rfl, rfl, rfl, rfl, rfl, rfl, trivial⟩
    · have hke : k = xs.length := by omega
      refine cw_seq (fun FK20 K20 => ?_)
      refine cw_region ?_
      refine wl_val (v := .bool false) (fun ρ e => ex_cmp (u := (k : Int)) (v := ((xs.length : Nat) : Int)) (e _ _ rfl) (e _ _ rfl) (lss0 (by omega))) rfl rfl ?_
      refine wl_nil ?_
      refine xw_next K20 ?_
      refine cw_seq (fun FK21 K21 => ?_)
      refine cw_false rfl ?_
      refine cw_exit ?_
      refine xw_past (by intro h; cases h) ?_
      refine xw_past (by intro h; cases h) ?_
      refine xw_here ?_
      refine xw_next K6 ?_
      refine cw_seq (fun FK22 K22 => ?_)
      refine cw_region ?_
      refine wl_val (v := .bool true) (fun ρ e => ex_assign (e _ _ rfl)) rfl rfl ?_
      refine wl_nil ?_
      refine xw_next K22 ?_
      refine cw_ret ?_
      refine xw_ret (v := .bool true) (fun T hT => res1 rfl T _ (hT 4 _ rfl)) ?_
      exact ⟨by rw [decide_eq_true (by rw [hke, List.take_length] at hp; rw [hp, show xs.length = ys.length by omega, List.take_length])], O11.old⟩
theorem gate_dec {g h : Gate} (h1 : g.kind = h.kind) (h2 : g.lit = h.lit) : decide (g = h) = decide (g.inp = h.inp) := by
  cases g; cases h
  simp only at h1 h2
  subst h1 h2
  simp
theorem same1_ {W : World} {V1 V2 : Value} {g h : Gate} (hV1 : IntsV W W.heap.size V1 g.inp) (hV2 : IntsV W W.heap.size V2 h.inp) (hn : g.inp.length ≤ 1000000000) (hn2 : h.inp.length ≤ 1000000000) : Calls Tryd.prog 45 #[.agg #[.int .i64 g.kind, .int .i64 g.lit, V1], .agg #[.int .i64 h.kind, .int .i64 h.lit, V2]] W fun e w' => e = .returned (.bool (decide (g = h))) ∧ Below W.heap.size W w' := by
  have O0 : Own Z0 W W [] := Own.start W
  refine sx_enter (args := [.agg #[.int .i64 g.kind, .int .i64 g.lit, V1], .agg #[.int .i64 h.kind, .int .i64 h.lit, V2]]) Tryd.func45 rfl rfl (by simp) ?_
  refine cw_seq (fun FK1 K1 => ?_)
  refine cw_region ?_
  obtain ⟨g2, w3, r4, O5, hg6, hs7⟩ := own_box O0 38 (.agg #[.int .i64 g.kind, .int .i64 g.lit, V1]) rfl
  refine wl_val (v := .pointer (some ⟨g2, 0, none⟩)) (fun ρ e => r4 ρ _ _ _ _ _ _ (e _ _ rfl)) rfl rfl ?_
  obtain ⟨g8, w9, r10, O11, hg12, hs13⟩ := own_box O5 38 (.agg #[.int .i64 h.kind, .int .i64 h.lit, V2]) rfl
  refine wl_val (v := .pointer (some ⟨g8, 0, none⟩)) (fun ρ e => r10 ρ _ _ _ _ _ _ (e _ _ rfl)) rfl rfl ?_
  refine wl_val (v := .bool false) (fun ρ e => ex_assign (e _ _ rfl)) rfl rfl ?_
  refine wl_nil ?_
  refine xw_next K1 ?_
  refine cw_seq (fun FK14 K14 => ?_)
  refine cw_region ?_
  refine wl_val (v := .pointer (some ⟨g2, 0, none⟩)) (fun ρ e => ex_field (q := 0) fi38_0 (e _ _ rfl) rfl) rfl rfl ?_
  refine wl_val (v := .int .i64 g.kind) (fun ρ e => ex_load1 ty3 (e _ _ rfl) (O11.cell 1 0 rfl rfl)) rfl rfl ?_
  refine wl_val (v := .pointer (some ⟨g8, 0, none⟩)) (fun ρ e => ex_field (q := 0) fi38_0 (e _ _ rfl) rfl) rfl rfl ?_
  refine wl_val (v := .int .i64 h.kind) (fun ρ e => ex_load1 ty3 (e _ _ rfl) (O11.cell 0 0 rfl rfl)) rfl rfl ?_
  by_cases c15 : g.kind = h.kind
  · skip
    refine wl_val (v := .bool true) (fun ρ e => ex_cmp (u := g.kind) (v := h.kind) (e _ _ rfl) (e _ _ rfl) (eql1 (by omega))) rfl rfl ?_
    refine wl_val (v := .bool true) (fun ρ e => ex_move (e _ _ rfl)) rfl rfl ?_
    refine wl_val (v := .pointer (some ⟨g2, 1, none⟩)) (fun ρ e => ex_field (q := 1) fi38_1 (e _ _ rfl) rfl) rfl rfl ?_
    refine wl_val (v := .int .i64 g.lit) (fun ρ e => ex_load1 ty3 (e _ _ rfl) (O11.cell 1 1 rfl rfl)) rfl rfl ?_
    refine wl_val (v := .pointer (some ⟨g8, 1, none⟩)) (fun ρ e => ex_field (q := 1) fi38_1 (e _ _ rfl) rfl) rfl rfl ?_
    refine wl_val (v := .int .i64 h.lit) (fun ρ e => ex_load1 ty3 (e _ _ rfl) (O11.cell 0 1 rfl rfl)) rfl rfl ?_
    by_cases c16 : g.lit = h.lit
    · skip
      refine wl_val (v := .bool true) (fun ρ e => ex_cmp (u := g.lit) (v := h.lit) (e _ _ rfl) (e _ _ rfl) (eql1 (by omega))) rfl rfl ?_
      refine wl_val (v := .bool true) (fun ρ e => ex_pick1 (e _ _ rfl) (e _ _ rfl)) rfl rfl ?_
      refine wl_val (v := .bool true) (fun ρ e => ex_move (e _ _ rfl)) rfl rfl ?_
      refine wl_val (v := .pointer (some ⟨g2, 2, none⟩)) (fun ρ e => ex_field (q := 2) fi38_2 (e _ _ rfl) rfl) rfl rfl ?_
      refine wl_val (v := V1) (fun ρ e => ex_load1 ty36 (e _ _ rfl) (O11.cell 1 2 rfl rfl)) rfl rfl ?_
      refine wl_val (v := .pointer (some ⟨g8, 2, none⟩)) (fun ρ e => ex_field (q := 2) fi38_2 (e _ _ rfl) rfl) rfl rfl ?_
      refine wl_val (v := V2) (fun ρ e => ex_load1 ty36 (e _ _ rfl) (O11.cell 0 2 rfl rfl)) rfl rfl ?_
      refine wl_call (args := [V1, V2]) in_46 rfl rfl rfl ?_
      refine (equal_ ((hV1.below O11.old).more O11.old.size) ((hV2.below O11.old).more O11.old.size) hn hn2).mono ?_
      rintro _ w17 ⟨rfl, hb18⟩
      have O19 : Own Z0 W w17 [.blk g8 38 #[.int .i64 h.kind, .int .i64 h.lit, V2], .blk g2 38 #[.int .i64 g.kind, .int .i64 g.lit, V1]] := O11.below hb18
      refine ⟨_, rfl, ?_⟩
      refine wl_val (v := .bool (decide (g.inp = h.inp))) (fun ρ e => ex_pick1 (e _ _ rfl) (e _ _ rfl)) rfl rfl ?_
      refine wl_val (v := .bool (decide (g.inp = h.inp))) (fun ρ e => ex_assign (e _ _ rfl)) rfl rfl ?_
      refine wl_nil ?_
      refine xw_next K14 ?_
      refine cw_ret ?_
      refine xw_ret (v := .bool (decide (g.inp = h.inp))) (fun T hT => res1 rfl T _ (hT 4 _ rfl)) ?_
      exact ⟨by rw [gate_dec c15 c16], O19.old⟩
    · skip
      refine wl_val (v := .bool false) (fun ρ e => ex_cmp (u := g.lit) (v := h.lit) (e _ _ rfl) (e _ _ rfl) (eql0 (by omega))) rfl rfl ?_
      refine wl_val (v := .bool false) (fun ρ e => ex_pick1 (e _ _ rfl) (e _ _ rfl)) rfl rfl ?_
      refine wl_val (v := .bool false) (fun ρ e => ex_move (e _ _ rfl)) rfl rfl ?_
      refine wl_skip rfl rfl ?_
      refine wl_skip rfl rfl ?_
      refine wl_skip rfl rfl ?_
      refine wl_skip rfl rfl ?_
      refine wl_skip rfl rfl ?_
      refine wl_val (v := .bool false) (fun ρ e => ex_pick0 (e _ _ rfl) (e _ _ rfl)) rfl rfl ?_
      refine wl_val (v := .bool false) (fun ρ e => ex_assign (e _ _ rfl)) rfl rfl ?_
      refine wl_nil ?_
      refine xw_next K14 ?_
      refine cw_ret ?_
      refine xw_ret (v := .bool false) (fun T hT => res1 rfl T _ (hT 4 _ rfl)) ?_
      exact ⟨by rw [decide_eq_false (fun e => c16 (by rw [e]))], O11.old⟩
  · skip
    refine wl_val (v := .bool false) (fun ρ e => ex_cmp (u := g.kind) (v := h.kind) (e _ _ rfl) (e _ _ rfl) (eql0 (by omega))) rfl rfl ?_
    refine wl_val (v := .bool false) (fun ρ e => ex_move (e _ _ rfl)) rfl rfl ?_
    refine wl_skip rfl rfl ?_
    refine wl_skip rfl rfl ?_
    refine wl_skip rfl rfl ?_
    refine wl_skip rfl rfl ?_
    refine wl_skip rfl rfl ?_
    refine wl_val (v := .bool false) (fun ρ e => ex_pick0 (e _ _ rfl) (e _ _ rfl)) rfl rfl ?_
    refine wl_val (v := .bool false) (fun ρ e => ex_move (e _ _ rfl)) rfl rfl ?_
    refine wl_skip rfl rfl ?_
    refine wl_skip rfl rfl ?_
    refine wl_skip rfl rfl ?_
    refine wl_skip rfl rfl ?_
    refine wl_skip rfl rfl ?_
    refine wl_val (v := .bool false) (fun ρ e => ex_pick0 (e _ _ rfl) (e _ _ rfl)) rfl rfl ?_
    refine wl_val (v := .bool false) (fun ρ e => ex_assign (e _ _ rfl)) rfl rfl ?_
    refine wl_nil ?_
    refine xw_next K14 ?_
    refine cw_ret ?_
    refine xw_ret (v := .bool false) (fun T hT => res1 rfl T _ (hT 4 _ rfl)) ?_
    exact ⟨by rw [decide_eq_false (fun e => c15 (by rw [e]))], O11.old⟩
def shortG (gs : List Gate) : Prop := ∀ g ∈ gs, g.inp.length ≤ 1000000000
theorem equalFunc_ {W : World} {V1 V2 : Value} {gs hs : List Gate} (hV1 : GatesV W W.heap.size V1 gs) (hV2 : GatesV W W.heap.size V2 hs) (hn : shortG gs) (hn2 : shortG hs) (hl : gs.length ≤ 1000000000) (hl2 : hs.length ≤ 1000000000) : Calls Tryd.prog 44 #[V1, V2, .func (.func 45) #[] #[]] W fun e w' => e = .returned (.bool (decide (gs = hs))) ∧ Below W.heap.size W w' := by
  obtain ⟨A1, c1, rfl, _, hm1, _⟩ := id hV1
  obtain ⟨A2, c2, rfl, _, hm2, _⟩ := id hV2
  have hm3 : maxLen = 9223372036854775807 := rfl
  have O0 : Own Z0 W W [] := Own.start W
  refine sx_enter (args := [.slice A1 gs.length c1, .slice A2 hs.length c2, .func (.func 45) #[] #[]]) Tryd.func44 rfl rfl (by simp) ?_
  refine cw_seq (fun FK1 K1 => ?_)
  refine cw_region ?_
  refine wl_val (v := .bool false) (fun ρ e => ex_assign (e _ _ rfl)) rfl rfl ?_
  refine wl_nil ?_
  refine xw_next K1 ?_
  refine cw_seq (fun FK2 K2 => ?_)
  refine cw_seq (fun FK3 K3 => ?_)
  refine cw_region ?_
  refine wl_val (v := .slice A1 gs.length c1) (fun ρ e => ex_move (e _ _ rfl)) rfl rfl ?_
  refine wl_val (v := .int .i64 ((gs.length : Nat) : Int)) (fun ρ e => ex_len el22 (e _ _ rfl)) rfl rfl ?_
  refine wl_val (v := .slice A2 hs.length c2) (fun ρ e => ex_move (e _ _ rfl)) rfl rfl ?_
  refine wl_val (v := .int .i64 ((hs.length : Nat) : Int)) (fun ρ e => ex_len el22 (e _ _ rfl)) rfl rfl ?_
  by_cases c4 : ((gs.length : Nat) : Int) ≠ ((hs.length : Nat) : Int)
  · skip
    refine wl_val (v := .bool true) (fun ρ e => ex_cmp (u := ((gs.length : Nat) : Int)) (v := ((hs.length : Nat) : Int)) (e _ _ rfl) (e _ _ rfl) (neq1 (by omega))) rfl rfl ?_
    refine wl_nil ?_
    refine xw_next K3 ?_
    refine cw_true rfl ?_
    refine cw_seq (fun FK5 K5 => ?_)
    refine cw_region ?_
    refine wl_val (v := .bool false) (fun ρ e => ex_assign (e _ _ rfl)) rfl rfl ?_
    refine wl_nil ?_
    refine xw_next K5 ?_
    refine cw_ret ?_
    refine xw_past (by intro h; cases h) ?_
    refine xw_ret (v := .bool false) (fun T hT => res1 rfl T _ (hT 6 _ rfl)) ?_
    exact ⟨by rw [decide_eq_false (fun e => c4 (by rw [e]))], O0.old⟩
  · skip
    have hlen : gs.length = hs.length := by omega
    refine wl_val (v := .bool false) (fun ρ e => ex_cmp (u := ((gs.length : Nat) : Int)) (v := ((hs.length : Nat) : Int)) (e _ _ rfl) (e _ _ rfl) (neq0 (by omega))) rfl rfl ?_
    refine wl_nil ?_
    refine xw_next K3 ?_
    refine cw_false rfl ?_
    refine cw_skip ?_
    refine xw_next K2 ?_
    refine cw_seq (fun FK6 K6 => ?_)
    refine cw_seq (fun FK7 K7 => ?_)
    refine cw_region ?_
    refine wl_val (v := .slice A1 gs.length c1) (fun ρ e => ex_move (e _ _ rfl)) rfl rfl ?_
    refine wl_val (v := .int .i64 ((gs.length : Nat) : Int)) (fun ρ e => ex_len el22 (e _ _ rfl)) rfl rfl ?_
    refine wl_val (v := .int .i64 0) (fun ρ e => ex_move (e _ _ rfl)) rfl rfl ?_
    refine wl_nil ?_
    refine xw_next K7 ?_
    refine cw_block ?_
    refine cw_loop (ι := Nat) (fun q => [(1, .slice A2 hs.length c2), (2, .func (.func 45) #[] #[]), (6, .bool false), (15, .slice A1 gs.length c1), (16, .int .i64 ((gs.length : Nat) : Int)), (17, .int .i64 (q : Int))]) (fun q X => (q ≤ gs.length) ∧ (gs.take q = hs.take q) ∧ Own Z0 W X []) (fun q => gs.length - q) 0 ⟨Nat.zero_le _, rfl, O0⟩ ⟨rfl, rfl, rfl, rfl, rfl, rfl, trivial⟩ (fun q w8 hJ F9 K10 => ?_)
    obtain ⟨k, rfl⟩ : ∃ x, x = q := ⟨_, rfl⟩
    obtain ⟨hk0, hp, O11⟩ := hJ
    try dsimp only at hk0 hp O11 ⊢
    by_cases hk : k < gs.length
    · have hk2 : k < hs.length := by omega
      obtain ⟨b1, o1, I1, e1, hA1, hB1, p10, p11, p12, hI1, _, _⟩ := hV1.at_ (Below.refl _ _) (show k < gs.length by omega)
      obtain ⟨b2, o2, I2, e2, hA2, hB2, p20, p21, p22, hI2, _, _⟩ := hV2.at_ (Below.refl _ _) (show k < hs.length by omega)
      by_cases heq : gs[k] = hs[k]
      · have hdec : decide (gs[k] = hs[k]) = true := by simp [heq]
        refine cw_seq (fun FK12 K12 => ?_)
        refine cw_region ?_
        refine wl_val (v := .bool true) (fun ρ e => ex_cmp (u := (k : Int)) (v := ((gs.length : Nat) : Int)) (e _ _ rfl) (e _ _ rfl) (lss1 (by omega))) rfl rfl ?_
        refine wl_nil ?_
        refine xw_next K12 ?_
        refine cw_seq (fun FK13 K13 => ?_)
        refine cw_true rfl ?_
        refine cw_skip ?_
        refine xw_next K13 ?_
        refine cw_seq (fun FK14 K14 => ?_)
        refine cw_block ?_
        refine cw_seq (fun FK15 K15 => ?_)
        refine cw_region ?_
        refine wl_val (v := .int .i64 (k : Int)) (fun ρ e => ex_move (e _ _ rfl)) rfl rfl ?_
        refine wl_val (v := .pointer (some ⟨b1, o1 + k * 3, none⟩)) (fun ρ e => ex_idx (q := o1 + k * 3) (g := b1) (o := o1) (i := k) el22 ((e _ _ rfl).trans (congrArg (fun z => Value.slice z gs.length c1) hA1)) (e _ _ rfl) (by omega) (by omega)) rfl rfl ?_
        refine wl_val (v := .agg #[.int .i64 (gs[k].kind), .int .i64 (gs[k].lit), .slice I1 (gs[k].inp.length) e1]) (fun ρ e => ex_loadN (vs := [.int .i64 (gs[k].kind), .int .i64 (gs[k].lit), .slice I1 (gs[k].inp.length) e1]) ty38 (e _ _ rfl) rfl (cells3 ((O11.old.cell (p := ⟨b1, o1 + k * 3, none⟩) hB1).trans p10) ((O11.old.cell (p := ⟨b1, o1 + k * 3 + 1, none⟩) hB1).trans p11) ((O11.old.cell (p := ⟨b1, o1 + k * 3 + 2, none⟩) hB1).trans p12))) rfl rfl ?_
        obtain ⟨g16, w17, r18, O19, hg20, hs21⟩ := own_alloc O11 38 ze38 rfl
        refine wl_val (v := .pointer (some ⟨g16, 0, none⟩)) (fun ρ e => r18 ρ _ _ _ _ _) rfl rfl ?_
        refine wl_val (v := .int .i64 (k : Int)) (fun ρ e => ex_assign (e _ _ rfl)) rfl rfl ?_
        obtain ⟨w22, r23, O24, hs25⟩ := own_put (o := 0) (n := 3) O19 ty38 (.agg #[.int .i64 (gs[k].kind), .int .i64 (gs[k].lit), .slice I1 (gs[k].inp.length) e1]) [.int .i64 (gs[k].kind), .int .i64 (gs[k].lit), .slice I1 (gs[k].inp.length) e1] (cs' := #[.int .i64 (gs[k].kind), .int .i64 (gs[k].lit), .slice I1 (gs[k].inp.length) e1]) rfl rfl rfl (Nat.le_of_ble_eq_true rfl) rfl
        refine wl_none (fun ρ e => r23 ρ _ _ _ _ _ _ (e _ _ rfl) (e _ _ rfl)) rfl ?_
        refine wl_nil ?_
        refine xw_next K15 ?_
        refine cw_seq (fun FK26 K26 => ?_)
        refine cw_region ?_
        refine wl_val (v := .slice A2 hs.length c2) (fun ρ e => ex_move (e _ _ rfl)) rfl rfl ?_
        refine wl_val (v := .int .i64 (k : Int)) (fun ρ e => ex_move (e _ _ rfl)) rfl rfl ?_
        refine wl_val (v := .pointer (some ⟨b2, o2 + k * 3, none⟩)) (fun ρ e => ex_idx (q := o2 + k * 3) (g := b2) (o := o2) (i := k) el22 ((e _ _ rfl).trans (congrArg (fun z => Value.slice z hs.length c2) hA2)) (e _ _ rfl) (by omega) (by omega)) rfl rfl ?_
        refine wl_val (v := .agg #[.int .i64 (hs[k].kind), .int .i64 (hs[k].lit), .slice I2 (hs[k].inp.length) e2]) (fun ρ e => ex_loadN (vs := [.int .i64 (hs[k].kind), .int .i64 (hs[k].lit), .slice I2 (hs[k].inp.length) e2]) ty38 (e _ _ rfl) rfl (cells3 ((O24.old.cell (p := ⟨b2, o2 + k * 3, none⟩) hB2).trans p20) ((O24.old.cell (p := ⟨b2, o2 + k * 3 + 1, none⟩) hB2).trans p21) ((O24.old.cell (p := ⟨b2, o2 + k * 3 + 2, none⟩) hB2).trans p22))) rfl rfl ?_
        obtain ⟨g27, w28, r29, O30, hg31, hs32⟩ := own_alloc O24 38 ze38 rfl
        refine wl_val (v := .pointer (some ⟨g27, 0, none⟩)) (fun ρ e => r29 ρ _ _ _ _ _) rfl rfl ?_
        obtain ⟨w33, r34, O35, hs36⟩ := own_put (o := 0) (n := 3) O30 ty38 (.agg #[.int .i64 (hs[k].kind), .int .i64 (hs[k].lit), .slice I2 (hs[k].inp.length) e2]) [.int .i64 (hs[k].kind), .int .i64 (hs[k].lit), .slice I2 (hs[k].inp.length) e2] (cs' := #[.int .i64 (hs[k].kind), .int .i64 (hs[k].lit), .slice I2 (hs[k].inp.length) e2]) rfl rfl rfl (Nat.le_of_ble_eq_true rfl) rfl
        refine wl_none (fun ρ e => r34 ρ _ _ _ _ _ _ (e _ _ rfl) (e _ _ rfl)) rfl ?_
        refine wl_nil ?_
        refine xw_next K26 ?_
        refine cw_seq (fun FK37 K37 => ?_)
        refine cw_region ?_
        refine wl_val (v := .func (.func 45) #[] #[]) (fun ρ e => ex_move (e _ _ rfl)) rfl rfl ?_
        refine wl_val (v := .agg #[.int .i64 (gs[k].kind), .int .i64 (gs[k].lit), .slice I1 (gs[k].inp.length) e1]) (fun ρ e => ex_loadN (vs := [.int .i64 (gs[k].kind), .int .i64 (gs[k].lit), .slice I1 (gs[k].inp.length) e1]) ty38 (e _ _ rfl) rfl (O35.cells 1 0 rfl rfl)) rfl rfl ?_
        refine wl_val (v := .agg #[.int .i64 (hs[k].kind), .int .i64 (hs[k].lit), .slice I2 (hs[k].inp.length) e2]) (fun ρ e => ex_loadN (vs := [.int .i64 (hs[k].kind), .int .i64 (hs[k].lit), .slice I2 (hs[k].inp.length) e2]) ty38 (e _ _ rfl) rfl (O35.cells 0 0 rfl rfl)) rfl rfl ?_
        refine wl_callv (args := [.agg #[.int .i64 (gs[k].kind), .int .i64 (gs[k].lit), .slice I1 (gs[k].inp.length) e1], .agg #[.int .i64 (hs[k].kind), .int .i64 (hs[k].lit), .slice I2 (hs[k].inp.length) e2]]) (all := [.agg #[.int .i64 (gs[k].kind), .int .i64 (gs[k].lit), .slice I1 (gs[k].inp.length) e1], .agg #[.int .i64 (hs[k].kind), .int .i64 (hs[k].lit), .slice I2 (hs[k].inp.length) e2]]) in_45 rfl rfl rfl rfl rfl ?_
        refine (same1_ (g := gs[k]) (h := hs[k]) ((hI1.below O35.old).more O35.old.size) ((hI2.below O35.old).more O35.old.size) (hn _ (List.getElem_mem hk)) (hn2 _ (List.getElem_mem hk2))).mono ?_
        rintro _ w38 ⟨rfl, hb39⟩
        have O40 : Own Z0 W w38 [.blk g27 38 #[.int .i64 (hs[k].kind), .int .i64 (hs[k].lit), .slice I2 (hs[k].inp.length) e2], .blk g16 38 #[.int .i64 (gs[k].kind), .int .i64 (gs[k].lit), .slice I1 (gs[k].inp.length) e1]] := O35.below hb39
        rw [hdec]
        refine ⟨_, rfl, ?_⟩
        refine wl_val (v := .bool false) (fun ρ e => ex_lnot (b := true) (e _ _ rfl)) rfl rfl ?_
        refine wl_nil ?_
        refine xw_next K37 ?_
        refine cw_false rfl ?_
        refine cw_skip ?_
        refine xw_block ?_
        refine xw_next K14 ?_
        refine cw_region ?_
        refine wl_val (v := .int .i64 ((k + 1 : Nat) : Int)) (fun ρ e => ex_arith (k := .i64) (u := (k : Int)) (v := 1) (e _ _ rfl) (e _ _ rfl) (congrArg some ((congrArg _ (by omega)).trans (wrap_in (u := ((k + 1 : Nat) : Int)) (by omega) (by omega))))) rfl rfl ?_
        refine wl_val (v := .int .i64 ((k + 1 : Nat) : Int)) (fun ρ e => ex_move (e _ _ rfl)) rfl rfl ?_
        refine wl_nil ?_
        refine xw_round K10 (k + 1) (by show gs.length - (k + 1) < gs.length - k; omega) ⟨(by show k + 1 ≤ _; omega), (take_snoc hp (List.getElem?_eq_getElem hk) (heq ▸ List.getElem?_eq_getElem hk2)), (O40.re [] rfl : Own Z0 W w38 [])⟩ ⟨rfl, rfl, rfl, rfl, rfl, rfl, trivial⟩
      · have hdec : decide (gs[k] = hs[k]) = false := by simp [heq]
        refine cw_seq (fun FK42 K42 => ?_)
        refine cw_region ?_
        refine wl_val (v := .bool true) (fun ρ e => ex_cmp (u := (k : Int)) (v := ((gs.length : Nat) : Int)) (e _ _ rfl) (e _ _ rfl) (lss1 (by omega))) rfl rfl ?_
        refine wl_nil ?_
        refine xw_next K42 ?_
        refine cw_seq (fun FK43 K43 => ?_)
        refine cw_true rfl ?_
        refine cw_skip ?_
        refine xw_next K43 ?_
        refine cw_seq (fun FK44 K44 => ?_)
        refine cw_block ?_
        refine cw_seq (fun FK45 K45 => ?_)
        refine cw_region ?_
        refine wl_val (v := .int .i64 (k : Int)) (fun ρ e => ex_move (e _ _ rfl)) rfl rfl ?_
        refine wl_val (v := .pointer (some ⟨b1, o1 + k * 3, none⟩)) (fun ρ e => ex_idx (q := o1 + k * 3) (g := b1) (o := o1) (i := k) el22 ((e _ _ rfl).trans (congrArg (fun z => Value.slice z gs.length c1) hA1)) (e _ _ rfl) (by omega) (by omega)) rfl rfl ?_
        refine wl_val (v := .agg #[.int .i64 (gs[k].kind), .int .i64 (gs[k].lit), .slice I1 (gs[k].inp.length) e1]) (fun ρ e => ex_loadN (vs := [.int .i64 (gs[k].kind), .int .i64 (gs[k].lit), .slice I1 (gs[k].inp.length) e1]) ty38 (e _ _ rfl) rfl (cells3 ((O11.old.cell (p := ⟨b1, o1 + k * 3, none⟩) hB1).trans p10) ((O11.old.cell (p := ⟨b1, o1 + k * 3 + 1, none⟩) hB1).trans p11) ((O11.old.cell (p := ⟨b1, o1 + k * 3 + 2, none⟩) hB1).trans p12))) rfl rfl ?_
        obtain ⟨g46, w47, r48, O49, hg50, hs51⟩ := own_alloc O11 38 ze38 rfl
        refine wl_val (v := .pointer (some ⟨g46, 0, none⟩)) (fun ρ e => r48 ρ _ _ _ _ _) rfl rfl ?_
        refine wl_val (v := .int .i64 (k : Int)) (fun ρ e => ex_assign (e _ _ rfl)) rfl rfl ?_
        obtain ⟨w52, r53, O54, hs55⟩ := own_put (o := 0) (n := 3) O49 ty38 (.agg #[.int .i64 (gs[k].kind), .int .i64 (gs[k].lit), .slice I1 (gs[k].inp.length) e1]) [.int .i64 (gs[k].kind), .int .i64 (gs[k].lit), .slice I1 (gs[k].inp.length) e1] (cs' := #[.int .i64 (gs[k].kind), .int .i64 (gs[k].lit), .slice I1 (gs[k].inp.length) e1]) rfl rfl rfl (Nat.le_of_ble_eq_true rfl) rfl
        refine wl_none (fun ρ e => r53 ρ _ _ _ _ _ _ (e _ _ rfl) (e _ _ rfl)) rfl ?_
        refine wl_nil ?_
        refine xw_next K45 ?_
        refine cw_seq (fun FK56 K56 => ?_)
        refine cw_region ?_
        refine wl_val (v := .slice A2 hs.length c2) (fun ρ e => ex_move (e _ _ rfl)) rfl rfl ?_
        refine wl_val (v := .int .i64 (k : Int)) (fun ρ e => ex_move (e _ _ rfl)) rfl rfl ?_
        refine wl_val (v := .pointer (some ⟨b2, o2 + k * 3, none⟩)) (fun ρ e => ex_idx (q := o2 + k * 3) (g := b2) (o := o2) (i := k) el22 ((e _ _ rfl).trans (congrArg (fun z => Value.slice z hs.length c2) hA2)) (e _ _ rfl) (by omega) (by omega)) rfl rfl ?_
        refine wl_val (v := .agg #[.int .i64 (hs[k].kind), .int .i64 (hs[k].lit), .slice I2 (hs[k].inp.length) e2]) (fun ρ e => ex_loadN (vs := [.int .i64 (hs[k].kind), .int .i64 (hs[k].lit), .slice I2 (hs[k].inp.length) e2]) ty38 (e _ _ rfl) rfl (cells3 ((O54.old.cell (p := ⟨b2, o2 + k * 3, none⟩) hB2).trans p20) ((O54.old.cell (p := ⟨b2, o2 + k * 3 + 1, none⟩) hB2).trans p21) ((O54.old.cell (p := ⟨b2, o2 + k * 3 + 2, none⟩) hB2).trans p22))) rfl rfl ?_
        obtain ⟨g57, w58, r59, O60, hg61, hs62⟩ := own_alloc O54 38 ze38 rfl
        refine wl_val (v := .pointer (some ⟨g57, 0, none⟩)) (fun ρ e => r59 ρ _ _ _ _ _) rfl rfl ?_
        obtain ⟨w63, r64, O65, hs66⟩ := own_put (o := 0) (n := 3) O60 ty38 (.agg #[.int .i64 (hs[k].kind), .int .i64 (hs[k].lit), .slice I2 (hs[k].inp.length) e2]) [.int .i64 (hs[k].kind), .int .i64 (hs[k].lit), .slice I2 (hs[k].inp.length) e2] (cs' := #[.int .i64 (hs[k].kind), .int .i64 (hs[k].lit), .slice I2 (hs[k].inp.length) e2]) rfl rfl rfl (Nat.le_of_ble_eq_true rfl) rfl
        refine wl_none (fun ρ e => r64 ρ _ _ _ _ _ _ (e _ _ rfl) (e _ _ rfl)) rfl ?_
        refine wl_nil ?_
        refine xw_next K56 ?_
        refine cw_seq (fun FK67 K67 => ?_)
        refine cw_region ?_
        refine wl_val (v := .func (.func 45) #[] #[]) (fun ρ e => ex_move (e _ _ rfl)) rfl rfl ?_
        refine wl_val (v := .agg #[.int .i64 (gs[k].kind), .int .i64 (gs[k].lit), .slice I1 (gs[k].inp.length) e1]) (fun ρ e => ex_loadN (vs := [.int .i64 (gs[k].kind), .int .i64 (gs[k].lit), .slice I1 (gs[k].inp.length) e1]) ty38 (e _ _ rfl) rfl (O65.cells 1 0 rfl rfl)) rfl rfl ?_
        refine wl_val (v := .agg #[.int .i64 (hs[k].kind), .int .i64 (hs[k].lit), .slice I2 (hs[k].inp.length) e2]) (fun ρ e => ex_loadN (vs := [.int .i64 (hs[k].kind), .int .i64 (hs[k].lit), .slice I2 (hs[k].inp.length) e2]) ty38 (e _ _ rfl) rfl (O65.cells 0 0 rfl rfl)) rfl rfl ?_
        refine wl_callv (args := [.agg #[.int .i64 (gs[k].kind), .int .i64 (gs[k].lit), .slice I1 (gs[k].inp.length) e1], .agg #[.int .i64 (hs[k].kind), .int .i64 (hs[k].lit), .slice I2 (hs[k].inp.length) e2]]) (all := [.agg #[.int .i64 (gs[k].kind), .int .i64 (gs[k].lit), .slice I1 (gs[k].inp.length) e1], .agg #[.int .i64 (hs[k].kind), .int .i64 (hs[k].lit), .slice I2 (hs[k].inp.length) e2]]) in_45 rfl rfl rfl rfl rfl ?_
        refine (same1_ (g := gs[k]) (h := hs[k]) ((hI1.below O65.old).more O65.old.size) ((hI2.below O65.old).more O65.old.size) (hn _ (List.getElem_mem hk)) (hn2 _ (List.getElem_mem hk2))).mono ?_
        rintro _ w68 ⟨rfl, hb69⟩
        have O70 : Own Z0 W w68 [.blk g57 38 #[.int .i64 (hs[k].kind), .int .i64 (hs[k].lit), .slice I2 (hs[k].inp.length) e2], .blk g46 38 #[.int .i64 (gs[k].kind), .int .i64 (gs[k].lit), .slice I1 (gs[k].inp.length) e1]] := O65.below hb69
        rw [hdec]
        refine ⟨_, rfl, ?_⟩
        refine wl_val (v := .bool true) (fun ρ e => ex_lnot (b := false) (e _ _ rfl)) rfl rfl ?_
        refine wl_nil ?_
        refine xw_next K67 ?_
        refine cw_true rfl ?_
        refine cw_seq (fun FK72 K72 => ?_)
        refine cw_region ?_
        refine wl_val (v := .bool false) (fun ρ e => ex_assign (e _ _ rfl)) rfl rfl ?_
        refine wl_nil ?_
        refine xw_next K72 ?_
        refine cw_ret ?_
        refine xw_blockret ?_
        refine xw_past (by intro h; cases h) ?_
        refine xw_past (by intro h; cases h) ?_
        refine xw_blockret ?_
        refine xw_past (by intro h; cases h) ?_
        refine xw_ret (v := .bool false) (fun T hT => res1 rfl T _ (hT 6 _ rfl)) ?_
        exact ⟨by rw [decide_eq_false (fun e => heq (by subst e; rfl))], O70.old⟩
    · have hke : k = gs.length := by omega
      refine cw_seq (fun FK73 K73 => ?_)
      refine cw_region ?_
      refine wl_val (v := .bool false) (fun ρ e => ex_cmp (u := (k : Int)) (v := ((gs.length : Nat) : Int)) (e _ _ rfl) (e _ _ rfl) (lss0 (by omega))) rfl rfl ?_
      refine wl_nil ?_
      refine xw_next K73 ?_
      refine cw_seq (fun FK74 K74 => ?_)
      refine cw_false rfl ?_
      refine cw_exit ?_
      refine xw_past (by intro h; cases h) ?_
      refine xw_past (by intro h; cases h) ?_
      refine xw_here ?_
      refine xw_next K6 ?_
      refine cw_seq (fun FK75 K75 => ?_)
      refine cw_region ?_
      refine wl_val (v := .bool true) (fun ρ e => ex_assign (e _ _ rfl)) rfl rfl ?_
      refine wl_nil ?_
      refine xw_next K75 ?_
      refine cw_ret ?_
      refine xw_ret (v := .bool true) (fun T hT => res1 rfl T _ (hT 6 _ rfl)) ?_
      exact ⟨by rw [decide_eq_true (by rw [hke, List.take_length] at hp; rw [hp, show gs.length = hs.length by omega, List.take_length])], O11.old⟩
theorem csame_ {W : World} {V1 V2 : Value} {N M : Int} {gs hs : List Gate} (hV1 : GatesV W W.heap.size V1 gs) (hV2 : GatesV W W.heap.size V2 hs) (hn : shortG gs) (hn2 : shortG hs) (hl : gs.length ≤ 1000000000) (hl2 : hs.length ≤ 1000000000) : Calls Tryd.prog 21 #[.agg #[.int .i64 N, V1], .agg #[.int .i64 M, V2]] W fun e w' => e = .returned (.bool (decide (N = M ∧ gs = hs))) ∧ Below W.heap.size W w' := by
  have O0 : Own Z0 W W [] := Own.start W
  refine sx_enter (args := [.agg #[.int .i64 N, V1], .agg #[.int .i64 M, V2]]) Tryd.func21 rfl rfl (by simp) ?_
  refine cw_seq (fun FK1 K1 => ?_)
  refine cw_region ?_
  obtain ⟨g2, w3, r4, O5, hg6, hs7⟩ := own_box O0 24 (.agg #[.int .i64 N, V1]) rfl
  refine wl_val (v := .pointer (some ⟨g2, 0, none⟩)) (fun ρ e => r4 ρ _ _ _ _ _ _ (e _ _ rfl)) rfl rfl ?_
  obtain ⟨g8, w9, r10, O11, hg12, hs13⟩ := own_box O5 24 (.agg #[.int .i64 M, V2]) rfl
  refine wl_val (v := .pointer (some ⟨g8, 0, none⟩)) (fun ρ e => r10 ρ _ _ _ _ _ _ (e _ _ rfl)) rfl rfl ?_
  refine wl_val (v := .bool false) (fun ρ e => ex_assign (e _ _ rfl)) rfl rfl ?_
  refine wl_nil ?_
  refine xw_next K1 ?_
  refine cw_seq (fun FK14 K14 => ?_)
  refine cw_region ?_
  refine wl_val (v := .pointer (some ⟨g2, 0, none⟩)) (fun ρ e => ex_field (q := 0) fi24_0 (e _ _ rfl) rfl) rfl rfl ?_
  refine wl_val (v := .int .i64 N) (fun ρ e => ex_load1 ty3 (e _ _ rfl) (O11.cell 1 0 rfl rfl)) rfl rfl ?_
  refine wl_val (v := .pointer (some ⟨g8, 0, none⟩)) (fun ρ e => ex_field (q := 0) fi24_0 (e _ _ rfl) rfl) rfl rfl ?_
  refine wl_val (v := .int .i64 M) (fun ρ e => ex_load1 ty3 (e _ _ rfl) (O11.cell 0 0 rfl rfl)) rfl rfl ?_
  by_cases c15 : N = M
  · skip
    refine wl_val (v := .bool true) (fun ρ e => ex_cmp (u := N) (v := M) (e _ _ rfl) (e _ _ rfl) (eql1 (by omega))) rfl rfl ?_
    refine wl_val (v := .bool true) (fun ρ e => ex_move (e _ _ rfl)) rfl rfl ?_
    refine wl_val (v := .pointer (some ⟨g2, 1, none⟩)) (fun ρ e => ex_field (q := 1) fi24_1 (e _ _ rfl) rfl) rfl rfl ?_
    refine wl_val (v := V1) (fun ρ e => ex_load1 ty22 (e _ _ rfl) (O11.cell 1 1 rfl rfl)) rfl rfl ?_
    refine wl_val (v := .pointer (some ⟨g8, 1, none⟩)) (fun ρ e => ex_field (q := 1) fi24_1 (e _ _ rfl) rfl) rfl rfl ?_
    refine wl_val (v := V2) (fun ρ e => ex_load1 ty22 (e _ _ rfl) (O11.cell 0 1 rfl rfl)) rfl rfl ?_
    refine wl_call (args := [V1, V2, .func (.func 45) #[] #[]]) in_44 rfl rfl rfl ?_
    refine (equalFunc_ ((hV1.below O11.old).more O11.old.size) ((hV2.below O11.old).more O11.old.size) hn hn2 hl hl2).mono ?_
    rintro _ w16 ⟨rfl, hb17⟩
    have O18 : Own Z0 W w16 [.blk g8 24 #[.int .i64 M, V2], .blk g2 24 #[.int .i64 N, V1]] := O11.below hb17
    refine ⟨_, rfl, ?_⟩
    refine wl_val (v := .bool (decide (gs = hs))) (fun ρ e => ex_pick1 (e _ _ rfl) (e _ _ rfl)) rfl rfl ?_
    refine wl_val (v := .bool (decide (gs = hs))) (fun ρ e => ex_assign (e _ _ rfl)) rfl rfl ?_
    refine wl_nil ?_
    refine xw_next K14 ?_
    refine cw_ret ?_
    refine xw_ret (v := .bool (decide (gs = hs))) (fun T hT => res1 rfl T _ (hT 4 _ rfl)) ?_
    exact ⟨by simp [c15], O18.old⟩
  · skip
    refine wl_val (v := .bool false) (fun ρ e => ex_cmp (u := N) (v := M) (e _ _ rfl) (e _ _ rfl) (eql0 (by omega))) rfl rfl ?_
    refine wl_val (v := .bool false) (fun ρ e => ex_move (e _ _ rfl)) rfl rfl ?_
    refine wl_skip rfl rfl ?_
    refine wl_skip rfl rfl ?_
    refine wl_skip rfl rfl ?_
    refine wl_skip rfl rfl ?_
    refine wl_skip rfl rfl ?_
    refine wl_val (v := .bool false) (fun ρ e => ex_pick0 (e _ _ rfl) (e _ _ rfl)) rfl rfl ?_
    refine wl_val (v := .bool false) (fun ρ e => ex_assign (e _ _ rfl)) rfl rfl ?_
    refine wl_nil ?_
    refine xw_next K14 ?_
    refine cw_ret ?_
    refine xw_ret (v := .bool false) (fun T hT => res1 rfl T _ (hT 4 _ rfl)) ?_
    exact ⟨by rw [decide_eq_false (fun e => c15 e.1)], O11.old⟩
theorem lit_ (W : World) (k : Int) : Calls Tryd.prog 28 #[.int .i64 k] W fun e w' => e = .returned (.agg #[.int .i64 2, .int .i64 k, .slice none 0 0]) ∧ Below W.heap.size W w' := by
  have O0 : Own Z0 W W [] := Own.start W
  refine sx_enter (args := [.int .i64 k]) Tryd.func28 rfl rfl (by simp) ?_
  refine cw_seq (fun FK1 K1 => ?_)
  refine cw_region ?_
  obtain ⟨g2, w3, r4, O5, hg6, hs7⟩ := own_alloc O0 38 ze38 rfl
  refine wl_val (v := .pointer (some ⟨g2, 0, none⟩)) (fun ρ e => r4 ρ _ _ _ _ _) rfl rfl ?_
  refine wl_nil ?_
  refine xw_next K1 ?_
  refine cw_seq (fun FK8 K8 => ?_)
  refine cw_region ?_
  refine wl_val (v := .int .i64 k) (fun ρ e => ex_move (e _ _ rfl)) rfl rfl ?_
  refine wl_val (v := .agg #[.int .i64 2, .int .i64 k, .slice none 0 0]) (fun ρ e => ex_build (cells := #[.int .i64 2, .int .i64 k, .slice none 0 0]) st38 (e.parts rfl) rfl) rfl rfl ?_
  obtain ⟨w9, r10, O11, hs12⟩ := own_put (o := 0) (n := 3) O5 ty38 (.agg #[.int .i64 2, .int .i64 k, .slice none 0 0]) [.int .i64 2, .int .i64 k, .slice none 0 0] (cs' := #[.int .i64 2, .int .i64 k, .slice none 0 0]) rfl rfl rfl (Nat.le_of_ble_eq_true rfl) rfl
  refine wl_none (fun ρ e => r10 ρ _ _ _ _ _ _ (e _ _ rfl) (e _ _ rfl)) rfl ?_
  refine wl_nil ?_
  refine xw_next K8 ?_
  refine cw_ret ?_
  refine xw_ret (v := .agg #[.int .i64 2, .int .i64 k, .slice none 0 0]) (fun T hT => res1c rfl T _ (hT 2 _ rfl) (run_loadN (vs := [.int .i64 2, .int .i64 k, .slice none 0 0]) ty38 rfl (O11.cells 0 0 rfl rfl))) ?_
  exact ⟨rfl, O11.old⟩
theorem gate_ (W : World) (k : Int) {A : Option Addr} {n c : Nat} : Calls Tryd.prog 26 #[.int .i64 k, .slice A n c] W fun e w' => e = .returned (.agg #[.int .i64 k, .int .i64 0, .slice A n c]) ∧ Below W.heap.size W w' := by
  have O0 : Own Z0 W W [] := Own.start W
  refine sx_enter (args := [.int .i64 k, .slice A n c]) Tryd.func26 rfl rfl (by simp) ?_
  refine cw_seq (fun FK1 K1 => ?_)
  refine cw_region ?_
  obtain ⟨g2, w3, r4, O5, hg6, hs7⟩ := own_alloc O0 38 ze38 rfl
  refine wl_val (v := .pointer (some ⟨g2, 0, none⟩)) (fun ρ e => r4 ρ _ _ _ _ _) rfl rfl ?_
  refine wl_nil ?_
  refine xw_next K1 ?_
  refine cw_seq (fun FK8 K8 => ?_)
  refine cw_region ?_
  refine wl_val (v := .int .i64 k) (fun ρ e => ex_move (e _ _ rfl)) rfl rfl ?_
  refine wl_val (v := .slice A n c) (fun ρ e => ex_move (e _ _ rfl)) rfl rfl ?_
  refine wl_val (v := .agg #[.int .i64 k, .int .i64 0, .slice A n c]) (fun ρ e => ex_build (cells := #[.int .i64 k, .int .i64 0, .slice A n c]) st38 (e.parts rfl) rfl) rfl rfl ?_
  obtain ⟨w9, r10, O11, hs12⟩ := own_put (o := 0) (n := 3) O5 ty38 (.agg #[.int .i64 k, .int .i64 0, .slice A n c]) [.int .i64 k, .int .i64 0, .slice A n c] (cs' := #[.int .i64 k, .int .i64 0, .slice A n c]) rfl rfl rfl (Nat.le_of_ble_eq_true rfl) rfl
  refine wl_none (fun ρ e => r10 ρ _ _ _ _ _ _ (e _ _ rfl) (e _ _ rfl)) rfl ?_
  refine wl_nil ?_
  refine xw_next K8 ?_
  refine cw_ret ?_
  refine xw_ret (v := .agg #[.int .i64 k, .int .i64 0, .slice A n c]) (fun T hT => res1c rfl T _ (hT 4 _ rfl) (run_loadN (vs := [.int .i64 k, .int .i64 0, .slice A n c]) ty38 rfl (O11.cells 0 0 rfl rfl))) ?_
  exact ⟨rfl, O11.old⟩
theorem circuit_ (W : World) (k : Int) {A : Option Addr} {n c : Nat} : Calls Tryd.prog 25 #[.int .i64 k, .slice A n c] W fun e w' => e = .returned (.agg #[.int .i64 k, .slice A n c]) ∧ Below W.heap.size W w' := by
  have O0 : Own Z0 W W [] := Own.start W
  refine sx_enter (args := [.int .i64 k, .slice A n c]) Tryd.func25 rfl rfl (by simp) ?_
  refine cw_seq (fun FK1 K1 => ?_)
  refine cw_region ?_
  obtain ⟨g2, w3, r4, O5, hg6, hs7⟩ := own_alloc O0 24 ze24 rfl
  refine wl_val (v := .pointer (some ⟨g2, 0, none⟩)) (fun ρ e => r4 ρ _ _ _ _ _) rfl rfl ?_
  refine wl_nil ?_
  refine xw_next K1 ?_
  refine cw_seq (fun FK8 K8 => ?_)
  refine cw_region ?_
  refine wl_val (v := .int .i64 k) (fun ρ e => ex_move (e _ _ rfl)) rfl rfl ?_
  refine wl_val (v := .slice A n c) (fun ρ e => ex_move (e _ _ rfl)) rfl rfl ?_
  refine wl_val (v := .agg #[.int .i64 k, .slice A n c]) (fun ρ e => ex_build (cells := #[.int .i64 k, .slice A n c]) st24 (e.parts rfl) rfl) rfl rfl ?_
  obtain ⟨w9, r10, O11, hs12⟩ := own_put (o := 0) (n := 2) O5 ty24 (.agg #[.int .i64 k, .slice A n c]) [.int .i64 k, .slice A n c] (cs' := #[.int .i64 k, .slice A n c]) rfl rfl rfl (Nat.le_of_ble_eq_true rfl) rfl
  refine wl_none (fun ρ e => r10 ρ _ _ _ _ _ _ (e _ _ rfl) (e _ _ rfl)) rfl ?_
  refine wl_nil ?_
  refine xw_next K8 ?_
  refine cw_ret ?_
  refine xw_ret (v := .agg #[.int .i64 k, .slice A n c]) (fun T hT => res1c rfl T _ (hT 4 _ rfl) (run_loadN (vs := [.int .i64 k, .slice A n c]) ty24 rfl (O11.cells 0 0 rfl rfl))) ?_
  exact ⟨rfl, O11.old⟩
theorem folds_ {W : World} {V1 V2 : Value} {N M : Int} {gs hs : List Gate} (hV1 : GatesV W W.heap.size V1 gs) (hV2 : GatesV W W.heap.size V2 hs) (hsz : sizeOf gs ≤ 4611686018427387904) (tab : Tab W) (hn2 : shortG hs) (hl2 : hs.length ≤ 1000000000) : Calls Tryd.prog 27 #[.agg #[.int .i64 N, V1], .agg #[.int .i64 M, V2]] W fun e w' => e = .returned (.bool (decide (checkOf N gs = 0 ∧ N = M ∧ foldOf gs = hs))) ∧ Below W.heap.size W w' := by
  have O0 : Own Z0 W W [] := Own.start W
  refine sx_enter (args := [.agg #[.int .i64 N, V1], .agg #[.int .i64 M, V2]]) Tryd.func27 rfl rfl (by simp) ?_
  refine cw_seq (fun FK1 K1 => ?_)
  refine cw_region ?_
  obtain ⟨g2, w3, r4, O5, hg6, hs7⟩ := own_box O0 24 (.agg #[.int .i64 N, V1]) rfl
  refine wl_val (v := .pointer (some ⟨g2, 0, none⟩)) (fun ρ e => r4 ρ _ _ _ _ _ _ (e _ _ rfl)) rfl rfl ?_
  obtain ⟨g8, w9, r10, O11, hg12, hs13⟩ := own_box O5 24 (.agg #[.int .i64 M, V2]) rfl
  refine wl_val (v := .pointer (some ⟨g8, 0, none⟩)) (fun ρ e => r10 ρ _ _ _ _ _ _ (e _ _ rfl)) rfl rfl ?_
  refine wl_val (v := .bool false) (fun ρ e => ex_assign (e _ _ rfl)) rfl rfl ?_
  refine wl_nil ?_
  refine xw_next K1 ?_
  refine cw_seq (fun FK14 K14 => ?_)
  refine cw_region ?_
  refine wl_val (v := .agg #[.int .i64 N, V1]) (fun ρ e => ex_loadN (vs := [.int .i64 N, V1]) ty24 (e _ _ rfl) rfl (O11.cells 1 0 rfl rfl)) rfl rfl ?_
  have h15 := fold_ (N := N) ((hV1.below O11.old).more O11.old.size) hsz (tab.below (Nat.le_refl _) O11.old)
  by_cases c16 : checkOf N gs = 0
  · skip
    have hc := c16
    refine wl_call (args := [.agg #[.int .i64 N, V1]]) in_18 rfl rfl rfl ?_
    refine h15.mono ?_
    intro _ w17 hq
    obtain ⟨_, A18, c19, D20, vo21, rfl, ho22, hd23⟩ := hq.resolve_left (fun z => z.1 hc)
    have O24 : Own Z0 W w17 [.row (.slice A18 ((foldOf gs).length) c19) 38 3 ((foldOf gs).length) (gcells (foldOf gs) vo21), .ro D20 (OwnIns D20 (foldOf gs) vo21), .blk g8 24 #[.int .i64 M, V2], .blk g2 24 #[.int .i64 N, V1]] := Own.joinr O11 ho22 (fun e he => by rcases List.mem_cons.1 he with rfl | he; exact .inl trivial; exact .inr (by rw [List.mem_singleton.1 he]; exact hd23))
    refine ⟨_, rfl, ?_⟩
    refine wl_val (v := .tuple #[.agg #[.int .i64 N, .slice A18 ((foldOf gs).length) c19], .int .i64 0]) (fun ρ e => ex_move (e _ _ rfl)) rfl rfl ?_
    refine wl_val (v := .agg #[.int .i64 N, .slice A18 ((foldOf gs).length) c19]) (fun ρ e => ex_extract (vs := #[.agg #[.int .i64 N, .slice A18 ((foldOf gs).length) c19], .int .i64 0]) (e _ _ rfl) rfl) rfl rfl ?_
    refine wl_val (v := .int .i64 0) (fun ρ e => ex_extract (vs := #[.agg #[.int .i64 N, .slice A18 ((foldOf gs).length) c19], .int .i64 0]) (e _ _ rfl) rfl) rfl rfl ?_
    obtain ⟨g25, w26, r27, O28, hg29, hs30⟩ := own_alloc O24 24 ze24 rfl
    refine wl_val (v := .pointer (some ⟨g25, 0, none⟩)) (fun ρ e => r27 ρ _ _ _ _ _) rfl rfl ?_
    obtain ⟨w31, r32, O33, hs34⟩ := own_put (o := 0) (n := 2) O28 ty24 (.agg #[.int .i64 N, .slice A18 ((foldOf gs).length) c19]) [.int .i64 N, .slice A18 ((foldOf gs).length) c19] (cs' := #[.int .i64 N, .slice A18 ((foldOf gs).length) c19]) rfl rfl rfl (Nat.le_of_ble_eq_true rfl) rfl
    refine wl_none (fun ρ e => r32 ρ _ _ _ _ _ _ (e _ _ rfl) (e _ _ rfl)) rfl ?_
    refine wl_val (v := .int .i64 0) (fun ρ e => ex_assign (e _ _ rfl)) rfl rfl ?_
    refine wl_nil ?_
    refine xw_next K14 ?_
    refine cw_seq (fun FK35 K35 => ?_)
    refine cw_region ?_
    refine wl_val (v := .int .i64 0) (fun ρ e => ex_move (e _ _ rfl)) rfl rfl ?_
    refine wl_val (v := .bool true) (fun ρ e => ex_cmp (u := 0) (v := 0) (e _ _ rfl) (e _ _ rfl) (eql1 (by omega))) rfl rfl ?_
    refine wl_val (v := .bool true) (fun ρ e => ex_move (e _ _ rfl)) rfl rfl ?_
    refine wl_val (v := .agg #[.int .i64 N, .slice A18 ((foldOf gs).length) c19]) (fun ρ e => ex_loadN (vs := [.int .i64 N, .slice A18 ((foldOf gs).length) c19]) ty24 (e _ _ rfl) rfl (O33.cells 0 0 rfl rfl)) rfl rfl ?_
    refine wl_val (v := .agg #[.int .i64 M, V2]) (fun ρ e => ex_loadN (vs := [.int .i64 M, V2]) ty24 (e _ _ rfl) rfl (O33.cells 3 0 rfl rfl)) rfl rfl ?_
    refine wl_call (args := [.agg #[.int .i64 N, .slice A18 ((foldOf gs).length) c19], .agg #[.int .i64 M, V2]]) in_21 rfl rfl rfl ?_
    refine (csame_ (M := M) (gates_of_own (O33.row 1 rfl) (O33.ro 2 rfl) (O33.get 2 rfl).2.1) ((hV2.below O33.old).more O33.old.size) (foldOf_short hc) hn2 (foldOf_len hc) hl2).mono ?_
    rintro _ w36 ⟨rfl, hb37⟩
    have O38 : Own Z0 W w36 [.blk g25 24 #[.int .i64 N, .slice A18 ((foldOf gs).length) c19], .row (.slice A18 ((foldOf gs).length) c19) 38 3 ((foldOf gs).length) (gcells (foldOf gs) vo21), .ro D20 (OwnIns D20 (foldOf gs) vo21), .blk g8 24 #[.int .i64 M, V2], .blk g2 24 #[.int .i64 N, V1]] := O33.below hb37
    refine ⟨_, rfl, ?_⟩
    refine wl_val (v := .bool (decide (N = M ∧ foldOf gs = hs))) (fun ρ e => ex_pick1 (e _ _ rfl) (e _ _ rfl)) rfl rfl ?_
    refine wl_val (v := .bool (decide (N = M ∧ foldOf gs = hs))) (fun ρ e => ex_assign (e _ _ rfl)) rfl rfl ?_
    refine wl_nil ?_
    refine xw_next K35 ?_
    refine cw_ret ?_
    refine xw_ret (v := .bool (decide (N = M ∧ foldOf gs = hs))) (fun T hT => res1 rfl T _ (hT 4 _ rfl)) ?_
    exact ⟨by simp [hc], O38.old⟩
  · skip
    have hc := c16
    refine wl_call (args := [.agg #[.int .i64 N, V1]]) in_18 rfl rfl rfl ?_
    refine h15.mono ?_
    intro _ w39 hq
    obtain ⟨_, rfl, hb40⟩ := hq.resolve_right (fun z => hc z.1)
    have O41 : Own Z0 W w39 [.blk g8 24 #[.int .i64 M, V2], .blk g2 24 #[.int .i64 N, V1]] := O11.below hb40
    refine ⟨_, rfl, ?_⟩
    refine wl_val (v := .tuple #[.agg #[.int .i64 0, .slice none 0 0], .int .i64 (checkOf N gs)]) (fun ρ e => ex_move (e _ _ rfl)) rfl rfl ?_
    refine wl_val (v := .agg #[.int .i64 0, .slice none 0 0]) (fun ρ e => ex_extract (vs := #[.agg #[.int .i64 0, .slice none 0 0], .int .i64 (checkOf N gs)]) (e _ _ rfl) rfl) rfl rfl ?_
    refine wl_val (v := .int .i64 (checkOf N gs)) (fun ρ e => ex_extract (vs := #[.agg #[.int .i64 0, .slice none 0 0], .int .i64 (checkOf N gs)]) (e _ _ rfl) rfl) rfl rfl ?_
    obtain ⟨g42, w43, r44, O45, hg46, hs47⟩ := own_alloc O41 24 ze24 rfl
    refine wl_val (v := .pointer (some ⟨g42, 0, none⟩)) (fun ρ e => r44 ρ _ _ _ _ _) rfl rfl ?_
    obtain ⟨w48, r49, O50, hs51⟩ := own_put (o := 0) (n := 2) O45 ty24 (.agg #[.int .i64 0, .slice none 0 0]) [.int .i64 0, .slice none 0 0] (cs' := #[.int .i64 0, .slice none 0 0]) rfl rfl rfl (Nat.le_of_ble_eq_true rfl) rfl
    refine wl_none (fun ρ e => r49 ρ _ _ _ _ _ _ (e _ _ rfl) (e _ _ rfl)) rfl ?_
    refine wl_val (v := .int .i64 (checkOf N gs)) (fun ρ e => ex_assign (e _ _ rfl)) rfl rfl ?_
    refine wl_nil ?_
    refine xw_next K14 ?_
    refine cw_seq (fun FK52 K52 => ?_)
    refine cw_region ?_
    refine wl_val (v := .int .i64 (checkOf N gs)) (fun ρ e => ex_move (e _ _ rfl)) rfl rfl ?_
    refine wl_val (v := .bool false) (fun ρ e => ex_cmp (u := (checkOf N gs)) (v := 0) (e _ _ rfl) (e _ _ rfl) (eql0 c16)) rfl rfl ?_
    refine wl_val (v := .bool false) (fun ρ e => ex_move (e _ _ rfl)) rfl rfl ?_
    refine wl_skip rfl rfl ?_
    refine wl_skip rfl rfl ?_
    refine wl_skip rfl rfl ?_
    refine wl_val (v := .bool false) (fun ρ e => ex_pick0 (e _ _ rfl) (e _ _ rfl)) rfl rfl ?_
    refine wl_val (v := .bool false) (fun ρ e => ex_assign (e _ _ rfl)) rfl rfl ?_
    refine wl_nil ?_
    refine xw_next K52 ?_
    refine cw_ret ?_
    refine xw_ret (v := .bool false) (fun T hT => res1 rfl T _ (hT 4 _ rfl)) ?_
    exact ⟨by rw [decide_eq_false (fun e => hc e.1)], O50.old⟩
end Go.Proofs.YtbemhgojfehnjaaDoor
namespace Go.Proofs.YtbemhgojfehnjaaDoor
open Go Go.RowKit
theorem Ins.nil (D : Nat → Prop) (w : World) : Ins D [] [] w := ⟨rfl, fun i g v h => by simp at h⟩
theorem Ins.cons {D : Nat → Prop} {w : World} {g : Gate} {v : Value} {L : List Gate} {vs : List Value} (h : IntsD D w v g.inp) (hs : Ins D L vs w) : Ins D (g :: L) (v :: vs) w := by
  refine ⟨by simp [hs.1], fun i g' v' h1 h2 => ?_⟩
  cases i with
  | zero =>
    simp at h1 h2
    subst h1 h2
    exact h
  | succ i => exact hs.2 i g' v' (by simpa using h1) (by simpa using h2)
theorem gates_nil (w : World) (B : Nat) : GatesV w B (.slice none 0 0) [] := ⟨none, 0, rfl, Nat.le_refl _, Nat.zero_le _, fun h => absurd h (Nat.lt_irrefl _)⟩
end Go.Proofs.YtbemhgojfehnjaaDoor
namespace Go.Proofs.YtbemhgojfehnjaaDoor
open Go Go.RowKit
/-- What is appended. -/
def Src (w : World) (A : Option Addr) (m : Nat) (news : List Value) : Prop := (A = none ∧ m = 0 ∧ news = []) ∨ ∃ a, A = some a ∧ ∀ j u, news[j]? = some u → w.cell? (a.add j) = some u
section
variable {Z : Bool → Nat → Prop} {w0 w W : World} {L : List En}
theorem run_append_nil {te e size bytes : Nat} {z : Value} (E : El te e size bytes z) (ty : TypeId) (b : Option Addr) (k c c2 : Nat) (h : k ≤ c) : (Builtin.append_ #[te, te] ty #[.slice b k c, .slice none 0 c2]).run Tryd.prog w = .ok (.slice b k c) w := by
  obtain ⟨i, hi, hz, hsz, hb⟩ := info_parts E.info
  cases b <;> simp [Builtin.append_, run_underlying E.under, Go.sizeOf, typeInfo, hi, Builtin.lenOf, h, Builtin.firstCells, storeCells]
theorem own_appS {te e : TypeId} {size bytes : Nat} {z v : Value} {k m c : Nat} {A : Option Addr} {xs news : List Value} (hO : Own Z w0 w (.row v e size k xs :: L)) (E : El te e size bytes z) (hl : news.length = m * size) (hs : Src w A m news) (h1 : ∀ u ∈ news, u.oneCell' = true) (hlen : (k + m) * bytes ≤ 140737488355328) (hn : k + m ≤ 1099511627776) {ys : List Value} (hy : xs ++ news = ys) :
    ∃ A' c' w', (∀ (ρ : Operand → Value) x y d t pos aft gd, ρ x = v → ρ y = .slice A m c → (execOp ρ ⟨d, .call ⟨.builtin .append, #[x, y], #[te, te]⟩, t, pos, aft, gd⟩).run Tryd.prog w = .ok (.value (.slice A' (k + m) c')) w') ∧
      Own Z w0 w' (.row (.slice A' (k + m) c') e size (k + m) ys :: L) ∧ w.heap.size ≤ w'.heap.size := by
  rcases hs with ⟨rfl, rfl, rfl⟩ | ⟨a, rfl, hnews⟩
  · have hr := hO.row 0 rfl
    obtain ⟨b, c', rfl⟩ := own_form hr
    have hc := row_cap hr
    subst hy
    refine ⟨b, c', w, fun ρ x y d t pos aft gd hx hy => exec_append hx hy (run_append_nil E t b k c' c hc), ?_, Nat.le_refl _⟩
    rw [List.append_nil]
    exact hO
  · exact own_appN hO E hl hnews h1 hlen hn hy
theorem ints_src {B n c : Nat} {A : Option Addr} {xs : List Int} (h : IntsV w B (.slice A n c) xs) {W : World} (hb : Below B w W) : Src W A n (intCs xs) := by
  cases A with
  | none =>
    have hx := h.nilOf
    subst hx
    obtain ⟨A, c', hv, _⟩ := h
    injection hv with _ h2 _
    exact .inl ⟨rfl, h2, rfl⟩
  | some a => exact .inr ⟨a, rfl, h.cellsAt hb⟩
theorem gcells_inv : ∀ (L : List Gate) (vs : List Value), L.length = vs.length → ∀ {j : Nat} {u : Value}, (gcells L vs)[j]? = some u → ∃ i g v, L[i]? = some g ∧ vs[i]? = some v ∧ ((j = i * 3 ∧ u = .int .i64 g.kind) ∨ (j = i * 3 + 1 ∧ u = .int .i64 g.lit) ∨ (j = i * 3 + 2 ∧ u = v))
  | [], _, _, j, u, h => by simp [gcells] at h
  | g :: L, [], hl, _, _, _ => by cases hl
  | g :: L, v :: vs, hl, 0, u, h => by
    refine ⟨0, g, v, rfl, rfl, .inl ⟨rfl, ?_⟩⟩
    simpa [gcells, gcell] using h.symm
  | g :: L, v :: vs, hl, 1, u, h => by
    refine ⟨0, g, v, rfl, rfl, .inr (.inl ⟨rfl, ?_⟩)⟩
    simpa [gcells, gcell] using h.symm
  | g :: L, v :: vs, hl, 2, u, h => by
    refine ⟨0, g, v, rfl, rfl, .inr (.inr ⟨rfl, ?_⟩)⟩
    simpa [gcells, gcell] using h.symm
  | g :: L, v :: vs, hl, j + 3, u, h => by
    obtain ⟨i, g', v', h1, h2, h3⟩ := gcells_inv L vs (by simpa using hl) (j := j) (u := u) (by simpa [gcells, gcell] using h)
    refine ⟨i + 1, g', v', by simpa using h1, by simpa using h2, ?_⟩
    rcases h3 with ⟨a, b⟩ | ⟨a, b⟩ | ⟨a, b⟩
    · exact .inl ⟨by omega, b⟩
    · exact .inr (.inl ⟨by omega, b⟩)
    · exact .inr (.inr ⟨by omega, b⟩)
theorem gcells_len : ∀ (L : List Gate) (vs : List Value), L.length = vs.length → (gcells L vs).length = L.length * 3
  | [], _, _ => rfl
  | _ :: _, [], h => by cases h
  | g :: L, v :: vs, h => by
    show (gcell g v ++ gcells L vs).length = _
    rw [List.length_append, gcells_len L vs (by simpa using h)]
    simp [gcell]; omega
/-- A list of values, one for each place. -/
theorem choose_list {α : Type} {P : Nat → α → Prop} : ∀ (n : Nat), (∀ i, i < n → ∃ v, P i v) → ∃ vs : List α, vs.length = n ∧ ∀ i v, vs[i]? = some v → P i v
  | 0, _ => ⟨[], rfl, fun i v h => by simp at h⟩
  | n + 1, h => by
    obtain ⟨vs, h1, h2⟩ := choose_list n (fun i hi => h i (by omega))
    obtain ⟨v, hv⟩ := h n (by omega)
    refine ⟨vs ++ [v], by simp [h1], fun i u hu => ?_⟩
    rcases snoc_cases hu with ⟨a, _⟩ | ⟨a, rfl⟩
    · exact h2 i u a
    · rw [a, h1]; exact hv
/-- Gates that are read, as cells. -/
theorem gates_cells {B n c : Nat} {A : Option Addr} {gs : List Gate} (h : GatesV w B (.slice A n c) gs) : ∃ vs, Ins (fun k => k < B) gs vs w ∧ (∀ v ∈ vs, ∃ A c, v = .slice A c c ∨ ∃ n, v = .slice A n c) ∧ ∀ W, Below B w W → Src W A n (gcells gs vs) := by
  obtain ⟨A', c', hv, _, _, h3⟩ := h
  injection hv with h1 h2 h4
  subst h1 h2 h4
  cases hgs : gs with
  | nil =>
    refine ⟨[], Ins.nil _ _, by simp, fun W _ => ?_⟩
    subst hgs
    cases A with
    | none => exact .inl ⟨rfl, rfl, rfl⟩
    | some a => exact .inr ⟨a, rfl, fun j u hj => by simp [gcells] at hj⟩
  | cons g0 gr =>
    rw [← hgs]
    obtain ⟨b, o, hB, hA, hc⟩ := h3 (by rw [hgs]; simp)
    obtain ⟨vs, hl, hvs⟩ := choose_list (P := fun i v => ∃ g, gs[i]? = some g ∧ w.cell? ⟨b, o + i * 3 + 2, none⟩ = some v ∧ IntsV w B v g.inp) gs.length (fun i hi => by
      obtain ⟨_, _, v, k3, k4⟩ := hc i gs[i] (List.getElem?_eq_getElem hi)
      exact ⟨v, gs[i], List.getElem?_eq_getElem hi, k3, k4⟩)
    refine ⟨vs, ⟨hl.symm, fun i g v q1 q2 => ?_⟩, fun v hv => ?_, fun W hb => .inr ⟨_, hA, fun j u hj => ?_⟩⟩
    · obtain ⟨g', a1, _, a3⟩ := hvs i v q2
      rw [q1] at a1
      injection a1 with a1
      subst a1
      exact IntsD.of_V a3
    · obtain ⟨i, hi⟩ := List.mem_iff_getElem?.1 hv
      obtain ⟨g', _, _, a3⟩ := hvs i v hi
      obtain ⟨A5, c5, h5, _⟩ := a3
      exact ⟨A5, c5, .inr ⟨_, h5⟩⟩
    · rw [addr_plus, hb.cell (by exact hB)]
      obtain ⟨i, g, v, q1, q2, q3⟩ := gcells_inv gs vs hl.symm hj
      obtain ⟨k0, k1, _⟩ := hc i g q1
      obtain ⟨g', a1, a2, _⟩ := hvs i v q2
      rcases q3 with ⟨rfl, rfl⟩ | ⟨rfl, rfl⟩ | ⟨rfl, rfl⟩
      · exact k0
      · exact k1
      · exact a2
theorem gcells_one {L : List Gate} {vs : List Value} (hl : L.length = vs.length) (h : ∀ v ∈ vs, ∃ A c, v = .slice A c c ∨ ∃ n, v = .slice A n c) : ∀ u ∈ gcells L vs, u.oneCell' = true := by
  intro u hu
  obtain ⟨j, hj⟩ := List.mem_iff_getElem?.1 hu
  obtain ⟨i, g, v, _, q2, q3⟩ := gcells_inv L vs hl hj
  rcases q3 with ⟨_, rfl⟩ | ⟨_, rfl⟩ | ⟨_, rfl⟩
  · rfl
  · rfl
  · obtain ⟨A, c, rfl | ⟨n, rfl⟩⟩ := h _ (List.mem_of_getElem? q2) <;> rfl
end
end Go.Proofs.YtbemhgojfehnjaaDoor
namespace Go.Proofs.YtbemhgojfehnjaaDoor
open Go Go.RowKit
theorem rsame_ {W : World} {V1 V2 : Value} {xs ys : List Int} (hV1 : IntsV W W.heap.size V1 xs) (hV2 : IntsV W W.heap.size V2 ys) (hn : xs.length ≤ 1000000000) (hn2 : ys.length ≤ 1000000000) : Calls Tryd.prog 73 #[V1, V2] W fun e w' => e = .returned (.bool (decide (xs = ys))) ∧ Below W.heap.size W w' := by
  obtain ⟨A1, c1, rfl, _, _, _⟩ := id hV1
  obtain ⟨A2, c2, rfl, _, _, _⟩ := id hV2
  have O0 : Own Z0 W W [] := Own.start W
  refine sx_enter (args := [.slice A1 xs.length c1, .slice A2 ys.length c2]) Tryd.func73 rfl rfl (by simp) ?_
  refine cw_seq (fun FK1 K1 => ?_)
  refine cw_region ?_
  refine wl_val (v := .bool false) (fun ρ e => ex_assign (e _ _ rfl)) rfl rfl ?_
  refine wl_nil ?_
  refine xw_next K1 ?_
  refine cw_seq (fun FK2 K2 => ?_)
  refine cw_seq (fun FK3 K3 => ?_)
  refine cw_region ?_
  refine wl_val (v := .slice A1 xs.length c1) (fun ρ e => ex_move (e _ _ rfl)) rfl rfl ?_
  refine wl_val (v := .int .i64 ((xs.length : Nat) : Int)) (fun ρ e => ex_len el36 (e _ _ rfl)) rfl rfl ?_
  refine wl_val (v := .slice A2 ys.length c2) (fun ρ e => ex_move (e _ _ rfl)) rfl rfl ?_
  refine wl_val (v := .int .i64 ((ys.length : Nat) : Int)) (fun ρ e => ex_len el36 (e _ _ rfl)) rfl rfl ?_
  by_cases c4 : ((xs.length : Nat) : Int) ≠ ((ys.length : Nat) : Int)
  · skip
    refine wl_val (v := .bool true) (fun ρ e => ex_cmp (u := ((xs.length : Nat) : Int)) (v := ((ys.length : Nat) : Int)) (e _ _ rfl) (e _ _ rfl) (neq1 (by omega))) rfl rfl ?_
    refine wl_nil ?_
    refine xw_next K3 ?_
    refine cw_true rfl ?_
    refine cw_seq (fun FK5 K5 => ?_)
    refine cw_region ?_
    refine wl_val (v := .bool false) (fun ρ e => ex_assign (e _ _ rfl)) rfl rfl ?_
    refine wl_nil ?_
    refine xw_next K5 ?_
    refine cw_ret ?_
    refine xw_past (by intro h; cases h) ?_
    refine xw_ret (v := .bool false) (fun T hT => res1 rfl T _ (hT 4 _ rfl)) ?_
    exact ⟨by rw [decide_eq_false (fun e => c4 (by rw [e]))], O0.old⟩
  · skip
    have hlen : xs.length = ys.length := by omega
    refine wl_val (v := .bool false) (fun ρ e => ex_cmp (u := ((xs.length : Nat) : Int)) (v := ((ys.length : Nat) : Int)) (e _ _ rfl) (e _ _ rfl) (neq0 (by omega))) rfl rfl ?_
    refine wl_nil ?_
    refine xw_next K3 ?_
    refine cw_false rfl ?_
    refine cw_skip ?_
    refine xw_next K2 ?_
    refine cw_seq (fun FK6 K6 => ?_)
    refine cw_seq (fun FK7 K7 => ?_)
    refine cw_region ?_
    refine wl_val (v := .int .i64 0) (fun ρ e => ex_assign (e _ _ rfl)) rfl rfl ?_
    refine wl_nil ?_
    refine xw_next K7 ?_
    refine cw_block ?_
    refine cw_loop (ι := Nat) (fun q => [(0, .slice A1 xs.length c1), (1, .slice A2 ys.length c2), (5, .int .i64 (q : Int))]) (fun q X => (q ≤ xs.length) ∧ (xs.take q = ys.take q) ∧ Own Z0 W X []) (fun q => xs.length - q) 0 ⟨Nat.zero_le _, rfl, O0⟩ ⟨rfl, rfl, rfl, trivial⟩ (fun q w8 hJ F9 K10 => ?_)
    obtain ⟨k, rfl⟩ : ∃ x, x = q := ⟨_, rfl⟩
    obtain ⟨hk0, hp, O11⟩ := hJ
    try dsimp only at hk0 hp O11 ⊢
    by_cases hk : k < xs.length
    · obtain ⟨x, hxk, hdx, _⟩ := drop_cons hk
      obtain ⟨y, hyk, hdy, _⟩ := drop_cons (show k < ys.length by omega)
      obtain ⟨b1, o1, d1, hb1⟩ := (IntsD.of_V hV1).form (by omega)
      obtain ⟨b2, o2, d2, hb2⟩ := (IntsD.of_V hV2).form (by omega)
      refine cw_seq (fun FK12 K12 => ?_)
      refine cw_seq (fun FK13 K13 => ?_)
      refine cw_region ?_
      refine wl_val (v := .int .i64 (k : Int)) (fun ρ e => ex_move (e _ _ rfl)) rfl rfl ?_
      refine wl_val (v := .slice A1 xs.length c1) (fun ρ e => ex_move (e _ _ rfl)) rfl rfl ?_
      refine wl_val (v := .int .i64 ((xs.length : Nat) : Int)) (fun ρ e => ex_len el36 (e _ _ rfl)) rfl rfl ?_
      refine wl_val (v := .bool true) (fun ρ e => ex_cmp (u := (k : Int)) (v := ((xs.length : Nat) : Int)) (e _ _ rfl) (e _ _ rfl) (lss1 (by omega))) rfl rfl ?_
      refine wl_nil ?_
      refine xw_next K13 ?_
      refine cw_true rfl ?_
      refine cw_skip ?_
      refine xw_next K12 ?_
      refine cw_seq (fun FK14 K14 => ?_)
      refine cw_block ?_
      refine cw_seq (fun FK15 K15 => ?_)
      refine cw_drawn (fun X => Own Z0 W X []) 9 [(0, 1), (1, 1), (2, 1), (3, 0), (4, 1), (5, 1), (6, 1), (7, 0), (8, 1)] (by kernel_rfl) (by kernel_rfl) (PQ.then_ (PQ.block (PQ.then_ (PQ.then_ (PQ.block (PQ.then_ PQ.body)))))) (O11).drew ?_
      have O16 : Own Z0 W w8.drew [] := O11.drew
      refine wt1 (v := .slice A1 xs.length c1) rfl (fun ρ e W => ex_move (e _ _ rfl)) rfl rfl ?_
      refine wt1 (v := .int .i64 (k : Int)) rfl (fun ρ e W => ex_move (e _ _ rfl)) rfl rfl ?_
      refine wt1 (v := .pointer (some ⟨b1, o1 + k, none⟩)) rfl (fun ρ e W => ex_idx (q := o1 + k) (o := o1) (i := k) el36 ((e _ _ rfl).trans hb1) (e _ _ rfl) (by omega) (by omega)) rfl rfl ?_
      refine wt0 (v := .int .i64 x) rfl (fun ρ e W hW => ex_load1 ty3 (e _ _ rfl) (((hV1.below hW.old).at1 hb1 (by omega) hxk))) rfl rfl ?_
      refine wt1 (v := .slice A2 ys.length c2) rfl (fun ρ e W => ex_move (e _ _ rfl)) rfl rfl ?_
      refine wt1 (v := .int .i64 (k : Int)) rfl (fun ρ e W => ex_move (e _ _ rfl)) rfl rfl ?_
      refine wt1 (v := .pointer (some ⟨b2, o2 + k, none⟩)) rfl (fun ρ e W => ex_idx (q := o2 + k) (o := o2) (i := k) el36 ((e _ _ rfl).trans hb2) (e _ _ rfl) (by omega) (by omega)) rfl rfl ?_
      refine wt0 (v := .int .i64 y) rfl (fun ρ e W hW => ex_load1 ty3 (e _ _ rfl) (((hV2.below hW.old).at1 hb2 (by omega) hyk))) rfl rfl ?_
      by_cases c17 : x ≠ y
      · skip
        refine wt1 (v := .bool true) rfl (fun ρ e W => ex_cmp (u := x) (v := y) (e _ _ rfl) (e _ _ rfl) (neq1 (by omega))) rfl rfl ?_
        refine wt_nil ?_
        refine xw_next K15 ?_
        refine cw_true rfl ?_
        refine cw_seq (fun FK18 K18 => ?_)
        refine cw_region ?_
        refine wl_val (v := .bool false) (fun ρ e => ex_assign (e _ _ rfl)) rfl rfl ?_
        refine wl_nil ?_
        refine xw_next K18 ?_
        refine cw_ret ?_
        refine xw_blockret ?_
        refine xw_past (by intro h; cases h) ?_
        refine xw_past (by intro h; cases h) ?_
        refine xw_blockret ?_
        refine xw_past (by intro h; cases h) ?_
        refine xw_ret (v := .bool false) (fun T hT => res1 rfl T _ (hT 4 _ rfl)) ?_
        exact ⟨by rw [decide_eq_false (fun e => c17 (by subst e; rw [hxk] at hyk; exact Option.some.inj hyk))], O16.old⟩
      · skip
        have c17e : y = x := by omega
        refine wt1 (v := .bool false) rfl (fun ρ e W => ex_cmp (u := x) (v := y) (e _ _ rfl) (e _ _ rfl) (neq0 (by omega))) rfl rfl ?_
        refine wt_nil ?_
        refine xw_next K15 ?_
        refine cw_false rfl ?_
        refine cw_skip ?_
        refine xw_block ?_
        refine xw_next K14 ?_
        refine cw_region ?_
        refine wl_val (v := .int .i64 (k : Int)) (fun ρ e => ex_move (e _ _ rfl)) rfl rfl ?_
        refine wl_val (v := .int .i64 ((k + 1 : Nat) : Int)) (fun ρ e => ex_arith (k := .i64) (u := (k : Int)) (v := 1) (e _ _ rfl) (e _ _ rfl) (congrArg some ((congrArg _ (by omega)).trans (wrap_in (u := ((k + 1 : Nat) : Int)) (by omega) (by omega))))) rfl rfl ?_
        refine wl_val (v := .int .i64 ((k + 1 : Nat) : Int)) (fun ρ e => ex_assign (e _ _ rfl)) rfl rfl ?_
        refine wl_nil ?_
        refine xw_round K10 (k + 1) (by show xs.length - (k + 1) < xs.length - k; omega) ⟨(by show k + 1 ≤ _; omega), (take_snoc hp hxk (c17e ▸ hyk)), O16⟩ ⟨rfl, rfl, rfl, trivial⟩
    · have hke : k = xs.length := by omega
      refine cw_seq (fun FK19 K19 => ?_)
      refine cw_seq (fun FK20 K20 => ?_)
      refine cw_region ?_
      refine wl_val (v := .int .i64 (k : Int)) (fun ρ e => ex_move (e _ _ rfl)) rfl rfl ?_
      refine wl_val (v := .slice A1 xs.length c1) (fun ρ e => ex_move (e _ _ rfl)) rfl rfl ?_
      refine wl_val (v := .int .i64 ((xs.length : Nat) : Int)) (fun ρ e => ex_len el36 (e _ _ rfl)) rfl rfl ?_
      refine wl_val (v := .bool false) (fun ρ e => ex_cmp (u := (k : Int)) (v := ((xs.length : Nat) : Int)) (e _ _ rfl) (e _ _ rfl) (lss0 (by omega))) rfl rfl ?_
      refine wl_nil ?_
      refine xw_next K20 ?_
      refine cw_false rfl ?_
      refine cw_exit ?_
      refine xw_past (by intro h; cases h) ?_
      refine xw_past (by intro h; cases h) ?_
      refine xw_here ?_
      refine xw_next K6 ?_
      refine cw_seq (fun FK21 K21 => ?_)
      refine cw_region ?_
      refine wl_val (v := .bool true) (fun ρ e => ex_assign (e _ _ rfl)) rfl rfl ?_
      refine wl_nil ?_
      refine xw_next K21 ?_
      refine cw_ret ?_
      refine xw_ret (v := .bool true) (fun T hT => res1 rfl T _ (hT 4 _ rfl)) ?_
      exact ⟨by rw [decide_eq_true (by rw [hke, List.take_length] at hp; rw [hp, show xs.length = ys.length by omega, List.take_length])], O11.old⟩
theorem requal_ {W : World} {V1 V2 : Value} {g h : Gate} (hV1 : IntsV W W.heap.size V1 g.inp) (hV2 : IntsV W W.heap.size V2 h.inp) (hn : g.inp.length ≤ 1000000000) (hn2 : h.inp.length ≤ 1000000000) : Calls Tryd.prog 43 #[.agg #[.int .i64 g.kind, .int .i64 g.lit, V1], .agg #[.int .i64 h.kind, .int .i64 h.lit, V2]] W fun e w' => e = .returned (.bool (decide (g = h))) ∧ Below W.heap.size W w' := by
  have O0 : Own Z0 W W [] := Own.start W
  refine sx_enter (args := [.agg #[.int .i64 g.kind, .int .i64 g.lit, V1], .agg #[.int .i64 h.kind, .int .i64 h.lit, V2]]) Tryd.func43 rfl rfl (by simp) ?_
  refine cw_seq (fun FK1 K1 => ?_)
  refine cw_region ?_
  obtain ⟨g2, w3, r4, O5, hg6, hs7⟩ := own_box O0 38 (.agg #[.int .i64 g.kind, .int .i64 g.lit, V1]) rfl
  refine wl_val (v := .pointer (some ⟨g2, 0, none⟩)) (fun ρ e => r4 ρ _ _ _ _ _ _ (e _ _ rfl)) rfl rfl ?_
  obtain ⟨g8, w9, r10, O11, hg12, hs13⟩ := own_box O5 38 (.agg #[.int .i64 h.kind, .int .i64 h.lit, V2]) rfl
  refine wl_val (v := .pointer (some ⟨g8, 0, none⟩)) (fun ρ e => r10 ρ _ _ _ _ _ _ (e _ _ rfl)) rfl rfl ?_
  refine wl_val (v := .bool false) (fun ρ e => ex_assign (e _ _ rfl)) rfl rfl ?_
  refine wl_nil ?_
  refine xw_next K1 ?_
  refine cw_seq (fun FK14 K14 => ?_)
  refine cw_region ?_
  refine wl_val (v := .pointer (some ⟨g2, 0, none⟩)) (fun ρ e => ex_field (q := 0) fi38_0 (e _ _ rfl) rfl) rfl rfl ?_
  refine wl_val (v := .int .i64 g.kind) (fun ρ e => ex_load1 ty3 (e _ _ rfl) (O11.cell 1 0 rfl rfl)) rfl rfl ?_
  refine wl_val (v := .pointer (some ⟨g8, 0, none⟩)) (fun ρ e => ex_field (q := 0) fi38_0 (e _ _ rfl) rfl) rfl rfl ?_
  refine wl_val (v := .int .i64 h.kind) (fun ρ e => ex_load1 ty3 (e _ _ rfl) (O11.cell 0 0 rfl rfl)) rfl rfl ?_
  by_cases c15 : g.kind = h.kind
  · skip
    refine wl_val (v := .bool true) (fun ρ e => ex_cmp (u := g.kind) (v := h.kind) (e _ _ rfl) (e _ _ rfl) (eql1 (by omega))) rfl rfl ?_
    refine wl_val (v := .bool true) (fun ρ e => ex_move (e _ _ rfl)) rfl rfl ?_
    refine wl_val (v := .pointer (some ⟨g2, 1, none⟩)) (fun ρ e => ex_field (q := 1) fi38_1 (e _ _ rfl) rfl) rfl rfl ?_
    refine wl_val (v := .int .i64 g.lit) (fun ρ e => ex_load1 ty3 (e _ _ rfl) (O11.cell 1 1 rfl rfl)) rfl rfl ?_
    refine wl_val (v := .pointer (some ⟨g8, 1, none⟩)) (fun ρ e => ex_field (q := 1) fi38_1 (e _ _ rfl) rfl) rfl rfl ?_
    refine wl_val (v := .int .i64 h.lit) (fun ρ e => ex_load1 ty3 (e _ _ rfl) (O11.cell 0 1 rfl rfl)) rfl rfl ?_
    by_cases c16 : g.lit = h.lit
    · skip
      refine wl_val (v := .bool true) (fun ρ e => ex_cmp (u := g.lit) (v := h.lit) (e _ _ rfl) (e _ _ rfl) (eql1 (by omega))) rfl rfl ?_
      refine wl_val (v := .bool true) (fun ρ e => ex_pick1 (e _ _ rfl) (e _ _ rfl)) rfl rfl ?_
      refine wl_val (v := .bool true) (fun ρ e => ex_move (e _ _ rfl)) rfl rfl ?_
      refine wl_val (v := .pointer (some ⟨g2, 2, none⟩)) (fun ρ e => ex_field (q := 2) fi38_2 (e _ _ rfl) rfl) rfl rfl ?_
      refine wl_val (v := V1) (fun ρ e => ex_load1 ty36 (e _ _ rfl) (O11.cell 1 2 rfl rfl)) rfl rfl ?_
      refine wl_val (v := .pointer (some ⟨g8, 2, none⟩)) (fun ρ e => ex_field (q := 2) fi38_2 (e _ _ rfl) rfl) rfl rfl ?_
      refine wl_val (v := V2) (fun ρ e => ex_load1 ty36 (e _ _ rfl) (O11.cell 0 2 rfl rfl)) rfl rfl ?_
      refine wl_call (args := [V1, V2]) in_73 rfl rfl rfl ?_
      refine (rsame_ ((hV1.below O11.old).more O11.old.size) ((hV2.below O11.old).more O11.old.size) hn hn2).mono ?_
      rintro _ w17 ⟨rfl, hb18⟩
      have O19 : Own Z0 W w17 [.blk g8 38 #[.int .i64 h.kind, .int .i64 h.lit, V2], .blk g2 38 #[.int .i64 g.kind, .int .i64 g.lit, V1]] := O11.below hb18
      refine ⟨_, rfl, ?_⟩
      refine wl_val (v := .bool (decide (g.inp = h.inp))) (fun ρ e => ex_pick1 (e _ _ rfl) (e _ _ rfl)) rfl rfl ?_
      refine wl_val (v := .bool (decide (g.inp = h.inp))) (fun ρ e => ex_assign (e _ _ rfl)) rfl rfl ?_
      refine wl_nil ?_
      refine xw_next K14 ?_
      refine cw_ret ?_
      refine xw_ret (v := .bool (decide (g.inp = h.inp))) (fun T hT => res1 rfl T _ (hT 4 _ rfl)) ?_
      exact ⟨by rw [gate_dec c15 c16], O19.old⟩
    · skip
      refine wl_val (v := .bool false) (fun ρ e => ex_cmp (u := g.lit) (v := h.lit) (e _ _ rfl) (e _ _ rfl) (eql0 (by omega))) rfl rfl ?_
      refine wl_val (v := .bool false) (fun ρ e => ex_pick1 (e _ _ rfl) (e _ _ rfl)) rfl rfl ?_
      refine wl_val (v := .bool false) (fun ρ e => ex_move (e _ _ rfl)) rfl rfl ?_
      refine wl_skip rfl rfl ?_
      refine wl_skip rfl rfl ?_
      refine wl_skip rfl rfl ?_
      refine wl_skip rfl rfl ?_
      refine wl_skip rfl rfl ?_
      refine wl_val (v := .bool false) (fun ρ e => ex_pick0 (e _ _ rfl) (e _ _ rfl)) rfl rfl ?_
      refine wl_val (v := .bool false) (fun ρ e => ex_assign (e _ _ rfl)) rfl rfl ?_
      refine wl_nil ?_
      refine xw_next K14 ?_
      refine cw_ret ?_
      refine xw_ret (v := .bool false) (fun T hT => res1 rfl T _ (hT 4 _ rfl)) ?_
      exact ⟨by rw [decide_eq_false (fun e => c16 (by rw [e]))], O11.old⟩
  · skip
    refine wl_val (v := .bool false) (fun ρ e => ex_cmp (u := g.kind) (v := h.kind) (e _ _ rfl) (e _ _ rfl) (eql0 (by omega))) rfl rfl ?_
    refine wl_val (v := .bool false) (fun ρ e => ex_move (e _ _ rfl)) rfl rfl ?_
    refine wl_skip rfl rfl ?_
    refine wl_skip rfl rfl ?_
    refine wl_skip rfl rfl ?_
    refine wl_skip rfl rfl ?_
    refine wl_skip rfl rfl ?_
    refine wl_val (v := .bool false) (fun ρ e => ex_pick0 (e _ _ rfl) (e _ _ rfl)) rfl rfl ?_
    refine wl_val (v := .bool false) (fun ρ e => ex_move (e _ _ rfl)) rfl rfl ?_
    refine wl_skip rfl rfl ?_
    refine wl_skip rfl rfl ?_
    refine wl_skip rfl rfl ?_
    refine wl_skip rfl rfl ?_
    refine wl_skip rfl rfl ?_
    refine wl_val (v := .bool false) (fun ρ e => ex_pick0 (e _ _ rfl) (e _ _ rfl)) rfl rfl ?_
    refine wl_val (v := .bool false) (fun ρ e => ex_assign (e _ _ rfl)) rfl rfl ?_
    refine wl_nil ?_
    refine xw_next K14 ?_
    refine cw_ret ?_
    refine xw_ret (v := .bool false) (fun T hT => res1 rfl T _ (hT 4 _ rfl)) ?_
    exact ⟨by rw [decide_eq_false (fun e => c15 (by rw [e]))], O11.old⟩
theorem rcsame_ {W : World} {V1 V2 : Value} {N M : Int} {gs hs : List Gate} (hV1 : GatesV W W.heap.size V1 gs) (hV2 : GatesV W W.heap.size V2 hs) (hn : shortG gs) (hn2 : shortG hs) (hl : gs.length ≤ 1000000000) (hl2 : hs.length ≤ 1000000000) : Calls Tryd.prog 20 #[.agg #[.int .i64 N, V1], .agg #[.int .i64 M, V2]] W fun e w' => e = .returned (.bool (decide (N = M ∧ gs = hs))) ∧ Below W.heap.size W w' := by
  obtain ⟨A1, c1, rfl, _, hm1, _⟩ := id hV1
  obtain ⟨A2, c2, rfl, _, hm2, _⟩ := id hV2
  have O0 : Own Z0 W W [] := Own.start W
  refine sx_enter (args := [.agg #[.int .i64 N, .slice A1 gs.length c1], .agg #[.int .i64 M, .slice A2 hs.length c2]]) Tryd.func20 rfl rfl (by simp) ?_
  refine cw_seq (fun FK1 K1 => ?_)
  refine cw_region ?_
  obtain ⟨g2, w3, r4, O5, hg6, hs7⟩ := own_box O0 24 (.agg #[.int .i64 N, .slice A1 gs.length c1]) rfl
  refine wl_val (v := .pointer (some ⟨g2, 0, none⟩)) (fun ρ e => r4 ρ _ _ _ _ _ _ (e _ _ rfl)) rfl rfl ?_
  obtain ⟨g8, w9, r10, O11, hg12, hs13⟩ := own_box O5 24 (.agg #[.int .i64 M, .slice A2 hs.length c2]) rfl
  refine wl_val (v := .pointer (some ⟨g8, 0, none⟩)) (fun ρ e => r10 ρ _ _ _ _ _ _ (e _ _ rfl)) rfl rfl ?_
  refine wl_val (v := .bool false) (fun ρ e => ex_assign (e _ _ rfl)) rfl rfl ?_
  refine wl_nil ?_
  refine xw_next K1 ?_
  refine cw_seq (fun FK14 K14 => ?_)
  refine cw_seq (fun FK15 K15 => ?_)
  refine cw_region ?_
  refine wl_val (v := .pointer (some ⟨g2, 0, none⟩)) (fun ρ e => ex_field (q := 0) fi24_0 (e _ _ rfl) rfl) rfl rfl ?_
  refine wl_val (v := .int .i64 N) (fun ρ e => ex_load1 ty3 (e _ _ rfl) (O11.cell 1 0 rfl rfl)) rfl rfl ?_
  refine wl_val (v := .pointer (some ⟨g8, 0, none⟩)) (fun ρ e => ex_field (q := 0) fi24_0 (e _ _ rfl) rfl) rfl rfl ?_
  refine wl_val (v := .int .i64 M) (fun ρ e => ex_load1 ty3 (e _ _ rfl) (O11.cell 0 0 rfl rfl)) rfl rfl ?_
  by_cases c16 : N ≠ M
  · skip
    refine wl_val (v := .bool true) (fun ρ e => ex_cmp (u := N) (v := M) (e _ _ rfl) (e _ _ rfl) (neq1 (by omega))) rfl rfl ?_
    refine wl_val (v := .bool true) (fun ρ e => ex_move (e _ _ rfl)) rfl rfl ?_
    refine wl_skip rfl rfl ?_
    refine wl_skip rfl rfl ?_
    refine wl_skip rfl rfl ?_
    refine wl_skip rfl rfl ?_
    refine wl_skip rfl rfl ?_
    refine wl_skip rfl rfl ?_
    refine wl_skip rfl rfl ?_
    refine wl_val (v := .bool true) (fun ρ e => ex_pick1 (e _ _ rfl) (e _ _ rfl)) rfl rfl ?_
    refine wl_nil ?_
    refine xw_next K15 ?_
    refine cw_true rfl ?_
    refine cw_seq (fun FK17 K17 => ?_)
    refine cw_region ?_
    refine wl_val (v := .bool false) (fun ρ e => ex_assign (e _ _ rfl)) rfl rfl ?_
    refine wl_nil ?_
    refine xw_next K17 ?_
    refine cw_ret ?_
    refine xw_past (by intro h; cases h) ?_
    refine xw_ret (v := .bool false) (fun T hT => res1 rfl T _ (hT 4 _ rfl)) ?_
    exact ⟨by rw [decide_eq_false (fun e => c16 (by rw [e.1]))], O11.old⟩
  · skip
    have hc16 : N = M := by omega
    refine wl_val (v := .bool false) (fun ρ e => ex_cmp (u := N) (v := M) (e _ _ rfl) (e _ _ rfl) (neq0 (by omega))) rfl rfl ?_
    refine wl_val (v := .bool false) (fun ρ e => ex_move (e _ _ rfl)) rfl rfl ?_
    refine wl_val (v := .pointer (some ⟨g2, 1, none⟩)) (fun ρ e => ex_field (q := 1) fi24_1 (e _ _ rfl) rfl) rfl rfl ?_
    refine wl_val (v := .slice A1 gs.length c1) (fun ρ e => ex_load1 ty22 (e _ _ rfl) (O11.cell 1 1 rfl rfl)) rfl rfl ?_
    refine wl_val (v := .int .i64 ((gs.length : Nat) : Int)) (fun ρ e => ex_len el22 (e _ _ rfl)) rfl rfl ?_
    refine wl_val (v := .pointer (some ⟨g8, 1, none⟩)) (fun ρ e => ex_field (q := 1) fi24_1 (e _ _ rfl) rfl) rfl rfl ?_
    refine wl_val (v := .slice A2 hs.length c2) (fun ρ e => ex_load1 ty22 (e _ _ rfl) (O11.cell 0 1 rfl rfl)) rfl rfl ?_
    refine wl_val (v := .int .i64 ((hs.length : Nat) : Int)) (fun ρ e => ex_len el22 (e _ _ rfl)) rfl rfl ?_
    by_cases c18 : ((gs.length : Nat) : Int) ≠ ((hs.length : Nat) : Int)
    · skip
      refine wl_val (v := .bool true) (fun ρ e => ex_cmp (u := ((gs.length : Nat) : Int)) (v := ((hs.length : Nat) : Int)) (e _ _ rfl) (e _ _ rfl) (neq1 (by omega))) rfl rfl ?_
      refine wl_val (v := .bool true) (fun ρ e => ex_pick0 (e _ _ rfl) (e _ _ rfl)) rfl rfl ?_
      refine wl_nil ?_
      refine xw_next K15 ?_
      refine cw_true rfl ?_
      refine cw_seq (fun FK19 K19 => ?_)
      refine cw_region ?_
      refine wl_val (v := .bool false) (fun ρ e => ex_assign (e _ _ rfl)) rfl rfl ?_
      refine wl_nil ?_
      refine xw_next K19 ?_
      refine cw_ret ?_
      refine xw_past (by intro h; cases h) ?_
      refine xw_ret (v := .bool false) (fun T hT => res1 rfl T _ (hT 4 _ rfl)) ?_
      exact ⟨by rw [decide_eq_false (fun e => c18 (by rw [e.2]))], O11.old⟩
    · skip
      have hc18 : ((gs.length : Nat) : Int) = ((hs.length : Nat) : Int) := by omega
      refine wl_val (v := .bool false) (fun ρ e => ex_cmp (u := ((gs.length : Nat) : Int)) (v := ((hs.length : Nat) : Int)) (e _ _ rfl) (e _ _ rfl) (neq0 (by omega))) rfl rfl ?_
      refine wl_val (v := .bool false) (fun ρ e => ex_pick0 (e _ _ rfl) (e _ _ rfl)) rfl rfl ?_
      refine wl_nil ?_
      refine xw_next K15 ?_
      refine cw_false rfl ?_
      refine cw_skip ?_
      refine xw_next K14 ?_
      refine cw_seq (fun FK20 K20 => ?_)
      refine cw_seq (fun FK21 K21 => ?_)
      refine cw_region ?_
      refine wl_val (v := .int .i64 0) (fun ρ e => ex_assign (e _ _ rfl)) rfl rfl ?_
      refine wl_nil ?_
      refine xw_next K21 ?_
      refine cw_block ?_
      refine cw_loop (ι := Nat) (fun q => [(2, .pointer (some ⟨g2, 0, none⟩)), (3, .pointer (some ⟨g8, 0, none⟩)), (5, .int .i64 (q : Int))]) (fun q X => (q ≤ gs.length) ∧ (gs.take q = hs.take q) ∧ Own Z0 W X [.blk g8 24 #[.int .i64 M, .slice A2 hs.length c2], .blk g2 24 #[.int .i64 N, .slice A1 gs.length c1]]) (fun q => gs.length - q) 0 ⟨Nat.zero_le _, rfl, O11⟩ ⟨rfl, rfl, rfl, trivial⟩ (fun q w22 hJ F23 K24 => ?_)
      obtain ⟨k, rfl⟩ : ∃ x, x = q := ⟨_, rfl⟩
      obtain ⟨hk0, hp, O25⟩ := hJ
      try dsimp only at hk0 hp O25 ⊢
      by_cases hk : k < gs.length
      · have hk2 : k < hs.length := by omega
        obtain ⟨b1, o1, I1, e1, hA1, hB1, p10, p11, p12, hI1, _, _⟩ := hV1.at_ (Below.refl _ _) (show k < gs.length by omega)
        obtain ⟨b2, o2, I2, e2, hA2, hB2, p20, p21, p22, hI2, _, _⟩ := hV2.at_ (Below.refl _ _) (show k < hs.length by omega)
        by_cases heq : gs[k] = hs[k]
        · have hdec : decide (gs[k] = hs[k]) = true := by simp [heq]
          refine cw_seq (fun FK26 K26 => ?_)
          refine cw_seq (fun FK27 K27 => ?_)
          refine cw_region ?_
          refine wl_val (v := .int .i64 (k : Int)) (fun ρ e => ex_move (e _ _ rfl)) rfl rfl ?_
          refine wl_val (v := .pointer (some ⟨g2, 1, none⟩)) (fun ρ e => ex_field (q := 1) fi24_1 (e _ _ rfl) rfl) rfl rfl ?_
          refine wl_val (v := .slice A1 gs.length c1) (fun ρ e => ex_load1 ty22 (e _ _ rfl) (O25.cell 1 1 rfl rfl)) rfl rfl ?_
          refine wl_val (v := .int .i64 ((gs.length : Nat) : Int)) (fun ρ e => ex_len el22 (e _ _ rfl)) rfl rfl ?_
          refine wl_val (v := .bool true) (fun ρ e => ex_cmp (u := (k : Int)) (v := ((gs.length : Nat) : Int)) (e _ _ rfl) (e _ _ rfl) (lss1 (by omega))) rfl rfl ?_
          refine wl_nil ?_
          refine xw_next K27 ?_
          refine cw_true rfl ?_
          refine cw_skip ?_
          refine xw_next K26 ?_
          refine cw_seq (fun FK28 K28 => ?_)
          refine cw_block ?_
          refine cw_seq (fun FK29 K29 => ?_)
          refine cw_drawn (fun X => Own Z0 W X [.blk g8 24 #[.int .i64 M, .slice A2 hs.length c2], .blk g2 24 #[.int .i64 N, .slice A1 gs.length c1]]) 12 [(0, 1), (1, 0), (2, 1), (3, 1), (4, 0), (5, 1), (6, 0), (7, 1), (8, 1), (9, 0), (10, 2), (11, 1)] (by kernel_rfl) (by kernel_rfl) (PQ.then_ (PQ.block (PQ.then_ (PQ.then_ (PQ.block (PQ.then_ PQ.body)))))) (O25).drew ?_
          have O30 : Own Z0 W w22.drew [.blk g8 24 #[.int .i64 M, .slice A2 hs.length c2], .blk g2 24 #[.int .i64 N, .slice A1 gs.length c1]] := O25.drew
          refine wt1 (v := .pointer (some ⟨g2, 1, none⟩)) rfl (fun ρ e W => ex_field (q := 1) fi24_1 (e _ _ rfl) rfl) rfl rfl ?_
          refine wt0 (v := .slice A1 gs.length c1) rfl (fun ρ e W hW => ex_load1 ty22 (e _ _ rfl) (hW.cell 1 1 rfl rfl)) rfl rfl ?_
          refine wt1 (v := .int .i64 (k : Int)) rfl (fun ρ e W => ex_move (e _ _ rfl)) rfl rfl ?_
          refine wt1 (v := .pointer (some ⟨b1, o1 + k * 3, none⟩)) rfl (fun ρ e W => ex_idx (q := o1 + k * 3) (g := b1) (o := o1) (i := k) el22 ((e _ _ rfl).trans (congrArg (fun z => Value.slice z gs.length c1) hA1)) (e _ _ rfl) (by omega) (by omega)) rfl rfl ?_
          refine wt0 (v := .agg #[.int .i64 (gs[k].kind), .int .i64 (gs[k].lit), .slice I1 (gs[k].inp.length) e1]) rfl (fun ρ e W hW => ex_loadN (vs := [.int .i64 (gs[k].kind), .int .i64 (gs[k].lit), .slice I1 (gs[k].inp.length) e1]) ty38 (e _ _ rfl) rfl (cells3 ((hW.old.cell (p := ⟨b1, o1 + k * 3, none⟩) hB1).trans p10) ((hW.old.cell (p := ⟨b1, o1 + k * 3 + 1, none⟩) hB1).trans p11) ((hW.old.cell (p := ⟨b1, o1 + k * 3 + 2, none⟩) hB1).trans p12))) rfl rfl ?_
          refine wt1 (v := .pointer (some ⟨g8, 1, none⟩)) rfl (fun ρ e W => ex_field (q := 1) fi24_1 (e _ _ rfl) rfl) rfl rfl ?_
          refine wt0 (v := .slice A2 hs.length c2) rfl (fun ρ e W hW => ex_load1 ty22 (e _ _ rfl) (hW.cell 0 1 rfl rfl)) rfl rfl ?_
          refine wt1 (v := .int .i64 (k : Int)) rfl (fun ρ e W => ex_move (e _ _ rfl)) rfl rfl ?_
          refine wt1 (v := .pointer (some ⟨b2, o2 + k * 3, none⟩)) rfl (fun ρ e W => ex_idx (q := o2 + k * 3) (g := b2) (o := o2) (i := k) el22 ((e _ _ rfl).trans (congrArg (fun z => Value.slice z hs.length c2) hA2)) (e _ _ rfl) (by omega) (by omega)) rfl rfl ?_
          refine wt0 (v := .agg #[.int .i64 (hs[k].kind), .int .i64 (hs[k].lit), .slice I2 (hs[k].inp.length) e2]) rfl (fun ρ e W hW => ex_loadN (vs := [.int .i64 (hs[k].kind), .int .i64 (hs[k].lit), .slice I2 (hs[k].inp.length) e2]) ty38 (e _ _ rfl) rfl (cells3 ((hW.old.cell (p := ⟨b2, o2 + k * 3, none⟩) hB2).trans p20) ((hW.old.cell (p := ⟨b2, o2 + k * 3 + 1, none⟩) hB2).trans p21) ((hW.old.cell (p := ⟨b2, o2 + k * 3 + 2, none⟩) hB2).trans p22))) rfl rfl ?_
          refine wt2_call (args := [.agg #[.int .i64 (gs[k].kind), .int .i64 (gs[k].lit), .slice I1 (gs[k].inp.length) e1], .agg #[.int .i64 (hs[k].kind), .int .i64 (hs[k].lit), .slice I2 (hs[k].inp.length) e2]]) rfl in_43 rfl rfl rfl ?_
          refine (requal_ (g := gs[k]) (h := hs[k]) ((hI1.below O30.old).more O30.old.size) ((hI2.below O30.old).more O30.old.size) (hn _ (List.getElem_mem hk)) (hn2 _ (List.getElem_mem hk2))).mono ?_
          rintro _ w31 ⟨rfl, hb32⟩
          have O33 : Own Z0 W w31 [.blk g8 24 #[.int .i64 M, .slice A2 hs.length c2], .blk g2 24 #[.int .i64 N, .slice A1 gs.length c1]] := O30.below hb32
          rw [hdec]
          refine ⟨_, rfl, O33, ?_⟩
          refine wt1 (v := .bool false) rfl (fun ρ e W => ex_lnot (b := true) (e _ _ rfl)) rfl rfl ?_
          refine wt_nil ?_
          refine xw_next K29 ?_
          refine cw_false rfl ?_
          refine cw_skip ?_
          refine xw_block ?_
          refine xw_next K28 ?_
          refine cw_region ?_
          refine wl_val (v := .int .i64 (k : Int)) (fun ρ e => ex_move (e _ _ rfl)) rfl rfl ?_
          refine wl_val (v := .int .i64 ((k + 1 : Nat) : Int)) (fun ρ e => ex_arith (k := .i64) (u := (k : Int)) (v := 1) (e _ _ rfl) (e _ _ rfl) (congrArg some ((congrArg _ (by omega)).trans (wrap_in (u := ((k + 1 : Nat) : Int)) (by omega) (by omega))))) rfl rfl ?_
          refine wl_val (v := .int .i64 ((k + 1 : Nat) : Int)) (fun ρ e => ex_assign (e _ _ rfl)) rfl rfl ?_
          refine wl_nil ?_
          refine xw_round K24 (k + 1) (by show gs.length - (k + 1) < gs.length - k; omega) ⟨(by show k + 1 ≤ _; omega), (take_snoc hp (List.getElem?_eq_getElem hk) (heq ▸ List.getElem?_eq_getElem hk2)), O33⟩ ⟨rfl, rfl, rfl, trivial⟩
        · have hdec : decide (gs[k] = hs[k]) = false := by simp [heq]
          refine cw_seq (fun FK34 K34 => ?_)
          refine cw_seq (fun FK35 K35 => ?_)
          refine cw_region ?_
          refine wl_val (v := .int .i64 (k : Int)) (fun ρ e => ex_move (e _ _ rfl)) rfl rfl ?_
          refine wl_val (v := .pointer (some ⟨g2, 1, none⟩)) (fun ρ e => ex_field (q := 1) fi24_1 (e _ _ rfl) rfl) rfl rfl ?_
          refine wl_val (v := .slice A1 gs.length c1) (fun ρ e => ex_load1 ty22 (e _ _ rfl) (O25.cell 1 1 rfl rfl)) rfl rfl ?_
          refine wl_val (v := .int .i64 ((gs.length : Nat) : Int)) (fun ρ e => ex_len el22 (e _ _ rfl)) rfl rfl ?_
          refine wl_val (v := .bool true) (fun ρ e => ex_cmp (u := (k : Int)) (v := ((gs.length : Nat) : Int)) (e _ _ rfl) (e _ _ rfl) (lss1 (by omega))) rfl rfl ?_
          refine wl_nil ?_
          refine xw_next K35 ?_
          refine cw_true rfl ?_
          refine cw_skip ?_
          refine xw_next K34 ?_
          refine cw_seq (fun FK36 K36 => ?_)
          refine cw_block ?_
          refine cw_seq (fun FK37 K37 => ?_)
          refine cw_drawn (fun X => Own Z0 W X [.blk g8 24 #[.int .i64 M, .slice A2 hs.length c2], .blk g2 24 #[.int .i64 N, .slice A1 gs.length c1]]) 12 [(0, 1), (1, 0), (2, 1), (3, 1), (4, 0), (5, 1), (6, 0), (7, 1), (8, 1), (9, 0), (10, 2), (11, 1)] (by kernel_rfl) (by kernel_rfl) (PQ.then_ (PQ.block (PQ.then_ (PQ.then_ (PQ.block (PQ.then_ PQ.body)))))) (O25).drew ?_
          have O38 : Own Z0 W w22.drew [.blk g8 24 #[.int .i64 M, .slice A2 hs.length c2], .blk g2 24 #[.int .i64 N, .slice A1 gs.length c1]] := O25.drew
          refine wt1 (v := .pointer (some ⟨g2, 1, none⟩)) rfl (fun ρ e W => ex_field (q := 1) fi24_1 (e _ _ rfl) rfl) rfl rfl ?_
          refine wt0 (v := .slice A1 gs.length c1) rfl (fun ρ e W hW => ex_load1 ty22 (e _ _ rfl) (hW.cell 1 1 rfl rfl)) rfl rfl ?_
          refine wt1 (v := .int .i64 (k : Int)) rfl (fun ρ e W => ex_move (e _ _ rfl)) rfl rfl ?_
          refine wt1 (v := .pointer (some ⟨b1, o1 + k * 3, none⟩)) rfl (fun ρ e W => ex_idx (q := o1 + k * 3) (g := b1) (o := o1) (i := k) el22 ((e _ _ rfl).trans (congrArg (fun z => Value.slice z gs.length c1) hA1)) (e _ _ rfl) (by omega) (by omega)) rfl rfl ?_
          refine wt0 (v := .agg #[.int .i64 (gs[k].kind), .int .i64 (gs[k].lit), .slice I1 (gs[k].inp.length) e1]) rfl (fun ρ e W hW => ex_loadN (vs := [.int .i64 (gs[k].kind), .int .i64 (gs[k].lit), .slice I1 (gs[k].inp.length) e1]) ty38 (e _ _ rfl) rfl (cells3 ((hW.old.cell (p := ⟨b1, o1 + k * 3, none⟩) hB1).trans p10) ((hW.old.cell (p := ⟨b1, o1 + k * 3 + 1, none⟩) hB1).trans p11) ((hW.old.cell (p := ⟨b1, o1 + k * 3 + 2, none⟩) hB1).trans p12))) rfl rfl ?_
          refine wt1 (v := .pointer (some ⟨g8, 1, none⟩)) rfl (fun ρ e W => ex_field (q := 1) fi24_1 (e _ _ rfl) rfl) rfl rfl ?_
          refine wt0 (v := .slice A2 hs.length c2) rfl (fun ρ e W hW => ex_load1 ty22 (e _ _ rfl) (hW.cell 0 1 rfl rfl)) rfl rfl ?_
          refine wt1 (v := .int .i64 (k : Int)) rfl (fun ρ e W => ex_move (e _ _ rfl)) rfl rfl ?_
          refine wt1 (v := .pointer (some ⟨b2, o2 + k * 3, none⟩)) rfl (fun ρ e W => ex_idx (q := o2 + k * 3) (g := b2) (o := o2) (i := k) el22 ((e _ _ rfl).trans (congrArg (fun z => Value.slice z hs.length c2) hA2)) (e _ _ rfl) (by omega) (by omega)) rfl rfl ?_
          refine wt0 (v := .agg #[.int .i64 (hs[k].kind), .int .i64 (hs[k].lit), .slice I2 (hs[k].inp.length) e2]) rfl (fun ρ e W hW => ex_loadN (vs := [.int .i64 (hs[k].kind), .int .i64 (hs[k].lit), .slice I2 (hs[k].inp.length) e2]) ty38 (e _ _ rfl) rfl (cells3 ((hW.old.cell (p := ⟨b2, o2 + k * 3, none⟩) hB2).trans p20) ((hW.old.cell (p := ⟨b2, o2 + k * 3 + 1, none⟩) hB2).trans p21) ((hW.old.cell (p := ⟨b2, o2 + k * 3 + 2, none⟩) hB2).trans p22))) rfl rfl ?_
          refine wt2_call (args := [.agg #[.int .i64 (gs[k].kind), .int .i64 (gs[k].lit), .slice I1 (gs[k].inp.length) e1], .agg #[.int .i64 (hs[k].kind), .int .i64 (hs[k].lit), .slice I2 (hs[k].inp.length) e2]]) rfl in_43 rfl rfl rfl ?_
          refine (requal_ (g := gs[k]) (h := hs[k]) ((hI1.below O38.old).more O38.old.size) ((hI2.below O38.old).more O38.old.size) (hn _ (List.getElem_mem hk)) (hn2 _ (List.getElem_mem hk2))).mono ?_
          rintro _ w39 ⟨rfl, hb40⟩
          have O41 : Own Z0 W w39 [.blk g8 24 #[.int .i64 M, .slice A2 hs.length c2], .blk g2 24 #[.int .i64 N, .slice A1 gs.length c1]] := O38.below hb40
          rw [hdec]
          refine ⟨_, rfl, O41, ?_⟩
          refine wt1 (v := .bool true) rfl (fun ρ e W => ex_lnot (b := false) (e _ _ rfl)) rfl rfl ?_
          refine wt_nil ?_
          refine xw_next K37 ?_
          refine cw_true rfl ?_
          refine cw_seq (fun FK42 K42 => ?_)
          refine cw_region ?_
          refine wl_val (v := .bool false) (fun ρ e => ex_assign (e _ _ rfl)) rfl rfl ?_
          refine wl_nil ?_
          refine xw_next K42 ?_
          refine cw_ret ?_
          refine xw_blockret ?_
          refine xw_past (by intro h; cases h) ?_
          refine xw_past (by intro h; cases h) ?_
          refine xw_blockret ?_
          refine xw_past (by intro h; cases h) ?_
          refine xw_ret (v := .bool false) (fun T hT => res1 rfl T _ (hT 4 _ rfl)) ?_
          exact ⟨by rw [decide_eq_false (fun e => heq (by have := e.2; subst this; rfl))], O41.old⟩
      · have hke : k = gs.length := by omega
        refine cw_seq (fun FK43 K43 => ?_)
        refine cw_seq (fun FK44 K44 => ?_)
        refine cw_region ?_
        refine wl_val (v := .int .i64 (k : Int)) (fun ρ e => ex_move (e _ _ rfl)) rfl rfl ?_
        refine wl_val (v := .pointer (some ⟨g2, 1, none⟩)) (fun ρ e => ex_field (q := 1) fi24_1 (e _ _ rfl) rfl) rfl rfl ?_
        refine wl_val (v := .slice A1 gs.length c1) (fun ρ e => ex_load1 ty22 (e _ _ rfl) (O25.cell 1 1 rfl rfl)) rfl rfl ?_
        refine wl_val (v := .int .i64 ((gs.length : Nat) : Int)) (fun ρ e => ex_len el22 (e _ _ rfl)) rfl rfl ?_
        refine wl_val (v := .bool false) (fun ρ e => ex_cmp (u := (k : Int)) (v := ((gs.length : Nat) : Int)) (e _ _ rfl) (e _ _ rfl) (lss0 (by omega))) rfl rfl ?_
        refine wl_nil ?_
        refine xw_next K44 ?_
        refine cw_false rfl ?_
        refine cw_exit ?_
        refine xw_past (by intro h; cases h) ?_
        refine xw_past (by intro h; cases h) ?_
        refine xw_here ?_
        refine xw_next K20 ?_
        refine cw_seq (fun FK45 K45 => ?_)
        refine cw_region ?_
        refine wl_val (v := .bool true) (fun ρ e => ex_assign (e _ _ rfl)) rfl rfl ?_
        refine wl_nil ?_
        refine xw_next K45 ?_
        refine cw_ret ?_
        refine xw_ret (v := .bool true) (fun T hT => res1 rfl T _ (hT 4 _ rfl)) ?_
        exact ⟨by rw [decide_eq_true (⟨by omega, by rw [hke, List.take_length] at hp; rw [hp, show gs.length = hs.length by omega, List.take_length]⟩)], O25.old⟩
theorem copy_ {W : World} {V : Value} {N : Int} {gs : List Gate} (hV : GatesV W W.heap.size V gs) (hsh : ∀ g ∈ gs, g.inp.length ≤ 1000000) (hl : gs.length ≤ 1000000) : Calls Tryd.prog 16 #[.agg #[.int .i64 N, V]] W fun e w' => ∃ A c D vs, e = .returned (.agg #[.int .i64 N, .slice A gs.length c]) ∧ Own Z0 W w' [.row (.slice A gs.length c) 38 3 gs.length (gcells gs vs), ownE D gs vs] ∧ ∀ k, D k → W.heap.size ≤ k := by
  obtain ⟨A, c, rfl, _, _, _⟩ := id hV
  have O0 : Own Z0 W W [] := Own.start W
  refine sx_enter (args := [.agg #[.int .i64 N, .slice A gs.length c]]) Tryd.func16 rfl rfl (by simp) ?_
  refine cw_seq (fun FK1 K1 => ?_)
  refine cw_region ?_
  obtain ⟨g2, w3, r4, O5, hg6, hs7⟩ := own_box O0 24 (.agg #[.int .i64 N, .slice A gs.length c]) rfl
  refine wl_val (v := .pointer (some ⟨g2, 0, none⟩)) (fun ρ e => r4 ρ _ _ _ _ _ _ (e _ _ rfl)) rfl rfl ?_
  obtain ⟨g8, w9, r10, O11, hg12, hs13⟩ := own_alloc O5 24 ze24 rfl
  refine wl_val (v := .pointer (some ⟨g8, 0, none⟩)) (fun ρ e => r10 ρ _ _ _ _ _) rfl rfl ?_
  refine wl_nil ?_
  refine xw_next K1 ?_
  refine cw_seq (fun FK14 K14 => ?_)
  refine cw_region ?_
  refine wl_val (v := .pointer (some ⟨g2, 0, none⟩)) (fun ρ e => ex_field (q := 0) fi24_0 (e _ _ rfl) rfl) rfl rfl ?_
  refine wl_val (v := .int .i64 N) (fun ρ e => ex_load1 ty3 (e _ _ rfl) (O11.cell 1 0 rfl rfl)) rfl rfl ?_
  refine wl_val (v := .agg #[.int .i64 N, .slice none 0 0]) (fun ρ e => ex_build (cells := #[.int .i64 N, .slice none 0 0]) st24 (e.parts rfl) rfl) rfl rfl ?_
  obtain ⟨g15, w16, r17, O18, hg19, hs20⟩ := own_alloc O11 24 ze24 rfl
  refine wl_val (v := .pointer (some ⟨g15, 0, none⟩)) (fun ρ e => r17 ρ _ _ _ _ _) rfl rfl ?_
  obtain ⟨w21, r22, O23, hs24⟩ := own_put (o := 0) (n := 2) O18 ty24 (.agg #[.int .i64 N, .slice none 0 0]) [.int .i64 N, .slice none 0 0] (cs' := #[.int .i64 N, .slice none 0 0]) rfl rfl rfl (Nat.le_of_ble_eq_true rfl) rfl
  refine wl_none (fun ρ e => r22 ρ _ _ _ _ _ _ (e _ _ rfl) (e _ _ rfl)) rfl ?_
  refine wl_nil ?_
  refine xw_next K14 ?_
  refine cw_seq (fun FK25 K25 => ?_)
  refine cw_seq (fun FK26 K26 => ?_)
  refine cw_region ?_
  refine wl_val (v := .pointer (some ⟨g2, 1, none⟩)) (fun ρ e => ex_field (q := 1) fi24_1 (e _ _ rfl) rfl) rfl rfl ?_
  refine wl_val (v := .slice A gs.length c) (fun ρ e => ex_load1 ty22 (e _ _ rfl) (O23.cell 2 1 rfl rfl)) rfl rfl ?_
  refine wl_val (v := .int .i64 ((gs.length : Nat) : Int)) (fun ρ e => ex_len el22 (e _ _ rfl)) rfl rfl ?_
  refine wl_val (v := .int .i64 0) (fun ρ e => ex_move (e _ _ rfl)) rfl rfl ?_
  refine wl_nil ?_
  refine xw_next K26 ?_
  refine cw_block ?_
  skip
  have O27 : Own Z0 W w21 [.row (.slice none 0 0) 38 3 0 (gcells [] []), .blk g15 24 #[.int .i64 N, .slice none 0 0], .blk g8 24 #[.int .i64 0, .slice none 0 0], .blk g2 24 #[.int .i64 N, .slice A gs.length c]] := O23.nilrow 38 3
  have O28 : Own Z0 W w21 [.ro (fun _ => False) (OwnIns (fun _ => False) [] []), .row (.slice none 0 0) 38 3 0 (gcells [] []), .blk g15 24 #[.int .i64 N, .slice none 0 0], .blk g8 24 #[.int .i64 0, .slice none 0 0], .blk g2 24 #[.int .i64 N, .slice A gs.length c]] := O27.nilown
  have O29 : Own Z0 W w21 [.row (.slice none 0 0) 38 3 0 (gcells [] []), .ro (fun _ => False) (OwnIns (fun _ => False) [] []), .blk g15 24 #[.int .i64 N, .slice none 0 0], .blk g8 24 #[.int .i64 0, .slice none 0 0], .blk g2 24 #[.int .i64 N, .slice A gs.length c]] := (O28.re [1, 0, 2, 3, 4] rfl : Own Z0 W w21 [.row (.slice none 0 0) 38 3 0 (gcells [] []), .ro (fun _ => False) (OwnIns (fun _ => False) [] []), .blk g15 24 #[.int .i64 N, .slice none 0 0], .blk g8 24 #[.int .i64 0, .slice none 0 0], .blk g2 24 #[.int .i64 N, .slice A gs.length c]])
  refine cw_loop (ι := Nat × Option Addr × Nat × List Value × (Nat → Prop)) (fun q => [(2, .pointer (some ⟨g8, 0, none⟩)), (3, .pointer (some ⟨g15, 0, none⟩)), (10, .slice A gs.length c), (11, .int .i64 ((gs.length : Nat) : Int)), (12, .int .i64 (q.1 : Int))]) (fun q X => (q.1 ≤ gs.length) ∧ (∀ k, q.2.2.2.2 k → W.heap.size ≤ k) ∧ Own Z0 W X [.row (.slice q.2.1 q.1 q.2.2.1) 38 3 q.1 (gcells (gs.take q.1) q.2.2.2.1), .ro q.2.2.2.2 (OwnIns q.2.2.2.2 (gs.take q.1) q.2.2.2.1), .blk g15 24 #[.int .i64 N, .slice q.2.1 q.1 q.2.2.1], .blk g8 24 #[.int .i64 0, .slice none 0 0], .blk g2 24 #[.int .i64 N, .slice A gs.length c]]) (fun q => gs.length - q.1) (0, none, 0, [], (fun _ => False)) ⟨Nat.zero_le _, (fun k hk => hk.elim), O29⟩ ⟨rfl, rfl, rfl, rfl, rfl, trivial⟩ (fun q w30 hJ F31 K32 => ?_)
  obtain ⟨i, Ao, co, vo, Do⟩ := q
  obtain ⟨hi0, hDo, O33⟩ := hJ
  dsimp only at hi0 hDo O33 ⊢
  by_cases hk : i < gs.length
  · obtain ⟨bG, oG, AI, cI, hbA, hbB, k0, k1, k2, hIV, _, _⟩ := hV.at_ (Below.refl _ _) hk
    have hig := hsh _ (List.getElem_mem hk)
    have htk : gs.take (i + 1) = gs.take i ++ [gs[i]] := (List.take_append_getElem hk).symm
    refine cw_seq (fun FK34 K34 => ?_)
    refine cw_region ?_
    refine wl_val (v := .bool true) (fun ρ e => ex_cmp (u := (i : Int)) (v := ((gs.length : Nat) : Int)) (e _ _ rfl) (e _ _ rfl) (lss1 (by omega))) rfl rfl ?_
    refine wl_nil ?_
    refine xw_next K34 ?_
    refine cw_seq (fun FK35 K35 => ?_)
    refine cw_true rfl ?_
    refine cw_skip ?_
    refine xw_next K35 ?_
    refine cw_seq (fun FK36 K36 => ?_)
    refine cw_block ?_
    refine cw_seq (fun FK37 K37 => ?_)
    refine cw_region ?_
    refine wl_val (v := .pointer (some ⟨bG, oG + i * 3, none⟩)) (fun ρ e => ex_idx (q := oG + i * 3) (g := bG) (o := oG) (i := i) el22 ((e _ _ rfl).trans (congrArg (fun z => Value.slice z gs.length c) hbA)) (e _ _ rfl) hk (by omega)) rfl rfl ?_
    refine wl_val (v := .agg #[.int .i64 (gs[i].kind), .int .i64 (gs[i].lit), .slice AI (gs[i].inp.length) cI]) (fun ρ e => ex_loadN (vs := [.int .i64 (gs[i].kind), .int .i64 (gs[i].lit), .slice AI (gs[i].inp.length) cI]) ty38 (e _ _ rfl) rfl (cells3 ((O33.old.cell (p := ⟨bG, oG + i * 3, none⟩) hbB).trans k0) ((O33.old.cell (p := ⟨bG, oG + i * 3 + 1, none⟩) hbB).trans k1) ((O33.old.cell (p := ⟨bG, oG + i * 3 + 2, none⟩) hbB).trans k2))) rfl rfl ?_
    obtain ⟨g38, w39, r40, O41, hg42, hs43⟩ := own_alloc O33 38 ze38 rfl
    refine wl_val (v := .pointer (some ⟨g38, 0, none⟩)) (fun ρ e => r40 ρ _ _ _ _ _) rfl rfl ?_
    obtain ⟨w44, r45, O46, hs47⟩ := own_put (o := 0) (n := 3) O41 ty38 (.agg #[.int .i64 (gs[i].kind), .int .i64 (gs[i].lit), .slice AI (gs[i].inp.length) cI]) [.int .i64 (gs[i].kind), .int .i64 (gs[i].lit), .slice AI (gs[i].inp.length) cI] (cs' := #[.int .i64 (gs[i].kind), .int .i64 (gs[i].lit), .slice AI (gs[i].inp.length) cI]) rfl rfl rfl (Nat.le_of_ble_eq_true rfl) rfl
    refine wl_none (fun ρ e => r45 ρ _ _ _ _ _ _ (e _ _ rfl) (e _ _ rfl)) rfl ?_
    refine wl_nil ?_
    refine xw_next K37 ?_
    refine cw_drawn (fun X => Own Z0 W X [.blk g38 38 #[.int .i64 (gs[i].kind), .int .i64 (gs[i].lit), .slice AI (gs[i].inp.length) cI], .ro Do (OwnIns Do (gs.take i) vo), .blk g15 24 #[.int .i64 N, .slice Ao i co], .blk g8 24 #[.int .i64 0, .slice none 0 0], .blk g2 24 #[.int .i64 N, .slice A gs.length c]]) 14 [(0, 1), (1, 0), (2, 1), (3, 0), (4, 1), (5, 0), (7, 1), (8, 0), (6, 2), (9, 2), (10, 1), (11, 2), (12, 2), (13, 1), (14, 3)] (by kernel_rfl) (by kernel_rfl) (PQ.block (PQ.then_ (PQ.then_ (PQ.block (PQ.then_ PQ.body))))) ((O46.re [0, 2, 3, 4, 5] rfl : Own Z0 W w44 [.blk g38 38 #[.int .i64 (gs[i].kind), .int .i64 (gs[i].lit), .slice AI (gs[i].inp.length) cI], .ro Do (OwnIns Do (gs.take i) vo), .blk g15 24 #[.int .i64 N, .slice Ao i co], .blk g8 24 #[.int .i64 0, .slice none 0 0], .blk g2 24 #[.int .i64 N, .slice A gs.length c]])).drew ?_
    have O48 : Own Z0 W w44.drew [.blk g38 38 #[.int .i64 (gs[i].kind), .int .i64 (gs[i].lit), .slice AI (gs[i].inp.length) cI], .row (.slice Ao i co) 38 3 i (gcells (gs.take i) vo), .ro Do (OwnIns Do (gs.take i) vo), .blk g15 24 #[.int .i64 N, .slice Ao i co], .blk g8 24 #[.int .i64 0, .slice none 0 0], .blk g2 24 #[.int .i64 N, .slice A gs.length c]] := O46.drew
    refine wt1 (v := .pointer (some ⟨g15, 1, none⟩)) rfl (fun ρ e W => ex_field (q := 1) fi24_1 (e _ _ rfl) rfl) rfl rfl ?_
    refine wt0 (v := .slice Ao i co) rfl (fun ρ e W hW => ex_load1 ty22 (e _ _ rfl) (hW.cell 2 1 rfl rfl)) rfl rfl ?_
    refine wt1 (v := .pointer (some ⟨g38, 0, none⟩)) rfl (fun ρ e W => ex_field (q := 0) fi38_0 (e _ _ rfl) rfl) rfl rfl ?_
    refine wt0 (v := .int .i64 (gs[i].kind)) rfl (fun ρ e W hW => ex_load1 ty3 (e _ _ rfl) (hW.cell 0 0 rfl rfl)) rfl rfl ?_
    refine wt1 (v := .pointer (some ⟨g38, 1, none⟩)) rfl (fun ρ e W => ex_field (q := 1) fi38_1 (e _ _ rfl) rfl) rfl rfl ?_
    refine wt0 (v := .int .i64 (gs[i].lit)) rfl (fun ρ e W hW => ex_load1 ty3 (e _ _ rfl) (hW.cell 0 1 rfl rfl)) rfl rfl ?_
    refine wt1 (v := .pointer (some ⟨g38, 2, none⟩)) rfl (fun ρ e W => ex_field (q := 2) fi38_2 (e _ _ rfl) rfl) rfl rfl ?_
    refine wt0 (v := .slice AI (gs[i].inp.length) cI) rfl (fun ρ e W hW => ex_load1 ty36 (e _ _ rfl) (hW.cell 0 2 rfl rfl)) rfl rfl ?_
    obtain ⟨g49, w50, r51, O52, hg53, hs54⟩ := own_slice O48 el36 ze3 0 [] (cs := #[]) (by decide) (by kernel_rfl)
    refine wt2 (v := .slice (some ⟨g49, 0, none⟩) 0 0) rfl (fun ρ e => r51 ρ _ _ _ _ _ _ (e.parts rfl)) rfl rfl (O52.re [1, 3, 4, 5, 6] rfl : Own Z0 W w50 [.blk g38 38 #[.int .i64 (gs[i].kind), .int .i64 (gs[i].lit), .slice AI (gs[i].inp.length) cI], .ro Do (OwnIns Do (gs.take i) vo), .blk g15 24 #[.int .i64 N, .slice Ao i co], .blk g8 24 #[.int .i64 0, .slice none 0 0], .blk g2 24 #[.int .i64 N, .slice A gs.length c]]) ?_
    have O61 := Own.blkrow (xs := []) (n := 0) O52 rfl rfl (by decide)
    obtain ⟨A55, c56, w57, r58, O59, hz60⟩ := own_appS (m := gs[i].inp.length) (c := cI) (A := AI) (news := intCs gs[i].inp) O61 ap36 (by simp [intCs]) (ints_src (hIV.below O61.old) (Below.refl _ _)) (intCs_one _) (by omega) (by omega) (ys := intCs gs[i].inp) rfl
    rw [Nat.zero_add] at r58 O59
    have O59n := O59.rownew 0 rfl
    refine wt2 (v := .slice A55 (gs[i].inp.length) c56) rfl (fun ρ e => r58 ρ _ _ _ _ _ _ _ (e _ _ rfl) (e _ _ rfl)) rfl rfl (O59.re [1, 3, 4, 5, 6] rfl : Own Z0 W w57 [.blk g38 38 #[.int .i64 (gs[i].kind), .int .i64 (gs[i].lit), .slice AI (gs[i].inp.length) cI], .ro Do (OwnIns Do (gs.take i) vo), .blk g15 24 #[.int .i64 N, .slice Ao i co], .blk g8 24 #[.int .i64 0, .slice none 0 0], .blk g2 24 #[.int .i64 N, .slice A gs.length c]]) ?_
    refine wt1 (v := .agg #[.int .i64 (gs[i].kind), .int .i64 (gs[i].lit), .slice A55 (gs[i].inp.length) c56]) rfl (fun ρ e W => ex_build (cells := #[.int .i64 (gs[i].kind), .int .i64 (gs[i].lit), .slice A55 (gs[i].inp.length) c56]) st38 (e.parts rfl) rfl) rfl rfl ?_
    obtain ⟨g62, w63, r64, O65, hg66, hs67⟩ := own_slice O59 el22 ze38 1 [(0, .agg #[.int .i64 (gs[i].kind), .int .i64 (gs[i].lit), .slice A55 (gs[i].inp.length) c56])] (cs := #[.int .i64 (gs[i].kind), .int .i64 (gs[i].lit), .slice A55 (gs[i].inp.length) c56]) (by decide) (by kernel_rfl)
    refine wt2 (v := .slice (some ⟨g62, 0, none⟩) 1 1) rfl (fun ρ e => r64 ρ _ _ _ _ _ _ (e.parts rfl)) rfl rfl (O65.re [2, 4, 5, 6, 7] rfl : Own Z0 W w63 [.blk g38 38 #[.int .i64 (gs[i].kind), .int .i64 (gs[i].lit), .slice AI (gs[i].inp.length) cI], .ro Do (OwnIns Do (gs.take i) vo), .blk g15 24 #[.int .i64 N, .slice Ao i co], .blk g8 24 #[.int .i64 0, .slice none 0 0], .blk g2 24 #[.int .i64 N, .slice A gs.length c]]) ?_
    obtain ⟨A68, c69, w70, r71, O72, hz73, hc74⟩ := own_app1 (O65.re [3, 0, 1, 2, 4, 5, 6, 7] rfl : Own Z0 W w63 [.row (.slice Ao i co) 38 3 i (gcells (gs.take i) vo), .blk g62 38 #[.int .i64 (gs[i].kind), .int .i64 (gs[i].lit), .slice A55 (gs[i].inp.length) c56], .row (.slice A55 (gs[i].inp.length) c56) 3 1 (gs[i].inp.length) (intCs gs[i].inp), .blk g38 38 #[.int .i64 (gs[i].kind), .int .i64 (gs[i].lit), .slice AI (gs[i].inp.length) cI], .ro Do (OwnIns Do (gs.take i) vo), .blk g15 24 #[.int .i64 N, .slice Ao i co], .blk g8 24 #[.int .i64 0, .slice none 0 0], .blk g2 24 #[.int .i64 N, .slice A gs.length c]]) ap22 ((O65.re [3, 0, 1, 2, 4, 5, 6, 7] rfl : Own Z0 W w63 [.row (.slice Ao i co) 38 3 i (gcells (gs.take i) vo), .blk g62 38 #[.int .i64 (gs[i].kind), .int .i64 (gs[i].lit), .slice A55 (gs[i].inp.length) c56], .row (.slice A55 (gs[i].inp.length) c56) 3 1 (gs[i].inp.length) (intCs gs[i].inp), .blk g38 38 #[.int .i64 (gs[i].kind), .int .i64 (gs[i].lit), .slice AI (gs[i].inp.length) cI], .ro Do (OwnIns Do (gs.take i) vo), .blk g15 24 #[.int .i64 N, .slice Ao i co], .blk g8 24 #[.int .i64 0, .slice none 0 0], .blk g2 24 #[.int .i64 N, .slice A gs.length c]]).blk 1 rfl) (cells := [.int .i64 (gs[i].kind), .int .i64 (gs[i].lit), .slice A55 (gs[i].inp.length) c56]) rfl rfl (by omega) (by omega) (ys := (gcells (gs.take (i + 1)) (vo ++ [Value.slice A55 (gs[i].inp.length) c56]))) (by rw [htk]; exact (gcells_snoc gs[i] (Value.slice A55 (gs[i].inp.length) c56) (gs.take i) vo (O65.ro 4 rfl : OwnIns Do (gs.take i) vo _).1).symm)
    refine wt2 (v := .slice A68 (i + 1) c69) rfl (fun ρ e => r71 ρ _ _ _ _ _ _ _ (e _ _ rfl) (e _ _ rfl)) rfl rfl (O72.re [3, 4, 5, 6, 7] rfl : Own Z0 W w70 [.blk g38 38 #[.int .i64 (gs[i].kind), .int .i64 (gs[i].lit), .slice AI (gs[i].inp.length) cI], .ro Do (OwnIns Do (gs.take i) vo), .blk g15 24 #[.int .i64 N, .slice Ao i co], .blk g8 24 #[.int .i64 0, .slice none 0 0], .blk g2 24 #[.int .i64 N, .slice A gs.length c]]) ?_
    refine wt1 (v := .pointer (some ⟨g15, 1, none⟩)) rfl (fun ρ e W => ex_field (q := 1) fi24_1 (e _ _ rfl) rfl) rfl rfl ?_
    obtain ⟨w75, r76, O77, hs78⟩ := own_put (o := 1) (n := 1) (O72.re [5, 0, 1, 2, 3, 4, 6, 7] rfl : Own Z0 W w70 [.blk g15 24 #[.int .i64 N, .slice Ao i co], .row (.slice A68 (i + 1) c69) 38 3 (i + 1) (gcells (gs.take (i + 1)) (vo ++ [Value.slice A55 (gs[i].inp.length) c56])), .blk g62 38 #[.int .i64 (gs[i].kind), .int .i64 (gs[i].lit), .slice A55 (gs[i].inp.length) c56], .row (.slice A55 (gs[i].inp.length) c56) 3 1 (gs[i].inp.length) (intCs gs[i].inp), .blk g38 38 #[.int .i64 (gs[i].kind), .int .i64 (gs[i].lit), .slice AI (gs[i].inp.length) cI], .ro Do (OwnIns Do (gs.take i) vo), .blk g8 24 #[.int .i64 0, .slice none 0 0], .blk g2 24 #[.int .i64 N, .slice A gs.length c]]) ty22 (.slice A68 (i + 1) c69) [.slice A68 (i + 1) c69] (cs' := #[.int .i64 N, .slice A68 (i + 1) c69]) rfl rfl rfl (Nat.le_of_ble_eq_true rfl) rfl
    refine wt3_none rfl (fun ρ e => r76 ρ _ _ _ _ _ _ (e _ _ rfl) (e _ _ rfl)) rfl ?_
    refine wt_nil ?_
    refine xw_block ?_
    refine xw_next K36 ?_
    refine cw_region ?_
    refine wl_val (v := .int .i64 ((i + 1 : Nat) : Int)) (fun ρ e => ex_arith (k := .i64) (u := (i : Int)) (v := 1) (e _ _ rfl) (e _ _ rfl) (congrArg some ((congrArg _ (by omega)).trans (wrap_in (u := ((i + 1 : Nat) : Int)) (by omega) (by omega))))) rfl rfl ?_
    refine wl_val (v := .int .i64 ((i + 1 : Nat) : Int)) (fun ρ e => ex_move (e _ _ rfl)) rfl rfl ?_
    refine wl_nil ?_
    have O79 := Own.ownsnoc (v := .slice A55 (gs[i].inp.length) c56) (g := gs[i]) (n := gs[i].inp.length) (D := Do) (L := gs.take i) (vs := vo) (LL := [.blk g15 24 #[.int .i64 N, .slice A68 (i + 1) c69], .row (.slice A68 (i + 1) c69) 38 3 (i + 1) (gcells (gs.take (i + 1)) (vo ++ [Value.slice A55 (gs[i].inp.length) c56])), .blk g62 38 #[.int .i64 (gs[i].kind), .int .i64 (gs[i].lit), .slice A55 (gs[i].inp.length) c56], .blk g38 38 #[.int .i64 (gs[i].kind), .int .i64 (gs[i].lit), .slice AI (gs[i].inp.length) cI], .blk g8 24 #[.int .i64 0, .slice none 0 0], .blk g2 24 #[.int .i64 N, .slice A gs.length c]]) (O77.re [3, 5, 0, 1, 2, 4, 6, 7] rfl : Own Z0 W w75 [.row (.slice A55 (gs[i].inp.length) c56) 3 1 (gs[i].inp.length) (intCs gs[i].inp), .ro Do (OwnIns Do (gs.take i) vo), .blk g15 24 #[.int .i64 N, .slice A68 (i + 1) c69], .row (.slice A68 (i + 1) c69) 38 3 (i + 1) (gcells (gs.take (i + 1)) (vo ++ [Value.slice A55 (gs[i].inp.length) c56])), .blk g62 38 #[.int .i64 (gs[i].kind), .int .i64 (gs[i].lit), .slice A55 (gs[i].inp.length) c56], .blk g38 38 #[.int .i64 (gs[i].kind), .int .i64 (gs[i].lit), .slice AI (gs[i].inp.length) cI], .blk g8 24 #[.int .i64 0, .slice none 0 0], .blk g2 24 #[.int .i64 N, .slice A gs.length c]]) rfl
    rw [← htk] at O79
    refine xw_round K32 (i + 1, A68, c69, (vo ++ [Value.slice A55 (gs[i].inp.length) c56]), (fun k => Do k ∨ (Value.ownBlock (.slice A55 (gs[i].inp.length) c56)) = some k)) (by show gs.length - (i + 1) < gs.length - i; omega) ⟨(by show i + 1 ≤ _; omega), (fun k hk => hk.elim (hDo k) (fun q => O59n k q)), (O79.re [2, 0, 1, 5, 6] rfl : Own Z0 W w75 [.row (.slice A68 (i + 1) c69) 38 3 (i + 1) (gcells (gs.take (i + 1)) (vo ++ [Value.slice A55 (gs[i].inp.length) c56])), .ro (fun k => Do k ∨ (Value.ownBlock (.slice A55 (gs[i].inp.length) c56)) = some k) (OwnIns (fun k => Do k ∨ (Value.ownBlock (.slice A55 (gs[i].inp.length) c56)) = some k) (gs.take (i + 1)) (vo ++ [Value.slice A55 (gs[i].inp.length) c56])), .blk g15 24 #[.int .i64 N, .slice A68 (i + 1) c69], .blk g8 24 #[.int .i64 0, .slice none 0 0], .blk g2 24 #[.int .i64 N, .slice A gs.length c]])⟩ ⟨rfl, rfl, rfl, rfl, rfl, trivial⟩
  · have hie : i = gs.length := by omega
    refine cw_seq (fun FK80 K80 => ?_)
    refine cw_region ?_
    refine wl_val (v := .bool false) (fun ρ e => ex_cmp (u := (i : Int)) (v := ((gs.length : Nat) : Int)) (e _ _ rfl) (e _ _ rfl) (lss0 (by omega))) rfl rfl ?_
    refine wl_nil ?_
    refine xw_next K80 ?_
    refine cw_seq (fun FK81 K81 => ?_)
    refine cw_false rfl ?_
    refine cw_exit ?_
    refine xw_past (by intro h; cases h) ?_
    refine xw_past (by intro h; cases h) ?_
    refine xw_here ?_
    refine xw_next K25 ?_
    refine cw_seq (fun FK82 K82 => ?_)
    refine cw_region ?_
    refine wl_val (v := .agg #[.int .i64 N, .slice Ao i co]) (fun ρ e => ex_loadN (vs := [.int .i64 N, .slice Ao i co]) ty24 (e _ _ rfl) rfl (O33.cells 2 0 rfl rfl)) rfl rfl ?_
    obtain ⟨w83, r84, O85, hs86⟩ := own_put (o := 0) (n := 2) (O33.re [3, 0, 1, 2, 4] rfl : Own Z0 W w30 [.blk g8 24 #[.int .i64 0, .slice none 0 0], .row (.slice Ao i co) 38 3 i (gcells (gs.take i) vo), .ro Do (OwnIns Do (gs.take i) vo), .blk g15 24 #[.int .i64 N, .slice Ao i co], .blk g2 24 #[.int .i64 N, .slice A gs.length c]]) ty24 (.agg #[.int .i64 N, .slice Ao i co]) [.int .i64 N, .slice Ao i co] (cs' := #[.int .i64 N, .slice Ao i co]) rfl rfl rfl (Nat.le_of_ble_eq_true rfl) rfl
    refine wl_none (fun ρ e => r84 ρ _ _ _ _ _ _ (e _ _ rfl) (e _ _ rfl)) rfl ?_
    refine wl_nil ?_
    refine xw_next K82 ?_
    refine cw_ret ?_
    refine xw_ret (v := .agg #[.int .i64 N, .slice Ao i co]) (fun T hT => res1c rfl T _ (hT 2 _ rfl) (run_loadN (vs := [.int .i64 N, .slice Ao i co]) ty24 rfl (O85.cells 0 0 rfl rfl))) ?_
    have O87 := (O85.re [1, 2] rfl : Own Z0 W w83 [.row (.slice Ao i co) 38 3 i (gcells (gs.take i) vo), .ro Do (OwnIns Do (gs.take i) vo)])
    rw [hie, List.take_length] at O87
    exact ⟨Ao, co, Do, vo, by rw [hie], O87, hDo⟩
end Go.Proofs.YtbemhgojfehnjaaDoor
namespace Go.Proofs.YtbemhgojfehnjaaDoor
open Go Go.RowKit

set_option maxHeartbeats 400000 in
theorem ref03_has (a b : BitVec 64) (v : Int) (w : World) :
    Calls Tryd.prog 56 #[(.agg #[.int .u64 ((a).toNat : Int), .int .u64 ((b).toNat : Int)]), (.int .i64 (v))] w fun e w' => e = .returned (.bool (VS.has ⟨a, b⟩ v)) ∧ Below w.heap.size w w' := by
  by_cases h : v < 1 ∨ 128 < v
  · rw [VS.has_out _ h]
    rcases h with h | h
    all_goals
      go_enter Tryd.func56, Tryd.ntmps56
      go_wp2
      go_ret
      exact ⟨rfl, (Below.refl _ _).alloc (Nat.le_refl _) _⟩
  · by_cases h2 : v ≤ 64
    · have h1 : 1 ≤ v := by omega
      rw [has_lo _ v h1 h2]
      clear h
      have hq : (v-1)/64 = 0 := by omega
      have hr : (v-1)%64 = v-1 := by omega
      go_enter Tryd.func56, Tryd.ntmps56
      go_wp2
      go_ret
      exact ⟨ret_bool (shr_bv a _), (Below.refl _ _).alloc (Nat.le_refl _) _⟩
    · have h1 : 65 ≤ v := by omega
      have h3 : v ≤ 128 := by omega
      rw [has_hi _ v h1 h3]
      clear h h2
      have hq : (v-1)/64 = 1 := by omega
      have hr : (v-1)%64 = v-65 := by omega
      go_enter Tryd.func56, Tryd.ntmps56
      go_wp2
      go_ret
      exact ⟨ret_bool (by rw [← shr_bv b, ← show (v - 65).toNat = v.toNat - 65 from by omega]), (Below.refl _ _).alloc (Nat.le_refl _) _⟩

set_option maxRecDepth 100000 in
set_option maxHeartbeats 1600000 in
theorem ref03_all (n : Int) (w : World) :
    Calls Tryd.prog 37 #[(.int .i64 (n))] w fun e w' => e = .returned (.agg #[.int .u64 ((VS.all n).a.toNat : Int), .int .u64 ((VS.all n).b.toNat : Int)]) ∧ Below w.heap.size w w' := by
  go_enter Tryd.func37, Tryd.ntmps37
  go_wp2_with (go_at_call 57; refine (ref03_none _).mono ?_; rintro e w' ⟨rfl, rfl⟩)
  go_loopw [4] (fun i wr => ∃ (k : Nat) (m : List Bool), 1 ≤ k ∧ k ≤ 129 ∧ ((k : Int) - 1 ≤ max n 0) ∧ i = .int .i64 k ∧ Blk wr w.heap.size 27 #[.int .u64 0, .int .u64 0] ∧ Blk wr (w.heap.size + 1) 4 (boolCells m) ∧
      m.length = 129 ∧ (∀ u : Nat, 1 ≤ u → u < 129 → m.getD u false = decide (u < k)) ∧ Below w.heap.size w wr) (fun i _ => 129 - (intOf i).toNat)
  case atStart =>
    refine ⟨1, List.replicate 129 false, by omega, by omega, by omega, rfl, (Blk.new _ _ _).alloc _, Blk.new_ (by simp), by simp, fun u h1 hu => ?_, by go_grown⟩
    rw [List.getD_eq_getElem?_getD, List.getElem?_replicate]; simp [hu]; omega
  case round =>
    obtain ⟨k, m, hk1, hk, hkn, rfl, hb0, hb1, hm, hmk, hb⟩ := hrel
    have HM := Lib.hid hm
    have hm1 : m.length ≤ 129 := by omega
    have hm2 : 129 ≤ m.length := by omega
    have HK := Lib.hid hmk
    clear hm hmk
    have d0 := hb0.cell 0
    have d1 := hb0.cell 1
    have e0 := hb0.free 0
    have e1 := hb0.free 1
    simp at d0 d1
    have lt1 := hb1.lt
    have lt0 := hb0.lt
    have fin : ((k : Int) > 128 ∨ (k : Int) > n) → markTo m m.length = VS.all n := fun hx => markTo_of m HM.out (VS.all n) (fun u h1 h2 => by
      rw [HK.out u h1 h2, VS.has_all]; rw [Bool.eq_iff_iff]; simp; omega)
    have FIN := Lib.hid fin
    clear fin
    by_cases h1 : k ≤ 128
    · by_cases h2 : (k : Int) ≤ n
      · have xt : k < m.length := by omega
        have cx := hb1.cell k
        have fx := hb1.free k
        rw [boolCells_get m _ xt] at cx
        go_wp2
        go_roundw
        case rel =>
          refine ⟨k + 1, m.set k true, by omega, by omega, by omega, by go_num, hb0.far (by simp <;> omega) _, by rw [← boolCells_set]; exact hb1.put _ _, by simp; exact HM.out, fun u h3 h4 => ?_, hb.setCell (by simp <;> omega) _⟩
          rw [List.getD_eq_getElem?_getD, List.getElem?_set]
          by_cases e : k = u
          · rw [if_pos e, if_pos (by omega)]; simp; omega
          · rw [if_neg e, ← List.getD_eq_getElem?_getD, HK.out u h3 h4]; simp; omega
        case measure => simp [intOf]; omega
      · have hv := boolCells_V hb1 (by unfold maxLen; omega)
        rw [HM.out] at hv
        have h2' : decide ((k : Int) ≤ n) = false := by simp; omega
        go_wp2_with (go_at_call 58; refine (ref03_set _ _ _ m (Nat.le_refl _) hv HM.out).mono ?_; rintro e w' ⟨rfl, hbb⟩; obtain ⟨hc, hf⟩ := bcell hbb; have hsz := hbb.size)
        refine bodyPost_ret (v := (.agg #[.int .u64 ((markTo m m.length).a.toNat : Int), .int .u64 ((markTo m m.length).b.toNat : Int)])) (by simp [results, Tryd.results37, go_sem, d0, d1, lt0, hc]) rfl ?_
        rw [FIN.out (by omega)]
        exact ⟨rfl, ((hb.trans (hbb.mono hb.size)).setCell (by simp <;> omega) _).setCell (by simp <;> omega) _⟩
    · have hv := boolCells_V hb1 (by unfold maxLen; omega)
      rw [HM.out] at hv
      have h2' : decide ((k : Int) ≤ 128) = false := by simp; omega
      go_wp2_with (go_at_call 58; refine (ref03_set _ _ _ m (Nat.le_refl _) hv HM.out).mono ?_; rintro e w' ⟨rfl, hbb⟩; obtain ⟨hc, hf⟩ := bcell hbb; have hsz := hbb.size)
      refine bodyPost_ret (v := (.agg #[.int .u64 ((markTo m m.length).a.toNat : Int), .int .u64 ((markTo m m.length).b.toNat : Int)])) (by simp [results, Tryd.results37, go_sem, d0, d1, lt0, hc]) rfl ?_
      rw [FIN.out (by omega)]
      exact ⟨rfl, ((hb.trans (hbb.mono hb.size)).setCell (by simp <;> omega) _).setCell (by simp <;> omega) _⟩

end Go.Proofs.YtbemhgojfehnjaaDoor
namespace Go.Proofs.YtbemhgojfehnjaaDoor
open Go Go.RowKit

theorem OwnInts.base {w : World} {base base' : Nat} {v : Value} {l : List Int} (h : OwnInts w base v l) (hb : base' ≤ base) : OwnInts w base' v l := by
  refine ⟨h.1, ?_⟩
  rcases h.2 with hn | ⟨g, cap, cur, rfl, hbg, rest⟩
  · exact .inl hn
  · exact .inr ⟨g, cap, cur, rfl, by omega, rest⟩
theorem list_succ (s : VS) (k : Nat) : s.list (k + 1) = if s.has ((k : Int) + 1) then s.list k ++ [(k : Int) + 1] else s.list k := by
  unfold VS.list
  rw [List.range_succ, List.map_append, List.filter_append]
  by_cases h : s.has ((k : Int) + 1)
  · rw [if_pos h]; simp [h]
  · rw [if_neg h]; simp [h]
theorem list_zero (s : VS) : s.list 0 = [] := rfl
theorem list_len (s : VS) (k : Nat) : (s.list k).length ≤ k := by
  unfold VS.list
  exact Nat.le_trans (List.length_filter_le _ _) (by simp)
theorem list_mem (s : VS) (v : Int) (h1 : 1 ≤ v) (h2 : v ≤ 128) : (s.list 128).contains v = s.has v := by
  rw [Bool.eq_iff_iff]
  simp only [VS.list, List.contains_iff_mem, List.mem_filter, List.mem_map, List.mem_range]
  constructor
  · intro h; exact h.2
  · intro h; exact ⟨⟨v.toNat - 1, by omega, by omega⟩, h⟩

set_option maxRecDepth 100000 in
set_option maxHeartbeats 1600000 in
theorem ref03_sub (a b c d : BitVec 64) (w : World) :
    Calls Tryd.prog 36 #[(.agg #[.int .u64 ((a).toNat : Int), .int .u64 ((b).toNat : Int)]), (.agg #[.int .u64 ((c).toNat : Int), .int .u64 ((d).toNat : Int)])] w fun e w' => e = .returned (.bool (VS.sub ⟨a, b⟩ ⟨c, d⟩)) ∧ Below w.heap.size w w' := by
  obtain ⟨r, hr⟩ : ∃ r, r = VS.sub ⟨a, b⟩ ⟨c, d⟩ := ⟨_, rfl⟩
  rw [← hr]
  have HR := Lib.hid hr
  clear hr
  go_enter Tryd.func36, Tryd.ntmps36
  go_wp2
  go_loopw [5] (fun i wr => ∃ k : Nat, 1 ≤ k ∧ k ≤ 129 ∧ i = .int .i64 k ∧ (∀ u : Int, 1 ≤ u → u < k → VS.has ⟨a, b⟩ u = true → VS.has ⟨c, d⟩ u = true) ∧ Blk wr w.heap.size 27 #[.int .u64 (a.toNat : Int), .int .u64 (b.toNat : Int)] ∧ Blk wr (w.heap.size + 1) 27 #[.int .u64 (c.toNat : Int), .int .u64 (d.toNat : Int)] ∧ Below w.heap.size w wr) (fun i _ => 129 - (intOf i).toNat)
  case atStart => exact ⟨1, by omega, by omega, rfl, fun u h1 h2 => by omega, (Blk.new _ _ _).alloc _, Blk.new_ (by simp), by go_grown⟩
  case round =>
    obtain ⟨k, hk1, hk, rfl, hsub, hba, hbc, hb⟩ := hrel
    have HS := Lib.hid hsub
    clear hsub
    have a0 := hba.cell 0
    have a1 := hba.cell 1
    have q0 := hbc.cell 0
    have q1 := hbc.cell 1
    simp at a0 a1 q0 q1
    have lta := hba.lt
    have ltc := hbc.lt
    by_cases hlt : k ≤ 128
    · have step : (VS.has ⟨a, b⟩ k = true → VS.has ⟨c, d⟩ k = true) → ∀ u : Int, 1 ≤ u → u < ((k + 1 : Nat) : Int) → VS.has ⟨a, b⟩ u = true → VS.has ⟨c, d⟩ u = true := fun h u h1 h2 h3 => by
        by_cases e : u = k
        · subst e; exact h h3
        · exact HS.out u h1 (by omega) h3
      have no : VS.has ⟨a, b⟩ k = true → VS.has ⟨c, d⟩ k = false → r = false := fun h1 h2 => by
        rw [HR.out]
        cases e : VS.sub ⟨a, b⟩ ⟨c, d⟩ with
        | false => rfl
        | true =>
          have := (VS.sub_iff _ _).1 e k (by omega) (by omega) h1
          rw [h2] at this; cases this
      have k1 := fun w => ref03_has a b (k : Int) w
      have k2 := fun w => ref03_has c d (k : Int) w
      generalize VS.has ⟨a, b⟩ (k : Int) = y1 at step no k1
      generalize VS.has ⟨c, d⟩ (k : Int) = y2 at step no k2
      have STEP := Lib.hid step
      have NO := Lib.hid no
      have K1 := Lib.hid k1
      have K2 := Lib.hid k2
      clear step no k1 k2
      cases y1
      · go_wp2_with (go_at_call 56; refine (K1.out _).mono ?_; rintro e w' ⟨rfl, hbb⟩; obtain ⟨hc, hf⟩ := bcell hbb; have hsz := hbb.size)
        go_roundw
        case rel => exact ⟨k + 1, by omega, by omega, by go_num, STEP.out (by simp), hba.keep hbb, hbc.keep hbb, hb.trans (hbb.mono hb.size)⟩
        case measure => simp [intOf]; omega
      · go_wp2_with fail
        refine (K1.out _).mono ?_
        rintro e w1 ⟨rfl, hb1'⟩
        obtain ⟨hc1, hf1⟩ := bcell hb1'
        have hs1 := hb1'.size
        go_wp2_with fail
        refine (K2.out _).mono ?_
        rintro e w2 ⟨rfl, hb2'⟩
        have hbb := hb1'.trans (hb2'.mono hs1)
        clear hc1 hf1
        cases y2
        · have e : r = false := NO.out (by simp) (by simp)
          subst e
          go_wp2
          go_ret
          exact ⟨rfl, hb.trans (hbb.mono hb.size)⟩
        · go_wp2
          go_roundw
          case rel => exact ⟨k + 1, by omega, by omega, by go_num, STEP.out (by simp), hba.keep hbb, hbc.keep hbb, hb.trans (hbb.mono hb.size)⟩
          case measure => simp [intOf]; omega
    · have e : r = true := by
        rw [HR.out]
        exact (VS.sub_iff _ _).2 (fun v h1 h2 => HS.out v h1 (by omega))
      subst e
      go_wp2
      go_ret
      exact ⟨rfl, hb⟩

end Go.Proofs.YtbemhgojfehnjaaDoor
namespace Go.Proofs.YtbemhgojfehnjaaDoor
open Go

def agree (m : Int) (s t : VS) : Prop := ∀ v, 1 ≤ v → v ≤ m → s.has v = t.has v
def noneOver (m : Int) (s : VS) : Prop := ∀ v, m < v → s.has v = false
def okL (m l : Int) : Prop := (1 ≤ l ∧ l ≤ m) ∨ (-m ≤ l ∧ l ≤ -1)

theorem agree.refl (m : Int) (s : VS) : agree m s s := fun _ _ _ => rfl
theorem agree.symm {m : Int} {s t : VS} (h : agree m s t) : agree m t s := fun v h1 h2 => (h v h1 h2).symm
theorem agree.trans {m : Int} {s t u : VS} (h : agree m s t) (k : agree m t u) : agree m s u := fun v h1 h2 => (h v h1 h2).trans (k v h1 h2)
theorem agree.mono {m m' : Int} {s t : VS} (h : agree m s t) (hm : m' ≤ m) : agree m' s t := fun v h1 h2 => h v h1 (by omega)
theorem okL.mono {m m' l : Int} (h : okL m l) (hm : m ≤ m') : okL m' l := by unfold okL at *; omega
theorem okL.neg {m l : Int} (h : okL m l) : okL m (-l) := by unfold okL at *; omega
theorem litHolds_in {s : VS} {l : Int} (h : okL 128 l) : litHolds s l = (s.has (max l (-l)) == decide (0 < l)) := by
  unfold litHolds
  have : litVar l = max l (-l) ∧ litVar l ≠ 0 := by
    unfold litVar; unfold okL at h
    split
    · omega
    · rw [if_pos (by omega)]; omega
  rw [← this.1]
  simp [this.2]
theorem litHolds_agree {m : Int} {s t : VS} {l : Int} (h : okL m l) (hm : m ≤ 128) (ha : agree m s t) : litHolds s l = litHolds t l := by
  rw [litHolds_in (h.mono hm), litHolds_in (h.mono hm)]
  unfold okL at h
  rw [ha (max l (-l)) (by omega) (by omega)]
theorem litHolds_neg {s : VS} {l : Int} (h : okL 128 l) : litHolds s (-l) = !litHolds s l := by
  rw [litHolds_in h, litHolds_in h.neg]
  have e : max (-l) (- -l) = max l (-l) := by omega
  rw [e]
  unfold okL at h
  by_cases hl : 0 < l
  · have h1 : decide (0 < l) = true := by simpa using hl
    have h2 : decide (0 < -l) = false := by simp; omega
    rw [h1, h2]; cases s.has (max l (-l)) <;> rfl
  · have h1 : decide (0 < l) = false := by simpa using hl
    have h2 : decide (0 < -l) = true := by simp; omega
    rw [h1, h2]; cases s.has (max l (-l)) <;> rfl
theorem litHolds_var {s : VS} {v : Int} (h1 : 1 ≤ v) (h2 : v ≤ 128) : litHolds s v = s.has v := by
  rw [litHolds_in (.inl ⟨h1, h2⟩), show max v (-v) = v from by omega]
  have : decide (0 < v) = true := by simp; omega
  rw [this]; cases s.has v <;> rfl

/-! The clauses of a kind. -/
def kindVal (kind : Int) (bs : List Bool) : Bool :=
  if kind = 1 then true else if kind = 3 then decide (onesOf bs = 0) else if kind = 4 then decide (onesOf bs = bs.length) else if kind = 5 then decide (0 < onesOf bs)
  else if kind = 6 then decide (onesOf bs % 2 = 1) else if kind = 7 then decide (onesOf bs ≠ 1) else if kind = 8 then (if bs.getD 0 false then bs.getD 1 false else bs.getD 2 false) else false
theorem valueOf_kind {g : Gate} (s : VS) (v : List Bool) (h2 : g.kind ≠ 2) (h8 : g.kind = 8 → g.inp.length = 3) : valueOf g s v = kindVal g.kind (inVals g v) := by
  have hl : (inVals g v).length = g.inp.length := by unfold inVals; simp
  unfold valueOf kindVal
  rw [if_neg h2, hl]
  by_cases h : g.kind = 8
  · rw [h]
    simp only [if_true]
    have h3 := h8 h
    obtain ⟨k, l, i⟩ := g
    simp only at h3
    match i, h3 with
    | [a, b, c], _ => simp [pickVal, inVals]
  · simp only [if_neg h]

end Go.Proofs.YtbemhgojfehnjaaDoor
