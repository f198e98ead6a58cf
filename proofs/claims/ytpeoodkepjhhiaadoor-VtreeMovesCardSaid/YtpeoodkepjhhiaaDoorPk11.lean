/-
  Lemmas and contracts, joined: VlMoves.
-/
import Derived.Test.YtpeoodkepjhhiaaDoorPk10
namespace Go.Proofs.YtpeoodkepjhhiaaDoor
open Go Go.RowKit
section
variable {Z : Bool → Nat → Prop} {w0 W : World} {L : List En}
theorem Own.emptyrow {g T sz : Nat} (h : Own Z w0 W (.blk g T #[] :: L)) : Own Z w0 W (.row (.slice (some ⟨g, 0, none⟩) 0 0) T sz 0 [] :: L) := by
  refine h.as (e' := .row (.slice (some ⟨g, 0, none⟩) 0 0) T sz 0 []) ⟨by simp, .inr ⟨g, 0, #[], rfl, Nat.zero_le _, h.blk 0 rfl, Nat.le_refl _, Nat.zero_le _, by simp, by simp⟩⟩ (fun k hk => ?_) (fun _ => trivial)
  have : some g = some k := hk
  injection this with this
  exact this.symm
theorem Own.putrowN {g T sz n c k : Nat} {xs : List Value} (h : Own Z w0 W (.row (.slice (some ⟨g, 0, none⟩) n c) T sz n xs :: L)) (hk : k < n * sz) (u : Value) :
    (∃ u0, W.cell? ⟨g, k, none⟩ = some u0) ∧ W.frozen? ⟨g, k, none⟩ = false ∧ Own Z w0 (W.setCell ⟨g, k, none⟩ u) (.row (.slice (some ⟨g, 0, none⟩) n c) T sz n (xs.set k u) :: L) := by
  have hr := h.row 0 rfl
  obtain ⟨hlen, hr⟩ := hr
  rcases hr with ⟨h1, _⟩ | ⟨g', cap, cur, h1, _, hg, h2, h3, h4, h5⟩
  · cases h1
  · injection h1 with h1 _ hcap
    injection h1 with h1
    injection h1 with h1
    subst h1 hcap
    have hb : Blk W g T cur := hg
    have hsz : k < cur.size := by
      have := Nat.mul_le_mul_right sz h2
      omega
    refine ⟨⟨cur[k], by rw [hb.cell k, Array.getElem?_eq_getElem hsz]⟩, hb.free k, ?_⟩
    refine h.one (e' := .row (.slice (some ⟨g, 0, none⟩) n c) T sz n (xs.set k u)) (Frame.put W g k u) trivial (fun k q1 q => by show some g = some k; rw [show k = g from q]) ?_ (fun k q => .inl q)
    refine ⟨by simpa using hlen, .inr ⟨g, c, cur.setIfInBounds k u, rfl, Nat.zero_le _, hb.put k u, h2, h3, by simpa using h4, ?_⟩⟩
    rw [Array.toList_setIfInBounds, List.take_set, h5]
theorem own_putrowN {A : Option Addr} {g T T0 sz n c k : Nat} {xs : List Value} (h : Own Z w0 W (.row (.slice A n c) T sz n xs :: L)) (hA : A = some ⟨g, 0, none⟩) (hT : TyB T0 1 false) (hk : k < n * sz) (u : Value) (hu : u.oneCell' = true) (hc : u.cells.toList = [u]) :
    ∃ w', (∀ (ρ : Operand → Value) x y t pos aft gd, ρ x = .pointer (some ⟨g, k, none⟩) → ρ y = u → (execOp ρ ⟨none, .store T0 x y, t, pos, aft, gd⟩).run Tryd.prog W = .ok .skip w') ∧ Own Z w0 w' (.row (.slice A n c) T sz n (xs.set k u) :: L) := by
  subst hA
  obtain ⟨⟨u0, h1⟩, h2, h3⟩ := h.putrowN hk u
  refine ⟨_, fun ρ x y t pos aft gd hx hy => ?_, h3⟩
  have hs : u.cells.size = 1 := by have := congrArg List.length hc; simpa using this
  simp [execOp, Instr.storeAt, Instr.sureAddr, hx, hy, storeVar, run_size hT.size, hs, hc, storeCells, addr_plus, run_store _ _ _ _ _ hu, h1, h2]
end
theorem ncells_inv : ∀ {ts : List VN} {j : Nat} {u : Value}, (ncells ts)[j]? = some u → ∃ i x, ts[i]? = some x ∧ ((j = i * 3 ∧ u = .int .i64 x.l) ∨ (j = i * 3 + 1 ∧ u = .int .i64 x.r) ∨ (j = i * 3 + 2 ∧ u = .int .i64 x.v))
  | [], j, u, h => by simp [ncells] at h
  | y :: r, j, u, h => by
    have e : ncells (y :: r) = ncell y ++ ncells r := by simp [ncells]
    rw [e] at h
    have hl : (ncell y).length = 3 := rfl
    by_cases hj : j < 3
    · rw [List.getElem?_append_left (by omega)] at h
      refine ⟨0, y, rfl, ?_⟩
      rcases (show j = 0 ∨ j = 1 ∨ j = 2 by omega) with rfl | rfl | rfl
      · simp [ncell] at h; exact .inl ⟨rfl, h.symm⟩
      · simp [ncell] at h; exact .inr (.inl ⟨rfl, h.symm⟩)
      · simp [ncell] at h; exact .inr (.inr ⟨rfl, h.symm⟩)
    · rw [List.getElem?_append_right (by omega), hl] at h
      obtain ⟨i, x, hi, hh⟩ := ncells_inv h
      refine ⟨i + 1, x, by simpa using hi, ?_⟩
      rcases hh with ⟨h1, h2⟩ | ⟨h1, h2⟩ | ⟨h1, h2⟩
      · exact .inl ⟨by omega, h2⟩
      · exact .inr (.inl ⟨by omega, h2⟩)
      · exact .inr (.inr ⟨by omega, h2⟩)
theorem nodes_src {D : Nat → Prop} {w : World} {A : Option Addr} {n c : Nat} {ts : List VN} (h : NodesD D w (.slice A n c) ts) : Src w A ts.length (ncells ts) := by
  cases A with
  | none =>
    left
    have : ts.length = 0 := by
      rcases Nat.eq_zero_or_pos ts.length with h0 | h0
      · exact h0
      · obtain ⟨b, o, c', hv, _⟩ := h.form h0
        cases hv
    refine ⟨rfl, this, ?_⟩
    rw [List.eq_nil_of_length_eq_zero this]; rfl
  | some a =>
    right
    refine ⟨a, rfl, fun j u hu => ?_⟩
    obtain ⟨i, x, hx, hh⟩ := ncells_inv hu
    obtain ⟨b, o, c', hv, _⟩ := h.form (by have := (List.getElem?_eq_some_iff.1 hx).1; omega)
    injection hv with hv _ _
    injection hv with hv
    subst hv
    obtain ⟨q0, q1, q2⟩ := h.at_ hx
    rw [addr_plus]
    rcases hh with ⟨rfl, rfl⟩ | ⟨rfl, rfl⟩ | ⟨rfl, rfl⟩
    · exact q0
    · exact q1
    · exact q2
theorem mov_small (ts : List VN) (kind : Nat) (hk : kind = 1 ∨ kind = 2 ∨ kind = 3) (at_ : Int) : (movOf ts kind at_).1.length ≤ 255 := by
  cases hc : canB ts kind at_ with
  | false => rw [mov_no hc]; exact Nat.zero_le _
  | true =>
    have hc2 := hc
    unfold canB at hc2
    simp only [Bool.and_eq_true, Bool.or_eq_true, decide_eq_true_eq] at hc2
    obtain ⟨⟨hok, hin⟩, hch⟩ := hc2
    have hV := okT_val hok
    have hle := hV.le
    obtain ⟨k, a, b, rfl, hx⟩ := inner_get hV hin
    rw [mov_yes hc]
    simp only [post_len]
    rw [child_at hx] at hch
    rcases hk with rfl | rfl | rfl
    · obtain ⟨p, q, hlow⟩ := inner_nat hV (by simpa using hch)
      have := (mvR hV hx hlow).2
      omega
    · obtain ⟨p, q, hlow⟩ := inner_nat hV (by simpa using hch)
      have := (mvL hV hx hlow).2
      omega
    · have := (mvS hV hx).2
      omega
theorem vtreeMoves_ok {W : World} {D : Nat → Prop} {V : Value} {ts : List VN} (hN : NodesD D W V ts) (hD : ∀ k, D k → k < W.heap.size) (tab : Tab W) (at_ : Int) : Calls Tryd.prog 8 #[V, .int .i64 at_] W fun e w' => e = .returned (.bool true) ∧ Below W.heap.size W w' := by
  obtain ⟨A, c, rfl⟩ := hN.slice
  have O0 : Own Z0 W W [] := Own.start W
  refine sx_enter (args := [.slice A ts.length c, .int .i64 at_]) Tryd.func8 rfl rfl (by simp) ?_
  refine cw_seq (fun FK1 K1 => ?_)
  refine cw_region ?_
  refine wl_val (v := .bool false) (fun ρ e => ex_assign (e _ _ rfl)) rfl rfl ?_
  refine wl_nil ?_
  refine xw_next K1 ?_
  refine cw_seq (fun FK2 K2 => ?_)
  refine cw_seq (fun FK3 K3 => ?_)
  refine cw_region ?_
  refine wl_val (v := .slice A ts.length c) (fun ρ e => ex_move (e _ _ rfl)) rfl rfl ?_
  refine wl_val (v := .int .i64 ((ts.length : Nat) : Int)) (fun ρ e => ex_len el23 (e _ _ rfl)) rfl rfl ?_
  by_cases c4 : ((ts.length : Nat) : Int) > 300
  · skip
    refine wl_val (v := .bool true) (fun ρ e => ex_cmp (u := ((ts.length : Nat) : Int)) (v := 300) (e _ _ rfl) (e _ _ rfl) (gtr1 (by omega))) rfl rfl ?_
    refine wl_nil ?_
    refine xw_next K3 ?_
    refine cw_true rfl ?_
    refine cw_seq (fun FK5 K5 => ?_)
    refine cw_region ?_
    refine wl_call (args := []) in_14 rfl rfl rfl ?_
    refine (works_ (tab.below (Nat.le_refl _) O0.old)).mono ?_
    rintro _ w6 ⟨rfl, hb7⟩
    have O8 : Own Z0 W w6 [] := O0.below hb7
    refine ⟨_, rfl, ?_⟩
    refine wl_val (v := .bool true) (fun ρ e => ex_assign (e _ _ rfl)) rfl rfl ?_
    refine wl_nil ?_
    refine xw_next K5 ?_
    refine cw_ret ?_
    refine xw_past (by intro h; cases h) ?_
    refine xw_ret (v := .bool true) (fun T hT => res1 rfl T _ (hT 4 _ rfl)) ?_
    exact ⟨rfl, O8.old⟩
  · skip
    refine wl_val (v := .bool false) (fun ρ e => ex_cmp (u := ((ts.length : Nat) : Int)) (v := 300) (e _ _ rfl) (e _ _ rfl) (gtr0 (by omega))) rfl rfl ?_
    refine wl_nil ?_
    refine xw_next K3 ?_
    refine cw_false rfl ?_
    refine cw_skip ?_
    refine xw_next K2 ?_
    refine cw_seq (fun FK9 K9 => ?_)
    refine cw_region ?_
    obtain ⟨g10, w11, r12, O13, hg14, hs15⟩ := own_slice O0 el23 ze38 0 [] (cs := #[]) (by decide) (by kernel_rfl)
    refine wl_val (v := .slice (some ⟨g10, 0, none⟩) 0 0) (fun ρ e => r12 ρ _ _ _ _ _ _ (e.parts rfl)) rfl rfl ?_
    refine wl_val (v := .slice A ts.length c) (fun ρ e => ex_move (e _ _ rfl)) rfl rfl ?_
    have O16 := Own.emptyrow (sz := 3) O13
    obtain ⟨A17, c18, w19, r20, O21, hs22⟩ := own_appS O16 ap23 (m := ts.length) (news := ncells ts) (ncells_len ts) (nodes_src (hN.move (fun k hk => (O13.old).block k (hD k hk)))) (ncells_one ts) (by omega) (by omega) (ys := ncells ts) rfl
    refine wl_val (v := .slice A17 (0 + ts.length) c18) (fun ρ e => r20 ρ _ _ _ _ _ _ _ (e _ _ rfl) (e _ _ rfl)) rfl rfl ?_
    refine wl_val (v := .slice A17 (0 + ts.length) c18) (fun ρ e => ex_assign (e _ _ rfl)) rfl rfl ?_
    refine wl_nil ?_
    refine xw_next K9 ?_
    refine cw_seq (fun FK23 K23 => ?_)
    refine cw_region ?_
    refine wl_val (v := .slice A ts.length c) (fun ρ e => ex_move (e _ _ rfl)) rfl rfl ?_
    refine wl_val (v := .int .i64 at_) (fun ρ e => ex_move (e _ _ rfl)) rfl rfl ?_
    refine wl_call (args := [.slice A ts.length c, .int .i64 at_]) in_32 rfl rfl rfl ?_
    refine (rotr_ (hN.move (fun k hk => (O21.old).block k (hD k hk))) (fun k hk => Nat.lt_of_lt_of_le (hD k hk) (O21.old).size) at_).mono ?_
    rintro _ w26 ⟨A24, c25, rfl, h27⟩
    have O28 := O21.join1 h27 trivial
    refine ⟨_, rfl, ?_⟩
    refine wl_val (v := .tuple #[.slice A24 ((movOf ts 1 at_).1.length) c25, .int .i64 ((movOf ts 1 at_).2)]) (fun ρ e => ex_move (e _ _ rfl)) rfl rfl ?_
    refine wl_val (v := .slice A24 ((movOf ts 1 at_).1.length) c25) (fun ρ e => ex_extract (vs := #[.slice A24 ((movOf ts 1 at_).1.length) c25, .int .i64 ((movOf ts 1 at_).2)]) (e _ _ rfl) rfl) rfl rfl ?_
    refine wl_val (v := .int .i64 ((movOf ts 1 at_).2)) (fun ρ e => ex_extract (vs := #[.slice A24 ((movOf ts 1 at_).1.length) c25, .int .i64 ((movOf ts 1 at_).2)]) (e _ _ rfl) rfl) rfl rfl ?_
    refine wl_val (v := .slice A24 ((movOf ts 1 at_).1.length) c25) (fun ρ e => ex_assign (e _ _ rfl)) rfl rfl ?_
    refine wl_val (v := .int .i64 ((movOf ts 1 at_).2)) (fun ρ e => ex_assign (e _ _ rfl)) rfl rfl ?_
    refine wl_nil ?_
    refine xw_next K23 ?_
    refine cw_seq (fun FK29 K29 => ?_)
    refine cw_region ?_
    refine wl_val (v := .slice A ts.length c) (fun ρ e => ex_move (e _ _ rfl)) rfl rfl ?_
    refine wl_val (v := .int .i64 at_) (fun ρ e => ex_move (e _ _ rfl)) rfl rfl ?_
    refine wl_call (args := [.slice A ts.length c, .int .i64 at_]) in_33 rfl rfl rfl ?_
    refine (rotl_ (hN.move (fun k hk => (O28.old).block k (hD k hk))) (fun k hk => Nat.lt_of_lt_of_le (hD k hk) (O28.old).size) at_).mono ?_
    rintro _ w32 ⟨A30, c31, rfl, h33⟩
    have O34 := O28.join1 h33 trivial
    refine ⟨_, rfl, ?_⟩
    refine wl_val (v := .tuple #[.slice A30 ((movOf ts 2 at_).1.length) c31, .int .i64 ((movOf ts 2 at_).2)]) (fun ρ e => ex_move (e _ _ rfl)) rfl rfl ?_
    refine wl_val (v := .slice A30 ((movOf ts 2 at_).1.length) c31) (fun ρ e => ex_extract (vs := #[.slice A30 ((movOf ts 2 at_).1.length) c31, .int .i64 ((movOf ts 2 at_).2)]) (e _ _ rfl) rfl) rfl rfl ?_
    refine wl_val (v := .int .i64 ((movOf ts 2 at_).2)) (fun ρ e => ex_extract (vs := #[.slice A30 ((movOf ts 2 at_).1.length) c31, .int .i64 ((movOf ts 2 at_).2)]) (e _ _ rfl) rfl) rfl rfl ?_
    refine wl_val (v := .slice A30 ((movOf ts 2 at_).1.length) c31) (fun ρ e => ex_assign (e _ _ rfl)) rfl rfl ?_
    refine wl_val (v := .int .i64 ((movOf ts 2 at_).2)) (fun ρ e => ex_assign (e _ _ rfl)) rfl rfl ?_
    refine wl_nil ?_
    refine xw_next K29 ?_
    refine cw_seq (fun FK35 K35 => ?_)
    refine cw_region ?_
    refine wl_val (v := .slice A ts.length c) (fun ρ e => ex_move (e _ _ rfl)) rfl rfl ?_
    refine wl_val (v := .int .i64 at_) (fun ρ e => ex_move (e _ _ rfl)) rfl rfl ?_
    refine wl_call (args := [.slice A ts.length c, .int .i64 at_]) in_34 rfl rfl rfl ?_
    refine (swap_ (hN.move (fun k hk => (O34.old).block k (hD k hk))) (fun k hk => Nat.lt_of_lt_of_le (hD k hk) (O34.old).size) at_).mono ?_
    rintro _ w38 ⟨A36, c37, rfl, h39⟩
    have O40 := O34.join1 h39 trivial
    refine ⟨_, rfl, ?_⟩
    refine wl_val (v := .tuple #[.slice A36 ((movOf ts 3 at_).1.length) c37, .int .i64 ((movOf ts 3 at_).2)]) (fun ρ e => ex_move (e _ _ rfl)) rfl rfl ?_
    refine wl_val (v := .slice A36 ((movOf ts 3 at_).1.length) c37) (fun ρ e => ex_extract (vs := #[.slice A36 ((movOf ts 3 at_).1.length) c37, .int .i64 ((movOf ts 3 at_).2)]) (e _ _ rfl) rfl) rfl rfl ?_
    refine wl_val (v := .int .i64 ((movOf ts 3 at_).2)) (fun ρ e => ex_extract (vs := #[.slice A36 ((movOf ts 3 at_).1.length) c37, .int .i64 ((movOf ts 3 at_).2)]) (e _ _ rfl) rfl) rfl rfl ?_
    refine wl_val (v := .slice A36 ((movOf ts 3 at_).1.length) c37) (fun ρ e => ex_assign (e _ _ rfl)) rfl rfl ?_
    refine wl_val (v := .int .i64 ((movOf ts 3 at_).2)) (fun ρ e => ex_assign (e _ _ rfl)) rfl rfl ?_
    refine wl_nil ?_
    refine xw_next K35 ?_
    refine cw_seq (fun FK41 K41 => ?_)
    refine cw_region ?_
    refine wl_val (v := .slice A ts.length c) (fun ρ e => ex_move (e _ _ rfl)) rfl rfl ?_
    refine wl_val (v := .int .i64 at_) (fun ρ e => ex_move (e _ _ rfl)) rfl rfl ?_
    refine wl_call (args := [.slice A ts.length c, .int .i64 at_]) in_35 rfl rfl rfl ?_
    refine (rrotr_ (hN.move (fun k hk => (O40.old).block k (hD k hk))) (fun k hk => Nat.lt_of_lt_of_le (hD k hk) (O40.old).size) (by omega) at_).mono ?_
    rintro _ w44 ⟨A42, c43, rfl, h45⟩
    have O46 := O40.join1 h45 trivial
    refine ⟨_, rfl, ?_⟩
    refine wl_val (v := .tuple #[.slice A42 ((movOf ts 1 at_).1.length) c43, .int .i64 ((movOf ts 1 at_).2)]) (fun ρ e => ex_move (e _ _ rfl)) rfl rfl ?_
    refine wl_val (v := .slice A42 ((movOf ts 1 at_).1.length) c43) (fun ρ e => ex_extract (vs := #[.slice A42 ((movOf ts 1 at_).1.length) c43, .int .i64 ((movOf ts 1 at_).2)]) (e _ _ rfl) rfl) rfl rfl ?_
    refine wl_val (v := .int .i64 ((movOf ts 1 at_).2)) (fun ρ e => ex_extract (vs := #[.slice A42 ((movOf ts 1 at_).1.length) c43, .int .i64 ((movOf ts 1 at_).2)]) (e _ _ rfl) rfl) rfl rfl ?_
    refine wl_val (v := .slice A42 ((movOf ts 1 at_).1.length) c43) (fun ρ e => ex_assign (e _ _ rfl)) rfl rfl ?_
    refine wl_val (v := .int .i64 ((movOf ts 1 at_).2)) (fun ρ e => ex_assign (e _ _ rfl)) rfl rfl ?_
    refine wl_nil ?_
    refine xw_next K41 ?_
    refine cw_seq (fun FK47 K47 => ?_)
    refine cw_region ?_
    refine wl_val (v := .slice A ts.length c) (fun ρ e => ex_move (e _ _ rfl)) rfl rfl ?_
    refine wl_val (v := .int .i64 at_) (fun ρ e => ex_move (e _ _ rfl)) rfl rfl ?_
    refine wl_call (args := [.slice A ts.length c, .int .i64 at_]) in_36 rfl rfl rfl ?_
    refine (rrotl_ (hN.move (fun k hk => (O46.old).block k (hD k hk))) (fun k hk => Nat.lt_of_lt_of_le (hD k hk) (O46.old).size) (by omega) at_).mono ?_
    rintro _ w50 ⟨A48, c49, rfl, h51⟩
    have O52 := O46.join1 h51 trivial
    refine ⟨_, rfl, ?_⟩
    refine wl_val (v := .tuple #[.slice A48 ((movOf ts 2 at_).1.length) c49, .int .i64 ((movOf ts 2 at_).2)]) (fun ρ e => ex_move (e _ _ rfl)) rfl rfl ?_
    refine wl_val (v := .slice A48 ((movOf ts 2 at_).1.length) c49) (fun ρ e => ex_extract (vs := #[.slice A48 ((movOf ts 2 at_).1.length) c49, .int .i64 ((movOf ts 2 at_).2)]) (e _ _ rfl) rfl) rfl rfl ?_
    refine wl_val (v := .int .i64 ((movOf ts 2 at_).2)) (fun ρ e => ex_extract (vs := #[.slice A48 ((movOf ts 2 at_).1.length) c49, .int .i64 ((movOf ts 2 at_).2)]) (e _ _ rfl) rfl) rfl rfl ?_
    refine wl_val (v := .slice A48 ((movOf ts 2 at_).1.length) c49) (fun ρ e => ex_assign (e _ _ rfl)) rfl rfl ?_
    refine wl_val (v := .int .i64 ((movOf ts 2 at_).2)) (fun ρ e => ex_assign (e _ _ rfl)) rfl rfl ?_
    refine wl_nil ?_
    refine xw_next K47 ?_
    refine cw_seq (fun FK53 K53 => ?_)
    refine cw_region ?_
    refine wl_val (v := .slice A ts.length c) (fun ρ e => ex_move (e _ _ rfl)) rfl rfl ?_
    refine wl_val (v := .int .i64 at_) (fun ρ e => ex_move (e _ _ rfl)) rfl rfl ?_
    refine wl_call (args := [.slice A ts.length c, .int .i64 at_]) in_37 rfl rfl rfl ?_
    refine (rswap_ (hN.move (fun k hk => (O52.old).block k (hD k hk))) (fun k hk => Nat.lt_of_lt_of_le (hD k hk) (O52.old).size) (by omega) at_).mono ?_
    rintro _ w56 ⟨A54, c55, rfl, h57⟩
    have O58 := O52.join1 h57 trivial
    refine ⟨_, rfl, ?_⟩
    refine wl_val (v := .tuple #[.slice A54 ((movOf ts 3 at_).1.length) c55, .int .i64 ((movOf ts 3 at_).2)]) (fun ρ e => ex_move (e _ _ rfl)) rfl rfl ?_
    refine wl_val (v := .slice A54 ((movOf ts 3 at_).1.length) c55) (fun ρ e => ex_extract (vs := #[.slice A54 ((movOf ts 3 at_).1.length) c55, .int .i64 ((movOf ts 3 at_).2)]) (e _ _ rfl) rfl) rfl rfl ?_
    refine wl_val (v := .int .i64 ((movOf ts 3 at_).2)) (fun ρ e => ex_extract (vs := #[.slice A54 ((movOf ts 3 at_).1.length) c55, .int .i64 ((movOf ts 3 at_).2)]) (e _ _ rfl) rfl) rfl rfl ?_
    refine wl_val (v := .slice A54 ((movOf ts 3 at_).1.length) c55) (fun ρ e => ex_assign (e _ _ rfl)) rfl rfl ?_
    refine wl_val (v := .int .i64 ((movOf ts 3 at_).2)) (fun ρ e => ex_assign (e _ _ rfl)) rfl rfl ?_
    refine wl_nil ?_
    refine xw_next K53 ?_
    refine cw_seq (fun FK59 K59 => ?_)
    refine cw_seq (fun FK60 K60 => ?_)
    refine cw_region ?_
    refine wl_val (v := .slice A24 ((movOf ts 1 at_).1.length) c25) (fun ρ e => ex_move (e _ _ rfl)) rfl rfl ?_
    refine wl_val (v := .int .i64 ((movOf ts 1 at_).2)) (fun ρ e => ex_move (e _ _ rfl)) rfl rfl ?_
    refine wl_val (v := .slice A42 ((movOf ts 1 at_).1.length) c43) (fun ρ e => ex_move (e _ _ rfl)) rfl rfl ?_
    refine wl_val (v := .int .i64 ((movOf ts 1 at_).2)) (fun ρ e => ex_move (e _ _ rfl)) rfl rfl ?_
    refine wl_call (args := [.slice A24 ((movOf ts 1 at_).1.length) c25, .int .i64 ((movOf ts 1 at_).2), .slice A42 ((movOf ts 1 at_).1.length) c43, .int .i64 ((movOf ts 1 at_).2)]) in_19 rfl rfl rfl ?_
    refine (equal_ (NodesD.of_row (O58.row 5 rfl)) (fun k hk => (World.ownsRow.lt (O58.row 5 rfl) k hk).2) (NodesD.of_row (O58.row 2 rfl)) (fun k hk => (World.ownsRow.lt (O58.row 2 rfl) k hk).2) ((movOf ts 1 at_).2)).mono ?_
    rintro _ w61 ⟨rfl, hb62⟩
    have O63 : Own Z0 W w61 [.row (.slice A54 ((movOf ts 3 at_).1.length) c55) 38 3 ((movOf ts 3 at_).1.length) (ncells (movOf ts 3 at_).1), .row (.slice A48 ((movOf ts 2 at_).1.length) c49) 38 3 ((movOf ts 2 at_).1.length) (ncells (movOf ts 2 at_).1), .row (.slice A42 ((movOf ts 1 at_).1.length) c43) 38 3 ((movOf ts 1 at_).1.length) (ncells (movOf ts 1 at_).1), .row (.slice A36 ((movOf ts 3 at_).1.length) c37) 38 3 ((movOf ts 3 at_).1.length) (ncells (movOf ts 3 at_).1), .row (.slice A30 ((movOf ts 2 at_).1.length) c31) 38 3 ((movOf ts 2 at_).1.length) (ncells (movOf ts 2 at_).1), .row (.slice A24 ((movOf ts 1 at_).1.length) c25) 38 3 ((movOf ts 1 at_).1.length) (ncells (movOf ts 1 at_).1), .row (.slice A17 (0 + ts.length) c18) 38 3 (0 + ts.length) (ncells ts)] := O58.below hb62
    refine ⟨_, rfl, ?_⟩
    refine wl_val (v := .bool false) (fun ρ e => ex_lnot (b := true) (e _ _ rfl)) rfl rfl ?_
    refine wl_val (v := .bool false) (fun ρ e => ex_move (e _ _ rfl)) rfl rfl ?_
    refine wl_val (v := .slice A30 ((movOf ts 2 at_).1.length) c31) (fun ρ e => ex_move (e _ _ rfl)) rfl rfl ?_
    refine wl_val (v := .int .i64 ((movOf ts 2 at_).2)) (fun ρ e => ex_move (e _ _ rfl)) rfl rfl ?_
    refine wl_val (v := .slice A48 ((movOf ts 2 at_).1.length) c49) (fun ρ e => ex_move (e _ _ rfl)) rfl rfl ?_
    refine wl_val (v := .int .i64 ((movOf ts 2 at_).2)) (fun ρ e => ex_move (e _ _ rfl)) rfl rfl ?_
    refine wl_call (args := [.slice A30 ((movOf ts 2 at_).1.length) c31, .int .i64 ((movOf ts 2 at_).2), .slice A48 ((movOf ts 2 at_).1.length) c49, .int .i64 ((movOf ts 2 at_).2)]) in_19 rfl rfl rfl ?_
    refine (equal_ (NodesD.of_row (O63.row 4 rfl)) (fun k hk => (World.ownsRow.lt (O63.row 4 rfl) k hk).2) (NodesD.of_row (O63.row 1 rfl)) (fun k hk => (World.ownsRow.lt (O63.row 1 rfl) k hk).2) ((movOf ts 2 at_).2)).mono ?_
    rintro _ w64 ⟨rfl, hb65⟩
    have O66 : Own Z0 W w64 [.row (.slice A54 ((movOf ts 3 at_).1.length) c55) 38 3 ((movOf ts 3 at_).1.length) (ncells (movOf ts 3 at_).1), .row (.slice A48 ((movOf ts 2 at_).1.length) c49) 38 3 ((movOf ts 2 at_).1.length) (ncells (movOf ts 2 at_).1), .row (.slice A42 ((movOf ts 1 at_).1.length) c43) 38 3 ((movOf ts 1 at_).1.length) (ncells (movOf ts 1 at_).1), .row (.slice A36 ((movOf ts 3 at_).1.length) c37) 38 3 ((movOf ts 3 at_).1.length) (ncells (movOf ts 3 at_).1), .row (.slice A30 ((movOf ts 2 at_).1.length) c31) 38 3 ((movOf ts 2 at_).1.length) (ncells (movOf ts 2 at_).1), .row (.slice A24 ((movOf ts 1 at_).1.length) c25) 38 3 ((movOf ts 1 at_).1.length) (ncells (movOf ts 1 at_).1), .row (.slice A17 (0 + ts.length) c18) 38 3 (0 + ts.length) (ncells ts)] := O63.below hb65
    refine ⟨_, rfl, ?_⟩
    refine wl_val (v := .bool false) (fun ρ e => ex_lnot (b := true) (e _ _ rfl)) rfl rfl ?_
    refine wl_val (v := .bool false) (fun ρ e => ex_pick0 (e _ _ rfl) (e _ _ rfl)) rfl rfl ?_
    refine wl_val (v := .bool false) (fun ρ e => ex_move (e _ _ rfl)) rfl rfl ?_
    refine wl_val (v := .slice A36 ((movOf ts 3 at_).1.length) c37) (fun ρ e => ex_move (e _ _ rfl)) rfl rfl ?_
    refine wl_val (v := .int .i64 ((movOf ts 3 at_).2)) (fun ρ e => ex_move (e _ _ rfl)) rfl rfl ?_
    refine wl_val (v := .slice A54 ((movOf ts 3 at_).1.length) c55) (fun ρ e => ex_move (e _ _ rfl)) rfl rfl ?_
    refine wl_val (v := .int .i64 ((movOf ts 3 at_).2)) (fun ρ e => ex_move (e _ _ rfl)) rfl rfl ?_
    refine wl_call (args := [.slice A36 ((movOf ts 3 at_).1.length) c37, .int .i64 ((movOf ts 3 at_).2), .slice A54 ((movOf ts 3 at_).1.length) c55, .int .i64 ((movOf ts 3 at_).2)]) in_19 rfl rfl rfl ?_
    refine (equal_ (NodesD.of_row (O66.row 3 rfl)) (fun k hk => (World.ownsRow.lt (O66.row 3 rfl) k hk).2) (NodesD.of_row (O66.row 0 rfl)) (fun k hk => (World.ownsRow.lt (O66.row 0 rfl) k hk).2) ((movOf ts 3 at_).2)).mono ?_
    rintro _ w67 ⟨rfl, hb68⟩
    have O69 : Own Z0 W w67 [.row (.slice A54 ((movOf ts 3 at_).1.length) c55) 38 3 ((movOf ts 3 at_).1.length) (ncells (movOf ts 3 at_).1), .row (.slice A48 ((movOf ts 2 at_).1.length) c49) 38 3 ((movOf ts 2 at_).1.length) (ncells (movOf ts 2 at_).1), .row (.slice A42 ((movOf ts 1 at_).1.length) c43) 38 3 ((movOf ts 1 at_).1.length) (ncells (movOf ts 1 at_).1), .row (.slice A36 ((movOf ts 3 at_).1.length) c37) 38 3 ((movOf ts 3 at_).1.length) (ncells (movOf ts 3 at_).1), .row (.slice A30 ((movOf ts 2 at_).1.length) c31) 38 3 ((movOf ts 2 at_).1.length) (ncells (movOf ts 2 at_).1), .row (.slice A24 ((movOf ts 1 at_).1.length) c25) 38 3 ((movOf ts 1 at_).1.length) (ncells (movOf ts 1 at_).1), .row (.slice A17 (0 + ts.length) c18) 38 3 (0 + ts.length) (ncells ts)] := O66.below hb68
    refine ⟨_, rfl, ?_⟩
    refine wl_val (v := .bool false) (fun ρ e => ex_lnot (b := true) (e _ _ rfl)) rfl rfl ?_
    refine wl_val (v := .bool false) (fun ρ e => ex_pick0 (e _ _ rfl) (e _ _ rfl)) rfl rfl ?_
    refine wl_nil ?_
    refine xw_next K60 ?_
    refine cw_false rfl ?_
    refine cw_skip ?_
    refine xw_next K59 ?_
    refine cw_seq (fun FK70 K70 => ?_)
    refine cw_seq (fun FK71 K71 => ?_)
    refine cw_region ?_
    refine wl_val (v := .slice A24 ((movOf ts 1 at_).1.length) c25) (fun ρ e => ex_move (e _ _ rfl)) rfl rfl ?_
    refine wl_val (v := .slice A30 ((movOf ts 2 at_).1.length) c31) (fun ρ e => ex_move (e _ _ rfl)) rfl rfl ?_
    refine wl_val (v := .slice A36 ((movOf ts 3 at_).1.length) c37) (fun ρ e => ex_move (e _ _ rfl)) rfl rfl ?_
    obtain ⟨g72, w73, r74, O75, hg76, hs77⟩ := own_slice O69 el47 ze23 3 [(0, .slice A24 ((movOf ts 1 at_).1.length) c25), (1, .slice A30 ((movOf ts 2 at_).1.length) c31), (2, .slice A36 ((movOf ts 3 at_).1.length) c37)] (cs := #[.slice A24 ((movOf ts 1 at_).1.length) c25, .slice A30 ((movOf ts 2 at_).1.length) c31, .slice A36 ((movOf ts 3 at_).1.length) c37]) (by decide) (by kernel_rfl)
    refine wl_val (v := .slice (some ⟨g72, 0, none⟩) 3 3) (fun ρ e => r74 ρ _ _ _ _ _ _ (e.parts rfl)) rfl rfl ?_
    refine wl_val (v := .int .i64 (3 : Int)) (fun ρ e => ex_len el47 (e _ _ rfl)) rfl rfl ?_
    refine wl_val (v := .int .i64 0) (fun ρ e => ex_move (e _ _ rfl)) rfl rfl ?_
    refine wl_nil ?_
    refine xw_next K71 ?_
    refine cw_block ?_
    have O78 : Own Z0 W w73 [.row (.slice A24 ((movOf ts 1 at_).1.length) c25) 38 3 ((movOf ts 1 at_).1.length) (ncells (movOf ts 1 at_).1), .row (.slice A30 ((movOf ts 2 at_).1.length) c31) 38 3 ((movOf ts 2 at_).1.length) (ncells (movOf ts 2 at_).1), .row (.slice A36 ((movOf ts 3 at_).1.length) c37) 38 3 ((movOf ts 3 at_).1.length) (ncells (movOf ts 3 at_).1), .blk g72 23 #[.slice A24 ((movOf ts 1 at_).1.length) c25, .slice A30 ((movOf ts 2 at_).1.length) c31, .slice A36 ((movOf ts 3 at_).1.length) c37], .row (.slice A17 (0 + ts.length) c18) 38 3 (0 + ts.length) (ncells ts)] := (O75.re [6, 5, 4, 0, 7] rfl : Own Z0 W w73 [.row (.slice A24 ((movOf ts 1 at_).1.length) c25) 38 3 ((movOf ts 1 at_).1.length) (ncells (movOf ts 1 at_).1), .row (.slice A30 ((movOf ts 2 at_).1.length) c31) 38 3 ((movOf ts 2 at_).1.length) (ncells (movOf ts 2 at_).1), .row (.slice A36 ((movOf ts 3 at_).1.length) c37) 38 3 ((movOf ts 3 at_).1.length) (ncells (movOf ts 3 at_).1), .blk g72 23 #[.slice A24 ((movOf ts 1 at_).1.length) c25, .slice A30 ((movOf ts 2 at_).1.length) c31, .slice A36 ((movOf ts 3 at_).1.length) c37], .row (.slice A17 (0 + ts.length) c18) 38 3 (0 + ts.length) (ncells ts)])
    refine cw_loop (ι := Nat × List Value × List Value × List Value) (fun q => [(0, .slice A ts.length c), (5, .slice A17 (0 + ts.length) c18), (89, .slice (some ⟨g72, 0, none⟩) 3 3), (90, .int .i64 (3 : Int)), (91, .int .i64 (q.1 : Int))]) (fun q X => (q.1 ≤ 3) ∧ Own Z0 W X [.row (.slice A24 ((movOf ts 1 at_).1.length) c25) 38 3 ((movOf ts 1 at_).1.length) q.2.1, .row (.slice A30 ((movOf ts 2 at_).1.length) c31) 38 3 ((movOf ts 2 at_).1.length) q.2.2.1, .row (.slice A36 ((movOf ts 3 at_).1.length) c37) 38 3 ((movOf ts 3 at_).1.length) q.2.2.2, .blk g72 23 #[.slice A24 ((movOf ts 1 at_).1.length) c25, .slice A30 ((movOf ts 2 at_).1.length) c31, .slice A36 ((movOf ts 3 at_).1.length) c37], .row (.slice A17 (0 + ts.length) c18) 38 3 (0 + ts.length) (ncells ts)]) (fun q => 3 - q.1) (0, (ncells (movOf ts 1 at_).1), (ncells (movOf ts 2 at_).1), (ncells (movOf ts 3 at_).1)) ⟨Nat.zero_le _, O78⟩ ⟨rfl, rfl, rfl, rfl, rfl, trivial⟩ (fun q w79 hJ F80 K81 => ?_)
    obtain ⟨j, xs0, xs1, xs2⟩ := q
    obtain ⟨hj0, O82⟩ := hJ
    dsimp only at hj0 O82 ⊢
    rcases (show j = 0 ∨ j = 1 ∨ j = 2 ∨ j = 3 by omega) with rfl | rfl | rfl | rfl
    · skip
      refine cw_seq (fun FK83 K83 => ?_)
      refine cw_region ?_
      refine wl_val (v := .bool true) (fun ρ e => ex_cmp (u := ((0 : Nat) : Int)) (v := (3 : Int)) (e _ _ rfl) (e _ _ rfl) (lss1 (by omega))) rfl rfl ?_
      refine wl_nil ?_
      refine xw_next K83 ?_
      refine cw_seq (fun FK84 K84 => ?_)
      refine cw_true rfl ?_
      refine cw_skip ?_
      refine xw_next K84 ?_
      refine cw_seq (fun FK85 K85 => ?_)
      refine cw_block ?_
      refine cw_seq (fun FK86 K86 => ?_)
      refine cw_region ?_
      refine wl_val (v := .pointer (some ⟨g72, 0, none⟩)) (fun ρ e => ex_idx (q := 0) (i := 0) el47 (e _ _ rfl) (e _ _ rfl) (by omega) (by omega)) rfl rfl ?_
      refine wl_val (v := .slice A24 ((movOf ts 1 at_).1.length) c25) (fun ρ e => ex_load1 ty23 (e _ _ rfl) (O82.cell 3 0 rfl rfl)) rfl rfl ?_
      refine wl_val (v := .slice A24 ((movOf ts 1 at_).1.length) c25) (fun ρ e => ex_assign (e _ _ rfl)) rfl rfl ?_
      refine wl_nil ?_
      refine xw_next K86 ?_
      refine cw_seq (fun FK87 K87 => ?_)
      refine cw_region ?_
      refine wl_val (v := .slice A24 ((movOf ts 1 at_).1.length) c25) (fun ρ e => ex_move (e _ _ rfl)) rfl rfl ?_
      refine wl_val (v := .int .i64 (((movOf ts 1 at_).1.length : Nat) : Int)) (fun ρ e => ex_len el23 (e _ _ rfl)) rfl rfl ?_
      refine wl_val (v := .int .i64 0) (fun ρ e => ex_move (e _ _ rfl)) rfl rfl ?_
      refine wl_nil ?_
      refine xw_next K87 ?_
      refine cw_block ?_
      have O88 : Own Z0 W w79 [.row (.slice A24 ((movOf ts 1 at_).1.length) c25) 38 3 ((movOf ts 1 at_).1.length) xs0, .row (.slice A30 ((movOf ts 2 at_).1.length) c31) 38 3 ((movOf ts 2 at_).1.length) xs1, .row (.slice A36 ((movOf ts 3 at_).1.length) c37) 38 3 ((movOf ts 3 at_).1.length) xs2, .blk g72 23 #[.slice A24 ((movOf ts 1 at_).1.length) c25, .slice A30 ((movOf ts 2 at_).1.length) c31, .slice A36 ((movOf ts 3 at_).1.length) c37], .row (.slice A17 (0 + ts.length) c18) 38 3 (0 + ts.length) (ncells ts)] := O82
      refine cw_loop (ι := Nat × List Value) (fun q => [(0, .slice A ts.length c), (5, .slice A17 (0 + ts.length) c18), (19, .slice A24 ((movOf ts 1 at_).1.length) c25), (89, .slice (some ⟨g72, 0, none⟩) 3 3), (90, .int .i64 (3 : Int)), (91, .int .i64 ((0 : Nat) : Int)), (96, .int .i64 (((movOf ts 1 at_).1.length : Nat) : Int)), (97, .int .i64 (q.1 : Int))]) (fun q X => (q.1 ≤ (movOf ts 1 at_).1.length) ∧ Own Z0 W X [.row (.slice A24 ((movOf ts 1 at_).1.length) c25) 38 3 ((movOf ts 1 at_).1.length) q.2, .row (.slice A30 ((movOf ts 2 at_).1.length) c31) 38 3 ((movOf ts 2 at_).1.length) xs1, .row (.slice A36 ((movOf ts 3 at_).1.length) c37) 38 3 ((movOf ts 3 at_).1.length) xs2, .blk g72 23 #[.slice A24 ((movOf ts 1 at_).1.length) c25, .slice A30 ((movOf ts 2 at_).1.length) c31, .slice A36 ((movOf ts 3 at_).1.length) c37], .row (.slice A17 (0 + ts.length) c18) 38 3 (0 + ts.length) (ncells ts)]) (fun q => (movOf ts 1 at_).1.length - q.1) (0, xs0) ⟨Nat.zero_le _, O88⟩ ⟨rfl, rfl, rfl, rfl, rfl, rfl, rfl, rfl, trivial⟩ (fun q w89 hJ F90 K91 => ?_)
      obtain ⟨i, ys⟩ := q
      obtain ⟨hi0, O92⟩ := hJ
      dsimp only at hi0 O92 ⊢
      by_cases hi : i < (movOf ts 1 at_).1.length
      · skip
        obtain ⟨gr, hgr⟩ := rowaddr (O92.row 0 rfl) (show 0 < (movOf ts 1 at_).1.length by omega)
        have hrl : (movOf ts 1 at_).1.length ≤ 255 := mov_small _ _ (by omega) _
        refine cw_seq (fun FK93 K93 => ?_)
        refine cw_region ?_
        refine wl_val (v := .bool true) (fun ρ e => ex_cmp (u := (i : Int)) (v := (((movOf ts 1 at_).1.length : Nat) : Int)) (e _ _ rfl) (e _ _ rfl) (lss1 (by omega))) rfl rfl ?_
        refine wl_nil ?_
        refine xw_next K93 ?_
        refine cw_seq (fun FK94 K94 => ?_)
        refine cw_true rfl ?_
        refine cw_skip ?_
        refine xw_next K94 ?_
        refine cw_seq (fun FK95 K95 => ?_)
        refine cw_block ?_
        refine cw_seq (fun FK96 K96 => ?_)
        refine cw_region ?_
        refine wl_val (v := .int .i64 (i : Int)) (fun ρ e => ex_move (e _ _ rfl)) rfl rfl ?_
        refine wl_val (v := .int .i64 (i : Int)) (fun ρ e => ex_assign (e _ _ rfl)) rfl rfl ?_
        refine wl_nil ?_
        refine xw_next K96 ?_
        refine cw_region ?_
        refine wl_val (v := .slice A24 ((movOf ts 1 at_).1.length) c25) (fun ρ e => ex_move (e _ _ rfl)) rfl rfl ?_
        refine wl_val (v := .int .i64 (i : Int)) (fun ρ e => ex_move (e _ _ rfl)) rfl rfl ?_
        refine wl_val (v := .pointer (some ⟨gr, i * 3, none⟩)) (fun ρ e => ex_idx (q := i * 3) (g := gr) (o := 0) (i := i) (m := (movOf ts 1 at_).1.length) (c := c25) el23 ((e _ _ rfl).trans (congrArg (fun z => Value.slice z (movOf ts 1 at_).1.length c25) hgr)) (e _ _ rfl) hi (by omega)) rfl rfl ?_
        refine wl_val (v := .pointer (some ⟨gr, i * 3 + 2, none⟩)) (fun ρ e => ex_field (q := i * 3 + 2) fi38_2 (e _ _ rfl) rfl) rfl rfl ?_
        obtain ⟨w97, r98, O99⟩ := own_putrowN O92 hgr ty3 (k := i * 3 + 2) (show i * 3 + 2 < (movOf ts 1 at_).1.length * 3 by omega) (.int .i64 77) rfl rfl
        refine wl_none (fun ρ e => r98 ρ _ _ _ _ _ _ (e _ _ rfl) (e _ _ rfl)) rfl ?_
        refine wl_nil ?_
        refine xw_block ?_
        refine xw_next K95 ?_
        refine cw_region ?_
        refine wl_val (v := .int .i64 ((i + 1 : Nat) : Int)) (fun ρ e => ex_arith (k := .i64) (u := (i : Int)) (v := 1) (e _ _ rfl) (e _ _ rfl) (congrArg some ((congrArg _ (by omega)).trans (wrap_in (u := ((i + 1 : Nat) : Int)) (by omega) (by omega))))) rfl rfl ?_
        refine wl_val (v := .int .i64 ((i + 1 : Nat) : Int)) (fun ρ e => ex_move (e _ _ rfl)) rfl rfl ?_
        refine wl_nil ?_
        refine xw_round K91 (i + 1, (ys.set (i * 3 + 2) (.int .i64 77))) (by show (movOf ts 1 at_).1.length - (i + 1) < (movOf ts 1 at_).1.length - i; omega) ⟨(by show i + 1 ≤ (movOf ts 1 at_).1.length; omega), O99⟩ ⟨rfl, rfl, rfl, rfl, rfl, rfl, rfl, rfl, trivial⟩
      · skip
        refine cw_seq (fun FK100 K100 => ?_)
        refine cw_region ?_
        refine wl_val (v := .bool false) (fun ρ e => ex_cmp (u := (i : Int)) (v := (((movOf ts 1 at_).1.length : Nat) : Int)) (e _ _ rfl) (e _ _ rfl) (lss0 (by omega))) rfl rfl ?_
        refine wl_nil ?_
        refine xw_next K100 ?_
        refine cw_seq (fun FK101 K101 => ?_)
        refine cw_false rfl ?_
        refine cw_exit ?_
        refine xw_past (by intro h; cases h) ?_
        refine xw_past (by intro h; cases h) ?_
        refine xw_here ?_
        refine xw_block ?_
        refine xw_next K85 ?_
        refine cw_region ?_
        refine wl_val (v := .int .i64 ((0 + 1 : Nat) : Int)) (fun ρ e => ex_arith (k := .i64) (u := ((0 : Nat) : Int)) (v := 1) (e _ _ rfl) (e _ _ rfl) (congrArg some ((congrArg _ (by omega)).trans (wrap_in (u := ((0 + 1 : Nat) : Int)) (by omega) (by omega))))) rfl rfl ?_
        refine wl_val (v := .int .i64 ((0 + 1 : Nat) : Int)) (fun ρ e => ex_move (e _ _ rfl)) rfl rfl ?_
        refine wl_nil ?_
        refine xw_round K81 (0 + 1, ys, xs1, xs2) (by show 3 - (0 + 1) < 3 - 0; omega) ⟨(by show 0 + 1 ≤ 3; omega), O92⟩ ⟨rfl, rfl, rfl, rfl, rfl, trivial⟩
    · skip
      refine cw_seq (fun FK102 K102 => ?_)
      refine cw_region ?_
      refine wl_val (v := .bool true) (fun ρ e => ex_cmp (u := ((1 : Nat) : Int)) (v := (3 : Int)) (e _ _ rfl) (e _ _ rfl) (lss1 (by omega))) rfl rfl ?_
      refine wl_nil ?_
      refine xw_next K102 ?_
      refine cw_seq (fun FK103 K103 => ?_)
      refine cw_true rfl ?_
      refine cw_skip ?_
      refine xw_next K103 ?_
      refine cw_seq (fun FK104 K104 => ?_)
      refine cw_block ?_
      refine cw_seq (fun FK105 K105 => ?_)
      refine cw_region ?_
      refine wl_val (v := .pointer (some ⟨g72, 1, none⟩)) (fun ρ e => ex_idx (q := 1) (i := 1) el47 (e _ _ rfl) (e _ _ rfl) (by omega) (by omega)) rfl rfl ?_
      refine wl_val (v := .slice A30 ((movOf ts 2 at_).1.length) c31) (fun ρ e => ex_load1 ty23 (e _ _ rfl) (O82.cell 3 1 rfl rfl)) rfl rfl ?_
      refine wl_val (v := .slice A30 ((movOf ts 2 at_).1.length) c31) (fun ρ e => ex_assign (e _ _ rfl)) rfl rfl ?_
      refine wl_nil ?_
      refine xw_next K105 ?_
      refine cw_seq (fun FK106 K106 => ?_)
      refine cw_region ?_
      refine wl_val (v := .slice A30 ((movOf ts 2 at_).1.length) c31) (fun ρ e => ex_move (e _ _ rfl)) rfl rfl ?_
      refine wl_val (v := .int .i64 (((movOf ts 2 at_).1.length : Nat) : Int)) (fun ρ e => ex_len el23 (e _ _ rfl)) rfl rfl ?_
      refine wl_val (v := .int .i64 0) (fun ρ e => ex_move (e _ _ rfl)) rfl rfl ?_
      refine wl_nil ?_
      refine xw_next K106 ?_
      refine cw_block ?_
      have O107 : Own Z0 W w79 [.row (.slice A30 ((movOf ts 2 at_).1.length) c31) 38 3 ((movOf ts 2 at_).1.length) xs1, .row (.slice A24 ((movOf ts 1 at_).1.length) c25) 38 3 ((movOf ts 1 at_).1.length) xs0, .row (.slice A36 ((movOf ts 3 at_).1.length) c37) 38 3 ((movOf ts 3 at_).1.length) xs2, .blk g72 23 #[.slice A24 ((movOf ts 1 at_).1.length) c25, .slice A30 ((movOf ts 2 at_).1.length) c31, .slice A36 ((movOf ts 3 at_).1.length) c37], .row (.slice A17 (0 + ts.length) c18) 38 3 (0 + ts.length) (ncells ts)] := (O82.re [1, 0, 2, 3, 4] rfl : Own Z0 W w79 [.row (.slice A30 ((movOf ts 2 at_).1.length) c31) 38 3 ((movOf ts 2 at_).1.length) xs1, .row (.slice A24 ((movOf ts 1 at_).1.length) c25) 38 3 ((movOf ts 1 at_).1.length) xs0, .row (.slice A36 ((movOf ts 3 at_).1.length) c37) 38 3 ((movOf ts 3 at_).1.length) xs2, .blk g72 23 #[.slice A24 ((movOf ts 1 at_).1.length) c25, .slice A30 ((movOf ts 2 at_).1.length) c31, .slice A36 ((movOf ts 3 at_).1.length) c37], .row (.slice A17 (0 + ts.length) c18) 38 3 (0 + ts.length) (ncells ts)])
      refine cw_loop (ι := Nat × List Value) (fun q => [(0, .slice A ts.length c), (5, .slice A17 (0 + ts.length) c18), (19, .slice A30 ((movOf ts 2 at_).1.length) c31), (89, .slice (some ⟨g72, 0, none⟩) 3 3), (90, .int .i64 (3 : Int)), (91, .int .i64 ((1 : Nat) : Int)), (96, .int .i64 (((movOf ts 2 at_).1.length : Nat) : Int)), (97, .int .i64 (q.1 : Int))]) (fun q X => (q.1 ≤ (movOf ts 2 at_).1.length) ∧ Own Z0 W X [.row (.slice A30 ((movOf ts 2 at_).1.length) c31) 38 3 ((movOf ts 2 at_).1.length) q.2, .row (.slice A24 ((movOf ts 1 at_).1.length) c25) 38 3 ((movOf ts 1 at_).1.length) xs0, .row (.slice A36 ((movOf ts 3 at_).1.length) c37) 38 3 ((movOf ts 3 at_).1.length) xs2, .blk g72 23 #[.slice A24 ((movOf ts 1 at_).1.length) c25, .slice A30 ((movOf ts 2 at_).1.length) c31, .slice A36 ((movOf ts 3 at_).1.length) c37], .row (.slice A17 (0 + ts.length) c18) 38 3 (0 + ts.length) (ncells ts)]) (fun q => (movOf ts 2 at_).1.length - q.1) (0, xs1) ⟨Nat.zero_le _, O107⟩ ⟨rfl, rfl, rfl, rfl, rfl, rfl, rfl, rfl, trivial⟩ (fun q w108 hJ F109 K110 => ?_)
      obtain ⟨i, ys⟩ := q
      obtain ⟨hi0, O111⟩ := hJ
      dsimp only at hi0 O111 ⊢
      by_cases hi : i < (movOf ts 2 at_).1.length
      · skip
        obtain ⟨gr, hgr⟩ := rowaddr (O111.row 0 rfl) (show 0 < (movOf ts 2 at_).1.length by omega)
        have hrl : (movOf ts 2 at_).1.length ≤ 255 := mov_small _ _ (by omega) _
        refine cw_seq (fun FK112 K112 => ?_)
        refine cw_region ?_
        refine wl_val (v := .bool true) (fun ρ e => ex_cmp (u := (i : Int)) (v := (((movOf ts 2 at_).1.length : Nat) : Int)) (e _ _ rfl) (e _ _ rfl) (lss1 (by omega))) rfl rfl ?_
        refine wl_nil ?_
        refine xw_next K112 ?_
        refine cw_seq (fun FK113 K113 => ?_)
        refine cw_true rfl ?_
        refine cw_skip ?_
        refine xw_next K113 ?_
        refine cw_seq (fun FK114 K114 => ?_)
        refine cw_block ?_
        refine cw_seq (fun FK115 K115 => ?_)
        refine cw_region ?_
        refine wl_val (v := .int .i64 (i : Int)) (fun ρ e => ex_move (e _ _ rfl)) rfl rfl ?_
        refine wl_val (v := .int .i64 (i : Int)) (fun ρ e => ex_assign (e _ _ rfl)) rfl rfl ?_
        refine wl_nil ?_
        refine xw_next K115 ?_
        refine cw_region ?_
        refine wl_val (v := .slice A30 ((movOf ts 2 at_).1.length) c31) (fun ρ e => ex_move (e _ _ rfl)) rfl rfl ?_
        refine wl_val (v := .int .i64 (i : Int)) (fun ρ e => ex_move (e _ _ rfl)) rfl rfl ?_
        refine wl_val (v := .pointer (some ⟨gr, i * 3, none⟩)) (fun ρ e => ex_idx (q := i * 3) (g := gr) (o := 0) (i := i) (m := (movOf ts 2 at_).1.length) (c := c31) el23 ((e _ _ rfl).trans (congrArg (fun z => Value.slice z (movOf ts 2 at_).1.length c31) hgr)) (e _ _ rfl) hi (by omega)) rfl rfl ?_
        refine wl_val (v := .pointer (some ⟨gr, i * 3 + 2, none⟩)) (fun ρ e => ex_field (q := i * 3 + 2) fi38_2 (e _ _ rfl) rfl) rfl rfl ?_
        obtain ⟨w116, r117, O118⟩ := own_putrowN O111 hgr ty3 (k := i * 3 + 2) (show i * 3 + 2 < (movOf ts 2 at_).1.length * 3 by omega) (.int .i64 77) rfl rfl
        refine wl_none (fun ρ e => r117 ρ _ _ _ _ _ _ (e _ _ rfl) (e _ _ rfl)) rfl ?_
        refine wl_nil ?_
        refine xw_block ?_
        refine xw_next K114 ?_
        refine cw_region ?_
        refine wl_val (v := .int .i64 ((i + 1 : Nat) : Int)) (fun ρ e => ex_arith (k := .i64) (u := (i : Int)) (v := 1) (e _ _ rfl) (e _ _ rfl) (congrArg some ((congrArg _ (by omega)).trans (wrap_in (u := ((i + 1 : Nat) : Int)) (by omega) (by omega))))) rfl rfl ?_
        refine wl_val (v := .int .i64 ((i + 1 : Nat) : Int)) (fun ρ e => ex_move (e _ _ rfl)) rfl rfl ?_
        refine wl_nil ?_
        refine xw_round K110 (i + 1, (ys.set (i * 3 + 2) (.int .i64 77))) (by show (movOf ts 2 at_).1.length - (i + 1) < (movOf ts 2 at_).1.length - i; omega) ⟨(by show i + 1 ≤ (movOf ts 2 at_).1.length; omega), O118⟩ ⟨rfl, rfl, rfl, rfl, rfl, rfl, rfl, rfl, trivial⟩
      · skip
        refine cw_seq (fun FK119 K119 => ?_)
        refine cw_region ?_
        refine wl_val (v := .bool false) (fun ρ e => ex_cmp (u := (i : Int)) (v := (((movOf ts 2 at_).1.length : Nat) : Int)) (e _ _ rfl) (e _ _ rfl) (lss0 (by omega))) rfl rfl ?_
        refine wl_nil ?_
        refine xw_next K119 ?_
        refine cw_seq (fun FK120 K120 => ?_)
        refine cw_false rfl ?_
        refine cw_exit ?_
        refine xw_past (by intro h; cases h) ?_
        refine xw_past (by intro h; cases h) ?_
        refine xw_here ?_
        refine xw_block ?_
        refine xw_next K104 ?_
        refine cw_region ?_
        refine wl_val (v := .int .i64 ((1 + 1 : Nat) : Int)) (fun ρ e => ex_arith (k := .i64) (u := ((1 : Nat) : Int)) (v := 1) (e _ _ rfl) (e _ _ rfl) (congrArg some ((congrArg _ (by omega)).trans (wrap_in (u := ((1 + 1 : Nat) : Int)) (by omega) (by omega))))) rfl rfl ?_
        refine wl_val (v := .int .i64 ((1 + 1 : Nat) : Int)) (fun ρ e => ex_move (e _ _ rfl)) rfl rfl ?_
        refine wl_nil ?_
        refine xw_round K81 (1 + 1, xs0, ys, xs2) (by show 3 - (1 + 1) < 3 - 1; omega) ⟨(by show 1 + 1 ≤ 3; omega), (O111.re [1, 0, 2, 3, 4] rfl : Own Z0 W w108 [.row (.slice A24 ((movOf ts 1 at_).1.length) c25) 38 3 ((movOf ts 1 at_).1.length) xs0, .row (.slice A30 ((movOf ts 2 at_).1.length) c31) 38 3 ((movOf ts 2 at_).1.length) ys, .row (.slice A36 ((movOf ts 3 at_).1.length) c37) 38 3 ((movOf ts 3 at_).1.length) xs2, .blk g72 23 #[.slice A24 ((movOf ts 1 at_).1.length) c25, .slice A30 ((movOf ts 2 at_).1.length) c31, .slice A36 ((movOf ts 3 at_).1.length) c37], .row (.slice A17 (0 + ts.length) c18) 38 3 (0 + ts.length) (ncells ts)])⟩ ⟨rfl, rfl, rfl, rfl, rfl, trivial⟩
    · skip
      refine cw_seq (fun FK121 K121 => ?_)
      refine cw_region ?_
      refine wl_val (v := .bool true) (fun ρ e => ex_cmp (u := ((2 : Nat) : Int)) (v := (3 : Int)) (e _ _ rfl) (e _ _ rfl) (lss1 (by omega))) rfl rfl ?_
      refine wl_nil ?_
      refine xw_next K121 ?_
      refine cw_seq (fun FK122 K122 => ?_)
      refine cw_true rfl ?_
      refine cw_skip ?_
      refine xw_next K122 ?_
      refine cw_seq (fun FK123 K123 => ?_)
      refine cw_block ?_
      refine cw_seq (fun FK124 K124 => ?_)
      refine cw_region ?_
      refine wl_val (v := .pointer (some ⟨g72, 2, none⟩)) (fun ρ e => ex_idx (q := 2) (i := 2) el47 (e _ _ rfl) (e _ _ rfl) (by omega) (by omega)) rfl rfl ?_
      refine wl_val (v := .slice A36 ((movOf ts 3 at_).1.length) c37) (fun ρ e => ex_load1 ty23 (e _ _ rfl) (O82.cell 3 2 rfl rfl)) rfl rfl ?_
      refine wl_val (v := .slice A36 ((movOf ts 3 at_).1.length) c37) (fun ρ e => ex_assign (e _ _ rfl)) rfl rfl ?_
      refine wl_nil ?_
      refine xw_next K124 ?_
      refine cw_seq (fun FK125 K125 => ?_)
      refine cw_region ?_
      refine wl_val (v := .slice A36 ((movOf ts 3 at_).1.length) c37) (fun ρ e => ex_move (e _ _ rfl)) rfl rfl ?_
      refine wl_val (v := .int .i64 (((movOf ts 3 at_).1.length : Nat) : Int)) (fun ρ e => ex_len el23 (e _ _ rfl)) rfl rfl ?_
      refine wl_val (v := .int .i64 0) (fun ρ e => ex_move (e _ _ rfl)) rfl rfl ?_
      refine wl_nil ?_
      refine xw_next K125 ?_
      refine cw_block ?_
      have O126 : Own Z0 W w79 [.row (.slice A36 ((movOf ts 3 at_).1.length) c37) 38 3 ((movOf ts 3 at_).1.length) xs2, .row (.slice A24 ((movOf ts 1 at_).1.length) c25) 38 3 ((movOf ts 1 at_).1.length) xs0, .row (.slice A30 ((movOf ts 2 at_).1.length) c31) 38 3 ((movOf ts 2 at_).1.length) xs1, .blk g72 23 #[.slice A24 ((movOf ts 1 at_).1.length) c25, .slice A30 ((movOf ts 2 at_).1.length) c31, .slice A36 ((movOf ts 3 at_).1.length) c37], .row (.slice A17 (0 + ts.length) c18) 38 3 (0 + ts.length) (ncells ts)] := (O82.re [2, 0, 1, 3, 4] rfl : Own Z0 W w79 [.row (.slice A36 ((movOf ts 3 at_).1.length) c37) 38 3 ((movOf ts 3 at_).1.length) xs2, .row (.slice A24 ((movOf ts 1 at_).1.length) c25) 38 3 ((movOf ts 1 at_).1.length) xs0, .row (.slice A30 ((movOf ts 2 at_).1.length) c31) 38 3 ((movOf ts 2 at_).1.length) xs1, .blk g72 23 #[.slice A24 ((movOf ts 1 at_).1.length) c25, .slice A30 ((movOf ts 2 at_).1.length) c31, .slice A36 ((movOf ts 3 at_).1.length) c37], .row (.slice A17 (0 + ts.length) c18) 38 3 (0 + ts.length) (ncells ts)])
      refine cw_loop (ι := Nat × List Value) (fun q => [(0, .slice A ts.length c), (5, .slice A17 (0 + ts.length) c18), (19, .slice A36 ((movOf ts 3 at_).1.length) c37), (89, .slice (some ⟨g72, 0, none⟩) 3 3), (90, .int .i64 (3 : Int)), (91, .int .i64 ((2 : Nat) : Int)), (96, .int .i64 (((movOf ts 3 at_).1.length : Nat) : Int)), (97, .int .i64 (q.1 : Int))]) (fun q X => (q.1 ≤ (movOf ts 3 at_).1.length) ∧ Own Z0 W X [.row (.slice A36 ((movOf ts 3 at_).1.length) c37) 38 3 ((movOf ts 3 at_).1.length) q.2, .row (.slice A24 ((movOf ts 1 at_).1.length) c25) 38 3 ((movOf ts 1 at_).1.length) xs0, .row (.slice A30 ((movOf ts 2 at_).1.length) c31) 38 3 ((movOf ts 2 at_).1.length) xs1, .blk g72 23 #[.slice A24 ((movOf ts 1 at_).1.length) c25, .slice A30 ((movOf ts 2 at_).1.length) c31, .slice A36 ((movOf ts 3 at_).1.length) c37], .row (.slice A17 (0 + ts.length) c18) 38 3 (0 + ts.length) (ncells ts)]) (fun q => (movOf ts 3 at_).1.length - q.1) (0, xs2) ⟨Nat.zero_le _, O126⟩ ⟨rfl, rfl, rfl, rfl, rfl, rfl, rfl, rfl, trivial⟩ (fun q w127 hJ F128 K129 => ?_)
      obtain ⟨i, ys⟩ := q
      obtain ⟨hi0, O130⟩ := hJ
      dsimp only at hi0 O130 ⊢
      by_cases hi : i < (movOf ts 3 at_).1.length
      · skip
        obtain ⟨gr, hgr⟩ := rowaddr (O130.row 0 rfl) (show 0 < (movOf ts 3 at_).1.length by omega)
        have hrl : (movOf ts 3 at_).1.length ≤ 255 := mov_small _ _ (by omega) _
        refine cw_seq (fun FK131 K131 => ?_)
        refine cw_region ?_
        refine wl_val (v := .bool true) (fun ρ e => ex_cmp (u := (i : Int)) (v := (((movOf ts 3 at_).1.length : Nat) : Int)) (e _ _ rfl) (e _ _ rfl) (lss1 (by omega))) rfl rfl ?_
        refine wl_nil ?_
        refine xw_next K131 ?_
        refine cw_seq (fun FK132 K132 => ?_)
        refine cw_true rfl ?_
        refine cw_skip ?_
        refine xw_next K132 ?_
        refine cw_seq (fun FK133 K133 => ?_)
        refine cw_block ?_
        refine cw_seq (fun FK134 K134 => ?_)
        refine cw_region ?_
        refine wl_val (v := .int .i64 (i : Int)) (fun ρ e => ex_move (e _ _ rfl)) rfl rfl ?_
        refine wl_val (v := .int .i64 (i : Int)) (fun ρ e => ex_assign (e _ _ rfl)) rfl rfl ?_
        refine wl_nil ?_
        refine xw_next K134 ?_
        refine cw_region ?_
        refine wl_val (v := .slice A36 ((movOf ts 3 at_).1.length) c37) (fun ρ e => ex_move (e _ _ rfl)) rfl rfl ?_
        refine wl_val (v := .int .i64 (i : Int)) (fun ρ e => ex_move (e _ _ rfl)) rfl rfl ?_
        refine wl_val (v := .pointer (some ⟨gr, i * 3, none⟩)) (fun ρ e => ex_idx (q := i * 3) (g := gr) (o := 0) (i := i) (m := (movOf ts 3 at_).1.length) (c := c37) el23 ((e _ _ rfl).trans (congrArg (fun z => Value.slice z (movOf ts 3 at_).1.length c37) hgr)) (e _ _ rfl) hi (by omega)) rfl rfl ?_
        refine wl_val (v := .pointer (some ⟨gr, i * 3 + 2, none⟩)) (fun ρ e => ex_field (q := i * 3 + 2) fi38_2 (e _ _ rfl) rfl) rfl rfl ?_
        obtain ⟨w135, r136, O137⟩ := own_putrowN O130 hgr ty3 (k := i * 3 + 2) (show i * 3 + 2 < (movOf ts 3 at_).1.length * 3 by omega) (.int .i64 77) rfl rfl
        refine wl_none (fun ρ e => r136 ρ _ _ _ _ _ _ (e _ _ rfl) (e _ _ rfl)) rfl ?_
        refine wl_nil ?_
        refine xw_block ?_
        refine xw_next K133 ?_
        refine cw_region ?_
        refine wl_val (v := .int .i64 ((i + 1 : Nat) : Int)) (fun ρ e => ex_arith (k := .i64) (u := (i : Int)) (v := 1) (e _ _ rfl) (e _ _ rfl) (congrArg some ((congrArg _ (by omega)).trans (wrap_in (u := ((i + 1 : Nat) : Int)) (by omega) (by omega))))) rfl rfl ?_
        refine wl_val (v := .int .i64 ((i + 1 : Nat) : Int)) (fun ρ e => ex_move (e _ _ rfl)) rfl rfl ?_
        refine wl_nil ?_
        refine xw_round K129 (i + 1, (ys.set (i * 3 + 2) (.int .i64 77))) (by show (movOf ts 3 at_).1.length - (i + 1) < (movOf ts 3 at_).1.length - i; omega) ⟨(by show i + 1 ≤ (movOf ts 3 at_).1.length; omega), O137⟩ ⟨rfl, rfl, rfl, rfl, rfl, rfl, rfl, rfl, trivial⟩
      · skip
        refine cw_seq (fun FK138 K138 => ?_)
        refine cw_region ?_
        refine wl_val (v := .bool false) (fun ρ e => ex_cmp (u := (i : Int)) (v := (((movOf ts 3 at_).1.length : Nat) : Int)) (e _ _ rfl) (e _ _ rfl) (lss0 (by omega))) rfl rfl ?_
        refine wl_nil ?_
        refine xw_next K138 ?_
        refine cw_seq (fun FK139 K139 => ?_)
        refine cw_false rfl ?_
        refine cw_exit ?_
        refine xw_past (by intro h; cases h) ?_
        refine xw_past (by intro h; cases h) ?_
        refine xw_here ?_
        refine xw_block ?_
        refine xw_next K123 ?_
        refine cw_region ?_
        refine wl_val (v := .int .i64 ((2 + 1 : Nat) : Int)) (fun ρ e => ex_arith (k := .i64) (u := ((2 : Nat) : Int)) (v := 1) (e _ _ rfl) (e _ _ rfl) (congrArg some ((congrArg _ (by omega)).trans (wrap_in (u := ((2 + 1 : Nat) : Int)) (by omega) (by omega))))) rfl rfl ?_
        refine wl_val (v := .int .i64 ((2 + 1 : Nat) : Int)) (fun ρ e => ex_move (e _ _ rfl)) rfl rfl ?_
        refine wl_nil ?_
        refine xw_round K81 (2 + 1, xs0, xs1, ys) (by show 3 - (2 + 1) < 3 - 2; omega) ⟨(by show 2 + 1 ≤ 3; omega), (O130.re [1, 2, 0, 3, 4] rfl : Own Z0 W w127 [.row (.slice A24 ((movOf ts 1 at_).1.length) c25) 38 3 ((movOf ts 1 at_).1.length) xs0, .row (.slice A30 ((movOf ts 2 at_).1.length) c31) 38 3 ((movOf ts 2 at_).1.length) xs1, .row (.slice A36 ((movOf ts 3 at_).1.length) c37) 38 3 ((movOf ts 3 at_).1.length) ys, .blk g72 23 #[.slice A24 ((movOf ts 1 at_).1.length) c25, .slice A30 ((movOf ts 2 at_).1.length) c31, .slice A36 ((movOf ts 3 at_).1.length) c37], .row (.slice A17 (0 + ts.length) c18) 38 3 (0 + ts.length) (ncells ts)])⟩ ⟨rfl, rfl, rfl, rfl, rfl, trivial⟩
    · skip
      refine cw_seq (fun FK140 K140 => ?_)
      refine cw_region ?_
      refine wl_val (v := .bool false) (fun ρ e => ex_cmp (u := ((3 : Nat) : Int)) (v := (3 : Int)) (e _ _ rfl) (e _ _ rfl) (lss0 (by omega))) rfl rfl ?_
      refine wl_nil ?_
      refine xw_next K140 ?_
      refine cw_seq (fun FK141 K141 => ?_)
      refine cw_false rfl ?_
      refine cw_exit ?_
      refine xw_past (by intro h; cases h) ?_
      refine xw_past (by intro h; cases h) ?_
      refine xw_here ?_
      refine xw_next K70 ?_
      refine cw_seq (fun FK142 K142 => ?_)
      refine cw_region ?_
      refine wl_val (v := .slice A ts.length c) (fun ρ e => ex_move (e _ _ rfl)) rfl rfl ?_
      refine wl_val (v := .slice A17 (0 + ts.length) c18) (fun ρ e => ex_move (e _ _ rfl)) rfl rfl ?_
      refine wl_call (args := [.slice A ts.length c, .slice A17 (0 + ts.length) c18]) in_38 rfl rfl rfl ?_
      refine (same_ (hN.move (fun k hk => (O82.old).block k (hD k hk))) (fun k hk => Nat.lt_of_lt_of_le (hD k hk) (O82.old).size) (NodesD.of_row (O82.row 4 rfl)) (fun k hk => (World.ownsRow.lt (O82.row 4 rfl) k hk).2)).mono ?_
      rintro _ w143 ⟨rfl, hb144⟩
      have O145 : Own Z0 W w143 [.row (.slice A24 ((movOf ts 1 at_).1.length) c25) 38 3 ((movOf ts 1 at_).1.length) xs0, .row (.slice A30 ((movOf ts 2 at_).1.length) c31) 38 3 ((movOf ts 2 at_).1.length) xs1, .row (.slice A36 ((movOf ts 3 at_).1.length) c37) 38 3 ((movOf ts 3 at_).1.length) xs2, .blk g72 23 #[.slice A24 ((movOf ts 1 at_).1.length) c25, .slice A30 ((movOf ts 2 at_).1.length) c31, .slice A36 ((movOf ts 3 at_).1.length) c37], .row (.slice A17 (0 + ts.length) c18) 38 3 (0 + ts.length) (ncells ts)] := O82.below hb144
      refine ⟨_, rfl, ?_⟩
      refine wl_val (v := .bool true) (fun ρ e => ex_move (e _ _ rfl)) rfl rfl ?_
      refine wl_call (args := []) in_14 rfl rfl rfl ?_
      refine (works_ (tab.below (Nat.le_refl _) O145.old)).mono ?_
      rintro _ w146 ⟨rfl, hb147⟩
      have O148 : Own Z0 W w146 [.row (.slice A24 ((movOf ts 1 at_).1.length) c25) 38 3 ((movOf ts 1 at_).1.length) xs0, .row (.slice A30 ((movOf ts 2 at_).1.length) c31) 38 3 ((movOf ts 2 at_).1.length) xs1, .row (.slice A36 ((movOf ts 3 at_).1.length) c37) 38 3 ((movOf ts 3 at_).1.length) xs2, .blk g72 23 #[.slice A24 ((movOf ts 1 at_).1.length) c25, .slice A30 ((movOf ts 2 at_).1.length) c31, .slice A36 ((movOf ts 3 at_).1.length) c37], .row (.slice A17 (0 + ts.length) c18) 38 3 (0 + ts.length) (ncells ts)] := O145.below hb147
      refine ⟨_, rfl, ?_⟩
      refine wl_val (v := .bool true) (fun ρ e => ex_pick1 (e _ _ rfl) (e _ _ rfl)) rfl rfl ?_
      refine wl_val (v := .bool true) (fun ρ e => ex_assign (e _ _ rfl)) rfl rfl ?_
      refine wl_nil ?_
      refine xw_next K142 ?_
      refine cw_ret ?_
      refine xw_ret (v := .bool true) (fun T hT => res1 rfl T _ (hT 4 _ rfl)) ?_
      exact ⟨rfl, O148.old⟩
end Go.Proofs.YtpeoodkepjhhiaaDoor
