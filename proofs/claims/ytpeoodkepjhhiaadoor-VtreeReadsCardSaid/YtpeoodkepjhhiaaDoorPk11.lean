/-
  Lemmas and contracts, joined: VlMoves Vrprint Vsr.
-/
import Derived.Test.YtpeoodkepjhhiaaDoorPk10
import Derived.Test.YtpeoodkepjhhiaaDoorPk8
import Derived.Test.YtpeoodkepjhhiaaDoorPk4
namespace Go.Proofs.YtpeoodkepjhhiaaDoor
open Go Go.RowKit
section
variable {Z : Bool → Nat → Prop} {w0 W : World} {L : List En}
theorem Own.emptyrow {g T sz : Nat} (h : Own Z w0 W (.blk g T #[] :: L)) : Own Z w0 W (.row (.slice (some ⟨g, 0, none⟩) 0 0) T sz 0 [] :: L) := by
  refine h.as (e' := .row (.slice (some ⟨g, 0, none⟩) 0 0) T sz 0 []) ⟨by simp, .inr ⟨g, 0, #[], rfl, Nat.zero_le _, h.blk 0 rfl, Nat.le_refl _, Nat.zero_le _, by simp, by simp⟩⟩ (fun k hk => ?_) (fun _ => trivial)
  have : some g = some k := hk
  injection this with this
  exact this.symm
theorem Own.putrowN {g T sz n c k : Nat} {xs : List Value} (h : Own Z w0 W (.row (.slice (some ⟨g, 0, none⟩) n c) T sz n xs :: L)) (hk : k < n * sz) (u : Value) :
    (∃ u0, W.cell? ⟨g, k, none⟩ = some u0) ∧ W.frozen? ⟨g, k, none⟩ = false ∧ Own Z w0 (W.setCell ⟨g, k, none⟩ u) (.row (.slice (some ⟨g, 0, none⟩) n c) T sz n (xs.set k u) :: L) := by
  have hr := h.row 0 rfl
  obtain ⟨hlen, hr⟩ := hr
  rcases hr with ⟨h1, _⟩ | ⟨g', cap, cur, h1, _, hg, h2, h3, h4, h5⟩
  · cases h1
  · injection h1 with h1 _ hcap
    injection h1 with h1
    injection h1 with h1
    subst h1 hcap
    have hb : Blk W g T cur := hg
    have hsz : k < cur.size := by
      have := Nat.mul_le_mul_right sz h2
      omega
    refine ⟨⟨cur[k], by rw [hb.cell k, Array.getElem?_eq_getElem hsz]⟩, hb.free k, ?_⟩
    refine h.one (e' := .row (.slice (some ⟨g, 0, none⟩) n c) T sz n (xs.set k u)) (Frame.put W g k u) trivial (fun k q1 q => by show some g = some k; rw [show k = g from q]) ?_ (fun k q => .inl q)
    refine ⟨by simpa using hlen, .inr ⟨g, c, cur.setIfInBounds k u, rfl, Nat.zero_le _, hb.put k u, h2, h3, by simpa using h4, ?_⟩⟩
    rw [Array.toList_setIfInBounds, List.take_set, h5]
theorem own_putrowN {A : Option Addr} {g T T0 sz n c k : Nat} {xs : List Value} (h : Own Z w0 W (.row (.slice A n c) T sz n xs :: L)) (hA : A = some ⟨g, 0, none⟩) (hT : TyB T0 1 false) (hk : k < n * sz) (u : Value) (hu : u.oneCell' = true) (hc : u.cells.toList = [u]) :
    ∃ w', (∀ (ρ : Operand → Value) x y t pos aft gd, ρ x = .pointer (some ⟨g, k, none⟩) → ρ y = u → (execOp ρ ⟨none, .store T0 x y, t, pos, aft, gd⟩).run Tryd.prog W = .ok .skip w') ∧ Own Z w0 w' (.row (.slice A n c) T sz n (xs.set k u) :: L) := by
  subst hA
  obtain ⟨⟨u0, h1⟩, h2, h3⟩ := h.putrowN hk u
  refine ⟨_, fun ρ x y t pos aft gd hx hy => ?_, h3⟩
  have hs : u.cells.size = 1 := by have := congrArg List.length hc; simpa using this
  simp [execOp, Instr.storeAt, Instr.sureAddr, hx, hy, storeVar, run_size hT.size, hs, hc, storeCells, addr_plus, run_store _ _ _ _ _ hu, h1, h2]
end
theorem ncells_inv : ∀ {ts : List VN} {j : Nat} {u : Value}, (ncells ts)[j]? = some u → ∃ i x, ts[i]? = some x ∧ ((j = i * 3 ∧ u = .int .i64 x.l) ∨ (j = i * 3 + 1 ∧ u = .int .i64 x.r) ∨ (j = i * 3 + 2 ∧ u = .int .i64 x.v))
  | [], j, u, h => by simp [ncells] at h
  | y :: r, j, u, h => by
    have e : ncells (y :: r) = ncell y ++ ncells r := by simp [ncells]
    rw [e] at h
    have hl : (ncell y).length = 3 := rfl
    by_cases hj : j < 3
    · rw [List.getElem?_append_left (by omega)] at h
      refine ⟨0, y, rfl, ?_⟩
      rcases (show j = 0 ∨ j = 1 ∨ j = 2 by omega) with rfl | rfl | rfl
      · simp [ncell] at h; exact .inl ⟨rfl, h.symm⟩
      · simp [ncell] at h; exact .inr (.inl ⟨rfl, h.symm⟩)
      · simp [ncell] at h; exact .inr (.inr ⟨rfl, h.symm⟩)
    · rw [List.getElem?_append_right (by omega), hl] at h
      obtain ⟨i, x, hi, hh⟩ := ncells_inv h
      refine ⟨i + 1, x, by simpa using hi, ?_⟩
      rcases hh with ⟨h1, h2⟩ | ⟨h1, h2⟩ | ⟨h1, h2⟩
      · exact .inl ⟨by omega, h2⟩
      · exact .inr (.inl ⟨by omega, h2⟩)
      · exact .inr (.inr ⟨by omega, h2⟩)
theorem nodes_src {D : Nat → Prop} {w : World} {A : Option Addr} {n c : Nat} {ts : List VN} (h : NodesD D w (.slice A n c) ts) : Src w A ts.length (ncells ts) := by
  cases A with
  | none =>
    left
    have : ts.length = 0 := by
      rcases Nat.eq_zero_or_pos ts.length with h0 | h0
      · exact h0
      · obtain ⟨b, o, c', hv, _⟩ := h.form h0
        cases hv
    refine ⟨rfl, this, ?_⟩
    rw [List.eq_nil_of_length_eq_zero this]; rfl
  | some a =>
    right
    refine ⟨a, rfl, fun j u hu => ?_⟩
    obtain ⟨i, x, hx, hh⟩ := ncells_inv hu
    obtain ⟨b, o, c', hv, _⟩ := h.form (by have := (List.getElem?_eq_some_iff.1 hx).1; omega)
    injection hv with hv _ _
    injection hv with hv
    subst hv
    obtain ⟨q0, q1, q2⟩ := h.at_ hx
    rw [addr_plus]
    rcases hh with ⟨rfl, rfl⟩ | ⟨rfl, rfl⟩ | ⟨rfl, rfl⟩
    · exact q0
    · exact q1
    · exact q2
theorem mov_small (ts : List VN) (kind : Nat) (hk : kind = 1 ∨ kind = 2 ∨ kind = 3) (at_ : Int) : (movOf ts kind at_).1.length ≤ 255 := by
  cases hc : canB ts kind at_ with
  | false => rw [mov_no hc]; exact Nat.zero_le _
  | true =>
    have hc2 := hc
    unfold canB at hc2
    simp only [Bool.and_eq_true, Bool.or_eq_true, decide_eq_true_eq] at hc2
    obtain ⟨⟨hok, hin⟩, hch⟩ := hc2
    have hV := okT_val hok
    have hle := hV.le
    obtain ⟨k, a, b, rfl, hx⟩ := inner_get hV hin
    rw [mov_yes hc]
    simp only [post_len]
    rw [child_at hx] at hch
    rcases hk with rfl | rfl | rfl
    · obtain ⟨p, q, hlow⟩ := inner_nat hV (by simpa using hch)
      have := (mvR hV hx hlow).2
      omega
    · obtain ⟨p, q, hlow⟩ := inner_nat hV (by simpa using hch)
      have := (mvL hV hx hlow).2
      omega
    · have := (mvS hV hx).2
      omega
theorem vtreeMoves_ok {W : World} {D : Nat → Prop} {V : Value} {ts : List VN} (hN : NodesD D W V ts) (hD : ∀ k, D k → k < W.heap.size) (tab : Tab W) (at_ : Int) : Calls Tryd.prog 8 #[V, .int .i64 at_] W fun e w' => e = .returned (.bool true) ∧ Below W.heap.size W w' := by
  obtain ⟨A, c, rfl⟩ := hN.slice
  have O0 : Own Z0 W W [] := Own.start W
  refine sx_enter (args := [.slice A ts.length c, .int .i64 at_]) Tryd.func8 rfl rfl (by simp) ?_
  refine cw_seq (fun FK1 K1 => ?_)
  refine cw_region ?_
  refine wl_val (v := .bool false) (fun ρ e => ex_assign (e _ _ rfl)) rfl rfl ?_
  refine wl_nil ?_
  refine xw_next K1 ?_
  refine cw_seq (fun FK2 K2 => ?_)
  refine cw_seq (fun FK3 K3 => ?_)
  refine cw_region ?_
  refine wl_val (v := .slice A ts.length c) (fun ρ e => ex_move (e _ _ rfl)) rfl rfl ?_
  refine wl_val (v := .int .i64 ((ts.length : Nat) : Int)) (fun ρ e => ex_len el23 (e _ _ rfl)) rfl rfl ?_
  by_cases c4 : ((ts.length : Nat) : Int) > 300
  · skip
    refine wl_val (v := .bool true) (fun ρ e => ex_cmp (u := ((ts.length : Nat) : Int)) (v := 300) (e _ _ rfl) (e _ _ rfl) (gtr1 (by omega))) rfl rfl ?_
    refine wl_nil ?_
    refine xw_next K3 ?_
    refine cw_true rfl ?_
    refine cw_seq (fun FK5 K5 => ?_)
    refine cw_region ?_
    refine wl_call (args := []) in_14 rfl rfl rfl ?_
    refine (works_ (tab.below (Nat.le_refl _) O0.old)).mono ?_
    rintro _ w6 ⟨rfl, hb7⟩
    have O8 : Own Z0 W w6 [] := O0.below hb7
    refine ⟨_, rfl, ?_⟩
    refine wl_val (v := .bool true) (fun ρ e => ex_assign (e _ _ rfl)) rfl rfl ?_
    refine wl_nil ?_
    refine xw_next K5 ?_
    refine cw_ret ?_
    refine xw_past (by intro h; cases h) ?_
    refine xw_ret (v := .bool true) (fun T hT => res1 rfl T _ (hT 4 _ rfl)) ?_
    exact ⟨rfl, O8.old⟩
  · skip
    refine wl_val (v := .bool false) (fun ρ e => ex_cmp (u := ((ts.length : Nat) : Int)) (v := 300) (e _ _ rfl) (e _ _ rfl) (gtr0 (by omega))) rfl rfl ?_
    refine wl_nil ?_
    refine xw_next K3 ?_
    refine cw_false rfl ?_
    refine cw_skip ?_
    refine xw_next K2 ?_
    refine cw_seq (fun FK9 K9 => ?_)
    refine cw_region ?_
    obtain ⟨g10, w11, r12, O13, hg14, hs15⟩ := own_slice O0 el23 ze38 0 [] (cs := #[]) (by decide) (by kernel_rfl)
    refine wl_val (v := .slice (some ⟨g10, 0, none⟩) 0 0) (fun ρ e => r12 ρ _ _ _ _ _ _ (e.parts rfl)) rfl rfl ?_
    refine wl_val (v := .slice A ts.length c) (fun ρ e => ex_move (e _ _ rfl)) rfl rfl ?_
    have O16 := Own.emptyrow (sz := 3) O13
    obtain ⟨A17, c18, w19, r20, O21, hs22⟩ := own_appS O16 ap23 (m := ts.length) (news := ncells ts) (ncells_len ts) (nodes_src (hN.move (fun k hk => (O13.old).block k (hD k hk)))) (ncells_one ts) (by omega) (by omega) (ys := ncells ts) rfl
    refine wl_val (v := .slice A17 (0 + ts.length) c18) (fun ρ e => r20 ρ _ _ _ _ _ _ _ (e _ _ rfl) (e _ _ rfl)) rfl rfl ?_
    refine wl_val (v := .slice A17 (0 + ts.length) c18) (fun ρ e => ex_assign (e _ _ rfl)) rfl rfl ?_
    refine wl_nil ?_
    refine xw_next K9 ?_
    refine cw_seq (fun FK23 K23 => ?_)
    refine cw_region ?_
    refine wl_val (v := .slice A ts.length c) (fun ρ e => ex_move (e _ _ rfl)) rfl rfl ?_
    refine wl_val (v := .int .i64 at_) (fun ρ e => ex_move (e _ _ rfl)) rfl rfl ?_
    refine wl_call (args := [.slice A ts.length c, .int .i64 at_]) in_32 rfl rfl rfl ?_
    refine (rotr_ (hN.move (fun k hk => (O21.old).block k (hD k hk))) (fun k hk => Nat.lt_of_lt_of_le (hD k hk) (O21.old).size) at_).mono ?_
    rintro _ w26 ⟨A24, c25, rfl, h27⟩
    have O28 := O21.join1 h27 trivial
    refine ⟨_, rfl, ?_⟩
    refine wl_val (v := .tuple #[.slice A24 ((movOf ts 1 at_).1.length) c25, .int .i64 ((movOf ts 1 at_).2)]) (fun ρ e => ex_move (e _ _ rfl)) rfl rfl ?_
    refine wl_val (v := .slice A24 ((movOf ts 1 at_).1.length) c25) (fun ρ e => ex_extract (vs := #[.slice A24 ((movOf ts 1 at_).1.length) c25, .int .i64 ((movOf ts 1 at_).2)]) (e _ _ rfl) rfl) rfl rfl ?_
    refine wl_val (v := .int .i64 ((movOf ts 1 at_).2)) (fun ρ e => ex_extract (vs := #[.slice A24 ((movOf ts 1 at_).1.length) c25, .int .i64 ((movOf ts 1 at_).2)]) (e _ _ rfl) rfl) rfl rfl ?_
    refine wl_val (v := .slice A24 ((movOf ts 1 at_).1.length) c25) (fun ρ e => ex_assign (e _ _ rfl)) rfl rfl ?_
    refine wl_val (v := .int .i64 ((movOf ts 1 at_).2)) (fun ρ e => ex_assign (e _ _ rfl)) rfl rfl ?_
    refine wl_nil ?_
    refine xw_next K23 ?_
    refine cw_seq (fun FK29 K29 => ?_)
    refine cw_region ?_
    refine wl_val (v := .slice A ts.length c) (fun ρ e => ex_move (e _ _ rfl)) rfl rfl ?_
    refine wl_val (v := .int .i64 at_) (fun ρ e => ex_move (e _ _ rfl)) rfl rfl ?_
    refine wl_call (args := [.slice A ts.length c, .int .i64 at_]) in_33 rfl rfl rfl ?_
    refine (rotl_ (hN.move (fun k hk => (O28.old).block k (hD k hk))) (fun k hk => Nat.lt_of_lt_of_le (hD k hk) (O28.old).size) at_).mono ?_
    rintro _ w32 ⟨A30, c31, rfl, h33⟩
    have O34 := O28.join1 h33 trivial
    refine ⟨_, rfl, ?_⟩
    refine wl_val (v := .tuple #[.slice A30 ((movOf ts 2 at_).1.length) c31, .int .i64 ((movOf ts 2 at_).2)]) (fun ρ e => ex_move (e _ _ rfl)) rfl rfl ?_
    refine wl_val (v := .slice A30 ((movOf ts 2 at_).1.length) c31) (fun ρ e => ex_extract (vs := #[.slice A30 ((movOf ts 2 at_).1.length) c31, .int .i64 ((movOf ts 2 at_).2)]) (e _ _ rfl) rfl) rfl rfl ?_
    refine wl_val (v := .int .i64 ((movOf ts 2 at_).2)) (fun ρ e => ex_extract (vs := #[.slice A30 ((movOf ts 2 at_).1.length) c31, .int .i64 ((movOf ts 2 at_).2)]) (e _ _ rfl) rfl) rfl rfl ?_
    refine wl_val (v := .slice A30 ((movOf ts 2 at_).1.length) c31) (fun ρ e => ex_assign (e _ _ rfl)) rfl rfl ?_
    refine wl_val (v := .int .i64 ((movOf ts 2 at_).2)) (fun ρ e => ex_assign (e _ _ rfl)) rfl rfl ?_
    refine wl_nil ?_
    refine xw_next K29 ?_
    refine cw_seq (fun FK35 K35 => ?_)
    refine cw_region ?_
    refine wl_val (v := .slice A ts.length c) (fun ρ e => ex_move (e _ _ rfl)) rfl rfl ?_
    refine wl_val (v := .int .i64 at_) (fun ρ e => ex_move (e _ _ rfl)) rfl rfl ?_
    refine wl_call (args := [.slice A ts.length c, .int .i64 at_]) in_34 rfl rfl rfl ?_
    refine (swap_ (hN.move (fun k hk => (O34.old).block k (hD k hk))) (fun k hk => Nat.lt_of_lt_of_le (hD k hk) (O34.old).size) at_).mono ?_
    rintro _ w38 ⟨A36, c37, rfl, h39⟩
    have O40 := O34.join1 h39 trivial
    refine ⟨_, rfl, ?_⟩
    refine wl_val (v := .tuple #[.slice A36 ((movOf ts 3 at_).1.length) c37, .int .i64 ((movOf ts 3 at_).2)]) (fun ρ e => ex_move (e _ _ rfl)) rfl rfl ?_
    refine wl_val (v := .slice A36 ((movOf ts 3 at_).1.length) c37) (fun ρ e => ex_extract (vs := #[.slice A36 ((movOf ts 3 at_).1.length) c37, .int .i64 ((movOf ts 3 at_).2)]) (e _ _ rfl) rfl) rfl rfl ?_
    refine wl_val (v := .int .i64 ((movOf ts 3 at_).2)) (fun ρ e => ex_extract (vs := #[.slice A36 ((movOf ts 3 at_).1.length) c37, .int .i64 ((movOf ts 3 at_).2)]) (e _ _ rfl) rfl) rfl rfl ?_
    refine wl_val (v := .slice A36 ((movOf ts 3 at_).1.length) c37) (fun ρ e => ex_assign (e _ _ rfl)) rfl rfl ?_
    refine wl_val (v := .int .i64 ((movOf ts 3 at_).2)) (fun ρ e => ex_assign (e _ _ rfl)) rfl rfl ?_
    refine wl_nil ?_
    refine xw_next K35 ?_
    refine cw_seq (fun FK41 K41 => ?_)
    refine cw_region ?_
    refine wl_val (v := .slice A ts.length c) (fun ρ e => ex_move (e _ _ rfl)) rfl rfl ?_
    refine wl_val (v := .int .i64 at_) (fun ρ e => ex_move (e _ _ rfl)) rfl rfl ?_
    refine wl_call (args := [.slice A ts.length c, .int .i64 at_]) in_35 rfl rfl rfl ?_
    refine (rrotr_ (hN.move (fun k hk => (O40.old).block k (hD k hk))) (fun k hk => Nat.lt_of_lt_of_le (hD k hk) (O40.old).size) (by omega) at_).mono ?_
    rintro _ w44 ⟨A42, c43, rfl, h45⟩
    have O46 := O40.join1 h45 trivial
    refine ⟨_, rfl, ?_⟩
    refine wl_val (v := .tuple #[.slice A42 ((movOf ts 1 at_).1.length) c43, .int .i64 ((movOf ts 1 at_).2)]) (fun ρ e => ex_move (e _ _ rfl)) rfl rfl ?_
    refine wl_val (v := .slice A42 ((movOf ts 1 at_).1.length) c43) (fun ρ e => ex_extract (vs := #[.slice A42 ((movOf ts 1 at_).1.length) c43, .int .i64 ((movOf ts 1 at_).2)]) (e _ _ rfl) rfl) rfl rfl ?_
    refine wl_val (v := .int .i64 ((movOf ts 1 at_).2)) (fun ρ e => ex_extract (vs := #[.slice A42 ((movOf ts 1 at_).1.length) c43, .int .i64 ((movOf ts 1 at_).2)]) (e _ _ rfl) rfl) rfl rfl ?_
    refine wl_val (v := .slice A42 ((movOf ts 1 at_).1.length) c43) (fun ρ e => ex_assign (e _ _ rfl)) rfl rfl ?_
    refine wl_val (v := .int .i64 ((movOf ts 1 at_).2)) (fun ρ e => ex_assign (e _ _ rfl)) rfl rfl ?_
    refine wl_nil ?_
    refine xw_next K41 ?_
    refine cw_seq (fun FK47 K47 => ?_)
    refine cw_region ?_
    refine wl_val (v := .slice A ts.length c) (fun ρ e => ex_move (e _ _ rfl)) rfl rfl ?_
    refine wl_val (v := .int .i64 at_) (fun ρ e => ex_move (e _ _ rfl)) rfl rfl ?_
    refine wl_call (args := [.slice A ts.length c, .int .i64 at_]) in_36 rfl rfl rfl ?_
    refine (rrotl_ (hN.move (fun k hk => (O46.old).block k (hD k hk))) (fun k hk => Nat.lt_of_lt_of_le (hD k hk) (O46.old).size) (by omega) at_).mono ?_
    rintro _ w50 ⟨A48, c49, rfl, h51⟩
    have O52 := O46.join1 h51 trivial
    refine ⟨_, rfl, ?_⟩
    refine wl_val (v := .tuple #[.slice A48 ((movOf ts 2 at_).1.length) c49, .int .i64 ((movOf ts 2 at_).2)]) (fun ρ e => ex_move (e _ _ rfl)) rfl rfl ?_
    refine wl_val (v := .slice A48 ((movOf ts 2 at_).1.length) c49) (fun ρ e => ex_extract (vs := #[.slice A48 ((movOf ts 2 at_).1.length) c49, .int .i64 ((movOf ts 2 at_).2)]) (e _ _ rfl) rfl) rfl rfl ?_
    refine wl_val (v := .int .i64 ((movOf ts 2 at_).2)) (fun ρ e => ex_extract (vs := #[.slice A48 ((movOf ts 2 at_).1.length) c49, .int .i64 ((movOf ts 2 at_).2)]) (e _ _ rfl) rfl) rfl rfl ?_
    refine wl_val (v := .slice A48 ((movOf ts 2 at_).1.length) c49) (fun ρ e => ex_assign (e _ _ rfl)) rfl rfl ?_
    refine wl_val (v := .int .i64 ((movOf ts 2 at_).2)) (fun ρ e => ex_assign (e _ _ rfl)) rfl rfl ?_
    refine wl_nil ?_
    refine xw_next K47 ?_
    refine cw_seq (fun FK53 K53 => ?_)
    refine cw_region ?_
    refine wl_val (v := .slice A ts.length c) (fun ρ e => ex_move (e _ _ rfl)) rfl rfl ?_
    refine wl_val (v := .int .i64 at_) (fun ρ e => ex_move (e _ _ rfl)) rfl rfl ?_
    refine wl_call (args := [.slice A ts.length c, .int .i64 at_]) in_37 rfl rfl rfl ?_
    refine (rswap_ (hN.move (fun k hk => (O52.old).block k (hD k hk))) (fun k hk => Nat.lt_of_lt_of_le (hD k hk) (O52.old).size) (by omega) at_).mono ?_
    rintro _ w56 ⟨A54, c55, rfl, h57⟩
    have O58 := O52.join1 h57 trivial
    refine ⟨_, rfl, ?_⟩
    refine wl_val (v := .tuple #[.slice A54 ((movOf ts 3 at_).1.length) c55, .int .i64 ((movOf ts 3 at_).2)]) (fun ρ e => ex_move (e _ _ rfl)) rfl rfl ?_
    refine wl_val (v := .slice A54 ((movOf ts 3 at_).1.length) c55) (fun ρ e => ex_extract (vs := #[.slice A54 ((movOf ts 3 at_).1.length) c55, .int .i64 ((movOf ts 3 at_).2)]) (e _ _ rfl) rfl) rfl rfl ?_
    refine wl_val (v := .int .i64 ((movOf ts 3 at_).2)) (fun ρ e => ex_extract (vs := #[.slice A54 ((movOf ts 3 at_).1.length) c55, .int .i64 ((movOf ts 3 at_).2)]) (e _ _ rfl) rfl) rfl rfl ?_
    refine wl_val (v := .slice A54 ((movOf ts 3 at_).1.length) c55) (fun ρ e => ex_assign (e _ _ rfl)) rfl rfl ?_
    refine wl_val (v := .int .i64 ((movOf ts 3 at_).2)) (fun ρ e => ex_assign (e _ _ rfl)) rfl rfl ?_
    refine wl_nil ?_
    refine xw_next K53 ?_
    refine cw_seq (fun FK59 K59 => ?_)
    refine cw_seq (fun FK60 K60 => ?_)
    refine cw_region ?_
    refine wl_val (v := .slice A24 ((movOf ts 1 at_).1.length) c25) (fun ρ e => ex_move (e _ _ rfl)) rfl rfl ?_
    refine wl_val (v := .int .i64 ((movOf ts 1 at_).2)) (fun ρ e => ex_move (e _ _ rfl)) rfl rfl ?_
    refine wl_val (v := .slice A42 ((movOf ts 1 at_).1.length) c43) (fun ρ e => ex_move (e _ _ rfl)) rfl rfl ?_
    refine wl_val (v := .int .i64 ((movOf ts 1 at_).2)) (fun ρ e => ex_move (e _ _ rfl)) rfl rfl ?_
    refine wl_call (args := [.slice A24 ((movOf ts 1 at_).1.length) c25, .int .i64 ((movOf ts 1 at_).2), .slice A42 ((movOf ts 1 at_).1.length) c43, .int .i64 ((movOf ts 1 at_).2)]) in_19 rfl rfl rfl ?_
    refine (equal_ (NodesD.of_row (O58.row 5 rfl)) (fun k hk => (World.ownsRow.lt (O58.row 5 rfl) k hk).2) (NodesD.of_row (O58.row 2 rfl)) (fun k hk => (World.ownsRow.lt (O58.row 2 rfl) k hk).2) ((movOf ts 1 at_).2)).mono ?_
    rintro _ w61 ⟨rfl, hb62⟩
    have O63 : Own Z0 W w61 [.row (.slice A54 ((movOf ts 3 at_).1.length) c55) 38 3 ((movOf ts 3 at_).1.length) (ncells (movOf ts 3 at_).1), .row (.slice A48 ((movOf ts 2 at_).1.length) c49) 38 3 ((movOf ts 2 at_).1.length) (ncells (movOf ts 2 at_).1), .row (.slice A42 ((movOf ts 1 at_).1.length) c43) 38 3 ((movOf ts 1 at_).1.length) (ncells (movOf ts 1 at_).1), .row (.slice A36 ((movOf ts 3 at_).1.length) c37) 38 3 ((movOf ts 3 at_).1.length) (ncells (movOf ts 3 at_).1), .row (.slice A30 ((movOf ts 2 at_).1.length) c31) 38 3 ((movOf ts 2 at_).1.length) (ncells (movOf ts 2 at_).1), .row (.slice A24 ((movOf ts 1 at_).1.length) c25) 38 3 ((movOf ts 1 at_).1.length) (ncells (movOf ts 1 at_).1), .row (.slice A17 (0 + ts.length) c18) 38 3 (0 + ts.length) (ncells ts)] := O58.below hb62
    refine ⟨_, rfl, ?_⟩
    refine wl_val (v := .bool false) (fun ρ e => ex_lnot (b := true) (e _ _ rfl)) rfl rfl ?_
    refine wl_val (v := .bool false) (fun ρ e => ex_move (e _ _ rfl)) rfl rfl ?_
    refine wl_val (v := .slice A30 ((movOf ts 2 at_).1.length) c31) (fun ρ e => ex_move (e _ _ rfl)) rfl rfl ?_
    refine wl_val (v := .int .i64 ((movOf ts 2 at_).2)) (fun ρ e => ex_move (e _ _ rfl)) rfl rfl ?_
    refine wl_val (v := .slice A48 ((movOf ts 2 at_).1.length) c49) (fun ρ e => ex_move (e _ _ rfl)) rfl rfl ?_
    refine wl_val (v := .int .i64 ((movOf ts 2 at_).2)) (fun ρ e => ex_move (e _ _ rfl)) rfl rfl ?_
    refine wl_call (args := [.slice A30 ((movOf ts 2 at_).1.length) c31, .int .i64 ((movOf ts 2 at_).2), .slice A48 ((movOf ts 2 at_).1.length) c49, .int .i64 ((movOf ts 2 at_).2)]) in_19 rfl rfl rfl ?_
    refine (equal_ (NodesD.of_row (O63.row 4 rfl)) (fun k hk => (World.ownsRow.lt (O63.row 4 rfl) k hk).2) (NodesD.of_row (O63.row 1 rfl)) (fun k hk => (World.ownsRow.lt (O63.row 1 rfl) k hk).2) ((movOf ts 2 at_).2)).mono ?_
    rintro _ w64 ⟨rfl, hb65⟩
    have O66 : Own Z0 W w64 [.row (.slice A54 ((movOf ts 3 at_).1.length) c55) 38 3 ((movOf ts 3 at_).1.length) (ncells (movOf ts 3 at_).1), .row (.slice A48 ((movOf ts 2 at_).1.length) c49) 38 3 ((movOf ts 2 at_).1.length) (ncells (movOf ts 2 at_).1), .row (.slice A42 ((movOf ts 1 at_).1.length) c43) 38 3 ((movOf ts 1 at_).1.length) (ncells (movOf ts 1 at_).1), .row (.slice A36 ((movOf ts 3 at_).1.length) c37) 38 3 ((movOf ts 3 at_).1.length) (ncells (movOf ts 3 at_).1), .row (.slice A30 ((movOf ts 2 at_).1.length) c31) 38 3 ((movOf ts 2 at_).1.length) (ncells (movOf ts 2 at_).1), .row (.slice A24 ((movOf ts 1 at_).1.length) c25) 38 3 ((movOf ts 1 at_).1.length) (ncells (movOf ts 1 at_).1), .row (.slice A17 (0 + ts.length) c18) 38 3 (0 + ts.length) (ncells ts)] := O63.below hb65
    refine ⟨_, rfl, ?_⟩
    refine wl_val (v := .bool false) (fun ρ e => ex_lnot (b := true) (e _ _ rfl)) rfl rfl ?_
    refine wl_val (v := .bool false) (fun ρ e => ex_pick0 (e _ _ rfl) (e _ _ rfl)) rfl rfl ?_
    refine wl_val (v := .bool false) (fun ρ e => ex_move (e _ _ rfl)) rfl rfl ?_
    refine wl_val (v := .slice A36 ((movOf ts 3 at_).1.length) c37) (fun ρ e => ex_move (e _ _ rfl)) rfl rfl ?_
    refine wl_val (v := .int .i64 ((movOf ts 3 at_).2)) (fun ρ e => ex_move (e _ _ rfl)) rfl rfl ?_
    refine wl_val (v := .slice A54 ((movOf ts 3 at_).1.length) c55) (fun ρ e => ex_move (e _ _ rfl)) rfl rfl ?_
    refine wl_val (v := .int .i64 ((movOf ts 3 at_).2)) (fun ρ e => ex_move (e _ _ rfl)) rfl rfl ?_
    refine wl_call (args := [.slice A36 ((movOf ts 3 at_).1.length) c37, .int .i64 ((movOf ts 3 at_).2), .slice A54 ((movOf ts 3 at_).1.length) c55, .int .i64 ((movOf ts 3 at_).2)]) in_19 rfl rfl rfl ?_
    refine (equal_ (NodesD.of_row (O66.row 3 rfl)) (fun k hk => (World.ownsRow.lt (O66.row 3 rfl) k hk).2) (NodesD.of_row (O66.row 0 rfl)) (fun k hk => (World.ownsRow.lt (O66.row 0 rfl) k hk).2) ((movOf ts 3 at_).2)).mono ?_
    rintro _ w67 ⟨rfl, hb68⟩
    have O69 : Own Z0 W w67 [.row (.slice A54 ((movOf ts 3 at_).1.length) c55) 38 3 ((movOf ts 3 at_).1.length) (ncells (movOf ts 3 at_).1), .row (.slice A48 ((movOf ts 2 at_).1.length) c49) 38 3 ((movOf ts 2 at_).1.length) (ncells (movOf ts 2 at_).1), .row (.slice A42 ((movOf ts 1 at_).1.length) c43) 38 3 ((movOf ts 1 at_).1.length) (ncells (movOf ts 1 at_).1), .row (.slice A36 ((movOf ts 3 at_).1.length) c37) 38 3 ((movOf ts 3 at_).1.length) (ncells (movOf ts 3 at_).1), .row (.slice A30 ((movOf ts 2 at_).1.length) c31) 38 3 ((movOf ts 2 at_).1.length) (ncells (movOf ts 2 at_).1), .row (.slice A24 ((movOf ts 1 at_).1.length) c25) 38 3 ((movOf ts 1 at_).1.length) (ncells (movOf ts 1 at_).1), .row (.slice A17 (0 + ts.length) c18) 38 3 (0 + ts.length) (ncells ts)] := O66.below hb68
    refine ⟨_, rfl, ?_⟩
    refine wl_val (v := .bool false) (fun ρ e => ex_lnot (b := true) (e _ _ rfl)) rfl rfl ?_
    refine wl_val (v := .bool false) (fun ρ e => ex_pick0 (e _ _ rfl) (e _ _ rfl)) rfl rfl ?_
    refine wl_nil ?_
    refine xw_next K60 ?_
    refine cw_false rfl ?_
    refine cw_skip ?_
    refine xw_next K59 ?_
    refine cw_seq (fun FK70 K70 => ?_)
    refine cw_seq (fun FK71 K71 => ?_)
    refine cw_region ?_
    refine wl_val (v := .slice A24 ((movOf ts 1 at_).1.length) c25) (fun ρ e => ex_move (e _ _ rfl)) rfl rfl ?_
    refine wl_val (v := .slice A30 ((movOf ts 2 at_).1.length) c31) (fun ρ e => ex_move (e _ _ rfl)) rfl rfl ?_
    refine wl_val (v := .slice A36 ((movOf ts 3 at_).1.length) c37) (fun ρ e => ex_move (e _ _ rfl)) rfl rfl ?_
    obtain ⟨g72, w73, r74, O75, hg76, hs77⟩ := own_slice O69 el47 ze23 3 [(0, .slice A24 ((movOf ts 1 at_).1.length) c25), (1, .slice A30 ((movOf ts 2 at_).1.length) c31), (2, .slice A36 ((movOf ts 3 at_).1.length) c37)] (cs := #[.slice A24 ((movOf ts 1 at_).1.length) c25, .slice A30 ((movOf ts 2 at_).1.length) c31, .slice A36 ((movOf ts 3 at_).1.length) c37]) (by decide) (by kernel_rfl)
    refine wl_val (v := .slice (some ⟨g72, 0, none⟩) 3 3) (fun ρ e => r74 ρ _ _ _ _ _ _ (e.parts rfl)) rfl rfl ?_
    refine wl_val (v := .int .i64 (3 : Int)) (fun ρ e => ex_len el47 (e _ _ rfl)) rfl rfl ?_
    refine wl_val (v := .int .i64 0) (fun ρ e => ex_move (e _ _ rfl)) rfl rfl ?_
    refine wl_nil ?_
    refine xw_next K71 ?_
    refine cw_block ?_
    have O78 : Own Z0 W w73 [.row (.slice A24 ((movOf ts 1 at_).1.length) c25) 38 3 ((movOf ts 1 at_).1.length) (ncells (movOf ts 1 at_).1), .row (.slice A30 ((movOf ts 2 at_).1.length) c31) 38 3 ((movOf ts 2 at_).1.length) (ncells (movOf ts 2 at_).1), .row (.slice A36 ((movOf ts 3 at_).1.length) c37) 38 3 ((movOf ts 3 at_).1.length) (ncells (movOf ts 3 at_).1), .blk g72 23 #[.slice A24 ((movOf ts 1 at_).1.length) c25, .slice A30 ((movOf ts 2 at_).1.length) c31, .slice A36 ((movOf ts 3 at_).1.length) c37], .row (.slice A17 (0 + ts.length) c18) 38 3 (0 + ts.length) (ncells ts)] := (O75.re [6, 5, 4, 0, 7] rfl : Own Z0 W w73 [.row (.slice A24 ((movOf ts 1 at_).1.length) c25) 38 3 ((movOf ts 1 at_).1.length) (ncells (movOf ts 1 at_).1), .row (.slice A30 ((movOf ts 2 at_).1.length) c31) 38 3 ((movOf ts 2 at_).1.length) (ncells (movOf ts 2 at_).1), .row (.slice A36 ((movOf ts 3 at_).1.length) c37) 38 3 ((movOf ts 3 at_).1.length) (ncells (movOf ts 3 at_).1), .blk g72 23 #[.slice A24 ((movOf ts 1 at_).1.length) c25, .slice A30 ((movOf ts 2 at_).1.length) c31, .slice A36 ((movOf ts 3 at_).1.length) c37], .row (.slice A17 (0 + ts.length) c18) 38 3 (0 + ts.length) (ncells ts)])
    refine cw_loop (ι := Nat × List Value × List Value × List Value) (fun q => [(0, .slice A ts.length c), (5, .slice A17 (0 + ts.length) c18), (89, .slice (some ⟨g72, 0, none⟩) 3 3), (90, .int .i64 (3 : Int)), (91, .int .i64 (q.1 : Int))]) (fun q X => (q.1 ≤ 3) ∧ Own Z0 W X [.row (.slice A24 ((movOf ts 1 at_).1.length) c25) 38 3 ((movOf ts 1 at_).1.length) q.2.1, .row (.slice A30 ((movOf ts 2 at_).1.length) c31) 38 3 ((movOf ts 2 at_).1.length) q.2.2.1, .row (.slice A36 ((movOf ts 3 at_).1.length) c37) 38 3 ((movOf ts 3 at_).1.length) q.2.2.2, .blk g72 23 #[.slice A24 ((movOf ts 1 at_).1.length) c25, .slice A30 ((movOf ts 2 at_).1.length) c31, .slice A36 ((movOf ts 3 at_).1.length) c37], .row (.slice A17 (0 + ts.length) c18) 38 3 (0 + ts.length) (ncells ts)]) (fun q => 3 - q.1) (0, (ncells (movOf ts 1 at_).1), (ncells (movOf ts 2 at_).1), (ncells (movOf ts 3 at_).1)) ⟨Nat.zero_le _, O78⟩ ⟨rfl, rfl, rfl, rfl, rfl, trivial⟩ (fun q w79 hJ F80 K81 => ?_)
    obtain ⟨j, xs0, xs1, xs2⟩ := q
    obtain ⟨hj0, O82⟩ := hJ
    dsimp only at hj0 O82 ⊢
    rcases (show j = 0 ∨ j = 1 ∨ j = 2 ∨ j = 3 by omega) with rfl | rfl | rfl | rfl
    · skip
      refine cw_seq (fun FK83 K83 => ?_)
      refine cw_region ?_
      refine wl_val (v := .bool true) (fun ρ e => ex_cmp (u := ((0 : Nat) : Int)) (v := (3 : Int)) (e _ _ rfl) (e _ _ rfl) (lss1 (by omega))) rfl rfl ?_
      refine wl_nil ?_
      refine xw_next K83 ?_
      refine cw_seq (fun FK84 K84 => ?_)
      refine cw_true rfl ?_
      refine cw_skip ?_
      refine xw_next K84 ?_
      refine cw_seq (fun FK85 K85 => ?_)
      refine cw_block ?_
      refine cw_seq (fun FK86 K86 => ?_)
      refine cw_region ?_
      refine wl_val (v := .pointer (some ⟨g72, 0, none⟩)) (fun ρ e => ex_idx (q := 0) (i := 0) el47 (e _ _ rfl) (e _ _ rfl) (by omega) (by omega)) rfl rfl ?_
      refine wl_val (v := .slice A24 ((movOf ts 1 at_).1.length) c25) (fun ρ e => ex_load1 ty23 (e _ _ rfl) (O82.cell 3 0 rfl rfl)) rfl rfl ?_
      refine wl_val (v := .slice A24 ((movOf ts 1 at_).1.length) c25) (fun ρ e => ex_assign (e _ _ rfl)) rfl rfl ?_
      refine wl_nil ?_
      refine xw_next K86 ?_
      refine cw_seq (fun FK87 K87 => ?_)
      refine cw_region ?_
      refine wl_val (v := .slice A24 ((movOf ts 1 at_).1.length) c25) (fun ρ e => ex_move (e _ _ rfl)) rfl rfl ?_
      refine wl_val (v := .int .i64 (((movOf ts 1 at_).1.length : Nat) : Int)) (fun ρ e => ex_len el23 (e _ _ rfl)) rfl rfl ?_
      refine wl_val (v := .int .i64 0) (fun ρ e => ex_move (e _ _ rfl)) rfl rfl ?_
      refine wl_nil ?_
      refine xw_next K87 ?_
      refine cw_block ?_
      have O88 : Own Z0 W w79 [.row (.slice A24 ((movOf ts 1 at_).1.length) c25) 38 3 ((movOf ts 1 at_).1.length) xs0, .row (.slice A30 ((movOf ts 2 at_).1.length) c31) 38 3 ((movOf ts 2 at_).1.length) xs1, .row (.slice A36 ((movOf ts 3 at_).1.length) c37) 38 3 ((movOf ts 3 at_).1.length) xs2, .blk g72 23 #[.slice A24 ((movOf ts 1 at_).1.length) c25, .slice A30 ((movOf ts 2 at_).1.length) c31, .slice A36 ((movOf ts 3 at_).1.length) c37], .row (.slice A17 (0 + ts.length) c18) 38 3 (0 + ts.length) (ncells ts)] := O82
      refine cw_loop (ι := Nat × List Value) (fun q => [(0, .slice A ts.length c), (5, .slice A17 (0 + ts.length) c18), (19, .slice A24 ((movOf ts 1 at_).1.length) c25), (89, .slice (some ⟨g72, 0, none⟩) 3 3), (90, .int .i64 (3 : Int)), (91, .int .i64 ((0 : Nat) : Int)), (96, .int .i64 (((movOf ts 1 at_).1.length : Nat) : Int)), (97, .int .i64 (q.1 : Int))]) (fun q X => (q.1 ≤ (movOf ts 1 at_).1.length) ∧ Own Z0 W X [.row (.slice A24 ((movOf ts 1 at_).1.length) c25) 38 3 ((movOf ts 1 at_).1.length) q.2, .row (.slice A30 ((movOf ts 2 at_).1.length) c31) 38 3 ((movOf ts 2 at_).1.length) xs1, .row (.slice A36 ((movOf ts 3 at_).1.length) c37) 38 3 ((movOf ts 3 at_).1.length) xs2, .blk g72 23 #[.slice A24 ((movOf ts 1 at_).1.length) c25, .slice A30 ((movOf ts 2 at_).1.length) c31, .slice A36 ((movOf ts 3 at_).1.length) c37], .row (.slice A17 (0 + ts.length) c18) 38 3 (0 + ts.length) (ncells ts)]) (fun q => (movOf ts 1 at_).1.length - q.1) (0, xs0) ⟨Nat.zero_le _, O88⟩ ⟨rfl, rfl, rfl, rfl, rfl, rfl, rfl, rfl, trivial⟩ (fun q w89 hJ F90 K91 => ?_)
      obtain ⟨i, ys⟩ := q
      obtain ⟨hi0, O92⟩ := hJ
      dsimp only at hi0 O92 ⊢
      by_cases hi : i < (movOf ts 1 at_).1.length
      · skip
        obtain ⟨gr, hgr⟩ := rowaddr (O92.row 0 rfl) (show 0 < (movOf ts 1 at_).1.length by omega)
        have hrl : (movOf ts 1 at_).1.length ≤ 255 := mov_small _ _ (by omega) _
        refine cw_seq (fun FK93 K93 => ?_)
        refine cw_region ?_
        refine wl_val (v := .bool true) (fun ρ e => ex_cmp (u := (i : Int)) (v := (((movOf ts 1 at_).1.length : Nat) : Int)) (e _ _ rfl) (e _ _ rfl) (lss1 (by omega))) rfl rfl ?_
        refine wl_nil ?_
        refine xw_next K93 ?_
        refine cw_seq (fun FK94 K94 => ?_)
        refine cw_true rfl ?_
        refine cw_skip ?_
        refine xw_next K94 ?_
        refine cw_seq (fun FK95 K95 => ?_)
        refine cw_block ?_
        refine cw_seq (fun FK96 K96 => ?_)
        refine cw_region ?_
        refine wl_val (v := .int .i64 (i : Int)) (fun ρ e => ex_move (e _ _ rfl)) rfl rfl ?_
        refine wl_val (v := .int .i64 (i : Int)) (fun ρ e => ex_assign (e _ _ rfl)) rfl rfl ?_
        refine wl_nil ?_
        refine xw_next K96 ?_
        refine cw_region ?_
        refine wl_val (v := .slice A24 ((movOf ts 1 at_).1.length) c25) (fun ρ e => ex_move (e _ _ rfl)) rfl rfl ?_
        refine wl_val (v := .int .i64 (i : Int)) (fun ρ e => ex_move (e _ _ rfl)) rfl rfl ?_
        refine wl_val (v := .pointer (some ⟨gr, i * 3, none⟩)) (fun ρ e => ex_idx (q := i * 3) (g := gr) (o := 0) (i := i) (m := (movOf ts 1 at_).1.length) (c := c25) el23 ((e _ _ rfl).trans (congrArg (fun z => Value.slice z (movOf ts 1 at_).1.length c25) hgr)) (e _ _ rfl) hi (by omega)) rfl rfl ?_
        refine wl_val (v := .pointer (some ⟨gr, i * 3 + 2, none⟩)) (fun ρ e => ex_field (q := i * 3 + 2) fi38_2 (e _ _ rfl) rfl) rfl rfl ?_
        obtain ⟨w97, r98, O99⟩ := own_putrowN O92 hgr ty3 (k := i * 3 + 2) (show i * 3 + 2 < (movOf ts 1 at_).1.length * 3 by omega) (.int .i64 77) rfl rfl
        refine wl_none (fun ρ e => r98 ρ _ _ _ _ _ _ (e _ _ rfl) (e _ _ rfl)) rfl ?_
        refine wl_nil ?_
        refine xw_block ?_
        refine xw_next K95 ?_
        refine cw_region ?_
        refine wl_val (v := .int .i64 ((i + 1 : Nat) : Int)) (fun ρ e => ex_arith (k := .i64) (u := (i : Int)) (v := 1) (e _ _ rfl) (e _ _ rfl) (congrArg some ((congrArg _ (by omega)).trans (wrap_in (u := ((i + 1 : Nat) : Int)) (by omega) (by omega))))) rfl rfl ?_
        refine wl_val (v := .int .i64 ((i + 1 : Nat) : Int)) (fun ρ e => ex_move (e _ _ rfl)) rfl rfl ?_
        refine wl_nil ?_
        refine xw_round K91 (i + 1, (ys.set (i * 3 + 2) (.int .i64 77))) (by show (movOf ts 1 at_).1.length - (i + 1) < (movOf ts 1 at_).1.length - i; omega) ⟨(by show i + 1 ≤ (movOf ts 1 at_).1.length; omega), O99⟩ ⟨rfl, rfl, rfl, rfl, rfl, rfl, rfl, rfl, trivial⟩
      · skip
        refine cw_seq (fun FK100 K100 => ?_)
        refine cw_region ?_
        refine wl_val (v := .bool false) (fun ρ e => ex_cmp (u := (i : Int)) (v := (((movOf ts 1 at_).1.length : Nat) : Int)) (e _ _ rfl) (e _ _ rfl) (lss0 (by omega))) rfl rfl ?_
        refine wl_nil ?_
        refine xw_next K100 ?_
        refine cw_seq (fun FK101 K101 => ?_)
        refine cw_false rfl ?_
        refine cw_exit ?_
        refine xw_past (by intro h; cases h) ?_
        refine xw_past (by intro h; cases h) ?_
        refine xw_here ?_
        refine xw_block ?_
        refine xw_next K85 ?_
        refine cw_region ?_
        refine wl_val (v := .int .i64 ((0 + 1 : Nat) : Int)) (fun ρ e => ex_arith (k := .i64) (u := ((0 : Nat) : Int)) (v := 1) (e _ _ rfl) (e _ _ rfl) (congrArg some ((congrArg _ (by omega)).trans (wrap_in (u := ((0 + 1 : Nat) : Int)) (by omega) (by omega))))) rfl rfl ?_
        refine wl_val (v := .int .i64 ((0 + 1 : Nat) : Int)) (fun ρ e => ex_move (e _ _ rfl)) rfl rfl ?_
        refine wl_nil ?_
        refine xw_round K81 (0 + 1, ys, xs1, xs2) (by show 3 - (0 + 1) < 3 - 0; omega) ⟨(by show 0 + 1 ≤ 3; omega), O92⟩ ⟨rfl, rfl, rfl, rfl, rfl, trivial⟩
    · skip
      refine cw_seq (fun FK102 K102 => ?_)
      refine cw_region ?_
      refine wl_val (v := .bool true) (fun ρ e => ex_cmp (u := ((1 : Nat) : Int)) (v := (3 : Int)) (e _ _ rfl) (e _ _ rfl) (lss1 (by omega))) rfl rfl ?_
      refine wl_nil ?_
      refine xw_next K102 ?_
      refine cw_seq (fun FK103 K103 => ?_)
      refine cw_true rfl ?_
      refine cw_skip ?_
      refine xw_next K103 ?_
      refine cw_seq (fun FK104 K104 => ?_)
      refine cw_block ?_
      refine cw_seq (fun FK105 K105 => ?_)
      refine cw_region ?_
      refine wl_val (v := .pointer (some ⟨g72, 1, none⟩)) (fun ρ e => ex_idx (q := 1) (i := 1) el47 (e _ _ rfl) (e _ _ rfl) (by omega) (by omega)) rfl rfl ?_
      refine wl_val (v := .slice A30 ((movOf ts 2 at_).1.length) c31) (fun ρ e => ex_load1 ty23 (e _ _ rfl) (O82.cell 3 1 rfl rfl)) rfl rfl ?_
      refine wl_val (v := .slice A30 ((movOf ts 2 at_).1.length) c31) (fun ρ e => ex_assign (e _ _ rfl)) rfl rfl ?_
      refine wl_nil ?_
      refine xw_next K105 ?_
      refine cw_seq (fun FK106 K106 => ?_)
      refine cw_region ?_
      refine wl_val (v := .slice A30 ((movOf ts 2 at_).1.length) c31) (fun ρ e => ex_move (e _ _ rfl)) rfl rfl ?_
      refine wl_val (v := .int .i64 (((movOf ts 2 at_).1.length : Nat) : Int)) (fun ρ e => ex_len el23 (e _ _ rfl)) rfl rfl ?_
      refine wl_val (v := .int .i64 0) (fun ρ e => ex_move (e _ _ rfl)) rfl rfl ?_
      refine wl_nil ?_
      refine xw_next K106 ?_
      refine cw_block ?_
      have O107 : Own Z0 W w79 [.row (.slice A30 ((movOf ts 2 at_).1.length) c31) 38 3 ((movOf ts 2 at_).1.length) xs1, .row (.slice A24 ((movOf ts 1 at_).1.length) c25) 38 3 ((movOf ts 1 at_).1.length) xs0, .row (.slice A36 ((movOf ts 3 at_).1.length) c37) 38 3 ((movOf ts 3 at_).1.length) xs2, .blk g72 23 #[.slice A24 ((movOf ts 1 at_).1.length) c25, .slice A30 ((movOf ts 2 at_).1.length) c31, .slice A36 ((movOf ts 3 at_).1.length) c37], .row (.slice A17 (0 + ts.length) c18) 38 3 (0 + ts.length) (ncells ts)] := (O82.re [1, 0, 2, 3, 4] rfl : Own Z0 W w79 [.row (.slice A30 ((movOf ts 2 at_).1.length) c31) 38 3 ((movOf ts 2 at_).1.length) xs1, .row (.slice A24 ((movOf ts 1 at_).1.length) c25) 38 3 ((movOf ts 1 at_).1.length) xs0, .row (.slice A36 ((movOf ts 3 at_).1.length) c37) 38 3 ((movOf ts 3 at_).1.length) xs2, .blk g72 23 #[.slice A24 ((movOf ts 1 at_).1.length) c25, .slice A30 ((movOf ts 2 at_).1.length) c31, .slice A36 ((movOf ts 3 at_).1.length) c37], .row (.slice A17 (0 + ts.length) c18) 38 3 (0 + ts.length) (ncells ts)])
      refine cw_loop (ι := Nat × List Value) (fun q => [(0, .slice A ts.length c), (5, .slice A17 (0 + ts.length) c18), (19, .slice A30 ((movOf ts 2 at_).1.length) c31), (89, .slice (some ⟨g72, 0, none⟩) 3 3), (90, .int .i64 (3 : Int)), (91, .int .i64 ((1 : Nat) : Int)), (96, .int .i64 (((movOf ts 2 at_).1.length : Nat) : Int)), (97, .int .i64 (q.1 : Int))]) (fun q X => (q.1 ≤ (movOf ts 2 at_).1.length) ∧ Own Z0 W X [.row (.slice A30 ((movOf ts 2 at_).1.length) c31) 38 3 ((movOf ts 2 at_).1.length) q.2, .row (.slice A24 ((movOf ts 1 at_).1.length) c25) 38 3 ((movOf ts 1 at_).1.length) xs0, .row (.slice A36 ((movOf ts 3 at_).1.length) c37) 38 3 ((movOf ts 3 at_).1.length) xs2, .blk g72 23 #[.slice A24 ((movOf ts 1 at_).1.length) c25, .slice A30 ((movOf ts 2 at_).1.length) c31, .slice A36 ((movOf ts 3 at_).1.length) c37], .row (.slice A17 (0 + ts.length) c18) 38 3 (0 + ts.length) (ncells ts)]) (fun q => (movOf ts 2 at_).1.length - q.1) (0, xs1) ⟨Nat.zero_le _, O107⟩ ⟨rfl, rfl, rfl, rfl, rfl, rfl, rfl, rfl, trivial⟩ (fun q w108 hJ F109 K110 => ?_)
      obtain ⟨i, ys⟩ := q
      obtain ⟨hi0, O111⟩ := hJ
      dsimp only at hi0 O111 ⊢
      by_cases hi : i < (movOf ts 2 at_).1.length
      · skip
        obtain ⟨gr, hgr⟩ := rowaddr (O111.row 0 rfl) (show 0 < (movOf ts 2 at_).1.length by omega)
        have hrl : (movOf ts 2 at_).1.length ≤ 255 := mov_small _ _ (by omega) _
        refine cw_seq (fun FK112 K112 => ?_)
        refine cw_region ?_
        refine wl_val (v := .bool true) (fun ρ e => ex_cmp (u := (i : Int)) (v := (((movOf ts 2 at_).1.length : Nat) : Int)) (e _ _ rfl) (e _ _ rfl) (lss1 (by omega))) rfl rfl ?_
        refine wl_nil ?_
        refine xw_next K112 ?_
        refine cw_seq (fun FK113 K113 => ?_)
        refine cw_true rfl ?_
        refine cw_skip ?_
        refine xw_next K113 ?_
        refine cw_seq (fun FK114 K114 => ?_)
        refine cw_block ?_
        refine cw_seq (fun FK115 K115 => ?_)
        refine cw_region ?_
        refine wl_val (v := .int .i64 (i : Int)) (fun ρ e => ex_move (e _ _ rfl)) rfl rfl ?_
        refine wl_val (v := .int .i64 (i : Int)) (fun ρ e => ex_assign (e _ _ rfl)) rfl rfl ?_
        refine wl_nil ?_
        refine xw_next K115 ?_
        refine cw_region ?_
        refine wl_val (v := .slice A30 ((movOf ts 2 at_).1.length) c31) (fun ρ e => ex_move (e _ _ rfl)) rfl rfl ?_
        refine wl_val (v := .int .i64 (i : Int)) (fun ρ e => ex_move (e _ _ rfl)) rfl rfl ?_
        refine wl_val (v := .pointer (some ⟨gr, i * 3, none⟩)) (fun ρ e => ex_idx (q := i * 3) (g := gr) (o := 0) (i := i) (m := (movOf ts 2 at_).1.length) (c := c31) el23 ((e _ _ rfl).trans (congrArg (fun z => Value.slice z (movOf ts 2 at_).1.length c31) hgr)) (e _ _ rfl) hi (by omega)) rfl rfl ?_
        refine wl_val (v := .pointer (some ⟨gr, i * 3 + 2, none⟩)) (fun ρ e => ex_field (q := i * 3 + 2) fi38_2 (e _ _ rfl) rfl) rfl rfl ?_
        obtain ⟨w116, r117, O118⟩ := own_putrowN O111 hgr ty3 (k := i * 3 + 2) (show i * 3 + 2 < (movOf ts 2 at_).1.length * 3 by omega) (.int .i64 77) rfl rfl
        refine wl_none (fun ρ e => r117 ρ _ _ _ _ _ _ (e _ _ rfl) (e _ _ rfl)) rfl ?_
        refine wl_nil ?_
        refine xw_block ?_
        refine xw_next K114 ?_
        refine cw_region ?_
        refine wl_val (v := .int .i64 ((i + 1 : Nat) : Int)) (fun ρ e => ex_arith (k := .i64) (u := (i : Int)) (v := 1) (e _ _ rfl) (e _ _ rfl) (congrArg some ((congrArg _ (by omega)).trans (wrap_in (u := ((i + 1 : Nat) : Int)) (by omega) (by omega))))) rfl rfl ?_
        refine wl_val (v := .int .i64 ((i + 1 : Nat) : Int)) (fun ρ e => ex_move (e _ _ rfl)) rfl rfl ?_
        refine wl_nil ?_
        refine xw_round K110 (i + 1, (ys.set (i * 3 + 2) (.int .i64 77))) (by show (movOf ts 2 at_).1.length - (i + 1) < (movOf ts 2 at_).1.length - i; omega) ⟨(by show i + 1 ≤ (movOf ts 2 at_).1.length; omega), O118⟩ ⟨rfl, rfl, rfl, rfl, rfl, rfl, rfl, rfl, trivial⟩
      · skip
        refine cw_seq (fun FK119 K119 => ?_)
        refine cw_region ?_
        refine wl_val (v := .bool false) (fun ρ e => ex_cmp (u := (i : Int)) (v := (((movOf ts 2 at_).1.length : Nat) : Int)) (e _ _ rfl) (e _ _ rfl) (lss0 (by omega))) rfl rfl ?_
        refine wl_nil ?_
        refine xw_next K119 ?_
        refine cw_seq (fun FK120 K120 => ?_)
        refine cw_false rfl ?_
        refine cw_exit ?_
        refine xw_past (by intro h; cases h) ?_
        refine xw_past (by intro h; cases h) ?_
        refine xw_here ?_
        refine xw_block ?_
        refine xw_next K104 ?_
        refine cw_region ?_
        refine wl_val (v := .int .i64 ((1 + 1 : Nat) : Int)) (fun ρ e => ex_arith (k := .i64) (u := ((1 : Nat) : Int)) (v := 1) (e _ _ rfl) (e _ _ rfl) (congrArg some ((congrArg _ (by omega)).trans (wrap_in (u := ((1 + 1 : Nat) : Int)) (by omega) (by omega))))) rfl rfl ?_
        refine wl_val (v := .int .i64 ((1 + 1 : Nat) : Int)) (fun ρ e => ex_move (e _ _ rfl)) rfl rfl ?_
        refine wl_nil ?_
        refine xw_round K81 (1 + 1, xs0, ys, xs2) (by show 3 - (1 + 1) < 3 - 1; omega) ⟨(by show 1 + 1 ≤ 3; omega), (O111.re [1, 0, 2, 3, 4] rfl : Own Z0 W w108 [.row (.slice A24 ((movOf ts 1 at_).1.length) c25) 38 3 ((movOf ts 1 at_).1.length) xs0, .row (.slice A30 ((movOf ts 2 at_).1.length) c31) 38 3 ((movOf ts 2 at_).1.length) ys, .row (.slice A36 ((movOf ts 3 at_).1.length) c37) 38 3 ((movOf ts 3 at_).1.length) xs2, .blk g72 23 #[.slice A24 ((movOf ts 1 at_).1.length) c25, .slice A30 ((movOf ts 2 at_).1.length) c31, .slice A36 ((movOf ts 3 at_).1.length) c37], .row (.slice A17 (0 + ts.length) c18) 38 3 (0 + ts.length) (ncells ts)])⟩ ⟨rfl, rfl, rfl, rfl, rfl, trivial⟩
    · skip
      refine cw_seq (fun FK121 K121 => ?_)
      refine cw_region ?_
      refine wl_val (v := .bool true) (fun ρ e => ex_cmp (u := ((2 : Nat) : Int)) (v := (3 : Int)) (e _ _ rfl) (e _ _ rfl) (lss1 (by omega))) rfl rfl ?_
      refine wl_nil ?_
      refine xw_next K121 ?_
      refine cw_seq (fun FK122 K122 => ?_)
      refine cw_true rfl ?_
      refine cw_skip ?_
      refine xw_next K122 ?_
      refine cw_seq (fun FK123 K123 => ?_)
      refine cw_block ?_
      refine cw_seq (fun FK124 K124 => ?_)
      refine cw_region ?_
      refine wl_val (v := .pointer (some ⟨g72, 2, none⟩)) (fun ρ e => ex_idx (q := 2) (i := 2) el47 (e _ _ rfl) (e _ _ rfl) (by omega) (by omega)) rfl rfl ?_
      refine wl_val (v := .slice A36 ((movOf ts 3 at_).1.length) c37) (fun ρ e => ex_load1 ty23 (e _ _ rfl) (O82.cell 3 2 rfl rfl)) rfl rfl ?_
      refine wl_val (v := .slice A36 ((movOf ts 3 at_).1.length) c37) (fun ρ e => ex_assign (e _ _ rfl)) rfl rfl ?_
      refine wl_nil ?_
      refine xw_next K124 ?_
      refine cw_seq (fun FK125 K125 => ?_)
      refine cw_region ?_
      refine wl_val (v := .slice A36 ((movOf ts 3 at_).1.length) c37) (fun ρ e => ex_move (e _ _ rfl)) rfl rfl ?_
      refine wl_val (v := .int .i64 (((movOf ts 3 at_).1.length : Nat) : Int)) (fun ρ e => ex_len el23 (e _ _ rfl)) rfl rfl ?_
      refine wl_val (v := .int .i64 0) (fun ρ e => ex_move (e _ _ rfl)) rfl rfl ?_
      refine wl_nil ?_
      refine xw_next K125 ?_
      refine cw_block ?_
      have O126 : Own Z0 W w79 [.row (.slice A36 ((movOf ts 3 at_).1.length) c37) 38 3 ((movOf ts 3 at_).1.length) xs2, .row (.slice A24 ((movOf ts 1 at_).1.length) c25) 38 3 ((movOf ts 1 at_).1.length) xs0, .row (.slice A30 ((movOf ts 2 at_).1.length) c31) 38 3 ((movOf ts 2 at_).1.length) xs1, .blk g72 23 #[.slice A24 ((movOf ts 1 at_).1.length) c25, .slice A30 ((movOf ts 2 at_).1.length) c31, .slice A36 ((movOf ts 3 at_).1.length) c37], .row (.slice A17 (0 + ts.length) c18) 38 3 (0 + ts.length) (ncells ts)] := (O82.re [2, 0, 1, 3, 4] rfl : Own Z0 W w79 [.row (.slice A36 ((movOf ts 3 at_).1.length) c37) 38 3 ((movOf ts 3 at_).1.length) xs2, .row (.slice A24 ((movOf ts 1 at_).1.length) c25) 38 3 ((movOf ts 1 at_).1.length) xs0, .row (.slice A30 ((movOf ts 2 at_).1.length) c31) 38 3 ((movOf ts 2 at_).1.length) xs1, .blk g72 23 #[.slice A24 ((movOf ts 1 at_).1.length) c25, .slice A30 ((movOf ts 2 at_).1.length) c31, .slice A36 ((movOf ts 3 at_).1.length) c37], .row (.slice A17 (0 + ts.length) c18) 38 3 (0 + ts.length) (ncells ts)])
      refine cw_loop (ι := Nat × List Value) (fun q => [(0, .slice A ts.length c), (5, .slice A17 (0 + ts.length) c18), (19, .slice A36 ((movOf ts 3 at_).1.length) c37), (89, .slice (some ⟨g72, 0, none⟩) 3 3), (90, .int .i64 (3 : Int)), (91, .int .i64 ((2 : Nat) : Int)), (96, .int .i64 (((movOf ts 3 at_).1.length : Nat) : Int)), (97, .int .i64 (q.1 : Int))]) (fun q X => (q.1 ≤ (movOf ts 3 at_).1.length) ∧ Own Z0 W X [.row (.slice A36 ((movOf ts 3 at_).1.length) c37) 38 3 ((movOf ts 3 at_).1.length) q.2, .row (.slice A24 ((movOf ts 1 at_).1.length) c25) 38 3 ((movOf ts 1 at_).1.length) xs0, .row (.slice A30 ((movOf ts 2 at_).1.length) c31) 38 3 ((movOf ts 2 at_).1.length) xs1, .blk g72 23 #[.slice A24 ((movOf ts 1 at_).1.length) c25, .slice A30 ((movOf ts 2 at_).1.length) c31, .slice A36 ((movOf ts 3 at_).1.length) c37], .row (.slice A17 (0 + ts.length) c18) 38 3 (0 + ts.length) (ncells ts)]) (fun q => (movOf ts 3 at_).1.length - q.1) (0, xs2) ⟨Nat.zero_le _, O126⟩ ⟨rfl, rfl, rfl, rfl, rfl, rfl, rfl, rfl, trivial⟩ (fun q w127 hJ F128 K129 => ?_)
      obtain ⟨i, ys⟩ := q
      obtain ⟨hi0, O130⟩ := hJ
      dsimp only at hi0 O130 ⊢
      by_cases hi : i < (movOf ts 3 at_).1.length
      · skip
        obtain ⟨gr, hgr⟩ := rowaddr (O130.row 0 rfl) (show 0 < (movOf ts 3 at_).1.length by omega)
        have hrl : (movOf ts 3 at_).1.length ≤ 255 := mov_small _ _ (by omega) _
        refine cw_seq (fun FK131 K131 => ?_)
        refine cw_region ?_
        refine wl_val (v := .bool true) (fun ρ e => ex_cmp (u := (i : Int)) (v := (((movOf ts 3 at_).1.length : Nat) : Int)) (e _ _ rfl) (e _ _ rfl) (lss1 (by omega))) rfl rfl ?_
        refine wl_nil ?_
        refine xw_next K131 ?_
        refine cw_seq (fun FK132 K132 => ?_)
        refine cw_true rfl ?_
        refine cw_skip ?_
        refine xw_next K132 ?_
        refine cw_seq (fun FK133 K133 => ?_)
        refine cw_block ?_
        refine cw_seq (fun FK134 K134 => ?_)
        refine cw_region ?_
        refine wl_val (v := .int .i64 (i : Int)) (fun ρ e => ex_move (e _ _ rfl)) rfl rfl ?_
        refine wl_val (v := .int .i64 (i : Int)) (fun ρ e => ex_assign (e _ _ rfl)) rfl rfl ?_
        refine wl_nil ?_
        refine xw_next K134 ?_
        refine cw_region ?_
        refine wl_val (v := .slice A36 ((movOf ts 3 at_).1.length) c37) (fun ρ e => ex_move (e _ _ rfl)) rfl rfl ?_
        refine wl_val (v := .int .i64 (i : Int)) (fun ρ e => ex_move (e _ _ rfl)) rfl rfl ?_
        refine wl_val (v := .pointer (some ⟨gr, i * 3, none⟩)) (fun ρ e => ex_idx (q := i * 3) (g := gr) (o := 0) (i := i) (m := (movOf ts 3 at_).1.length) (c := c37) el23 ((e _ _ rfl).trans (congrArg (fun z => Value.slice z (movOf ts 3 at_).1.length c37) hgr)) (e _ _ rfl) hi (by omega)) rfl rfl ?_
        refine wl_val (v := .pointer (some ⟨gr, i * 3 + 2, none⟩)) (fun ρ e => ex_field (q := i * 3 + 2) fi38_2 (e _ _ rfl) rfl) rfl rfl ?_
        obtain ⟨w135, r136, O137⟩ := own_putrowN O130 hgr ty3 (k := i * 3 + 2) (show i * 3 + 2 < (movOf ts 3 at_).1.length * 3 by omega) (.int .i64 77) rfl rfl
        refine wl_none (fun ρ e => r136 ρ _ _ _ _ _ _ (e _ _ rfl) (e _ _ rfl)) rfl ?_
        refine wl_nil ?_
        refine xw_block ?_
        refine xw_next K133 ?_
        refine cw_region ?_
        refine wl_val (v := .int .i64 ((i + 1 : Nat) : Int)) (fun ρ e => ex_arith (k := .i64) (u := (i : Int)) (v := 1) (e _ _ rfl) (e _ _ rfl) (congrArg some ((congrArg _ (by omega)).trans (wrap_in (u := ((i + 1 : Nat) : Int)) (by omega) (by omega))))) rfl rfl ?_
        refine wl_val (v := .int .i64 ((i + 1 : Nat) : Int)) (fun ρ e => ex_move (e _ _ rfl)) rfl rfl ?_
        refine wl_nil ?_
        refine xw_round K129 (i + 1, (ys.set (i * 3 + 2) (.int .i64 77))) (by show (movOf ts 3 at_).1.length - (i + 1) < (movOf ts 3 at_).1.length - i; omega) ⟨(by show i + 1 ≤ (movOf ts 3 at_).1.length; omega), O137⟩ ⟨rfl, rfl, rfl, rfl, rfl, rfl, rfl, rfl, trivial⟩
      · skip
        refine cw_seq (fun FK138 K138 => ?_)
        refine cw_region ?_
        refine wl_val (v := .bool false) (fun ρ e => ex_cmp (u := (i : Int)) (v := (((movOf ts 3 at_).1.length : Nat) : Int)) (e _ _ rfl) (e _ _ rfl) (lss0 (by omega))) rfl rfl ?_
        refine wl_nil ?_
        refine xw_next K138 ?_
        refine cw_seq (fun FK139 K139 => ?_)
        refine cw_false rfl ?_
        refine cw_exit ?_
        refine xw_past (by intro h; cases h) ?_
        refine xw_past (by intro h; cases h) ?_
        refine xw_here ?_
        refine xw_block ?_
        refine xw_next K123 ?_
        refine cw_region ?_
        refine wl_val (v := .int .i64 ((2 + 1 : Nat) : Int)) (fun ρ e => ex_arith (k := .i64) (u := ((2 : Nat) : Int)) (v := 1) (e _ _ rfl) (e _ _ rfl) (congrArg some ((congrArg _ (by omega)).trans (wrap_in (u := ((2 + 1 : Nat) : Int)) (by omega) (by omega))))) rfl rfl ?_
        refine wl_val (v := .int .i64 ((2 + 1 : Nat) : Int)) (fun ρ e => ex_move (e _ _ rfl)) rfl rfl ?_
        refine wl_nil ?_
        refine xw_round K81 (2 + 1, xs0, xs1, ys) (by show 3 - (2 + 1) < 3 - 2; omega) ⟨(by show 2 + 1 ≤ 3; omega), (O130.re [1, 2, 0, 3, 4] rfl : Own Z0 W w127 [.row (.slice A24 ((movOf ts 1 at_).1.length) c25) 38 3 ((movOf ts 1 at_).1.length) xs0, .row (.slice A30 ((movOf ts 2 at_).1.length) c31) 38 3 ((movOf ts 2 at_).1.length) xs1, .row (.slice A36 ((movOf ts 3 at_).1.length) c37) 38 3 ((movOf ts 3 at_).1.length) ys, .blk g72 23 #[.slice A24 ((movOf ts 1 at_).1.length) c25, .slice A30 ((movOf ts 2 at_).1.length) c31, .slice A36 ((movOf ts 3 at_).1.length) c37], .row (.slice A17 (0 + ts.length) c18) 38 3 (0 + ts.length) (ncells ts)])⟩ ⟨rfl, rfl, rfl, rfl, rfl, trivial⟩
    · skip
      refine cw_seq (fun FK140 K140 => ?_)
      refine cw_region ?_
      refine wl_val (v := .bool false) (fun ρ e => ex_cmp (u := ((3 : Nat) : Int)) (v := (3 : Int)) (e _ _ rfl) (e _ _ rfl) (lss0 (by omega))) rfl rfl ?_
      refine wl_nil ?_
      refine xw_next K140 ?_
      refine cw_seq (fun FK141 K141 => ?_)
      refine cw_false rfl ?_
      refine cw_exit ?_
      refine xw_past (by intro h; cases h) ?_
      refine xw_past (by intro h; cases h) ?_
      refine xw_here ?_
      refine xw_next K70 ?_
      refine cw_seq (fun FK142 K142 => ?_)
      refine cw_region ?_
      refine wl_val (v := .slice A ts.length c) (fun ρ e => ex_move (e _ _ rfl)) rfl rfl ?_
      refine wl_val (v := .slice A17 (0 + ts.length) c18) (fun ρ e => ex_move (e _ _ rfl)) rfl rfl ?_
      refine wl_call (args := [.slice A ts.length c, .slice A17 (0 + ts.length) c18]) in_38 rfl rfl rfl ?_
      refine (same_ (hN.move (fun k hk => (O82.old).block k (hD k hk))) (fun k hk => Nat.lt_of_lt_of_le (hD k hk) (O82.old).size) (NodesD.of_row (O82.row 4 rfl)) (fun k hk => (World.ownsRow.lt (O82.row 4 rfl) k hk).2)).mono ?_
      rintro _ w143 ⟨rfl, hb144⟩
      have O145 : Own Z0 W w143 [.row (.slice A24 ((movOf ts 1 at_).1.length) c25) 38 3 ((movOf ts 1 at_).1.length) xs0, .row (.slice A30 ((movOf ts 2 at_).1.length) c31) 38 3 ((movOf ts 2 at_).1.length) xs1, .row (.slice A36 ((movOf ts 3 at_).1.length) c37) 38 3 ((movOf ts 3 at_).1.length) xs2, .blk g72 23 #[.slice A24 ((movOf ts 1 at_).1.length) c25, .slice A30 ((movOf ts 2 at_).1.length) c31, .slice A36 ((movOf ts 3 at_).1.length) c37], .row (.slice A17 (0 + ts.length) c18) 38 3 (0 + ts.length) (ncells ts)] := O82.below hb144
      refine ⟨_, rfl, ?_⟩
      refine wl_val (v := .bool true) (fun ρ e => ex_move (e _ _ rfl)) rfl rfl ?_
      refine wl_call (args := []) in_14 rfl rfl rfl ?_
      refine (works_ (tab.below (Nat.le_refl _) O145.old)).mono ?_
      rintro _ w146 ⟨rfl, hb147⟩
      have O148 : Own Z0 W w146 [.row (.slice A24 ((movOf ts 1 at_).1.length) c25) 38 3 ((movOf ts 1 at_).1.length) xs0, .row (.slice A30 ((movOf ts 2 at_).1.length) c31) 38 3 ((movOf ts 2 at_).1.length) xs1, .row (.slice A36 ((movOf ts 3 at_).1.length) c37) 38 3 ((movOf ts 3 at_).1.length) xs2, .blk g72 23 #[.slice A24 ((movOf ts 1 at_).1.length) c25, .slice A30 ((movOf ts 2 at_).1.length) c31, .slice A36 ((movOf ts 3 at_).1.length) c37], .row (.slice A17 (0 + ts.length) c18) 38 3 (0 + ts.length) (ncells ts)] := O145.below hb147
      refine ⟨_, rfl, ?_⟩
      refine wl_val (v := .bool true) (fun ρ e => ex_pick1 (e _ _ rfl) (e _ _ rfl)) rfl rfl ?_
      refine wl_val (v := .bool true) (fun ρ e => ex_assign (e _ _ rfl)) rfl rfl ?_
      refine wl_nil ?_
      refine xw_next K142 ?_
      refine cw_ret ?_
      refine xw_ret (v := .bool true) (fun T hT => res1 rfl T _ (hT 4 _ rfl)) ?_
      exact ⟨rfl, O148.old⟩
end Go.Proofs.YtpeoodkepjhhiaaDoor
namespace Go.Proofs.YtpeoodkepjhhiaaDoor
open Go Go.RowKit
section
variable {ρ : Operand → Value} {d : Option Tmp} {x y z : Operand} {t T : TypeId} {pos0 : String} {aft : Array Edge} {gd : Option (Nat × Bool)} {w : World}
theorem ex_quo10 {a : Nat} {T1 : TypeId} (hx : ρ x = .int .i64 ((a : Nat) : Int)) (hy : ρ y = .int .i64 10) (ha : a ≤ 1000000000) : (execOp ρ ⟨d, .binOp .quo 3 x y T1, t, pos0, aft, gd⟩).run Tryd.prog w = .ok (.value (.int .i64 ((a / 10 : Nat) : Int))) w := by
  have h : IntKind.i64.wrap ((a : Int) / 10) = (a : Int) / 10 := by
    rw [IntKind.wrap_i64]
    omega
  simp [go_sem, hx, hy, h]
theorem ex_rem10 {a : Nat} {T1 : TypeId} (hx : ρ x = .int .i64 ((a : Nat) : Int)) (hy : ρ y = .int .i64 10) (ha : a ≤ 1000000000) : (execOp ρ ⟨d, .binOp .rem 3 x y T1, t, pos0, aft, gd⟩).run Tryd.prog w = .ok (.value (.int .i64 ((a % 10 : Nat) : Int))) w := by
  have h2 : ((a % 10 : Nat) : Int) = (a : Int) % 10 := by omega
  have h : IntKind.i64.wrap ((a : Int) % 10) = (a : Int) % 10 := by
    rw [IntKind.wrap_i64]
    omega
  have h3 : (a : Int).tmod 10 = (a : Int) % 10 := Int.tmod_eq_emod_of_nonneg (by omega)
  rw [h2]
  simp [go_sem, hx, hy, h, h3]
theorem ex_conv35 {k : Nat} (hx : ρ x = .int .i64 ((k : Nat) : Int)) (hk : k < 256) : (execOp ρ ⟨d, .convert 3 5 x, t, pos0, aft, gd⟩).run Tryd.prog w = .ok (.value (.int .u8 ((UInt8.ofNat k).toNat : Int))) w := by
  have h2 : (UInt8.ofNat k).toNat = k := by rw [UInt8.toNat_ofNat']; omega
  rw [h2]
  have h : IntKind.u8.wrap ((k : Nat) : Int) = ((k : Nat) : Int) := by
    rw [IntKind.wrap_u8]; omega
  simp [go_sem, hx, h]
theorem ex_conv1 {g : Nat} {b : UInt8} (hx : ρ x = .slice (some ⟨g, 0, none⟩) 1 1) (hk : Blk w g 5 #[.int .u8 (b.toNat : Int)]) : (execOp ρ ⟨d, .convert 32 9 x, t, pos0, aft, gd⟩).run Tryd.prog w = .ok (.value (.string ⟨([b]).toArray⟩)) w := by
  have hcv := run_convert_bytes_back (P := Tryd.prog) w 32 9 5 ⟨g, 0, none⟩ 1 [b] Tryd.underlying32 Tryd.underlying5 Tryd.underlying9 (fun j hj => by
    obtain rfl : j = 0 := by simpa using hj
    rw [addr_plus, hk.cell]
    rfl)
  have hcv' : (convert 32 9 (.slice (some ⟨g, 0, none⟩) 1 1)).run Tryd.prog w = .ok (.string ⟨([b]).toArray⟩) w := hcv
  simp only [execOp, hx, Sem.run_bind, hcv', Result.andThen_ok, Sem.run_pure]
theorem ex_addS {a b : List UInt8} {T1 : TypeId} (hx : ρ x = .string ⟨a.toArray⟩) (hy : ρ y = .string ⟨b.toArray⟩) (hl : a.length + b.length ≤ 1000000) : (execOp ρ ⟨d, .binOp .add 9 x y T1, t, pos0, aft, gd⟩).run Tryd.prog w = .ok (.value (.string ⟨(a ++ b).toArray⟩)) w := by
  have e : (⟨a.toArray⟩ : ByteArray) ++ ⟨b.toArray⟩ = ⟨(a ++ b).toArray⟩ := by
    apply ByteArray.ext
    simp
  have h : (binOp .add 9 (.string ⟨a.toArray⟩) (.string ⟨b.toArray⟩)).run Tryd.prog w = .ok (.string ⟨(a ++ b).toArray⟩) w := by
    rw [← e]
    have h1 : (⟨a.toArray⟩ : ByteArray).size = a.length := by show a.toArray.size = _; simp
    have h2 : (⟨b.toArray⟩ : ByteArray).size = b.length := by show b.toArray.size = _; simp
    have h3 : ((⟨a.toArray⟩ : ByteArray).size : Int) + ((⟨b.toArray⟩ : ByteArray).size : Int) ≤ 9223372036854775807 := by omega
    simp [binOp, Op.stringOp, h3]
  have hg : (eqGuard .add 9 x y (.string ⟨a.toArray⟩) (.string ⟨b.toArray⟩)).run Tryd.prog w = .ok () w := rfl
  simp only [execOp, hx, hy, Sem.run_bind, hg, h, Result.andThen_ok, Sem.run_pure]
end
/-- The reference's decimal. -/
def decR (v : Nat) : List UInt8 := dec (v : Int)
theorem decR_small {v : Nat} (h : v < 10) : decR v = [UInt8.ofNat (48 + v)] := by
  unfold decR dec
  rw [if_pos (by omega), Int.toNat_natCast]
theorem decR_big {v : Nat} (h : ¬ v < 10 ∧ v < 1000) : decR v = decR (v / 10) ++ [UInt8.ofNat (48 + v % 10)] := by
  unfold decR dec
  rw [if_neg (by omega)]
  simp only [Int.toNat_natCast]
  by_cases h2 : v < 100
  · rw [if_pos (by omega), if_pos (by omega)]; rfl
  · rw [if_neg (by omega), if_neg (by omega), if_pos (by omega)]
    rw [show v / 10 / 10 = v / 100 by omega]; rfl
theorem rdec_ : ∀ (n v : Nat), v < n → v < 1000 → ∀ (W : World), Calls Tryd.prog 83 #[.int .i64 (v : Int)] W fun e w' => e = .returned (.string ⟨(decR v).toArray⟩) ∧ Below W.heap.size W w'
  | 0, _, h, _ => absurd h (Nat.not_lt_zero _)
  | n + 1, v, hn, hv => fun W => by
    have hdl : (decR (v / 10)).length ≤ 3 := (dec_len _).2
    have O0 : Own Z0 W W [] := Own.start W
    refine sx_enter (args := [.int .i64 (v : Int)]) Tryd.func83 rfl rfl (by simp) ?_
    refine cw_seq (fun FK1 K1 => ?_)
    refine cw_region ?_
    refine wl_val (v := .string (⟨#[]⟩)) (fun ρ e => ex_assign (e _ _ rfl)) rfl rfl ?_
    refine wl_nil ?_
    refine xw_next K1 ?_
    refine cw_seq (fun FK2 K2 => ?_)
    refine cw_seq (fun FK3 K3 => ?_)
    refine cw_region ?_
    refine wl_val (v := .int .i64 (v : Int)) (fun ρ e => ex_move (e _ _ rfl)) rfl rfl ?_
    by_cases c4 : (v : Int) < 10
    · skip
      refine wl_val (v := .bool true) (fun ρ e => ex_cmp (u := (v : Int)) (v := 10) (e _ _ rfl) (e _ _ rfl) (lss1 (by omega))) rfl rfl ?_
      refine wl_nil ?_
      refine xw_next K3 ?_
      refine cw_true rfl ?_
      refine cw_seq (fun FK5 K5 => ?_)
      refine cw_region ?_
      refine wl_val (v := .int .i64 (v : Int)) (fun ρ e => ex_move (e _ _ rfl)) rfl rfl ?_
      refine wl_val (v := .int .i64 ((48 + v : Nat) : Int)) (fun ρ e => ex_arith (k := .i64) (u := 48) (v := (v : Int)) (e _ _ rfl) (e _ _ rfl) (congrArg some ((congrArg _ (by omega)).trans (wrap_in (u := ((48 + v : Nat) : Int)) (by omega) (by omega))))) rfl rfl ?_
      refine wl_val (v := .int .u8 ((UInt8.ofNat (48 + v)).toNat : Int)) (fun ρ e => ex_conv35 (k := 48 + v) (e _ _ rfl) (by omega)) rfl rfl ?_
      obtain ⟨g6, w7, r8, O9, hg10, hs11⟩ := own_slice O0 el32 ze5 1 [(0, .int .u8 ((UInt8.ofNat (48 + v)).toNat : Int))] (cs := #[.int .u8 ((UInt8.ofNat (48 + v)).toNat : Int)]) (by decide) (by kernel_rfl)
      refine wl_val (v := .slice (some ⟨g6, 0, none⟩) 1 1) (fun ρ e => r8 ρ _ _ _ _ _ _ (e.parts rfl)) rfl rfl ?_
      refine wl_val (v := .string (⟨([UInt8.ofNat (48 + v)]).toArray⟩)) (fun ρ e => ex_conv1 (b := UInt8.ofNat (48 + v)) (e _ _ rfl) (O9.blk 0 rfl)) rfl rfl ?_
      refine wl_val (v := .string (⟨([UInt8.ofNat (48 + v)]).toArray⟩)) (fun ρ e => ex_assign (e _ _ rfl)) rfl rfl ?_
      refine wl_nil ?_
      refine xw_next K5 ?_
      refine cw_ret ?_
      refine xw_past (by intro h; cases h) ?_
      refine xw_ret (v := .string (⟨([UInt8.ofNat (48 + v)]).toArray⟩)) (fun T hT => res1 rfl T _ (hT 2 _ rfl)) ?_
      have hd : decR v = [UInt8.ofNat (48 + v)] := by rw [decR_small (by omega)]
      rw [hd]
      exact ⟨rfl, O9.old⟩
    · skip
      refine wl_val (v := .bool false) (fun ρ e => ex_cmp (u := (v : Int)) (v := 10) (e _ _ rfl) (e _ _ rfl) (lss0 (by omega))) rfl rfl ?_
      refine wl_nil ?_
      refine xw_next K3 ?_
      refine cw_false rfl ?_
      refine cw_skip ?_
      refine xw_next K2 ?_
      refine cw_seq (fun FK12 K12 => ?_)
      refine at_start (fuel := 11) (listed := #[false, false, false, false, false, false, false, false, false, false, false]) (fun X => Own Z0 W X []) 10 (by kernel_rfl) rfl (by kernel_rfl) (O0).drew ?_
      have O13 : Own Z0 W W.drew [] := O0.drew
      refine at_name (fun AT14 hin15 hout16 => ?_)
      have N38 : ∀ (g26 : Nat) (w39 : World), Own Z0 W w39 [.blk g26 5 #[.int .u8 ((UInt8.ofNat (48 + v % 10)).toNat : Int)]] → AT14 0 #[true, true, true, true, true, true, true, true, true, true, true] 20 [(0, .int .i64 (v : Int)), (2, .string (⟨(decR (v / 10) ++ [UInt8.ofNat (48 + v % 10)]).toArray⟩)), (3, .int .i64 (v : Int)), (4, .bool false)] w39 := by
        intro g26 w39 O40
        refine hin15 _ _ _ _ _ ?_
        refine at_done rfl ?_
        refine xw_next K12 ?_
        refine cw_ret ?_
        refine xw_ret (v := .string (⟨(decR (v / 10) ++ [UInt8.ofNat (48 + v % 10)]).toArray⟩)) (fun T hT => res1 rfl T _ (hT 2 _ rfl)) ?_
        have hd : decR v = decR (v / 10) ++ [UInt8.ofNat (48 + v % 10)] := by rw [decR_big (by omega)]
        rw [hd]
        exact ⟨rfl, O40.old⟩
      have N41 : ∀ (g26 : Nat) (w42 : World), Own Z0 W w42 [.blk g26 5 #[.int .u8 ((UInt8.ofNat (48 + v % 10)).toNat : Int)]] → AT14 1 #[true, true, true, true, true, true, true, true, true, true, false] 20 [(0, .int .i64 (v : Int)), (2, .string (⟨#[]⟩)), (3, .int .i64 (v : Int)), (4, .bool false), (19, .string (⟨(decR (v / 10) ++ [UInt8.ofNat (48 + v % 10)]).toArray⟩))] w42 := by
        intro g26 w42 O43
        refine hin15 _ _ _ _ _ ?_
        refine at_branch [10] (by kernel_rfl) ⟨?_, trivial⟩
        · skip
          refine stp_val (v := .string (⟨(decR (v / 10) ++ [UInt8.ofNat (48 + v % 10)]).toArray⟩)) (listed' := #[true, true, true, true, true, true, true, true, true, true, true]) rfl rfl (fun ρ e => ex_assign (e _ _ rfl)) rfl rfl (fun h => absurd (show true = false from h) (by decide)) ?_
          exact at_sub2 (hout16 _ _ _ _ _ (N38 g26 w42 O43)) ⟨rfl, rfl, rfl, rfl, trivial⟩
      have N44 : ∀ (g20 : Nat) (w45 : World), Own Z0 W w45 [.blk g20 5 #[.int .u8 ((UInt8.ofNat (48 + v % 10)).toNat : Int)]] → AT14 3 #[true, true, false, true, true, true, true, true, true, false, false] 20 [(0, .int .i64 (v : Int)), (2, .string (⟨#[]⟩)), (3, .int .i64 (v : Int)), (4, .bool false), (11, .int .i64 ((v / 10 : Nat) : Int)), (18, .string (⟨([UInt8.ofNat (48 + v % 10)]).toArray⟩))] w45 := by
        intro g20 w45 O46
        refine hin15 _ _ _ _ _ ?_
        refine at_branch [2] (by kernel_rfl) ⟨?_, trivial⟩
        · skip
          refine stp_call (args := [.int .i64 ((v / 10 : Nat) : Int)]) (listed' := #[true, true, true, true, true, true, true, true, true, false, false]) rfl rfl in_83 rfl rfl rfl ?_
          refine (rdec_ n (v / 10) (by omega) (by omega) w45).mono ?_
          rintro _ w47 ⟨rfl, hb48⟩
          have O49 : Own Z0 W w47 [.blk g20 5 #[.int .u8 ((UInt8.ofNat (48 + v % 10)).toNat : Int)]] := O46.below hb48
          refine ⟨_, rfl, (fun _ => (O49.re [] rfl : Own Z0 W w47 [])), ?_⟩
          refine at_take1 (v := .string (⟨(decR (v / 10) ++ [UInt8.ofNat (48 + v % 10)]).toArray⟩)) (i := 9) (listed' := #[true, true, true, true, true, true, true, true, true, true, false]) rfl (by kernel_rfl) (PQ.then_ PQ.body) (fun _ => (O49.re [] rfl : Own Z0 W w47 [])) (fun ρ e W => ex_addS (a := decR (v / 10)) (b := [UInt8.ofNat (48 + v % 10)]) (e _ _ rfl) (e _ _ rfl) (by simp only [List.length_append, List.length_cons, List.length_nil]; omega)) rfl rfl ?_
          exact at_sub2 (hout16 _ _ _ _ _ (N41 g20 w47 O49)) ⟨rfl, rfl, rfl, rfl, rfl, trivial⟩
      have N50 : ∀ (g26 : Nat) (w51 : World), Own Z0 W w51 [.blk g26 5 #[.int .u8 ((UInt8.ofNat (48 + v % 10)).toNat : Int)]] → AT14 3 #[true, true, true, true, true, true, true, true, false, false, false] 20 [(0, .int .i64 (v : Int)), (2, .string (⟨#[]⟩)), (3, .int .i64 (v : Int)), (4, .bool false), (12, .string (⟨(decR (v / 10)).toArray⟩)), (17, .slice (some ⟨g26, 0, none⟩) 1 1)] w51 := by
        intro g26 w51 O52
        refine hin15 _ _ _ _ _ ?_
        refine at_branch [8] (by kernel_rfl) ⟨?_, trivial⟩
        · skip
          refine stp_val (v := .string (⟨([UInt8.ofNat (48 + v % 10)]).toArray⟩)) (listed' := #[true, true, true, true, true, true, true, true, true, false, false]) rfl rfl (fun ρ e => ex_conv1 (b := UInt8.ofNat (48 + v % 10)) (e _ _ rfl) (O52.blk 0 rfl)) rfl rfl (fun _ => (O52.re [] rfl : Own Z0 W w51 [])) ?_
          refine at_take1 (v := .string (⟨(decR (v / 10) ++ [UInt8.ofNat (48 + v % 10)]).toArray⟩)) (i := 9) (listed' := #[true, true, true, true, true, true, true, true, true, true, false]) rfl (by kernel_rfl) (PQ.then_ PQ.body) (fun _ => (O52.re [] rfl : Own Z0 W w51 [])) (fun ρ e W => ex_addS (a := decR (v / 10)) (b := [UInt8.ofNat (48 + v % 10)]) (e _ _ rfl) (e _ _ rfl) (by simp only [List.length_append, List.length_cons, List.length_nil]; omega)) rfl rfl ?_
          exact at_sub2 (hout16 _ _ _ _ _ (N41 g26 w51 O52)) ⟨rfl, rfl, rfl, rfl, rfl, trivial⟩
      have N53 : ∀ (g20 : Nat) (w54 : World), Own Z0 W w54 [.blk g20 5 #[.int .u8 ((UInt8.ofNat (48 + v % 10)).toNat : Int)]] → AT14 4 #[true, true, false, true, true, true, true, true, false, false, false] 20 [(0, .int .i64 (v : Int)), (2, .string (⟨#[]⟩)), (3, .int .i64 (v : Int)), (4, .bool false), (11, .int .i64 ((v / 10 : Nat) : Int)), (17, .slice (some ⟨g20, 0, none⟩) 1 1)] w54 := by
        intro g20 w54 O55
        refine hin15 _ _ _ _ _ ?_
        refine at_branch [2, 8] (by kernel_rfl) ⟨?_, ?_, trivial⟩
        · skip
          refine stp_call (args := [.int .i64 ((v / 10 : Nat) : Int)]) (listed' := #[true, true, true, true, true, true, true, true, false, false, false]) rfl rfl in_83 rfl rfl rfl ?_
          refine (rdec_ n (v / 10) (by omega) (by omega) w54).mono ?_
          rintro _ w56 ⟨rfl, hb57⟩
          have O58 : Own Z0 W w56 [.blk g20 5 #[.int .u8 ((UInt8.ofNat (48 + v % 10)).toNat : Int)]] := O55.below hb57
          refine ⟨_, rfl, (fun _ => (O58.re [] rfl : Own Z0 W w56 [])), ?_⟩
          exact at_sub2 (hout16 _ _ _ _ _ (N50 g20 w56 O58)) ⟨rfl, rfl, rfl, rfl, rfl, rfl, trivial⟩
        · skip
          refine stp_val (v := .string (⟨([UInt8.ofNat (48 + v % 10)]).toArray⟩)) (listed' := #[true, true, false, true, true, true, true, true, true, false, false]) rfl rfl (fun ρ e => ex_conv1 (b := UInt8.ofNat (48 + v % 10)) (e _ _ rfl) (O55.blk 0 rfl)) rfl rfl (fun _ => (O55.re [] rfl : Own Z0 W w54 [])) ?_
          exact at_sub2 (hout16 _ _ _ _ _ (N44 g20 w54 O55)) ⟨rfl, rfl, rfl, rfl, rfl, rfl, trivial⟩
      have N59 : ∀  (w60 : World), Own Z0 W w60 [] → AT14 4 #[true, true, true, true, true, true, true, false, false, false, false] 20 [(0, .int .i64 (v : Int)), (2, .string (⟨#[]⟩)), (3, .int .i64 (v : Int)), (4, .bool false), (16, .int .u8 ((UInt8.ofNat (48 + v % 10)).toNat : Int)), (12, .string (⟨(decR (v / 10)).toArray⟩))] w60 := by
        intro  w60 O61
        refine hin15 _ _ _ _ _ ?_
        refine at_branch [7] (by kernel_rfl) ⟨?_, trivial⟩
        · skip
          obtain ⟨g62, w63, r64, O65, hg66, hs67⟩ := own_slice O61 el32 ze5 1 [(0, .int .u8 ((UInt8.ofNat (48 + v % 10)).toNat : Int))] (cs := #[.int .u8 ((UInt8.ofNat (48 + v % 10)).toNat : Int)]) (by decide) (by kernel_rfl)
          refine stp_val (v := .slice (some ⟨g62, 0, none⟩) 1 1) (listed' := #[true, true, true, true, true, true, true, true, false, false, false]) rfl rfl (fun ρ e => r64 ρ _ _ _ _ _ _ (e.parts rfl)) rfl rfl (fun _ => (O65.re [] rfl : Own Z0 W w63 [])) ?_
          exact at_sub2 (hout16 _ _ _ _ _ (N50 g62 w63 O65)) ⟨rfl, rfl, rfl, rfl, rfl, rfl, trivial⟩
      refine hin15 _ _ _ _ _ ?_
      refine at_take1 (v := .int .i64 (v : Int)) (i := 0) (listed' := #[true, false, false, false, false, false, false, false, false, false, false]) rfl (by kernel_rfl) (PQ.then_ PQ.body) (fun _ => O13) (fun ρ e W => ex_move (e _ _ rfl)) rfl rfl ?_
      refine at_take1 (v := .int .i64 ((v / 10 : Nat) : Int)) (i := 1) (listed' := #[true, true, false, false, false, false, false, false, false, false, false]) rfl (by kernel_rfl) (PQ.then_ PQ.body) (fun _ => O13) (fun ρ e W => ex_quo10 (e _ _ rfl) (e _ _ rfl) (by omega)) rfl rfl ?_
      refine at_take1 (v := .int .i64 (v : Int)) (i := 3) (listed' := #[true, true, false, true, false, false, false, false, false, false, false]) rfl (by kernel_rfl) (PQ.then_ PQ.body) (fun _ => O13) (fun ρ e W => ex_move (e _ _ rfl)) rfl rfl ?_
      refine at_take1 (v := .int .i64 ((v % 10 : Nat) : Int)) (i := 4) (listed' := #[true, true, false, true, true, false, false, false, false, false, false]) rfl (by kernel_rfl) (PQ.then_ PQ.body) (fun _ => O13) (fun ρ e W => ex_rem10 (e _ _ rfl) (e _ _ rfl) (by omega)) rfl rfl ?_
      refine at_take1 (v := .int .i64 ((48 + v % 10 : Nat) : Int)) (i := 5) (listed' := #[true, true, false, true, true, true, false, false, false, false, false]) rfl (by kernel_rfl) (PQ.then_ PQ.body) (fun _ => O13) (fun ρ e W => ex_arith (k := .i64) (u := 48) (v := ((v % 10 : Nat) : Int)) (e _ _ rfl) (e _ _ rfl) (congrArg some ((congrArg _ (by omega)).trans (wrap_in (u := ((48 + v % 10 : Nat) : Int)) (by omega) (by omega))))) rfl rfl ?_
      refine at_take1 (v := .int .u8 ((UInt8.ofNat (48 + v % 10)).toNat : Int)) (i := 6) (listed' := #[true, true, false, true, true, true, true, false, false, false, false]) rfl (by kernel_rfl) (PQ.then_ PQ.body) (fun _ => O13) (fun ρ e W => ex_conv35 (k := 48 + v % 10) (e _ _ rfl) (by omega)) rfl rfl ?_
      refine at_branch [2, 7] (by kernel_rfl) ⟨?_, ?_, trivial⟩
      · skip
        refine stp_call (args := [.int .i64 ((v / 10 : Nat) : Int)]) (listed' := #[true, true, true, true, true, true, true, false, false, false, false]) rfl rfl in_83 rfl rfl rfl ?_
        refine (rdec_ n (v / 10) (by omega) (by omega) W.drew).mono ?_
        rintro _ w68 ⟨rfl, hb69⟩
        have O70 : Own Z0 W w68 [] := O13.below hb69
        refine ⟨_, rfl, (fun _ => O70), ?_⟩
        exact at_sub2 (hout16 _ _ _ _ _ (N59  w68 O70)) ⟨rfl, rfl, rfl, rfl, rfl, rfl, trivial⟩
      · skip
        obtain ⟨g71, w72, r73, O74, hg75, hs76⟩ := own_slice O13 el32 ze5 1 [(0, .int .u8 ((UInt8.ofNat (48 + v % 10)).toNat : Int))] (cs := #[.int .u8 ((UInt8.ofNat (48 + v % 10)).toNat : Int)]) (by decide) (by kernel_rfl)
        refine stp_val (v := .slice (some ⟨g71, 0, none⟩) 1 1) (listed' := #[true, true, false, true, true, true, true, true, false, false, false]) rfl rfl (fun ρ e => r73 ρ _ _ _ _ _ _ (e.parts rfl)) rfl rfl (fun _ => (O74.re [] rfl : Own Z0 W w72 [])) ?_
        exact at_sub2 (hout16 _ _ _ _ _ (N53 g71 w72 O74)) ⟨rfl, rfl, rfl, rfl, rfl, rfl, trivial⟩
theorem rtext_ {ts : List VN} {D : Nat → Prop} {b o c0 : Nat} (hle : ts.length ≤ 255) : ∀ {i : Nat} {T : Tr} {vs : List Nat}, At ts idF i T vs → T.size ≤ 255 → ∀ (W : World), NodesD D W (.slice (some ⟨b, o, none⟩) ts.length c0) ts → (∀ k, D k → k < W.heap.size) →
    Calls Tryd.prog 71 #[.slice (some ⟨b, o, none⟩) ts.length c0, .int .i64 (i : Int)] W fun e w' => e = .returned (.string ⟨(textT T).toArray⟩) ∧ Below W.heap.size W w' := by
  intro i T vs hAt
  induction hAt with
  | @leaf i v hx h1 h2 =>
    intro hTs W hN hD
    have hi : i < ts.length := (List.getElem?_eq_some_iff.1 hx).1
    obtain ⟨vv, rfl⟩ : ∃ n : Nat, v = n := ⟨v.toNat, by omega⟩
    have hlf : lf (VN.mk (-1) (-1) (vv : Int)) = true := lf_leaf h1 h2
    have O0 : Own Z0 W W [.ro D (fun w => NodesD D w (.slice (some ⟨b, o, none⟩) ts.length c0) ts)] := (Own.start W).oldro (D := D) (p := (fun w => NodesD D w (.slice (some ⟨b, o, none⟩) ts.length c0) ts)) (nodesE_holds hN hD)
    refine sx_enter (args := [.slice (some ⟨b, o, none⟩) ts.length c0, .int .i64 (i : Int)]) Tryd.func71 rfl rfl (by simp) ?_
    refine cw_seq (fun FK1 K1 => ?_)
    refine cw_region ?_
    refine wl_val (v := .string (⟨#[]⟩)) (fun ρ e => ex_assign (e _ _ rfl)) rfl rfl ?_
    refine wl_nil ?_
    refine xw_next K1 ?_
    refine cw_seq (fun FK2 K2 => ?_)
    refine cw_region ?_
    refine wl_val (v := .slice (some ⟨b, o, none⟩) ts.length c0) (fun ρ e => ex_move (e _ _ rfl)) rfl rfl ?_
    refine wl_val (v := .int .i64 (i : Int)) (fun ρ e => ex_move (e _ _ rfl)) rfl rfl ?_
    refine wl_val (v := .pointer (some ⟨b, o + i * 3, none⟩)) (fun ρ e => ex_idx (q := o + i * 3) (i := i) el23 (e _ _ rfl) (e _ _ rfl) (by omega) (by omega)) rfl rfl ?_
    refine wl_val (v := .agg #[.int .i64 (-1), .int .i64 (-1), .int .i64 (vv : Int)]) (fun ρ e => ex_loadN (vs := [.int .i64 (-1), .int .i64 (-1), .int .i64 (vv : Int)]) ty38 (e _ _ rfl) rfl (cells3 (NodesD.c0 ((O0.ro 0 rfl : (fun w => NodesD D w (.slice (some ⟨b, o, none⟩) ts.length c0) ts) _) : NodesD _ _ _ _) hx) (NodesD.c1 ((O0.ro 0 rfl : (fun w => NodesD D w (.slice (some ⟨b, o, none⟩) ts.length c0) ts) _) : NodesD _ _ _ _) hx) (NodesD.c2 ((O0.ro 0 rfl : (fun w => NodesD D w (.slice (some ⟨b, o, none⟩) ts.length c0) ts) _) : NodesD _ _ _ _) hx))) rfl rfl ?_
    obtain ⟨g3, w4, r5, O6, hg7, hs8⟩ := own_alloc O0 38 ze38 rfl
    refine wl_val (v := .pointer (some ⟨g3, 0, none⟩)) (fun ρ e => r5 ρ _ _ _ _ _) rfl rfl ?_
    obtain ⟨w9, r10, O11, hs12⟩ := own_put (o := 0) (n := 3) O6 ty38 (.agg #[.int .i64 (-1), .int .i64 (-1), .int .i64 (vv : Int)]) [.int .i64 (-1), .int .i64 (-1), .int .i64 (vv : Int)] (cs' := #[.int .i64 (-1), .int .i64 (-1), .int .i64 (vv : Int)]) rfl rfl rfl (Nat.le_of_ble_eq_true rfl) rfl
    refine wl_none (fun ρ e => r10 ρ _ _ _ _ _ _ (e _ _ rfl) (e _ _ rfl)) rfl ?_
    refine wl_nil ?_
    refine xw_next K2 ?_
    refine cw_seq (fun FK13 K13 => ?_)
    refine cw_seq (fun FK14 K14 => ?_)
    refine cw_region ?_
    refine wl_val (v := .agg #[.int .i64 (-1), .int .i64 (-1), .int .i64 (vv : Int)]) (fun ρ e => ex_loadN (vs := [.int .i64 (-1), .int .i64 (-1), .int .i64 (vv : Int)]) ty38 (e _ _ rfl) rfl (O11.cells 0 0 rfl rfl)) rfl rfl ?_
    refine wl_call (args := [.agg #[.int .i64 (-1), .int .i64 (-1), .int .i64 (vv : Int)]]) in_72 rfl rfl rfl ?_
    refine (rleaf_ (VN.mk (-1) (-1) (vv : Int)) (W := w9)).mono ?_
    rintro _ w15 ⟨rfl, hb16⟩
    have O17 : Own Z0 W w15 [.blk g3 38 #[.int .i64 (-1), .int .i64 (-1), .int .i64 (vv : Int)], .ro D (fun w => NodesD D w (.slice (some ⟨b, o, none⟩) ts.length c0) ts)] := O11.below hb16
    refine ⟨_, rfl, ?_⟩
    refine wl_nil ?_
    refine xw_next K14 ?_
    refine cw_true (congrArg (fun b => some (Value.bool b)) hlf) ?_
    refine cw_seq (fun FK18 K18 => ?_)
    refine cw_region ?_
    refine wl_val (v := .pointer (some ⟨g3, 2, none⟩)) (fun ρ e => ex_field (q := 2) fi38_2 (e _ _ rfl) rfl) rfl rfl ?_
    refine wl_val (v := .int .i64 (vv : Int)) (fun ρ e => ex_load1 ty3 (e _ _ rfl) (O17.cell 0 2 rfl rfl)) rfl rfl ?_
    refine wl_call (args := [.int .i64 (vv : Int)]) in_83 rfl rfl rfl ?_
    refine (rdec_ (vv + 1) vv (by omega) (by omega) w15).mono ?_
    rintro _ w19 ⟨rfl, hb20⟩
    have O21 : Own Z0 W w19 [.blk g3 38 #[.int .i64 (-1), .int .i64 (-1), .int .i64 (vv : Int)], .ro D (fun w => NodesD D w (.slice (some ⟨b, o, none⟩) ts.length c0) ts)] := O17.below hb20
    refine ⟨_, rfl, ?_⟩
    refine wl_val (v := .string (⟨(decR vv).toArray⟩)) (fun ρ e => ex_assign (e _ _ rfl)) rfl rfl ?_
    refine wl_nil ?_
    refine xw_next K18 ?_
    refine cw_ret ?_
    refine xw_past (by intro h; cases h) ?_
    refine xw_ret (v := .string (⟨(decR vv).toArray⟩)) (fun T hT => res1 rfl T _ (hT 4 _ rfl)) ?_
    have hx2 : textT (.leaf (vv : Int)) = decR vv := by simp [textT, decR]
    rw [hx2]
    exact ⟨rfl, O21.old⟩
  | @node i a b2 a' b' A1 B1 va vb hx hf hA hB ihA ihB =>
    intro hTs W hN hD
    have hi : i < ts.length := (List.getElem?_eq_some_iff.1 hx).1
    injection hf with e1 e2
    subst e1 e2
    have hlf : lf (VN.mk (a : Int) (b2 : Int) 0) = false := lf_inner a b2
    have hla := textT_len A1
    have hlb := textT_len B1
    simp only [Tr.size] at hTs
    have O0 : Own Z0 W W [.ro D (fun w => NodesD D w (.slice (some ⟨b, o, none⟩) ts.length c0) ts)] := (Own.start W).oldro (D := D) (p := (fun w => NodesD D w (.slice (some ⟨b, o, none⟩) ts.length c0) ts)) (nodesE_holds hN hD)
    refine sx_enter (args := [.slice (some ⟨b, o, none⟩) ts.length c0, .int .i64 (i : Int)]) Tryd.func71 rfl rfl (by simp) ?_
    refine cw_seq (fun FK1 K1 => ?_)
    refine cw_region ?_
    refine wl_val (v := .string (⟨#[]⟩)) (fun ρ e => ex_assign (e _ _ rfl)) rfl rfl ?_
    refine wl_nil ?_
    refine xw_next K1 ?_
    refine cw_seq (fun FK2 K2 => ?_)
    refine cw_region ?_
    refine wl_val (v := .slice (some ⟨b, o, none⟩) ts.length c0) (fun ρ e => ex_move (e _ _ rfl)) rfl rfl ?_
    refine wl_val (v := .int .i64 (i : Int)) (fun ρ e => ex_move (e _ _ rfl)) rfl rfl ?_
    refine wl_val (v := .pointer (some ⟨b, o + i * 3, none⟩)) (fun ρ e => ex_idx (q := o + i * 3) (i := i) el23 (e _ _ rfl) (e _ _ rfl) (by omega) (by omega)) rfl rfl ?_
    refine wl_val (v := .agg #[.int .i64 (a : Int), .int .i64 (b2 : Int), .int .i64 0]) (fun ρ e => ex_loadN (vs := [.int .i64 (a : Int), .int .i64 (b2 : Int), .int .i64 0]) ty38 (e _ _ rfl) rfl (cells3 (NodesD.c0 ((O0.ro 0 rfl : (fun w => NodesD D w (.slice (some ⟨b, o, none⟩) ts.length c0) ts) _) : NodesD _ _ _ _) hx) (NodesD.c1 ((O0.ro 0 rfl : (fun w => NodesD D w (.slice (some ⟨b, o, none⟩) ts.length c0) ts) _) : NodesD _ _ _ _) hx) (NodesD.c2 ((O0.ro 0 rfl : (fun w => NodesD D w (.slice (some ⟨b, o, none⟩) ts.length c0) ts) _) : NodesD _ _ _ _) hx))) rfl rfl ?_
    obtain ⟨g3, w4, r5, O6, hg7, hs8⟩ := own_alloc O0 38 ze38 rfl
    refine wl_val (v := .pointer (some ⟨g3, 0, none⟩)) (fun ρ e => r5 ρ _ _ _ _ _) rfl rfl ?_
    obtain ⟨w9, r10, O11, hs12⟩ := own_put (o := 0) (n := 3) O6 ty38 (.agg #[.int .i64 (a : Int), .int .i64 (b2 : Int), .int .i64 0]) [.int .i64 (a : Int), .int .i64 (b2 : Int), .int .i64 0] (cs' := #[.int .i64 (a : Int), .int .i64 (b2 : Int), .int .i64 0]) rfl rfl rfl (Nat.le_of_ble_eq_true rfl) rfl
    refine wl_none (fun ρ e => r10 ρ _ _ _ _ _ _ (e _ _ rfl) (e _ _ rfl)) rfl ?_
    refine wl_nil ?_
    refine xw_next K2 ?_
    refine cw_seq (fun FK13 K13 => ?_)
    refine cw_seq (fun FK14 K14 => ?_)
    refine cw_region ?_
    refine wl_val (v := .agg #[.int .i64 (a : Int), .int .i64 (b2 : Int), .int .i64 0]) (fun ρ e => ex_loadN (vs := [.int .i64 (a : Int), .int .i64 (b2 : Int), .int .i64 0]) ty38 (e _ _ rfl) rfl (O11.cells 0 0 rfl rfl)) rfl rfl ?_
    refine wl_call (args := [.agg #[.int .i64 (a : Int), .int .i64 (b2 : Int), .int .i64 0]]) in_72 rfl rfl rfl ?_
    refine (rleaf_ (VN.mk (a : Int) (b2 : Int) 0) (W := w9)).mono ?_
    rintro _ w15 ⟨rfl, hb16⟩
    have O17 : Own Z0 W w15 [.blk g3 38 #[.int .i64 (a : Int), .int .i64 (b2 : Int), .int .i64 0], .ro D (fun w => NodesD D w (.slice (some ⟨b, o, none⟩) ts.length c0) ts)] := O11.below hb16
    refine ⟨_, rfl, ?_⟩
    refine wl_nil ?_
    refine xw_next K14 ?_
    refine cw_false (congrArg (fun b => some (Value.bool b)) hlf) ?_
    refine cw_skip ?_
    refine xw_next K13 ?_
    refine cw_seq (fun FK18 K18 => ?_)
    refine cw_drawn (fun X => Own Z0 W X [.blk g3 38 #[.int .i64 (a : Int), .int .i64 (b2 : Int), .int .i64 0], .ro D (fun w => NodesD D w (.slice (some ⟨b, o, none⟩) ts.length c0) ts)]) 12 [(0, 1), (1, 1), (2, 0), (6, 1), (7, 1), (8, 0), (3, 2), (4, 1), (5, 1), (9, 2), (10, 1), (11, 1), (12, 3)] (by kernel_rfl) (by kernel_rfl) (PQ.then_ PQ.body) (O17).drew ?_
    have O19 : Own Z0 W w15.drew [.blk g3 38 #[.int .i64 (a : Int), .int .i64 (b2 : Int), .int .i64 0], .ro D (fun w => NodesD D w (.slice (some ⟨b, o, none⟩) ts.length c0) ts)] := O17.drew
    refine wt1 (v := .slice (some ⟨b, o, none⟩) ts.length c0) rfl (fun ρ e W => ex_move (e _ _ rfl)) rfl rfl ?_
    refine wt1 (v := .pointer (some ⟨g3, 0, none⟩)) rfl (fun ρ e W => ex_field (q := 0) fi38_0 (e _ _ rfl) rfl) rfl rfl ?_
    refine wt0 (v := .int .i64 (a : Int)) rfl (fun ρ e W hW => ex_load1 ty3 (e _ _ rfl) (hW.cell 0 0 rfl rfl)) rfl rfl ?_
    refine wt1 (v := .slice (some ⟨b, o, none⟩) ts.length c0) rfl (fun ρ e W => ex_move (e _ _ rfl)) rfl rfl ?_
    refine wt1 (v := .pointer (some ⟨g3, 1, none⟩)) rfl (fun ρ e W => ex_field (q := 1) fi38_1 (e _ _ rfl) rfl) rfl rfl ?_
    refine wt0 (v := .int .i64 (b2 : Int)) rfl (fun ρ e W hW => ex_load1 ty3 (e _ _ rfl) (hW.cell 0 1 rfl rfl)) rfl rfl ?_
    refine wt2_call (args := [.slice (some ⟨b, o, none⟩) ts.length c0, .int .i64 (a : Int)]) rfl in_71 rfl rfl rfl ?_
    refine (ihA (by omega) w15.drew (hN.move (fun k hk => (O19.old).block k (hD k hk))) (fun k hk => Nat.lt_of_lt_of_le (hD k hk) (O19.old).size)).mono ?_
    rintro _ w20 ⟨rfl, hb21⟩
    have O22 : Own Z0 W w20 [.blk g3 38 #[.int .i64 (a : Int), .int .i64 (b2 : Int), .int .i64 0], .ro D (fun w => NodesD D w (.slice (some ⟨b, o, none⟩) ts.length c0) ts)] := O19.below hb21
    refine ⟨_, rfl, O22, ?_⟩
    refine wt1 (v := .string (⟨([40] ++ textT A1).toArray⟩)) rfl (fun ρ e W => ex_addS (a := [40]) (b := textT A1) (e _ _ rfl) (e _ _ rfl) (by simp only [List.length_append, List.length_cons, List.length_nil]; omega)) rfl rfl ?_
    refine wt1 (v := .string (⟨([40] ++ textT A1 ++ [32]).toArray⟩)) rfl (fun ρ e W => ex_addS (a := [40] ++ textT A1) (b := [32]) (e _ _ rfl) (e _ _ rfl) (by simp only [List.length_append, List.length_cons, List.length_nil]; omega)) rfl rfl ?_
    refine wt2_call (args := [.slice (some ⟨b, o, none⟩) ts.length c0, .int .i64 (b2 : Int)]) rfl in_71 rfl rfl rfl ?_
    refine (ihB (by omega) w20 (hN.move (fun k hk => (O22.old).block k (hD k hk))) (fun k hk => Nat.lt_of_lt_of_le (hD k hk) (O22.old).size)).mono ?_
    rintro _ w23 ⟨rfl, hb24⟩
    have O25 : Own Z0 W w23 [.blk g3 38 #[.int .i64 (a : Int), .int .i64 (b2 : Int), .int .i64 0], .ro D (fun w => NodesD D w (.slice (some ⟨b, o, none⟩) ts.length c0) ts)] := O22.below hb24
    refine ⟨_, rfl, O25, ?_⟩
    refine wt1 (v := .string (⟨([40] ++ textT A1 ++ [32] ++ textT B1).toArray⟩)) rfl (fun ρ e W => ex_addS (a := [40] ++ textT A1 ++ [32]) (b := textT B1) (e _ _ rfl) (e _ _ rfl) (by simp only [List.length_append, List.length_cons, List.length_nil]; omega)) rfl rfl ?_
    refine wt1 (v := .string (⟨([40] ++ textT A1 ++ [32] ++ textT B1 ++ [41]).toArray⟩)) rfl (fun ρ e W => ex_addS (a := [40] ++ textT A1 ++ [32] ++ textT B1) (b := [41]) (e _ _ rfl) (e _ _ rfl) (by simp only [List.length_append, List.length_cons, List.length_nil]; omega)) rfl rfl ?_
    refine wt3 (v := .string (⟨([40] ++ textT A1 ++ [32] ++ textT B1 ++ [41]).toArray⟩)) rfl (fun ρ e => ex_assign (e _ _ rfl)) rfl rfl ?_
    refine wt_nil ?_
    refine xw_next K18 ?_
    refine cw_ret ?_
    refine xw_ret (v := .string (⟨([40] ++ textT A1 ++ [32] ++ textT B1 ++ [41]).toArray⟩)) (fun T hT => res1 rfl T _ (hT 4 _ rfl)) ?_
    have hx2 : textT (.node A1 B1) = [40] ++ textT A1 ++ [32] ++ textT B1 ++ [41] := by simp [textT]
    rw [hx2]
    exact ⟨rfl, O25.old⟩
theorem rprint_ {W : World} {D : Nat → Prop} {V : Value} {ts : List VN} (hN : NodesD D W V ts) (hD : ∀ k, D k → k < W.heap.size) (hsz : ts.length ≤ 1000000) :
    Calls Tryd.prog 40 #[V] W fun e w' => e = .returned (.tuple #[.string ⟨(printOf ts).toArray⟩, .int .i64 (chkV ts)]) ∧ Below W.heap.size W w' := by
  obtain ⟨A, c0, rfl⟩ := hN.slice
  have O0 : Own Z0 W W [] := Own.start W
  refine sx_enter (args := [.slice A ts.length c0]) Tryd.func40 rfl rfl (by simp) ?_
  refine cw_seq (fun FK1 K1 => ?_)
  refine cw_region ?_
  refine wl_val (v := .string (⟨#[]⟩)) (fun ρ e => ex_assign (e _ _ rfl)) rfl rfl ?_
  refine wl_val (v := .int .i64 0) (fun ρ e => ex_assign (e _ _ rfl)) rfl rfl ?_
  refine wl_nil ?_
  refine xw_next K1 ?_
  refine cw_seq (fun FK2 K2 => ?_)
  refine cw_seq (fun FK3 K3 => ?_)
  refine cw_region ?_
  refine wl_val (v := .slice A ts.length c0) (fun ρ e => ex_move (e _ _ rfl)) rfl rfl ?_
  refine wl_call (args := [.slice A ts.length c0]) in_41 rfl rfl rfl ?_
  refine (rcheck_ (hN.move (fun k hk => (O0.old).block k (hD k hk))) (fun k hk => Nat.lt_of_lt_of_le (hD k hk) (O0.old).size) hsz).mono ?_
  rintro _ w4 ⟨rfl, hb5⟩
  have O6 : Own Z0 W w4 [] := O0.below hb5
  refine ⟨_, rfl, ?_⟩
  by_cases c7 : (chkV ts) ≠ 0
  · skip
    refine wl_val (v := .bool true) (fun ρ e => ex_cmp (u := (chkV ts)) (v := 0) (e _ _ rfl) (e _ _ rfl) (neq1 (by omega))) rfl rfl ?_
    refine wl_nil ?_
    refine xw_next K3 ?_
    refine cw_true rfl ?_
    refine cw_seq (fun FK8 K8 => ?_)
    refine cw_region ?_
    refine wl_val (v := .string (⟨#[]⟩)) (fun ρ e => ex_assign (e _ _ rfl)) rfl rfl ?_
    refine wl_val (v := .int .i64 1) (fun ρ e => ex_assign (e _ _ rfl)) rfl rfl ?_
    refine wl_nil ?_
    refine xw_next K8 ?_
    refine cw_ret ?_
    refine xw_past (by intro h; cases h) ?_
    refine xw_ret (v := .tuple #[.string (⟨#[]⟩), .int .i64 1]) (fun T hT => res2 rfl T _ (hT 2 _ rfl) (hT 3 _ rfl)) ?_
    have hno : okT ts = false := chk_no (by omega)
    exact ⟨by unfold chkV printOf; rw [hno]; rfl, O6.old⟩
  · skip
    have hok : okT ts = true := chk_ok (by omega)
    have hV := okT_val hok
    have hpos := hV.pos
    have hle := hV.le
    obtain ⟨vs, hAt⟩ := tree_at hok
    obtain ⟨b, o, c', hv, hDb⟩ := hN.form hpos
    injection hv with hA _ hc
    subst hA hc
    refine wl_val (v := .bool false) (fun ρ e => ex_cmp (u := (chkV ts)) (v := 0) (e _ _ rfl) (e _ _ rfl) (neq0 (by omega))) rfl rfl ?_
    refine wl_nil ?_
    refine xw_next K3 ?_
    refine cw_false rfl ?_
    refine cw_skip ?_
    refine xw_next K2 ?_
    refine cw_seq (fun FK9 K9 => ?_)
    refine cw_region ?_
    refine wl_val (v := .slice (some ⟨b, o, none⟩) ts.length c0) (fun ρ e => ex_move (e _ _ rfl)) rfl rfl ?_
    refine wl_val (v := .slice (some ⟨b, o, none⟩) ts.length c0) (fun ρ e => ex_move (e _ _ rfl)) rfl rfl ?_
    refine wl_val (v := .int .i64 ((ts.length : Nat) : Int)) (fun ρ e => ex_len el23 (e _ _ rfl)) rfl rfl ?_
    refine wl_val (v := .int .i64 ((ts.length - 1 : Nat) : Int)) (fun ρ e => ex_arith (k := .i64) (u := ((ts.length : Nat) : Int)) (v := 1) (e _ _ rfl) (e _ _ rfl) (congrArg some ((congrArg _ (show _ = ((ts.length - 1 : Nat) : Int) by omega)).trans (wrap_in (by omega) (by omega))))) rfl rfl ?_
    refine wl_call (args := [.slice (some ⟨b, o, none⟩) ts.length c0, .int .i64 ((ts.length - 1 : Nat) : Int)]) in_71 rfl rfl rfl ?_
    refine (rtext_ hle hAt (by have := hAt.small hV; omega) _ (hN.move (fun k hk => (O6.old).block k (hD k hk))) (fun k hk => Nat.lt_of_lt_of_le (hD k hk) (O6.old).size)).mono ?_
    rintro _ w10 ⟨rfl, hb11⟩
    have O12 : Own Z0 W w10 [] := O6.below hb11
    refine ⟨_, rfl, ?_⟩
    refine wl_val (v := .string (⟨(textT (treeOf ts)).toArray⟩)) (fun ρ e => ex_assign (e _ _ rfl)) rfl rfl ?_
    refine wl_val (v := .int .i64 0) (fun ρ e => ex_assign (e _ _ rfl)) rfl rfl ?_
    refine wl_nil ?_
    refine xw_next K9 ?_
    refine cw_ret ?_
    refine xw_ret (v := .tuple #[.string (⟨(textT (treeOf ts)).toArray⟩), .int .i64 0]) (fun T hT => res2 rfl T _ (hT 2 _ rfl) (hT 3 _ rfl)) ?_
    exact ⟨by unfold chkV printOf; rw [hok]; rfl, O12.old⟩
end Go.Proofs.YtpeoodkepjhhiaaDoor
namespace Go.Proofs.YtpeoodkepjhhiaaDoor

def takeN : List UInt8 → Int → Int × List UInt8
  | [], n => (n, [])
  | c :: r, n => if isD c && decide (n < 1000) then takeN r (10 * n + ((c.toNat : Int) - 48)) else (n, c :: r)
def scanR : Nat → List UInt8 → List VN → List Int → Option (List VN)
  | 0, _, _, _ => none
  | _ + 1, [], t, _ => some t
  | f + 1, c :: r, t, o =>
    if isD c then scanR f (takeN (c :: r) 0).2 (t ++ [⟨-1, -1, (takeN (c :: r) 0).1⟩]) (o ++ [(t.length : Int)])
    else if c.toNat = 41 then
      if o.length < 2 then none else scanR f r (t ++ [⟨o.getD (o.length - 2) 0, o.getD (o.length - 1) 0, 0⟩]) (o.take (o.length - 2) ++ [(t.length : Int)])
    else scanR f r t o
def rparseOf (l : List UInt8) : List VN × Int := match scanR (l.length + 1) l [] [] with
  | none => ([], 5)
  | some t => if okT t && decide (printOf t = l) then (t, 0) else ([], 5)
theorem takeN_stop {c : UInt8} {r : List UInt8} {n : Int} (h : c.toNat < 48 ∨ 57 < c.toNat ∨ 1000 ≤ n) : takeN (c :: r) n = (n, c :: r) := by
  have hd : (isD c && decide (n < 1000)) = false := by
    rw [Bool.eq_false_iff]
    intro q
    simp only [isD, Bool.and_eq_true, decide_eq_true_eq] at q
    omega
  unfold takeN
  rw [hd]
  rfl
theorem takeN_go {c : UInt8} {r : List UInt8} {n : Int} (h1 : 48 ≤ c.toNat) (h2 : c.toNat ≤ 57) (h3 : n < 1000) : takeN (c :: r) n = takeN r (10 * n + ((c.toNat : Int) - 48)) := by
  conv => lhs; unfold takeN
  simp [isD, h1, h2, h3]
theorem takeN_end {r : List UInt8} (h : endD r = true) (n : Int) : takeN r n = (n, r) := by
  cases r with
  | nil => rfl
  | cons c r =>
    have hd : isD c = false := by simpa [endD] using h
    unfold takeN
    rw [hd]
    rfl
theorem takeN_d {k : Nat} (h : k < 10) {r : List UInt8} {n : Int} (hn : n < 1000) : takeN (UInt8.ofNat (48 + k) :: r) n = takeN r (10 * n + (k : Int)) := by
  have e := u8_toNat h
  rw [takeN_go (by omega) (by omega) hn, e, show ((48 + k : Nat) : Int) - 48 = (k : Int) by omega]
theorem takeN_dec {v : Int} (h1 : 1 ≤ v) (h2 : v ≤ 128) {r : List UInt8} (hr : endD r = true) : takeN (dec v ++ r) 0 = (v, r) := by
  unfold dec
  split
  · rw [List.singleton_append, takeN_d (by omega) (by omega), takeN_end hr, show (10 * (0 : Int) + (v.toNat : Int)) = v by omega]
  · split
    · simp only [List.cons_append, List.nil_append]
      rw [takeN_d (by omega) (by omega), takeN_d (by omega) (by omega), takeN_end hr]
      rw [show (10 * (10 * (0 : Int) + ((v.toNat / 10 : Nat) : Int)) + ((v.toNat % 10 : Nat) : Int)) = v by omega]
    · simp only [List.cons_append, List.nil_append]
      rw [takeN_d (by omega) (by omega), takeN_d (by omega) (by omega), takeN_d (by omega) (by omega), takeN_end hr]
      rw [show (10 * (10 * (10 * (0 : Int) + ((v.toNat / 100 : Nat) : Int)) + ((v.toNat / 10 % 10 : Nat) : Int)) + ((v.toNat % 10 : Nat) : Int)) = v by omega]
theorem dec_first {v : Int} (h1 : 1 ≤ v) (h2 : v ≤ 128) : ∃ c r, dec v = c :: r ∧ isD c = true := by
  unfold dec
  split
  · exact ⟨_, _, rfl, isD_d (by omega)⟩
  · split
    · exact ⟨_, _, rfl, isD_d (by omega)⟩
    · exact ⟨_, _, rfl, isD_d (by omega)⟩
section
variable {c : UInt8} {r : List UInt8} {t : List VN} {o : List Int} {f : Nat}
theorem scanR_dig (h : isD c = true) : scanR (f + 1) (c :: r) t o = scanR f (takeN (c :: r) 0).2 (t ++ [⟨-1, -1, (takeN (c :: r) 0).1⟩]) (o ++ [(t.length : Int)]) := by
  conv => lhs; unfold scanR
  rw [if_pos h]
theorem scanR_close {u v : Int} (h : isD c = false) (hc : c.toNat = 41) (ho : 2 ≤ o.length) (hu : o[o.length - 2]? = some u) (hv : o[o.length - 1]? = some v) : scanR (f + 1) (c :: r) t o = scanR f r (t ++ [⟨u, v, 0⟩]) (o.take (o.length - 2) ++ [(t.length : Int)]) := by
  conv => lhs; unfold scanR
  rw [if_neg (by rw [h]; decide), if_pos hc, if_neg (by omega), List.getD_eq_getElem?_getD, List.getD_eq_getElem?_getD, hu, hv]
  rfl
theorem scanR_few (h : isD c = false) (hc : c.toNat = 41) (ho : o.length < 2) : scanR (f + 1) (c :: r) t o = none := by
  unfold scanR
  rw [if_neg (by rw [h]; decide), if_pos hc, if_pos ho]
theorem scanR_skip (h : isD c = false) (hc : c.toNat ≠ 41) : scanR (f + 1) (c :: r) t o = scanR f r t o := by
  conv => lhs; unfold scanR
  rw [if_neg (by rw [h]; decide), if_neg hc]
end
theorem scanR_text : ∀ (T : Tr), (∀ v ∈ T.leaves, 1 ≤ v ∧ v ≤ 128) → ∀ (r : List UInt8) (t : List VN) (o : List Int) (f : Nat), endD r = true → (textT T ++ r).length < f → ∃ f', r.length < f' ∧ scanR f (textT T ++ r) t o = scanR f' r (t ++ post T t.length) (o ++ [((t.length + T.size - 1 : Nat) : Int)])
  | .leaf v, h, r, t, o, f, hr, hf => by
    obtain ⟨h1, h2⟩ := h v (by simp [Tr.leaves])
    obtain ⟨f, rfl⟩ : ∃ m, f = m + 1 := ⟨f - 1, by omega⟩
    simp only [textT] at hf ⊢
    obtain ⟨c, q, hd, hc⟩ := dec_first h1 h2
    refine ⟨f, by rw [hd] at hf; simp only [List.cons_append, List.length_cons, List.length_append] at hf; omega, ?_⟩
    have e := takeN_dec h1 h2 hr
    rw [hd] at e ⊢
    rw [List.cons_append, scanR_dig hc, ← List.cons_append, e]
    rfl
  | .node a b, h, r, t, o, f, hr, hf => by
    have ha := scanR_text a (fun v hv => h v (by simp [Tr.leaves, hv]))
    have hb := scanR_text b (fun v hv => h v (by simp [Tr.leaves, hv]))
    have e : textT (.node a b) ++ r = 40 :: (textT a ++ (32 :: (textT b ++ (41 :: r)))) := by simp [textT]
    rw [e] at hf ⊢
    obtain ⟨f, rfl⟩ : ∃ m, f = m + 1 := ⟨f - 1, by omega⟩
    rw [scanR_skip (by decide) (by decide)]
    obtain ⟨f1, h1, e1⟩ := ha (32 :: (textT b ++ (41 :: r))) t o f rfl (by simpa using hf)
    rw [e1]
    obtain ⟨f1, rfl⟩ : ∃ m, f1 = m + 1 := ⟨f1 - 1, by omega⟩
    rw [scanR_skip (by decide) (by decide)]
    obtain ⟨f2, h2, e2⟩ := hb (41 :: r) (t ++ post a t.length) (o ++ [((t.length + a.size - 1 : Nat) : Int)]) f1 rfl (by simpa using h1)
    rw [e2]
    obtain ⟨f2, rfl⟩ : ∃ m, f2 = m + 1 := ⟨f2 - 1, by omega⟩
    refine ⟨f2, by simpa using h2, ?_⟩
    have h41 : (41 : UInt8).toNat = 41 := rfl
    rw [scanR_close (u := ((t.length + a.size - 1 : Nat) : Int)) (v := (((t ++ post a t.length).length + b.size - 1 : Nat) : Int)) (by decide) h41 (by simp) (by simp) (by simp)]
    have hl : (t ++ post a t.length).length = t.length + a.size := by rw [List.length_append, post_len]
    have hs := a.size_pos
    have hs2 := b.size_pos
    congr 1
    · rw [hl]
      simp only [post, List.append_assoc]
    · simp only [List.length_append, post_len, List.length_cons, List.length_nil, Tr.size]
      rw [show o.length + (0 + 1) + (0 + 1) - 2 = o.length by omega, List.append_assoc, List.take_left]
      rw [show t.length + a.size + b.size = t.length + (a.size + b.size + 1) - 1 by omega]
theorem textT_len3 : ∀ T : Tr, (textT T).length ≤ 3 * T.size
  | .leaf v => by have := dec_len v; simp only [textT, Tr.size]; omega
  | .node a b => by
    have h1 := textT_len3 a
    have h2 := textT_len3 b
    simp only [textT, Tr.size, List.length_cons, List.length_append, List.length_nil]
    omega
/-- A text that is printed again is read as its tree's nodes, by both. -/
theorem both_read {l : List UInt8} {t : List VN} (hok : okT t = true) (hp : printOf t = l) : scanP l [] [] 0 = some (post (treeOf t) 0) ∧ scanR (l.length + 1) l [] [] = some (post (treeOf t) 0) ∧ l.length ≤ 1024 := by
  obtain ⟨vs, hA⟩ := tree_at hok
  have hV := okT_val hok
  have hl : l = textT (treeOf t) := by rw [← hp]; unfold printOf; rw [if_pos hok]
  have hlv : ∀ v ∈ (treeOf t).leaves, 1 ≤ v ∧ v ≤ 128 := fun v hv => ⟨(hA.leafAt v hv).1, (hA.leafAt v hv).2.1⟩
  have h1 := scan_text (treeOf t) hlv [] [] [] rfl
  obtain ⟨f', h2, h3⟩ := scanR_text (treeOf t) hlv [] [] [] (l.length + 1) rfl (by rw [List.append_nil, ← hl]; omega)
  rw [List.append_nil, ← hl] at h1 h3
  refine ⟨h1, ?_, ?_⟩
  · rw [h3]
    obtain ⟨f', rfl⟩ : ∃ m, f' = m + 1 := ⟨f' - 1, by simp at h2; omega⟩
    rfl
  · rw [hl]
    have := textT_len3 (treeOf t)
    have := hA.small hV
    have := hV.le
    omega
theorem rparse_eq (l : List UInt8) : rparseOf l = parseOf l := by
  unfold rparseOf
  cases hr : scanR (l.length + 1) l [] [] with
  | none =>
    dsimp only
    unfold parseOf
    split
    · rfl
    · cases hs : scanP l [] [] 0 with
      | none => rfl
      | some t =>
        dsimp only
        split
        · rename_i h
          simp only [Bool.and_eq_true, decide_eq_true_eq] at h
          have := (both_read h.1 h.2).2.1
          rw [hr] at this; cases this
        · rfl
  | some t =>
    dsimp only
    split
    · rename_i h
      simp only [Bool.and_eq_true, decide_eq_true_eq] at h
      obtain ⟨h1, h2, h3⟩ := both_read h.1 h.2
      rw [hr] at h2
      injection h2 with h2
      unfold parseOf
      rw [if_neg (by omega), h1, ← h2]
      simp [h.1, h.2]
    · rename_i h
      unfold parseOf
      split
      · rfl
      · cases hs : scanP l [] [] 0 with
        | none => rfl
        | some t' =>
          dsimp only
          split
          · rename_i h'
            simp only [Bool.and_eq_true, decide_eq_true_eq] at h'
            obtain ⟨h1, h2, _⟩ := both_read h'.1 h'.2
            rw [hr] at h2
            rw [hs] at h1
            injection h2 with h2
            injection h1 with h1
            exact absurd (by rw [h2, ← h1]; simp [h'.1, h'.2]) h
          · rfl
end Go.Proofs.YtpeoodkepjhhiaaDoor
