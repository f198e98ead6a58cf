/-
  Lemmas and contracts, joined: BitE Claw6 Long.
-/
import Derived.Test.YtbemhgojfehnjaaDoorPk8
import Derived.Test.YtbemhgojfehnjaaDoorPk9
import Derived.Test.YtbemhgojfehnjaaDoorPk3
namespace Go.Proofs.YtbemhgojfehnjaaDoor
open Go Go.RowKit
section
variable {ρ : Operand → Value} {d : Option Tmp} {x y : Operand} {t : TypeId} {pos : String} {aft : Array Edge} {gd : Option (Nat × Bool)} {w : World} {T1 : TypeId}
theorem ex_conv8 {a : Nat} (hx : ρ x = .int .u8 (a : Int)) (h : a ≤ 255) : (execOp ρ ⟨d, .convert 5 3 x, t, pos, aft, gd⟩).run Tryd.prog w = .ok (.value (.int .i64 (a : Int))) w := by
  have e : IntKind.i64.wrap (a : Int) = (a : Int) := wrap_in (by omega) (by omega)
  simp [go_sem, hx, e]
theorem ex_convU {a : Nat} (hx : ρ x = .int .i64 (a : Int)) (h : a ≤ 255) : (execOp ρ ⟨d, .convert 3 48 x, t, pos, aft, gd⟩).run Tryd.prog w = .ok (.value (.int .u64 (a : Int))) w := by
  have e : IntKind.u64.wrap (a : Int) = (a : Int) := by rw [IntKind.wrap_u64]; omega
  simp [go_sem, hx, e]
theorem ex_rem {a b q : Nat} (hx : ρ x = .int .i64 (a : Int)) (hy : ρ y = .int .i64 (b : Int)) (h : 0 < b) (hq : a % b = q) : (execOp ρ ⟨d, .binOp .rem 3 x y T1, t, pos, aft, gd⟩).run Tryd.prog w = .ok (.value (.int .i64 ((q : Nat) : Int))) w := by
  subst hq
  have e2 : (a : Int).tmod (b : Int) = ((a % b : Nat) : Int) := by simp [Int.tmod_eq_emod_of_nonneg]
  have hb : ¬ b = 0 := by omega
  simp [go_sem, hx, hy, e2, hb]
theorem ex_quo {a b q : Nat} (hx : ρ x = .int .i64 (a : Int)) (hy : ρ y = .int .i64 (b : Int)) (h : 0 < b) (ha : a ≤ 255) (hq : a / b = q) : (execOp ρ ⟨d, .binOp .quo 3 x y T1, t, pos, aft, gd⟩).run Tryd.prog w = .ok (.value (.int .i64 ((q : Nat) : Int))) w := by
  subst hq
  have e2 : (a : Int).tdiv (b : Int) = ((a / b : Nat) : Int) := by simp [Int.tdiv_eq_ediv_of_nonneg]
  have hb : ¬ b = 0 := by omega
  have h3 : a / b ≤ a := Nat.div_le_self _ _
  generalize hz : a / b = z at e2 h3 ⊢
  have e : IntKind.i64.wrap (z : Int) = (z : Int) := wrap_in (by omega) (by omega)
  simp [execOp, hx, hy, eqGuard, binOp, Op.intDiv, e2, hb, e]
theorem ex_idxA {g i q : Nat} (hx : ρ x = .pointer (some ⟨g, 0, none⟩)) (hy : ρ y = .int .i64 (i : Int)) (h : i < 2) (hq : i = q) : (execOp ρ ⟨d, .indexAddr 27 x y, t, pos, aft, gd⟩).run Tryd.prog w = .ok (.value (.pointer (some ⟨g, q, none⟩))) w := by
  subst hq
  have h2 : (Tryd.prog.info? 25).map (·.size) = some 1 := by kernel_rfl
  simp [execOp, Instr.indexAt, Instr.sureAddr, hx, hy, asIntOf, run_underlying Tryd.underlying27, h, run_size h2, addr_plus]
theorem ex_shr {A : BitVec 64} {k : Nat} (hx : ρ x = .int .u64 (A.toNat : Int)) (hy : ρ y = .int .u64 (k : Int)) (hk : k < 64) : (execOp ρ ⟨d, .binOp .shr 25 x y T1, t, pos, aft, gd⟩).run Tryd.prog w = .ok (.value (.int .u64 ((A >>> k).toNat : Int))) w := by
  have h0 : ¬ ((k : Int) < 0) := by omega
  have hm : min k IntKind.u64.bits = k := by
    have : IntKind.u64.bits = 64 := rfl
    omega
  have hr : (A.toNat : Int).fdiv (2 ^ k) = ((A >>> k).toNat : Int) := by
    rw [BitVec.toNat_ushiftRight, Nat.shiftRight_eq_div_pow, Int.fdiv_eq_ediv_of_nonneg _ (Int.le_of_lt (Int.pow_pos (by decide)))]
    simp
  obtain ⟨Z, hZ⟩ : ∃ Z : Int, Z = ((A >>> k).toNat : Int) := ⟨_, rfl⟩
  rw [← hZ] at hr ⊢
  have hs : Op.shift .shr .u64 (A.toNat : Int) .u64 (k : Int) = pure (.int .u64 Z) := by
    unfold Op.shift
    rw [if_neg h0]
    simp only [Int.toNat_natCast, hm, hr]
  have hb : binOp .shr 25 (.int .u64 (A.toNat : Int)) (.int .u64 (k : Int)) = pure (.int .u64 Z) := hs
  simp [execOp, hx, hy, eqGuard, hb]
theorem ex_and1 {A : BitVec 64} (hx : ρ x = .int .u64 (A.toNat : Int)) (hy : ρ y = .int .u64 1) : (execOp ρ ⟨d, .binOp .and 25 x y T1, t, pos, aft, gd⟩).run Tryd.prog w = .ok (.value (.int .u64 ((A &&& 1#64).toNat : Int))) w := by
  have h3 : IntKind.u64.wrap ((A &&& 1#64).toNat : Int) = ((A &&& 1#64).toNat : Int) := u64_wrap_bv _
  obtain ⟨Z, hZ⟩ : ∃ Z : Int, Z = ((A &&& 1#64).toNat : Int) := ⟨_, rfl⟩
  have hs : Op.intBits .and .u64 (A.toNat : Int) 1 = pure (.int .u64 Z) := by
    show pure (Value.int .u64 (IntKind.u64.wrap ((BitVec.ofInt 64 (A.toNat : Int) &&& BitVec.ofInt 64 1).toNat : Int))) = _
    rw [ofInt_bv, hZ]
    exact congrArg (fun z => pure (Value.int .u64 z)) h3
  rw [← hZ]
  simp [execOp, hx, hy, eqGuard, binOp, hs]
theorem ex_shl1 {k : Nat} (hx : ρ x = .int .u64 1) (hy : ρ y = .int .u64 (k : Int)) (hk : k < 64) : (execOp ρ ⟨d, .binOp .shl 25 x y T1, t, pos, aft, gd⟩).run Tryd.prog w = .ok (.value (.int .u64 ((1#64 <<< k).toNat : Int))) w := by
  have h0 : ¬ ((k : Int) < 0) := by omega
  have hm : min k IntKind.u64.bits = k := by
    have : IntKind.u64.bits = 64 := rfl
    omega
  have hr := pow_bv k hk
  simp [execOp, hx, hy, eqGuard, binOp, Op.shift, h0, hm, hr]
theorem ex_xor {A B : BitVec 64} (hx : ρ x = .int .u64 (A.toNat : Int)) (hy : ρ y = .int .u64 (B.toNat : Int)) : (execOp ρ ⟨d, .binOp .xor 25 x y T1, t, pos, aft, gd⟩).run Tryd.prog w = .ok (.value (.int .u64 ((A ^^^ B).toNat : Int))) w := by
  have h3 : IntKind.u64.wrap ((A ^^^ B).toNat : Int) = ((A ^^^ B).toNat : Int) := u64_wrap_bv _
  obtain ⟨Z, hZ⟩ : ∃ Z : Int, Z = ((A ^^^ B).toNat : Int) := ⟨_, rfl⟩
  have hs : Op.intBits .xor .u64 (A.toNat : Int) (B.toNat : Int) = pure (.int .u64 Z) := by
    show pure (Value.int .u64 (IntKind.u64.wrap ((BitVec.ofInt 64 (A.toNat : Int) ^^^ BitVec.ofInt 64 (B.toNat : Int)).toNat : Int))) = _
    rw [ofInt_bv, ofInt_bv, hZ]
    exact congrArg (fun z => pure (Value.int .u64 z)) h3
  rw [← hZ]
  simp [execOp, hx, hy, eqGuard, binOp, hs]
end
theorem bitcmp (A : BitVec 64) (k : Nat) : cmpB .eql (((A >>> k) &&& 1#64).toNat : Int) 1 = some (A.getLsbD k) := by
  have h : ((A >>> k) &&& 1#64).toNat = (A.toNat / 2 ^ k) % 2 := by
    rw [BitVec.toNat_and, BitVec.toNat_ushiftRight, Nat.shiftRight_eq_div_pow]
    exact Nat.and_one_is_mod _
  have h2 : A.getLsbD k = decide ((A.toNat / 2 ^ k) % 2 = 1) := by
    rw [BitVec.getLsbD, Nat.testBit, Nat.shiftRight_eq_div_pow, Nat.one_and_eq_mod_two]
    rcases Nat.mod_two_eq_zero_or_one (A.toNat / 2 ^ k) with h | h <;> rw [h] <;> rfl
  obtain ⟨z, hz⟩ : ∃ z, z = A.toNat / 2 ^ k := ⟨_, rfl⟩
  rw [← hz] at h h2
  rw [h2, h]
  simp only [cmpB, Option.some.injEq, decide_eq_decide]
  rcases Nat.mod_two_eq_zero_or_one z with e | e <;> rw [e] <;> decide
/-- The set with the variable q + 1 turned. -/
def flip (s : VS) (q : Nat) : VS := if q < 64 then ⟨s.a ^^^ (1#64 <<< q), s.b⟩ else ⟨s.a, s.b ^^^ (1#64 <<< (q - 64))⟩
theorem flip_eq (s : VS) (q : Nat) (hq : q < 128) : flip s q = s.xor (VS.bit ((q : Int) + 1)) := by
  unfold flip VS.xor VS.bit
  by_cases h : q < 64
  · rw [if_pos h, if_pos (by omega)]
    have : ((q : Int) + 1).toNat - 1 = q := by omega
    simp [this]
  · rw [if_neg h, if_neg (by omega), if_pos (by omega)]
    have : ((q : Int) + 1).toNat - 65 = q - 64 := by omega
    simp [this]
theorem flip_has (s : VS) (q : Nat) (hq : q < 128) (v : Int) (hv : v ≠ (q : Int) + 1) : (flip s q).has v = s.has v := by
  rw [flip_eq s q hq, VS.has_xor, VS.has_bit, decide_eq_false hv]
  simp
theorem flip_sub (s : VS) (n q : Nat) (hq : q < n) (hn : n ≤ 128) : (flip s q).sub (VS.all n) = s.sub (VS.all n) := by
  rw [Bool.eq_iff_iff, VS.sub_iff, VS.sub_iff]
  constructor
  · intro h v h1 h2 h3
    by_cases e : v = (q : Int) + 1
    · rw [VS.has_all]; simp; omega
    · exact h v h1 h2 (by rw [flip_has s q (by omega) v e]; exact h3)
  · intro h v h1 h2 h3
    by_cases e : v = (q : Int) + 1
    · rw [VS.has_all]; simp; omega
    · exact h v h1 h2 (by rw [← flip_has s q (by omega) v e]; exact h3)
theorem vlist_mem : ∀ {gs : List Gate} {g : Gate}, g ∈ gs → g.kind = 2 → litVar g.lit ∈ vlist gs
  | [], _, h, _ => by cases h
  | x :: l, g, h, h2 => by
    unfold vlist
    rcases List.mem_cons.1 h with rfl | h
    · rw [if_pos h2]; exact List.mem_cons_self ..
    · split
      · exact List.mem_cons_of_mem _ (vlist_mem h h2)
      · exact vlist_mem h h2
theorem flip_value {gs : List Gate} {g : Gate} {s : VS} {n q : Nat} (hc : checkOf n gs = 0) (hq : q < n) (hn : n ≤ 128) (hv : (varsOf n gs).has ((q : Int) + 1) = false) (hg : g ∈ gs) (v : List Bool) : valueOf g (flip s q) v = valueOf g s v := by
  by_cases h2 : g.kind = 2
  · unfold valueOf
    rw [if_neg (by omega), if_pos h2, if_neg (by omega), if_pos h2]
    unfold litHolds
    have hm := vlist_mem hg h2
    have hne : litVar g.lit ≠ (q : Int) + 1 := by
      intro e
      rw [e] at hm
      unfold varsOf at hv
      rw [if_neg (by omega), VS.has_ofList _ _ (by omega) (by omega)] at hv
      have : (vlist gs).contains ((q : Int) + 1) = true := by simpa using hm
      rw [this] at hv
      cases hv
    rw [flip_has s q (by omega) _ hne]
  · unfold valueOf
    rw [if_neg h2, if_neg h2]
theorem flip_vals {gs : List Gate} {s : VS} {n q : Nat} (hc : checkOf n gs = 0) (hq : q < n) (hn : n ≤ 128) (hv : (varsOf n gs).has ((q : Int) + 1) = false) : ∀ k, valsTo gs (flip s q) k = valsTo gs s k
  | 0 => rfl
  | k + 1 => by
    unfold valsTo
    rw [flip_vals hc hq hn hv k]
    cases h : gs[k]? with
    | none => rfl
    | some g => 
      simp only []
      rw [flip_value hc hq hn hv (List.mem_of_getElem? h)]
theorem flip_eval {gs : List Gate} {s : VS} {n q : Nat} (hc : checkOf n gs = 0) (hq : q < n) (hn : n ≤ 128) (hv : (varsOf n gs).has ((q : Int) + 1) = false) : evalOf n gs (flip s q) = evalOf n gs s := by
  unfold evalOf valOf
  rw [flip_sub s n q hq hn, flip_vals hc hq hn hv]
theorem has_lo' (s : VS) (q : Nat) (hq : q < 64) : s.has ((q : Int) + 1) = s.a.getLsbD q := by
  rw [has_lo s _ (by omega) (by omega)]
  congr 1
theorem has_hi' (s : VS) (q : Nat) (hq : 64 ≤ q) (h2 : q < 128) : s.has ((q : Int) + 1) = s.b.getLsbD (q - 64) := by
  rw [has_hi s _ (by omega) (by omega)]
  congr 1
end Go.Proofs.YtbemhgojfehnjaaDoor
namespace Go.Proofs.YtbemhgojfehnjaaDoor
open Go Go.RowKit
theorem u8_in {x : Int} (h : (Lit.int .u8 x).wf = true) : 0 ≤ x ∧ x ≤ 255 := by
  have h1 : IntKind.u8.min = 0 := by decide
  have h2 : IntKind.u8.max = 255 := by decide
  simp only [Lit.wf, Bool.and_eq_true, decide_eq_true_eq, h1, h2] at h
  exact h
theorem circVars_ok {W : World} {V : Value} {N : Int} {gs : List Gate} {a b : BitVec 64} {x2 : Int} (hV : GatesV W W.heap.size V gs) (hN0 : -9223372036854775808 ≤ N) (hN1 : N ≤ 9223372036854775807) (hx : (Lit.int .u8 x2).wf = true) (tab : Tab W) : Calls Tryd.prog 12 #[.agg #[.int .i64 N, V], .agg #[.int .u64 (a.toNat : Int), .int .u64 (b.toNat : Int)], .int .u8 x2] W fun e w' => e = .returned (.bool true) ∧ Below W.heap.size W w' := by
  obtain ⟨A, c, rfl, hAc, hcm, _⟩ := id hV
  have hmx : maxLen = 9223372036854775807 := rfl
  cases hl : lightOf N gs
  · skip
    have O0 : Own Z0 W W [] := Own.start W
    refine sx_enter (args := [.agg #[.int .i64 N, .slice A gs.length c], .agg #[.int .u64 (a.toNat : Int), .int .u64 (b.toNat : Int)], .int .u8 x2]) Tryd.func12 rfl rfl (by simp) ?_
    refine cw_seq (fun FK1 K1 => ?_)
    refine cw_region ?_
    obtain ⟨g2, w3, r4, O5, hg6, hs7⟩ := own_box O0 24 (.agg #[.int .i64 N, .slice A gs.length c]) rfl
    refine wl_val (v := .pointer (some ⟨g2, 0, none⟩)) (fun ρ e => r4 ρ _ _ _ _ _ _ (e _ _ rfl)) rfl rfl ?_
    obtain ⟨g8, w9, r10, O11, hg12, hs13⟩ := own_box O5 27 (.agg #[.int .u64 (a.toNat : Int), .int .u64 (b.toNat : Int)]) rfl
    refine wl_val (v := .pointer (some ⟨g8, 0, none⟩)) (fun ρ e => r10 ρ _ _ _ _ _ _ (e _ _ rfl)) rfl rfl ?_
    refine wl_val (v := .bool false) (fun ρ e => ex_assign (e _ _ rfl)) rfl rfl ?_
    refine wl_nil ?_
    refine xw_next K1 ?_
    refine cw_seq (fun FK14 K14 => ?_)
    refine cw_seq (fun FK15 K15 => ?_)
    refine cw_region ?_
    refine wl_val (v := .agg #[.int .i64 N, .slice A gs.length c]) (fun ρ e => ex_loadN (vs := [.int .i64 N, .slice A gs.length c]) ty24 (e _ _ rfl) rfl (O11.cells 1 0 rfl rfl)) rfl rfl ?_
    refine wl_call (args := [.agg #[.int .i64 N, .slice A gs.length c]]) in_13 rfl rfl rfl ?_
    have h19 := light_ (N := N) (gs := gs) ((hV.below O11.old).more O11.old.size)
    rw [hl] at h19
    refine h19.mono ?_
    rintro _ w16 ⟨rfl, hb17⟩
    have O18 : Own Z0 W w16 [.blk g8 27 #[.int .u64 (a.toNat : Int), .int .u64 (b.toNat : Int)], .blk g2 24 #[.int .i64 N, .slice A gs.length c]] := O11.below hb17
    refine ⟨_, rfl, ?_⟩
    refine wl_val (v := .bool true) (fun ρ e => ex_lnot (b := false) (e _ _ rfl)) rfl rfl ?_
    refine wl_val (v := .bool true) (fun ρ e => ex_move (e _ _ rfl)) rfl rfl ?_
    refine wl_skip rfl rfl ?_
    refine wl_skip rfl rfl ?_
    refine wl_skip rfl rfl ?_
    refine wl_val (v := .bool true) (fun ρ e => ex_pick1 (e _ _ rfl) (e _ _ rfl)) rfl rfl ?_
    refine wl_val (v := .bool true) (fun ρ e => ex_move (e _ _ rfl)) rfl rfl ?_
    refine wl_skip rfl rfl ?_
    refine wl_skip rfl rfl ?_
    refine wl_skip rfl rfl ?_
    refine wl_val (v := .bool true) (fun ρ e => ex_pick1 (e _ _ rfl) (e _ _ rfl)) rfl rfl ?_
    refine wl_nil ?_
    refine xw_next K15 ?_
    refine cw_true rfl ?_
    refine cw_seq (fun FK20 K20 => ?_)
    refine cw_region ?_
    refine wl_call (args := []) in_14 rfl rfl rfl ?_
    refine (works_ (tab.below (Nat.le_refl _) O18.old)).mono ?_
    rintro _ w21 ⟨rfl, hb22⟩
    have O23 : Own Z0 W w21 [.blk g8 27 #[.int .u64 (a.toNat : Int), .int .u64 (b.toNat : Int)], .blk g2 24 #[.int .i64 N, .slice A gs.length c]] := O18.below hb22
    refine ⟨_, rfl, ?_⟩
    refine wl_val (v := .bool true) (fun ρ e => ex_assign (e _ _ rfl)) rfl rfl ?_
    refine wl_nil ?_
    refine xw_next K20 ?_
    refine cw_ret ?_
    refine xw_past (by intro h; cases h) ?_
    refine xw_ret (v := .bool true) (fun T hT => res1 rfl T _ (hT 6 _ rfl)) ?_
    exact ⟨rfl, O23.old⟩
  have hlt := light_true hl
  by_cases hc : checkOf N gs = 0
  case neg =>
    skip
    have O0 : Own Z0 W W [] := Own.start W
    refine sx_enter (args := [.agg #[.int .i64 N, .slice A gs.length c], .agg #[.int .u64 (a.toNat : Int), .int .u64 (b.toNat : Int)], .int .u8 x2]) Tryd.func12 rfl rfl (by simp) ?_
    refine cw_seq (fun FK1 K1 => ?_)
    refine cw_region ?_
    obtain ⟨g2, w3, r4, O5, hg6, hs7⟩ := own_box O0 24 (.agg #[.int .i64 N, .slice A gs.length c]) rfl
    refine wl_val (v := .pointer (some ⟨g2, 0, none⟩)) (fun ρ e => r4 ρ _ _ _ _ _ _ (e _ _ rfl)) rfl rfl ?_
    obtain ⟨g8, w9, r10, O11, hg12, hs13⟩ := own_box O5 27 (.agg #[.int .u64 (a.toNat : Int), .int .u64 (b.toNat : Int)]) rfl
    refine wl_val (v := .pointer (some ⟨g8, 0, none⟩)) (fun ρ e => r10 ρ _ _ _ _ _ _ (e _ _ rfl)) rfl rfl ?_
    refine wl_val (v := .bool false) (fun ρ e => ex_assign (e _ _ rfl)) rfl rfl ?_
    refine wl_nil ?_
    refine xw_next K1 ?_
    refine cw_seq (fun FK14 K14 => ?_)
    refine cw_seq (fun FK15 K15 => ?_)
    refine cw_region ?_
    refine wl_val (v := .agg #[.int .i64 N, .slice A gs.length c]) (fun ρ e => ex_loadN (vs := [.int .i64 N, .slice A gs.length c]) ty24 (e _ _ rfl) rfl (O11.cells 1 0 rfl rfl)) rfl rfl ?_
    refine wl_call (args := [.agg #[.int .i64 N, .slice A gs.length c]]) in_13 rfl rfl rfl ?_
    have h19 := light_ (N := N) (gs := gs) ((hV.below O11.old).more O11.old.size)
    rw [hl] at h19
    refine h19.mono ?_
    rintro _ w16 ⟨rfl, hb17⟩
    have O18 : Own Z0 W w16 [.blk g8 27 #[.int .u64 (a.toNat : Int), .int .u64 (b.toNat : Int)], .blk g2 24 #[.int .i64 N, .slice A gs.length c]] := O11.below hb17
    refine ⟨_, rfl, ?_⟩
    refine wl_val (v := .bool false) (fun ρ e => ex_lnot (b := true) (e _ _ rfl)) rfl rfl ?_
    refine wl_val (v := .bool false) (fun ρ e => ex_move (e _ _ rfl)) rfl rfl ?_
    refine wl_val (v := .agg #[.int .i64 N, .slice A gs.length c]) (fun ρ e => ex_loadN (vs := [.int .i64 N, .slice A gs.length c]) ty24 (e _ _ rfl) rfl (O18.cells 1 0 rfl rfl)) rfl rfl ?_
    refine wl_call (args := [.agg #[.int .i64 N, .slice A gs.length c]]) in_22 rfl rfl rfl ?_
    refine (circ_check N _ gs _ _ (Nat.le_refl _) ((hV.below O18.old).more O18.old.size) (light_size (N := N) hlt.1 hlt.2)).mono ?_
    rintro _ w20 ⟨rfl, hb21⟩
    have O22 : Own Z0 W w20 [.blk g8 27 #[.int .u64 (a.toNat : Int), .int .u64 (b.toNat : Int)], .blk g2 24 #[.int .i64 N, .slice A gs.length c]] := O18.below hb21
    refine ⟨_, rfl, ?_⟩
    refine wl_val (v := .bool true) (fun ρ e => ex_cmp (u := (checkOf N gs)) (v := 0) (e _ _ rfl) (e _ _ rfl) (neq1 hc)) rfl rfl ?_
    refine wl_val (v := .bool true) (fun ρ e => ex_pick0 (e _ _ rfl) (e _ _ rfl)) rfl rfl ?_
    refine wl_val (v := .bool true) (fun ρ e => ex_move (e _ _ rfl)) rfl rfl ?_
    refine wl_skip rfl rfl ?_
    refine wl_skip rfl rfl ?_
    refine wl_skip rfl rfl ?_
    refine wl_val (v := .bool true) (fun ρ e => ex_pick1 (e _ _ rfl) (e _ _ rfl)) rfl rfl ?_
    refine wl_nil ?_
    refine xw_next K15 ?_
    refine cw_true rfl ?_
    refine cw_seq (fun FK23 K23 => ?_)
    refine cw_region ?_
    refine wl_call (args := []) in_14 rfl rfl rfl ?_
    refine (works_ (tab.below (Nat.le_refl _) O22.old)).mono ?_
    rintro _ w24 ⟨rfl, hb25⟩
    have O26 : Own Z0 W w24 [.blk g8 27 #[.int .u64 (a.toNat : Int), .int .u64 (b.toNat : Int)], .blk g2 24 #[.int .i64 N, .slice A gs.length c]] := O22.below hb25
    refine ⟨_, rfl, ?_⟩
    refine wl_val (v := .bool true) (fun ρ e => ex_assign (e _ _ rfl)) rfl rfl ?_
    refine wl_nil ?_
    refine xw_next K23 ?_
    refine cw_ret ?_
    refine xw_past (by intro h; cases h) ?_
    refine xw_ret (v := .bool true) (fun T hT => res1 rfl T _ (hT 6 _ rfl)) ?_
    exact ⟨rfl, O26.old⟩
  by_cases h1 : N < 1
  case pos =>
    skip
    have O0 : Own Z0 W W [] := Own.start W
    refine sx_enter (args := [.agg #[.int .i64 N, .slice A gs.length c], .agg #[.int .u64 (a.toNat : Int), .int .u64 (b.toNat : Int)], .int .u8 x2]) Tryd.func12 rfl rfl (by simp) ?_
    refine cw_seq (fun FK1 K1 => ?_)
    refine cw_region ?_
    obtain ⟨g2, w3, r4, O5, hg6, hs7⟩ := own_box O0 24 (.agg #[.int .i64 N, .slice A gs.length c]) rfl
    refine wl_val (v := .pointer (some ⟨g2, 0, none⟩)) (fun ρ e => r4 ρ _ _ _ _ _ _ (e _ _ rfl)) rfl rfl ?_
    obtain ⟨g8, w9, r10, O11, hg12, hs13⟩ := own_box O5 27 (.agg #[.int .u64 (a.toNat : Int), .int .u64 (b.toNat : Int)]) rfl
    refine wl_val (v := .pointer (some ⟨g8, 0, none⟩)) (fun ρ e => r10 ρ _ _ _ _ _ _ (e _ _ rfl)) rfl rfl ?_
    refine wl_val (v := .bool false) (fun ρ e => ex_assign (e _ _ rfl)) rfl rfl ?_
    refine wl_nil ?_
    refine xw_next K1 ?_
    refine cw_seq (fun FK14 K14 => ?_)
    refine cw_seq (fun FK15 K15 => ?_)
    refine cw_region ?_
    refine wl_val (v := .agg #[.int .i64 N, .slice A gs.length c]) (fun ρ e => ex_loadN (vs := [.int .i64 N, .slice A gs.length c]) ty24 (e _ _ rfl) rfl (O11.cells 1 0 rfl rfl)) rfl rfl ?_
    refine wl_call (args := [.agg #[.int .i64 N, .slice A gs.length c]]) in_13 rfl rfl rfl ?_
    have h19 := light_ (N := N) (gs := gs) ((hV.below O11.old).more O11.old.size)
    rw [hl] at h19
    refine h19.mono ?_
    rintro _ w16 ⟨rfl, hb17⟩
    have O18 : Own Z0 W w16 [.blk g8 27 #[.int .u64 (a.toNat : Int), .int .u64 (b.toNat : Int)], .blk g2 24 #[.int .i64 N, .slice A gs.length c]] := O11.below hb17
    refine ⟨_, rfl, ?_⟩
    refine wl_val (v := .bool false) (fun ρ e => ex_lnot (b := true) (e _ _ rfl)) rfl rfl ?_
    refine wl_val (v := .bool false) (fun ρ e => ex_move (e _ _ rfl)) rfl rfl ?_
    refine wl_val (v := .agg #[.int .i64 N, .slice A gs.length c]) (fun ρ e => ex_loadN (vs := [.int .i64 N, .slice A gs.length c]) ty24 (e _ _ rfl) rfl (O18.cells 1 0 rfl rfl)) rfl rfl ?_
    refine wl_call (args := [.agg #[.int .i64 N, .slice A gs.length c]]) in_22 rfl rfl rfl ?_
    refine (circ_check N _ gs _ _ (Nat.le_refl _) ((hV.below O18.old).more O18.old.size) (light_size (N := N) hlt.1 hlt.2)).mono ?_
    rintro _ w20 ⟨rfl, hb21⟩
    have O22 : Own Z0 W w20 [.blk g8 27 #[.int .u64 (a.toNat : Int), .int .u64 (b.toNat : Int)], .blk g2 24 #[.int .i64 N, .slice A gs.length c]] := O18.below hb21
    refine ⟨_, rfl, ?_⟩
    refine wl_val (v := .bool false) (fun ρ e => ex_cmp (u := (checkOf N gs)) (v := 0) (e _ _ rfl) (e _ _ rfl) (neq0 (by omega))) rfl rfl ?_
    refine wl_val (v := .bool false) (fun ρ e => ex_pick0 (e _ _ rfl) (e _ _ rfl)) rfl rfl ?_
    refine wl_val (v := .bool false) (fun ρ e => ex_move (e _ _ rfl)) rfl rfl ?_
    refine wl_val (v := .pointer (some ⟨g2, 0, none⟩)) (fun ρ e => ex_field (q := 0) fi24_0 (e _ _ rfl) rfl) rfl rfl ?_
    refine wl_val (v := .int .i64 N) (fun ρ e => ex_load1 ty3 (e _ _ rfl) (O22.cell 1 0 rfl rfl)) rfl rfl ?_
    refine wl_val (v := .bool true) (fun ρ e => ex_cmp (u := N) (v := 1) (e _ _ rfl) (e _ _ rfl) (lss1 h1)) rfl rfl ?_
    refine wl_val (v := .bool true) (fun ρ e => ex_pick0 (e _ _ rfl) (e _ _ rfl)) rfl rfl ?_
    refine wl_nil ?_
    refine xw_next K15 ?_
    refine cw_true rfl ?_
    refine cw_seq (fun FK23 K23 => ?_)
    refine cw_region ?_
    refine wl_call (args := []) in_14 rfl rfl rfl ?_
    refine (works_ (tab.below (Nat.le_refl _) O22.old)).mono ?_
    rintro _ w24 ⟨rfl, hb25⟩
    have O26 : Own Z0 W w24 [.blk g8 27 #[.int .u64 (a.toNat : Int), .int .u64 (b.toNat : Int)], .blk g2 24 #[.int .i64 N, .slice A gs.length c]] := O22.below hb25
    refine ⟨_, rfl, ?_⟩
    refine wl_val (v := .bool true) (fun ρ e => ex_assign (e _ _ rfl)) rfl rfl ?_
    refine wl_nil ?_
    refine xw_next K23 ?_
    refine cw_ret ?_
    refine xw_past (by intro h; cases h) ?_
    refine xw_ret (v := .bool true) (fun T hT => res1 rfl T _ (hT 6 _ rfl)) ?_
    exact ⟨rfl, O26.old⟩
  obtain ⟨_, hn2, _⟩ := check_bounds hc
  have hx3 : 0 ≤ x2 ∧ x2 ≤ 255 := u8_in hx
  obtain ⟨n, rfl⟩ : ∃ n : Nat, N = (n : Int) := ⟨N.toNat, by omega⟩
  obtain ⟨m, rfl⟩ : ∃ m : Nat, x2 = (m : Int) := ⟨x2.toNat, by omega⟩
  obtain ⟨q, hq⟩ : ∃ q : Nat, m % n = q := ⟨_, rfl⟩
  have hqn : q < n := by rw [← hq]; exact Nat.mod_lt _ (by omega)
  by_cases hh : q < 64
  · skip
    cases hb : (varsOf (n : Int) gs).a.getLsbD q
    · skip
      have hfl : evalOf (n : Int) gs ⟨a ^^^ (1#64 <<< q), b⟩ = evalOf (n : Int) gs ⟨a, b⟩ := by
        have h := flip_eval (s := ⟨a, b⟩) hc hqn (by omega) (by rw [has_lo' _ _ hh]; exact hb)
        unfold flip at h
        rw [if_pos hh] at h
        exact h
      have O0 : Own Z0 W W [] := Own.start W
      refine sx_enter (args := [.agg #[.int .i64 (n : Int), .slice A gs.length c], .agg #[.int .u64 (a.toNat : Int), .int .u64 (b.toNat : Int)], .int .u8 (m : Int)]) Tryd.func12 rfl rfl (by simp) ?_
      refine cw_seq (fun FK1 K1 => ?_)
      refine cw_region ?_
      obtain ⟨g2, w3, r4, O5, hg6, hs7⟩ := own_box O0 24 (.agg #[.int .i64 (n : Int), .slice A gs.length c]) rfl
      refine wl_val (v := .pointer (some ⟨g2, 0, none⟩)) (fun ρ e => r4 ρ _ _ _ _ _ _ (e _ _ rfl)) rfl rfl ?_
      obtain ⟨g8, w9, r10, O11, hg12, hs13⟩ := own_box O5 27 (.agg #[.int .u64 (a.toNat : Int), .int .u64 (b.toNat : Int)]) rfl
      refine wl_val (v := .pointer (some ⟨g8, 0, none⟩)) (fun ρ e => r10 ρ _ _ _ _ _ _ (e _ _ rfl)) rfl rfl ?_
      refine wl_val (v := .bool false) (fun ρ e => ex_assign (e _ _ rfl)) rfl rfl ?_
      refine wl_nil ?_
      refine xw_next K1 ?_
      refine cw_seq (fun FK14 K14 => ?_)
      refine cw_seq (fun FK15 K15 => ?_)
      refine cw_region ?_
      refine wl_val (v := .agg #[.int .i64 (n : Int), .slice A gs.length c]) (fun ρ e => ex_loadN (vs := [.int .i64 (n : Int), .slice A gs.length c]) ty24 (e _ _ rfl) rfl (O11.cells 1 0 rfl rfl)) rfl rfl ?_
      refine wl_call (args := [.agg #[.int .i64 (n : Int), .slice A gs.length c]]) in_13 rfl rfl rfl ?_
      have h19 := light_ (N := (n : Int)) (gs := gs) ((hV.below O11.old).more O11.old.size)
      rw [hl] at h19
      refine h19.mono ?_
      rintro _ w16 ⟨rfl, hb17⟩
      have O18 : Own Z0 W w16 [.blk g8 27 #[.int .u64 (a.toNat : Int), .int .u64 (b.toNat : Int)], .blk g2 24 #[.int .i64 (n : Int), .slice A gs.length c]] := O11.below hb17
      refine ⟨_, rfl, ?_⟩
      refine wl_val (v := .bool false) (fun ρ e => ex_lnot (b := true) (e _ _ rfl)) rfl rfl ?_
      refine wl_val (v := .bool false) (fun ρ e => ex_move (e _ _ rfl)) rfl rfl ?_
      refine wl_val (v := .agg #[.int .i64 (n : Int), .slice A gs.length c]) (fun ρ e => ex_loadN (vs := [.int .i64 (n : Int), .slice A gs.length c]) ty24 (e _ _ rfl) rfl (O18.cells 1 0 rfl rfl)) rfl rfl ?_
      refine wl_call (args := [.agg #[.int .i64 (n : Int), .slice A gs.length c]]) in_22 rfl rfl rfl ?_
      refine (circ_check (n : Int) _ gs _ _ (Nat.le_refl _) ((hV.below O18.old).more O18.old.size) (light_size (N := (n : Int)) hlt.1 hlt.2)).mono ?_
      rintro _ w20 ⟨rfl, hb21⟩
      have O22 : Own Z0 W w20 [.blk g8 27 #[.int .u64 (a.toNat : Int), .int .u64 (b.toNat : Int)], .blk g2 24 #[.int .i64 (n : Int), .slice A gs.length c]] := O18.below hb21
      refine ⟨_, rfl, ?_⟩
      refine wl_val (v := .bool false) (fun ρ e => ex_cmp (u := (checkOf (n : Int) gs)) (v := 0) (e _ _ rfl) (e _ _ rfl) (neq0 (by omega))) rfl rfl ?_
      refine wl_val (v := .bool false) (fun ρ e => ex_pick0 (e _ _ rfl) (e _ _ rfl)) rfl rfl ?_
      refine wl_val (v := .bool false) (fun ρ e => ex_move (e _ _ rfl)) rfl rfl ?_
      refine wl_val (v := .pointer (some ⟨g2, 0, none⟩)) (fun ρ e => ex_field (q := 0) fi24_0 (e _ _ rfl) rfl) rfl rfl ?_
      refine wl_val (v := .int .i64 (n : Int)) (fun ρ e => ex_load1 ty3 (e _ _ rfl) (O22.cell 1 0 rfl rfl)) rfl rfl ?_
      refine wl_val (v := .bool false) (fun ρ e => ex_cmp (u := (n : Int)) (v := 1) (e _ _ rfl) (e _ _ rfl) (lss0 (by omega))) rfl rfl ?_
      refine wl_val (v := .bool false) (fun ρ e => ex_pick0 (e _ _ rfl) (e _ _ rfl)) rfl rfl ?_
      refine wl_nil ?_
      refine xw_next K15 ?_
      refine cw_false rfl ?_
      refine cw_skip ?_
      refine xw_next K14 ?_
      refine cw_seq (fun FK23 K23 => ?_)
      refine cw_region ?_
      refine wl_val (v := .int .u8 (m : Int)) (fun ρ e => ex_move (e _ _ rfl)) rfl rfl ?_
      refine wl_val (v := .int .i64 (m : Int)) (fun ρ e => ex_conv8 (a := m) (e _ _ rfl) (by omega)) rfl rfl ?_
      refine wl_val (v := .pointer (some ⟨g2, 0, none⟩)) (fun ρ e => ex_field (q := 0) fi24_0 (e _ _ rfl) rfl) rfl rfl ?_
      refine wl_val (v := .int .i64 (n : Int)) (fun ρ e => ex_load1 ty3 (e _ _ rfl) (O22.cell 1 0 rfl rfl)) rfl rfl ?_
      refine wl_val (v := .int .i64 (q : Int)) (fun ρ e => ex_rem (a := m) (b := n) (q := q) (e _ _ rfl) (e _ _ rfl) (by omega) hq) rfl rfl ?_
      refine wl_val (v := .int .i64 ((q : Int) + 1)) (fun ρ e => ex_arith (k := .i64) (u := 1) (v := (q : Int)) (e _ _ rfl) (e _ _ rfl) (congrArg some ((congrArg _ (by omega)).trans (wrap_in (u := (q : Int) + 1) (by omega) (by omega))))) rfl rfl ?_
      refine wl_val (v := .int .i64 ((q : Int) + 1)) (fun ρ e => ex_assign (e _ _ rfl)) rfl rfl ?_
      refine wl_nil ?_
      refine xw_next K23 ?_
      refine cw_seq (fun FK24 K24 => ?_)
      refine cw_region ?_
      refine wl_val (v := .agg #[.int .i64 (n : Int), .slice A gs.length c]) (fun ρ e => ex_loadN (vs := [.int .i64 (n : Int), .slice A gs.length c]) ty24 (e _ _ rfl) rfl (O22.cells 1 0 rfl rfl)) rfl rfl ?_
      refine wl_call (args := [.agg #[.int .i64 (n : Int), .slice A gs.length c]]) in_30 rfl rfl rfl ?_
      refine (cvars_ (N := (n : Int)) ((hV.below O22.old).more O22.old.size) (light_size (N := (n : Int)) hlt.1 hlt.2)).mono ?_
      rintro _ w25 ⟨rfl, hb26⟩
      have O27 : Own Z0 W w25 [.blk g8 27 #[.int .u64 (a.toNat : Int), .int .u64 (b.toNat : Int)], .blk g2 24 #[.int .i64 (n : Int), .slice A gs.length c]] := O22.below hb26
      refine ⟨_, rfl, ?_⟩
      obtain ⟨g28, w29, r30, O31, hg32, hs33⟩ := own_alloc O27 27 ze27 rfl
      refine wl_val (v := .pointer (some ⟨g28, 0, none⟩)) (fun ρ e => r30 ρ _ _ _ _ _) rfl rfl ?_
      obtain ⟨w34, r35, O36, hs37⟩ := own_put (o := 0) (n := 2) O31 ty27 (.agg #[.int .u64 ((varsOf (n : Int) gs).a.toNat : Int), .int .u64 ((varsOf (n : Int) gs).b.toNat : Int)]) [.int .u64 ((varsOf (n : Int) gs).a.toNat : Int), .int .u64 ((varsOf (n : Int) gs).b.toNat : Int)] (cs' := #[.int .u64 ((varsOf (n : Int) gs).a.toNat : Int), .int .u64 ((varsOf (n : Int) gs).b.toNat : Int)]) rfl rfl rfl (Nat.le_of_ble_eq_true rfl) rfl
      refine wl_none (fun ρ e => r35 ρ _ _ _ _ _ _ (e _ _ rfl) (e _ _ rfl)) rfl ?_
      refine wl_nil ?_
      refine xw_next K24 ?_
      refine cw_seq (fun FK38 K38 => ?_)
      refine cw_seq (fun FK39 K39 => ?_)
      refine cw_region ?_
      refine wl_val (v := .int .i64 ((q : Int) + 1)) (fun ρ e => ex_move (e _ _ rfl)) rfl rfl ?_
      refine wl_val (v := .int .i64 (q : Int)) (fun ρ e => ex_arith (k := .i64) (u := ((q : Int) + 1)) (v := 1) (e _ _ rfl) (e _ _ rfl) (congrArg some ((congrArg _ (by omega)).trans (wrap_in (u := (q : Int)) (by omega) (by omega))))) rfl rfl ?_
      refine wl_val (v := .int .i64 ((0 : Nat) : Int)) (fun ρ e => ex_quo (a := q) (b := 64) (q := 0) (e _ _ rfl) (e _ _ rfl) (by omega) (by omega) (by omega)) rfl rfl ?_
      refine wl_val (v := .pointer (some ⟨g28, 0, none⟩)) (fun ρ e => ex_idxA (i := 0) (q := 0) (e _ _ rfl) (e _ _ rfl) (by omega) rfl) rfl rfl ?_
      refine wl_val (v := .int .u64 ((varsOf (n : Int) gs).a.toNat : Int)) (fun ρ e => ex_load1 ty25 (e _ _ rfl) (O36.cell 0 0 rfl rfl)) rfl rfl ?_
      refine wl_val (v := .int .i64 ((q : Int) + 1)) (fun ρ e => ex_move (e _ _ rfl)) rfl rfl ?_
      refine wl_val (v := .int .i64 (q : Int)) (fun ρ e => ex_arith (k := .i64) (u := ((q : Int) + 1)) (v := 1) (e _ _ rfl) (e _ _ rfl) (congrArg some ((congrArg _ (by omega)).trans (wrap_in (u := (q : Int)) (by omega) (by omega))))) rfl rfl ?_
      refine wl_val (v := .int .i64 (q : Int)) (fun ρ e => ex_rem (a := q) (b := 64) (q := q) (e _ _ rfl) (e _ _ rfl) (by omega) (by omega)) rfl rfl ?_
      refine wl_val (v := .int .u64 (q : Int)) (fun ρ e => ex_convU (a := q) (e _ _ rfl) (by omega)) rfl rfl ?_
      refine wl_val (v := .int .u64 (((varsOf (n : Int) gs).a >>> q).toNat : Int)) (fun ρ e => ex_shr (A := (varsOf (n : Int) gs).a) (k := q) (e _ _ rfl) (e _ _ rfl) (by omega)) rfl rfl ?_
      refine wl_val (v := .int .u64 ((((varsOf (n : Int) gs).a >>> q) &&& 1#64).toNat : Int)) (fun ρ e => ex_and1 (A := (varsOf (n : Int) gs).a >>> q) (e _ _ rfl) (e _ _ rfl)) rfl rfl ?_
      refine wl_val (v := .bool false) (fun ρ e => ex_cmp (u := ((((varsOf (n : Int) gs).a >>> q) &&& 1#64).toNat : Int)) (v := 1) (r := false) (e _ _ rfl) (e _ _ rfl) ((bitcmp _ _).trans (congrArg some hb))) rfl rfl ?_
      refine wl_nil ?_
      refine xw_next K39 ?_
      refine cw_false rfl ?_
      refine cw_skip ?_
      refine xw_next K38 ?_
      refine cw_seq (fun FK40 K40 => ?_)
      refine cw_region ?_
      refine wl_val (v := .agg #[.int .u64 (a.toNat : Int), .int .u64 (b.toNat : Int)]) (fun ρ e => ex_loadN (vs := [.int .u64 (a.toNat : Int), .int .u64 (b.toNat : Int)]) ty27 (e _ _ rfl) rfl (O36.cells 1 0 rfl rfl)) rfl rfl ?_
      obtain ⟨g41, w42, r43, O44, hg45, hs46⟩ := own_alloc O36 27 ze27 rfl
      refine wl_val (v := .pointer (some ⟨g41, 0, none⟩)) (fun ρ e => r43 ρ _ _ _ _ _) rfl rfl ?_
      obtain ⟨w47, r48, O49, hs50⟩ := own_put (o := 0) (n := 2) O44 ty27 (.agg #[.int .u64 (a.toNat : Int), .int .u64 (b.toNat : Int)]) [.int .u64 (a.toNat : Int), .int .u64 (b.toNat : Int)] (cs' := #[.int .u64 (a.toNat : Int), .int .u64 (b.toNat : Int)]) rfl rfl rfl (Nat.le_of_ble_eq_true rfl) rfl
      refine wl_none (fun ρ e => r48 ρ _ _ _ _ _ _ (e _ _ rfl) (e _ _ rfl)) rfl ?_
      refine wl_nil ?_
      refine xw_next K40 ?_
      refine cw_seq (fun FK51 K51 => ?_)
      refine cw_region ?_
      refine wl_val (v := .int .i64 ((q : Int) + 1)) (fun ρ e => ex_move (e _ _ rfl)) rfl rfl ?_
      refine wl_val (v := .int .i64 (q : Int)) (fun ρ e => ex_arith (k := .i64) (u := ((q : Int) + 1)) (v := 1) (e _ _ rfl) (e _ _ rfl) (congrArg some ((congrArg _ (by omega)).trans (wrap_in (u := (q : Int)) (by omega) (by omega))))) rfl rfl ?_
      refine wl_val (v := .int .i64 ((0 : Nat) : Int)) (fun ρ e => ex_quo (a := q) (b := 64) (q := 0) (e _ _ rfl) (e _ _ rfl) (by omega) (by omega) (by omega)) rfl rfl ?_
      refine wl_val (v := .pointer (some ⟨g41, 0, none⟩)) (fun ρ e => ex_idxA (i := 0) (q := 0) (e _ _ rfl) (e _ _ rfl) (by omega) rfl) rfl rfl ?_
      refine wl_val (v := .int .u64 (a.toNat : Int)) (fun ρ e => ex_load1 ty25 (e _ _ rfl) (O49.cell 0 0 rfl rfl)) rfl rfl ?_
      refine wl_val (v := .int .i64 ((q : Int) + 1)) (fun ρ e => ex_move (e _ _ rfl)) rfl rfl ?_
      refine wl_val (v := .int .i64 (q : Int)) (fun ρ e => ex_arith (k := .i64) (u := ((q : Int) + 1)) (v := 1) (e _ _ rfl) (e _ _ rfl) (congrArg some ((congrArg _ (by omega)).trans (wrap_in (u := (q : Int)) (by omega) (by omega))))) rfl rfl ?_
      refine wl_val (v := .int .i64 (q : Int)) (fun ρ e => ex_rem (a := q) (b := 64) (q := q) (e _ _ rfl) (e _ _ rfl) (by omega) (by omega)) rfl rfl ?_
      refine wl_val (v := .int .u64 (q : Int)) (fun ρ e => ex_convU (a := q) (e _ _ rfl) (by omega)) rfl rfl ?_
      refine wl_val (v := .int .u64 ((1#64 <<< q).toNat : Int)) (fun ρ e => ex_shl1 (k := q) (e _ _ rfl) (e _ _ rfl) (by omega)) rfl rfl ?_
      refine wl_val (v := .int .u64 ((a ^^^ (1#64 <<< q)).toNat : Int)) (fun ρ e => ex_xor (A := a) (B := 1#64 <<< q) (e _ _ rfl) (e _ _ rfl)) rfl rfl ?_
      refine wl_val (v := .pointer (some ⟨g41, 0, none⟩)) (fun ρ e => ex_idxA (i := 0) (q := 0) (e _ _ rfl) (e _ _ rfl) (by omega) rfl) rfl rfl ?_
      obtain ⟨w52, r53, O54, hs55⟩ := own_put (o := 0) (n := 1) O49 ty25 (.int .u64 ((a ^^^ (1#64 <<< q)).toNat : Int)) [.int .u64 ((a ^^^ (1#64 <<< q)).toNat : Int)] (cs' := #[.int .u64 ((a ^^^ (1#64 <<< q)).toNat : Int), .int .u64 (b.toNat : Int)]) rfl rfl rfl (Nat.le_of_ble_eq_true rfl) rfl
      refine wl_none (fun ρ e => r53 ρ _ _ _ _ _ _ (e _ _ rfl) (e _ _ rfl)) rfl ?_
      refine wl_nil ?_
      refine xw_next K51 ?_
      refine cw_seq (fun FK56 K56 => ?_)
      refine cw_drawn (fun X => Own Z0 W X [.blk g41 27 #[.int .u64 ((a ^^^ (1#64 <<< q)).toNat : Int), .int .u64 (b.toNat : Int)], .blk g28 27 #[.int .u64 ((varsOf (n : Int) gs).a.toNat : Int), .int .u64 ((varsOf (n : Int) gs).b.toNat : Int)], .blk g8 27 #[.int .u64 (a.toNat : Int), .int .u64 (b.toNat : Int)], .blk g2 24 #[.int .i64 (n : Int), .slice A gs.length c]]) 10 [(0, 0), (1, 0), (3, 0), (4, 0), (2, 2), (5, 2), (6, 1), (7, 1), (8, 2), (9, 1), (10, 3)] (by kernel_rfl) (by kernel_rfl) (PQ.then_ PQ.body) (O54).drew ?_
      have O57 : Own Z0 W w52.drew [.blk g41 27 #[.int .u64 ((a ^^^ (1#64 <<< q)).toNat : Int), .int .u64 (b.toNat : Int)], .blk g28 27 #[.int .u64 ((varsOf (n : Int) gs).a.toNat : Int), .int .u64 ((varsOf (n : Int) gs).b.toNat : Int)], .blk g8 27 #[.int .u64 (a.toNat : Int), .int .u64 (b.toNat : Int)], .blk g2 24 #[.int .i64 (n : Int), .slice A gs.length c]] := O54.drew
      refine wt0 (v := .agg #[.int .i64 (n : Int), .slice A gs.length c]) rfl (fun ρ e W hW => ex_loadN (vs := [.int .i64 (n : Int), .slice A gs.length c]) ty24 (e _ _ rfl) rfl (hW.cells 3 0 rfl rfl)) rfl rfl ?_
      refine wt0 (v := .agg #[.int .u64 (a.toNat : Int), .int .u64 (b.toNat : Int)]) rfl (fun ρ e W hW => ex_loadN (vs := [.int .u64 (a.toNat : Int), .int .u64 (b.toNat : Int)]) ty27 (e _ _ rfl) rfl (hW.cells 2 0 rfl rfl)) rfl rfl ?_
      refine wt0 (v := .agg #[.int .i64 (n : Int), .slice A gs.length c]) rfl (fun ρ e W hW => ex_loadN (vs := [.int .i64 (n : Int), .slice A gs.length c]) ty24 (e _ _ rfl) rfl (hW.cells 3 0 rfl rfl)) rfl rfl ?_
      refine wt0 (v := .agg #[.int .u64 ((a ^^^ (1#64 <<< q)).toNat : Int), .int .u64 (b.toNat : Int)]) rfl (fun ρ e W hW => ex_loadN (vs := [.int .u64 ((a ^^^ (1#64 <<< q)).toNat : Int), .int .u64 (b.toNat : Int)]) ty27 (e _ _ rfl) rfl (hW.cells 0 0 rfl rfl)) rfl rfl ?_
      refine wt2_call (args := [.agg #[.int .i64 (n : Int), .slice A gs.length c], .agg #[.int .u64 (a.toNat : Int), .int .u64 (b.toNat : Int)]]) rfl in_15 rfl rfl rfl ?_
      refine (circ_eval (n : Int) _ gs a b _ _ (Nat.le_refl _) ((hV.below O57.old).more O57.old.size) (light_size (N := (n : Int)) hlt.1 hlt.2) hN0 hN1).mono ?_
      rintro _ w58 ⟨rfl, hb59⟩
      have O60 : Own Z0 W w58 [.blk g41 27 #[.int .u64 ((a ^^^ (1#64 <<< q)).toNat : Int), .int .u64 (b.toNat : Int)], .blk g28 27 #[.int .u64 ((varsOf (n : Int) gs).a.toNat : Int), .int .u64 ((varsOf (n : Int) gs).b.toNat : Int)], .blk g8 27 #[.int .u64 (a.toNat : Int), .int .u64 (b.toNat : Int)], .blk g2 24 #[.int .i64 (n : Int), .slice A gs.length c]] := O57.below hb59
      refine ⟨_, rfl, O60, ?_⟩
      refine wt2_call (args := [.agg #[.int .i64 (n : Int), .slice A gs.length c], .agg #[.int .u64 ((a ^^^ (1#64 <<< q)).toNat : Int), .int .u64 (b.toNat : Int)]]) rfl in_15 rfl rfl rfl ?_
      refine (circ_eval (n : Int) _ gs (a ^^^ (1#64 <<< q)) b _ _ (Nat.le_refl _) ((hV.below O60.old).more O60.old.size) (light_size (N := (n : Int)) hlt.1 hlt.2) hN0 hN1).mono ?_
      rintro _ w61 ⟨rfl, hb62⟩
      have O63 : Own Z0 W w61 [.blk g41 27 #[.int .u64 ((a ^^^ (1#64 <<< q)).toNat : Int), .int .u64 (b.toNat : Int)], .blk g28 27 #[.int .u64 ((varsOf (n : Int) gs).a.toNat : Int), .int .u64 ((varsOf (n : Int) gs).b.toNat : Int)], .blk g8 27 #[.int .u64 (a.toNat : Int), .int .u64 (b.toNat : Int)], .blk g2 24 #[.int .i64 (n : Int), .slice A gs.length c]] := O60.below hb62
      refine ⟨_, rfl, O63, ?_⟩
      refine wt1 (v := .bool true) rfl (fun ρ e W => (ex_eqb (b := (evalOf (n : Int) gs ⟨a, b⟩)) (b' := (evalOf (n : Int) gs ⟨(a ^^^ (1#64 <<< q)), b⟩)) (e _ _ rfl) (e _ _ rfl)).trans (by rw [hfl, beq_self_eq_true])) rfl rfl ?_
      refine wt1 (v := .bool true) rfl (fun ρ e W => ex_move (e _ _ rfl)) rfl rfl ?_
      refine wt2_call (args := []) rfl in_14 rfl rfl rfl ?_
      refine (works_ (tab.below (Nat.le_refl _) O63.old)).mono ?_
      rintro _ w64 ⟨rfl, hb65⟩
      have O66 : Own Z0 W w64 [.blk g41 27 #[.int .u64 ((a ^^^ (1#64 <<< q)).toNat : Int), .int .u64 (b.toNat : Int)], .blk g28 27 #[.int .u64 ((varsOf (n : Int) gs).a.toNat : Int), .int .u64 ((varsOf (n : Int) gs).b.toNat : Int)], .blk g8 27 #[.int .u64 (a.toNat : Int), .int .u64 (b.toNat : Int)], .blk g2 24 #[.int .i64 (n : Int), .slice A gs.length c]] := O63.below hb65
      refine ⟨_, rfl, O66, ?_⟩
      refine wt1 (v := .bool true) rfl (fun ρ e W => ex_pick1 (e _ _ rfl) (e _ _ rfl)) rfl rfl ?_
      refine wt3 (v := .bool true) rfl (fun ρ e => ex_assign (e _ _ rfl)) rfl rfl ?_
      refine wt_nil ?_
      refine xw_next K56 ?_
      refine cw_ret ?_
      refine xw_ret (v := .bool true) (fun T hT => res1 rfl T _ (hT 6 _ rfl)) ?_
      exact ⟨rfl, O66.old⟩
    · skip
      have O0 : Own Z0 W W [] := Own.start W
      refine sx_enter (args := [.agg #[.int .i64 (n : Int), .slice A gs.length c], .agg #[.int .u64 (a.toNat : Int), .int .u64 (b.toNat : Int)], .int .u8 (m : Int)]) Tryd.func12 rfl rfl (by simp) ?_
      refine cw_seq (fun FK1 K1 => ?_)
      refine cw_region ?_
      obtain ⟨g2, w3, r4, O5, hg6, hs7⟩ := own_box O0 24 (.agg #[.int .i64 (n : Int), .slice A gs.length c]) rfl
      refine wl_val (v := .pointer (some ⟨g2, 0, none⟩)) (fun ρ e => r4 ρ _ _ _ _ _ _ (e _ _ rfl)) rfl rfl ?_
      obtain ⟨g8, w9, r10, O11, hg12, hs13⟩ := own_box O5 27 (.agg #[.int .u64 (a.toNat : Int), .int .u64 (b.toNat : Int)]) rfl
      refine wl_val (v := .pointer (some ⟨g8, 0, none⟩)) (fun ρ e => r10 ρ _ _ _ _ _ _ (e _ _ rfl)) rfl rfl ?_
      refine wl_val (v := .bool false) (fun ρ e => ex_assign (e _ _ rfl)) rfl rfl ?_
      refine wl_nil ?_
      refine xw_next K1 ?_
      refine cw_seq (fun FK14 K14 => ?_)
      refine cw_seq (fun FK15 K15 => ?_)
      refine cw_region ?_
      refine wl_val (v := .agg #[.int .i64 (n : Int), .slice A gs.length c]) (fun ρ e => ex_loadN (vs := [.int .i64 (n : Int), .slice A gs.length c]) ty24 (e _ _ rfl) rfl (O11.cells 1 0 rfl rfl)) rfl rfl ?_
      refine wl_call (args := [.agg #[.int .i64 (n : Int), .slice A gs.length c]]) in_13 rfl rfl rfl ?_
      have h19 := light_ (N := (n : Int)) (gs := gs) ((hV.below O11.old).more O11.old.size)
      rw [hl] at h19
      refine h19.mono ?_
      rintro _ w16 ⟨rfl, hb17⟩
      have O18 : Own Z0 W w16 [.blk g8 27 #[.int .u64 (a.toNat : Int), .int .u64 (b.toNat : Int)], .blk g2 24 #[.int .i64 (n : Int), .slice A gs.length c]] := O11.below hb17
      refine ⟨_, rfl, ?_⟩
      refine wl_val (v := .bool false) (fun ρ e => ex_lnot (b := true) (e _ _ rfl)) rfl rfl ?_
      refine wl_val (v := .bool false) (fun ρ e => ex_move (e _ _ rfl)) rfl rfl ?_
      refine wl_val (v := .agg #[.int .i64 (n : Int), .slice A gs.length c]) (fun ρ e => ex_loadN (vs := [.int .i64 (n : Int), .slice A gs.length c]) ty24 (e _ _ rfl) rfl (O18.cells 1 0 rfl rfl)) rfl rfl ?_
      refine wl_call (args := [.agg #[.int .i64 (n : Int), .slice A gs.length c]]) in_22 rfl rfl rfl ?_
      refine (circ_check (n : Int) _ gs _ _ (Nat.le_refl _) ((hV.below O18.old).more O18.old.size) (light_size (N := (n : Int)) hlt.1 hlt.2)).mono ?_
      rintro _ w20 ⟨rfl, hb21⟩
      have O22 : Own Z0 W w20 [.blk g8 27 #[.int .u64 (a.toNat : Int), .int .u64 (b.toNat : Int)], .blk g2 24 #[.int .i64 (n : Int), .slice A gs.length c]] := O18.below hb21
      refine ⟨_, rfl, ?_⟩
      refine wl_val (v := .bool false) (fun ρ e => ex_cmp (u := (checkOf (n : Int) gs)) (v := 0) (e _ _ rfl) (e _ _ rfl) (neq0 (by omega))) rfl rfl ?_
      refine wl_val (v := .bool false) (fun ρ e => ex_pick0 (e _ _ rfl) (e _ _ rfl)) rfl rfl ?_
      refine wl_val (v := .bool false) (fun ρ e => ex_move (e _ _ rfl)) rfl rfl ?_
      refine wl_val (v := .pointer (some ⟨g2, 0, none⟩)) (fun ρ e => ex_field (q := 0) fi24_0 (e _ _ rfl) rfl) rfl rfl ?_
      refine wl_val (v := .int .i64 (n : Int)) (fun ρ e => ex_load1 ty3 (e _ _ rfl) (O22.cell 1 0 rfl rfl)) rfl rfl ?_
      refine wl_val (v := .bool false) (fun ρ e => ex_cmp (u := (n : Int)) (v := 1) (e _ _ rfl) (e _ _ rfl) (lss0 (by omega))) rfl rfl ?_
      refine wl_val (v := .bool false) (fun ρ e => ex_pick0 (e _ _ rfl) (e _ _ rfl)) rfl rfl ?_
      refine wl_nil ?_
      refine xw_next K15 ?_
      refine cw_false rfl ?_
      refine cw_skip ?_
      refine xw_next K14 ?_
      refine cw_seq (fun FK23 K23 => ?_)
      refine cw_region ?_
      refine wl_val (v := .int .u8 (m : Int)) (fun ρ e => ex_move (e _ _ rfl)) rfl rfl ?_
      refine wl_val (v := .int .i64 (m : Int)) (fun ρ e => ex_conv8 (a := m) (e _ _ rfl) (by omega)) rfl rfl ?_
      refine wl_val (v := .pointer (some ⟨g2, 0, none⟩)) (fun ρ e => ex_field (q := 0) fi24_0 (e _ _ rfl) rfl) rfl rfl ?_
      refine wl_val (v := .int .i64 (n : Int)) (fun ρ e => ex_load1 ty3 (e _ _ rfl) (O22.cell 1 0 rfl rfl)) rfl rfl ?_
      refine wl_val (v := .int .i64 (q : Int)) (fun ρ e => ex_rem (a := m) (b := n) (q := q) (e _ _ rfl) (e _ _ rfl) (by omega) hq) rfl rfl ?_
      refine wl_val (v := .int .i64 ((q : Int) + 1)) (fun ρ e => ex_arith (k := .i64) (u := 1) (v := (q : Int)) (e _ _ rfl) (e _ _ rfl) (congrArg some ((congrArg _ (by omega)).trans (wrap_in (u := (q : Int) + 1) (by omega) (by omega))))) rfl rfl ?_
      refine wl_val (v := .int .i64 ((q : Int) + 1)) (fun ρ e => ex_assign (e _ _ rfl)) rfl rfl ?_
      refine wl_nil ?_
      refine xw_next K23 ?_
      refine cw_seq (fun FK24 K24 => ?_)
      refine cw_region ?_
      refine wl_val (v := .agg #[.int .i64 (n : Int), .slice A gs.length c]) (fun ρ e => ex_loadN (vs := [.int .i64 (n : Int), .slice A gs.length c]) ty24 (e _ _ rfl) rfl (O22.cells 1 0 rfl rfl)) rfl rfl ?_
      refine wl_call (args := [.agg #[.int .i64 (n : Int), .slice A gs.length c]]) in_30 rfl rfl rfl ?_
      refine (cvars_ (N := (n : Int)) ((hV.below O22.old).more O22.old.size) (light_size (N := (n : Int)) hlt.1 hlt.2)).mono ?_
      rintro _ w25 ⟨rfl, hb26⟩
      have O27 : Own Z0 W w25 [.blk g8 27 #[.int .u64 (a.toNat : Int), .int .u64 (b.toNat : Int)], .blk g2 24 #[.int .i64 (n : Int), .slice A gs.length c]] := O22.below hb26
      refine ⟨_, rfl, ?_⟩
      obtain ⟨g28, w29, r30, O31, hg32, hs33⟩ := own_alloc O27 27 ze27 rfl
      refine wl_val (v := .pointer (some ⟨g28, 0, none⟩)) (fun ρ e => r30 ρ _ _ _ _ _) rfl rfl ?_
      obtain ⟨w34, r35, O36, hs37⟩ := own_put (o := 0) (n := 2) O31 ty27 (.agg #[.int .u64 ((varsOf (n : Int) gs).a.toNat : Int), .int .u64 ((varsOf (n : Int) gs).b.toNat : Int)]) [.int .u64 ((varsOf (n : Int) gs).a.toNat : Int), .int .u64 ((varsOf (n : Int) gs).b.toNat : Int)] (cs' := #[.int .u64 ((varsOf (n : Int) gs).a.toNat : Int), .int .u64 ((varsOf (n : Int) gs).b.toNat : Int)]) rfl rfl rfl (Nat.le_of_ble_eq_true rfl) rfl
      refine wl_none (fun ρ e => r35 ρ _ _ _ _ _ _ (e _ _ rfl) (e _ _ rfl)) rfl ?_
      refine wl_nil ?_
      refine xw_next K24 ?_
      refine cw_seq (fun FK38 K38 => ?_)
      refine cw_seq (fun FK39 K39 => ?_)
      refine cw_region ?_
      refine wl_val (v := .int .i64 ((q : Int) + 1)) (fun ρ e => ex_move (e _ _ rfl)) rfl rfl ?_
      refine wl_val (v := .int .i64 (q : Int)) (fun ρ e => ex_arith (k := .i64) (u := ((q : Int) + 1)) (v := 1) (e _ _ rfl) (e _ _ rfl) (congrArg some ((congrArg _ (by omega)).trans (wrap_in (u := (q : Int)) (by omega) (by omega))))) rfl rfl ?_
      refine wl_val (v := .int .i64 ((0 : Nat) : Int)) (fun ρ e => ex_quo (a := q) (b := 64) (q := 0) (e _ _ rfl) (e _ _ rfl) (by omega) (by omega) (by omega)) rfl rfl ?_
      refine wl_val (v := .pointer (some ⟨g28, 0, none⟩)) (fun ρ e => ex_idxA (i := 0) (q := 0) (e _ _ rfl) (e _ _ rfl) (by omega) rfl) rfl rfl ?_
      refine wl_val (v := .int .u64 ((varsOf (n : Int) gs).a.toNat : Int)) (fun ρ e => ex_load1 ty25 (e _ _ rfl) (O36.cell 0 0 rfl rfl)) rfl rfl ?_
      refine wl_val (v := .int .i64 ((q : Int) + 1)) (fun ρ e => ex_move (e _ _ rfl)) rfl rfl ?_
      refine wl_val (v := .int .i64 (q : Int)) (fun ρ e => ex_arith (k := .i64) (u := ((q : Int) + 1)) (v := 1) (e _ _ rfl) (e _ _ rfl) (congrArg some ((congrArg _ (by omega)).trans (wrap_in (u := (q : Int)) (by omega) (by omega))))) rfl rfl ?_
      refine wl_val (v := .int .i64 (q : Int)) (fun ρ e => ex_rem (a := q) (b := 64) (q := q) (e _ _ rfl) (e _ _ rfl) (by omega) (by omega)) rfl rfl ?_
      refine wl_val (v := .int .u64 (q : Int)) (fun ρ e => ex_convU (a := q) (e _ _ rfl) (by omega)) rfl rfl ?_
      refine wl_val (v := .int .u64 (((varsOf (n : Int) gs).a >>> q).toNat : Int)) (fun ρ e => ex_shr (A := (varsOf (n : Int) gs).a) (k := q) (e _ _ rfl) (e _ _ rfl) (by omega)) rfl rfl ?_
      refine wl_val (v := .int .u64 ((((varsOf (n : Int) gs).a >>> q) &&& 1#64).toNat : Int)) (fun ρ e => ex_and1 (A := (varsOf (n : Int) gs).a >>> q) (e _ _ rfl) (e _ _ rfl)) rfl rfl ?_
      refine wl_val (v := .bool true) (fun ρ e => ex_cmp (u := ((((varsOf (n : Int) gs).a >>> q) &&& 1#64).toNat : Int)) (v := 1) (r := true) (e _ _ rfl) (e _ _ rfl) ((bitcmp _ _).trans (congrArg some hb))) rfl rfl ?_
      refine wl_nil ?_
      refine xw_next K39 ?_
      refine cw_true rfl ?_
      refine cw_seq (fun FK40 K40 => ?_)
      refine cw_region ?_
      refine wl_call (args := []) in_14 rfl rfl rfl ?_
      refine (works_ (tab.below (Nat.le_refl _) O36.old)).mono ?_
      rintro _ w41 ⟨rfl, hb42⟩
      have O43 : Own Z0 W w41 [.blk g28 27 #[.int .u64 ((varsOf (n : Int) gs).a.toNat : Int), .int .u64 ((varsOf (n : Int) gs).b.toNat : Int)], .blk g8 27 #[.int .u64 (a.toNat : Int), .int .u64 (b.toNat : Int)], .blk g2 24 #[.int .i64 (n : Int), .slice A gs.length c]] := O36.below hb42
      refine ⟨_, rfl, ?_⟩
      refine wl_val (v := .bool true) (fun ρ e => ex_assign (e _ _ rfl)) rfl rfl ?_
      refine wl_nil ?_
      refine xw_next K40 ?_
      refine cw_ret ?_
      refine xw_past (by intro h; cases h) ?_
      refine xw_ret (v := .bool true) (fun T hT => res1 rfl T _ (hT 6 _ rfl)) ?_
      exact ⟨rfl, O43.old⟩
  · skip
    cases hb : (varsOf (n : Int) gs).b.getLsbD (q - 64)
    · skip
      have hfl : evalOf (n : Int) gs ⟨a, b ^^^ (1#64 <<< (q - 64))⟩ = evalOf (n : Int) gs ⟨a, b⟩ := by
        have h := flip_eval (s := ⟨a, b⟩) hc hqn (by omega) (by rw [has_hi' _ _ (by omega) (by omega)]; exact hb)
        unfold flip at h
        rw [if_neg hh] at h
        exact h
      have O0 : Own Z0 W W [] := Own.start W
      refine sx_enter (args := [.agg #[.int .i64 (n : Int), .slice A gs.length c], .agg #[.int .u64 (a.toNat : Int), .int .u64 (b.toNat : Int)], .int .u8 (m : Int)]) Tryd.func12 rfl rfl (by simp) ?_
      refine cw_seq (fun FK1 K1 => ?_)
      refine cw_region ?_
      obtain ⟨g2, w3, r4, O5, hg6, hs7⟩ := own_box O0 24 (.agg #[.int .i64 (n : Int), .slice A gs.length c]) rfl
      refine wl_val (v := .pointer (some ⟨g2, 0, none⟩)) (fun ρ e => r4 ρ _ _ _ _ _ _ (e _ _ rfl)) rfl rfl ?_
      obtain ⟨g8, w9, r10, O11, hg12, hs13⟩ := own_box O5 27 (.agg #[.int .u64 (a.toNat : Int), .int .u64 (b.toNat : Int)]) rfl
      refine wl_val (v := .pointer (some ⟨g8, 0, none⟩)) (fun ρ e => r10 ρ _ _ _ _ _ _ (e _ _ rfl)) rfl rfl ?_
      refine wl_val (v := .bool false) (fun ρ e => ex_assign (e _ _ rfl)) rfl rfl ?_
      refine wl_nil ?_
      refine xw_next K1 ?_
      refine cw_seq (fun FK14 K14 => ?_)
      refine cw_seq (fun FK15 K15 => ?_)
      refine cw_region ?_
      refine wl_val (v := .agg #[.int .i64 (n : Int), .slice A gs.length c]) (fun ρ e => ex_loadN (vs := [.int .i64 (n : Int), .slice A gs.length c]) ty24 (e _ _ rfl) rfl (O11.cells 1 0 rfl rfl)) rfl rfl ?_
      refine wl_call (args := [.agg #[.int .i64 (n : Int), .slice A gs.length c]]) in_13 rfl rfl rfl ?_
      have h19 := light_ (N := (n : Int)) (gs := gs) ((hV.below O11.old).more O11.old.size)
      rw [hl] at h19
      refine h19.mono ?_
      rintro _ w16 ⟨rfl, hb17⟩
      have O18 : Own Z0 W w16 [.blk g8 27 #[.int .u64 (a.toNat : Int), .int .u64 (b.toNat : Int)], .blk g2 24 #[.int .i64 (n : Int), .slice A gs.length c]] := O11.below hb17
      refine ⟨_, rfl, ?_⟩
      refine wl_val (v := .bool false) (fun ρ e => ex_lnot (b := true) (e _ _ rfl)) rfl rfl ?_
      refine wl_val (v := .bool false) (fun ρ e => ex_move (e _ _ rfl)) rfl rfl ?_
      refine wl_val (v := .agg #[.int .i64 (n : Int), .slice A gs.length c]) (fun ρ e => ex_loadN (vs := [.int .i64 (n : Int), .slice A gs.length c]) ty24 (e _ _ rfl) rfl (O18.cells 1 0 rfl rfl)) rfl rfl ?_
      refine wl_call (args := [.agg #[.int .i64 (n : Int), .slice A gs.length c]]) in_22 rfl rfl rfl ?_
      refine (circ_check (n : Int) _ gs _ _ (Nat.le_refl _) ((hV.below O18.old).more O18.old.size) (light_size (N := (n : Int)) hlt.1 hlt.2)).mono ?_
      rintro _ w20 ⟨rfl, hb21⟩
      have O22 : Own Z0 W w20 [.blk g8 27 #[.int .u64 (a.toNat : Int), .int .u64 (b.toNat : Int)], .blk g2 24 #[.int .i64 (n : Int), .slice A gs.length c]] := O18.below hb21
      refine ⟨_, rfl, ?_⟩
      refine wl_val (v := .bool false) (fun ρ e => ex_cmp (u := (checkOf (n : Int) gs)) (v := 0) (e _ _ rfl) (e _ _ rfl) (neq0 (by omega))) rfl rfl ?_
      refine wl_val (v := .bool false) (fun ρ e => ex_pick0 (e _ _ rfl) (e _ _ rfl)) rfl rfl ?_
      refine wl_val (v := .bool false) (fun ρ e => ex_move (e _ _ rfl)) rfl rfl ?_
      refine wl_val (v := .pointer (some ⟨g2, 0, none⟩)) (fun ρ e => ex_field (q := 0) fi24_0 (e _ _ rfl) rfl) rfl rfl ?_
      refine wl_val (v := .int .i64 (n : Int)) (fun ρ e => ex_load1 ty3 (e _ _ rfl) (O22.cell 1 0 rfl rfl)) rfl rfl ?_
      refine wl_val (v := .bool false) (fun ρ e => ex_cmp (u := (n : Int)) (v := 1) (e _ _ rfl) (e _ _ rfl) (lss0 (by omega))) rfl rfl ?_
      refine wl_val (v := .bool false) (fun ρ e => ex_pick0 (e _ _ rfl) (e _ _ rfl)) rfl rfl ?_
      refine wl_nil ?_
      refine xw_next K15 ?_
      refine cw_false rfl ?_
      refine cw_skip ?_
      refine xw_next K14 ?_
      refine cw_seq (fun FK23 K23 => ?_)
      refine cw_region ?_
      refine wl_val (v := .int .u8 (m : Int)) (fun ρ e => ex_move (e _ _ rfl)) rfl rfl ?_
      refine wl_val (v := .int .i64 (m : Int)) (fun ρ e => ex_conv8 (a := m) (e _ _ rfl) (by omega)) rfl rfl ?_
      refine wl_val (v := .pointer (some ⟨g2, 0, none⟩)) (fun ρ e => ex_field (q := 0) fi24_0 (e _ _ rfl) rfl) rfl rfl ?_
      refine wl_val (v := .int .i64 (n : Int)) (fun ρ e => ex_load1 ty3 (e _ _ rfl) (O22.cell 1 0 rfl rfl)) rfl rfl ?_
      refine wl_val (v := .int .i64 (q : Int)) (fun ρ e => ex_rem (a := m) (b := n) (q := q) (e _ _ rfl) (e _ _ rfl) (by omega) hq) rfl rfl ?_
      refine wl_val (v := .int .i64 ((q : Int) + 1)) (fun ρ e => ex_arith (k := .i64) (u := 1) (v := (q : Int)) (e _ _ rfl) (e _ _ rfl) (congrArg some ((congrArg _ (by omega)).trans (wrap_in (u := (q : Int) + 1) (by omega) (by omega))))) rfl rfl ?_
      refine wl_val (v := .int .i64 ((q : Int) + 1)) (fun ρ e => ex_assign (e _ _ rfl)) rfl rfl ?_
      refine wl_nil ?_
      refine xw_next K23 ?_
      refine cw_seq (fun FK24 K24 => ?_)
      refine cw_region ?_
      refine wl_val (v := .agg #[.int .i64 (n : Int), .slice A gs.length c]) (fun ρ e => ex_loadN (vs := [.int .i64 (n : Int), .slice A gs.length c]) ty24 (e _ _ rfl) rfl (O22.cells 1 0 rfl rfl)) rfl rfl ?_
      refine wl_call (args := [.agg #[.int .i64 (n : Int), .slice A gs.length c]]) in_30 rfl rfl rfl ?_
      refine (cvars_ (N := (n : Int)) ((hV.below O22.old).more O22.old.size) (light_size (N := (n : Int)) hlt.1 hlt.2)).mono ?_
      rintro _ w25 ⟨rfl, hb26⟩
      have O27 : Own Z0 W w25 [.blk g8 27 #[.int .u64 (a.toNat : Int), .int .u64 (b.toNat : Int)], .blk g2 24 #[.int .i64 (n : Int), .slice A gs.length c]] := O22.below hb26
      refine ⟨_, rfl, ?_⟩
      obtain ⟨g28, w29, r30, O31, hg32, hs33⟩ := own_alloc O27 27 ze27 rfl
      refine wl_val (v := .pointer (some ⟨g28, 0, none⟩)) (fun ρ e => r30 ρ _ _ _ _ _) rfl rfl ?_
      obtain ⟨w34, r35, O36, hs37⟩ := own_put (o := 0) (n := 2) O31 ty27 (.agg #[.int .u64 ((varsOf (n : Int) gs).a.toNat : Int), .int .u64 ((varsOf (n : Int) gs).b.toNat : Int)]) [.int .u64 ((varsOf (n : Int) gs).a.toNat : Int), .int .u64 ((varsOf (n : Int) gs).b.toNat : Int)] (cs' := #[.int .u64 ((varsOf (n : Int) gs).a.toNat : Int), .int .u64 ((varsOf (n : Int) gs).b.toNat : Int)]) rfl rfl rfl (Nat.le_of_ble_eq_true rfl) rfl
      refine wl_none (fun ρ e => r35 ρ _ _ _ _ _ _ (e _ _ rfl) (e _ _ rfl)) rfl ?_
      refine wl_nil ?_
      refine xw_next K24 ?_
      refine cw_seq (fun FK38 K38 => ?_)
      refine cw_seq (fun FK39 K39 => ?_)
      refine cw_region ?_
      refine wl_val (v := .int .i64 ((q : Int) + 1)) (fun ρ e => ex_move (e _ _ rfl)) rfl rfl ?_
      refine wl_val (v := .int .i64 (q : Int)) (fun ρ e => ex_arith (k := .i64) (u := ((q : Int) + 1)) (v := 1) (e _ _ rfl) (e _ _ rfl) (congrArg some ((congrArg _ (by omega)).trans (wrap_in (u := (q : Int)) (by omega) (by omega))))) rfl rfl ?_
      refine wl_val (v := .int .i64 ((1 : Nat) : Int)) (fun ρ e => ex_quo (a := q) (b := 64) (q := 1) (e _ _ rfl) (e _ _ rfl) (by omega) (by omega) (by omega)) rfl rfl ?_
      refine wl_val (v := .pointer (some ⟨g28, 1, none⟩)) (fun ρ e => ex_idxA (i := 1) (q := 1) (e _ _ rfl) (e _ _ rfl) (by omega) rfl) rfl rfl ?_
      refine wl_val (v := .int .u64 ((varsOf (n : Int) gs).b.toNat : Int)) (fun ρ e => ex_load1 ty25 (e _ _ rfl) (O36.cell 0 1 rfl rfl)) rfl rfl ?_
      refine wl_val (v := .int .i64 ((q : Int) + 1)) (fun ρ e => ex_move (e _ _ rfl)) rfl rfl ?_
      refine wl_val (v := .int .i64 (q : Int)) (fun ρ e => ex_arith (k := .i64) (u := ((q : Int) + 1)) (v := 1) (e _ _ rfl) (e _ _ rfl) (congrArg some ((congrArg _ (by omega)).trans (wrap_in (u := (q : Int)) (by omega) (by omega))))) rfl rfl ?_
      refine wl_val (v := .int .i64 ((q - 64 : Nat) : Int)) (fun ρ e => ex_rem (a := q) (b := 64) (q := (q - 64)) (e _ _ rfl) (e _ _ rfl) (by omega) (by omega)) rfl rfl ?_
      refine wl_val (v := .int .u64 ((q - 64 : Nat) : Int)) (fun ρ e => ex_convU (a := (q - 64)) (e _ _ rfl) (by omega)) rfl rfl ?_
      refine wl_val (v := .int .u64 (((varsOf (n : Int) gs).b >>> (q - 64)).toNat : Int)) (fun ρ e => ex_shr (A := (varsOf (n : Int) gs).b) (k := (q - 64)) (e _ _ rfl) (e _ _ rfl) (by omega)) rfl rfl ?_
      refine wl_val (v := .int .u64 ((((varsOf (n : Int) gs).b >>> (q - 64)) &&& 1#64).toNat : Int)) (fun ρ e => ex_and1 (A := (varsOf (n : Int) gs).b >>> (q - 64)) (e _ _ rfl) (e _ _ rfl)) rfl rfl ?_
      refine wl_val (v := .bool false) (fun ρ e => ex_cmp (u := ((((varsOf (n : Int) gs).b >>> (q - 64)) &&& 1#64).toNat : Int)) (v := 1) (r := false) (e _ _ rfl) (e _ _ rfl) ((bitcmp _ _).trans (congrArg some hb))) rfl rfl ?_
      refine wl_nil ?_
      refine xw_next K39 ?_
      refine cw_false rfl ?_
      refine cw_skip ?_
      refine xw_next K38 ?_
      refine cw_seq (fun FK40 K40 => ?_)
      refine cw_region ?_
      refine wl_val (v := .agg #[.int .u64 (a.toNat : Int), .int .u64 (b.toNat : Int)]) (fun ρ e => ex_loadN (vs := [.int .u64 (a.toNat : Int), .int .u64 (b.toNat : Int)]) ty27 (e _ _ rfl) rfl (O36.cells 1 0 rfl rfl)) rfl rfl ?_
      obtain ⟨g41, w42, r43, O44, hg45, hs46⟩ := own_alloc O36 27 ze27 rfl
      refine wl_val (v := .pointer (some ⟨g41, 0, none⟩)) (fun ρ e => r43 ρ _ _ _ _ _) rfl rfl ?_
      obtain ⟨w47, r48, O49, hs50⟩ := own_put (o := 0) (n := 2) O44 ty27 (.agg #[.int .u64 (a.toNat : Int), .int .u64 (b.toNat : Int)]) [.int .u64 (a.toNat : Int), .int .u64 (b.toNat : Int)] (cs' := #[.int .u64 (a.toNat : Int), .int .u64 (b.toNat : Int)]) rfl rfl rfl (Nat.le_of_ble_eq_true rfl) rfl
      refine wl_none (fun ρ e => r48 ρ _ _ _ _ _ _ (e _ _ rfl) (e _ _ rfl)) rfl ?_
      refine wl_nil ?_
      refine xw_next K40 ?_
      refine cw_seq (fun FK51 K51 => ?_)
      refine cw_region ?_
      refine wl_val (v := .int .i64 ((q : Int) + 1)) (fun ρ e => ex_move (e _ _ rfl)) rfl rfl ?_
      refine wl_val (v := .int .i64 (q : Int)) (fun ρ e => ex_arith (k := .i64) (u := ((q : Int) + 1)) (v := 1) (e _ _ rfl) (e _ _ rfl) (congrArg some ((congrArg _ (by omega)).trans (wrap_in (u := (q : Int)) (by omega) (by omega))))) rfl rfl ?_
      refine wl_val (v := .int .i64 ((1 : Nat) : Int)) (fun ρ e => ex_quo (a := q) (b := 64) (q := 1) (e _ _ rfl) (e _ _ rfl) (by omega) (by omega) (by omega)) rfl rfl ?_
      refine wl_val (v := .pointer (some ⟨g41, 1, none⟩)) (fun ρ e => ex_idxA (i := 1) (q := 1) (e _ _ rfl) (e _ _ rfl) (by omega) rfl) rfl rfl ?_
      refine wl_val (v := .int .u64 (b.toNat : Int)) (fun ρ e => ex_load1 ty25 (e _ _ rfl) (O49.cell 0 1 rfl rfl)) rfl rfl ?_
      refine wl_val (v := .int .i64 ((q : Int) + 1)) (fun ρ e => ex_move (e _ _ rfl)) rfl rfl ?_
      refine wl_val (v := .int .i64 (q : Int)) (fun ρ e => ex_arith (k := .i64) (u := ((q : Int) + 1)) (v := 1) (e _ _ rfl) (e _ _ rfl) (congrArg some ((congrArg _ (by omega)).trans (wrap_in (u := (q : Int)) (by omega) (by omega))))) rfl rfl ?_
      refine wl_val (v := .int .i64 ((q - 64 : Nat) : Int)) (fun ρ e => ex_rem (a := q) (b := 64) (q := (q - 64)) (e _ _ rfl) (e _ _ rfl) (by omega) (by omega)) rfl rfl ?_
      refine wl_val (v := .int .u64 ((q - 64 : Nat) : Int)) (fun ρ e => ex_convU (a := (q - 64)) (e _ _ rfl) (by omega)) rfl rfl ?_
      refine wl_val (v := .int .u64 ((1#64 <<< (q - 64)).toNat : Int)) (fun ρ e => ex_shl1 (k := (q - 64)) (e _ _ rfl) (e _ _ rfl) (by omega)) rfl rfl ?_
      refine wl_val (v := .int .u64 ((b ^^^ (1#64 <<< (q - 64))).toNat : Int)) (fun ρ e => ex_xor (A := b) (B := 1#64 <<< (q - 64)) (e _ _ rfl) (e _ _ rfl)) rfl rfl ?_
      refine wl_val (v := .pointer (some ⟨g41, 1, none⟩)) (fun ρ e => ex_idxA (i := 1) (q := 1) (e _ _ rfl) (e _ _ rfl) (by omega) rfl) rfl rfl ?_
      obtain ⟨w52, r53, O54, hs55⟩ := own_put (o := 1) (n := 1) O49 ty25 (.int .u64 ((b ^^^ (1#64 <<< (q - 64))).toNat : Int)) [.int .u64 ((b ^^^ (1#64 <<< (q - 64))).toNat : Int)] (cs' := #[.int .u64 (a.toNat : Int), .int .u64 ((b ^^^ (1#64 <<< (q - 64))).toNat : Int)]) rfl rfl rfl (Nat.le_of_ble_eq_true rfl) rfl
      refine wl_none (fun ρ e => r53 ρ _ _ _ _ _ _ (e _ _ rfl) (e _ _ rfl)) rfl ?_
      refine wl_nil ?_
      refine xw_next K51 ?_
      refine cw_seq (fun FK56 K56 => ?_)
      refine cw_drawn (fun X => Own Z0 W X [.blk g41 27 #[.int .u64 (a.toNat : Int), .int .u64 ((b ^^^ (1#64 <<< (q - 64))).toNat : Int)], .blk g28 27 #[.int .u64 ((varsOf (n : Int) gs).a.toNat : Int), .int .u64 ((varsOf (n : Int) gs).b.toNat : Int)], .blk g8 27 #[.int .u64 (a.toNat : Int), .int .u64 (b.toNat : Int)], .blk g2 24 #[.int .i64 (n : Int), .slice A gs.length c]]) 10 [(0, 0), (1, 0), (3, 0), (4, 0), (2, 2), (5, 2), (6, 1), (7, 1), (8, 2), (9, 1), (10, 3)] (by kernel_rfl) (by kernel_rfl) (PQ.then_ PQ.body) (O54).drew ?_
      have O57 : Own Z0 W w52.drew [.blk g41 27 #[.int .u64 (a.toNat : Int), .int .u64 ((b ^^^ (1#64 <<< (q - 64))).toNat : Int)], .blk g28 27 #[.int .u64 ((varsOf (n : Int) gs).a.toNat : Int), .int .u64 ((varsOf (n : Int) gs).b.toNat : Int)], .blk g8 27 #[.int .u64 (a.toNat : Int), .int .u64 (b.toNat : Int)], .blk g2 24 #[.int .i64 (n : Int), .slice A gs.length c]] := O54.drew
      refine wt0 (v := .agg #[.int .i64 (n : Int), .slice A gs.length c]) rfl (fun ρ e W hW => ex_loadN (vs := [.int .i64 (n : Int), .slice A gs.length c]) ty24 (e _ _ rfl) rfl (hW.cells 3 0 rfl rfl)) rfl rfl ?_
      refine wt0 (v := .agg #[.int .u64 (a.toNat : Int), .int .u64 (b.toNat : Int)]) rfl (fun ρ e W hW => ex_loadN (vs := [.int .u64 (a.toNat : Int), .int .u64 (b.toNat : Int)]) ty27 (e _ _ rfl) rfl (hW.cells 2 0 rfl rfl)) rfl rfl ?_
      refine wt0 (v := .agg #[.int .i64 (n : Int), .slice A gs.length c]) rfl (fun ρ e W hW => ex_loadN (vs := [.int .i64 (n : Int), .slice A gs.length c]) ty24 (e _ _ rfl) rfl (hW.cells 3 0 rfl rfl)) rfl rfl ?_
      refine wt0 (v := .agg #[.int .u64 (a.toNat : Int), .int .u64 ((b ^^^ (1#64 <<< (q - 64))).toNat : Int)]) rfl (fun ρ e W hW => ex_loadN (vs := [.int .u64 (a.toNat : Int), .int .u64 ((b ^^^ (1#64 <<< (q - 64))).toNat : Int)]) ty27 (e _ _ rfl) rfl (hW.cells 0 0 rfl rfl)) rfl rfl ?_
      refine wt2_call (args := [.agg #[.int .i64 (n : Int), .slice A gs.length c], .agg #[.int .u64 (a.toNat : Int), .int .u64 (b.toNat : Int)]]) rfl in_15 rfl rfl rfl ?_
      refine (circ_eval (n : Int) _ gs a b _ _ (Nat.le_refl _) ((hV.below O57.old).more O57.old.size) (light_size (N := (n : Int)) hlt.1 hlt.2) hN0 hN1).mono ?_
      rintro _ w58 ⟨rfl, hb59⟩
      have O60 : Own Z0 W w58 [.blk g41 27 #[.int .u64 (a.toNat : Int), .int .u64 ((b ^^^ (1#64 <<< (q - 64))).toNat : Int)], .blk g28 27 #[.int .u64 ((varsOf (n : Int) gs).a.toNat : Int), .int .u64 ((varsOf (n : Int) gs).b.toNat : Int)], .blk g8 27 #[.int .u64 (a.toNat : Int), .int .u64 (b.toNat : Int)], .blk g2 24 #[.int .i64 (n : Int), .slice A gs.length c]] := O57.below hb59
      refine ⟨_, rfl, O60, ?_⟩
      refine wt2_call (args := [.agg #[.int .i64 (n : Int), .slice A gs.length c], .agg #[.int .u64 (a.toNat : Int), .int .u64 ((b ^^^ (1#64 <<< (q - 64))).toNat : Int)]]) rfl in_15 rfl rfl rfl ?_
      refine (circ_eval (n : Int) _ gs a (b ^^^ (1#64 <<< (q - 64))) _ _ (Nat.le_refl _) ((hV.below O60.old).more O60.old.size) (light_size (N := (n : Int)) hlt.1 hlt.2) hN0 hN1).mono ?_
      rintro _ w61 ⟨rfl, hb62⟩
      have O63 : Own Z0 W w61 [.blk g41 27 #[.int .u64 (a.toNat : Int), .int .u64 ((b ^^^ (1#64 <<< (q - 64))).toNat : Int)], .blk g28 27 #[.int .u64 ((varsOf (n : Int) gs).a.toNat : Int), .int .u64 ((varsOf (n : Int) gs).b.toNat : Int)], .blk g8 27 #[.int .u64 (a.toNat : Int), .int .u64 (b.toNat : Int)], .blk g2 24 #[.int .i64 (n : Int), .slice A gs.length c]] := O60.below hb62
      refine ⟨_, rfl, O63, ?_⟩
      refine wt1 (v := .bool true) rfl (fun ρ e W => (ex_eqb (b := (evalOf (n : Int) gs ⟨a, b⟩)) (b' := (evalOf (n : Int) gs ⟨a, (b ^^^ (1#64 <<< (q - 64)))⟩)) (e _ _ rfl) (e _ _ rfl)).trans (by rw [hfl, beq_self_eq_true])) rfl rfl ?_
      refine wt1 (v := .bool true) rfl (fun ρ e W => ex_move (e _ _ rfl)) rfl rfl ?_
      refine wt2_call (args := []) rfl in_14 rfl rfl rfl ?_
      refine (works_ (tab.below (Nat.le_refl _) O63.old)).mono ?_
      rintro _ w64 ⟨rfl, hb65⟩
      have O66 : Own Z0 W w64 [.blk g41 27 #[.int .u64 (a.toNat : Int), .int .u64 ((b ^^^ (1#64 <<< (q - 64))).toNat : Int)], .blk g28 27 #[.int .u64 ((varsOf (n : Int) gs).a.toNat : Int), .int .u64 ((varsOf (n : Int) gs).b.toNat : Int)], .blk g8 27 #[.int .u64 (a.toNat : Int), .int .u64 (b.toNat : Int)], .blk g2 24 #[.int .i64 (n : Int), .slice A gs.length c]] := O63.below hb65
      refine ⟨_, rfl, O66, ?_⟩
      refine wt1 (v := .bool true) rfl (fun ρ e W => ex_pick1 (e _ _ rfl) (e _ _ rfl)) rfl rfl ?_
      refine wt3 (v := .bool true) rfl (fun ρ e => ex_assign (e _ _ rfl)) rfl rfl ?_
      refine wt_nil ?_
      refine xw_next K56 ?_
      refine cw_ret ?_
      refine xw_ret (v := .bool true) (fun T hT => res1 rfl T _ (hT 6 _ rfl)) ?_
      exact ⟨rfl, O66.old⟩
    · skip
      have O0 : Own Z0 W W [] := Own.start W
      refine sx_enter (args := [.agg #[.int .i64 (n : Int), .slice A gs.length c], .agg #[.int .u64 (a.toNat : Int), .int .u64 (b.toNat : Int)], .int .u8 (m : Int)]) Tryd.func12 rfl rfl (by simp) ?_
      refine cw_seq (fun FK1 K1 => ?_)
      refine cw_region ?_
      obtain ⟨g2, w3, r4, O5, hg6, hs7⟩ := own_box O0 24 (.agg #[.int .i64 (n : Int), .slice A gs.length c]) rfl
      refine wl_val (v := .pointer (some ⟨g2, 0, none⟩)) (fun ρ e => r4 ρ _ _ _ _ _ _ (e _ _ rfl)) rfl rfl ?_
      obtain ⟨g8, w9, r10, O11, hg12, hs13⟩ := own_box O5 27 (.agg #[.int .u64 (a.toNat : Int), .int .u64 (b.toNat : Int)]) rfl
      refine wl_val (v := .pointer (some ⟨g8, 0, none⟩)) (fun ρ e => r10 ρ _ _ _ _ _ _ (e _ _ rfl)) rfl rfl ?_
      refine wl_val (v := .bool false) (fun ρ e => ex_assign (e _ _ rfl)) rfl rfl ?_
      refine wl_nil ?_
      refine xw_next K1 ?_
      refine cw_seq (fun FK14 K14 => ?_)
      refine cw_seq (fun FK15 K15 => ?_)
      refine cw_region ?_
      refine wl_val (v := .agg #[.int .i64 (n : Int), .slice A gs.length c]) (fun ρ e => ex_loadN (vs := [.int .i64 (n : Int), .slice A gs.length c]) ty24 (e _ _ rfl) rfl (O11.cells 1 0 rfl rfl)) rfl rfl ?_
      refine wl_call (args := [.agg #[.int .i64 (n : Int), .slice A gs.length c]]) in_13 rfl rfl rfl ?_
      have h19 := light_ (N := (n : Int)) (gs := gs) ((hV.below O11.old).more O11.old.size)
      rw [hl] at h19
      refine h19.mono ?_
      rintro _ w16 ⟨rfl, hb17⟩
      have O18 : Own Z0 W w16 [.blk g8 27 #[.int .u64 (a.toNat : Int), .int .u64 (b.toNat : Int)], .blk g2 24 #[.int .i64 (n : Int), .slice A gs.length c]] := O11.below hb17
      refine ⟨_, rfl, ?_⟩
      refine wl_val (v := .bool false) (fun ρ e => ex_lnot (b := true) (e _ _ rfl)) rfl rfl ?_
      refine wl_val (v := .bool false) (fun ρ e => ex_move (e _ _ rfl)) rfl rfl ?_
      refine wl_val (v := .agg #[.int .i64 (n : Int), .slice A gs.length c]) (fun ρ e => ex_loadN (vs := [.int .i64 (n : Int), .slice A gs.length c]) ty24 (e _ _ rfl) rfl (O18.cells 1 0 rfl rfl)) rfl rfl ?_
      refine wl_call (args := [.agg #[.int .i64 (n : Int), .slice A gs.length c]]) in_22 rfl rfl rfl ?_
      refine (circ_check (n : Int) _ gs _ _ (Nat.le_refl _) ((hV.below O18.old).more O18.old.size) (light_size (N := (n : Int)) hlt.1 hlt.2)).mono ?_
      rintro _ w20 ⟨rfl, hb21⟩
      have O22 : Own Z0 W w20 [.blk g8 27 #[.int .u64 (a.toNat : Int), .int .u64 (b.toNat : Int)], .blk g2 24 #[.int .i64 (n : Int), .slice A gs.length c]] := O18.below hb21
      refine ⟨_, rfl, ?_⟩
      refine wl_val (v := .bool false) (fun ρ e => ex_cmp (u := (checkOf (n : Int) gs)) (v := 0) (e _ _ rfl) (e _ _ rfl) (neq0 (by omega))) rfl rfl ?_
      refine wl_val (v := .bool false) (fun ρ e => ex_pick0 (e _ _ rfl) (e _ _ rfl)) rfl rfl ?_
      refine wl_val (v := .bool false) (fun ρ e => ex_move (e _ _ rfl)) rfl rfl ?_
      refine wl_val (v := .pointer (some ⟨g2, 0, none⟩)) (fun ρ e => ex_field (q := 0) fi24_0 (e _ _ rfl) rfl) rfl rfl ?_
      refine wl_val (v := .int .i64 (n : Int)) (fun ρ e => ex_load1 ty3 (e _ _ rfl) (O22.cell 1 0 rfl rfl)) rfl rfl ?_
      refine wl_val (v := .bool false) (fun ρ e => ex_cmp (u := (n : Int)) (v := 1) (e _ _ rfl) (e _ _ rfl) (lss0 (by omega))) rfl rfl ?_
      refine wl_val (v := .bool false) (fun ρ e => ex_pick0 (e _ _ rfl) (e _ _ rfl)) rfl rfl ?_
      refine wl_nil ?_
      refine xw_next K15 ?_
      refine cw_false rfl ?_
      refine cw_skip ?_
      refine xw_next K14 ?_
      refine cw_seq (fun FK23 K23 => ?_)
      refine cw_region ?_
      refine wl_val (v := .int .u8 (m : Int)) (fun ρ e => ex_move (e _ _ rfl)) rfl rfl ?_
      refine wl_val (v := .int .i64 (m : Int)) (fun ρ e => ex_conv8 (a := m) (e _ _ rfl) (by omega)) rfl rfl ?_
      refine wl_val (v := .pointer (some ⟨g2, 0, none⟩)) (fun ρ e => ex_field (q := 0) fi24_0 (e _ _ rfl) rfl) rfl rfl ?_
      refine wl_val (v := .int .i64 (n : Int)) (fun ρ e => ex_load1 ty3 (e _ _ rfl) (O22.cell 1 0 rfl rfl)) rfl rfl ?_
      refine wl_val (v := .int .i64 (q : Int)) (fun ρ e => ex_rem (a := m) (b := n) (q := q) (e _ _ rfl) (e _ _ rfl) (by omega) hq) rfl rfl ?_
      refine wl_val (v := .int .i64 ((q : Int) + 1)) (fun ρ e => ex_arith (k := .i64) (u := 1) (v := (q : Int)) (e _ _ rfl) (e _ _ rfl) (congrArg some ((congrArg _ (by omega)).trans (wrap_in (u := (q : Int) + 1) (by omega) (by omega))))) rfl rfl ?_
      refine wl_val (v := .int .i64 ((q : Int) + 1)) (fun ρ e => ex_assign (e _ _ rfl)) rfl rfl ?_
      refine wl_nil ?_
      refine xw_next K23 ?_
      refine cw_seq (fun FK24 K24 => ?_)
      refine cw_region ?_
      refine wl_val (v := .agg #[.int .i64 (n : Int), .slice A gs.length c]) (fun ρ e => ex_loadN (vs := [.int .i64 (n : Int), .slice A gs.length c]) ty24 (e _ _ rfl) rfl (O22.cells 1 0 rfl rfl)) rfl rfl ?_
      refine wl_call (args := [.agg #[.int .i64 (n : Int), .slice A gs.length c]]) in_30 rfl rfl rfl ?_
      refine (cvars_ (N := (n : Int)) ((hV.below O22.old).more O22.old.size) (light_size (N := (n : Int)) hlt.1 hlt.2)).mono ?_
      rintro _ w25 ⟨rfl, hb26⟩
      have O27 : Own Z0 W w25 [.blk g8 27 #[.int .u64 (a.toNat : Int), .int .u64 (b.toNat : Int)], .blk g2 24 #[.int .i64 (n : Int), .slice A gs.length c]] := O22.below hb26
      refine ⟨_, rfl, ?_⟩
      obtain ⟨g28, w29, r30, O31, hg32, hs33⟩ := own_alloc O27 27 ze27 rfl
      refine wl_val (v := .pointer (some ⟨g28, 0, none⟩)) (fun ρ e => r30 ρ _ _ _ _ _) rfl rfl ?_
      obtain ⟨w34, r35, O36, hs37⟩ := own_put (o := 0) (n := 2) O31 ty27 (.agg #[.int .u64 ((varsOf (n : Int) gs).a.toNat : Int), .int .u64 ((varsOf (n : Int) gs).b.toNat : Int)]) [.int .u64 ((varsOf (n : Int) gs).a.toNat : Int), .int .u64 ((varsOf (n : Int) gs).b.toNat : Int)] (cs' := #[.int .u64 ((varsOf (n : Int) gs).a.toNat : Int), .int .u64 ((varsOf (n : Int) gs).b.toNat : Int)]) rfl rfl rfl (Nat.le_of_ble_eq_true rfl) rfl
      refine wl_none (fun ρ e => r35 ρ _ _ _ _ _ _ (e _ _ rfl) (e _ _ rfl)) rfl ?_
      refine wl_nil ?_
      refine xw_next K24 ?_
      refine cw_seq (fun FK38 K38 => ?_)
      refine cw_seq (fun FK39 K39 => ?_)
      refine cw_region ?_
      refine wl_val (v := .int .i64 ((q : Int) + 1)) (fun ρ e => ex_move (e _ _ rfl)) rfl rfl ?_
      refine wl_val (v := .int .i64 (q : Int)) (fun ρ e => ex_arith (k := .i64) (u := ((q : Int) + 1)) (v := 1) (e _ _ rfl) (e _ _ rfl) (congrArg some ((congrArg _ (by omega)).trans (wrap_in (u := (q : Int)) (by omega) (by omega))))) rfl rfl ?_
      refine wl_val (v := .int .i64 ((1 : Nat) : Int)) (fun ρ e => ex_quo (a := q) (b := 64) (q := 1) (e _ _ rfl) (e _ _ rfl) (by omega) (by omega) (by omega)) rfl rfl ?_
      refine wl_val (v := .pointer (some ⟨g28, 1, none⟩)) (fun ρ e => ex_idxA (i := 1) (q := 1) (e _ _ rfl) (e _ _ rfl) (by omega) rfl) rfl rfl ?_
      refine wl_val (v := .int .u64 ((varsOf (n : Int) gs).b.toNat : Int)) (fun ρ e => ex_load1 ty25 (e _ _ rfl) (O36.cell 0 1 rfl rfl)) rfl rfl ?_
      refine wl_val (v := .int .i64 ((q : Int) + 1)) (fun ρ e => ex_move (e _ _ rfl)) rfl rfl ?_
      refine wl_val (v := .int .i64 (q : Int)) (fun ρ e => ex_arith (k := .i64) (u := ((q : Int) + 1)) (v := 1) (e _ _ rfl) (e _ _ rfl) (congrArg some ((congrArg _ (by omega)).trans (wrap_in (u := (q : Int)) (by omega) (by omega))))) rfl rfl ?_
      refine wl_val (v := .int .i64 ((q - 64 : Nat) : Int)) (fun ρ e => ex_rem (a := q) (b := 64) (q := (q - 64)) (e _ _ rfl) (e _ _ rfl) (by omega) (by omega)) rfl rfl ?_
      refine wl_val (v := .int .u64 ((q - 64 : Nat) : Int)) (fun ρ e => ex_convU (a := (q - 64)) (e _ _ rfl) (by omega)) rfl rfl ?_
      refine wl_val (v := .int .u64 (((varsOf (n : Int) gs).b >>> (q - 64)).toNat : Int)) (fun ρ e => ex_shr (A := (varsOf (n : Int) gs).b) (k := (q - 64)) (e _ _ rfl) (e _ _ rfl) (by omega)) rfl rfl ?_
      refine wl_val (v := .int .u64 ((((varsOf (n : Int) gs).b >>> (q - 64)) &&& 1#64).toNat : Int)) (fun ρ e => ex_and1 (A := (varsOf (n : Int) gs).b >>> (q - 64)) (e _ _ rfl) (e _ _ rfl)) rfl rfl ?_
      refine wl_val (v := .bool true) (fun ρ e => ex_cmp (u := ((((varsOf (n : Int) gs).b >>> (q - 64)) &&& 1#64).toNat : Int)) (v := 1) (r := true) (e _ _ rfl) (e _ _ rfl) ((bitcmp _ _).trans (congrArg some hb))) rfl rfl ?_
      refine wl_nil ?_
      refine xw_next K39 ?_
      refine cw_true rfl ?_
      refine cw_seq (fun FK40 K40 => ?_)
      refine cw_region ?_
      refine wl_call (args := []) in_14 rfl rfl rfl ?_
      refine (works_ (tab.below (Nat.le_refl _) O36.old)).mono ?_
      rintro _ w41 ⟨rfl, hb42⟩
      have O43 : Own Z0 W w41 [.blk g28 27 #[.int .u64 ((varsOf (n : Int) gs).a.toNat : Int), .int .u64 ((varsOf (n : Int) gs).b.toNat : Int)], .blk g8 27 #[.int .u64 (a.toNat : Int), .int .u64 (b.toNat : Int)], .blk g2 24 #[.int .i64 (n : Int), .slice A gs.length c]] := O36.below hb42
      refine ⟨_, rfl, ?_⟩
      refine wl_val (v := .bool true) (fun ρ e => ex_assign (e _ _ rfl)) rfl rfl ?_
      refine wl_nil ?_
      refine xw_next K40 ?_
      refine cw_ret ?_
      refine xw_past (by intro h; cases h) ?_
      refine xw_ret (v := .bool true) (fun T hT => res1 rfl T _ (hT 6 _ rfl)) ?_
      exact ⟨rfl, O43.old⟩
end Go.Proofs.YtbemhgojfehnjaaDoor
namespace Go.Proofs.YtbemhgojfehnjaaDoor
open Go Go.RowKit
/-- The row of n gates of which the first i have been written. -/
def longG (i n : Nat) : List Gate := List.replicate i ⟨2, -128, []⟩ ++ List.replicate (n - i) ⟨0, 0, []⟩
def nilsV (n : Nat) : List Value := List.replicate n (.slice none 0 0)
def zeros (n : Nat) : List Int := List.replicate n 0
theorem zeros_len (n : Nat) : (zeros n).length = n := by simp [zeros]
theorem longG_len {i n : Nat} (h : i ≤ n) : (longG i n).length = n := by simp [longG]; omega
theorem nilsV_len (n : Nat) : (nilsV n).length = n := by simp [nilsV]
theorem longG_full (n : Nat) : longG n n = List.replicate n ⟨2, -128, []⟩ := by simp [longG]
theorem longG_inp {i n : Nat} {g : Gate} (h : g ∈ longG i n) : g.inp = [] := by
  unfold longG at h
  rcases List.mem_append.1 h with h | h <;> rw [(List.mem_replicate.1 h).2]
theorem longG_cells {i n : Nat} (h : i ≤ n) : (gcells (longG i n) (nilsV n)).toArray.size = n * 3 := by
  have := gcells_len (longG i n) (nilsV n) (by rw [longG_len h, nilsV_len])
  simp [this, longG_len h]
theorem setN_list : ∀ (vs : List Value) (l : List Value) (o : Nat), setN l.toArray o vs = (vs.foldl (fun (q : List Value × Nat) v => (q.1.set q.2 v, q.2 + 1)) (l, o)).1.toArray
  | [], _, _ => rfl
  | v :: r, l, o => by
    unfold setN
    rw [List.foldl_cons, ← setN_list r]
    simp
theorem setN3 (l : List Value) (o : Nat) (a b c : Value) : setN l.toArray o [a, b, c] = (((l.set o a).set (o + 1) b).set (o + 2) c).toArray := by
  rw [setN_list]; rfl
theorem gcells_set {g : Gate} {v : Value} : ∀ (L : List Gate) (vs : List Value) (i : Nat), L.length = vs.length → i < L.length → ((((gcells L vs).set (i * 3) (.int .i64 g.kind)).set (i * 3 + 1) (.int .i64 g.lit)).set (i * 3 + 2) v) = gcells (L.set i g) (vs.set i v)
  | [], _, _, _, h => by simp at h
  | x :: L, [], _, h, _ => by simp at h
  | x :: L, y :: vs, 0, _, _ => by simp [gcells, gcell]
  | x :: L, y :: vs, i + 1, h, hi => by
    have := gcells_set (g := g) (v := v) L vs i (by simpa using h) (by simpa using hi)
    simp only [List.set_cons_succ, gcells, gcell, Nat.succ_mul, List.cons_append, List.nil_append]
    rw [← this]
theorem longG_set {i n : Nat} (h : i < n) : (longG i n).set i ⟨2, -128, []⟩ = longG (i + 1) n := by
  unfold longG
  obtain ⟨k, hk⟩ : ∃ k, n - i = k + 1 := ⟨n - i - 1, by omega⟩
  have h2 : n - (i + 1) = k := by omega
  rw [hk, h2, List.set_append_right _ _ (by simp)]
  have e : ∀ (i : Nat) (a : Gate) (R : List Gate), List.replicate i a ++ a :: R = a :: (List.replicate i a ++ R) := by
    intro i a R
    induction i with
    | zero => rfl
    | succ i ih => rw [List.replicate_succ, List.cons_append, ih, List.cons_append]
  simp [List.replicate_succ, e]
theorem nilsV_set (i n : Nat) : (nilsV n).set i (.slice none 0 0) = nilsV n := by
  apply List.ext_getElem?
  intro j
  rw [List.getElem?_set]
  split
  · rename_i h
    subst h
    split
    · rename_i h; simp [nilsV] at h ⊢; simp [h]
    · rename_i h; simp [nilsV] at h ⊢; omega
  · rfl
theorem long_store {i n : Nat} (h : i < n) : setN (gcells (longG i n) (nilsV n)).toArray (i * 3) [.int .i64 2, .int .i64 (-128), .slice none 0 0] = (gcells (longG (i + 1) n) (nilsV n)).toArray := by
  rw [setN3]
  have := gcells_set (g := ⟨2, -128, []⟩) (v := .slice none 0 0) (longG i n) (nilsV n) i (by rw [longG_len (by omega), nilsV_len]) (by rw [longG_len (by omega)]; omega)
  rw [longG_set h, nilsV_set] at this
  rw [this]
theorem madeG (n : Nat) : madeCells #[.int .i64 0, .int .i64 0, .slice none 0 0] (n * 3) = (gcells (longG 0 n) (nilsV n)).toArray := by
  have hs := longG_cells (Nat.zero_le n)
  apply Array.ext
  · rw [size_madeCells, hs]
  · intro i h1 h2
    rw [size_madeCells] at h1
    have hk : i / 3 < n := by omega
    have hL : (longG 0 n)[i / 3]? = some ⟨0, 0, []⟩ := by simp [longG, hk]
    have hv : (nilsV n)[i / 3]? = some (.slice none 0 0) := by simp [nilsV, hk]
    obtain ⟨a, b, c⟩ := gcells_get hL hv
    have hm : ∀ z : Value, #[Value.int .i64 0, .int .i64 0, .slice none 0 0][i % 3]? = some z → (madeCells #[.int .i64 0, .int .i64 0, .slice none 0 0] (n * 3))[i]? = some z := by
      intro z hz
      simp only [madeCells, Array.getElem?_map]
      rw [Array.getElem?_range, if_pos h1]
      simp only [Option.map_some]
      show some (#[Value.int .i64 0, .int .i64 0, .slice none 0 0][i % 3]!) = _
      rw [getElem!_def, hz]
    have e : ∀ z : Value, (gcells (longG 0 n) (nilsV n))[i]? = some z → #[Value.int .i64 0, .int .i64 0, .slice none 0 0][i % 3]? = some z → (madeCells #[.int .i64 0, .int .i64 0, .slice none 0 0] (n * 3))[i]'(by rw [size_madeCells]; exact h1) = (gcells (longG 0 n) (nilsV n)).toArray[i] := by
      intro z hz hy
      have h3 := hm z hy
      rw [Array.getElem?_eq_getElem (by rw [size_madeCells]; exact h1)] at h3
      have h4 : (gcells (longG 0 n) (nilsV n)).toArray[i]? = some z := by simpa using hz
      rw [Array.getElem?_eq_getElem h2] at h4
      injection h3 with h3
      injection h4 with h4
      rw [h3, h4]
    rcases (by omega : i % 3 = 0 ∨ i % 3 = 1 ∨ i % 3 = 2) with h | h | h
    · exact e _ (by rw [← a]; congr 1; omega) (by rw [h]; rfl)
    · exact e _ (by rw [← b]; congr 1; omega) (by rw [h]; rfl)
    · exact e _ (by rw [← c]; congr 1; omega) (by rw [h]; rfl)
section
variable {Z : Bool → Nat → Prop} {w0 w W : World} {L : List En}
theorem own_makeG (O : Own Z w0 w L) (n : Nat) {m : Int} (hm : m = (n : Int)) (hn : n ≤ 1000000) :
    ∃ g w', (∀ (ρ : Operand → Value) x y d t pos aft gd, ρ x = .int .i64 m → ρ y = .int .i64 m → (execOp ρ ⟨d, .makeSlice 22 x y, t, pos, aft, gd⟩).run Tryd.prog w = .ok (.value (.slice (some ⟨g, 0, none⟩) n n)) w') ∧ Own Z w0 w' (.blk g 38 (gcells (longG 0 n) (nilsV n)).toArray :: L) ∧ w.heap.size = g ∧ w'.heap.size = g + 1 := by
  subst hm
  obtain ⟨i, hi, hz, hsz, hby⟩ := info_parts ap22.info
  have hb8 : ((i.bytes : Nat) : Int) * (n : Int) ≤ 281474976710656 := by
    rw [hby]; omega
  have hr := run_make (P := Tryd.prog) w 22 38 i _ ap22.under hi hz .i64 .i64 n n (by omega) (by omega) hb8 (by omega)
  have hzc : (Value.agg #[.int .i64 0, .int .i64 0, .slice none 0 0]).cells = #[.int .i64 0, .int .i64 0, .slice none 0 0] := rfl
  rw [hsz, hzc, Int.toNat_natCast, madeG] at hr
  refine ⟨w.heap.size, _, fun ρ x y d t pos aft gd hx hy => ?_, O.newb ((Below.refl _ _).alloc (Nat.le_refl _) _) (Blk.new w 38 _) rfl, rfl, by simp⟩
  simp only [execOp, hx, hy, Sem.run_bind, hr, Result.andThen_ok, Sem.run_pure]
theorem own_makeZ (O : Own Z w0 w L) (n : Nat) {m : Int} (hm : m = (n : Int)) (hn : n ≤ 1000000) :
    ∃ g w', (∀ (ρ : Operand → Value) x y d t pos aft gd, ρ x = .int .i64 m → ρ y = .int .i64 m → (execOp ρ ⟨d, .makeSlice 36 x y, t, pos, aft, gd⟩).run Tryd.prog w = .ok (.value (.slice (some ⟨g, 0, none⟩) n n)) w') ∧ Own Z w0 w' (.blk g 3 ((zeros n).map fun x => Value.int .i64 x).toArray :: L) ∧ w.heap.size = g ∧ w'.heap.size = g + 1 := by
  subst hm
  exact own_make1 O ap36 rfl n (by decide) (by omega) (by simp [zeros])
end
theorem long_ins (D : Nat → Prop) (w : World) (n : Nat) : Ins D (longG n n) (nilsV n) w := by
  refine ⟨by rw [longG_len (Nat.le_refl _), nilsV_len], fun i g v h1 h2 => ?_⟩
  have hg := longG_inp (List.mem_of_getElem? h1)
  have hv : v = .slice none 0 0 := (List.mem_replicate.1 (List.mem_of_getElem? h2)).2
  rw [hg, hv]
  exact IntsD.nil _ _
theorem ex_gatesOf {ρ : Operand → Value} {d : Option Tmp} {x : Operand} {t : TypeId} {pos : String} {aft : Array Edge} {gd : Option (Nat × Bool)} {w : World} {k : Int} {A : Option Addr} {n c : Nat} (hx : ρ x = .agg #[.int .i64 k, .slice A n c]) : (execOp ρ ⟨d, .field 24 x 1, t, pos, aft, gd⟩).run Tryd.prog w = .ok (.value (.slice A n c)) w := by
  simp [go_sem, hx, Instr.field, run_underlying Tryd.underlying24, asAgg]
/-! What Check says. -/
theorem size0 {gs : List Gate} (h : ∀ g ∈ gs, g.inp = []) : sizeOf gs = 0 := by
  have : ∀ l : List Gate, (∀ g ∈ l, g.inp = []) → (l.map fun g => g.inp.length).sum = 0 := by
    intro l hl
    induction l with
    | nil => rfl
    | cons x l ih =>
      rw [List.map_cons, List.sum_cons, hl x (List.mem_cons_self ..), ih (fun g hg => hl g (List.mem_cons_of_mem _ hg))]
      rfl
  unfold sizeOf sizeTo
  rw [List.take_length]
  exact this gs h
theorem check_long {n : Nat} (hn : n = 4096) : checkOf 128 (longG n n) = 0 := by
  unfold checkOf
  rw [longG_len (Nat.le_refl _), size0 (fun g hg => longG_inp hg), if_neg (by omega), if_neg (by omega), if_neg (by omega), if_pos]
  rw [goodTo_iff]
  intro i hi
  rw [goodAt_eq _ _ _ (by rw [longG_len (Nat.le_refl _)]; exact hi)]
  have : (longG n n)[i]'(by rw [longG_len (Nat.le_refl _)]; exact hi) = ⟨2, -128, []⟩ := by simp [longG_full]
  rw [this]
  rfl
theorem check_over {n : Nat} (hn : n = 4096) (g : Gate) : checkOf 128 (longG n n ++ [g]) = 2 := by
  unfold checkOf
  rw [List.length_append, longG_len (Nat.le_refl _), if_neg (by omega), if_pos]
  left
  show 4096 < n + 1
  omega
theorem size_two (a b : Gate) : sizeOf [a, b] = a.inp.length + b.inp.length := by simp [sizeOf, sizeTo]
theorem size_three (a b c : Gate) : sizeOf [a, b, c] = a.inp.length + b.inp.length + c.inp.length := by simp [sizeOf, sizeTo]; omega
theorem check_big {m : Nat} (hm : m = 65536) : checkOf 1 [⟨2, 1, []⟩, ⟨6, 0, zeros m⟩] = 0 := by
  unfold checkOf
  rw [size_two]
  simp only [zeros_len, List.length_nil, List.length_cons]
  rw [if_neg (by omega), if_neg (by omega), if_neg (by omega), if_pos]
  have h0 : goodAt 1 [⟨2, 1, []⟩, ⟨6, 0, zeros m⟩] 0 = true := by
    show goodGate 1 0 ⟨2, 1, []⟩ = true
    decide
  have h1 : goodAt 1 [⟨2, 1, []⟩, ⟨6, 0, zeros m⟩] 1 = true := by
    show (allowedB 6 ((zeros m).length : Int) && litGood 1 ⟨6, 0, zeros m⟩ && (zeros m).all (inOk 1)) = true
    have : (zeros m).all (inOk 1) = true := by
      rw [List.all_eq_true]
      intro x hx
      rw [(List.mem_replicate.1 hx).2]
      decide
    rw [this]
    rfl
  rw [goodTo_iff]
  intro i hi
  match i, hi with
  | 0, _ => exact h0
  | 1, _ => exact h1
theorem check_big2 {m : Nat} (hm : m = 65536) : checkOf 1 [⟨2, 1, []⟩, ⟨6, 0, zeros m⟩, ⟨3, 0, [0]⟩] = 2 := by
  unfold checkOf
  rw [size_three]
  simp only [zeros_len, List.length_nil, List.length_cons]
  rw [if_neg (by omega), if_pos (by omega)]
/-! What Fold computes. -/
theorem fold_rep : ∀ (n : Nat) (f : List Int), foldGo (List.replicate n ⟨2, -128, []⟩) ([⟨2, -128, []⟩], f) = ([⟨2, -128, []⟩], f ++ List.replicate n 0)
  | 0, f => by simp [foldGo]
  | n + 1, f => by
    rw [List.replicate_succ, foldGo]
    have h : ∀ ins : List Int, stepG [⟨2, -128, []⟩] ⟨2, -128, []⟩ ins = ([⟨2, -128, []⟩], 0) := by
      intro ins
      unfold stepG
      rw [if_neg (by decide), if_neg (by decide), if_neg (by decide), if_neg (by decide), if_neg (by decide)]
      decide
    simp only [h]
    rw [fold_rep n]
    simp [List.replicate_succ]
theorem fold_long {n : Nat} (hn : 0 < n) : foldOf (longG n n) = [⟨2, -128, []⟩] := by
  obtain ⟨k, rfl⟩ : ∃ k, n = k + 1 := ⟨n - 1, by omega⟩
  unfold foldOf
  rw [longG_full, List.replicate_succ, foldGo]
  have h : ∀ ins : List Int, stepG [] ⟨2, -128, []⟩ ins = ([⟨2, -128, []⟩], 0) := by
    intro ins
    unfold stepG
    rw [if_neg (by decide), if_neg (by decide), if_neg (by decide), if_neg (by decide), if_neg (by decide)]
    decide
  simp only [h, fold_rep]
  have h2 : (([] ++ [(0 : Int)] ++ List.replicate k 0).getD (([] ++ [(0 : Int)] ++ List.replicate k 0).length - 1) 0) = 0 := by
    have : [] ++ [(0 : Int)] ++ List.replicate k 0 = List.replicate (k + 1) 0 := by simp [List.replicate_succ]
    rw [this]
    simp [List.getD_eq_getElem?_getD, List.getElem?_replicate]
  rw [h2]
  decide
theorem odd_rep (x : Int) : ∀ k : Nat, oddIn x (List.replicate (2 * k) x) = false
  | 0 => rfl
  | k + 1 => by
    have : 2 * (k + 1) = 2 * k + 1 + 1 := by omega
    rw [this, List.replicate_succ, List.replicate_succ, oddIn, oddIn, odd_rep x k]
    simp
theorem xor_rep (L : List Gate) (odd : Int → Bool) (h : odd 0 = false) : ∀ (m : Nat), xorGo L odd (List.replicate m 0) [] (-1) = ([], -1)
  | 0 => rfl
  | m + 1 => by
    rw [List.replicate_succ, xorGo, if_pos (Or.inl h)]
    exact xor_rep L odd h m
theorem fold_big {m : Nat} (hm : m = 65536) : foldOf [⟨2, 1, []⟩, ⟨6, 0, zeros m⟩] = [⟨0, 0, []⟩] := by
  have h1 : ∀ ins : List Int, stepG [] ⟨2, 1, []⟩ ins = ([⟨2, 1, []⟩], 0) := by
    intro ins
    unfold stepG
    rw [if_neg (by decide), if_neg (by decide), if_neg (by decide), if_neg (by decide), if_neg (by decide)]
    decide
  have h2 : stepG [⟨2, 1, []⟩] ⟨6, 0, zeros m⟩ ((zeros m).map fun k => ([] ++ [(0 : Int)]).getD k.toNat 0) = ([⟨2, 1, []⟩, ⟨0, 0, []⟩], 1) := by
    have hz : ((zeros m).map fun k => ([] ++ [(0 : Int)]).getD k.toNat 0) = List.replicate m 0 := by
      unfold zeros
      rw [List.map_replicate]
      rfl
    rw [hz]
    unfold stepG
    rw [if_neg (by show ¬ (6 : Int) = 3; decide), if_neg (by show ¬ ((6 : Int) = 4 ∨ (6 : Int) = 5); decide), if_pos rfl]
    unfold xorG
    have ho : oddIn 0 (List.replicate m 0) = false := by
      have := odd_rep 0 32768
      rw [hm]
      exact this
    rw [xor_rep _ _ ho]
    decide
  unfold foldOf
  rw [foldGo, h1]
  simp only []
  rw [foldGo, h2]
  simp only [foldGo]
  decide
end Go.Proofs.YtbemhgojfehnjaaDoor
