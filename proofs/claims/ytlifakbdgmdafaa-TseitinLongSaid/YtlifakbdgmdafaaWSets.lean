/-
  What the program's functions on sets (vars) compute.
-/
import Derived.Test.YtlifakbdgmdafaaProg
import Derived.Test.YtlifakbdgmdafaaMem
import Derived.Test.YtlifakbdgmdafaaSets
namespace Go.Proofs.Ytlifakbdgmdafaa
open Go Go.RowKit

theorem ofInt_bv (a : BitVec 64) : BitVec.ofInt 64 (a.toNat : Int) = a := by
  rw [BitVec.ofInt_natCast]; simp
theorem u64_wrap_bv (a : BitVec 64) : IntKind.u64.wrap (a.toNat : Int) = (a.toNat : Int) := by
  have := a.isLt
  rw [IntKind.wrap_u64]; omega
theorem bits_or_bv (a b : BitVec 64) : bits .or .u64 (a.toNat : Int) (b.toNat : Int) = ((a ||| b).toNat : Int) := by
  show IntKind.u64.wrap ((BitVec.ofInt 64 (a.toNat : Int) ||| BitVec.ofInt 64 (b.toNat : Int)).toNat : Int) = _
  rw [ofInt_bv, ofInt_bv, u64_wrap_bv]
theorem bits_and_bv (a b : BitVec 64) : bits .and .u64 (a.toNat : Int) (b.toNat : Int) = ((a &&& b).toNat : Int) := by
  show IntKind.u64.wrap ((BitVec.ofInt 64 (a.toNat : Int) &&& BitVec.ofInt 64 (b.toNat : Int)).toNat : Int) = _
  rw [ofInt_bv, ofInt_bv, u64_wrap_bv]
theorem bits_xor_bv (a b : BitVec 64) : bits .xor .u64 (a.toNat : Int) (b.toNat : Int) = ((a ^^^ b).toNat : Int) := by
  show IntKind.u64.wrap ((BitVec.ofInt 64 (a.toNat : Int) ^^^ BitVec.ofInt 64 (b.toNat : Int)).toNat : Int) = _
  rw [ofInt_bv, ofInt_bv, u64_wrap_bv]
theorem bits_andNot_bv (a b : BitVec 64) : bits .andNot .u64 (a.toNat : Int) (b.toNat : Int) = ((a &&& ~~~b).toNat : Int) := by
  show IntKind.u64.wrap ((BitVec.ofInt 64 (a.toNat : Int) &&& ~~~(BitVec.ofInt 64 (b.toNat : Int))).toNat : Int) = _
  rw [ofInt_bv, ofInt_bv, u64_wrap_bv]
theorem pow_bv (k : Nat) (hk : k < 64) : IntKind.u64.wrap (2 ^ k) = ((1#64 <<< k).toNat : Int) := by
  have h : ((1#64 <<< k).toNat : Int) = (2 : Int) ^ k := by
    have : (1#64 <<< k).toNat = 2 ^ k := by
      rw [BitVec.toNat_shiftLeft]
      simp only [BitVec.toNat_ofNat, Nat.shiftLeft_eq]
      rw [Nat.mod_eq_of_lt (show 1 < 2 ^ 64 by decide), Nat.one_mul]
      exact Nat.mod_eq_of_lt (Nat.pow_lt_pow_right (by decide) hk)
    rw [this]; simp
  rw [← h, u64_wrap_bv]
theorem bit_bv (a : BitVec 64) (k : Nat) (hk : k < 64) : (bits .and .u64 (a.toNat : Int) (IntKind.u64.wrap (2 ^ k)) != 0) = a.getLsbD k := by
  rw [pow_bv k hk, bits_and_bv]
  by_cases h : a.getLsbD k
  · rw [h, bne_iff_ne]
    intro e
    have e2 : a &&& 1#64 <<< k = 0#64 := by
      apply BitVec.eq_of_toNat_eq
      simpa using e
    have := congrArg (fun x => x.getLsbD k) e2
    simp [hk] at this
    rw [BitVec.getLsbD_eq_getElem hk, this] at h
    cases h
  · have h' : a.getLsbD k = false := by simpa using h
    rw [h']
    have e2 : a &&& 1#64 <<< k = 0#64 := by
      apply BitVec.eq_of_getLsbD_eq
      intro i hi
      rw [BitVec.getLsbD_and, BitVec.getLsbD_shiftLeft]
      by_cases e : i = k
      · subst e; rw [h']; simp
      · simp; omega
    rw [e2]; rfl
theorem shr_bv (a : BitVec 64) (k : Nat) : (((a.toNat : Int) / 2 ^ k).tmod 2 == 1) = a.getLsbD k := by
  have h1 : ((a.toNat : Int) / 2 ^ k) = ((a.toNat / 2 ^ k : Nat) : Int) := by
    rw [Int.natCast_ediv]; simp
  rw [h1, Int.tmod_eq_emod_of_nonneg (Int.natCast_nonneg _)]
  rw [BitVec.getLsbD, Nat.testBit, Nat.shiftRight_eq_div_pow, Nat.one_and_eq_mod_two]
  rcases Nat.mod_two_eq_zero_or_one (a.toNat / 2 ^ k) with h | h
  · rw [h]; rw [show ((a.toNat / 2 ^ k : Nat) : Int) % 2 = 0 from by omega]; rfl
  · rw [h]; rw [show ((a.toNat / 2 ^ k : Nat) : Int) % 2 = 1 from by omega]; rfl
theorem tn_beq (a b : BitVec 64) : (((a.toNat : Int)) == (b.toNat : Int)) = (a == b) := by
  by_cases h : a = b
  · subst h; simp
  · have : ¬ a.toNat = b.toNat := fun e => h (BitVec.eq_of_toNat_eq e)
    rw [show (a == b) = false from by simp [h], beq_eq_false_iff_ne]
    omega

theorem ret_agg2 {x y x' y' : Int} (h1 : x = x') (h2 : y = y') : Ending.returned (.agg #[.int .u64 x, .int .u64 y]) = .returned (.agg #[.int .u64 x', .int .u64 y']) := by rw [h1, h2]
theorem ret_bool {x y : Bool} (h : x = y) : Ending.returned (.bool x) = .returned (.bool y) := by rw [h]
theorem ret_int {k : IntKind} {x y : Int} (h : x = y) : Ending.returned (.int k x) = .returned (.int k y) := by rw [h]

theorem eqIn_u64 (w : World) (a c : Int) : (Op.equalIn 9999 36 (.int .u64 a) (.int .u64 c)).run Try.prog w = .ok (a == c) w := run_equalIn_int w 9998 36 .u64 .u64 a c Try.underlying36
theorem eq_sets (w : World) (a b c d : Int) : (binOp .eql 38 (.agg #[.int .u64 a, .int .u64 b]) (.agg #[.int .u64 c, .int .u64 d])).run Try.prog w = .ok (.bool (a == c && b == d)) w := by
  simp only [binOp]
  simp [Op.equal, Op.maxDepth]
  unfold Op.equalIn
  simp
  go_simp
  simp [show List.range' 0 2 = [0,1] from rfl, eqIn_u64, go_sem]
  by_cases h : a = c
  · subst h; simp [go_sem]
    by_cases h : b = d
    · subst h; simp
    · simp [h]
  · simp [h]


theorem has_lo (s : VS) (v : Int) (h : 1 ≤ v) (h2 : v ≤ 64) : s.has v = s.a.getLsbD (v.toNat - 1) := by unfold VS.has; rw [if_pos ⟨h, h2⟩]
theorem has_hi (s : VS) (v : Int) (h : 65 ≤ v) (h2 : v ≤ 128) : s.has v = s.b.getLsbD (v.toNat - 65) := by unfold VS.has; rw [if_neg (by omega), if_pos ⟨h, h2⟩]
theorem bit_lo (v : Int) (h : 1 ≤ v) (h2 : v ≤ 64) : VS.bit v = ⟨1#64 <<< (v.toNat - 1), 0#64⟩ := by unfold VS.bit; rw [if_pos ⟨h, h2⟩]
theorem bit_hi (v : Int) (h : 65 ≤ v) (h2 : v ≤ 128) : VS.bit v = ⟨0#64, 1#64 <<< (v.toNat - 65)⟩ := by unfold VS.bit; rw [if_neg (by omega), if_pos ⟨h, h2⟩]
theorem bit_out (v : Int) (h : v < 1 ∨ 128 < v) : VS.bit v = ⟨0#64, 0#64⟩ := by unfold VS.bit; rw [if_neg (by omega), if_neg (by omega)]; rfl

set_option maxHeartbeats 400000 in
theorem vars_has (a b : BitVec 64) (v : Int) (w : World) :
    Calls Try.prog 39 #[(.agg #[.int .u64 ((a).toNat : Int), .int .u64 ((b).toNat : Int)]), (.int .i64 (v))] w fun e w' => e = .returned (.bool (VS.has ⟨a, b⟩ v)) ∧ Below w.heap.size w w' := by
  by_cases h : v < 1 ∨ 128 < v
  · rw [VS.has_out _ h]
    rcases h with h | h
    all_goals
      go_enter Try.func39, Try.ntmps39
      go_wp2
      go_ret
      exact ⟨rfl, (Below.refl _ _).alloc (Nat.le_refl _) _⟩
  · by_cases h2 : v ≤ 64
    · have h1 : 1 ≤ v := by omega
      rw [has_lo _ v h1 h2]
      have hb := bit_bv a (v.toNat - 1) (by omega)
      clear h
      have hq : (v-1)/64 = 0 := by omega
      have hr : (v-1)%64 = v-1 := by omega
      have HB := Lib.hid hb
      clear hb
      go_enter Try.func39, Try.ntmps39
      go_wp2
      go_ret
      exact ⟨ret_bool (by simpa using HB.out), (Below.refl _ _).alloc (Nat.le_refl _) _⟩
    · have h1 : 65 ≤ v := by omega
      have h3 : v ≤ 128 := by omega
      rw [has_hi _ v h1 h3]
      have hb := bit_bv b (v.toNat - 65) (by omega)
      clear h h2
      have hq : (v-1)/64 = 1 := by omega
      have hr : (v-1)%64 = v-65 := by omega
      have HB := Lib.hid hb
      clear hb
      go_enter Try.func39, Try.ntmps39
      go_wp2
      go_ret
      have e : (v - 65).toNat = v.toNat - 65 := by omega
      exact ⟨ret_bool (by rw [← e] at HB; simpa [e] using HB.out), (Below.refl _ _).alloc (Nat.le_refl _) _⟩

set_option maxHeartbeats 400000 in
theorem vars_with (a b : BitVec 64) (v : Int) (w : World) :
    Calls Try.prog 37 #[(.agg #[.int .u64 ((a).toNat : Int), .int .u64 ((b).toNat : Int)]), (.int .i64 (v))] w fun e w' => e = .returned (.agg #[.int .u64 ((VS.with_ ⟨a, b⟩ v).a.toNat : Int), .int .u64 ((VS.with_ ⟨a, b⟩ v).b.toNat : Int)]) ∧ Below w.heap.size w w' := by
  by_cases h : v < 1 ∨ 128 < v
  · unfold VS.with_
    rw [bit_out v h]
    rcases h with h | h
    all_goals
      go_enter Try.func37, Try.ntmps37
      go_wp2
      go_returns
      exact ⟨ret_agg2 (by simp) (by simp), by go_grown⟩
  · unfold VS.with_
    by_cases h2 : v ≤ 64
    · have h1 : 1 ≤ v := by omega
      rw [bit_lo v h1 h2]
      clear h
      have hq : (v-1)/64 = 0 := by omega
      have hr : (v-1)%64 = v-1 := by omega
      go_enter Try.func37, Try.ntmps37
      go_wp2
      go_returns
      exact ⟨ret_agg2 (by rw [pow_bv _ (by omega), bits_or_bv]) (by simp), by go_grown⟩
    · have h1 : 65 ≤ v := by omega
      have h3 : v ≤ 128 := by omega
      rw [bit_hi v h1 h3]
      clear h h2
      have hq : (v-1)/64 = 1 := by omega
      have hr : (v-1)%64 = v-65 := by omega
      have e : (v - 65).toNat = v.toNat - 65 := by omega
      have HE := Lib.hid e
      clear e
      go_enter Try.func37, Try.ntmps37
      go_wp2
      go_returns
      exact ⟨ret_agg2 (by simp) (by rw [HE.out, pow_bv _ (by omega), bits_or_bv]), by go_grown⟩

theorem vars_cut (a b c d : BitVec 64) (w : World) :
    Calls Try.prog 40 #[(.agg #[.int .u64 ((a).toNat : Int), .int .u64 ((b).toNat : Int)]), (.agg #[.int .u64 ((c).toNat : Int), .int .u64 ((d).toNat : Int)])] w fun e w' => e = .returned (.agg #[.int .u64 ((VS.cut ⟨a, b⟩ ⟨c, d⟩).a.toNat : Int), .int .u64 ((VS.cut ⟨a, b⟩ ⟨c, d⟩).b.toNat : Int)]) ∧ Below w.heap.size w w' := by
  go_enter Try.func40, Try.ntmps40
  go_wp2
  go_returns
  exact ⟨ret_agg2 (bits_and_bv _ _) (bits_and_bv _ _), by go_grown⟩
theorem vars_minus (a b c d : BitVec 64) (w : World) :
    Calls Try.prog 72 #[(.agg #[.int .u64 ((a).toNat : Int), .int .u64 ((b).toNat : Int)]), (.agg #[.int .u64 ((c).toNat : Int), .int .u64 ((d).toNat : Int)])] w fun e w' => e = .returned (.agg #[.int .u64 ((VS.minus ⟨a, b⟩ ⟨c, d⟩).a.toNat : Int), .int .u64 ((VS.minus ⟨a, b⟩ ⟨c, d⟩).b.toNat : Int)]) ∧ Below w.heap.size w w' := by
  go_enter Try.func72, Try.ntmps72
  go_wp2
  go_returns
  exact ⟨ret_agg2 (bits_andNot_bv _ _) (bits_andNot_bv _ _), by go_grown⟩
theorem vars_sub (a b c d : BitVec 64) (w : World) :
    Calls Try.prog 51 #[(.agg #[.int .u64 ((a).toNat : Int), .int .u64 ((b).toNat : Int)]), (.agg #[.int .u64 ((c).toNat : Int), .int .u64 ((d).toNat : Int)])] w fun e w' => e = .returned (.bool (VS.sub ⟨a, b⟩ ⟨c, d⟩)) ∧ Below w.heap.size w w' := by
  have he := fun w' => eq_sets w' ((VS.minus ⟨a, b⟩ ⟨c, d⟩).a.toNat : Int) ((VS.minus ⟨a, b⟩ ⟨c, d⟩).b.toNat : Int) 0 0
  have e : VS.sub ⟨a, b⟩ ⟨c, d⟩ = ((((VS.minus ⟨a, b⟩ ⟨c, d⟩).a.toNat : Int) == 0) && (((VS.minus ⟨a, b⟩ ⟨c, d⟩).b.toNat : Int) == 0)) := by
    unfold VS.sub
    rw [← tn_beq, ← tn_beq]
    rfl
  rw [e]
  clear e
  go_enter Try.func51, Try.ntmps51
  go_wp2_with (go_at_call 72; refine (vars_minus _ _ _ _ _).mono ?_; rintro e w' ⟨rfl, hb⟩)
  go_ret
  exact ⟨rfl, Below.trans (by go_grown) (hb.mono (by simp; omega))⟩
end Go.Proofs.Ytlifakbdgmdafaa
