/-
  What the functions on sets compute that have a loop: vars.All, and the reference's.
-/
import Derived.Test.YtlifakbdgmdafaaWSets
namespace Go.Proofs.Ytlifakbdgmdafaa
open Go Go.RowKit

theorem all_zero (n : Int) (h : n ≤ 0) : VS.all n = VS.empty := by
  apply VS.ext_has
  intro v h1 h2
  rw [VS.has_all, VS.has_empty]
  simp; omega
theorem all_top (n : Int) (h : 128 ≤ n) : VS.all n = VS.all 128 := by
  apply VS.ext_has
  intro v h1 h2
  rw [VS.has_all, VS.has_all]
  simp; omega
theorem all_succ (k : Nat) (h : k < 128) : VS.with_ (VS.all k) (k + 1) = VS.all ((k + 1 : Nat) : Int) := by
  apply VS.ext_has
  intro v h1 h2
  rw [VS.has_with, VS.has_all, VS.has_all, Bool.eq_iff_iff]
  simp; omega

set_option maxRecDepth 100000 in
set_option maxHeartbeats 800000 in
theorem vars_all (n : Int) (w : World) (hn : n ≤ 9223372036854775807) (hn0 : -9223372036854775808 ≤ n) :
    Calls Try.prog 41 #[(.int .i64 (n))] w fun e w' => e = .returned (.agg #[.int .u64 ((VS.all n).a.toNat : Int), .int .u64 ((VS.all n).b.toNat : Int)]) ∧ Below w.heap.size w w' := by
  go_enter Try.func41, Try.ntmps41
  go_wp2
  go_loopw [4] (fun i wr => ∃ k : Nat, k ≤ 128 ∧ (k : Int) ≤ max n 0 ∧ i = .int .i64 (k + 1) ∧ Blk wr w.heap.size 38 #[.int .u64 0, .int .u64 0] ∧
      Blk wr (w.heap.size + 1) 38 #[.int .u64 ((VS.all k).a.toNat : Int), .int .u64 ((VS.all k).b.toNat : Int)] ∧ Below w.heap.size w wr) (fun i _ => 129 - (intOf i).toNat)
  case atStart =>
    refine ⟨0, by omega, by omega, rfl, (Blk.new _ _ _).alloc _, ?_, by go_grown⟩
    rw [show ((0 : Nat) : Int) = 0 from rfl, all_zero 0 (by omega)]
    exact Blk.new_ (cs := #[.int .u64 0, .int .u64 0]) (by simp)
  case round =>
    obtain ⟨k, hk, hkn, rfl, hb0, hb1, hb⟩ := hrel
    have c0 := hb1.cell 0
    have c1 := hb1.cell 1
    have d0 := hb0.cell 0
    have d1 := hb0.cell 1
    have f0 := hb1.free 0
    have f1 := hb1.free 1
    have e0 := hb0.free 0
    have e1 := hb0.free 1
    simp at c0 c1 d0 d1
    have lt1 := hb1.lt
    have lt0 := hb0.lt
    by_cases hlt : k < 128 ∧ (k : Int) < n
    · obtain ⟨hl1, hl2⟩ := hlt
      go_wp2_with (go_at_call 37; refine (vars_with _ _ _ _).mono ?_; rintro e w' ⟨rfl, hbb⟩; obtain ⟨hc, hf⟩ := bcell hbb)
      go_roundw
      case rel =>
        refine ⟨k + 1, by omega, by omega, by go_num, (hb0.keep hbb).far (by simp) _ |>.far (by simp) _, ?_, (((hb.trans (hbb.mono hb.size)).setCell (by simp) _).setCell (by simp) _)⟩
        have := ((hb1.keep hbb).put 0 (.int .u64 ((VS.with_ (VS.all k) (k + 1)).a.toNat : Int))).put 1 (.int .u64 ((VS.with_ (VS.all k) (k + 1)).b.toNat : Int))
        rw [← all_succ k hl1]
        simpa using this
      case measure => simp [intOf]; omega
    · by_cases hm : n ≤ 128
      all_goals
      go_wp2
      refine bodyPost_ret (v := (.agg #[.int .u64 ((VS.all k).a.toNat : Int), .int .u64 ((VS.all k).b.toNat : Int)])) (by simp [results, Try.results41, go_sem, d0, d1]) rfl ?_
      have e : VS.all n = VS.all k := by
        by_cases h : n ≤ 0
        · rw [all_zero n h, all_zero k (by omega)]
        · by_cases h' : 128 ≤ n
          · rw [all_top n h', all_top k (by omega)]
          · rw [show n = k from by omega]
      rw [e]
      exact ⟨rfl, (hb.setCell (by simp) _).setCell (by simp) _⟩
/-- The set whose variables below k are those that the list l marks. -/
def markTo (l : List Bool) (k : Nat) : VS := VS.of fun u => decide (u < k) && l.getD u.toNat false
theorem has_markTo (l : List Bool) (k : Nat) (v : Int) (h1 : 1 ≤ v) (h2 : v ≤ 128) : (markTo l k).has v = (decide (v < k) && l.getD v.toNat false) := by
  unfold markTo; rw [VS.has_of]; simp [h1, h2]
theorem markTo_one (l : List Bool) : markTo l 1 = VS.empty := by
  apply VS.ext_has
  intro v h1 h2
  rw [has_markTo l 1 v h1 h2, VS.has_empty, show decide (v < ((1 : Nat) : Int)) = false from by simp; omega]
  rfl
theorem markTo_no (l : List Bool) (k : Nat) (h : l.getD k false = false) : markTo l (k + 1) = markTo l k := by
  apply VS.ext_has
  intro v h1 h2
  rw [has_markTo _ _ v h1 h2, has_markTo _ _ v h1 h2]
  by_cases e : v = k
  · subst e; simp only [Int.toNat_natCast, h, Bool.and_false]
  · rw [show decide (v < ((k + 1 : Nat) : Int)) = decide (v < (k : Int)) from by simp; omega]
theorem markTo_yes (l : List Bool) (k : Nat) (h : l.getD k false = true) : markTo l (k + 1) = (markTo l k).with_ k := by
  apply VS.ext_has
  intro v h1 h2
  rw [VS.has_with, has_markTo _ _ v h1 h2, has_markTo _ _ v h1 h2]
  by_cases e : v = k
  · subst e; simp only [Int.toNat_natCast, h]; simp [show 1 ≤ (k : Int) from h1, show (k : Int) ≤ 128 from h2]; omega
  · rw [show decide (v < ((k + 1 : Nat) : Int)) = decide (v < (k : Int)) from by simp; omega]
    simp [e]
theorem with_lo (s : VS) (k : Nat) (h1 : 1 ≤ k) (h2 : k ≤ 64) : s.with_ k = ⟨s.a ||| 1#64 <<< (k - 1), s.b⟩ := by
  unfold VS.with_; rw [bit_lo k (by omega) (by omega)]; simp
theorem with_hi (s : VS) (k : Nat) (h1 : 65 ≤ k) (h2 : k ≤ 128) : s.with_ k = ⟨s.a, s.b ||| 1#64 <<< (k - 65)⟩ := by
  unfold VS.with_; rw [bit_hi k (by omega) (by omega)]; simp

set_option maxRecDepth 100000 in
set_option maxHeartbeats 1600000 in
theorem ref03_set (w : World) (B : Nat) (v : Value) (l : List Bool) (hB : B ≤ w.heap.size) (hl : BoolsV w B v l) (hn : l.length = 129) :
    Calls Try.prog 46 #[v] w fun e w' => e = .returned (.agg #[.int .u64 ((markTo l l.length).a.toNat : Int), .int .u64 ((markTo l l.length).b.toNat : Int)]) ∧ Below w.heap.size w w' := by
  obtain ⟨A, c, rfl, hlc, hcm, _⟩ := id hl
  unfold maxLen at hcm
  have HN := Lib.hid hn
  have hle : l.length ≤ 129 := by omega
  have hge : 129 ≤ l.length := by omega
  clear hn
  go_enter Try.func46, Try.ntmps46
  go_wp2
  go_loopw [4] (fun i wr => ∃ k : Nat, 1 ≤ k ∧ k ≤ l.length ∧ i = .int .i64 k ∧ Blk wr w.heap.size 38 #[.int .u64 0, .int .u64 0] ∧
      Blk wr (w.heap.size + 1) 38 #[.int .u64 ((markTo l k).a.toNat : Int), .int .u64 ((markTo l k).b.toNat : Int)] ∧ Below w.heap.size w wr) (fun i _ => 129 - (intOf i).toNat)
  case atStart =>
    refine ⟨1, by omega, by omega, rfl, (Blk.new _ _ _).alloc _, ?_, by go_grown⟩
    rw [markTo_one]
    exact Blk.new_ (cs := #[.int .u64 0, .int .u64 0]) (by simp)
  case round =>
    obtain ⟨k, hk1, hk, rfl, hb0, hb1, hb⟩ := hrel
    have c0 := hb1.cell 0
    have c1 := hb1.cell 1
    have d0 := hb0.cell 0
    have d1 := hb0.cell 1
    have f0 := hb1.free 0
    have f1 := hb1.free 1
    have e0 := hb0.free 0
    have e1 := hb0.free 1
    simp at c0 c1 d0 d1
    have lt1 := hb1.lt
    have lt0 := hb0.lt
    by_cases hlt : k < l.length
    · obtain ⟨b, o, rfl, hbB, hcell⟩ := hl.at_ (hb.mono hB) hlt
      have hkk : l.getD k false = l[k] := by simp [hlt]
      by_cases hx : l[k] = true
      · rw [hx] at hcell hkk
        by_cases h64 : k ≤ 64
        · have hq : ((k : Int) - 1) / 64 = 0 := by omega
          have hr : ((k : Int) - 1) % 64 = (k : Int) - 1 := by omega
          go_wp2
          go_roundw
          case rel =>
            refine ⟨k + 1, by omega, by omega, by go_num, hb0.far (by simp) _, ?_, hb.setCell (by simp) _⟩
            rw [markTo_yes l k hkk, with_lo _ k hk1 h64]
            have := hb1.put 0 (.int .u64 ((((markTo l k).a ||| 1#64 <<< (k - 1)).toNat : Nat) : Int))
            rw [← bits_or_bv, ← pow_bv _ (by omega)] at this
            rw [← bits_or_bv, ← pow_bv _ (by omega)]
            simpa using this
          case measure => simp [intOf]; omega
        · have h65 : 65 ≤ k := by omega
          have hq : ((k : Int) - 1) / 64 = 1 := by omega
          have hr : ((k : Int) - 1) % 64 = (k : Int) - 65 := by omega
          have e : ((k : Int) - 65).toNat = k - 65 := by omega
          have HE := Lib.hid e
          clear h64 e
          go_wp2
          go_roundw
          case rel =>
            refine ⟨k + 1, by omega, by omega, by go_num, hb0.far (by simp) _, ?_, hb.setCell (by simp) _⟩
            rw [markTo_yes l k hkk, with_hi _ k h65 (by omega)]
            have := hb1.put 1 (.int .u64 ((((markTo l k).b ||| 1#64 <<< (k - 65)).toNat : Nat) : Int))
            rw [← bits_or_bv, ← pow_bv _ (by omega)] at this
            rw [← bits_or_bv, ← pow_bv _ (by omega)]
            simpa [HE.out] using this
          case measure => simp [intOf]; omega
      · have hx' : l[k] = false := by simpa using hx
        rw [hx'] at hcell hkk
        clear hx hx'
        go_wp2
        go_roundw
        case rel =>
          refine ⟨k + 1, by omega, by omega, by go_num, hb0, ?_, hb⟩
          rw [markTo_no l k hkk]
          exact hb1
        case measure => simp [intOf]; omega
    · have hkl : k = l.length := by omega
      subst hkl
      go_wp2
      refine bodyPost_ret (v := (.agg #[.int .u64 ((markTo l l.length).a.toNat : Int), .int .u64 ((markTo l l.length).b.toNat : Int)])) (by simp [results, Try.results46, go_sem, d0, d1]) rfl ?_
      exact ⟨rfl, (hb.setCell (by simp) _).setCell (by simp) _⟩
end Go.Proofs.Ytlifakbdgmdafaa
