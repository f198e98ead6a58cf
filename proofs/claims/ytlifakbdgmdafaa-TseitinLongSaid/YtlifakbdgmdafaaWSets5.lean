/-
  The reference's List, With, Union, Sub (censusref03).
-/
import Derived.Test.YtlifakbdgmdafaaWSets4
import Derived.Test.YtlifakbdgmdafaaOwn
namespace Go.Proofs.Ytlifakbdgmdafaa
open Go Go.RowKit

theorem OwnInts.base {w : World} {base base' : Nat} {v : Value} {l : List Int} (h : OwnInts w base v l) (hb : base' ≤ base) : OwnInts w base' v l := by
  refine ⟨h.1, ?_⟩
  rcases h.2 with hn | ⟨g, cap, cur, rfl, hbg, rest⟩
  · exact .inl hn
  · exact .inr ⟨g, cap, cur, rfl, by omega, rest⟩
theorem list_succ (s : VS) (k : Nat) : s.list (k + 1) = if s.has ((k : Int) + 1) then s.list k ++ [(k : Int) + 1] else s.list k := by
  unfold VS.list
  rw [List.range_succ, List.map_append, List.filter_append]
  by_cases h : s.has ((k : Int) + 1)
  · rw [if_pos h]; simp [h]
  · rw [if_neg h]; simp [h]
theorem list_zero (s : VS) : s.list 0 = [] := rfl
theorem list_len (s : VS) (k : Nat) : (s.list k).length ≤ k := by
  unfold VS.list
  exact Nat.le_trans (List.length_filter_le _ _) (by simp)
theorem list_mem (s : VS) (v : Int) (h1 : 1 ≤ v) (h2 : v ≤ 128) : (s.list 128).contains v = s.has v := by
  rw [Bool.eq_iff_iff]
  simp only [VS.list, List.contains_iff_mem, List.mem_filter, List.mem_map, List.mem_range]
  constructor
  · intro h; exact h.2
  · intro h; exact ⟨⟨v.toNat - 1, by omega, by omega⟩, h⟩

set_option maxRecDepth 100000 in
set_option maxHeartbeats 1600000 in
theorem ref03_list (a b : BitVec 64) (w : World) :
    Calls Try.prog 55 #[(.agg #[.int .u64 ((a).toNat : Int), .int .u64 ((b).toNat : Int)])] w fun e w' => (∃ v, e = .returned v ∧ OwnInts w' w.heap.size v (VS.list ⟨a, b⟩ 128)) ∧ Below w.heap.size w w' := by
  go_enter Try.func55, Try.ntmps55
  go_wp2
  go_loopw [3, 4] (fun o i wr => ∃ k : Nat, k ≤ 128 ∧ i = .int .i64 (k + 1) ∧ OwnInts wr (w.heap.size + 1) o (VS.list ⟨a, b⟩ k) ∧ Blk wr w.heap.size 38 #[.int .u64 (a.toNat : Int), .int .u64 (b.toNat : Int)] ∧ Below w.heap.size w wr) (fun _ i _ => 129 - (intOf i).toNat)
  case atStart => exact ⟨0, by omega, rfl, OwnInts.nil _ _, Blk.new _ _ _, by go_grown⟩
  case round =>
    obtain ⟨k, hk, rfl, hown, hblk, hb⟩ := hrel
    have c0 := hblk.cell 0
    have c1 := hblk.cell 1
    simp at c0 c1
    have lt0 := hblk.lt
    by_cases hlt : k < 128
    · have hl := list_len ⟨a, b⟩ k
      have hls := list_succ ⟨a, b⟩ k
      have kh := ref03_has a b ((k : Int) + 1)
      generalize VS.has ⟨a, b⟩ ((k : Int) + 1) = y at hls kh
      have KH := Lib.hid kh
      have HLS := Lib.hid hls
      clear kh hls
      cases y
      · go_wp2_with (go_at_call 25; refine (KH.out _).mono ?_; rintro e w' ⟨rfl, hbb⟩; obtain ⟨hc, hf⟩ := bcell hbb; have hsz := hbb.size)
        go_roundw
        case rel => exact ⟨k + 1, by omega, by go_num, by rw [HLS.out]; exact hown.below hbb, hblk.keep hbb, hb.trans (hbb.mono hb.size)⟩
        case measure => simp [intOf]; omega
      · go_wp2_with (first | (go_at_call 25; refine (KH.out _).mono ?_; rintro e w' ⟨rfl, hbb⟩; obtain ⟨hc, hf⟩ := bcell hbb; have hsz := hbb.size) | (at_builtin; refine append_int w' rfl (.tmp 12) (.tmp 14) rfl (w.heap.size + 1) _ _ ((k : Int) + 1) rfl (hown.below hbb) rfl (by omega) (by omega) ?_; intro v' w1 hown' hgrow))
        go_roundw
        case rel =>
          have hge := fun (g : Nat) hg => (own_ge (g := g) hown hg).1
          exact ⟨k + 1, by omega, by go_num, by rw [HLS.out]; exact hown', (hblk.keep hbb).grown hgrow (fun e => by have := hge _ e.symm; omega), hb.trans ((hbb.mono hb.size).trans (below_of_grown hgrow (Nat.le_trans hb.size hbb.size) (fun g hg => by have := hge _ hg; omega)))⟩
        case measure => simp [intOf]; omega
    · have e : k = 128 := by omega
      subst e
      go_wp2
      go_ret
      exact ⟨⟨_, rfl, hown.base (by omega)⟩, hb⟩

set_option maxRecDepth 100000 in
set_option maxHeartbeats 1600000 in
theorem ref03_sub (a b c d : BitVec 64) (w : World) :
    Calls Try.prog 43 #[(.agg #[.int .u64 ((a).toNat : Int), .int .u64 ((b).toNat : Int)]), (.agg #[.int .u64 ((c).toNat : Int), .int .u64 ((d).toNat : Int)])] w fun e w' => e = .returned (.bool (VS.sub ⟨a, b⟩ ⟨c, d⟩)) ∧ Below w.heap.size w w' := by
  obtain ⟨r, hr⟩ : ∃ r, r = VS.sub ⟨a, b⟩ ⟨c, d⟩ := ⟨_, rfl⟩
  rw [← hr]
  have HR := Lib.hid hr
  clear hr
  go_enter Try.func43, Try.ntmps43
  go_wp2
  go_loopw [5] (fun i wr => ∃ k : Nat, 1 ≤ k ∧ k ≤ 129 ∧ i = .int .i64 k ∧ (∀ u : Int, 1 ≤ u → u < k → VS.has ⟨a, b⟩ u = true → VS.has ⟨c, d⟩ u = true) ∧ Blk wr w.heap.size 38 #[.int .u64 (a.toNat : Int), .int .u64 (b.toNat : Int)] ∧ Blk wr (w.heap.size + 1) 38 #[.int .u64 (c.toNat : Int), .int .u64 (d.toNat : Int)] ∧ Below w.heap.size w wr) (fun i _ => 129 - (intOf i).toNat)
  case atStart => exact ⟨1, by omega, by omega, rfl, fun u h1 h2 => by omega, (Blk.new _ _ _).alloc _, Blk.new_ (by simp), by go_grown⟩
  case round =>
    obtain ⟨k, hk1, hk, rfl, hsub, hba, hbc, hb⟩ := hrel
    have HS := Lib.hid hsub
    clear hsub
    have a0 := hba.cell 0
    have a1 := hba.cell 1
    have q0 := hbc.cell 0
    have q1 := hbc.cell 1
    simp at a0 a1 q0 q1
    have lta := hba.lt
    have ltc := hbc.lt
    by_cases hlt : k ≤ 128
    · have step : (VS.has ⟨a, b⟩ k = true → VS.has ⟨c, d⟩ k = true) → ∀ u : Int, 1 ≤ u → u < ((k + 1 : Nat) : Int) → VS.has ⟨a, b⟩ u = true → VS.has ⟨c, d⟩ u = true := fun h u h1 h2 h3 => by
        by_cases e : u = k
        · subst e; exact h h3
        · exact HS.out u h1 (by omega) h3
      have no : VS.has ⟨a, b⟩ k = true → VS.has ⟨c, d⟩ k = false → r = false := fun h1 h2 => by
        rw [HR.out]
        cases e : VS.sub ⟨a, b⟩ ⟨c, d⟩ with
        | false => rfl
        | true =>
          have := (VS.sub_iff _ _).1 e k (by omega) (by omega) h1
          rw [h2] at this; cases this
      have k1 := fun w => ref03_has a b (k : Int) w
      have k2 := fun w => ref03_has c d (k : Int) w
      generalize VS.has ⟨a, b⟩ (k : Int) = y1 at step no k1
      generalize VS.has ⟨c, d⟩ (k : Int) = y2 at step no k2
      have STEP := Lib.hid step
      have NO := Lib.hid no
      have K1 := Lib.hid k1
      have K2 := Lib.hid k2
      clear step no k1 k2
      cases y1
      · go_wp2_with (go_at_call 25; refine (K1.out _).mono ?_; rintro e w' ⟨rfl, hbb⟩; obtain ⟨hc, hf⟩ := bcell hbb; have hsz := hbb.size)
        go_roundw
        case rel => exact ⟨k + 1, by omega, by omega, by go_num, STEP.out (by simp), hba.keep hbb, hbc.keep hbb, hb.trans (hbb.mono hb.size)⟩
        case measure => simp [intOf]; omega
      · go_wp2_with fail
        refine (K1.out _).mono ?_
        rintro e w1 ⟨rfl, hb1'⟩
        obtain ⟨hc1, hf1⟩ := bcell hb1'
        have hs1 := hb1'.size
        go_wp2_with fail
        refine (K2.out _).mono ?_
        rintro e w2 ⟨rfl, hb2'⟩
        have hbb := hb1'.trans (hb2'.mono hs1)
        clear hc1 hf1
        cases y2
        · have e : r = false := NO.out (by simp) (by simp)
          subst e
          go_wp2
          go_ret
          exact ⟨rfl, hb.trans (hbb.mono hb.size)⟩
        · go_wp2
          go_roundw
          case rel => exact ⟨k + 1, by omega, by omega, by go_num, STEP.out (by simp), hba.keep hbb, hbc.keep hbb, hb.trans (hbb.mono hb.size)⟩
          case measure => simp [intOf]; omega
    · have e : r = true := by
        rw [HR.out]
        exact (VS.sub_iff _ _).2 (fun v h1 h2 => HS.out v h1 (by omega))
      subst e
      go_wp2
      go_ret
      exact ⟨rfl, hb⟩

set_option maxRecDepth 100000 in
set_option maxHeartbeats 1600000 in
theorem ref03_with (a b : BitVec 64) (v : Int) (w : World) :
    Calls Try.prog 42 #[(.agg #[.int .u64 ((a).toNat : Int), .int .u64 ((b).toNat : Int)]), (.int .i64 (v))] w fun e w' => e = .returned (.agg #[.int .u64 ((VS.with_ ⟨a, b⟩ v).a.toNat : Int), .int .u64 ((VS.with_ ⟨a, b⟩ v).b.toNat : Int)]) ∧ Below w.heap.size w w' := by
  have hset : VS.ofList (VS.list ⟨a, b⟩ 128 ++ [v]) = VS.with_ ⟨a, b⟩ v := by
    apply VS.ext_has
    intro u h1 h2
    rw [VS.has_ofList _ u h1 h2, VS.has_with, List.contains_append, list_mem _ u h1 h2]
    by_cases e : u = v
    · subst e; simp [h1, h2]
    · simp [e]
  have HSET := Lib.hid hset
  clear hset
  have hl := list_len ⟨a, b⟩ 128
  have KL := Lib.hid (fun w => ref03_list a b w)
  generalize VS.list ⟨a, b⟩ 128 = l at hl KL HSET
  generalize VS.with_ ⟨a, b⟩ v = t at HSET ⊢
  go_enter Try.func42, Try.ntmps42
  go_wp2_with fail
  refine (KL.out _).mono ?_
  rintro e w1 ⟨⟨o, rfl, hown⟩, hb1⟩
  go_wp2_with (first | (at_builtin; refine append_int w1 rfl (.tmp 6) (.tmp 8) rfl _ _ _ v rfl hown rfl (by omega) hb1.size ?_; intro v' w2 hown' hgrow))
  have hge := fun (g : Nat) hg => (own_ge (g := g) hown hg).1
  have hbb := hb1.trans (below_of_grown hgrow hb1.size hge)
  go_wp2_with fail
  refine (ref03_of _ _ _ _ (Nat.le_refl _) hown'.V).mono ?_
  rintro e w3 ⟨rfl, hb3⟩
  rw [HSET.out]
  have hbb3 := hbb.trans (hb3.mono hbb.size)
  have blk := (Blk.new_ (w := w.alloc (.cells #[.int .u64 (a.toNat : Int), .int .u64 (b.toNat : Int)] 38)) (g := w.heap.size + 1) (t := 38) (cs := #[.int .u64 0, .int .u64 0]) (by simp)).keep hbb3
  have d0 := blk.cell 0
  have d1 := blk.cell 1
  have e0 := blk.free 0
  have e1 := blk.free 1

  simp at d0 d1
  go_wp2
  refine bodyPost_ret (v := (.agg #[.int .u64 ((t).a.toNat : Int), .int .u64 ((t).b.toNat : Int)])) (by simp [results, Try.results42, go_sem, d0, d1]) rfl ?_
  exact ⟨rfl, (Below.trans (by go_grown) ((hbb3.mono (by simp; omega)).setCell (by simp) _)).setCell (by simp) _⟩
end Go.Proofs.Ytlifakbdgmdafaa
