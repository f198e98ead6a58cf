/-
  censusref10: many. censusref10: xor of none and of one.
-/
import Derived.Test.YtlifakbdgmdafaaExM
import Derived.Test.YtlifakbdgmdafaaRef10
namespace Go.Proofs.Ytlifakbdgmdafaa
open Go Go.RowKit

theorem RS.adds_snoc (s : RS) (r : List (List Int)) (l : List Int) : s.adds (r ++ [l]) = (s.adds r).add l := by simp [RS.adds, RS.add]
set_option maxRecDepth 100000 in
set_option maxHeartbeats 1600000 in
theorem m10_yes (w : World) {Av : Nat → Prop} (hAv : AvOk Av w) (base bi : Nat) (hbase : base ≤ w.heap.size) (A : Option Addr) (c : Nat) (AG : Option Addr) (nG cG : Nat) (s s' : RS) (v : Int) (AI : Option Addr) (cI : Nat) (l : List Int) (hll : l.length ≤ 80000) (hin : OwnInts w bi (.slice AI l.length cI) l) (hv : v = s.var) (hs' : s' = (s.fresh ((l.all fun x => holdsL s.a (1 * x)) == true)).adds (andRows 1 s.var l)) (hbd : ∀ x ∈ l, -1000000 ≤ x ∧ x ≤ 1000000) (hn0 : 0 ≤ s.n) (hn1 : s.n ≤ 128) (hown : OwnRows w Av base (.slice A s.L.length c) s.L) (hL : s.L.length ≤ 400000) :
    Calls Try.prog 82 #[(.agg #[.int .i64 s.n, .slice A s.L.length c, .slice AG nG cG, .int .u64 (s.a.a.toNat : Int), .int .u64 (s.a.b.toNat : Int), .slice none 0 0, .bool s.closed]), .slice AI l.length cI, .int .i64 1] w fun e w' => (∃ A' c', e = .returned (.tuple #[(.agg #[.int .i64 s'.n, .slice A' s'.L.length c', .slice AG nG cG, .int .u64 (s'.a.a.toNat : Int), .int .u64 (s'.a.b.toNat : Int), .slice none 0 0, .bool s'.closed]), .int .i64 v]) ∧ OwnRows w' Av base (.slice A' s'.L.length c') s'.L) ∧ FrR base w w' := by
  have v0 : 1 ≤ v := by rw [hv]; unfold RS.var; split <;> omega
  have v1 : v ≤ 1000000 := by rw [hv]; unfold RS.var; split <;> omega
  obtain ⟨a0, ha0⟩ : ∃ z, z = (l.all fun x => holdsL s.a (1 * x)) := ⟨_, rfl⟩
  rw [← ha0] at hs'
  obtain ⟨s1, hs1⟩ : ∃ z, z = s.fresh (a0 == true) := ⟨_, rfl⟩
  rw [← hs1] at hs'
  have hl1 : s1.L = s.L := by rw [hs1]; rfl
  refine sx_enter (args := [.agg #[.int .i64 s.n, .slice A s.L.length c, .slice AG nG cG, .int .u64 (s.a.a.toNat : Int), .int .u64 (s.a.b.toNat : Int), .slice none 0 0, .bool s.closed], .slice AI l.length cI, .int .i64 1]) Try.func82 rfl rfl (by simp) ?_
  refine cw_seq (fun FK1 K1 => ?_)
  refine cw_region ?_
  refine wl_new (fun ρ e => ex_boxState (e _ _ rfl)) rfl rfl (fun g2 w3 jb4 jk5 jg6 js7 => ?_)
  refine wl_new (fun ρ e => ex_allocState) rfl rfl (fun g8 w9 jb10 jk11 jg12 js13 => ?_)
  have hb : Below w.heap.size w w9 := (jb4.trans (jb10.mono jb4.size))
  have gs : GSt Av base w g2 g8 AG nG cG bi (.slice AI l.length cI) l s A c w9 := GSt.start w _ hb (jk5.keep jb10) jk11 hown hin
  have hne : g2 ≠ g8 := by omega
  have h1 : w.heap.size ≤ g2 := by omega
  have h3 : w.heap.size ≤ g8 := by omega
  refine wl_val (v := .int .i64 0) (fun ρ e => ex_assign (e _ _ rfl)) rfl rfl ?_
  refine wl_nil ?_
  refine xw_next K1 ?_
  refine cw_seq (fun FK14 K14 => ?_)
  refine cw_region ?_
  refine wl_val (v := .bool true) (fun ρ e => ex_assign (e _ _ rfl)) rfl rfl ?_
  refine wl_nil ?_
  refine xw_next K14 ?_
  refine cw_seq (fun FK15 K15 => ?_)
  refine cw_seq (fun FK16 K16 => ?_)
  refine cw_region ?_
  refine wl_val (v := .int .i64 0) (fun ρ e => ex_assign (e _ _ rfl)) rfl rfl ?_
  refine wl_nil ?_
  refine xw_next K16 ?_
  refine cw_block ?_
  refine cw_loop (ι := Nat × Bool) (fun i => [(1, .slice AI l.length cI), (2, .int .i64 1), (3, .pointer (some ⟨g2, 0, none⟩)), (6, .pointer (some ⟨g8, 0, none⟩)), (8, .bool i.2), (9, .int .i64 (i.1 : Int))]) (fun i W => i.1 ≤ l.length ∧ i.2 = ((l.take i.1).all fun x => holdsL s.a (1 * x)) ∧ GSt Av base w g2 g8 AG nG cG bi (.slice AI l.length cI) l s A c W) (fun i => l.length - i.1) (0, true) ⟨Nat.zero_le _, by simp, gs⟩ ⟨rfl, rfl, rfl, rfl, rfl, rfl, trivial⟩ (fun i Wr hJ K17 hK18 => ?_)
  clear gs
  obtain ⟨k, b⟩ := i
  obtain ⟨hk, hbb, gs⟩ := hJ
  dsimp only at hk hbb gs
  by_cases hlt : k < l.length
  · obtain ⟨gi, rfl, hgi⟩ := own_addr hin (by omega)
    have hget : l[k]? = some l[k] := List.getElem?_eq_getElem hlt
    have hx := hbd l[k] (List.getElem_mem hlt)
    have hnext : ((l.take k).all (fun x => holdsL s.a (1 * x)) && holdsL s.a (1 * l[k])) = ((l.take (k + 1)).all fun x => holdsL s.a (1 * x)) := by rw [List.take_succ_eq_append_getElem hlt, List.all_append]; simp
    rw [← hbb] at hnext
    generalize l[k] = x at hget hx hnext
    obtain ⟨hx0, hx1⟩ := hx
    have kh : ∀ W, Calls Try.prog 81 #[(.agg #[.int .i64 s.n, .slice A s.L.length c, .slice AG nG cG, .int .u64 (s.a.a.toNat : Int), .int .u64 (s.a.b.toNat : Int), .slice none 0 0, .bool s.closed]), .int .i64 (1 * x)] W fun e w' => e = .returned (.bool (holdsL s.a (1 * x))) ∧ Below W.heap.size W w' := fun W => ref10_holds W A c AG nG cG s (1 * x) (by omega) (by omega)
    generalize holdsL s.a (1 * x) = b1 at hnext kh
    cases b
    · rw [Bool.false_and] at hnext
      refine cw_seq (fun FK19 K19 => ?_)
      refine cw_seq (fun FK20 K20 => ?_)
      refine cw_region ?_
      refine wl_val (v := .int .i64 (k : Int)) (fun ρ e => ex_move (e _ _ rfl)) rfl rfl ?_
      refine wl_val (v := .slice (some ⟨gi, 0, none⟩) l.length cI) (fun ρ e => ex_move (e _ _ rfl)) rfl rfl ?_
      refine wl_val (v := .int .i64 ((l.length : Nat) : Int)) (fun ρ e => ex_lenI (e _ _ rfl)) rfl rfl ?_
      refine wl_val (v := .bool true) (fun ρ e => ex_lss1 (u := (k : Int)) (v := ((l.length : Nat) : Int)) (e _ _ rfl) (e _ _ rfl) (by omega)) rfl rfl ?_
      refine wl_nil ?_
      refine xw_next K20 ?_
      refine cw_true rfl ?_
      refine cw_skip ?_
      refine xw_next K19 ?_
      refine cw_seq (fun FK21 K21 => ?_)
      refine cw_block ?_
      refine cw_quiet (fun Z => Below Wr.heap.size Wr Z) (by kernel_rfl) (by kernel_rfl) ((Below.refl _ _).drew) ?_
      refine wq_val (v := .bool false) (fun ρ e W hW => ex_move (e _ _ rfl)) rfl rfl ?_
      refine wq_val (v := .bool false) (fun ρ e W hW => ex_move (e _ _ rfl)) rfl rfl ?_
      refine wq_skip rfl rfl ?_
      refine wq_skip rfl rfl ?_
      refine wq_skip rfl rfl ?_
      refine wq_skip rfl rfl ?_
      refine wq_skip rfl rfl ?_
      refine wq_skip rfl rfl ?_
      refine wq_skip rfl rfl ?_
      refine wq_skip rfl rfl ?_
      refine wq_val (v := .bool false) (fun ρ e W hW => ex_pick0 (e _ _ rfl) (e _ _ rfl)) rfl rfl ?_
      refine wq_val (v := .bool false) (fun ρ e W hW => ex_assign (e _ _ rfl)) rfl rfl ?_
      refine wq_nil (fun w22 hb5 => ?_)
      replace gs := gs.below hb5
      refine xw_block ?_
      refine xw_next K21 ?_
      refine cw_region ?_
      refine wl_val (v := .int .i64 (k : Int)) (fun ρ e => ex_move (e _ _ rfl)) rfl rfl ?_
      refine wl_val (v := .int .i64 ((k + 1 : Nat) : Int)) (fun ρ e => ex_inc (k := k) (e _ _ rfl) (e _ _ rfl) (by omega)) rfl rfl ?_
      refine wl_val (v := .int .i64 ((k + 1 : Nat) : Int)) (fun ρ e => ex_assign (e _ _ rfl)) rfl rfl ?_
      refine wl_nil ?_
      refine xw_round hK18 (k + 1, false) (by show l.length - (k + 1) < l.length - k; omega) ⟨by show k + 1 ≤ l.length; omega, hnext, gs⟩ ⟨rfl, rfl, rfl, rfl, rfl, rfl, trivial⟩
    · rw [Bool.true_and] at hnext
      refine cw_seq (fun FK23 K23 => ?_)
      refine cw_seq (fun FK24 K24 => ?_)
      refine cw_region ?_
      refine wl_val (v := .int .i64 (k : Int)) (fun ρ e => ex_move (e _ _ rfl)) rfl rfl ?_
      refine wl_val (v := .slice (some ⟨gi, 0, none⟩) l.length cI) (fun ρ e => ex_move (e _ _ rfl)) rfl rfl ?_
      refine wl_val (v := .int .i64 ((l.length : Nat) : Int)) (fun ρ e => ex_lenI (e _ _ rfl)) rfl rfl ?_
      refine wl_val (v := .bool true) (fun ρ e => ex_lss1 (u := (k : Int)) (v := ((l.length : Nat) : Int)) (e _ _ rfl) (e _ _ rfl) (by omega)) rfl rfl ?_
      refine wl_nil ?_
      refine xw_next K24 ?_
      refine cw_true rfl ?_
      refine cw_skip ?_
      refine xw_next K23 ?_
      refine cw_seq (fun FK25 K25 => ?_)
      refine cw_block ?_
      refine cw_quiet (fun Z => Below Wr.heap.size Wr Z) (by kernel_rfl) (by kernel_rfl) ((Below.refl _ _).drew) ?_
      refine wq_val (v := .bool true) (fun ρ e W hW => ex_move (e _ _ rfl)) rfl rfl ?_
      refine wq_val (v := .bool true) (fun ρ e W hW => ex_move (e _ _ rfl)) rfl rfl ?_
      refine wq_val (v := .agg #[.int .i64 s.n, .slice A s.L.length c, .slice AG nG cG, .int .u64 (s.a.a.toNat : Int), .int .u64 (s.a.b.toNat : Int), .slice none 0 0, .bool s.closed]) (fun ρ e W hW => ex_state (g := g2) (e _ _ rfl) (gs.1.keep hW)) rfl rfl ?_
      refine wq_val (v := .int .i64 1) (fun ρ e W hW => ex_move (e _ _ rfl)) rfl rfl ?_
      refine wq_val (v := .slice (some ⟨gi, 0, none⟩) l.length cI) (fun ρ e W hW => ex_move (e _ _ rfl)) rfl rfl ?_
      refine wq_val (v := .int .i64 (k : Int)) (fun ρ e W hW => ex_move (e _ _ rfl)) rfl rfl ?_
      refine wq_val (v := .pointer (some ⟨gi, k, none⟩)) (fun ρ e W hW => ex_index0 (g := gi) (n := l.length) (c := cI) (i := k) (e _ _ rfl) (e _ _ rfl) (by omega)) rfl rfl ?_
      refine wq_val (v := .int .i64 x) (fun ρ e W hW => ex_int (p := ⟨gi, k, none⟩) (e _ _ rfl) (ints_cell (gs.2.2.2.1.below hW) _ _ hget)) rfl rfl ?_
      refine wq_val (v := .int .i64 (1 * x)) (fun ρ e W hW => ex_mul (u := 1) (v := x) (e _ _ rfl) (e _ _ rfl) (wrap_in (by omega) (by omega))) rfl rfl ?_
      refine wq_call (args := [.agg #[.int .i64 s.n, .slice A s.L.length c, .slice AG nG cG, .int .u64 (s.a.a.toNat : Int), .int .u64 (s.a.b.toNat : Int), .slice none 0 0, .bool s.closed], .int .i64 (1 * x)]) (v := .bool b1) in_holds rfl rfl rfl (fun Z hZ => kept (kh Z) hZ) ?_
      refine wq_val (v := .bool b1) (fun ρ e W hW => ex_pick1 (e _ _ rfl) (e _ _ rfl)) rfl rfl ?_
      refine wq_val (v := .bool b1) (fun ρ e W hW => ex_assign (e _ _ rfl)) rfl rfl ?_
      refine wq_nil (fun w26 hb5 => ?_)
      replace gs := gs.below hb5
      refine xw_block ?_
      refine xw_next K25 ?_
      refine cw_region ?_
      refine wl_val (v := .int .i64 (k : Int)) (fun ρ e => ex_move (e _ _ rfl)) rfl rfl ?_
      refine wl_val (v := .int .i64 ((k + 1 : Nat) : Int)) (fun ρ e => ex_inc (k := k) (e _ _ rfl) (e _ _ rfl) (by omega)) rfl rfl ?_
      refine wl_val (v := .int .i64 ((k + 1 : Nat) : Int)) (fun ρ e => ex_assign (e _ _ rfl)) rfl rfl ?_
      refine wl_nil ?_
      refine xw_round hK18 (k + 1, b1) (by show l.length - (k + 1) < l.length - k; omega) ⟨by show k + 1 ≤ l.length; omega, hnext, gs⟩ ⟨rfl, rfl, rfl, rfl, rfl, rfl, trivial⟩
  · have hb0 : b = a0 := by rw [hbb, ha0, show k = l.length by omega, List.take_length]
    subst hb0
    clear hbb
    refine cw_seq (fun FK27 K27 => ?_)
    refine cw_seq (fun FK28 K28 => ?_)
    refine cw_region ?_
    refine wl_val (v := .int .i64 (k : Int)) (fun ρ e => ex_move (e _ _ rfl)) rfl rfl ?_
    refine wl_val (v := .slice AI l.length cI) (fun ρ e => ex_move (e _ _ rfl)) rfl rfl ?_
    refine wl_val (v := .int .i64 ((l.length : Nat) : Int)) (fun ρ e => ex_lenI (e _ _ rfl)) rfl rfl ?_
    refine wl_val (v := .bool false) (fun ρ e => ex_lss0 (u := (k : Int)) (v := ((l.length : Nat) : Int)) (e _ _ rfl) (e _ _ rfl) (by omega)) rfl rfl ?_
    refine wl_nil ?_
    refine xw_next K28 ?_
    refine cw_false rfl ?_
    refine cw_exit ?_
    refine xw_past (by intro h; cases h) ?_
    refine xw_past (by intro h; cases h) ?_
    refine xw_here ?_
    refine xw_next K15 ?_
    refine cw_seq (fun FK29 K29 => ?_)
    refine cw_region ?_
    refine wl_val (v := .agg #[.int .i64 s.n, .slice A s.L.length c, .slice AG nG cG, .int .u64 (s.a.a.toNat : Int), .int .u64 (s.a.b.toNat : Int), .slice none 0 0, .bool s.closed]) (fun ρ e => ex_state (g := g2) (e _ _ rfl) gs.1) rfl rfl ?_
    refine wl_val (v := .bool b) (fun ρ e => ex_move (e _ _ rfl)) rfl rfl ?_
    refine wl_val (v := .int .i64 1) (fun ρ e => ex_move (e _ _ rfl)) rfl rfl ?_
    refine wl_val (v := .bool true) (fun ρ e => ex_gtr1 (u := 1) (v := 0) (e _ _ rfl) (e _ _ rfl) (by omega)) rfl rfl ?_
    refine wl_val (v := .bool (b == true)) (fun ρ e => ex_eqb (b := b) (b' := true) (e _ _ rfl) (e _ _ rfl)) rfl rfl ?_
    refine wl_call (args := [.agg #[.int .i64 s.n, .slice A s.L.length c, .slice AG nG cG, .int .u64 (s.a.a.toNat : Int), .int .u64 (s.a.b.toNat : Int), .slice none 0 0, .bool s.closed], .bool (b == true)]) in_fresh rfl rfl rfl ?_
    refine (ref10_fresh _ A c AG nG cG s s1 v (b == true) hs1 hv hn0 (by omega)).mono ?_
    rintro _ w30 ⟨rfl, hb5⟩
    replace gs := gs.below hb5
    have gm := gs.freshmid (s' := s1) hl1
    refine ⟨_, rfl, ?_⟩
    refine wl_val (v := .tuple #[.agg #[.int .i64 s1.n, .slice A s1.L.length c, .slice AG nG cG, .int .u64 (s1.a.a.toNat : Int), .int .u64 (s1.a.b.toNat : Int), .slice none 0 0, .bool s1.closed], .int .i64 v]) (fun ρ e => ex_move (e _ _ rfl)) rfl rfl ?_
    refine wl_val (v := .agg #[.int .i64 s1.n, .slice A s1.L.length c, .slice AG nG cG, .int .u64 (s1.a.a.toNat : Int), .int .u64 (s1.a.b.toNat : Int), .slice none 0 0, .bool s1.closed]) (fun ρ e => ex_extract (vs := #[.agg #[.int .i64 s1.n, .slice A s1.L.length c, .slice AG nG cG, .int .u64 (s1.a.a.toNat : Int), .int .u64 (s1.a.b.toNat : Int), .slice none 0 0, .bool s1.closed], .int .i64 v]) (e _ _ rfl) rfl) rfl rfl ?_
    refine wl_val (v := .int .i64 v) (fun ρ e => ex_extract (vs := #[.agg #[.int .i64 s1.n, .slice A s1.L.length c, .slice AG nG cG, .int .u64 (s1.a.a.toNat : Int), .int .u64 (s1.a.b.toNat : Int), .slice none 0 0, .bool s1.closed], .int .i64 v]) (e _ _ rfl) rfl) rfl rfl ?_
    refine wl_none (fun ρ e => ex_storeState (A := A) (c := c) (s := s1) (AG := AG) (nG := nG) (cG := cG) (e _ _ rfl) (e _ _ rfl) gm.1) rfl ?_
    replace gs := gm.put hne.symm h1
    clear gm
    refine wl_val (v := .int .i64 v) (fun ρ e => ex_assign (e _ _ rfl)) rfl rfl ?_
    refine wl_nil ?_
    refine xw_next K29 ?_
    refine cw_seq (fun FK31 K31 => ?_)
    refine cw_region ?_
    refine wl_val (v := .int .i64 1) (fun ρ e => ex_move (e _ _ rfl)) rfl rfl ?_
    refine wl_val (v := .int .i64 v) (fun ρ e => ex_move (e _ _ rfl)) rfl rfl ?_
    refine wl_val (v := .int .i64 (1 * v)) (fun ρ e => ex_mul (u := 1) (v := v) (e _ _ rfl) (e _ _ rfl) (wrap_in (by omega) (by omega))) rfl rfl ?_
    have gsp := gs
    refine wl_newslice (fun ρ e => ex_build1 (v0 := (1 * v)) (e _ _ rfl)) rfl rfl (fun gn32 w37 jb33 jk34 jg35 js36 => ?_)
    have hsz := gs.2.2.2.2.size
    replace gs := gs.below jb33
    have ge := GE.new gsp jb33 jk34 jg35
    refine wl_val (v := .slice (some ⟨gn32, 0, none⟩) 1 1) (fun ρ e => ex_assign (e _ _ rfl)) rfl rfl ?_
    refine wl_nil ?_
    refine xw_next K31 ?_
    refine cw_seq (fun FK38 K38 => ?_)
    refine cw_seq (fun FK39 K39 => ?_)
    refine cw_region ?_
    refine wl_val (v := .int .i64 0) (fun ρ e => ex_assign (e _ _ rfl)) rfl rfl ?_
    refine wl_nil ?_
    refine xw_next K39 ?_
    refine cw_block ?_
    refine cw_loop (ι := Nat × Option Addr × Nat × Option Addr × Nat × Nat) (fun i => [(1, .slice AI l.length cI), (2, .int .i64 1), (3, .pointer (some ⟨g2, 0, none⟩)), (6, .pointer (some ⟨g8, 0, none⟩)), (10, .int .i64 v), (11, .slice i.2.2.2.1 i.2.2.2.2.1 i.2.2.2.2.2), (12, .int .i64 (i.1 : Int))]) (fun i W => i.1 ≤ l.length ∧ i.2.2.2.2.1 = i.1 + 1 ∧ GE Av base w g2 g8 AG nG cG bi (.slice AI l.length cI) l (s1.adds ((l.take i.1).map (andRow 1 v))) i.2.1 i.2.2.1 (.slice i.2.2.2.1 i.2.2.2.2.1 i.2.2.2.2.2) (1 * v :: (l.take i.1).map (fun x => -1 * x)) W) (fun i => l.length - i.1) (0, A, c, some ⟨gn32, 0, none⟩, 1, 1) ⟨Nat.zero_le _, rfl, by simpa [RS.adds] using ge⟩ ⟨rfl, rfl, rfl, rfl, rfl, rfl, rfl, trivial⟩ (fun i Wr hJ K40 hK41 => ?_)
    clear ge gs
    obtain ⟨k, A, c, Ae, ne, ce⟩ := i
    obtain ⟨hk, hne1, ge⟩ := hJ
    dsimp only at hk hne1 ge
    have hcur : (s1.adds ((l.take k).map (andRow 1 v))).L.length ≤ 480000 := by simp [RS.adds, hl1]; omega
    obtain ⟨cur, hcu⟩ : ∃ z, z = (s1.adds ((l.take k).map (andRow 1 v))) := ⟨_, rfl⟩
    obtain ⟨el, hel⟩ : ∃ z, z = (1 * v :: (l.take k).map (fun x => -1 * x)) := ⟨_, rfl⟩
    rw [← hcu, ← hel] at ge
    rw [← hcu] at hcur
    have hell : el.length = k + 1 := by rw [hel]; simp; omega
    by_cases hlt : k < l.length
    · obtain ⟨gi, rfl, hgi⟩ := own_addr hin (by omega)
      have hget : l[k]? = some l[k] := List.getElem?_eq_getElem hlt
      have hx := hbd l[k] (List.getElem_mem hlt)
      have htk := List.take_succ_eq_append_getElem hlt
      have hcu2 : (s1.adds ((l.take (k + 1)).map (andRow 1 v))) = cur.add (andRow 1 v l[k]) := by rw [hcu, htk]; simp only [RS.adds, RS.add, List.map_append, List.map_cons, List.map_nil, List.append_assoc]
      have hel2 : (1 * v :: (l.take (k + 1)).map (fun x => -1 * x)) = el ++ [-1 * l[k]] := by rw [hel, htk]; simp only [List.map_append, List.map_cons, List.map_nil, List.cons_append]
      generalize l[k] = x at hget hx hcu2 hel2
      obtain ⟨hx0, hx1⟩ := hx
      obtain ⟨cur2, hc2⟩ : ∃ z, z = cur.add [(-1) * v, x] := ⟨_, rfl⟩
      have hlen : cur2.L.length = cur.L.length + 1 := by rw [hc2]; simp [RS.add]
      have hcu3 : cur.add (andRow 1 v x) = cur2 := by rw [hc2]; simp [andRow]
      rw [hcu3] at hcu2
      refine cw_seq (fun FK42 K42 => ?_)
      refine cw_seq (fun FK43 K43 => ?_)
      refine cw_region ?_
      refine wl_val (v := .int .i64 (k : Int)) (fun ρ e => ex_move (e _ _ rfl)) rfl rfl ?_
      refine wl_val (v := .slice (some ⟨gi, 0, none⟩) l.length cI) (fun ρ e => ex_move (e _ _ rfl)) rfl rfl ?_
      refine wl_val (v := .int .i64 ((l.length : Nat) : Int)) (fun ρ e => ex_lenI (e _ _ rfl)) rfl rfl ?_
      refine wl_val (v := .bool true) (fun ρ e => ex_lss1 (u := (k : Int)) (v := ((l.length : Nat) : Int)) (e _ _ rfl) (e _ _ rfl) (by omega)) rfl rfl ?_
      refine wl_nil ?_
      refine xw_next K43 ?_
      refine cw_true rfl ?_
      refine cw_skip ?_
      refine xw_next K42 ?_
      refine cw_seq (fun FK44 K44 => ?_)
      refine cw_block ?_
      refine cw_seq (fun FK45 K45 => ?_)
      refine cw_drawn (fun W => Blk W g2 63 #[.int .i64 cur.n, .slice A cur.L.length c, .slice AG nG cG, .int .u64 (cur.a.a.toNat : Int), .int .u64 (cur.a.b.toNat : Int), .slice none 0 0, .bool cur.closed] ∧ OwnInts W bi (.slice (some ⟨gi, 0, none⟩) l.length cI) l) 11 [(0, 0), (1, 1), (2, 1), (3, 1), (4, 1), (5, 1), (6, 1), (7, 1), (8, 0), (9, 2), (10, 2), (11, 3)] (by kernel_rfl) (by kernel_rfl) (PQ.then_ (PQ.block (PQ.then_ (PQ.then_ (PQ.block (PQ.then_ PQ.body)))))) (⟨ge.1.drew.1, ge.1.drew.2.2.2.1⟩) ?_
      replace ge := ge.drew
      refine wt0 (v := .agg #[.int .i64 cur.n, .slice A cur.L.length c, .slice AG nG cG, .int .u64 (cur.a.a.toNat : Int), .int .u64 (cur.a.b.toNat : Int), .slice none 0 0, .bool cur.closed]) rfl (fun ρ e W hW => ex_state (g := g2) (e _ _ rfl) hW.1) rfl rfl ?_
      refine wt1 (v := .int .i64 1) rfl (fun ρ e W => ex_move (e _ _ rfl)) rfl rfl ?_
      refine wt1 (v := .int .i64 (-1)) rfl (fun ρ e W => ex_neg (e _ _ rfl) (wrap_in (by omega) (by omega))) rfl rfl ?_
      refine wt1 (v := .int .i64 v) rfl (fun ρ e W => ex_move (e _ _ rfl)) rfl rfl ?_
      refine wt1 (v := .int .i64 ((-1) * v)) rfl (fun ρ e W => ex_mul (u := (-1)) (v := v) (e _ _ rfl) (e _ _ rfl) (wrap_in (by omega) (by omega))) rfl rfl ?_
      refine wt1 (v := .slice (some ⟨gi, 0, none⟩) l.length cI) rfl (fun ρ e W => ex_move (e _ _ rfl)) rfl rfl ?_
      refine wt1 (v := .int .i64 (k : Int)) rfl (fun ρ e W => ex_move (e _ _ rfl)) rfl rfl ?_
      refine wt1 (v := .pointer (some ⟨gi, k, none⟩)) rfl (fun ρ e W => ex_index0 (g := gi) (n := l.length) (c := cI) (i := k) (e _ _ rfl) (e _ _ rfl) (by omega)) rfl rfl ?_
      refine wt0 (v := .int .i64 x) rfl (fun ρ e W hW => ex_int (p := ⟨gi, k, none⟩) (e _ _ rfl) (ints_cell hW.2 _ _ hget)) rfl rfl ?_
      have gep := ge
      refine wt2_newslice rfl (fun ρ e => ex_build2 (v0 := ((-1) * v)) (v1 := x) (e _ _ rfl) (e _ _ rfl)) rfl rfl (fun gn46 w51 jb47 jk48 jg49 js50 => ?_)
      have hsz := ge.1.2.2.2.2.size
      replace ge := ge.below jb47
      refine ⟨⟨ge.1.1, ge.1.2.2.2.1⟩, ?_⟩
      refine wt2_call (args := [.agg #[.int .i64 cur.n, .slice A cur.L.length c, .slice AG nG cG, .int .u64 (cur.a.a.toNat : Int), .int .u64 (cur.a.b.toNat : Int), .slice none 0 0, .bool cur.closed], .slice (some ⟨gn46, 0, none⟩) 2 2]) rfl in_add rfl rfl rfl ?_
      refine (ref10_add_ge hAv hbase hc2 jg49 gep jb47 jk48 rfl (by simp) (by omega)).mono ?_
      rintro _ w52 ⟨⟨A53, c54, rfl, o5⟩, fr5⟩
      have gm := ge.1.mid fr5 o5
      have ow := fr5.ints ge.2
      refine ⟨_, rfl, ⟨gm.1, gm.2.2.2.1⟩, ?_⟩
      refine wt3_none rfl (fun ρ e => ex_storeState (A := A53) (c := c54) (s := cur2) (AG := AG) (nG := nG) (cG := cG) (e _ _ rfl) (e _ _ rfl) gm.1) rfl ?_
      replace ge : GE Av base w g2 g8 AG nG cG bi (.slice (some ⟨gi, 0, none⟩) l.length cI) l cur2 A53 c54 (.slice Ae ne ce) el _ := ⟨gm.put hne.symm h1, (put7_keeps (TyAt.of gm.1)).ints ow⟩
      clear gm ow
      refine wt_nil ?_
      refine xw_next K45 ?_
      refine cw_seq (fun FK55 K55 => ?_)
      refine cw_seq (fun FK56 K56 => ?_)
      refine cw_region ?_
      refine wl_val (v := .int .i64 1) (fun ρ e => ex_move (e _ _ rfl)) rfl rfl ?_
      refine wl_val (v := .bool false) (fun ρ e => ex_lss0 (u := 1) (v := 0) (e _ _ rfl) (e _ _ rfl) (by omega)) rfl rfl ?_
      refine wl_nil ?_
      refine xw_next K56 ?_
      refine cw_false rfl ?_
      refine cw_skip ?_
      refine xw_next K55 ?_
      refine cw_region ?_
      refine wl_val (v := .slice Ae ne ce) (fun ρ e => ex_move (e _ _ rfl)) rfl rfl ?_
      refine wl_val (v := .int .i64 1) (fun ρ e => ex_move (e _ _ rfl)) rfl rfl ?_
      refine wl_val (v := .int .i64 (-1)) (fun ρ e => ex_neg (e _ _ rfl) (wrap_in (by omega) (by omega))) rfl rfl ?_
      refine wl_val (v := .slice (some ⟨gi, 0, none⟩) l.length cI) (fun ρ e => ex_move (e _ _ rfl)) rfl rfl ?_
      refine wl_val (v := .int .i64 (k : Int)) (fun ρ e => ex_move (e _ _ rfl)) rfl rfl ?_
      refine wl_val (v := .pointer (some ⟨gi, k, none⟩)) (fun ρ e => ex_index0 (g := gi) (n := l.length) (c := cI) (i := k) (e _ _ rfl) (e _ _ rfl) (by omega)) rfl rfl ?_
      refine wl_val (v := .int .i64 x) (fun ρ e => ex_int (p := ⟨gi, k, none⟩) (e _ _ rfl) (ints_cell ge.1.2.2.2.1 _ _ hget)) rfl rfl ?_
      refine wl_val (v := .int .i64 ((-1) * x)) (fun ρ e => ex_mul (u := (-1)) (v := x) (e _ _ rfl) (e _ _ rfl) (wrap_in (by omega) (by omega))) rfl rfl ?_
      have gep := ge
      refine wl_newslice (fun ρ e => ex_build1 (v0 := ((-1) * x)) (e _ _ rfl)) rfl rfl (fun gn57 w62 jb58 jk59 jg60 js61 => ?_)
      have hsz := ge.1.2.2.2.2.size
      replace ge := ge.below jb58
      refine wl_append (base := w.heap.size) (l := el) (yv := ((-1) * x)) rfl rfl rfl rfl ge.2 jk59 (by omega) ge.1.2.2.2.2.size (fun A63 c64 w65 hown6 hgrow hwhere => ?_)
      replace ge := ge.append0 hin hown6 hgrow hwhere
      refine wl_val (v := .slice A63 (el.length + 1) c64) (fun ρ e => ex_assign (e _ _ rfl)) rfl rfl ?_
      refine wl_nil ?_
      refine xw_block ?_
      refine xw_next K44 ?_
      refine cw_region ?_
      refine wl_val (v := .int .i64 (k : Int)) (fun ρ e => ex_move (e _ _ rfl)) rfl rfl ?_
      refine wl_val (v := .int .i64 ((k + 1 : Nat) : Int)) (fun ρ e => ex_inc (k := k) (e _ _ rfl) (e _ _ rfl) (by omega)) rfl rfl ?_
      refine wl_val (v := .int .i64 ((k + 1 : Nat) : Int)) (fun ρ e => ex_assign (e _ _ rfl)) rfl rfl ?_
      refine wl_nil ?_
      refine xw_round hK41 (k + 1, A53, c54, A63, el.length + 1, c64) (by show l.length - (k + 1) < l.length - k; omega) ⟨by show k + 1 ≤ l.length; omega, by show el.length + 1 = k + 1 + 1; omega, by show GE _ _ _ _ _ _ _ _ _ _ _ (s1.adds ((l.take (k + 1)).map (andRow 1 v))) _ _ _ (1 * v :: (l.take (k + 1)).map (fun x => -1 * x)) _; rw [hcu2, hel2]; exact ge⟩ ⟨rfl, rfl, rfl, rfl, rfl, rfl, rfl, trivial⟩
    · have hs2 : s' = cur.add el := by rw [hs', hcu, hel, show k = l.length by omega, List.take_length, ← RS.adds_snoc]; simp only [andRows, ← hv]
      clear hcu hel
      refine cw_seq (fun FK66 K66 => ?_)
      refine cw_seq (fun FK67 K67 => ?_)
      refine cw_region ?_
      refine wl_val (v := .int .i64 (k : Int)) (fun ρ e => ex_move (e _ _ rfl)) rfl rfl ?_
      refine wl_val (v := .slice AI l.length cI) (fun ρ e => ex_move (e _ _ rfl)) rfl rfl ?_
      refine wl_val (v := .int .i64 ((l.length : Nat) : Int)) (fun ρ e => ex_lenI (e _ _ rfl)) rfl rfl ?_
      refine wl_val (v := .bool false) (fun ρ e => ex_lss0 (u := (k : Int)) (v := ((l.length : Nat) : Int)) (e _ _ rfl) (e _ _ rfl) (by omega)) rfl rfl ?_
      refine wl_nil ?_
      refine xw_next K67 ?_
      refine cw_false rfl ?_
      refine cw_exit ?_
      refine xw_past (by intro h; cases h) ?_
      refine xw_past (by intro h; cases h) ?_
      refine xw_here ?_
      refine xw_next K38 ?_
      refine cw_seq (fun FK68 K68 => ?_)
      refine cw_region ?_
      refine wl_val (v := .agg #[.int .i64 cur.n, .slice A cur.L.length c, .slice AG nG cG, .int .u64 (cur.a.a.toNat : Int), .int .u64 (cur.a.b.toNat : Int), .slice none 0 0, .bool cur.closed]) (fun ρ e => ex_state (g := g2) (e _ _ rfl) ge.1.1) rfl rfl ?_
      refine wl_val (v := .slice Ae ne ce) (fun ρ e => ex_move (e _ _ rfl)) rfl rfl ?_
      refine wl_call (args := [.agg #[.int .i64 cur.n, .slice A cur.L.length c, .slice AG nG cG, .int .u64 (cur.a.a.toNat : Int), .int .u64 (cur.a.b.toNat : Int), .slice none 0 0, .bool cur.closed], .slice Ae ne ce]) in_add rfl rfl rfl ?_
      refine (ref10_add _ base (Nat.le_trans hbase ge.1.2.2.2.2.size) A c AG nG cG cur s' el hs2 Ae ne ce (ge.1.2.2.1.mono (fun k _ h => h.1)) (ownInts_low ge.2 hbase) (fun k hk => hAv k (own_ge ge.2 hk).1) (by omega)).mono ?_
      rintro _ w69 ⟨⟨A70, c71, rfl, o5⟩, fr5⟩
      have gm := (ge.1.mono (Av' := Av) (fun k _ h => h.1)).mid fr5 o5
      have ow := fr5.ints ge.2
      refine ⟨_, rfl, ?_⟩
      refine wl_val (v := .int .i64 v) (fun ρ e => ex_move (e _ _ rfl)) rfl rfl ?_
      refine wl_none (fun ρ e => ex_storeState (A := A70) (c := c71) (s := s') (AG := AG) (nG := nG) (cG := cG) (e _ _ rfl) (e _ _ rfl) gm.2.1) rfl ?_
      have ge := gm.fin h3
      refine wl_val (v := .int .i64 v) (fun ρ e => ex_assign (e _ _ rfl)) rfl rfl ?_
      refine wl_nil ?_
      refine xw_next K68 ?_
      refine cw_ret ?_
      refine xw_ret (v := .tuple #[.agg #[.int .i64 s'.n, .slice A70 s'.L.length c71, .slice AG nG cG, .int .u64 (s'.a.a.toNat : Int), .int .u64 (s'.a.b.toNat : Int), .slice none 0 0, .bool s'.closed], .int .i64 v]) (fun T hT => ?_) ⟨⟨A70, c71, rfl, ge.2.1⟩, ge.2.2⟩
      have t6 := hT 6 _ rfl
      have t7 := hT 7 _ rfl
      have r0 := ge.1.cell 0
      have r1 := ge.1.cell 1
      have r2 := ge.1.cell 2
      have r3 := ge.1.cell 3
      have r4 := ge.1.cell 4
      have r5 := ge.1.cell 5
      have r6 := ge.1.cell 6
      simp at r0 r1 r2 r3 r4 r5 r6
      simp [results, Try.results82, go_sem, t6, t7, r0, r1, r2, r3, r4, r5, r6]

set_option maxRecDepth 100000 in
set_option maxHeartbeats 1600000 in
theorem m10_no (w : World) {Av : Nat → Prop} (hAv : AvOk Av w) (base bi : Nat) (hbase : base ≤ w.heap.size) (A : Option Addr) (c : Nat) (AG : Option Addr) (nG cG : Nat) (s s' : RS) (v : Int) (AI : Option Addr) (cI : Nat) (l : List Int) (hll : l.length ≤ 80000) (hin : OwnInts w bi (.slice AI l.length cI) l) (hv : v = s.var) (hs' : s' = (s.fresh ((l.all fun x => holdsL s.a ((-1) * x)) == false)).adds (andRows (-1) s.var l)) (hbd : ∀ x ∈ l, -1000000 ≤ x ∧ x ≤ 1000000) (hn0 : 0 ≤ s.n) (hn1 : s.n ≤ 128) (hown : OwnRows w Av base (.slice A s.L.length c) s.L) (hL : s.L.length ≤ 400000) :
    Calls Try.prog 82 #[(.agg #[.int .i64 s.n, .slice A s.L.length c, .slice AG nG cG, .int .u64 (s.a.a.toNat : Int), .int .u64 (s.a.b.toNat : Int), .slice none 0 0, .bool s.closed]), .slice AI l.length cI, .int .i64 (-1)] w fun e w' => (∃ A' c', e = .returned (.tuple #[(.agg #[.int .i64 s'.n, .slice A' s'.L.length c', .slice AG nG cG, .int .u64 (s'.a.a.toNat : Int), .int .u64 (s'.a.b.toNat : Int), .slice none 0 0, .bool s'.closed]), .int .i64 v]) ∧ OwnRows w' Av base (.slice A' s'.L.length c') s'.L) ∧ FrR base w w' := by
  have v0 : 1 ≤ v := by rw [hv]; unfold RS.var; split <;> omega
  have v1 : v ≤ 1000000 := by rw [hv]; unfold RS.var; split <;> omega
  obtain ⟨a0, ha0⟩ : ∃ z, z = (l.all fun x => holdsL s.a ((-1) * x)) := ⟨_, rfl⟩
  rw [← ha0] at hs'
  obtain ⟨s1, hs1⟩ : ∃ z, z = s.fresh (a0 == false) := ⟨_, rfl⟩
  rw [← hs1] at hs'
  have hl1 : s1.L = s.L := by rw [hs1]; rfl
  refine sx_enter (args := [.agg #[.int .i64 s.n, .slice A s.L.length c, .slice AG nG cG, .int .u64 (s.a.a.toNat : Int), .int .u64 (s.a.b.toNat : Int), .slice none 0 0, .bool s.closed], .slice AI l.length cI, .int .i64 (-1)]) Try.func82 rfl rfl (by simp) ?_
  refine cw_seq (fun FK1 K1 => ?_)
  refine cw_region ?_
  refine wl_new (fun ρ e => ex_boxState (e _ _ rfl)) rfl rfl (fun g2 w3 jb4 jk5 jg6 js7 => ?_)
  refine wl_new (fun ρ e => ex_allocState) rfl rfl (fun g8 w9 jb10 jk11 jg12 js13 => ?_)
  have hb : Below w.heap.size w w9 := (jb4.trans (jb10.mono jb4.size))
  have gs : GSt Av base w g2 g8 AG nG cG bi (.slice AI l.length cI) l s A c w9 := GSt.start w _ hb (jk5.keep jb10) jk11 hown hin
  have hne : g2 ≠ g8 := by omega
  have h1 : w.heap.size ≤ g2 := by omega
  have h3 : w.heap.size ≤ g8 := by omega
  refine wl_val (v := .int .i64 0) (fun ρ e => ex_assign (e _ _ rfl)) rfl rfl ?_
  refine wl_nil ?_
  refine xw_next K1 ?_
  refine cw_seq (fun FK14 K14 => ?_)
  refine cw_region ?_
  refine wl_val (v := .bool true) (fun ρ e => ex_assign (e _ _ rfl)) rfl rfl ?_
  refine wl_nil ?_
  refine xw_next K14 ?_
  refine cw_seq (fun FK15 K15 => ?_)
  refine cw_seq (fun FK16 K16 => ?_)
  refine cw_region ?_
  refine wl_val (v := .int .i64 0) (fun ρ e => ex_assign (e _ _ rfl)) rfl rfl ?_
  refine wl_nil ?_
  refine xw_next K16 ?_
  refine cw_block ?_
  refine cw_loop (ι := Nat × Bool) (fun i => [(1, .slice AI l.length cI), (2, .int .i64 (-1)), (3, .pointer (some ⟨g2, 0, none⟩)), (6, .pointer (some ⟨g8, 0, none⟩)), (8, .bool i.2), (9, .int .i64 (i.1 : Int))]) (fun i W => i.1 ≤ l.length ∧ i.2 = ((l.take i.1).all fun x => holdsL s.a ((-1) * x)) ∧ GSt Av base w g2 g8 AG nG cG bi (.slice AI l.length cI) l s A c W) (fun i => l.length - i.1) (0, true) ⟨Nat.zero_le _, by simp, gs⟩ ⟨rfl, rfl, rfl, rfl, rfl, rfl, trivial⟩ (fun i Wr hJ K17 hK18 => ?_)
  clear gs
  obtain ⟨k, b⟩ := i
  obtain ⟨hk, hbb, gs⟩ := hJ
  dsimp only at hk hbb gs
  by_cases hlt : k < l.length
  · obtain ⟨gi, rfl, hgi⟩ := own_addr hin (by omega)
    have hget : l[k]? = some l[k] := List.getElem?_eq_getElem hlt
    have hx := hbd l[k] (List.getElem_mem hlt)
    have hnext : ((l.take k).all (fun x => holdsL s.a ((-1) * x)) && holdsL s.a ((-1) * l[k])) = ((l.take (k + 1)).all fun x => holdsL s.a ((-1) * x)) := by rw [List.take_succ_eq_append_getElem hlt, List.all_append]; simp
    rw [← hbb] at hnext
    generalize l[k] = x at hget hx hnext
    obtain ⟨hx0, hx1⟩ := hx
    have kh : ∀ W, Calls Try.prog 81 #[(.agg #[.int .i64 s.n, .slice A s.L.length c, .slice AG nG cG, .int .u64 (s.a.a.toNat : Int), .int .u64 (s.a.b.toNat : Int), .slice none 0 0, .bool s.closed]), .int .i64 ((-1) * x)] W fun e w' => e = .returned (.bool (holdsL s.a ((-1) * x))) ∧ Below W.heap.size W w' := fun W => ref10_holds W A c AG nG cG s ((-1) * x) (by omega) (by omega)
    generalize holdsL s.a ((-1) * x) = b1 at hnext kh
    cases b
    · rw [Bool.false_and] at hnext
      refine cw_seq (fun FK19 K19 => ?_)
      refine cw_seq (fun FK20 K20 => ?_)
      refine cw_region ?_
      refine wl_val (v := .int .i64 (k : Int)) (fun ρ e => ex_move (e _ _ rfl)) rfl rfl ?_
      refine wl_val (v := .slice (some ⟨gi, 0, none⟩) l.length cI) (fun ρ e => ex_move (e _ _ rfl)) rfl rfl ?_
      refine wl_val (v := .int .i64 ((l.length : Nat) : Int)) (fun ρ e => ex_lenI (e _ _ rfl)) rfl rfl ?_
      refine wl_val (v := .bool true) (fun ρ e => ex_lss1 (u := (k : Int)) (v := ((l.length : Nat) : Int)) (e _ _ rfl) (e _ _ rfl) (by omega)) rfl rfl ?_
      refine wl_nil ?_
      refine xw_next K20 ?_
      refine cw_true rfl ?_
      refine cw_skip ?_
      refine xw_next K19 ?_
      refine cw_seq (fun FK21 K21 => ?_)
      refine cw_block ?_
      refine cw_quiet (fun Z => Below Wr.heap.size Wr Z) (by kernel_rfl) (by kernel_rfl) ((Below.refl _ _).drew) ?_
      refine wq_val (v := .bool false) (fun ρ e W hW => ex_move (e _ _ rfl)) rfl rfl ?_
      refine wq_val (v := .bool false) (fun ρ e W hW => ex_move (e _ _ rfl)) rfl rfl ?_
      refine wq_skip rfl rfl ?_
      refine wq_skip rfl rfl ?_
      refine wq_skip rfl rfl ?_
      refine wq_skip rfl rfl ?_
      refine wq_skip rfl rfl ?_
      refine wq_skip rfl rfl ?_
      refine wq_skip rfl rfl ?_
      refine wq_skip rfl rfl ?_
      refine wq_val (v := .bool false) (fun ρ e W hW => ex_pick0 (e _ _ rfl) (e _ _ rfl)) rfl rfl ?_
      refine wq_val (v := .bool false) (fun ρ e W hW => ex_assign (e _ _ rfl)) rfl rfl ?_
      refine wq_nil (fun w22 hb5 => ?_)
      replace gs := gs.below hb5
      refine xw_block ?_
      refine xw_next K21 ?_
      refine cw_region ?_
      refine wl_val (v := .int .i64 (k : Int)) (fun ρ e => ex_move (e _ _ rfl)) rfl rfl ?_
      refine wl_val (v := .int .i64 ((k + 1 : Nat) : Int)) (fun ρ e => ex_inc (k := k) (e _ _ rfl) (e _ _ rfl) (by omega)) rfl rfl ?_
      refine wl_val (v := .int .i64 ((k + 1 : Nat) : Int)) (fun ρ e => ex_assign (e _ _ rfl)) rfl rfl ?_
      refine wl_nil ?_
      refine xw_round hK18 (k + 1, false) (by show l.length - (k + 1) < l.length - k; omega) ⟨by show k + 1 ≤ l.length; omega, hnext, gs⟩ ⟨rfl, rfl, rfl, rfl, rfl, rfl, trivial⟩
    · rw [Bool.true_and] at hnext
      refine cw_seq (fun FK23 K23 => ?_)
      refine cw_seq (fun FK24 K24 => ?_)
      refine cw_region ?_
      refine wl_val (v := .int .i64 (k : Int)) (fun ρ e => ex_move (e _ _ rfl)) rfl rfl ?_
      refine wl_val (v := .slice (some ⟨gi, 0, none⟩) l.length cI) (fun ρ e => ex_move (e _ _ rfl)) rfl rfl ?_
      refine wl_val (v := .int .i64 ((l.length : Nat) : Int)) (fun ρ e => ex_lenI (e _ _ rfl)) rfl rfl ?_
      refine wl_val (v := .bool true) (fun ρ e => ex_lss1 (u := (k : Int)) (v := ((l.length : Nat) : Int)) (e _ _ rfl) (e _ _ rfl) (by omega)) rfl rfl ?_
      refine wl_nil ?_
      refine xw_next K24 ?_
      refine cw_true rfl ?_
      refine cw_skip ?_
      refine xw_next K23 ?_
      refine cw_seq (fun FK25 K25 => ?_)
      refine cw_block ?_
      refine cw_quiet (fun Z => Below Wr.heap.size Wr Z) (by kernel_rfl) (by kernel_rfl) ((Below.refl _ _).drew) ?_
      refine wq_val (v := .bool true) (fun ρ e W hW => ex_move (e _ _ rfl)) rfl rfl ?_
      refine wq_val (v := .bool true) (fun ρ e W hW => ex_move (e _ _ rfl)) rfl rfl ?_
      refine wq_val (v := .agg #[.int .i64 s.n, .slice A s.L.length c, .slice AG nG cG, .int .u64 (s.a.a.toNat : Int), .int .u64 (s.a.b.toNat : Int), .slice none 0 0, .bool s.closed]) (fun ρ e W hW => ex_state (g := g2) (e _ _ rfl) (gs.1.keep hW)) rfl rfl ?_
      refine wq_val (v := .int .i64 (-1)) (fun ρ e W hW => ex_move (e _ _ rfl)) rfl rfl ?_
      refine wq_val (v := .slice (some ⟨gi, 0, none⟩) l.length cI) (fun ρ e W hW => ex_move (e _ _ rfl)) rfl rfl ?_
      refine wq_val (v := .int .i64 (k : Int)) (fun ρ e W hW => ex_move (e _ _ rfl)) rfl rfl ?_
      refine wq_val (v := .pointer (some ⟨gi, k, none⟩)) (fun ρ e W hW => ex_index0 (g := gi) (n := l.length) (c := cI) (i := k) (e _ _ rfl) (e _ _ rfl) (by omega)) rfl rfl ?_
      refine wq_val (v := .int .i64 x) (fun ρ e W hW => ex_int (p := ⟨gi, k, none⟩) (e _ _ rfl) (ints_cell (gs.2.2.2.1.below hW) _ _ hget)) rfl rfl ?_
      refine wq_val (v := .int .i64 ((-1) * x)) (fun ρ e W hW => ex_mul (u := (-1)) (v := x) (e _ _ rfl) (e _ _ rfl) (wrap_in (by omega) (by omega))) rfl rfl ?_
      refine wq_call (args := [.agg #[.int .i64 s.n, .slice A s.L.length c, .slice AG nG cG, .int .u64 (s.a.a.toNat : Int), .int .u64 (s.a.b.toNat : Int), .slice none 0 0, .bool s.closed], .int .i64 ((-1) * x)]) (v := .bool b1) in_holds rfl rfl rfl (fun Z hZ => kept (kh Z) hZ) ?_
      refine wq_val (v := .bool b1) (fun ρ e W hW => ex_pick1 (e _ _ rfl) (e _ _ rfl)) rfl rfl ?_
      refine wq_val (v := .bool b1) (fun ρ e W hW => ex_assign (e _ _ rfl)) rfl rfl ?_
      refine wq_nil (fun w26 hb5 => ?_)
      replace gs := gs.below hb5
      refine xw_block ?_
      refine xw_next K25 ?_
      refine cw_region ?_
      refine wl_val (v := .int .i64 (k : Int)) (fun ρ e => ex_move (e _ _ rfl)) rfl rfl ?_
      refine wl_val (v := .int .i64 ((k + 1 : Nat) : Int)) (fun ρ e => ex_inc (k := k) (e _ _ rfl) (e _ _ rfl) (by omega)) rfl rfl ?_
      refine wl_val (v := .int .i64 ((k + 1 : Nat) : Int)) (fun ρ e => ex_assign (e _ _ rfl)) rfl rfl ?_
      refine wl_nil ?_
      refine xw_round hK18 (k + 1, b1) (by show l.length - (k + 1) < l.length - k; omega) ⟨by show k + 1 ≤ l.length; omega, hnext, gs⟩ ⟨rfl, rfl, rfl, rfl, rfl, rfl, trivial⟩
  · have hb0 : b = a0 := by rw [hbb, ha0, show k = l.length by omega, List.take_length]
    subst hb0
    clear hbb
    refine cw_seq (fun FK27 K27 => ?_)
    refine cw_seq (fun FK28 K28 => ?_)
    refine cw_region ?_
    refine wl_val (v := .int .i64 (k : Int)) (fun ρ e => ex_move (e _ _ rfl)) rfl rfl ?_
    refine wl_val (v := .slice AI l.length cI) (fun ρ e => ex_move (e _ _ rfl)) rfl rfl ?_
    refine wl_val (v := .int .i64 ((l.length : Nat) : Int)) (fun ρ e => ex_lenI (e _ _ rfl)) rfl rfl ?_
    refine wl_val (v := .bool false) (fun ρ e => ex_lss0 (u := (k : Int)) (v := ((l.length : Nat) : Int)) (e _ _ rfl) (e _ _ rfl) (by omega)) rfl rfl ?_
    refine wl_nil ?_
    refine xw_next K28 ?_
    refine cw_false rfl ?_
    refine cw_exit ?_
    refine xw_past (by intro h; cases h) ?_
    refine xw_past (by intro h; cases h) ?_
    refine xw_here ?_
    refine xw_next K15 ?_
    refine cw_seq (fun FK29 K29 => ?_)
    refine cw_region ?_
    refine wl_val (v := .agg #[.int .i64 s.n, .slice A s.L.length c, .slice AG nG cG, .int .u64 (s.a.a.toNat : Int), .int .u64 (s.a.b.toNat : Int), .slice none 0 0, .bool s.closed]) (fun ρ e => ex_state (g := g2) (e _ _ rfl) gs.1) rfl rfl ?_
    refine wl_val (v := .bool b) (fun ρ e => ex_move (e _ _ rfl)) rfl rfl ?_
    refine wl_val (v := .int .i64 (-1)) (fun ρ e => ex_move (e _ _ rfl)) rfl rfl ?_
    refine wl_val (v := .bool false) (fun ρ e => ex_gtr0 (u := (-1)) (v := 0) (e _ _ rfl) (e _ _ rfl) (by omega)) rfl rfl ?_
    refine wl_val (v := .bool (b == false)) (fun ρ e => ex_eqb (b := b) (b' := false) (e _ _ rfl) (e _ _ rfl)) rfl rfl ?_
    refine wl_call (args := [.agg #[.int .i64 s.n, .slice A s.L.length c, .slice AG nG cG, .int .u64 (s.a.a.toNat : Int), .int .u64 (s.a.b.toNat : Int), .slice none 0 0, .bool s.closed], .bool (b == false)]) in_fresh rfl rfl rfl ?_
    refine (ref10_fresh _ A c AG nG cG s s1 v (b == false) hs1 hv hn0 (by omega)).mono ?_
    rintro _ w30 ⟨rfl, hb5⟩
    replace gs := gs.below hb5
    have gm := gs.freshmid (s' := s1) hl1
    refine ⟨_, rfl, ?_⟩
    refine wl_val (v := .tuple #[.agg #[.int .i64 s1.n, .slice A s1.L.length c, .slice AG nG cG, .int .u64 (s1.a.a.toNat : Int), .int .u64 (s1.a.b.toNat : Int), .slice none 0 0, .bool s1.closed], .int .i64 v]) (fun ρ e => ex_move (e _ _ rfl)) rfl rfl ?_
    refine wl_val (v := .agg #[.int .i64 s1.n, .slice A s1.L.length c, .slice AG nG cG, .int .u64 (s1.a.a.toNat : Int), .int .u64 (s1.a.b.toNat : Int), .slice none 0 0, .bool s1.closed]) (fun ρ e => ex_extract (vs := #[.agg #[.int .i64 s1.n, .slice A s1.L.length c, .slice AG nG cG, .int .u64 (s1.a.a.toNat : Int), .int .u64 (s1.a.b.toNat : Int), .slice none 0 0, .bool s1.closed], .int .i64 v]) (e _ _ rfl) rfl) rfl rfl ?_
    refine wl_val (v := .int .i64 v) (fun ρ e => ex_extract (vs := #[.agg #[.int .i64 s1.n, .slice A s1.L.length c, .slice AG nG cG, .int .u64 (s1.a.a.toNat : Int), .int .u64 (s1.a.b.toNat : Int), .slice none 0 0, .bool s1.closed], .int .i64 v]) (e _ _ rfl) rfl) rfl rfl ?_
    refine wl_none (fun ρ e => ex_storeState (A := A) (c := c) (s := s1) (AG := AG) (nG := nG) (cG := cG) (e _ _ rfl) (e _ _ rfl) gm.1) rfl ?_
    replace gs := gm.put hne.symm h1
    clear gm
    refine wl_val (v := .int .i64 v) (fun ρ e => ex_assign (e _ _ rfl)) rfl rfl ?_
    refine wl_nil ?_
    refine xw_next K29 ?_
    refine cw_seq (fun FK31 K31 => ?_)
    refine cw_region ?_
    refine wl_val (v := .int .i64 (-1)) (fun ρ e => ex_move (e _ _ rfl)) rfl rfl ?_
    refine wl_val (v := .int .i64 v) (fun ρ e => ex_move (e _ _ rfl)) rfl rfl ?_
    refine wl_val (v := .int .i64 ((-1) * v)) (fun ρ e => ex_mul (u := (-1)) (v := v) (e _ _ rfl) (e _ _ rfl) (wrap_in (by omega) (by omega))) rfl rfl ?_
    have gsp := gs
    refine wl_newslice (fun ρ e => ex_build1 (v0 := ((-1) * v)) (e _ _ rfl)) rfl rfl (fun gn32 w37 jb33 jk34 jg35 js36 => ?_)
    have hsz := gs.2.2.2.2.size
    replace gs := gs.below jb33
    have ge := GE.new gsp jb33 jk34 jg35
    refine wl_val (v := .slice (some ⟨gn32, 0, none⟩) 1 1) (fun ρ e => ex_assign (e _ _ rfl)) rfl rfl ?_
    refine wl_nil ?_
    refine xw_next K31 ?_
    refine cw_seq (fun FK38 K38 => ?_)
    refine cw_seq (fun FK39 K39 => ?_)
    refine cw_region ?_
    refine wl_val (v := .int .i64 0) (fun ρ e => ex_assign (e _ _ rfl)) rfl rfl ?_
    refine wl_nil ?_
    refine xw_next K39 ?_
    refine cw_block ?_
    refine cw_loop (ι := Nat × Option Addr × Nat × Option Addr × Nat × Nat) (fun i => [(1, .slice AI l.length cI), (2, .int .i64 (-1)), (3, .pointer (some ⟨g2, 0, none⟩)), (6, .pointer (some ⟨g8, 0, none⟩)), (10, .int .i64 v), (11, .slice i.2.2.2.1 i.2.2.2.2.1 i.2.2.2.2.2), (12, .int .i64 (i.1 : Int))]) (fun i W => i.1 ≤ l.length ∧ i.2.2.2.2.1 = i.1 + 1 ∧ GE Av base w g2 g8 AG nG cG bi (.slice AI l.length cI) l (s1.adds ((l.take i.1).map (andRow (-1) v))) i.2.1 i.2.2.1 (.slice i.2.2.2.1 i.2.2.2.2.1 i.2.2.2.2.2) ((-1) * v :: (l.take i.1).map (fun x => -(-1) * x)) W) (fun i => l.length - i.1) (0, A, c, some ⟨gn32, 0, none⟩, 1, 1) ⟨Nat.zero_le _, rfl, by simpa [RS.adds] using ge⟩ ⟨rfl, rfl, rfl, rfl, rfl, rfl, rfl, trivial⟩ (fun i Wr hJ K40 hK41 => ?_)
    clear ge gs
    obtain ⟨k, A, c, Ae, ne, ce⟩ := i
    obtain ⟨hk, hne1, ge⟩ := hJ
    dsimp only at hk hne1 ge
    have hcur : (s1.adds ((l.take k).map (andRow (-1) v))).L.length ≤ 480000 := by simp [RS.adds, hl1]; omega
    obtain ⟨cur, hcu⟩ : ∃ z, z = (s1.adds ((l.take k).map (andRow (-1) v))) := ⟨_, rfl⟩
    obtain ⟨el, hel⟩ : ∃ z, z = ((-1) * v :: (l.take k).map (fun x => -(-1) * x)) := ⟨_, rfl⟩
    rw [← hcu, ← hel] at ge
    rw [← hcu] at hcur
    have hell : el.length = k + 1 := by rw [hel]; simp; omega
    by_cases hlt : k < l.length
    · obtain ⟨gi, rfl, hgi⟩ := own_addr hin (by omega)
      have hget : l[k]? = some l[k] := List.getElem?_eq_getElem hlt
      have hx := hbd l[k] (List.getElem_mem hlt)
      have htk := List.take_succ_eq_append_getElem hlt
      have hcu2 : (s1.adds ((l.take (k + 1)).map (andRow (-1) v))) = cur.add (andRow (-1) v l[k]) := by rw [hcu, htk]; simp only [RS.adds, RS.add, List.map_append, List.map_cons, List.map_nil, List.append_assoc]
      have hel2 : ((-1) * v :: (l.take (k + 1)).map (fun x => -(-1) * x)) = el ++ [-(-1) * l[k]] := by rw [hel, htk]; simp only [List.map_append, List.map_cons, List.map_nil, List.cons_append]
      generalize l[k] = x at hget hx hcu2 hel2
      obtain ⟨hx0, hx1⟩ := hx
      obtain ⟨cur2, hc2⟩ : ∃ z, z = cur.add [(-(-1)) * v, x] := ⟨_, rfl⟩
      have hlen : cur2.L.length = cur.L.length + 1 := by rw [hc2]; simp [RS.add]
      obtain ⟨cur3, hc3⟩ : ∃ z, z = cur.add [v, (-x)] := ⟨_, rfl⟩
      have hcu3 : cur.add (andRow (-1) v x) = cur3 := by rw [hc3]; simp [andRow]
      rw [hcu3] at hcu2
      refine cw_seq (fun FK42 K42 => ?_)
      refine cw_seq (fun FK43 K43 => ?_)
      refine cw_region ?_
      refine wl_val (v := .int .i64 (k : Int)) (fun ρ e => ex_move (e _ _ rfl)) rfl rfl ?_
      refine wl_val (v := .slice (some ⟨gi, 0, none⟩) l.length cI) (fun ρ e => ex_move (e _ _ rfl)) rfl rfl ?_
      refine wl_val (v := .int .i64 ((l.length : Nat) : Int)) (fun ρ e => ex_lenI (e _ _ rfl)) rfl rfl ?_
      refine wl_val (v := .bool true) (fun ρ e => ex_lss1 (u := (k : Int)) (v := ((l.length : Nat) : Int)) (e _ _ rfl) (e _ _ rfl) (by omega)) rfl rfl ?_
      refine wl_nil ?_
      refine xw_next K43 ?_
      refine cw_true rfl ?_
      refine cw_skip ?_
      refine xw_next K42 ?_
      refine cw_seq (fun FK44 K44 => ?_)
      refine cw_block ?_
      refine cw_seq (fun FK45 K45 => ?_)
      refine cw_drawn (fun W => Blk W g2 63 #[.int .i64 cur.n, .slice A cur.L.length c, .slice AG nG cG, .int .u64 (cur.a.a.toNat : Int), .int .u64 (cur.a.b.toNat : Int), .slice none 0 0, .bool cur.closed] ∧ OwnInts W bi (.slice (some ⟨gi, 0, none⟩) l.length cI) l) 11 [(0, 0), (1, 1), (2, 1), (3, 1), (4, 1), (5, 1), (6, 1), (7, 1), (8, 0), (9, 2), (10, 2), (11, 3)] (by kernel_rfl) (by kernel_rfl) (PQ.then_ (PQ.block (PQ.then_ (PQ.then_ (PQ.block (PQ.then_ PQ.body)))))) (⟨ge.1.drew.1, ge.1.drew.2.2.2.1⟩) ?_
      replace ge := ge.drew
      refine wt0 (v := .agg #[.int .i64 cur.n, .slice A cur.L.length c, .slice AG nG cG, .int .u64 (cur.a.a.toNat : Int), .int .u64 (cur.a.b.toNat : Int), .slice none 0 0, .bool cur.closed]) rfl (fun ρ e W hW => ex_state (g := g2) (e _ _ rfl) hW.1) rfl rfl ?_
      refine wt1 (v := .int .i64 (-1)) rfl (fun ρ e W => ex_move (e _ _ rfl)) rfl rfl ?_
      refine wt1 (v := .int .i64 (-(-1))) rfl (fun ρ e W => ex_neg (e _ _ rfl) (wrap_in (by omega) (by omega))) rfl rfl ?_
      refine wt1 (v := .int .i64 v) rfl (fun ρ e W => ex_move (e _ _ rfl)) rfl rfl ?_
      refine wt1 (v := .int .i64 ((-(-1)) * v)) rfl (fun ρ e W => ex_mul (u := (-(-1))) (v := v) (e _ _ rfl) (e _ _ rfl) (wrap_in (by omega) (by omega))) rfl rfl ?_
      refine wt1 (v := .slice (some ⟨gi, 0, none⟩) l.length cI) rfl (fun ρ e W => ex_move (e _ _ rfl)) rfl rfl ?_
      refine wt1 (v := .int .i64 (k : Int)) rfl (fun ρ e W => ex_move (e _ _ rfl)) rfl rfl ?_
      refine wt1 (v := .pointer (some ⟨gi, k, none⟩)) rfl (fun ρ e W => ex_index0 (g := gi) (n := l.length) (c := cI) (i := k) (e _ _ rfl) (e _ _ rfl) (by omega)) rfl rfl ?_
      refine wt0 (v := .int .i64 x) rfl (fun ρ e W hW => ex_int (p := ⟨gi, k, none⟩) (e _ _ rfl) (ints_cell hW.2 _ _ hget)) rfl rfl ?_
      have gep := ge
      refine wt2_newslice rfl (fun ρ e => ex_build2 (v0 := ((-(-1)) * v)) (v1 := x) (e _ _ rfl) (e _ _ rfl)) rfl rfl (fun gn46 w51 jb47 jk48 jg49 js50 => ?_)
      have hsz := ge.1.2.2.2.2.size
      replace ge := ge.below jb47
      refine ⟨⟨ge.1.1, ge.1.2.2.2.1⟩, ?_⟩
      refine wt2_call (args := [.agg #[.int .i64 cur.n, .slice A cur.L.length c, .slice AG nG cG, .int .u64 (cur.a.a.toNat : Int), .int .u64 (cur.a.b.toNat : Int), .slice none 0 0, .bool cur.closed], .slice (some ⟨gn46, 0, none⟩) 2 2]) rfl in_add rfl rfl rfl ?_
      refine (ref10_add_ge hAv hbase hc2 jg49 gep jb47 jk48 rfl (by simp) (by omega)).mono ?_
      rintro _ w52 ⟨⟨A53, c54, rfl, o5⟩, fr5⟩
      have gm := ge.1.mid fr5 o5
      have ow := fr5.ints ge.2
      refine ⟨_, rfl, ⟨gm.1, gm.2.2.2.1⟩, ?_⟩
      refine wt3_none rfl (fun ρ e => ex_storeState (A := A53) (c := c54) (s := cur2) (AG := AG) (nG := nG) (cG := cG) (e _ _ rfl) (e _ _ rfl) gm.1) rfl ?_
      replace ge : GE Av base w g2 g8 AG nG cG bi (.slice (some ⟨gi, 0, none⟩) l.length cI) l cur2 A53 c54 (.slice Ae ne ce) el _ := ⟨gm.put hne.symm h1, (put7_keeps (TyAt.of gm.1)).ints ow⟩
      clear gm ow
      refine wt_nil ?_
      refine xw_next K45 ?_
      refine cw_seq (fun FK55 K55 => ?_)
      refine cw_seq (fun FK56 K56 => ?_)
      refine cw_region ?_
      refine wl_val (v := .int .i64 (-1)) (fun ρ e => ex_move (e _ _ rfl)) rfl rfl ?_
      refine wl_val (v := .bool true) (fun ρ e => ex_lss1 (u := (-1)) (v := 0) (e _ _ rfl) (e _ _ rfl) (by omega)) rfl rfl ?_
      refine wl_nil ?_
      refine xw_next K56 ?_
      refine cw_true rfl ?_
      obtain ⟨gr, rfl⟩ := rows_addr ge.1.2.2.1 (by omega)
      refine cw_drawn (fun W => Blk W g2 63 #[.int .i64 cur2.n, .slice (some ⟨gr, 0, none⟩) cur2.L.length c54, .slice AG nG cG, .int .u64 (cur2.a.a.toNat : Int), .int .u64 (cur2.a.b.toNat : Int), .slice none 0 0, .bool cur2.closed] ∧ OwnInts W bi (.slice (some ⟨gi, 0, none⟩) l.length cI) l) 16 [(0, 1), (1, 1), (2, 0), (3, 1), (4, 1), (5, 0), (6, 1), (7, 1), (8, 1), (9, 1), (10, 1), (11, 1), (12, 0), (13, 1), (14, 2), (15, 1), (16, 3)] (by kernel_rfl) (by kernel_rfl) (PQ.then_ (PQ.block (PQ.then_ (PQ.then_ (PQ.block (PQ.then_ PQ.body)))))) (⟨ge.1.drew.1, ge.1.drew.2.2.2.1⟩) ?_
      replace ge := ge.drew
      refine wt1 (v := .pointer (some ⟨g2, 0, none⟩)) rfl (fun ρ e W => ex_stateF0 (g := g2) (o := 0) (e _ _ rfl)) rfl rfl ?_
      refine wt1 (v := .pointer (some ⟨g2, 1, none⟩)) rfl (fun ρ e W => ex_theoryF1 (g := g2) (o := 0) (e _ _ rfl)) rfl rfl ?_
      refine wt0 (v := .slice (some ⟨gr, 0, none⟩) cur2.L.length c54) rfl (fun ρ e W hW => ex_rows (p := ⟨g2, 1, none⟩) (e _ _ rfl) (hW.1.cell 1)) rfl rfl ?_
      refine wt1 (v := .pointer (some ⟨g2, 0, none⟩)) rfl (fun ρ e W => ex_stateF0 (g := g2) (o := 0) (e _ _ rfl)) rfl rfl ?_
      refine wt1 (v := .pointer (some ⟨g2, 1, none⟩)) rfl (fun ρ e W => ex_theoryF1 (g := g2) (o := 0) (e _ _ rfl)) rfl rfl ?_
      refine wt0 (v := .slice (some ⟨gr, 0, none⟩) cur2.L.length c54) rfl (fun ρ e W hW => ex_rows (p := ⟨g2, 1, none⟩) (e _ _ rfl) (hW.1.cell 1)) rfl rfl ?_
      refine wt1 (v := .int .i64 ((cur2.L.length : Nat) : Int)) rfl (fun ρ e W => ex_lenR (e _ _ rfl)) rfl rfl ?_
      refine wt1 (v := .int .i64 ((cur.L.length : Nat) : Int)) rfl (fun ρ e W => ex_dec (n := cur2.L.length) (k := cur.L.length) (e _ _ rfl) (e _ _ rfl) hlen (by omega)) rfl rfl ?_
      refine wt1 (v := .int .i64 v) rfl (fun ρ e W => ex_move (e _ _ rfl)) rfl rfl ?_
      refine wt1 (v := .slice (some ⟨gi, 0, none⟩) l.length cI) rfl (fun ρ e W => ex_move (e _ _ rfl)) rfl rfl ?_
      refine wt1 (v := .int .i64 (k : Int)) rfl (fun ρ e W => ex_move (e _ _ rfl)) rfl rfl ?_
      refine wt1 (v := .pointer (some ⟨gi, k, none⟩)) rfl (fun ρ e W => ex_index0 (g := gi) (n := l.length) (c := cI) (i := k) (e _ _ rfl) (e _ _ rfl) (by omega)) rfl rfl ?_
      refine wt0 (v := .int .i64 x) rfl (fun ρ e W hW => ex_int (p := ⟨gi, k, none⟩) (e _ _ rfl) (ints_cell hW.2 _ _ hget)) rfl rfl ?_
      refine wt1 (v := .int .i64 (-x)) rfl (fun ρ e W => ex_neg (e _ _ rfl) (wrap_in (by omega) (by omega))) rfl rfl ?_
      have gep := ge
      refine wt2_newslice rfl (fun ρ e => ex_build2 (v0 := v) (v1 := (-x)) (e _ _ rfl) (e _ _ rfl)) rfl rfl (fun gn57 w62 jb58 jk59 jg60 js61 => ?_)
      have hsz := ge.1.2.2.2.2.size
      replace ge := ge.below jb58
      refine ⟨⟨ge.1.1, ge.1.2.2.2.1⟩, ?_⟩
      refine wt1 (v := .pointer (some ⟨gr, cur.L.length, none⟩)) rfl (fun ρ e W => ex_ridx0 (g := gr) (n := cur2.L.length) (c := c54) (i := cur.L.length) (e _ _ rfl) (e _ _ rfl) (by omega)) rfl rfl ?_
      obtain ⟨⟨u, hcell⟩, hfz, ge3⟩ := ge.setLast hc2 hc3 (own_of_blk jk59 (by omega) (by simp [maxLen])) ⟨hAv _ (by omega), fun e => by have := (own_ge gep.2 e).2; omega⟩
      refine wt3_none rfl (fun ρ e => ex_storeSlice (e _ _ rfl) (e _ _ rfl) hcell hfz) rfl ?_
      replace ge := ge3
      clear ge3 hcell hfz
      refine wt_nil ?_
      refine xw_next K55 ?_
      refine cw_region ?_
      refine wl_val (v := .slice Ae ne ce) (fun ρ e => ex_move (e _ _ rfl)) rfl rfl ?_
      refine wl_val (v := .int .i64 (-1)) (fun ρ e => ex_move (e _ _ rfl)) rfl rfl ?_
      refine wl_val (v := .int .i64 (-(-1))) (fun ρ e => ex_neg (e _ _ rfl) (wrap_in (by omega) (by omega))) rfl rfl ?_
      refine wl_val (v := .slice (some ⟨gi, 0, none⟩) l.length cI) (fun ρ e => ex_move (e _ _ rfl)) rfl rfl ?_
      refine wl_val (v := .int .i64 (k : Int)) (fun ρ e => ex_move (e _ _ rfl)) rfl rfl ?_
      refine wl_val (v := .pointer (some ⟨gi, k, none⟩)) (fun ρ e => ex_index0 (g := gi) (n := l.length) (c := cI) (i := k) (e _ _ rfl) (e _ _ rfl) (by omega)) rfl rfl ?_
      refine wl_val (v := .int .i64 x) (fun ρ e => ex_int (p := ⟨gi, k, none⟩) (e _ _ rfl) (ints_cell ge.1.2.2.2.1 _ _ hget)) rfl rfl ?_
      refine wl_val (v := .int .i64 ((-(-1)) * x)) (fun ρ e => ex_mul (u := (-(-1))) (v := x) (e _ _ rfl) (e _ _ rfl) (wrap_in (by omega) (by omega))) rfl rfl ?_
      have gep := ge
      refine wl_newslice (fun ρ e => ex_build1 (v0 := ((-(-1)) * x)) (e _ _ rfl)) rfl rfl (fun gn63 w68 jb64 jk65 jg66 js67 => ?_)
      have hsz := ge.1.2.2.2.2.size
      replace ge := ge.below jb64
      refine wl_append (base := w.heap.size) (l := el) (yv := ((-(-1)) * x)) rfl rfl rfl rfl ge.2 jk65 (by omega) ge.1.2.2.2.2.size (fun A69 c70 w71 hown6 hgrow hwhere => ?_)
      replace ge := ge.append0 hin hown6 hgrow hwhere
      refine wl_val (v := .slice A69 (el.length + 1) c70) (fun ρ e => ex_assign (e _ _ rfl)) rfl rfl ?_
      refine wl_nil ?_
      refine xw_block ?_
      refine xw_next K44 ?_
      refine cw_region ?_
      refine wl_val (v := .int .i64 (k : Int)) (fun ρ e => ex_move (e _ _ rfl)) rfl rfl ?_
      refine wl_val (v := .int .i64 ((k + 1 : Nat) : Int)) (fun ρ e => ex_inc (k := k) (e _ _ rfl) (e _ _ rfl) (by omega)) rfl rfl ?_
      refine wl_val (v := .int .i64 ((k + 1 : Nat) : Int)) (fun ρ e => ex_assign (e _ _ rfl)) rfl rfl ?_
      refine wl_nil ?_
      refine xw_round hK41 (k + 1, (some ⟨gr, 0, none⟩), c54, A69, el.length + 1, c70) (by show l.length - (k + 1) < l.length - k; omega) ⟨by show k + 1 ≤ l.length; omega, by show el.length + 1 = k + 1 + 1; omega, by show GE _ _ _ _ _ _ _ _ _ _ _ (s1.adds ((l.take (k + 1)).map (andRow (-1) v))) _ _ _ ((-1) * v :: (l.take (k + 1)).map (fun x => -(-1) * x)) _; rw [hcu2, hel2]; exact ge⟩ ⟨rfl, rfl, rfl, rfl, rfl, rfl, rfl, trivial⟩
    · have hs2 : s' = cur.add el := by rw [hs', hcu, hel, show k = l.length by omega, List.take_length, ← RS.adds_snoc]; simp only [andRows, ← hv]
      clear hcu hel
      refine cw_seq (fun FK72 K72 => ?_)
      refine cw_seq (fun FK73 K73 => ?_)
      refine cw_region ?_
      refine wl_val (v := .int .i64 (k : Int)) (fun ρ e => ex_move (e _ _ rfl)) rfl rfl ?_
      refine wl_val (v := .slice AI l.length cI) (fun ρ e => ex_move (e _ _ rfl)) rfl rfl ?_
      refine wl_val (v := .int .i64 ((l.length : Nat) : Int)) (fun ρ e => ex_lenI (e _ _ rfl)) rfl rfl ?_
      refine wl_val (v := .bool false) (fun ρ e => ex_lss0 (u := (k : Int)) (v := ((l.length : Nat) : Int)) (e _ _ rfl) (e _ _ rfl) (by omega)) rfl rfl ?_
      refine wl_nil ?_
      refine xw_next K73 ?_
      refine cw_false rfl ?_
      refine cw_exit ?_
      refine xw_past (by intro h; cases h) ?_
      refine xw_past (by intro h; cases h) ?_
      refine xw_here ?_
      refine xw_next K38 ?_
      refine cw_seq (fun FK74 K74 => ?_)
      refine cw_region ?_
      refine wl_val (v := .agg #[.int .i64 cur.n, .slice A cur.L.length c, .slice AG nG cG, .int .u64 (cur.a.a.toNat : Int), .int .u64 (cur.a.b.toNat : Int), .slice none 0 0, .bool cur.closed]) (fun ρ e => ex_state (g := g2) (e _ _ rfl) ge.1.1) rfl rfl ?_
      refine wl_val (v := .slice Ae ne ce) (fun ρ e => ex_move (e _ _ rfl)) rfl rfl ?_
      refine wl_call (args := [.agg #[.int .i64 cur.n, .slice A cur.L.length c, .slice AG nG cG, .int .u64 (cur.a.a.toNat : Int), .int .u64 (cur.a.b.toNat : Int), .slice none 0 0, .bool cur.closed], .slice Ae ne ce]) in_add rfl rfl rfl ?_
      refine (ref10_add _ base (Nat.le_trans hbase ge.1.2.2.2.2.size) A c AG nG cG cur s' el hs2 Ae ne ce (ge.1.2.2.1.mono (fun k _ h => h.1)) (ownInts_low ge.2 hbase) (fun k hk => hAv k (own_ge ge.2 hk).1) (by omega)).mono ?_
      rintro _ w75 ⟨⟨A76, c77, rfl, o5⟩, fr5⟩
      have gm := (ge.1.mono (Av' := Av) (fun k _ h => h.1)).mid fr5 o5
      have ow := fr5.ints ge.2
      refine ⟨_, rfl, ?_⟩
      refine wl_val (v := .int .i64 v) (fun ρ e => ex_move (e _ _ rfl)) rfl rfl ?_
      refine wl_none (fun ρ e => ex_storeState (A := A76) (c := c77) (s := s') (AG := AG) (nG := nG) (cG := cG) (e _ _ rfl) (e _ _ rfl) gm.2.1) rfl ?_
      have ge := gm.fin h3
      refine wl_val (v := .int .i64 v) (fun ρ e => ex_assign (e _ _ rfl)) rfl rfl ?_
      refine wl_nil ?_
      refine xw_next K74 ?_
      refine cw_ret ?_
      refine xw_ret (v := .tuple #[.agg #[.int .i64 s'.n, .slice A76 s'.L.length c77, .slice AG nG cG, .int .u64 (s'.a.a.toNat : Int), .int .u64 (s'.a.b.toNat : Int), .slice none 0 0, .bool s'.closed], .int .i64 v]) (fun T hT => ?_) ⟨⟨A76, c77, rfl, ge.2.1⟩, ge.2.2⟩
      have t6 := hT 6 _ rfl
      have t7 := hT 7 _ rfl
      have r0 := ge.1.cell 0
      have r1 := ge.1.cell 1
      have r2 := ge.1.cell 2
      have r3 := ge.1.cell 3
      have r4 := ge.1.cell 4
      have r5 := ge.1.cell 5
      have r6 := ge.1.cell 6
      simp at r0 r1 r2 r3 r4 r5 r6
      simp [results, Try.results82, go_sem, t6, t7, r0, r1, r2, r3, r4, r5, r6]
end Go.Proofs.Ytlifakbdgmdafaa

namespace Go.Proofs.Ytlifakbdgmdafaa
open Go Go.RowKit

set_option maxRecDepth 100000 in
set_option maxHeartbeats 1600000 in
theorem x10_0 (w : World) {Av : Nat → Prop} (hAv : AvOk Av w) (base bi : Nat) (hbase : base ≤ w.heap.size) (A : Option Addr) (c : Nat) (AG : Option Addr) (nG cG : Nat) (s s' : RS)  (v gl : Int)  (AIn : Option Addr) (cI : Nat)  (hs' : s.gate 6 gl [] = (s', v)) (hn0 : 0 ≤ s.n) (hn1 : s.n ≤ 900000) 
    (hown : OwnRows w Av base (.slice A s.L.length c) s.L) (hL : s.L.length ≤ 900000) :
    Calls Try.prog 83 #[(.agg #[.int .i64 s.n, .slice A s.L.length c, .slice AG nG cG, .int .u64 (s.a.a.toNat : Int), .int .u64 (s.a.b.toNat : Int), .slice none 0 0, .bool s.closed]), .slice AIn 0 cI] w fun e w' => (∃ A' c', e = .returned (.tuple #[(.agg #[.int .i64 s'.n, .slice A' s'.L.length c', .slice AG nG cG, .int .u64 (s'.a.a.toNat : Int), .int .u64 (s'.a.b.toNat : Int), .slice none 0 0, .bool s'.closed]), .int .i64 v]) ∧ OwnRows w' Av base (.slice A' s'.L.length c') s'.L) ∧ FrR base w w' := by
  have hv : v = s.var := by have := hs'; unfold RS.gate at this; simp at this; exact this.2.symm
  obtain ⟨s1, hs1⟩ : ∃ q_, q_ = s.fresh false := ⟨_, rfl⟩
  have hs2 : s' = s1.add [-v] := by have := hs'; unfold RS.gate at this; simp [RS.adds, kindRows, kindVal, onesOf] at this; rw [hs1, hv]; simp [RS.add]; exact this.1.symm
  have l1 : s1.L.length ≤ 900001 := by rw [hs1]; simp [RS.fresh]; omega
  have hl1 : s1.L = s.L := by rw [hs1]; rfl
  clear hs'
  have v0 : -1000001 ≤ v := by have := hv; unfold RS.var at this; split at this <;> omega
  have v1 : v ≤ 1000001 := by have := hv; unfold RS.var at this; split at this <;> omega
  refine sx_enter (args := [.agg #[.int .i64 s.n, .slice A s.L.length c, .slice AG nG cG, .int .u64 (s.a.a.toNat : Int), .int .u64 (s.a.b.toNat : Int), .slice none 0 0, .bool s.closed], .slice AIn 0 cI]) Try.func83 rfl rfl (by simp) ?_
  refine cw_seq (fun FK1 K1 => ?_)
  refine cw_region ?_
  refine wl_new (fun ρ e => ex_boxState (e _ _ rfl)) rfl rfl (fun g2 w3 jb4 jk5 jg6 js7 => ?_)
  refine wl_new (fun ρ e => ex_allocState) rfl rfl (fun g8 w9 jb10 jk11 jg12 js13 => ?_)
  have hb : Below w.heap.size w w9 := (jb4.trans (jb10.mono jb4.size))
  have gs : GSt Av base w g2 g8 AG nG cG bi (.slice none 0 0) [] s A c w9 := GSt.start w _ hb (jk5.keep jb10) jk11 hown (OwnInts.nil _ _)
  have hne : g2 ≠ g8 := by omega
  have h1 : w.heap.size ≤ g2 := by omega
  have h3 : w.heap.size ≤ g8 := by omega
  refine wl_val (v := .int .i64 0) (fun ρ e => ex_assign (e _ _ rfl)) rfl rfl ?_
  refine wl_nil ?_
  refine xw_next K1 ?_
  refine cw_seq (fun FK14 K14 => ?_)
  refine cw_region ?_
  refine wl_val (v := .int .i64 0) (fun ρ e => ex_assign (e _ _ rfl)) rfl rfl ?_
  refine wl_nil ?_
  refine xw_next K14 ?_
  refine cw_seq (fun FK15 K15 => ?_)
  refine cw_seq (fun FK16 K16 => ?_)
  refine cw_region ?_
  refine wl_val (v := .slice AIn 0 cI) (fun ρ e => ex_move (e _ _ rfl)) rfl rfl ?_
  refine wl_val (v := .int .i64 (0 : Int)) (fun ρ e => ex_lenI (e _ _ rfl)) rfl rfl ?_
  refine wl_val (v := .bool true) (fun ρ e => ex_eql1 (u := (0 : Int)) (v := 0) (e _ _ rfl) (e _ _ rfl) (by omega)) rfl rfl ?_
  refine wl_nil ?_
  refine xw_next K16 ?_
  refine cw_true rfl ?_
  refine cw_seq (fun FK17 K17 => ?_)
  refine cw_region ?_
  refine wl_val (v := .agg #[.int .i64 s.n, .slice A s.L.length c, .slice AG nG cG, .int .u64 (s.a.a.toNat : Int), .int .u64 (s.a.b.toNat : Int), .slice none 0 0, .bool s.closed]) (fun ρ e => ex_state (g := g2) (e _ _ rfl) gs.1) rfl rfl ?_
  refine wl_call (args := [.agg #[.int .i64 s.n, .slice A s.L.length c, .slice AG nG cG, .int .u64 (s.a.a.toNat : Int), .int .u64 (s.a.b.toNat : Int), .slice none 0 0, .bool s.closed], .bool false]) in_fresh rfl rfl rfl ?_
  refine (ref10_fresh _ A c AG nG cG s s1 v false hs1 hv hn0 (by omega)).mono ?_
  rintro _ w18 ⟨rfl, hb5⟩
  replace gs := gs.below hb5
  have gm := gs.freshmid (s' := s1) hl1
  refine ⟨_, rfl, ?_⟩
  refine wl_val (v := .tuple #[.agg #[.int .i64 s1.n, .slice A s1.L.length c, .slice AG nG cG, .int .u64 (s1.a.a.toNat : Int), .int .u64 (s1.a.b.toNat : Int), .slice none 0 0, .bool s1.closed], .int .i64 v]) (fun ρ e => ex_move (e _ _ rfl)) rfl rfl ?_
  refine wl_val (v := .agg #[.int .i64 s1.n, .slice A s1.L.length c, .slice AG nG cG, .int .u64 (s1.a.a.toNat : Int), .int .u64 (s1.a.b.toNat : Int), .slice none 0 0, .bool s1.closed]) (fun ρ e => ex_extract (vs := #[.agg #[.int .i64 s1.n, .slice A s1.L.length c, .slice AG nG cG, .int .u64 (s1.a.a.toNat : Int), .int .u64 (s1.a.b.toNat : Int), .slice none 0 0, .bool s1.closed], .int .i64 v]) (e _ _ rfl) rfl) rfl rfl ?_
  refine wl_val (v := .int .i64 v) (fun ρ e => ex_extract (vs := #[.agg #[.int .i64 s1.n, .slice A s1.L.length c, .slice AG nG cG, .int .u64 (s1.a.a.toNat : Int), .int .u64 (s1.a.b.toNat : Int), .slice none 0 0, .bool s1.closed], .int .i64 v]) (e _ _ rfl) rfl) rfl rfl ?_
  refine wl_none (fun ρ e => ex_storeState (A := A) (c := c) (s := s1) (AG := AG) (nG := nG) (cG := cG) (e _ _ rfl) (e _ _ rfl) gm.1) rfl ?_
  replace gs := gm.put hne.symm h1
  clear gm
  refine wl_val (v := .int .i64 v) (fun ρ e => ex_assign (e _ _ rfl)) rfl rfl ?_
  refine wl_nil ?_
  refine xw_next K17 ?_
  refine cw_seq (fun FK19 K19 => ?_)
  refine cw_region ?_
  refine wl_val (v := .agg #[.int .i64 s1.n, .slice A s1.L.length c, .slice AG nG cG, .int .u64 (s1.a.a.toNat : Int), .int .u64 (s1.a.b.toNat : Int), .slice none 0 0, .bool s1.closed]) (fun ρ e => ex_state (g := g2) (e _ _ rfl) gs.1) rfl rfl ?_
  refine wl_val (v := .int .i64 v) (fun ρ e => ex_move (e _ _ rfl)) rfl rfl ?_
  refine wl_val (v := .int .i64 (-v)) (fun ρ e => ex_neg (e _ _ rfl) (wrap_in (by omega) (by omega))) rfl rfl ?_
  refine wl_newslice (fun ρ e => ex_build1 (v0 := (-v)) (e _ _ rfl)) rfl rfl (fun gn20 w25 jb21 jk22 jg23 js24 => ?_)
  have hsz := gs.2.2.2.2.size
  replace gs := gs.below jb21
  refine wl_call (args := [.agg #[.int .i64 s1.n, .slice A s1.L.length c, .slice AG nG cG, .int .u64 (s1.a.a.toNat : Int), .int .u64 (s1.a.b.toNat : Int), .slice none 0 0, .bool s1.closed], .slice (some ⟨gn20, 0, none⟩) 1 1]) in_add rfl rfl rfl ?_
  refine (ref10_add_new hAv hbase hs2 (by have := gs.2.2.2.2.size; omega) gs jk22 rfl (by simp) (by omega)).mono ?_
  rintro _ w26 ⟨⟨A27, c28, rfl, o5⟩, fr5⟩
  have gm := gs.mid fr5 o5
  refine ⟨_, rfl, ?_⟩
  refine wl_val (v := .int .i64 v) (fun ρ e => ex_move (e _ _ rfl)) rfl rfl ?_
  refine wl_none (fun ρ e => ex_storeState (A := A27) (c := c28) (s := s') (AG := AG) (nG := nG) (cG := cG) (e _ _ rfl) (e _ _ rfl) gm.2.1) rfl ?_
  have ge := gm.fin h3
  refine wl_val (v := .int .i64 v) (fun ρ e => ex_assign (e _ _ rfl)) rfl rfl ?_
  refine wl_nil ?_
  refine xw_next K19 ?_
  refine cw_ret ?_
  refine xw_past (by intro h; cases h) ?_
  refine xw_ret (v := .tuple #[.agg #[.int .i64 s'.n, .slice A27 s'.L.length c28, .slice AG nG cG, .int .u64 (s'.a.a.toNat : Int), .int .u64 (s'.a.b.toNat : Int), .slice none 0 0, .bool s'.closed], .int .i64 v]) (fun T hT => ?_) ⟨⟨A27, c28, rfl, ge.2.1⟩, ge.2.2⟩
  have t6 := hT 4 _ rfl
  have t7 := hT 5 _ rfl
  have r0 := ge.1.cell 0
  have r1 := ge.1.cell 1
  have r2 := ge.1.cell 2
  have r3 := ge.1.cell 3
  have r4 := ge.1.cell 4
  have r5 := ge.1.cell 5
  have r6 := ge.1.cell 6
  simp at r0 r1 r2 r3 r4 r5 r6
  simp [results, Try.results83, go_sem, t6, t7, r0, r1, r2, r3, r4, r5, r6]

set_option maxRecDepth 100000 in
set_option maxHeartbeats 1600000 in
theorem x10_1 (w : World) {Av : Nat → Prop} (hAv : AvOk Av w) (base bi : Nat) (hbase : base ≤ w.heap.size) (A : Option Addr) (c : Nat) (AG : Option Addr) (nG cG : Nat) (s s' : RS) (x : Int) (v gl : Int)  (gi cI : Nat) (hin : OwnInts w bi (.slice (some ⟨gi, 0, none⟩) 1 cI) [x])  (hs' : s.gate 6 gl [x] = (s', v)) (hn0 : 0 ≤ s.n) (hn1 : s.n ≤ 900000) (x0 : -1000000 ≤ x) (x1 : x ≤ 1000000)
    (hown : OwnRows w Av base (.slice A s.L.length c) s.L) (hL : s.L.length ≤ 900000) :
    Calls Try.prog 83 #[(.agg #[.int .i64 s.n, .slice A s.L.length c, .slice AG nG cG, .int .u64 (s.a.a.toNat : Int), .int .u64 (s.a.b.toNat : Int), .slice none 0 0, .bool s.closed]), .slice (some ⟨gi, 0, none⟩) 1 cI] w fun e w' => (∃ A' c', e = .returned (.tuple #[(.agg #[.int .i64 s'.n, .slice A' s'.L.length c', .slice AG nG cG, .int .u64 (s'.a.a.toNat : Int), .int .u64 (s'.a.b.toNat : Int), .slice none 0 0, .bool s'.closed]), .int .i64 v]) ∧ OwnRows w' Av base (.slice A' s'.L.length c') s'.L) ∧ FrR base w w' := by
  have hv : v = s.var := by have := hs'; rw [RS.gate_xor1] at this; simp only [Prod.mk.injEq] at this; exact this.2.symm
  obtain ⟨s1, hs1⟩ : ∃ q_, q_ = s.fresh (holdsL s.a x) := ⟨_, rfl⟩
  obtain ⟨s2, hs2⟩ : ∃ q_, q_ = s1.add [-v, x] := ⟨_, rfl⟩
  have hs3 : s' = s2.add [v, -x] := by rw [RS.gate_xor1] at hs'; simp only [Prod.mk.injEq] at hs'; rw [← hs'.1, hs2, hs1, hv]; simp [RS.adds, RS.add]
  have l1 : s1.L.length ≤ 900001 := by rw [hs1]; simp [RS.fresh]; omega
  have l2 : s2.L.length ≤ 900002 := by rw [hs2]; simp [RS.add]; omega
  have hl1 : s1.L = s.L := by rw [hs1]; rfl
  clear hs'
  have v0 : -1000001 ≤ v := by have := hv; unfold RS.var at this; split at this <;> omega
  have v1 : v ≤ 1000001 := by have := hv; unfold RS.var at this; split at this <;> omega
  have kh0 : ∀ W, Calls Try.prog 81 #[(.agg #[.int .i64 s.n, .slice A s.L.length c, .slice AG nG cG, .int .u64 (s.a.a.toNat : Int), .int .u64 (s.a.b.toNat : Int), .slice none 0 0, .bool s.closed]), .int .i64 x] W fun e w' => e = .returned (.bool (holdsL s.a x)) ∧ Below W.heap.size W w' := fun W => ref10_holds W A c AG nG cG s x x0 x1
  generalize holdsL s.a x = b0 at *
  refine sx_enter (args := [.agg #[.int .i64 s.n, .slice A s.L.length c, .slice AG nG cG, .int .u64 (s.a.a.toNat : Int), .int .u64 (s.a.b.toNat : Int), .slice none 0 0, .bool s.closed], .slice (some ⟨gi, 0, none⟩) 1 cI]) Try.func83 rfl rfl (by simp) ?_
  refine cw_seq (fun FK1 K1 => ?_)
  refine cw_region ?_
  refine wl_new (fun ρ e => ex_boxState (e _ _ rfl)) rfl rfl (fun g2 w3 jb4 jk5 jg6 js7 => ?_)
  refine wl_new (fun ρ e => ex_allocState) rfl rfl (fun g8 w9 jb10 jk11 jg12 js13 => ?_)
  have hb : Below w.heap.size w w9 := (jb4.trans (jb10.mono jb4.size))
  have gs : GSt Av base w g2 g8 AG nG cG bi (.slice (some ⟨gi, 0, none⟩) 1 cI) [x] s A c w9 := GSt.start w _ hb (jk5.keep jb10) jk11 hown hin
  have hne : g2 ≠ g8 := by omega
  have h1 : w.heap.size ≤ g2 := by omega
  have h3 : w.heap.size ≤ g8 := by omega
  refine wl_val (v := .int .i64 0) (fun ρ e => ex_assign (e _ _ rfl)) rfl rfl ?_
  refine wl_nil ?_
  refine xw_next K1 ?_
  refine cw_seq (fun FK14 K14 => ?_)
  refine cw_region ?_
  refine wl_val (v := .int .i64 0) (fun ρ e => ex_assign (e _ _ rfl)) rfl rfl ?_
  refine wl_nil ?_
  refine xw_next K14 ?_
  refine cw_seq (fun FK15 K15 => ?_)
  refine cw_seq (fun FK16 K16 => ?_)
  refine cw_region ?_
  refine wl_val (v := .slice (some ⟨gi, 0, none⟩) 1 cI) (fun ρ e => ex_move (e _ _ rfl)) rfl rfl ?_
  refine wl_val (v := .int .i64 (1 : Int)) (fun ρ e => ex_lenI (e _ _ rfl)) rfl rfl ?_
  refine wl_val (v := .bool false) (fun ρ e => ex_eql0 (u := (1 : Int)) (v := 0) (e _ _ rfl) (e _ _ rfl) (by omega)) rfl rfl ?_
  refine wl_nil ?_
  refine xw_next K16 ?_
  refine cw_false rfl ?_
  refine cw_skip ?_
  refine xw_next K15 ?_
  refine cw_seq (fun FK17 K17 => ?_)
  refine cw_seq (fun FK18 K18 => ?_)
  refine cw_region ?_
  refine wl_val (v := .slice (some ⟨gi, 0, none⟩) 1 cI) (fun ρ e => ex_move (e _ _ rfl)) rfl rfl ?_
  refine wl_val (v := .int .i64 (1 : Int)) (fun ρ e => ex_lenI (e _ _ rfl)) rfl rfl ?_
  refine wl_val (v := .bool true) (fun ρ e => ex_eql1 (u := (1 : Int)) (v := 1) (e _ _ rfl) (e _ _ rfl) (by omega)) rfl rfl ?_
  refine wl_nil ?_
  refine xw_next K18 ?_
  refine cw_true rfl ?_
  refine cw_seq (fun FK19 K19 => ?_)
  refine cw_drawn (fun W => Blk W g2 63 #[.int .i64 s.n, .slice A s.L.length c, .slice AG nG cG, .int .u64 (s.a.a.toNat : Int), .int .u64 (s.a.b.toNat : Int), .slice none 0 0, .bool s.closed] ∧ OwnInts W bi (.slice (some ⟨gi, 0, none⟩) 1 cI) [x]) 10 [(0, 0), (1, 0), (2, 1), (3, 1), (4, 0), (5, 2), (6, 2), (7, 1), (8, 1), (9, 1), (10, 3), (11, 3)] (by kernel_rfl) (by kernel_rfl) (PQ.then_ (PQ.then_ PQ.body)) (⟨gs.drew.1, gs.drew.2.2.2.1⟩) ?_
  replace gs := gs.drew
  refine wt0 (v := .agg #[.int .i64 s.n, .slice A s.L.length c, .slice AG nG cG, .int .u64 (s.a.a.toNat : Int), .int .u64 (s.a.b.toNat : Int), .slice none 0 0, .bool s.closed]) rfl (fun ρ e W hW => ex_state (g := g2) (e _ _ rfl) hW.1) rfl rfl ?_
  refine wt0 (v := .agg #[.int .i64 s.n, .slice A s.L.length c, .slice AG nG cG, .int .u64 (s.a.a.toNat : Int), .int .u64 (s.a.b.toNat : Int), .slice none 0 0, .bool s.closed]) rfl (fun ρ e W hW => ex_state (g := g2) (e _ _ rfl) hW.1) rfl rfl ?_
  refine wt1 (v := .slice (some ⟨gi, 0, none⟩) 1 cI) rfl (fun ρ e W => ex_move (e _ _ rfl)) rfl rfl ?_
  refine wt1 (v := .pointer (some ⟨gi, 0, none⟩)) rfl (fun ρ e W => ex_index0 (g := gi) (n := 1) (c := cI) (i := 0) (e _ _ rfl) (e _ _ rfl) (by omega)) rfl rfl ?_
  refine wt0 (v := .int .i64 x) rfl (fun ρ e W hW => ex_int (p := ⟨gi, 0, none⟩) (e _ _ rfl) (ints_cell hW.2 _ _ rfl)) rfl rfl ?_
  refine wt2_call (args := [.agg #[.int .i64 s.n, .slice A s.L.length c, .slice AG nG cG, .int .u64 (s.a.a.toNat : Int), .int .u64 (s.a.b.toNat : Int), .slice none 0 0, .bool s.closed], .int .i64 x]) rfl in_holds rfl rfl rfl ?_
  refine (kh0 _).mono ?_
  rintro _ w20 ⟨rfl, hb5⟩
  replace gs := gs.below hb5
  refine ⟨_, rfl, ⟨gs.1, gs.2.2.2.1⟩, ?_⟩
  refine wt2_call (args := [.agg #[.int .i64 s.n, .slice A s.L.length c, .slice AG nG cG, .int .u64 (s.a.a.toNat : Int), .int .u64 (s.a.b.toNat : Int), .slice none 0 0, .bool s.closed], .bool b0]) rfl in_fresh rfl rfl rfl ?_
  refine (ref10_fresh _ A c AG nG cG s s1 v b0 hs1 hv hn0 (by omega)).mono ?_
  rintro _ w21 ⟨rfl, hb5⟩
  replace gs := gs.below hb5
  have gm := gs.freshmid (s' := s1) hl1
  refine ⟨_, rfl, ⟨gs.1, gs.2.2.2.1⟩, ?_⟩
  refine wt1 (v := .tuple #[.agg #[.int .i64 s1.n, .slice A s1.L.length c, .slice AG nG cG, .int .u64 (s1.a.a.toNat : Int), .int .u64 (s1.a.b.toNat : Int), .slice none 0 0, .bool s1.closed], .int .i64 v]) rfl (fun ρ e W => ex_move (e _ _ rfl)) rfl rfl ?_
  refine wt1 (v := .agg #[.int .i64 s1.n, .slice A s1.L.length c, .slice AG nG cG, .int .u64 (s1.a.a.toNat : Int), .int .u64 (s1.a.b.toNat : Int), .slice none 0 0, .bool s1.closed]) rfl (fun ρ e W => ex_extract (vs := #[.agg #[.int .i64 s1.n, .slice A s1.L.length c, .slice AG nG cG, .int .u64 (s1.a.a.toNat : Int), .int .u64 (s1.a.b.toNat : Int), .slice none 0 0, .bool s1.closed], .int .i64 v]) (e _ _ rfl) rfl) rfl rfl ?_
  refine wt1 (v := .int .i64 v) rfl (fun ρ e W => ex_extract (vs := #[.agg #[.int .i64 s1.n, .slice A s1.L.length c, .slice AG nG cG, .int .u64 (s1.a.a.toNat : Int), .int .u64 (s1.a.b.toNat : Int), .slice none 0 0, .bool s1.closed], .int .i64 v]) (e _ _ rfl) rfl) rfl rfl ?_
  refine wt3_none rfl (fun ρ e => ex_storeState (A := A) (c := c) (s := s1) (AG := AG) (nG := nG) (cG := cG) (e _ _ rfl) (e _ _ rfl) gm.1) rfl ?_
  replace gs := gm.put hne.symm h1
  clear gm
  refine wt3 (v := .int .i64 v) rfl (fun ρ e => ex_assign (e _ _ rfl)) rfl rfl ?_
  refine wt_nil ?_
  refine xw_next K19 ?_
  refine cw_seq (fun FK22 K22 => ?_)
  refine cw_drawn (fun W => Blk W g2 63 #[.int .i64 s1.n, .slice A s1.L.length c, .slice AG nG cG, .int .u64 (s1.a.a.toNat : Int), .int .u64 (s1.a.b.toNat : Int), .slice none 0 0, .bool s1.closed] ∧ OwnInts W bi (.slice (some ⟨gi, 0, none⟩) 1 cI) [x]) 8 [(0, 0), (1, 1), (2, 1), (3, 1), (4, 1), (5, 0), (6, 2), (7, 2), (8, 3)] (by kernel_rfl) (by kernel_rfl) (PQ.then_ (PQ.then_ PQ.body)) (⟨gs.drew.1, gs.drew.2.2.2.1⟩) ?_
  replace gs := gs.drew
  refine wt0 (v := .agg #[.int .i64 s1.n, .slice A s1.L.length c, .slice AG nG cG, .int .u64 (s1.a.a.toNat : Int), .int .u64 (s1.a.b.toNat : Int), .slice none 0 0, .bool s1.closed]) rfl (fun ρ e W hW => ex_state (g := g2) (e _ _ rfl) hW.1) rfl rfl ?_
  refine wt1 (v := .int .i64 v) rfl (fun ρ e W => ex_move (e _ _ rfl)) rfl rfl ?_
  refine wt1 (v := .int .i64 (-v)) rfl (fun ρ e W => ex_neg (e _ _ rfl) (wrap_in (by omega) (by omega))) rfl rfl ?_
  refine wt1 (v := .slice (some ⟨gi, 0, none⟩) 1 cI) rfl (fun ρ e W => ex_move (e _ _ rfl)) rfl rfl ?_
  refine wt1 (v := .pointer (some ⟨gi, 0, none⟩)) rfl (fun ρ e W => ex_index0 (g := gi) (n := 1) (c := cI) (i := 0) (e _ _ rfl) (e _ _ rfl) (by omega)) rfl rfl ?_
  refine wt0 (v := .int .i64 x) rfl (fun ρ e W hW => ex_int (p := ⟨gi, 0, none⟩) (e _ _ rfl) (ints_cell hW.2 _ _ rfl)) rfl rfl ?_
  refine wt2_newslice rfl (fun ρ e => ex_build2 (v0 := (-v)) (v1 := x) (e _ _ rfl) (e _ _ rfl)) rfl rfl (fun gn23 w28 jb24 jk25 jg26 js27 => ?_)
  have hsz := gs.2.2.2.2.size
  replace gs := gs.below jb24
  refine ⟨⟨gs.1, gs.2.2.2.1⟩, ?_⟩
  refine wt2_call (args := [.agg #[.int .i64 s1.n, .slice A s1.L.length c, .slice AG nG cG, .int .u64 (s1.a.a.toNat : Int), .int .u64 (s1.a.b.toNat : Int), .slice none 0 0, .bool s1.closed], .slice (some ⟨gn23, 0, none⟩) 2 2]) rfl in_add rfl rfl rfl ?_
  refine (ref10_add_new hAv hbase hs2 (by have := gs.2.2.2.2.size; omega) gs jk25 rfl (by simp) (by omega)).mono ?_
  rintro _ w29 ⟨⟨A30, c31, rfl, o5⟩, fr5⟩
  have gm := gs.mid fr5 o5
  refine ⟨_, rfl, ⟨gm.1, gm.2.2.2.1⟩, ?_⟩
  refine wt3_none rfl (fun ρ e => ex_storeState (A := A30) (c := c31) (s := s2) (AG := AG) (nG := nG) (cG := cG) (e _ _ rfl) (e _ _ rfl) gm.1) rfl ?_
  replace gs := gm.put hne.symm h1
  clear gm
  refine wt_nil ?_
  refine xw_next K22 ?_
  refine cw_seq (fun FK32 K32 => ?_)
  refine cw_drawn (fun W => Blk W g2 63 #[.int .i64 s2.n, .slice A30 s2.L.length c31, .slice AG nG cG, .int .u64 (s2.a.a.toNat : Int), .int .u64 (s2.a.b.toNat : Int), .slice none 0 0, .bool s2.closed] ∧ OwnInts W bi (.slice (some ⟨gi, 0, none⟩) 1 cI) [x]) 9 [(0, 0), (1, 1), (2, 1), (3, 1), (4, 0), (5, 1), (8, 1), (6, 2), (7, 2), (9, 3), (10, 3)] (by kernel_rfl) (by kernel_rfl) (PQ.then_ (PQ.then_ PQ.body)) (⟨gs.drew.1, gs.drew.2.2.2.1⟩) ?_
  replace gs := gs.drew
  refine wt0 (v := .agg #[.int .i64 s2.n, .slice A30 s2.L.length c31, .slice AG nG cG, .int .u64 (s2.a.a.toNat : Int), .int .u64 (s2.a.b.toNat : Int), .slice none 0 0, .bool s2.closed]) rfl (fun ρ e W hW => ex_state (g := g2) (e _ _ rfl) hW.1) rfl rfl ?_
  refine wt1 (v := .int .i64 v) rfl (fun ρ e W => ex_move (e _ _ rfl)) rfl rfl ?_
  refine wt1 (v := .slice (some ⟨gi, 0, none⟩) 1 cI) rfl (fun ρ e W => ex_move (e _ _ rfl)) rfl rfl ?_
  refine wt1 (v := .pointer (some ⟨gi, 0, none⟩)) rfl (fun ρ e W => ex_index0 (g := gi) (n := 1) (c := cI) (i := 0) (e _ _ rfl) (e _ _ rfl) (by omega)) rfl rfl ?_
  refine wt0 (v := .int .i64 x) rfl (fun ρ e W hW => ex_int (p := ⟨gi, 0, none⟩) (e _ _ rfl) (ints_cell hW.2 _ _ rfl)) rfl rfl ?_
  refine wt1 (v := .int .i64 (-x)) rfl (fun ρ e W => ex_neg (e _ _ rfl) (wrap_in (by omega) (by omega))) rfl rfl ?_
  refine wt1 (v := .int .i64 v) rfl (fun ρ e W => ex_move (e _ _ rfl)) rfl rfl ?_
  refine wt2_newslice rfl (fun ρ e => ex_build2 (v0 := v) (v1 := (-x)) (e _ _ rfl) (e _ _ rfl)) rfl rfl (fun gn33 w38 jb34 jk35 jg36 js37 => ?_)
  have hsz := gs.2.2.2.2.size
  replace gs := gs.below jb34
  refine ⟨⟨gs.1, gs.2.2.2.1⟩, ?_⟩
  refine wt2_call (args := [.agg #[.int .i64 s2.n, .slice A30 s2.L.length c31, .slice AG nG cG, .int .u64 (s2.a.a.toNat : Int), .int .u64 (s2.a.b.toNat : Int), .slice none 0 0, .bool s2.closed], .slice (some ⟨gn33, 0, none⟩) 2 2]) rfl in_add rfl rfl rfl ?_
  refine (ref10_add_new hAv hbase hs3 (by have := gs.2.2.2.2.size; omega) gs jk35 rfl (by simp) (by omega)).mono ?_
  rintro _ w39 ⟨⟨A40, c41, rfl, o5⟩, fr5⟩
  have gm := gs.mid fr5 o5
  refine ⟨_, rfl, ⟨gm.1, gm.2.2.2.1⟩, ?_⟩
  refine wt3_none rfl (fun ρ e => ex_storeState (A := A40) (c := c41) (s := s') (AG := AG) (nG := nG) (cG := cG) (e _ _ rfl) (e _ _ rfl) gm.2.1) rfl ?_
  have ge := gm.fin h3
  refine wt3 (v := .int .i64 v) rfl (fun ρ e => ex_assign (e _ _ rfl)) rfl rfl ?_
  refine wt_nil ?_
  refine xw_next K32 ?_
  refine cw_ret ?_
  refine xw_past (by intro h; cases h) ?_
  refine xw_ret (v := .tuple #[.agg #[.int .i64 s'.n, .slice A40 s'.L.length c41, .slice AG nG cG, .int .u64 (s'.a.a.toNat : Int), .int .u64 (s'.a.b.toNat : Int), .slice none 0 0, .bool s'.closed], .int .i64 v]) (fun T hT => ?_) ⟨⟨A40, c41, rfl, ge.2.1⟩, ge.2.2⟩
  have t6 := hT 4 _ rfl
  have t7 := hT 5 _ rfl
  have r0 := ge.1.cell 0
  have r1 := ge.1.cell 1
  have r2 := ge.1.cell 2
  have r3 := ge.1.cell 3
  have r4 := ge.1.cell 4
  have r5 := ge.1.cell 5
  have r6 := ge.1.cell 6
  simp at r0 r1 r2 r3 r4 r5 r6
  simp [results, Try.results83, go_sem, t6, t7, r0, r1, r2, r3, r4, r5, r6]

set_option maxRecDepth 100000 in
set_option maxHeartbeats 1600000 in
theorem x10_n (w : World) {Av : Nat → Prop} (hAv : AvOk Av w) (base bi : Nat) (hbase : base ≤ w.heap.size) (A : Option Addr) (c : Nat) (AG : Option Addr) (nG cG : Nat) (s s' : RS) (v : Int) (gi n cI : Nat) (x0 : Int) (r : List Int) (hn : n = r.length + 1) (hr : 1 ≤ r.length) (hrl : r.length ≤ 80000) (hin : OwnInts w bi (.slice (some ⟨gi, 0, none⟩) n cI) (x0 :: r)) (hs' : s.xorGo x0 r = (s', v)) (hbd : ∀ x ∈ x0 :: r, -1000000 ≤ x ∧ x ≤ 1000000) (hn0 : 0 ≤ s.n) (hn1 : s.n ≤ 128) (hown : OwnRows w Av base (.slice A s.L.length c) s.L) (hL : s.L.length ≤ 400000) :
    Calls Try.prog 83 #[(.agg #[.int .i64 s.n, .slice A s.L.length c, .slice AG nG cG, .int .u64 (s.a.a.toNat : Int), .int .u64 (s.a.b.toNat : Int), .slice none 0 0, .bool s.closed]), .slice (some ⟨gi, 0, none⟩) n cI] w fun e w' => (∃ A' c', e = .returned (.tuple #[(.agg #[.int .i64 s'.n, .slice A' s'.L.length c', .slice AG nG cG, .int .u64 (s'.a.a.toNat : Int), .int .u64 (s'.a.b.toNat : Int), .slice none 0 0, .bool s'.closed]), .int .i64 v]) ∧ OwnRows w' Av base (.slice A' s'.L.length c') s'.L) ∧ FrR base w w' := by
  have hx0 := hbd x0 List.mem_cons_self
  refine sx_enter (args := [.agg #[.int .i64 s.n, .slice A s.L.length c, .slice AG nG cG, .int .u64 (s.a.a.toNat : Int), .int .u64 (s.a.b.toNat : Int), .slice none 0 0, .bool s.closed], .slice (some ⟨gi, 0, none⟩) n cI]) Try.func83 rfl rfl (by simp) ?_
  refine cw_seq (fun FK1 K1 => ?_)
  refine cw_region ?_
  refine wl_new (fun ρ e => ex_boxState (e _ _ rfl)) rfl rfl (fun g2 w3 jb4 jk5 jg6 js7 => ?_)
  refine wl_new (fun ρ e => ex_allocState) rfl rfl (fun g8 w9 jb10 jk11 jg12 js13 => ?_)
  have hb : Below w.heap.size w w9 := (jb4.trans (jb10.mono jb4.size))
  have gs : GSt Av base w g2 g8 AG nG cG bi (.slice (some ⟨gi, 0, none⟩) n cI) (x0 :: r) s A c w9 := GSt.start w _ hb (jk5.keep jb10) jk11 hown hin
  have hne : g2 ≠ g8 := by omega
  have h1 : w.heap.size ≤ g2 := by omega
  have h3 : w.heap.size ≤ g8 := by omega
  refine wl_val (v := .int .i64 0) (fun ρ e => ex_assign (e _ _ rfl)) rfl rfl ?_
  refine wl_nil ?_
  refine xw_next K1 ?_
  refine cw_seq (fun FK14 K14 => ?_)
  refine cw_region ?_
  refine wl_val (v := .int .i64 0) (fun ρ e => ex_assign (e _ _ rfl)) rfl rfl ?_
  refine wl_nil ?_
  refine xw_next K14 ?_
  refine cw_seq (fun FK15 K15 => ?_)
  refine cw_seq (fun FK16 K16 => ?_)
  refine cw_region ?_
  refine wl_val (v := .slice (some ⟨gi, 0, none⟩) n cI) (fun ρ e => ex_move (e _ _ rfl)) rfl rfl ?_
  refine wl_val (v := .int .i64 (n : Int)) (fun ρ e => ex_lenI (e _ _ rfl)) rfl rfl ?_
  refine wl_val (v := .bool false) (fun ρ e => ex_eql0 (u := (n : Int)) (v := 0) (e _ _ rfl) (e _ _ rfl) (by omega)) rfl rfl ?_
  refine wl_nil ?_
  refine xw_next K16 ?_
  refine cw_false rfl ?_
  refine cw_skip ?_
  refine xw_next K15 ?_
  refine cw_seq (fun FK17 K17 => ?_)
  refine cw_seq (fun FK18 K18 => ?_)
  refine cw_region ?_
  refine wl_val (v := .slice (some ⟨gi, 0, none⟩) n cI) (fun ρ e => ex_move (e _ _ rfl)) rfl rfl ?_
  refine wl_val (v := .int .i64 (n : Int)) (fun ρ e => ex_lenI (e _ _ rfl)) rfl rfl ?_
  refine wl_val (v := .bool false) (fun ρ e => ex_eql0 (u := (n : Int)) (v := 1) (e _ _ rfl) (e _ _ rfl) (by omega)) rfl rfl ?_
  refine wl_nil ?_
  refine xw_next K18 ?_
  refine cw_false rfl ?_
  refine cw_skip ?_
  refine xw_next K17 ?_
  refine cw_seq (fun FK19 K19 => ?_)
  refine cw_region ?_
  refine wl_val (v := .slice (some ⟨gi, 0, none⟩) n cI) (fun ρ e => ex_move (e _ _ rfl)) rfl rfl ?_
  refine wl_val (v := .pointer (some ⟨gi, 0, none⟩)) (fun ρ e => ex_index0 (g := gi) (n := n) (c := cI) (i := 0) (e _ _ rfl) (e _ _ rfl) (by omega)) rfl rfl ?_
  refine wl_val (v := .int .i64 x0) (fun ρ e => ex_int (p := ⟨gi, 0, none⟩) (e _ _ rfl) (ints_cell gs.2.2.2.1 _ _ rfl)) rfl rfl ?_
  refine wl_val (v := .int .i64 x0) (fun ρ e => ex_assign (e _ _ rfl)) rfl rfl ?_
  refine wl_nil ?_
  refine xw_next K19 ?_
  refine cw_seq (fun FK20 K20 => ?_)
  refine cw_seq (fun FK21 K21 => ?_)
  refine cw_region ?_
  refine wl_val (v := .int .i64 1) (fun ρ e => ex_assign (e _ _ rfl)) rfl rfl ?_
  refine wl_nil ?_
  refine xw_next K21 ?_
  refine cw_block ?_
  refine cw_loop (ι := Nat × RS × Int × Option Addr × Nat) (fun i => [(1, .slice (some ⟨gi, 0, none⟩) n cI), (2, .pointer (some ⟨g2, 0, none⟩)), (4, .pointer (some ⟨g8, 0, none⟩)), (7, .int .i64 i.2.2.1), (8, .int .i64 ((i.1 + 1 : Nat) : Int))]) (fun i W => i.1 ≤ r.length ∧ GSt Av base w g2 g8 AG nG cG bi (.slice (some ⟨gi, 0, none⟩) n cI) (x0 :: r) i.2.1 i.2.2.2.1 i.2.2.2.2 W ∧ i.2.1.xorGo i.2.2.1 (r.drop i.1) = (s', v) ∧ -1000000 ≤ i.2.2.1 ∧ i.2.2.1 ≤ 1000000 ∧ 0 ≤ i.2.1.n ∧ (i.2.1.closed = false → i.2.1.n ≤ 128) ∧ i.2.1.L.length ≤ 400000 + 4 * i.1) (fun i => r.length - i.1) (0, s, x0, A, c) ⟨Nat.zero_le _, gs, by simpa using hs', hx0.1, hx0.2, hn0, fun _ => hn1, by simp; omega⟩ ⟨rfl, rfl, rfl, rfl, rfl, trivial⟩ (fun i W hJ K22 hK23 => ?_)
  clear gs hs' hown hL hn0 hn1
  obtain ⟨k, cur, last, A, c⟩ := i
  obtain ⟨hk, gs, hX, hl0, hl1, hc0, hC, hcL⟩ := hJ
  dsimp only at hk gs hX hl0 hl1 hc0 hC hcL
  by_cases hlt : k < r.length
  · cases hcl : cur.closed
    · have hc1 : cur.n ≤ 128 := hC hcl
      have hx := hbd r[k] (List.mem_cons_of_mem _ (List.getElem_mem hlt))
      have hget : (x0 :: r)[k + 1]? = some r[k] := by simp [hlt]
      rw [List.drop_eq_getElem_cons hlt, RS.xorGo, hcl] at hX
      simp only [Bool.false_eq_true, if_false] at hX
      have kh0 : ∀ W, Calls Try.prog 81 #[(.agg #[.int .i64 cur.n, .slice A cur.L.length c, .slice AG nG cG, .int .u64 (cur.a.a.toNat : Int), .int .u64 (cur.a.b.toNat : Int), .slice none 0 0, .bool cur.closed]), .int .i64 last] W fun e w' => e = .returned (.bool (holdsL cur.a last)) ∧ Below W.heap.size W w' := fun W => ref10_holds W A c AG nG cG cur last hl0 hl1
      have kh1 : ∀ W, Calls Try.prog 81 #[(.agg #[.int .i64 cur.n, .slice A cur.L.length c, .slice AG nG cG, .int .u64 (cur.a.a.toNat : Int), .int .u64 (cur.a.b.toNat : Int), .slice none 0 0, .bool cur.closed]), .int .i64 r[k]] W fun e w' => e = .returned (.bool (holdsL cur.a r[k])) ∧ Below W.heap.size W w' := fun W => ref10_holds W A c AG nG cG cur r[k] hx.1 hx.2
      generalize r[k] = x at hx hget hX kh1
      generalize holdsL cur.a last = b0 at hX kh0
      generalize holdsL cur.a x = b1 at hX kh1
      obtain ⟨cur1, hs1⟩ : ∃ z, z = cur.fresh (b0 != b1) := ⟨_, rfl⟩
      obtain ⟨v1, hv1⟩ : ∃ z, z = cur.var := ⟨_, rfl⟩
      rw [← hs1, ← hv1] at hX
      obtain ⟨cur2, hs2⟩ : ∃ z, z = cur1.adds (sumRows v1 last x) := ⟨_, rfl⟩
      rw [← hs2] at hX
      have v10 : -1000000 ≤ v1 ∧ v1 ≤ 1000000 := by rw [hv1]; unfold RS.var; split <;> omega
      have n2 : cur2.n = cur.n + 1 := by rw [hs2, hs1]; rfl
      have c2 : cur2.closed = false → cur2.n ≤ 128 := by rw [hs2, hs1]; simp only [RS.adds, RS.fresh]; split <;> (intro h; first | cases h | omega)
      have L1 : cur1.L = cur.L := by rw [hs1]; rfl
      have L1' : cur1.L.length ≤ 400000 + 4 * k := by rw [L1]; exact hcL
      have L2 : cur2.L.length ≤ 400000 + 4 * (k + 1) := by rw [hs2]; simp [RS.adds, sumRows]; omega
      have N2 : 0 ≤ cur2.n := by omega
      obtain ⟨hx1, hx2⟩ := hx
      refine cw_seq (fun FK24 K24 => ?_)
      refine cw_seq (fun FK25 K25 => ?_)
      refine cw_region ?_
      refine wl_val (v := .int .i64 ((k + 1 : Nat) : Int)) (fun ρ e => ex_move (e _ _ rfl)) rfl rfl ?_
      refine wl_val (v := .slice (some ⟨gi, 0, none⟩) n cI) (fun ρ e => ex_move (e _ _ rfl)) rfl rfl ?_
      refine wl_val (v := .int .i64 (n : Int)) (fun ρ e => ex_lenI (e _ _ rfl)) rfl rfl ?_
      refine wl_val (v := .bool true) (fun ρ e => ex_lss1 (u := ((k + 1 : Nat) : Int)) (v := (n : Int)) (e _ _ rfl) (e _ _ rfl) (by omega)) rfl rfl ?_
      refine wl_val (v := .bool true) (fun ρ e => ex_move (e _ _ rfl)) rfl rfl ?_
      refine wl_val (v := .pointer (some ⟨g2, 6, none⟩)) (fun ρ e => ex_stateF4 (g := g2) (o := 0) (e _ _ rfl)) rfl rfl ?_
      refine wl_val (v := .bool false) (fun ρ e => ex_bool (p := ⟨g2, 6, none⟩) (e _ _ rfl) (by have := gs.1.cell 6; simpa [hcl] using this)) rfl rfl ?_
      refine wl_val (v := .bool true) (fun ρ e => ex_not (b := false) (e _ _ rfl)) rfl rfl ?_
      refine wl_val (v := .bool true) (fun ρ e => ex_pick1 (e _ _ rfl) (e _ _ rfl)) rfl rfl ?_
      refine wl_nil ?_
      refine xw_next K25 ?_
      refine cw_true rfl ?_
      refine cw_skip ?_
      refine xw_next K24 ?_
      refine cw_seq (fun FK26 K26 => ?_)
      refine cw_block ?_
      refine cw_seq (fun FK27 K27 => ?_)
      refine cw_drawn (fun W => Blk W g2 63 #[.int .i64 cur.n, .slice A cur.L.length c, .slice AG nG cG, .int .u64 (cur.a.a.toNat : Int), .int .u64 (cur.a.b.toNat : Int), .slice none 0 0, .bool cur.closed] ∧ OwnInts W bi (.slice (some ⟨gi, 0, none⟩) n cI) (x0 :: r)) 15 [(0, 0), (1, 0), (2, 1), (4, 0), (5, 1), (6, 1), (7, 1), (8, 0), (3, 2), (9, 2), (10, 1), (11, 2), (12, 1), (13, 1), (14, 1), (15, 3), (16, 3)] (by kernel_rfl) (by kernel_rfl) (PQ.then_ (PQ.block (PQ.then_ (PQ.then_ (PQ.block (PQ.then_ PQ.body)))))) (⟨gs.drew.1, gs.drew.2.2.2.1⟩) ?_
      replace gs := gs.drew
      refine wt0 (v := .agg #[.int .i64 cur.n, .slice A cur.L.length c, .slice AG nG cG, .int .u64 (cur.a.a.toNat : Int), .int .u64 (cur.a.b.toNat : Int), .slice none 0 0, .bool cur.closed]) rfl (fun ρ e W hW => ex_state (g := g2) (e _ _ rfl) hW.1) rfl rfl ?_
      refine wt0 (v := .agg #[.int .i64 cur.n, .slice A cur.L.length c, .slice AG nG cG, .int .u64 (cur.a.a.toNat : Int), .int .u64 (cur.a.b.toNat : Int), .slice none 0 0, .bool cur.closed]) rfl (fun ρ e W hW => ex_state (g := g2) (e _ _ rfl) hW.1) rfl rfl ?_
      refine wt1 (v := .int .i64 last) rfl (fun ρ e W => ex_move (e _ _ rfl)) rfl rfl ?_
      refine wt0 (v := .agg #[.int .i64 cur.n, .slice A cur.L.length c, .slice AG nG cG, .int .u64 (cur.a.a.toNat : Int), .int .u64 (cur.a.b.toNat : Int), .slice none 0 0, .bool cur.closed]) rfl (fun ρ e W hW => ex_state (g := g2) (e _ _ rfl) hW.1) rfl rfl ?_
      refine wt1 (v := .slice (some ⟨gi, 0, none⟩) n cI) rfl (fun ρ e W => ex_move (e _ _ rfl)) rfl rfl ?_
      refine wt1 (v := .int .i64 ((k + 1 : Nat) : Int)) rfl (fun ρ e W => ex_move (e _ _ rfl)) rfl rfl ?_
      refine wt1 (v := .pointer (some ⟨gi, k + 1, none⟩)) rfl (fun ρ e W => ex_index0 (g := gi) (n := n) (c := cI) (i := (k + 1)) (e _ _ rfl) (e _ _ rfl) (by omega)) rfl rfl ?_
      refine wt0 (v := .int .i64 x) rfl (fun ρ e W hW => ex_int (p := ⟨gi, k + 1, none⟩) (e _ _ rfl) (ints_cell hW.2 _ _ hget)) rfl rfl ?_
      refine wt2_call (args := [.agg #[.int .i64 cur.n, .slice A cur.L.length c, .slice AG nG cG, .int .u64 (cur.a.a.toNat : Int), .int .u64 (cur.a.b.toNat : Int), .slice none 0 0, .bool cur.closed], .int .i64 last]) rfl in_holds rfl rfl rfl ?_
      refine (kh0 _).mono ?_
      rintro _ w28 ⟨rfl, hb5⟩
      replace gs := gs.below hb5
      refine ⟨_, rfl, ⟨gs.1, gs.2.2.2.1⟩, ?_⟩
      refine wt2_call (args := [.agg #[.int .i64 cur.n, .slice A cur.L.length c, .slice AG nG cG, .int .u64 (cur.a.a.toNat : Int), .int .u64 (cur.a.b.toNat : Int), .slice none 0 0, .bool cur.closed], .int .i64 x]) rfl in_holds rfl rfl rfl ?_
      refine (kh1 _).mono ?_
      rintro _ w29 ⟨rfl, hb5⟩
      replace gs := gs.below hb5
      refine ⟨_, rfl, ⟨gs.1, gs.2.2.2.1⟩, ?_⟩
      refine wt1 (v := .bool (b0 != b1)) rfl (fun ρ e W => ex_neb (b := b0) (b' := b1) (e _ _ rfl) (e _ _ rfl)) rfl rfl ?_
      refine wt2_call (args := [.agg #[.int .i64 cur.n, .slice A cur.L.length c, .slice AG nG cG, .int .u64 (cur.a.a.toNat : Int), .int .u64 (cur.a.b.toNat : Int), .slice none 0 0, .bool cur.closed], .bool (b0 != b1)]) rfl in_fresh rfl rfl rfl ?_
      refine (ref10_fresh _ A c AG nG cG cur cur1 v1 (b0 != b1) hs1 hv1 hc0 (by omega)).mono ?_
      rintro _ w30 ⟨rfl, hb5⟩
      replace gs := gs.below hb5
      have gm := gs.freshmid (s' := cur1) L1
      refine ⟨_, rfl, ⟨gs.1, gs.2.2.2.1⟩, ?_⟩
      refine wt1 (v := .tuple #[.agg #[.int .i64 cur1.n, .slice A cur1.L.length c, .slice AG nG cG, .int .u64 (cur1.a.a.toNat : Int), .int .u64 (cur1.a.b.toNat : Int), .slice none 0 0, .bool cur1.closed], .int .i64 v1]) rfl (fun ρ e W => ex_move (e _ _ rfl)) rfl rfl ?_
      refine wt1 (v := .agg #[.int .i64 cur1.n, .slice A cur1.L.length c, .slice AG nG cG, .int .u64 (cur1.a.a.toNat : Int), .int .u64 (cur1.a.b.toNat : Int), .slice none 0 0, .bool cur1.closed]) rfl (fun ρ e W => ex_extract (vs := #[.agg #[.int .i64 cur1.n, .slice A cur1.L.length c, .slice AG nG cG, .int .u64 (cur1.a.a.toNat : Int), .int .u64 (cur1.a.b.toNat : Int), .slice none 0 0, .bool cur1.closed], .int .i64 v1]) (e _ _ rfl) rfl) rfl rfl ?_
      refine wt1 (v := .int .i64 v1) rfl (fun ρ e W => ex_extract (vs := #[.agg #[.int .i64 cur1.n, .slice A cur1.L.length c, .slice AG nG cG, .int .u64 (cur1.a.a.toNat : Int), .int .u64 (cur1.a.b.toNat : Int), .slice none 0 0, .bool cur1.closed], .int .i64 v1]) (e _ _ rfl) rfl) rfl rfl ?_
      refine wt3_none rfl (fun ρ e => ex_storeState (A := A) (c := c) (s := cur1) (AG := AG) (nG := nG) (cG := cG) (e _ _ rfl) (e _ _ rfl) gm.1) rfl ?_
      replace gs := gm.put hne.symm h1
      clear gm
      refine wt3 (v := .int .i64 v1) rfl (fun ρ e => ex_assign (e _ _ rfl)) rfl rfl ?_
      refine wt_nil ?_
      refine xw_next K27 ?_
      refine cw_seq (fun FK31 K31 => ?_)
      refine cw_drawn (fun W => Blk W g2 63 #[.int .i64 cur1.n, .slice A cur1.L.length c, .slice AG nG cG, .int .u64 (cur1.a.a.toNat : Int), .int .u64 (cur1.a.b.toNat : Int), .slice none 0 0, .bool cur1.closed] ∧ OwnInts W bi (.slice (some ⟨gi, 0, none⟩) n cI) (x0 :: r)) 8 [(0, 0), (1, 1), (2, 1), (3, 1), (4, 1), (5, 1), (6, 0), (7, 2), (8, 3)] (by kernel_rfl) (by kernel_rfl) (PQ.then_ (PQ.block (PQ.then_ (PQ.then_ (PQ.block (PQ.then_ PQ.body)))))) (⟨gs.drew.1, gs.drew.2.2.2.1⟩) ?_
      replace gs := gs.drew
      refine wt0 (v := .agg #[.int .i64 cur1.n, .slice A cur1.L.length c, .slice AG nG cG, .int .u64 (cur1.a.a.toNat : Int), .int .u64 (cur1.a.b.toNat : Int), .slice none 0 0, .bool cur1.closed]) rfl (fun ρ e W hW => ex_state (g := g2) (e _ _ rfl) hW.1) rfl rfl ?_
      refine wt1 (v := .int .i64 v1) rfl (fun ρ e W => ex_move (e _ _ rfl)) rfl rfl ?_
      refine wt1 (v := .int .i64 last) rfl (fun ρ e W => ex_move (e _ _ rfl)) rfl rfl ?_
      refine wt1 (v := .slice (some ⟨gi, 0, none⟩) n cI) rfl (fun ρ e W => ex_move (e _ _ rfl)) rfl rfl ?_
      refine wt1 (v := .int .i64 ((k + 1 : Nat) : Int)) rfl (fun ρ e W => ex_move (e _ _ rfl)) rfl rfl ?_
      refine wt1 (v := .pointer (some ⟨gi, k + 1, none⟩)) rfl (fun ρ e W => ex_index0 (g := gi) (n := n) (c := cI) (i := (k + 1)) (e _ _ rfl) (e _ _ rfl) (by omega)) rfl rfl ?_
      refine wt0 (v := .int .i64 x) rfl (fun ρ e W hW => ex_int (p := ⟨gi, k + 1, none⟩) (e _ _ rfl) (ints_cell hW.2 _ _ hget)) rfl rfl ?_
      refine wt2_call (args := [.agg #[.int .i64 cur1.n, .slice A cur1.L.length c, .slice AG nG cG, .int .u64 (cur1.a.a.toNat : Int), .int .u64 (cur1.a.b.toNat : Int), .slice none 0 0, .bool cur1.closed], .int .i64 v1, .int .i64 last, .int .i64 x]) rfl in_sum rfl rfl rfl ?_
      refine (ref10_sum _ (hAv.le gs.2.2.2.2.size) base (Nat.le_trans hbase gs.2.2.2.2.size) A c AG nG cG cur1 cur2 v1 last x hs2 v10.1 v10.2 hl0 hl1 hx1 hx2 gs.2.2.1 (by omega)).mono ?_
      rintro _ w32 ⟨⟨A33, c34, rfl, o5⟩, fr5⟩
      have gm := gs.mid fr5 o5
      refine ⟨_, rfl, ⟨gm.1, gm.2.2.2.1⟩, ?_⟩
      refine wt3_none rfl (fun ρ e => ex_storeState (A := A33) (c := c34) (s := cur2) (AG := AG) (nG := nG) (cG := cG) (e _ _ rfl) (e _ _ rfl) gm.1) rfl ?_
      replace gs := gm.put hne.symm h1
      clear gm
      refine wt_nil ?_
      refine xw_next K31 ?_
      refine cw_region ?_
      refine wl_val (v := .int .i64 v1) (fun ρ e => ex_move (e _ _ rfl)) rfl rfl ?_
      refine wl_val (v := .int .i64 v1) (fun ρ e => ex_assign (e _ _ rfl)) rfl rfl ?_
      refine wl_nil ?_
      refine xw_block ?_
      refine xw_next K26 ?_
      refine cw_region ?_
      refine wl_val (v := .int .i64 ((k + 1 : Nat) : Int)) (fun ρ e => ex_move (e _ _ rfl)) rfl rfl ?_
      refine wl_val (v := .int .i64 ((k + 1 + 1 : Nat) : Int)) (fun ρ e => ex_inc (k := (k + 1)) (e _ _ rfl) (e _ _ rfl) (by omega)) rfl rfl ?_
      refine wl_val (v := .int .i64 ((k + 1 + 1 : Nat) : Int)) (fun ρ e => ex_assign (e _ _ rfl)) rfl rfl ?_
      refine wl_nil ?_
      refine xw_round hK23 (k + 1, cur2, v1, A33, c34) (by show r.length - (k + 1) < r.length - k; omega) ⟨by show k + 1 ≤ r.length; omega, gs, hX, v10.1, v10.2, N2, c2, L2⟩ ⟨rfl, rfl, rfl, rfl, rfl, trivial⟩
    · rw [List.drop_eq_getElem_cons hlt, RS.xorGo, if_pos hcl] at hX
      simp only [Prod.mk.injEq] at hX
      obtain ⟨rfl, rfl⟩ := hX
      refine cw_seq (fun FK35 K35 => ?_)
      refine cw_seq (fun FK36 K36 => ?_)
      refine cw_region ?_
      refine wl_val (v := .int .i64 ((k + 1 : Nat) : Int)) (fun ρ e => ex_move (e _ _ rfl)) rfl rfl ?_
      refine wl_val (v := .slice (some ⟨gi, 0, none⟩) n cI) (fun ρ e => ex_move (e _ _ rfl)) rfl rfl ?_
      refine wl_val (v := .int .i64 (n : Int)) (fun ρ e => ex_lenI (e _ _ rfl)) rfl rfl ?_
      refine wl_val (v := .bool true) (fun ρ e => ex_lss1 (u := ((k + 1 : Nat) : Int)) (v := (n : Int)) (e _ _ rfl) (e _ _ rfl) (by omega)) rfl rfl ?_
      refine wl_val (v := .bool true) (fun ρ e => ex_move (e _ _ rfl)) rfl rfl ?_
      refine wl_val (v := .pointer (some ⟨g2, 6, none⟩)) (fun ρ e => ex_stateF4 (g := g2) (o := 0) (e _ _ rfl)) rfl rfl ?_
      refine wl_val (v := .bool true) (fun ρ e => ex_bool (p := ⟨g2, 6, none⟩) (e _ _ rfl) (by have := gs.1.cell 6; simpa [hcl] using this)) rfl rfl ?_
      refine wl_val (v := .bool false) (fun ρ e => ex_not (b := true) (e _ _ rfl)) rfl rfl ?_
      refine wl_val (v := .bool false) (fun ρ e => ex_pick1 (e _ _ rfl) (e _ _ rfl)) rfl rfl ?_
      refine wl_nil ?_
      refine xw_next K36 ?_
      refine cw_false rfl ?_
      refine cw_exit ?_
      refine xw_past (by intro h; cases h) ?_
      refine xw_past (by intro h; cases h) ?_
      refine xw_here ?_
      refine xw_next K20 ?_
      refine cw_seq (fun FK37 K37 => ?_)
      refine cw_region ?_
      refine wl_val (v := .agg #[.int .i64 cur.n, .slice A cur.L.length c, .slice AG nG cG, .int .u64 (cur.a.a.toNat : Int), .int .u64 (cur.a.b.toNat : Int), .slice none 0 0, .bool cur.closed]) (fun ρ e => ex_state (g := g2) (e _ _ rfl) gs.1) rfl rfl ?_
      refine wl_val (v := .int .i64 last) (fun ρ e => ex_move (e _ _ rfl)) rfl rfl ?_
      refine wl_none (fun ρ e => ex_storeState (A := A) (c := c) (s := cur) (AG := AG) (nG := nG) (cG := cG) (e _ _ rfl) (e _ _ rfl) gs.2.1) rfl ?_
      have ge := gs.fin h3
      refine wl_val (v := .int .i64 last) (fun ρ e => ex_assign (e _ _ rfl)) rfl rfl ?_
      refine wl_nil ?_
      refine xw_next K37 ?_
      refine cw_ret ?_
      refine xw_ret (v := .tuple #[.agg #[.int .i64 cur.n, .slice A cur.L.length c, .slice AG nG cG, .int .u64 (cur.a.a.toNat : Int), .int .u64 (cur.a.b.toNat : Int), .slice none 0 0, .bool cur.closed], .int .i64 last]) (fun T hT => ?_) ⟨⟨A, c, rfl, ge.2.1⟩, ge.2.2⟩
      have t6 := hT 4 _ rfl
      have t7 := hT 5 _ rfl
      have r0 := ge.1.cell 0
      have r1 := ge.1.cell 1
      have r2 := ge.1.cell 2
      have r3 := ge.1.cell 3
      have r4 := ge.1.cell 4
      have r5 := ge.1.cell 5
      have r6 := ge.1.cell 6
      simp at r0 r1 r2 r3 r4 r5 r6
      simp [results, Try.results83, go_sem, t6, t7, r0, r1, r2, r3, r4, r5, r6]
  · rw [List.drop_of_length_le (by omega), RS.xorGo] at hX
    simp only [Prod.mk.injEq] at hX
    obtain ⟨rfl, rfl⟩ := hX
    refine cw_seq (fun FK38 K38 => ?_)
    refine cw_seq (fun FK39 K39 => ?_)
    refine cw_region ?_
    refine wl_val (v := .int .i64 ((k + 1 : Nat) : Int)) (fun ρ e => ex_move (e _ _ rfl)) rfl rfl ?_
    refine wl_val (v := .slice (some ⟨gi, 0, none⟩) n cI) (fun ρ e => ex_move (e _ _ rfl)) rfl rfl ?_
    refine wl_val (v := .int .i64 (n : Int)) (fun ρ e => ex_lenI (e _ _ rfl)) rfl rfl ?_
    refine wl_val (v := .bool false) (fun ρ e => ex_lss0 (u := ((k + 1 : Nat) : Int)) (v := (n : Int)) (e _ _ rfl) (e _ _ rfl) (by omega)) rfl rfl ?_
    refine wl_val (v := .bool false) (fun ρ e => ex_move (e _ _ rfl)) rfl rfl ?_
    refine wl_skip rfl rfl ?_
    refine wl_skip rfl rfl ?_
    refine wl_skip rfl rfl ?_
    refine wl_val (v := .bool false) (fun ρ e => ex_pick0 (e _ _ rfl) (e _ _ rfl)) rfl rfl ?_
    refine wl_nil ?_
    refine xw_next K39 ?_
    refine cw_false rfl ?_
    refine cw_exit ?_
    refine xw_past (by intro h; cases h) ?_
    refine xw_past (by intro h; cases h) ?_
    refine xw_here ?_
    refine xw_next K20 ?_
    refine cw_seq (fun FK40 K40 => ?_)
    refine cw_region ?_
    refine wl_val (v := .agg #[.int .i64 cur.n, .slice A cur.L.length c, .slice AG nG cG, .int .u64 (cur.a.a.toNat : Int), .int .u64 (cur.a.b.toNat : Int), .slice none 0 0, .bool cur.closed]) (fun ρ e => ex_state (g := g2) (e _ _ rfl) gs.1) rfl rfl ?_
    refine wl_val (v := .int .i64 last) (fun ρ e => ex_move (e _ _ rfl)) rfl rfl ?_
    refine wl_none (fun ρ e => ex_storeState (A := A) (c := c) (s := cur) (AG := AG) (nG := nG) (cG := cG) (e _ _ rfl) (e _ _ rfl) gs.2.1) rfl ?_
    have ge := gs.fin h3
    refine wl_val (v := .int .i64 last) (fun ρ e => ex_assign (e _ _ rfl)) rfl rfl ?_
    refine wl_nil ?_
    refine xw_next K40 ?_
    refine cw_ret ?_
    refine xw_ret (v := .tuple #[.agg #[.int .i64 cur.n, .slice A cur.L.length c, .slice AG nG cG, .int .u64 (cur.a.a.toNat : Int), .int .u64 (cur.a.b.toNat : Int), .slice none 0 0, .bool cur.closed], .int .i64 last]) (fun T hT => ?_) ⟨⟨A, c, rfl, ge.2.1⟩, ge.2.2⟩
    have t6 := hT 4 _ rfl
    have t7 := hT 5 _ rfl
    have r0 := ge.1.cell 0
    have r1 := ge.1.cell 1
    have r2 := ge.1.cell 2
    have r3 := ge.1.cell 3
    have r4 := ge.1.cell 4
    have r5 := ge.1.cell 5
    have r6 := ge.1.cell 6
    simp at r0 r1 r2 r3 r4 r5 r6
    simp [results, Try.results83, go_sem, t6, t7, r0, r1, r2, r3, r4, r5, r6]
end Go.Proofs.Ytlifakbdgmdafaa
