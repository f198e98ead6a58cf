/-
  censusref10: gateOf, the kinds that make at most four clauses. censusref10: gateOf.
-/
import Derived.Test.YtlifakbdgmdafaaExM
import Derived.Test.YtlifakbdgmdafaaG10m
namespace Go.Proofs.Ytlifakbdgmdafaa
open Go Go.RowKit

theorem RS.gate_not (s : RS) (gl x : Int) : s.gate 3 gl [x] = ((s.fresh (!holdsL s.a x)).adds [[-s.var, -x], [s.var, x]], s.var) := by
  have e : kindVal 3 [holdsL s.a x] = !holdsL s.a x := by cases holdsL s.a x <;> rfl
  unfold RS.gate
  rw [if_neg (by omega), if_neg (by simp)]
  simp only [List.map_cons, List.map_nil, e]
  rfl
set_option maxRecDepth 100000 in
set_option maxHeartbeats 1600000 in
theorem g10_false (w : World) {Av : Nat → Prop} (hAv : AvOk Av w) (base bi : Nat) (hbase : base ≤ w.heap.size) (A : Option Addr) (c : Nat) (AG : Option Addr) (nG cG : Nat) (s s' : RS)  (v gl : Int) (AI : Option Addr) (nI kI : Nat) (IN : Value)  (hs' : s.gate 0 gl [] = (s', v)) (hn0 : 0 ≤ s.n) (hn1 : s.n ≤ 900000) 
    (hown : OwnRows w Av base (.slice A s.L.length c) s.L) (hL : s.L.length ≤ 900000) :
    Calls Try.prog 66 #[(.agg #[.int .i64 s.n, .slice A s.L.length c, .slice AG nG cG, .int .u64 (s.a.a.toNat : Int), .int .u64 (s.a.b.toNat : Int), .slice none 0 0, .bool s.closed]), .agg #[.int .i64 0, .int .i64 gl, .slice AI nI kI], IN] w fun e w' => (∃ A' c', e = .returned (.tuple #[(.agg #[.int .i64 s'.n, .slice A' s'.L.length c', .slice AG nG cG, .int .u64 (s'.a.a.toNat : Int), .int .u64 (s'.a.b.toNat : Int), .slice none 0 0, .bool s'.closed]), .int .i64 v]) ∧ OwnRows w' Av base (.slice A' s'.L.length c') s'.L) ∧ FrR base w w' := by
  have hv : v = s.var := by have := hs'; unfold RS.gate at this; simp at this; exact this.2.symm
  obtain ⟨s1, hs1⟩ : ∃ q_, q_ = s.fresh false := ⟨_, rfl⟩
  have hs2 : s' = s1.add [-v] := by have := hs'; unfold RS.gate at this; simp [RS.adds, kindRows, kindVal] at this; rw [hs1, hv]; simp [RS.add]; exact this.1.symm
  have l1 : s1.L.length ≤ 900001 := by rw [hs1]; simp [RS.fresh]; omega
  have hl1 : s1.L = s.L := by rw [hs1]; rfl
  clear hs'
  have v0 : -1000001 ≤ v := by have := hv; unfold RS.var at this; split at this <;> omega
  have v1 : v ≤ 1000001 := by have := hv; unfold RS.var at this; split at this <;> omega
  refine sx_enter (args := [.agg #[.int .i64 s.n, .slice A s.L.length c, .slice AG nG cG, .int .u64 (s.a.a.toNat : Int), .int .u64 (s.a.b.toNat : Int), .slice none 0 0, .bool s.closed], .agg #[.int .i64 0, .int .i64 gl, .slice AI nI kI], IN]) Try.func66 rfl rfl (by simp) ?_
  refine cw_seq (fun FK1 K1 => ?_)
  refine cw_region ?_
  refine wl_new (fun ρ e => ex_boxState (e _ _ rfl)) rfl rfl (fun g2 w3 jb4 jk5 jg6 js7 => ?_)
  refine wl_new (fun ρ e => ex_boxGate (e _ _ rfl)) rfl rfl (fun g8 w9 jb10 jk11 jg12 js13 => ?_)
  refine wl_new (fun ρ e => ex_allocState) rfl rfl (fun g14 w15 jb16 jk17 jg18 js19 => ?_)
  have hb : Below w.heap.size w w15 := ((jb4.trans (jb10.mono jb4.size)).trans (jb16.mono (Nat.le_trans jb4.size jb10.size)))
  have gs : GSt Av base w g2 g14 AG nG cG bi (.slice none 0 0) [] s A c w15 := GSt.start w _ hb ((jk5.keep jb10).keep jb16) jk17 hown (OwnInts.nil _ _)
  have hkg := jk11.keep jb16
  have hne : g2 ≠ g14 := by omega
  have h1 : w.heap.size ≤ g2 := by omega
  have h3 : w.heap.size ≤ g14 := by omega
  refine wl_val (v := .int .i64 0) (fun ρ e => ex_assign (e _ _ rfl)) rfl rfl ?_
  refine wl_nil ?_
  refine xw_next K1 ?_
  refine cw_seq (fun FK20 K20 => ?_)
  refine cw_region ?_
  refine wl_val (v := .int .i64 0) (fun ρ e => ex_assign (e _ _ rfl)) rfl rfl ?_
  refine wl_nil ?_
  refine xw_next K20 ?_
  refine cw_seq (fun FK21 K21 => ?_)
  refine cw_seq (fun FK22 K22 => ?_)
  refine cw_region ?_
  refine wl_val (v := .pointer (some ⟨g8, 0, none⟩)) (fun ρ e => ex_kind (g := g8) (o := 0) (e _ _ rfl)) rfl rfl ?_
  refine wl_val (v := .int .i64 0) (fun ρ e => ex_int (p := ⟨g8, 0, none⟩) (e _ _ rfl) (hkg.cell 0)) rfl rfl ?_
  refine wl_nil ?_
  refine xw_next K22 ?_
  refine cw_block ?_
  refine cw_seq (fun FK23 K23 => ?_)
  refine cw_region ?_
  refine wl_val (v := .bool false) (fun ρ e => ex_eql0 (u := 0) (v := 2) (e _ _ rfl) (e _ _ rfl) (by omega)) rfl rfl ?_
  refine wl_val (v := .bool false) (fun ρ e => ex_assign (e _ _ rfl)) rfl rfl ?_
  refine wl_nil ?_
  refine xw_next K23 ?_
  refine cw_false rfl ?_
  refine cw_seq (fun FK24 K24 => ?_)
  refine cw_region ?_
  refine wl_val (v := .bool true) (fun ρ e => ex_eql1 (u := 0) (v := 0) (e _ _ rfl) (e _ _ rfl) (by omega)) rfl rfl ?_
  refine wl_val (v := .bool true) (fun ρ e => ex_assign (e _ _ rfl)) rfl rfl ?_
  refine wl_nil ?_
  refine xw_next K24 ?_
  refine cw_true rfl ?_
  refine cw_seq (fun FK25 K25 => ?_)
  refine cw_region ?_
  refine wl_val (v := .agg #[.int .i64 s.n, .slice A s.L.length c, .slice AG nG cG, .int .u64 (s.a.a.toNat : Int), .int .u64 (s.a.b.toNat : Int), .slice none 0 0, .bool s.closed]) (fun ρ e => ex_state (g := g2) (e _ _ rfl) gs.1) rfl rfl ?_
  refine wl_call (args := [.agg #[.int .i64 s.n, .slice A s.L.length c, .slice AG nG cG, .int .u64 (s.a.a.toNat : Int), .int .u64 (s.a.b.toNat : Int), .slice none 0 0, .bool s.closed], .bool false]) in_fresh rfl rfl rfl ?_
  refine (ref10_fresh _ A c AG nG cG s s1 v false hs1 hv hn0 (by omega)).mono ?_
  rintro _ w26 ⟨rfl, hb5⟩
  replace gs := gs.below hb5
  replace hkg := hkg.keep hb5
  have gm := gs.freshmid (s' := s1) hl1
  refine ⟨_, rfl, ?_⟩
  refine wl_val (v := .tuple #[.agg #[.int .i64 s1.n, .slice A s1.L.length c, .slice AG nG cG, .int .u64 (s1.a.a.toNat : Int), .int .u64 (s1.a.b.toNat : Int), .slice none 0 0, .bool s1.closed], .int .i64 v]) (fun ρ e => ex_move (e _ _ rfl)) rfl rfl ?_
  refine wl_val (v := .agg #[.int .i64 s1.n, .slice A s1.L.length c, .slice AG nG cG, .int .u64 (s1.a.a.toNat : Int), .int .u64 (s1.a.b.toNat : Int), .slice none 0 0, .bool s1.closed]) (fun ρ e => ex_extract (vs := #[.agg #[.int .i64 s1.n, .slice A s1.L.length c, .slice AG nG cG, .int .u64 (s1.a.a.toNat : Int), .int .u64 (s1.a.b.toNat : Int), .slice none 0 0, .bool s1.closed], .int .i64 v]) (e _ _ rfl) rfl) rfl rfl ?_
  refine wl_val (v := .int .i64 v) (fun ρ e => ex_extract (vs := #[.agg #[.int .i64 s1.n, .slice A s1.L.length c, .slice AG nG cG, .int .u64 (s1.a.a.toNat : Int), .int .u64 (s1.a.b.toNat : Int), .slice none 0 0, .bool s1.closed], .int .i64 v]) (e _ _ rfl) rfl) rfl rfl ?_
  refine wl_none (fun ρ e => ex_storeState (A := A) (c := c) (s := s1) (AG := AG) (nG := nG) (cG := cG) (e _ _ rfl) (e _ _ rfl) gm.1) rfl ?_
  replace gs := gm.put hne.symm h1
  replace hkg := put7_far (g := g2) (AG := AG) (nG := nG) (cG := cG) (s := s1) (A := A) (c := c) hkg (by omega)
  clear gm
  refine wl_val (v := .int .i64 v) (fun ρ e => ex_assign (e _ _ rfl)) rfl rfl ?_
  refine wl_nil ?_
  refine xw_next K25 ?_
  refine cw_seq (fun FK27 K27 => ?_)
  refine cw_region ?_
  refine wl_val (v := .agg #[.int .i64 s1.n, .slice A s1.L.length c, .slice AG nG cG, .int .u64 (s1.a.a.toNat : Int), .int .u64 (s1.a.b.toNat : Int), .slice none 0 0, .bool s1.closed]) (fun ρ e => ex_state (g := g2) (e _ _ rfl) gs.1) rfl rfl ?_
  refine wl_val (v := .int .i64 v) (fun ρ e => ex_move (e _ _ rfl)) rfl rfl ?_
  refine wl_val (v := .int .i64 (-v)) (fun ρ e => ex_neg (e _ _ rfl) (wrap_in (by omega) (by omega))) rfl rfl ?_
  refine wl_newslice (fun ρ e => ex_build1 (v0 := (-v)) (e _ _ rfl)) rfl rfl (fun gn28 w33 jb29 jk30 jg31 js32 => ?_)
  have hsz := gs.2.2.2.2.size
  replace gs := gs.below jb29
  replace hkg := hkg.keep jb29
  refine wl_call (args := [.agg #[.int .i64 s1.n, .slice A s1.L.length c, .slice AG nG cG, .int .u64 (s1.a.a.toNat : Int), .int .u64 (s1.a.b.toNat : Int), .slice none 0 0, .bool s1.closed], .slice (some ⟨gn28, 0, none⟩) 1 1]) in_add rfl rfl rfl ?_
  refine (ref10_add_new hAv hbase hs2 (by have := gs.2.2.2.2.size; omega) gs jk30 rfl (by simp) (by omega)).mono ?_
  rintro _ w34 ⟨⟨A35, c36, rfl, o5⟩, fr5⟩
  have gm := gs.mid fr5 o5
  replace hkg := fr5.blk hkg (.inl (by decide))
  refine ⟨_, rfl, ?_⟩
  refine wl_val (v := .int .i64 v) (fun ρ e => ex_move (e _ _ rfl)) rfl rfl ?_
  refine wl_none (fun ρ e => ex_storeState (A := A35) (c := c36) (s := s') (AG := AG) (nG := nG) (cG := cG) (e _ _ rfl) (e _ _ rfl) gm.2.1) rfl ?_
  have ge := gm.fin h3
  refine wl_val (v := .int .i64 v) (fun ρ e => ex_assign (e _ _ rfl)) rfl rfl ?_
  refine wl_nil ?_
  refine xw_next K27 ?_
  refine cw_ret ?_
  refine xw_blockret ?_
  refine xw_past (by intro h; cases h) ?_
  refine xw_ret (v := .tuple #[.agg #[.int .i64 s'.n, .slice A35 s'.L.length c36, .slice AG nG cG, .int .u64 (s'.a.a.toNat : Int), .int .u64 (s'.a.b.toNat : Int), .slice none 0 0, .bool s'.closed], .int .i64 v]) (fun T hT => ?_) ⟨⟨A35, c36, rfl, ge.2.1⟩, ge.2.2⟩
  have t6 := hT 6 _ rfl
  have t7 := hT 7 _ rfl
  have r0 := ge.1.cell 0
  have r1 := ge.1.cell 1
  have r2 := ge.1.cell 2
  have r3 := ge.1.cell 3
  have r4 := ge.1.cell 4
  have r5 := ge.1.cell 5
  have r6 := ge.1.cell 6
  simp at r0 r1 r2 r3 r4 r5 r6
  simp [results, Try.results66, go_sem, t6, t7, r0, r1, r2, r3, r4, r5, r6]

set_option maxRecDepth 100000 in
set_option maxHeartbeats 1600000 in
theorem g10_true (w : World) {Av : Nat → Prop} (hAv : AvOk Av w) (base bi : Nat) (hbase : base ≤ w.heap.size) (A : Option Addr) (c : Nat) (AG : Option Addr) (nG cG : Nat) (s s' : RS)  (v gl : Int) (AI : Option Addr) (nI kI : Nat) (IN : Value)  (hs' : s.gate 1 gl [] = (s', v)) (hn0 : 0 ≤ s.n) (hn1 : s.n ≤ 900000) 
    (hown : OwnRows w Av base (.slice A s.L.length c) s.L) (hL : s.L.length ≤ 900000) :
    Calls Try.prog 66 #[(.agg #[.int .i64 s.n, .slice A s.L.length c, .slice AG nG cG, .int .u64 (s.a.a.toNat : Int), .int .u64 (s.a.b.toNat : Int), .slice none 0 0, .bool s.closed]), .agg #[.int .i64 1, .int .i64 gl, .slice AI nI kI], IN] w fun e w' => (∃ A' c', e = .returned (.tuple #[(.agg #[.int .i64 s'.n, .slice A' s'.L.length c', .slice AG nG cG, .int .u64 (s'.a.a.toNat : Int), .int .u64 (s'.a.b.toNat : Int), .slice none 0 0, .bool s'.closed]), .int .i64 v]) ∧ OwnRows w' Av base (.slice A' s'.L.length c') s'.L) ∧ FrR base w w' := by
  have hv : v = s.var := by have := hs'; unfold RS.gate at this; simp at this; exact this.2.symm
  obtain ⟨s1, hs1⟩ : ∃ q_, q_ = s.fresh true := ⟨_, rfl⟩
  have hs2 : s' = s1.add [v] := by have := hs'; unfold RS.gate at this; simp [RS.adds, kindRows, kindVal] at this; rw [hs1, hv]; simp [RS.add]; exact this.1.symm
  have l1 : s1.L.length ≤ 900001 := by rw [hs1]; simp [RS.fresh]; omega
  have hl1 : s1.L = s.L := by rw [hs1]; rfl
  clear hs'
  have v0 : -1000001 ≤ v := by have := hv; unfold RS.var at this; split at this <;> omega
  have v1 : v ≤ 1000001 := by have := hv; unfold RS.var at this; split at this <;> omega
  refine sx_enter (args := [.agg #[.int .i64 s.n, .slice A s.L.length c, .slice AG nG cG, .int .u64 (s.a.a.toNat : Int), .int .u64 (s.a.b.toNat : Int), .slice none 0 0, .bool s.closed], .agg #[.int .i64 1, .int .i64 gl, .slice AI nI kI], IN]) Try.func66 rfl rfl (by simp) ?_
  refine cw_seq (fun FK1 K1 => ?_)
  refine cw_region ?_
  refine wl_new (fun ρ e => ex_boxState (e _ _ rfl)) rfl rfl (fun g2 w3 jb4 jk5 jg6 js7 => ?_)
  refine wl_new (fun ρ e => ex_boxGate (e _ _ rfl)) rfl rfl (fun g8 w9 jb10 jk11 jg12 js13 => ?_)
  refine wl_new (fun ρ e => ex_allocState) rfl rfl (fun g14 w15 jb16 jk17 jg18 js19 => ?_)
  have hb : Below w.heap.size w w15 := ((jb4.trans (jb10.mono jb4.size)).trans (jb16.mono (Nat.le_trans jb4.size jb10.size)))
  have gs : GSt Av base w g2 g14 AG nG cG bi (.slice none 0 0) [] s A c w15 := GSt.start w _ hb ((jk5.keep jb10).keep jb16) jk17 hown (OwnInts.nil _ _)
  have hkg := jk11.keep jb16
  have hne : g2 ≠ g14 := by omega
  have h1 : w.heap.size ≤ g2 := by omega
  have h3 : w.heap.size ≤ g14 := by omega
  refine wl_val (v := .int .i64 0) (fun ρ e => ex_assign (e _ _ rfl)) rfl rfl ?_
  refine wl_nil ?_
  refine xw_next K1 ?_
  refine cw_seq (fun FK20 K20 => ?_)
  refine cw_region ?_
  refine wl_val (v := .int .i64 0) (fun ρ e => ex_assign (e _ _ rfl)) rfl rfl ?_
  refine wl_nil ?_
  refine xw_next K20 ?_
  refine cw_seq (fun FK21 K21 => ?_)
  refine cw_seq (fun FK22 K22 => ?_)
  refine cw_region ?_
  refine wl_val (v := .pointer (some ⟨g8, 0, none⟩)) (fun ρ e => ex_kind (g := g8) (o := 0) (e _ _ rfl)) rfl rfl ?_
  refine wl_val (v := .int .i64 1) (fun ρ e => ex_int (p := ⟨g8, 0, none⟩) (e _ _ rfl) (hkg.cell 0)) rfl rfl ?_
  refine wl_nil ?_
  refine xw_next K22 ?_
  refine cw_block ?_
  refine cw_seq (fun FK23 K23 => ?_)
  refine cw_region ?_
  refine wl_val (v := .bool false) (fun ρ e => ex_eql0 (u := 1) (v := 2) (e _ _ rfl) (e _ _ rfl) (by omega)) rfl rfl ?_
  refine wl_val (v := .bool false) (fun ρ e => ex_assign (e _ _ rfl)) rfl rfl ?_
  refine wl_nil ?_
  refine xw_next K23 ?_
  refine cw_false rfl ?_
  refine cw_seq (fun FK24 K24 => ?_)
  refine cw_region ?_
  refine wl_val (v := .bool false) (fun ρ e => ex_eql0 (u := 1) (v := 0) (e _ _ rfl) (e _ _ rfl) (by omega)) rfl rfl ?_
  refine wl_val (v := .bool false) (fun ρ e => ex_assign (e _ _ rfl)) rfl rfl ?_
  refine wl_nil ?_
  refine xw_next K24 ?_
  refine cw_false rfl ?_
  refine cw_seq (fun FK25 K25 => ?_)
  refine cw_region ?_
  refine wl_val (v := .bool true) (fun ρ e => ex_eql1 (u := 1) (v := 1) (e _ _ rfl) (e _ _ rfl) (by omega)) rfl rfl ?_
  refine wl_val (v := .bool true) (fun ρ e => ex_assign (e _ _ rfl)) rfl rfl ?_
  refine wl_nil ?_
  refine xw_next K25 ?_
  refine cw_true rfl ?_
  refine cw_seq (fun FK26 K26 => ?_)
  refine cw_region ?_
  refine wl_val (v := .agg #[.int .i64 s.n, .slice A s.L.length c, .slice AG nG cG, .int .u64 (s.a.a.toNat : Int), .int .u64 (s.a.b.toNat : Int), .slice none 0 0, .bool s.closed]) (fun ρ e => ex_state (g := g2) (e _ _ rfl) gs.1) rfl rfl ?_
  refine wl_call (args := [.agg #[.int .i64 s.n, .slice A s.L.length c, .slice AG nG cG, .int .u64 (s.a.a.toNat : Int), .int .u64 (s.a.b.toNat : Int), .slice none 0 0, .bool s.closed], .bool true]) in_fresh rfl rfl rfl ?_
  refine (ref10_fresh _ A c AG nG cG s s1 v true hs1 hv hn0 (by omega)).mono ?_
  rintro _ w27 ⟨rfl, hb5⟩
  replace gs := gs.below hb5
  replace hkg := hkg.keep hb5
  have gm := gs.freshmid (s' := s1) hl1
  refine ⟨_, rfl, ?_⟩
  refine wl_val (v := .tuple #[.agg #[.int .i64 s1.n, .slice A s1.L.length c, .slice AG nG cG, .int .u64 (s1.a.a.toNat : Int), .int .u64 (s1.a.b.toNat : Int), .slice none 0 0, .bool s1.closed], .int .i64 v]) (fun ρ e => ex_move (e _ _ rfl)) rfl rfl ?_
  refine wl_val (v := .agg #[.int .i64 s1.n, .slice A s1.L.length c, .slice AG nG cG, .int .u64 (s1.a.a.toNat : Int), .int .u64 (s1.a.b.toNat : Int), .slice none 0 0, .bool s1.closed]) (fun ρ e => ex_extract (vs := #[.agg #[.int .i64 s1.n, .slice A s1.L.length c, .slice AG nG cG, .int .u64 (s1.a.a.toNat : Int), .int .u64 (s1.a.b.toNat : Int), .slice none 0 0, .bool s1.closed], .int .i64 v]) (e _ _ rfl) rfl) rfl rfl ?_
  refine wl_val (v := .int .i64 v) (fun ρ e => ex_extract (vs := #[.agg #[.int .i64 s1.n, .slice A s1.L.length c, .slice AG nG cG, .int .u64 (s1.a.a.toNat : Int), .int .u64 (s1.a.b.toNat : Int), .slice none 0 0, .bool s1.closed], .int .i64 v]) (e _ _ rfl) rfl) rfl rfl ?_
  refine wl_none (fun ρ e => ex_storeState (A := A) (c := c) (s := s1) (AG := AG) (nG := nG) (cG := cG) (e _ _ rfl) (e _ _ rfl) gm.1) rfl ?_
  replace gs := gm.put hne.symm h1
  replace hkg := put7_far (g := g2) (AG := AG) (nG := nG) (cG := cG) (s := s1) (A := A) (c := c) hkg (by omega)
  clear gm
  refine wl_val (v := .int .i64 v) (fun ρ e => ex_assign (e _ _ rfl)) rfl rfl ?_
  refine wl_nil ?_
  refine xw_next K26 ?_
  refine cw_seq (fun FK28 K28 => ?_)
  refine cw_region ?_
  refine wl_val (v := .agg #[.int .i64 s1.n, .slice A s1.L.length c, .slice AG nG cG, .int .u64 (s1.a.a.toNat : Int), .int .u64 (s1.a.b.toNat : Int), .slice none 0 0, .bool s1.closed]) (fun ρ e => ex_state (g := g2) (e _ _ rfl) gs.1) rfl rfl ?_
  refine wl_val (v := .int .i64 v) (fun ρ e => ex_move (e _ _ rfl)) rfl rfl ?_
  refine wl_newslice (fun ρ e => ex_build1 (v0 := v) (e _ _ rfl)) rfl rfl (fun gn29 w34 jb30 jk31 jg32 js33 => ?_)
  have hsz := gs.2.2.2.2.size
  replace gs := gs.below jb30
  replace hkg := hkg.keep jb30
  refine wl_call (args := [.agg #[.int .i64 s1.n, .slice A s1.L.length c, .slice AG nG cG, .int .u64 (s1.a.a.toNat : Int), .int .u64 (s1.a.b.toNat : Int), .slice none 0 0, .bool s1.closed], .slice (some ⟨gn29, 0, none⟩) 1 1]) in_add rfl rfl rfl ?_
  refine (ref10_add_new hAv hbase hs2 (by have := gs.2.2.2.2.size; omega) gs jk31 rfl (by simp) (by omega)).mono ?_
  rintro _ w35 ⟨⟨A36, c37, rfl, o5⟩, fr5⟩
  have gm := gs.mid fr5 o5
  replace hkg := fr5.blk hkg (.inl (by decide))
  refine ⟨_, rfl, ?_⟩
  refine wl_val (v := .int .i64 v) (fun ρ e => ex_move (e _ _ rfl)) rfl rfl ?_
  refine wl_none (fun ρ e => ex_storeState (A := A36) (c := c37) (s := s') (AG := AG) (nG := nG) (cG := cG) (e _ _ rfl) (e _ _ rfl) gm.2.1) rfl ?_
  have ge := gm.fin h3
  refine wl_val (v := .int .i64 v) (fun ρ e => ex_assign (e _ _ rfl)) rfl rfl ?_
  refine wl_nil ?_
  refine xw_next K28 ?_
  refine cw_ret ?_
  refine xw_blockret ?_
  refine xw_past (by intro h; cases h) ?_
  refine xw_ret (v := .tuple #[.agg #[.int .i64 s'.n, .slice A36 s'.L.length c37, .slice AG nG cG, .int .u64 (s'.a.a.toNat : Int), .int .u64 (s'.a.b.toNat : Int), .slice none 0 0, .bool s'.closed], .int .i64 v]) (fun T hT => ?_) ⟨⟨A36, c37, rfl, ge.2.1⟩, ge.2.2⟩
  have t6 := hT 6 _ rfl
  have t7 := hT 7 _ rfl
  have r0 := ge.1.cell 0
  have r1 := ge.1.cell 1
  have r2 := ge.1.cell 2
  have r3 := ge.1.cell 3
  have r4 := ge.1.cell 4
  have r5 := ge.1.cell 5
  have r6 := ge.1.cell 6
  simp at r0 r1 r2 r3 r4 r5 r6
  simp [results, Try.results66, go_sem, t6, t7, r0, r1, r2, r3, r4, r5, r6]

set_option maxRecDepth 100000 in
set_option maxHeartbeats 1600000 in
theorem g10_not (w : World) {Av : Nat → Prop} (hAv : AvOk Av w) (base bi : Nat) (hbase : base ≤ w.heap.size) (A : Option Addr) (c : Nat) (AG : Option Addr) (nG cG : Nat) (s s' : RS) (x : Int) (v gl : Int) (AI : Option Addr) (nI kI : Nat) (gi cI : Nat) (hin : OwnInts w bi (.slice (some ⟨gi, 0, none⟩) 1 cI) [x])  (hs' : s.gate 3 gl [x] = (s', v)) (hn0 : 0 ≤ s.n) (hn1 : s.n ≤ 900000) (x0 : -1000000 ≤ x) (x1 : x ≤ 1000000)
    (hown : OwnRows w Av base (.slice A s.L.length c) s.L) (hL : s.L.length ≤ 900000) :
    Calls Try.prog 66 #[(.agg #[.int .i64 s.n, .slice A s.L.length c, .slice AG nG cG, .int .u64 (s.a.a.toNat : Int), .int .u64 (s.a.b.toNat : Int), .slice none 0 0, .bool s.closed]), .agg #[.int .i64 3, .int .i64 gl, .slice AI nI kI], .slice (some ⟨gi, 0, none⟩) 1 cI] w fun e w' => (∃ A' c', e = .returned (.tuple #[(.agg #[.int .i64 s'.n, .slice A' s'.L.length c', .slice AG nG cG, .int .u64 (s'.a.a.toNat : Int), .int .u64 (s'.a.b.toNat : Int), .slice none 0 0, .bool s'.closed]), .int .i64 v]) ∧ OwnRows w' Av base (.slice A' s'.L.length c') s'.L) ∧ FrR base w w' := by
  have hv : v = s.var := by have := hs'; rw [RS.gate_not] at this; simp only [Prod.mk.injEq] at this; exact this.2.symm
  obtain ⟨s1, hs1⟩ : ∃ q_, q_ = s.fresh (!holdsL s.a x) := ⟨_, rfl⟩
  obtain ⟨s2, hs2⟩ : ∃ q_, q_ = s1.add [-v, -x] := ⟨_, rfl⟩
  have hs3 : s' = s2.add [v, x] := by rw [RS.gate_not] at hs'; simp only [Prod.mk.injEq] at hs'; rw [← hs'.1, hs2, hs1, hv]; simp [RS.adds, RS.add]
  have l1 : s1.L.length ≤ 900001 := by rw [hs1]; simp [RS.fresh]; omega
  have l2 : s2.L.length ≤ 900002 := by rw [hs2]; simp [RS.add]; omega
  have hl1 : s1.L = s.L := by rw [hs1]; rfl
  clear hs'
  have v0 : -1000001 ≤ v := by have := hv; unfold RS.var at this; split at this <;> omega
  have v1 : v ≤ 1000001 := by have := hv; unfold RS.var at this; split at this <;> omega
  have kh0 : ∀ W, Calls Try.prog 81 #[(.agg #[.int .i64 s.n, .slice A s.L.length c, .slice AG nG cG, .int .u64 (s.a.a.toNat : Int), .int .u64 (s.a.b.toNat : Int), .slice none 0 0, .bool s.closed]), .int .i64 x] W fun e w' => e = .returned (.bool (holdsL s.a x)) ∧ Below W.heap.size W w' := fun W => ref10_holds W A c AG nG cG s x x0 x1
  generalize holdsL s.a x = b0 at *
  refine sx_enter (args := [.agg #[.int .i64 s.n, .slice A s.L.length c, .slice AG nG cG, .int .u64 (s.a.a.toNat : Int), .int .u64 (s.a.b.toNat : Int), .slice none 0 0, .bool s.closed], .agg #[.int .i64 3, .int .i64 gl, .slice AI nI kI], .slice (some ⟨gi, 0, none⟩) 1 cI]) Try.func66 rfl rfl (by simp) ?_
  refine cw_seq (fun FK1 K1 => ?_)
  refine cw_region ?_
  refine wl_new (fun ρ e => ex_boxState (e _ _ rfl)) rfl rfl (fun g2 w3 jb4 jk5 jg6 js7 => ?_)
  refine wl_new (fun ρ e => ex_boxGate (e _ _ rfl)) rfl rfl (fun g8 w9 jb10 jk11 jg12 js13 => ?_)
  refine wl_new (fun ρ e => ex_allocState) rfl rfl (fun g14 w15 jb16 jk17 jg18 js19 => ?_)
  have hb : Below w.heap.size w w15 := ((jb4.trans (jb10.mono jb4.size)).trans (jb16.mono (Nat.le_trans jb4.size jb10.size)))
  have gs : GSt Av base w g2 g14 AG nG cG bi (.slice (some ⟨gi, 0, none⟩) 1 cI) [x] s A c w15 := GSt.start w _ hb ((jk5.keep jb10).keep jb16) jk17 hown hin
  have hkg := jk11.keep jb16
  have hne : g2 ≠ g14 := by omega
  have h1 : w.heap.size ≤ g2 := by omega
  have h3 : w.heap.size ≤ g14 := by omega
  refine wl_val (v := .int .i64 0) (fun ρ e => ex_assign (e _ _ rfl)) rfl rfl ?_
  refine wl_nil ?_
  refine xw_next K1 ?_
  refine cw_seq (fun FK20 K20 => ?_)
  refine cw_region ?_
  refine wl_val (v := .int .i64 0) (fun ρ e => ex_assign (e _ _ rfl)) rfl rfl ?_
  refine wl_nil ?_
  refine xw_next K20 ?_
  refine cw_seq (fun FK21 K21 => ?_)
  refine cw_seq (fun FK22 K22 => ?_)
  refine cw_region ?_
  refine wl_val (v := .pointer (some ⟨g8, 0, none⟩)) (fun ρ e => ex_kind (g := g8) (o := 0) (e _ _ rfl)) rfl rfl ?_
  refine wl_val (v := .int .i64 3) (fun ρ e => ex_int (p := ⟨g8, 0, none⟩) (e _ _ rfl) (hkg.cell 0)) rfl rfl ?_
  refine wl_nil ?_
  refine xw_next K22 ?_
  refine cw_block ?_
  refine cw_seq (fun FK23 K23 => ?_)
  refine cw_region ?_
  refine wl_val (v := .bool false) (fun ρ e => ex_eql0 (u := 3) (v := 2) (e _ _ rfl) (e _ _ rfl) (by omega)) rfl rfl ?_
  refine wl_val (v := .bool false) (fun ρ e => ex_assign (e _ _ rfl)) rfl rfl ?_
  refine wl_nil ?_
  refine xw_next K23 ?_
  refine cw_false rfl ?_
  refine cw_seq (fun FK24 K24 => ?_)
  refine cw_region ?_
  refine wl_val (v := .bool false) (fun ρ e => ex_eql0 (u := 3) (v := 0) (e _ _ rfl) (e _ _ rfl) (by omega)) rfl rfl ?_
  refine wl_val (v := .bool false) (fun ρ e => ex_assign (e _ _ rfl)) rfl rfl ?_
  refine wl_nil ?_
  refine xw_next K24 ?_
  refine cw_false rfl ?_
  refine cw_seq (fun FK25 K25 => ?_)
  refine cw_region ?_
  refine wl_val (v := .bool false) (fun ρ e => ex_eql0 (u := 3) (v := 1) (e _ _ rfl) (e _ _ rfl) (by omega)) rfl rfl ?_
  refine wl_val (v := .bool false) (fun ρ e => ex_assign (e _ _ rfl)) rfl rfl ?_
  refine wl_nil ?_
  refine xw_next K25 ?_
  refine cw_false rfl ?_
  refine cw_seq (fun FK26 K26 => ?_)
  refine cw_region ?_
  refine wl_val (v := .bool true) (fun ρ e => ex_eql1 (u := 3) (v := 3) (e _ _ rfl) (e _ _ rfl) (by omega)) rfl rfl ?_
  refine wl_val (v := .bool true) (fun ρ e => ex_assign (e _ _ rfl)) rfl rfl ?_
  refine wl_nil ?_
  refine xw_next K26 ?_
  refine cw_true rfl ?_
  refine cw_seq (fun FK27 K27 => ?_)
  refine cw_drawn (fun W => Blk W g2 63 #[.int .i64 s.n, .slice A s.L.length c, .slice AG nG cG, .int .u64 (s.a.a.toNat : Int), .int .u64 (s.a.b.toNat : Int), .slice none 0 0, .bool s.closed] ∧ OwnInts W bi (.slice (some ⟨gi, 0, none⟩) 1 cI) [x] ∧ Blk W g8 44 #[.int .i64 3, .int .i64 gl, .slice AI nI kI]) 11 [(0, 0), (1, 0), (2, 1), (3, 1), (4, 0), (5, 2), (6, 1), (7, 2), (8, 1), (9, 1), (10, 1), (11, 3), (12, 3)] (by kernel_rfl) (by kernel_rfl) (PQ.then_ (PQ.block (PQ.then_ PQ.body))) (⟨gs.drew.1, gs.drew.2.2.2.1, hkg.drew⟩) ?_
  replace gs := gs.drew
  replace hkg := hkg.drew
  refine wt0 (v := .agg #[.int .i64 s.n, .slice A s.L.length c, .slice AG nG cG, .int .u64 (s.a.a.toNat : Int), .int .u64 (s.a.b.toNat : Int), .slice none 0 0, .bool s.closed]) rfl (fun ρ e W hW => ex_state (g := g2) (e _ _ rfl) hW.1) rfl rfl ?_
  refine wt0 (v := .agg #[.int .i64 s.n, .slice A s.L.length c, .slice AG nG cG, .int .u64 (s.a.a.toNat : Int), .int .u64 (s.a.b.toNat : Int), .slice none 0 0, .bool s.closed]) rfl (fun ρ e W hW => ex_state (g := g2) (e _ _ rfl) hW.1) rfl rfl ?_
  refine wt1 (v := .slice (some ⟨gi, 0, none⟩) 1 cI) rfl (fun ρ e W => ex_move (e _ _ rfl)) rfl rfl ?_
  refine wt1 (v := .pointer (some ⟨gi, 0, none⟩)) rfl (fun ρ e W => ex_index0 (g := gi) (n := 1) (c := cI) (i := 0) (e _ _ rfl) (e _ _ rfl) (by omega)) rfl rfl ?_
  refine wt0 (v := .int .i64 x) rfl (fun ρ e W hW => ex_int (p := ⟨gi, 0, none⟩) (e _ _ rfl) (ints_cell hW.2.1 _ _ rfl)) rfl rfl ?_
  refine wt2_call (args := [.agg #[.int .i64 s.n, .slice A s.L.length c, .slice AG nG cG, .int .u64 (s.a.a.toNat : Int), .int .u64 (s.a.b.toNat : Int), .slice none 0 0, .bool s.closed], .int .i64 x]) rfl in_holds rfl rfl rfl ?_
  refine (kh0 _).mono ?_
  rintro _ w28 ⟨rfl, hb5⟩
  replace gs := gs.below hb5
  replace hkg := hkg.keep hb5
  refine ⟨_, rfl, ⟨gs.1, gs.2.2.2.1, hkg⟩, ?_⟩
  refine wt1 (v := .bool (!b0)) rfl (fun ρ e W => ex_not (b := b0) (e _ _ rfl)) rfl rfl ?_
  refine wt2_call (args := [.agg #[.int .i64 s.n, .slice A s.L.length c, .slice AG nG cG, .int .u64 (s.a.a.toNat : Int), .int .u64 (s.a.b.toNat : Int), .slice none 0 0, .bool s.closed], .bool (!b0)]) rfl in_fresh rfl rfl rfl ?_
  refine (ref10_fresh _ A c AG nG cG s s1 v (!b0) hs1 hv hn0 (by omega)).mono ?_
  rintro _ w29 ⟨rfl, hb5⟩
  replace gs := gs.below hb5
  replace hkg := hkg.keep hb5
  have gm := gs.freshmid (s' := s1) hl1
  refine ⟨_, rfl, ⟨gs.1, gs.2.2.2.1, hkg⟩, ?_⟩
  refine wt1 (v := .tuple #[.agg #[.int .i64 s1.n, .slice A s1.L.length c, .slice AG nG cG, .int .u64 (s1.a.a.toNat : Int), .int .u64 (s1.a.b.toNat : Int), .slice none 0 0, .bool s1.closed], .int .i64 v]) rfl (fun ρ e W => ex_move (e _ _ rfl)) rfl rfl ?_
  refine wt1 (v := .agg #[.int .i64 s1.n, .slice A s1.L.length c, .slice AG nG cG, .int .u64 (s1.a.a.toNat : Int), .int .u64 (s1.a.b.toNat : Int), .slice none 0 0, .bool s1.closed]) rfl (fun ρ e W => ex_extract (vs := #[.agg #[.int .i64 s1.n, .slice A s1.L.length c, .slice AG nG cG, .int .u64 (s1.a.a.toNat : Int), .int .u64 (s1.a.b.toNat : Int), .slice none 0 0, .bool s1.closed], .int .i64 v]) (e _ _ rfl) rfl) rfl rfl ?_
  refine wt1 (v := .int .i64 v) rfl (fun ρ e W => ex_extract (vs := #[.agg #[.int .i64 s1.n, .slice A s1.L.length c, .slice AG nG cG, .int .u64 (s1.a.a.toNat : Int), .int .u64 (s1.a.b.toNat : Int), .slice none 0 0, .bool s1.closed], .int .i64 v]) (e _ _ rfl) rfl) rfl rfl ?_
  refine wt3_none rfl (fun ρ e => ex_storeState (A := A) (c := c) (s := s1) (AG := AG) (nG := nG) (cG := cG) (e _ _ rfl) (e _ _ rfl) gm.1) rfl ?_
  replace gs := gm.put hne.symm h1
  replace hkg := put7_far (g := g2) (AG := AG) (nG := nG) (cG := cG) (s := s1) (A := A) (c := c) hkg (by omega)
  clear gm
  refine wt3 (v := .int .i64 v) rfl (fun ρ e => ex_assign (e _ _ rfl)) rfl rfl ?_
  refine wt_nil ?_
  refine xw_next K27 ?_
  refine cw_seq (fun FK30 K30 => ?_)
  refine cw_drawn (fun W => Blk W g2 63 #[.int .i64 s1.n, .slice A s1.L.length c, .slice AG nG cG, .int .u64 (s1.a.a.toNat : Int), .int .u64 (s1.a.b.toNat : Int), .slice none 0 0, .bool s1.closed] ∧ OwnInts W bi (.slice (some ⟨gi, 0, none⟩) 1 cI) [x] ∧ Blk W g8 44 #[.int .i64 3, .int .i64 gl, .slice AI nI kI]) 9 [(0, 0), (1, 1), (2, 1), (3, 1), (4, 1), (5, 0), (6, 1), (7, 2), (8, 2), (9, 3)] (by kernel_rfl) (by kernel_rfl) (PQ.then_ (PQ.block (PQ.then_ PQ.body))) (⟨gs.drew.1, gs.drew.2.2.2.1, hkg.drew⟩) ?_
  replace gs := gs.drew
  replace hkg := hkg.drew
  refine wt0 (v := .agg #[.int .i64 s1.n, .slice A s1.L.length c, .slice AG nG cG, .int .u64 (s1.a.a.toNat : Int), .int .u64 (s1.a.b.toNat : Int), .slice none 0 0, .bool s1.closed]) rfl (fun ρ e W hW => ex_state (g := g2) (e _ _ rfl) hW.1) rfl rfl ?_
  refine wt1 (v := .int .i64 v) rfl (fun ρ e W => ex_move (e _ _ rfl)) rfl rfl ?_
  refine wt1 (v := .int .i64 (-v)) rfl (fun ρ e W => ex_neg (e _ _ rfl) (wrap_in (by omega) (by omega))) rfl rfl ?_
  refine wt1 (v := .slice (some ⟨gi, 0, none⟩) 1 cI) rfl (fun ρ e W => ex_move (e _ _ rfl)) rfl rfl ?_
  refine wt1 (v := .pointer (some ⟨gi, 0, none⟩)) rfl (fun ρ e W => ex_index0 (g := gi) (n := 1) (c := cI) (i := 0) (e _ _ rfl) (e _ _ rfl) (by omega)) rfl rfl ?_
  refine wt0 (v := .int .i64 x) rfl (fun ρ e W hW => ex_int (p := ⟨gi, 0, none⟩) (e _ _ rfl) (ints_cell hW.2.1 _ _ rfl)) rfl rfl ?_
  refine wt1 (v := .int .i64 (-x)) rfl (fun ρ e W => ex_neg (e _ _ rfl) (wrap_in (by omega) (by omega))) rfl rfl ?_
  refine wt2_newslice rfl (fun ρ e => ex_build2 (v0 := (-v)) (v1 := (-x)) (e _ _ rfl) (e _ _ rfl)) rfl rfl (fun gn31 w36 jb32 jk33 jg34 js35 => ?_)
  have hsz := gs.2.2.2.2.size
  replace gs := gs.below jb32
  replace hkg := hkg.keep jb32
  refine ⟨⟨gs.1, gs.2.2.2.1, hkg⟩, ?_⟩
  refine wt2_call (args := [.agg #[.int .i64 s1.n, .slice A s1.L.length c, .slice AG nG cG, .int .u64 (s1.a.a.toNat : Int), .int .u64 (s1.a.b.toNat : Int), .slice none 0 0, .bool s1.closed], .slice (some ⟨gn31, 0, none⟩) 2 2]) rfl in_add rfl rfl rfl ?_
  refine (ref10_add_new hAv hbase hs2 (by have := gs.2.2.2.2.size; omega) gs jk33 rfl (by simp) (by omega)).mono ?_
  rintro _ w37 ⟨⟨A38, c39, rfl, o5⟩, fr5⟩
  have gm := gs.mid fr5 o5
  replace hkg := fr5.blk hkg (.inl (by decide))
  refine ⟨_, rfl, ⟨gm.1, gm.2.2.2.1, hkg⟩, ?_⟩
  refine wt3_none rfl (fun ρ e => ex_storeState (A := A38) (c := c39) (s := s2) (AG := AG) (nG := nG) (cG := cG) (e _ _ rfl) (e _ _ rfl) gm.1) rfl ?_
  replace gs := gm.put hne.symm h1
  replace hkg := put7_far (g := g2) (AG := AG) (nG := nG) (cG := cG) (s := s2) (A := A38) (c := c39) hkg (by omega)
  clear gm
  refine wt_nil ?_
  refine xw_next K30 ?_
  refine cw_seq (fun FK40 K40 => ?_)
  refine cw_drawn (fun W => Blk W g2 63 #[.int .i64 s2.n, .slice A38 s2.L.length c39, .slice AG nG cG, .int .u64 (s2.a.a.toNat : Int), .int .u64 (s2.a.b.toNat : Int), .slice none 0 0, .bool s2.closed] ∧ OwnInts W bi (.slice (some ⟨gi, 0, none⟩) 1 cI) [x] ∧ Blk W g8 44 #[.int .i64 3, .int .i64 gl, .slice AI nI kI]) 8 [(0, 0), (1, 1), (2, 1), (3, 1), (4, 0), (7, 1), (5, 2), (6, 2), (8, 3), (9, 3)] (by kernel_rfl) (by kernel_rfl) (PQ.then_ (PQ.block (PQ.then_ PQ.body))) (⟨gs.drew.1, gs.drew.2.2.2.1, hkg.drew⟩) ?_
  replace gs := gs.drew
  replace hkg := hkg.drew
  refine wt0 (v := .agg #[.int .i64 s2.n, .slice A38 s2.L.length c39, .slice AG nG cG, .int .u64 (s2.a.a.toNat : Int), .int .u64 (s2.a.b.toNat : Int), .slice none 0 0, .bool s2.closed]) rfl (fun ρ e W hW => ex_state (g := g2) (e _ _ rfl) hW.1) rfl rfl ?_
  refine wt1 (v := .int .i64 v) rfl (fun ρ e W => ex_move (e _ _ rfl)) rfl rfl ?_
  refine wt1 (v := .slice (some ⟨gi, 0, none⟩) 1 cI) rfl (fun ρ e W => ex_move (e _ _ rfl)) rfl rfl ?_
  refine wt1 (v := .pointer (some ⟨gi, 0, none⟩)) rfl (fun ρ e W => ex_index0 (g := gi) (n := 1) (c := cI) (i := 0) (e _ _ rfl) (e _ _ rfl) (by omega)) rfl rfl ?_
  refine wt0 (v := .int .i64 x) rfl (fun ρ e W hW => ex_int (p := ⟨gi, 0, none⟩) (e _ _ rfl) (ints_cell hW.2.1 _ _ rfl)) rfl rfl ?_
  refine wt1 (v := .int .i64 v) rfl (fun ρ e W => ex_move (e _ _ rfl)) rfl rfl ?_
  refine wt2_newslice rfl (fun ρ e => ex_build2 (v0 := v) (v1 := x) (e _ _ rfl) (e _ _ rfl)) rfl rfl (fun gn41 w46 jb42 jk43 jg44 js45 => ?_)
  have hsz := gs.2.2.2.2.size
  replace gs := gs.below jb42
  replace hkg := hkg.keep jb42
  refine ⟨⟨gs.1, gs.2.2.2.1, hkg⟩, ?_⟩
  refine wt2_call (args := [.agg #[.int .i64 s2.n, .slice A38 s2.L.length c39, .slice AG nG cG, .int .u64 (s2.a.a.toNat : Int), .int .u64 (s2.a.b.toNat : Int), .slice none 0 0, .bool s2.closed], .slice (some ⟨gn41, 0, none⟩) 2 2]) rfl in_add rfl rfl rfl ?_
  refine (ref10_add_new hAv hbase hs3 (by have := gs.2.2.2.2.size; omega) gs jk43 rfl (by simp) (by omega)).mono ?_
  rintro _ w47 ⟨⟨A48, c49, rfl, o5⟩, fr5⟩
  have gm := gs.mid fr5 o5
  replace hkg := fr5.blk hkg (.inl (by decide))
  refine ⟨_, rfl, ⟨gm.1, gm.2.2.2.1, hkg⟩, ?_⟩
  refine wt3_none rfl (fun ρ e => ex_storeState (A := A48) (c := c49) (s := s') (AG := AG) (nG := nG) (cG := cG) (e _ _ rfl) (e _ _ rfl) gm.2.1) rfl ?_
  have ge := gm.fin h3
  refine wt3 (v := .int .i64 v) rfl (fun ρ e => ex_assign (e _ _ rfl)) rfl rfl ?_
  refine wt_nil ?_
  refine xw_next K40 ?_
  refine cw_ret ?_
  refine xw_blockret ?_
  refine xw_past (by intro h; cases h) ?_
  refine xw_ret (v := .tuple #[.agg #[.int .i64 s'.n, .slice A48 s'.L.length c49, .slice AG nG cG, .int .u64 (s'.a.a.toNat : Int), .int .u64 (s'.a.b.toNat : Int), .slice none 0 0, .bool s'.closed], .int .i64 v]) (fun T hT => ?_) ⟨⟨A48, c49, rfl, ge.2.1⟩, ge.2.2⟩
  have t6 := hT 6 _ rfl
  have t7 := hT 7 _ rfl
  have r0 := ge.1.cell 0
  have r1 := ge.1.cell 1
  have r2 := ge.1.cell 2
  have r3 := ge.1.cell 3
  have r4 := ge.1.cell 4
  have r5 := ge.1.cell 5
  have r6 := ge.1.cell 6
  simp at r0 r1 r2 r3 r4 r5 r6
  simp [results, Try.results66, go_sem, t6, t7, r0, r1, r2, r3, r4, r5, r6]

set_option maxRecDepth 100000 in
set_option maxHeartbeats 1600000 in
theorem g10_iff (w : World) {Av : Nat → Prop} (hAv : AvOk Av w) (base bi : Nat) (hbase : base ≤ w.heap.size) (A : Option Addr) (c : Nat) (AG : Option Addr) (nG cG : Nat) (s s' : RS) (x y : Int) (v gl : Int) (AI : Option Addr) (nI kI : Nat) (gi cI : Nat) (hin : OwnInts w bi (.slice (some ⟨gi, 0, none⟩) 2 cI) [x, y])  (hs' : s.gate 7 gl [x, y] = (s', v)) (hn0 : 0 ≤ s.n) (hn1 : s.n ≤ 900000) (x0 : -1000000 ≤ x) (x1 : x ≤ 1000000) (y0 : -1000000 ≤ y) (y1 : y ≤ 1000000)
    (hown : OwnRows w Av base (.slice A s.L.length c) s.L) (hL : s.L.length ≤ 900000) :
    Calls Try.prog 66 #[(.agg #[.int .i64 s.n, .slice A s.L.length c, .slice AG nG cG, .int .u64 (s.a.a.toNat : Int), .int .u64 (s.a.b.toNat : Int), .slice none 0 0, .bool s.closed]), .agg #[.int .i64 7, .int .i64 gl, .slice AI nI kI], .slice (some ⟨gi, 0, none⟩) 2 cI] w fun e w' => (∃ A' c', e = .returned (.tuple #[(.agg #[.int .i64 s'.n, .slice A' s'.L.length c', .slice AG nG cG, .int .u64 (s'.a.a.toNat : Int), .int .u64 (s'.a.b.toNat : Int), .slice none 0 0, .bool s'.closed]), .int .i64 v]) ∧ OwnRows w' Av base (.slice A' s'.L.length c') s'.L) ∧ FrR base w w' := by
  have hv : v = s.var := by have := hs'; rw [RS.gate_iff] at this; simp only [Prod.mk.injEq] at this; exact this.2.symm
  obtain ⟨s1, hs1⟩ : ∃ q_, q_ = s.fresh (holdsL s.a x == holdsL s.a y) := ⟨_, rfl⟩
  obtain ⟨s2, hs2⟩ : ∃ q_, q_ = s1.add [-v, -x, y] := ⟨_, rfl⟩
  obtain ⟨s3, hs3⟩ : ∃ q_, q_ = s2.add [-v, x, -y] := ⟨_, rfl⟩
  obtain ⟨s4, hs4⟩ : ∃ q_, q_ = s3.add [v, x, y] := ⟨_, rfl⟩
  have hs5 : s' = s4.add [v, -x, -y] := by rw [RS.gate_iff] at hs'; simp only [Prod.mk.injEq] at hs'; rw [← hs'.1, hs4, hs3, hs2, hs1, hv]; simp [RS.adds, RS.add]
  have l1 : s1.L.length ≤ 900001 := by rw [hs1]; simp [RS.fresh]; omega
  have l2 : s2.L.length ≤ 900002 := by rw [hs2]; simp [RS.add]; omega
  have l3 : s3.L.length ≤ 900003 := by rw [hs3]; simp [RS.add]; omega
  have l4 : s4.L.length ≤ 900004 := by rw [hs4]; simp [RS.add]; omega
  have hl1 : s1.L = s.L := by rw [hs1]; rfl
  clear hs'
  have v0 : -1000001 ≤ v := by have := hv; unfold RS.var at this; split at this <;> omega
  have v1 : v ≤ 1000001 := by have := hv; unfold RS.var at this; split at this <;> omega
  have kh0 : ∀ W, Calls Try.prog 81 #[(.agg #[.int .i64 s.n, .slice A s.L.length c, .slice AG nG cG, .int .u64 (s.a.a.toNat : Int), .int .u64 (s.a.b.toNat : Int), .slice none 0 0, .bool s.closed]), .int .i64 x] W fun e w' => e = .returned (.bool (holdsL s.a x)) ∧ Below W.heap.size W w' := fun W => ref10_holds W A c AG nG cG s x x0 x1
  have kh1 : ∀ W, Calls Try.prog 81 #[(.agg #[.int .i64 s.n, .slice A s.L.length c, .slice AG nG cG, .int .u64 (s.a.a.toNat : Int), .int .u64 (s.a.b.toNat : Int), .slice none 0 0, .bool s.closed]), .int .i64 y] W fun e w' => e = .returned (.bool (holdsL s.a y)) ∧ Below W.heap.size W w' := fun W => ref10_holds W A c AG nG cG s y y0 y1
  generalize holdsL s.a x = b0 at *
  generalize holdsL s.a y = b1 at *
  refine sx_enter (args := [.agg #[.int .i64 s.n, .slice A s.L.length c, .slice AG nG cG, .int .u64 (s.a.a.toNat : Int), .int .u64 (s.a.b.toNat : Int), .slice none 0 0, .bool s.closed], .agg #[.int .i64 7, .int .i64 gl, .slice AI nI kI], .slice (some ⟨gi, 0, none⟩) 2 cI]) Try.func66 rfl rfl (by simp) ?_
  refine cw_seq (fun FK1 K1 => ?_)
  refine cw_region ?_
  refine wl_new (fun ρ e => ex_boxState (e _ _ rfl)) rfl rfl (fun g2 w3 jb4 jk5 jg6 js7 => ?_)
  refine wl_new (fun ρ e => ex_boxGate (e _ _ rfl)) rfl rfl (fun g8 w9 jb10 jk11 jg12 js13 => ?_)
  refine wl_new (fun ρ e => ex_allocState) rfl rfl (fun g14 w15 jb16 jk17 jg18 js19 => ?_)
  have hb : Below w.heap.size w w15 := ((jb4.trans (jb10.mono jb4.size)).trans (jb16.mono (Nat.le_trans jb4.size jb10.size)))
  have gs : GSt Av base w g2 g14 AG nG cG bi (.slice (some ⟨gi, 0, none⟩) 2 cI) [x, y] s A c w15 := GSt.start w _ hb ((jk5.keep jb10).keep jb16) jk17 hown hin
  have hkg := jk11.keep jb16
  have hne : g2 ≠ g14 := by omega
  have h1 : w.heap.size ≤ g2 := by omega
  have h3 : w.heap.size ≤ g14 := by omega
  refine wl_val (v := .int .i64 0) (fun ρ e => ex_assign (e _ _ rfl)) rfl rfl ?_
  refine wl_nil ?_
  refine xw_next K1 ?_
  refine cw_seq (fun FK20 K20 => ?_)
  refine cw_region ?_
  refine wl_val (v := .int .i64 0) (fun ρ e => ex_assign (e _ _ rfl)) rfl rfl ?_
  refine wl_nil ?_
  refine xw_next K20 ?_
  refine cw_seq (fun FK21 K21 => ?_)
  refine cw_seq (fun FK22 K22 => ?_)
  refine cw_region ?_
  refine wl_val (v := .pointer (some ⟨g8, 0, none⟩)) (fun ρ e => ex_kind (g := g8) (o := 0) (e _ _ rfl)) rfl rfl ?_
  refine wl_val (v := .int .i64 7) (fun ρ e => ex_int (p := ⟨g8, 0, none⟩) (e _ _ rfl) (hkg.cell 0)) rfl rfl ?_
  refine wl_nil ?_
  refine xw_next K22 ?_
  refine cw_block ?_
  refine cw_seq (fun FK23 K23 => ?_)
  refine cw_region ?_
  refine wl_val (v := .bool false) (fun ρ e => ex_eql0 (u := 7) (v := 2) (e _ _ rfl) (e _ _ rfl) (by omega)) rfl rfl ?_
  refine wl_val (v := .bool false) (fun ρ e => ex_assign (e _ _ rfl)) rfl rfl ?_
  refine wl_nil ?_
  refine xw_next K23 ?_
  refine cw_false rfl ?_
  refine cw_seq (fun FK24 K24 => ?_)
  refine cw_region ?_
  refine wl_val (v := .bool false) (fun ρ e => ex_eql0 (u := 7) (v := 0) (e _ _ rfl) (e _ _ rfl) (by omega)) rfl rfl ?_
  refine wl_val (v := .bool false) (fun ρ e => ex_assign (e _ _ rfl)) rfl rfl ?_
  refine wl_nil ?_
  refine xw_next K24 ?_
  refine cw_false rfl ?_
  refine cw_seq (fun FK25 K25 => ?_)
  refine cw_region ?_
  refine wl_val (v := .bool false) (fun ρ e => ex_eql0 (u := 7) (v := 1) (e _ _ rfl) (e _ _ rfl) (by omega)) rfl rfl ?_
  refine wl_val (v := .bool false) (fun ρ e => ex_assign (e _ _ rfl)) rfl rfl ?_
  refine wl_nil ?_
  refine xw_next K25 ?_
  refine cw_false rfl ?_
  refine cw_seq (fun FK26 K26 => ?_)
  refine cw_region ?_
  refine wl_val (v := .bool false) (fun ρ e => ex_eql0 (u := 7) (v := 3) (e _ _ rfl) (e _ _ rfl) (by omega)) rfl rfl ?_
  refine wl_val (v := .bool false) (fun ρ e => ex_assign (e _ _ rfl)) rfl rfl ?_
  refine wl_nil ?_
  refine xw_next K26 ?_
  refine cw_false rfl ?_
  refine cw_seq (fun FK27 K27 => ?_)
  refine cw_region ?_
  refine wl_val (v := .bool false) (fun ρ e => ex_eql0 (u := 7) (v := 4) (e _ _ rfl) (e _ _ rfl) (by omega)) rfl rfl ?_
  refine wl_val (v := .bool false) (fun ρ e => ex_assign (e _ _ rfl)) rfl rfl ?_
  refine wl_nil ?_
  refine xw_next K27 ?_
  refine cw_false rfl ?_
  refine cw_seq (fun FK28 K28 => ?_)
  refine cw_region ?_
  refine wl_val (v := .bool false) (fun ρ e => ex_eql0 (u := 7) (v := 5) (e _ _ rfl) (e _ _ rfl) (by omega)) rfl rfl ?_
  refine wl_val (v := .bool false) (fun ρ e => ex_assign (e _ _ rfl)) rfl rfl ?_
  refine wl_nil ?_
  refine xw_next K28 ?_
  refine cw_false rfl ?_
  refine cw_seq (fun FK29 K29 => ?_)
  refine cw_region ?_
  refine wl_val (v := .bool false) (fun ρ e => ex_eql0 (u := 7) (v := 6) (e _ _ rfl) (e _ _ rfl) (by omega)) rfl rfl ?_
  refine wl_val (v := .bool false) (fun ρ e => ex_assign (e _ _ rfl)) rfl rfl ?_
  refine wl_nil ?_
  refine xw_next K29 ?_
  refine cw_false rfl ?_
  refine cw_seq (fun FK30 K30 => ?_)
  refine cw_region ?_
  refine wl_val (v := .bool true) (fun ρ e => ex_eql1 (u := 7) (v := 7) (e _ _ rfl) (e _ _ rfl) (by omega)) rfl rfl ?_
  refine wl_val (v := .bool true) (fun ρ e => ex_assign (e _ _ rfl)) rfl rfl ?_
  refine wl_nil ?_
  refine xw_next K30 ?_
  refine cw_true rfl ?_
  refine cw_seq (fun FK31 K31 => ?_)
  refine cw_drawn (fun W => Blk W g2 63 #[.int .i64 s.n, .slice A s.L.length c, .slice AG nG cG, .int .u64 (s.a.a.toNat : Int), .int .u64 (s.a.b.toNat : Int), .slice none 0 0, .bool s.closed] ∧ OwnInts W bi (.slice (some ⟨gi, 0, none⟩) 2 cI) [x, y] ∧ Blk W g8 44 #[.int .i64 7, .int .i64 gl, .slice AI nI kI]) 16 [(0, 0), (1, 0), (2, 1), (3, 1), (4, 0), (6, 0), (7, 1), (8, 1), (9, 0), (5, 2), (10, 2), (11, 1), (12, 2), (13, 1), (14, 1), (15, 1), (16, 3), (17, 3)] (by kernel_rfl) (by kernel_rfl) (PQ.then_ (PQ.block (PQ.then_ PQ.body))) (⟨gs.drew.1, gs.drew.2.2.2.1, hkg.drew⟩) ?_
  replace gs := gs.drew
  replace hkg := hkg.drew
  refine wt0 (v := .agg #[.int .i64 s.n, .slice A s.L.length c, .slice AG nG cG, .int .u64 (s.a.a.toNat : Int), .int .u64 (s.a.b.toNat : Int), .slice none 0 0, .bool s.closed]) rfl (fun ρ e W hW => ex_state (g := g2) (e _ _ rfl) hW.1) rfl rfl ?_
  refine wt0 (v := .agg #[.int .i64 s.n, .slice A s.L.length c, .slice AG nG cG, .int .u64 (s.a.a.toNat : Int), .int .u64 (s.a.b.toNat : Int), .slice none 0 0, .bool s.closed]) rfl (fun ρ e W hW => ex_state (g := g2) (e _ _ rfl) hW.1) rfl rfl ?_
  refine wt1 (v := .slice (some ⟨gi, 0, none⟩) 2 cI) rfl (fun ρ e W => ex_move (e _ _ rfl)) rfl rfl ?_
  refine wt1 (v := .pointer (some ⟨gi, 0, none⟩)) rfl (fun ρ e W => ex_index0 (g := gi) (n := 2) (c := cI) (i := 0) (e _ _ rfl) (e _ _ rfl) (by omega)) rfl rfl ?_
  refine wt0 (v := .int .i64 x) rfl (fun ρ e W hW => ex_int (p := ⟨gi, 0, none⟩) (e _ _ rfl) (ints_cell hW.2.1 _ _ rfl)) rfl rfl ?_
  refine wt0 (v := .agg #[.int .i64 s.n, .slice A s.L.length c, .slice AG nG cG, .int .u64 (s.a.a.toNat : Int), .int .u64 (s.a.b.toNat : Int), .slice none 0 0, .bool s.closed]) rfl (fun ρ e W hW => ex_state (g := g2) (e _ _ rfl) hW.1) rfl rfl ?_
  refine wt1 (v := .slice (some ⟨gi, 0, none⟩) 2 cI) rfl (fun ρ e W => ex_move (e _ _ rfl)) rfl rfl ?_
  refine wt1 (v := .pointer (some ⟨gi, 1, none⟩)) rfl (fun ρ e W => ex_index0 (g := gi) (n := 2) (c := cI) (i := 1) (e _ _ rfl) (e _ _ rfl) (by omega)) rfl rfl ?_
  refine wt0 (v := .int .i64 y) rfl (fun ρ e W hW => ex_int (p := ⟨gi, 1, none⟩) (e _ _ rfl) (ints_cell hW.2.1 _ _ rfl)) rfl rfl ?_
  refine wt2_call (args := [.agg #[.int .i64 s.n, .slice A s.L.length c, .slice AG nG cG, .int .u64 (s.a.a.toNat : Int), .int .u64 (s.a.b.toNat : Int), .slice none 0 0, .bool s.closed], .int .i64 x]) rfl in_holds rfl rfl rfl ?_
  refine (kh0 _).mono ?_
  rintro _ w32 ⟨rfl, hb5⟩
  replace gs := gs.below hb5
  replace hkg := hkg.keep hb5
  refine ⟨_, rfl, ⟨gs.1, gs.2.2.2.1, hkg⟩, ?_⟩
  refine wt2_call (args := [.agg #[.int .i64 s.n, .slice A s.L.length c, .slice AG nG cG, .int .u64 (s.a.a.toNat : Int), .int .u64 (s.a.b.toNat : Int), .slice none 0 0, .bool s.closed], .int .i64 y]) rfl in_holds rfl rfl rfl ?_
  refine (kh1 _).mono ?_
  rintro _ w33 ⟨rfl, hb5⟩
  replace gs := gs.below hb5
  replace hkg := hkg.keep hb5
  refine ⟨_, rfl, ⟨gs.1, gs.2.2.2.1, hkg⟩, ?_⟩
  refine wt1 (v := .bool (b0 == b1)) rfl (fun ρ e W => ex_eqb (b := b0) (b' := b1) (e _ _ rfl) (e _ _ rfl)) rfl rfl ?_
  refine wt2_call (args := [.agg #[.int .i64 s.n, .slice A s.L.length c, .slice AG nG cG, .int .u64 (s.a.a.toNat : Int), .int .u64 (s.a.b.toNat : Int), .slice none 0 0, .bool s.closed], .bool (b0 == b1)]) rfl in_fresh rfl rfl rfl ?_
  refine (ref10_fresh _ A c AG nG cG s s1 v (b0 == b1) hs1 hv hn0 (by omega)).mono ?_
  rintro _ w34 ⟨rfl, hb5⟩
  replace gs := gs.below hb5
  replace hkg := hkg.keep hb5
  have gm := gs.freshmid (s' := s1) hl1
  refine ⟨_, rfl, ⟨gs.1, gs.2.2.2.1, hkg⟩, ?_⟩
  refine wt1 (v := .tuple #[.agg #[.int .i64 s1.n, .slice A s1.L.length c, .slice AG nG cG, .int .u64 (s1.a.a.toNat : Int), .int .u64 (s1.a.b.toNat : Int), .slice none 0 0, .bool s1.closed], .int .i64 v]) rfl (fun ρ e W => ex_move (e _ _ rfl)) rfl rfl ?_
  refine wt1 (v := .agg #[.int .i64 s1.n, .slice A s1.L.length c, .slice AG nG cG, .int .u64 (s1.a.a.toNat : Int), .int .u64 (s1.a.b.toNat : Int), .slice none 0 0, .bool s1.closed]) rfl (fun ρ e W => ex_extract (vs := #[.agg #[.int .i64 s1.n, .slice A s1.L.length c, .slice AG nG cG, .int .u64 (s1.a.a.toNat : Int), .int .u64 (s1.a.b.toNat : Int), .slice none 0 0, .bool s1.closed], .int .i64 v]) (e _ _ rfl) rfl) rfl rfl ?_
  refine wt1 (v := .int .i64 v) rfl (fun ρ e W => ex_extract (vs := #[.agg #[.int .i64 s1.n, .slice A s1.L.length c, .slice AG nG cG, .int .u64 (s1.a.a.toNat : Int), .int .u64 (s1.a.b.toNat : Int), .slice none 0 0, .bool s1.closed], .int .i64 v]) (e _ _ rfl) rfl) rfl rfl ?_
  refine wt3_none rfl (fun ρ e => ex_storeState (A := A) (c := c) (s := s1) (AG := AG) (nG := nG) (cG := cG) (e _ _ rfl) (e _ _ rfl) gm.1) rfl ?_
  replace gs := gm.put hne.symm h1
  replace hkg := put7_far (g := g2) (AG := AG) (nG := nG) (cG := cG) (s := s1) (A := A) (c := c) hkg (by omega)
  clear gm
  refine wt3 (v := .int .i64 v) rfl (fun ρ e => ex_assign (e _ _ rfl)) rfl rfl ?_
  refine wt_nil ?_
  refine xw_next K31 ?_
  refine cw_seq (fun FK35 K35 => ?_)
  refine cw_drawn (fun W => Blk W g2 63 #[.int .i64 s1.n, .slice A s1.L.length c, .slice AG nG cG, .int .u64 (s1.a.a.toNat : Int), .int .u64 (s1.a.b.toNat : Int), .slice none 0 0, .bool s1.closed] ∧ OwnInts W bi (.slice (some ⟨gi, 0, none⟩) 2 cI) [x, y] ∧ Blk W g8 44 #[.int .i64 7, .int .i64 gl, .slice AI nI kI]) 12 [(0, 0), (1, 1), (2, 1), (3, 1), (4, 1), (5, 0), (6, 1), (7, 1), (8, 1), (9, 0), (10, 2), (11, 2), (12, 3)] (by kernel_rfl) (by kernel_rfl) (PQ.then_ (PQ.block (PQ.then_ PQ.body))) (⟨gs.drew.1, gs.drew.2.2.2.1, hkg.drew⟩) ?_
  replace gs := gs.drew
  replace hkg := hkg.drew
  refine wt0 (v := .agg #[.int .i64 s1.n, .slice A s1.L.length c, .slice AG nG cG, .int .u64 (s1.a.a.toNat : Int), .int .u64 (s1.a.b.toNat : Int), .slice none 0 0, .bool s1.closed]) rfl (fun ρ e W hW => ex_state (g := g2) (e _ _ rfl) hW.1) rfl rfl ?_
  refine wt1 (v := .int .i64 v) rfl (fun ρ e W => ex_move (e _ _ rfl)) rfl rfl ?_
  refine wt1 (v := .int .i64 (-v)) rfl (fun ρ e W => ex_neg (e _ _ rfl) (wrap_in (by omega) (by omega))) rfl rfl ?_
  refine wt1 (v := .slice (some ⟨gi, 0, none⟩) 2 cI) rfl (fun ρ e W => ex_move (e _ _ rfl)) rfl rfl ?_
  refine wt1 (v := .pointer (some ⟨gi, 0, none⟩)) rfl (fun ρ e W => ex_index0 (g := gi) (n := 2) (c := cI) (i := 0) (e _ _ rfl) (e _ _ rfl) (by omega)) rfl rfl ?_
  refine wt0 (v := .int .i64 x) rfl (fun ρ e W hW => ex_int (p := ⟨gi, 0, none⟩) (e _ _ rfl) (ints_cell hW.2.1 _ _ rfl)) rfl rfl ?_
  refine wt1 (v := .int .i64 (-x)) rfl (fun ρ e W => ex_neg (e _ _ rfl) (wrap_in (by omega) (by omega))) rfl rfl ?_
  refine wt1 (v := .slice (some ⟨gi, 0, none⟩) 2 cI) rfl (fun ρ e W => ex_move (e _ _ rfl)) rfl rfl ?_
  refine wt1 (v := .pointer (some ⟨gi, 1, none⟩)) rfl (fun ρ e W => ex_index0 (g := gi) (n := 2) (c := cI) (i := 1) (e _ _ rfl) (e _ _ rfl) (by omega)) rfl rfl ?_
  refine wt0 (v := .int .i64 y) rfl (fun ρ e W hW => ex_int (p := ⟨gi, 1, none⟩) (e _ _ rfl) (ints_cell hW.2.1 _ _ rfl)) rfl rfl ?_
  refine wt2_newslice rfl (fun ρ e => ex_build3 (v0 := (-v)) (v1 := (-x)) (v2 := y) (e _ _ rfl) (e _ _ rfl) (e _ _ rfl)) rfl rfl (fun gn36 w41 jb37 jk38 jg39 js40 => ?_)
  have hsz := gs.2.2.2.2.size
  replace gs := gs.below jb37
  replace hkg := hkg.keep jb37
  refine ⟨⟨gs.1, gs.2.2.2.1, hkg⟩, ?_⟩
  refine wt2_call (args := [.agg #[.int .i64 s1.n, .slice A s1.L.length c, .slice AG nG cG, .int .u64 (s1.a.a.toNat : Int), .int .u64 (s1.a.b.toNat : Int), .slice none 0 0, .bool s1.closed], .slice (some ⟨gn36, 0, none⟩) 3 3]) rfl in_add rfl rfl rfl ?_
  refine (ref10_add_new hAv hbase hs2 (by have := gs.2.2.2.2.size; omega) gs jk38 rfl (by simp) (by omega)).mono ?_
  rintro _ w42 ⟨⟨A43, c44, rfl, o5⟩, fr5⟩
  have gm := gs.mid fr5 o5
  replace hkg := fr5.blk hkg (.inl (by decide))
  refine ⟨_, rfl, ⟨gm.1, gm.2.2.2.1, hkg⟩, ?_⟩
  refine wt3_none rfl (fun ρ e => ex_storeState (A := A43) (c := c44) (s := s2) (AG := AG) (nG := nG) (cG := cG) (e _ _ rfl) (e _ _ rfl) gm.1) rfl ?_
  replace gs := gm.put hne.symm h1
  replace hkg := put7_far (g := g2) (AG := AG) (nG := nG) (cG := cG) (s := s2) (A := A43) (c := c44) hkg (by omega)
  clear gm
  refine wt_nil ?_
  refine xw_next K35 ?_
  refine cw_seq (fun FK45 K45 => ?_)
  refine cw_drawn (fun W => Blk W g2 63 #[.int .i64 s2.n, .slice A43 s2.L.length c44, .slice AG nG cG, .int .u64 (s2.a.a.toNat : Int), .int .u64 (s2.a.b.toNat : Int), .slice none 0 0, .bool s2.closed] ∧ OwnInts W bi (.slice (some ⟨gi, 0, none⟩) 2 cI) [x, y] ∧ Blk W g8 44 #[.int .i64 7, .int .i64 gl, .slice AI nI kI]) 12 [(0, 0), (1, 1), (2, 1), (3, 1), (4, 1), (5, 0), (6, 1), (7, 1), (8, 0), (9, 1), (10, 2), (11, 2), (12, 3)] (by kernel_rfl) (by kernel_rfl) (PQ.then_ (PQ.block (PQ.then_ PQ.body))) (⟨gs.drew.1, gs.drew.2.2.2.1, hkg.drew⟩) ?_
  replace gs := gs.drew
  replace hkg := hkg.drew
  refine wt0 (v := .agg #[.int .i64 s2.n, .slice A43 s2.L.length c44, .slice AG nG cG, .int .u64 (s2.a.a.toNat : Int), .int .u64 (s2.a.b.toNat : Int), .slice none 0 0, .bool s2.closed]) rfl (fun ρ e W hW => ex_state (g := g2) (e _ _ rfl) hW.1) rfl rfl ?_
  refine wt1 (v := .int .i64 v) rfl (fun ρ e W => ex_move (e _ _ rfl)) rfl rfl ?_
  refine wt1 (v := .int .i64 (-v)) rfl (fun ρ e W => ex_neg (e _ _ rfl) (wrap_in (by omega) (by omega))) rfl rfl ?_
  refine wt1 (v := .slice (some ⟨gi, 0, none⟩) 2 cI) rfl (fun ρ e W => ex_move (e _ _ rfl)) rfl rfl ?_
  refine wt1 (v := .pointer (some ⟨gi, 0, none⟩)) rfl (fun ρ e W => ex_index0 (g := gi) (n := 2) (c := cI) (i := 0) (e _ _ rfl) (e _ _ rfl) (by omega)) rfl rfl ?_
  refine wt0 (v := .int .i64 x) rfl (fun ρ e W hW => ex_int (p := ⟨gi, 0, none⟩) (e _ _ rfl) (ints_cell hW.2.1 _ _ rfl)) rfl rfl ?_
  refine wt1 (v := .slice (some ⟨gi, 0, none⟩) 2 cI) rfl (fun ρ e W => ex_move (e _ _ rfl)) rfl rfl ?_
  refine wt1 (v := .pointer (some ⟨gi, 1, none⟩)) rfl (fun ρ e W => ex_index0 (g := gi) (n := 2) (c := cI) (i := 1) (e _ _ rfl) (e _ _ rfl) (by omega)) rfl rfl ?_
  refine wt0 (v := .int .i64 y) rfl (fun ρ e W hW => ex_int (p := ⟨gi, 1, none⟩) (e _ _ rfl) (ints_cell hW.2.1 _ _ rfl)) rfl rfl ?_
  refine wt1 (v := .int .i64 (-y)) rfl (fun ρ e W => ex_neg (e _ _ rfl) (wrap_in (by omega) (by omega))) rfl rfl ?_
  refine wt2_newslice rfl (fun ρ e => ex_build3 (v0 := (-v)) (v1 := x) (v2 := (-y)) (e _ _ rfl) (e _ _ rfl) (e _ _ rfl)) rfl rfl (fun gn46 w51 jb47 jk48 jg49 js50 => ?_)
  have hsz := gs.2.2.2.2.size
  replace gs := gs.below jb47
  replace hkg := hkg.keep jb47
  refine ⟨⟨gs.1, gs.2.2.2.1, hkg⟩, ?_⟩
  refine wt2_call (args := [.agg #[.int .i64 s2.n, .slice A43 s2.L.length c44, .slice AG nG cG, .int .u64 (s2.a.a.toNat : Int), .int .u64 (s2.a.b.toNat : Int), .slice none 0 0, .bool s2.closed], .slice (some ⟨gn46, 0, none⟩) 3 3]) rfl in_add rfl rfl rfl ?_
  refine (ref10_add_new hAv hbase hs3 (by have := gs.2.2.2.2.size; omega) gs jk48 rfl (by simp) (by omega)).mono ?_
  rintro _ w52 ⟨⟨A53, c54, rfl, o5⟩, fr5⟩
  have gm := gs.mid fr5 o5
  replace hkg := fr5.blk hkg (.inl (by decide))
  refine ⟨_, rfl, ⟨gm.1, gm.2.2.2.1, hkg⟩, ?_⟩
  refine wt3_none rfl (fun ρ e => ex_storeState (A := A53) (c := c54) (s := s3) (AG := AG) (nG := nG) (cG := cG) (e _ _ rfl) (e _ _ rfl) gm.1) rfl ?_
  replace gs := gm.put hne.symm h1
  replace hkg := put7_far (g := g2) (AG := AG) (nG := nG) (cG := cG) (s := s3) (A := A53) (c := c54) hkg (by omega)
  clear gm
  refine wt_nil ?_
  refine xw_next K45 ?_
  refine cw_seq (fun FK55 K55 => ?_)
  refine cw_drawn (fun W => Blk W g2 63 #[.int .i64 s3.n, .slice A53 s3.L.length c54, .slice AG nG cG, .int .u64 (s3.a.a.toNat : Int), .int .u64 (s3.a.b.toNat : Int), .slice none 0 0, .bool s3.closed] ∧ OwnInts W bi (.slice (some ⟨gi, 0, none⟩) 2 cI) [x, y] ∧ Blk W g8 44 #[.int .i64 7, .int .i64 gl, .slice AI nI kI]) 10 [(0, 0), (1, 1), (2, 1), (3, 1), (4, 0), (5, 1), (6, 1), (7, 0), (8, 2), (9, 2), (10, 3)] (by kernel_rfl) (by kernel_rfl) (PQ.then_ (PQ.block (PQ.then_ PQ.body))) (⟨gs.drew.1, gs.drew.2.2.2.1, hkg.drew⟩) ?_
  replace gs := gs.drew
  replace hkg := hkg.drew
  refine wt0 (v := .agg #[.int .i64 s3.n, .slice A53 s3.L.length c54, .slice AG nG cG, .int .u64 (s3.a.a.toNat : Int), .int .u64 (s3.a.b.toNat : Int), .slice none 0 0, .bool s3.closed]) rfl (fun ρ e W hW => ex_state (g := g2) (e _ _ rfl) hW.1) rfl rfl ?_
  refine wt1 (v := .int .i64 v) rfl (fun ρ e W => ex_move (e _ _ rfl)) rfl rfl ?_
  refine wt1 (v := .slice (some ⟨gi, 0, none⟩) 2 cI) rfl (fun ρ e W => ex_move (e _ _ rfl)) rfl rfl ?_
  refine wt1 (v := .pointer (some ⟨gi, 0, none⟩)) rfl (fun ρ e W => ex_index0 (g := gi) (n := 2) (c := cI) (i := 0) (e _ _ rfl) (e _ _ rfl) (by omega)) rfl rfl ?_
  refine wt0 (v := .int .i64 x) rfl (fun ρ e W hW => ex_int (p := ⟨gi, 0, none⟩) (e _ _ rfl) (ints_cell hW.2.1 _ _ rfl)) rfl rfl ?_
  refine wt1 (v := .slice (some ⟨gi, 0, none⟩) 2 cI) rfl (fun ρ e W => ex_move (e _ _ rfl)) rfl rfl ?_
  refine wt1 (v := .pointer (some ⟨gi, 1, none⟩)) rfl (fun ρ e W => ex_index0 (g := gi) (n := 2) (c := cI) (i := 1) (e _ _ rfl) (e _ _ rfl) (by omega)) rfl rfl ?_
  refine wt0 (v := .int .i64 y) rfl (fun ρ e W hW => ex_int (p := ⟨gi, 1, none⟩) (e _ _ rfl) (ints_cell hW.2.1 _ _ rfl)) rfl rfl ?_
  refine wt2_newslice rfl (fun ρ e => ex_build3 (v0 := v) (v1 := x) (v2 := y) (e _ _ rfl) (e _ _ rfl) (e _ _ rfl)) rfl rfl (fun gn56 w61 jb57 jk58 jg59 js60 => ?_)
  have hsz := gs.2.2.2.2.size
  replace gs := gs.below jb57
  replace hkg := hkg.keep jb57
  refine ⟨⟨gs.1, gs.2.2.2.1, hkg⟩, ?_⟩
  refine wt2_call (args := [.agg #[.int .i64 s3.n, .slice A53 s3.L.length c54, .slice AG nG cG, .int .u64 (s3.a.a.toNat : Int), .int .u64 (s3.a.b.toNat : Int), .slice none 0 0, .bool s3.closed], .slice (some ⟨gn56, 0, none⟩) 3 3]) rfl in_add rfl rfl rfl ?_
  refine (ref10_add_new hAv hbase hs4 (by have := gs.2.2.2.2.size; omega) gs jk58 rfl (by simp) (by omega)).mono ?_
  rintro _ w62 ⟨⟨A63, c64, rfl, o5⟩, fr5⟩
  have gm := gs.mid fr5 o5
  replace hkg := fr5.blk hkg (.inl (by decide))
  refine ⟨_, rfl, ⟨gm.1, gm.2.2.2.1, hkg⟩, ?_⟩
  refine wt3_none rfl (fun ρ e => ex_storeState (A := A63) (c := c64) (s := s4) (AG := AG) (nG := nG) (cG := cG) (e _ _ rfl) (e _ _ rfl) gm.1) rfl ?_
  replace gs := gm.put hne.symm h1
  replace hkg := put7_far (g := g2) (AG := AG) (nG := nG) (cG := cG) (s := s4) (A := A63) (c := c64) hkg (by omega)
  clear gm
  refine wt_nil ?_
  refine xw_next K55 ?_
  refine cw_seq (fun FK65 K65 => ?_)
  refine cw_drawn (fun W => Blk W g2 63 #[.int .i64 s4.n, .slice A63 s4.L.length c64, .slice AG nG cG, .int .u64 (s4.a.a.toNat : Int), .int .u64 (s4.a.b.toNat : Int), .slice none 0 0, .bool s4.closed] ∧ OwnInts W bi (.slice (some ⟨gi, 0, none⟩) 2 cI) [x, y] ∧ Blk W g8 44 #[.int .i64 7, .int .i64 gl, .slice AI nI kI]) 13 [(0, 0), (1, 1), (2, 1), (3, 1), (4, 0), (5, 1), (6, 1), (7, 1), (8, 0), (9, 1), (12, 1), (10, 2), (11, 2), (13, 3), (14, 3)] (by kernel_rfl) (by kernel_rfl) (PQ.then_ (PQ.block (PQ.then_ PQ.body))) (⟨gs.drew.1, gs.drew.2.2.2.1, hkg.drew⟩) ?_
  replace gs := gs.drew
  replace hkg := hkg.drew
  refine wt0 (v := .agg #[.int .i64 s4.n, .slice A63 s4.L.length c64, .slice AG nG cG, .int .u64 (s4.a.a.toNat : Int), .int .u64 (s4.a.b.toNat : Int), .slice none 0 0, .bool s4.closed]) rfl (fun ρ e W hW => ex_state (g := g2) (e _ _ rfl) hW.1) rfl rfl ?_
  refine wt1 (v := .int .i64 v) rfl (fun ρ e W => ex_move (e _ _ rfl)) rfl rfl ?_
  refine wt1 (v := .slice (some ⟨gi, 0, none⟩) 2 cI) rfl (fun ρ e W => ex_move (e _ _ rfl)) rfl rfl ?_
  refine wt1 (v := .pointer (some ⟨gi, 0, none⟩)) rfl (fun ρ e W => ex_index0 (g := gi) (n := 2) (c := cI) (i := 0) (e _ _ rfl) (e _ _ rfl) (by omega)) rfl rfl ?_
  refine wt0 (v := .int .i64 x) rfl (fun ρ e W hW => ex_int (p := ⟨gi, 0, none⟩) (e _ _ rfl) (ints_cell hW.2.1 _ _ rfl)) rfl rfl ?_
  refine wt1 (v := .int .i64 (-x)) rfl (fun ρ e W => ex_neg (e _ _ rfl) (wrap_in (by omega) (by omega))) rfl rfl ?_
  refine wt1 (v := .slice (some ⟨gi, 0, none⟩) 2 cI) rfl (fun ρ e W => ex_move (e _ _ rfl)) rfl rfl ?_
  refine wt1 (v := .pointer (some ⟨gi, 1, none⟩)) rfl (fun ρ e W => ex_index0 (g := gi) (n := 2) (c := cI) (i := 1) (e _ _ rfl) (e _ _ rfl) (by omega)) rfl rfl ?_
  refine wt0 (v := .int .i64 y) rfl (fun ρ e W hW => ex_int (p := ⟨gi, 1, none⟩) (e _ _ rfl) (ints_cell hW.2.1 _ _ rfl)) rfl rfl ?_
  refine wt1 (v := .int .i64 (-y)) rfl (fun ρ e W => ex_neg (e _ _ rfl) (wrap_in (by omega) (by omega))) rfl rfl ?_
  refine wt1 (v := .int .i64 v) rfl (fun ρ e W => ex_move (e _ _ rfl)) rfl rfl ?_
  refine wt2_newslice rfl (fun ρ e => ex_build3 (v0 := v) (v1 := (-x)) (v2 := (-y)) (e _ _ rfl) (e _ _ rfl) (e _ _ rfl)) rfl rfl (fun gn66 w71 jb67 jk68 jg69 js70 => ?_)
  have hsz := gs.2.2.2.2.size
  replace gs := gs.below jb67
  replace hkg := hkg.keep jb67
  refine ⟨⟨gs.1, gs.2.2.2.1, hkg⟩, ?_⟩
  refine wt2_call (args := [.agg #[.int .i64 s4.n, .slice A63 s4.L.length c64, .slice AG nG cG, .int .u64 (s4.a.a.toNat : Int), .int .u64 (s4.a.b.toNat : Int), .slice none 0 0, .bool s4.closed], .slice (some ⟨gn66, 0, none⟩) 3 3]) rfl in_add rfl rfl rfl ?_
  refine (ref10_add_new hAv hbase hs5 (by have := gs.2.2.2.2.size; omega) gs jk68 rfl (by simp) (by omega)).mono ?_
  rintro _ w72 ⟨⟨A73, c74, rfl, o5⟩, fr5⟩
  have gm := gs.mid fr5 o5
  replace hkg := fr5.blk hkg (.inl (by decide))
  refine ⟨_, rfl, ⟨gm.1, gm.2.2.2.1, hkg⟩, ?_⟩
  refine wt3_none rfl (fun ρ e => ex_storeState (A := A73) (c := c74) (s := s') (AG := AG) (nG := nG) (cG := cG) (e _ _ rfl) (e _ _ rfl) gm.2.1) rfl ?_
  have ge := gm.fin h3
  refine wt3 (v := .int .i64 v) rfl (fun ρ e => ex_assign (e _ _ rfl)) rfl rfl ?_
  refine wt_nil ?_
  refine xw_next K65 ?_
  refine cw_ret ?_
  refine xw_blockret ?_
  refine xw_past (by intro h; cases h) ?_
  refine xw_ret (v := .tuple #[.agg #[.int .i64 s'.n, .slice A73 s'.L.length c74, .slice AG nG cG, .int .u64 (s'.a.a.toNat : Int), .int .u64 (s'.a.b.toNat : Int), .slice none 0 0, .bool s'.closed], .int .i64 v]) (fun T hT => ?_) ⟨⟨A73, c74, rfl, ge.2.1⟩, ge.2.2⟩
  have t6 := hT 6 _ rfl
  have t7 := hT 7 _ rfl
  have r0 := ge.1.cell 0
  have r1 := ge.1.cell 1
  have r2 := ge.1.cell 2
  have r3 := ge.1.cell 3
  have r4 := ge.1.cell 4
  have r5 := ge.1.cell 5
  have r6 := ge.1.cell 6
  simp at r0 r1 r2 r3 r4 r5 r6
  simp [results, Try.results66, go_sem, t6, t7, r0, r1, r2, r3, r4, r5, r6]

set_option maxRecDepth 100000 in
set_option maxHeartbeats 1600000 in
theorem g10_if_true (w : World) {Av : Nat → Prop} (hAv : AvOk Av w) (base bi : Nat) (hbase : base ≤ w.heap.size) (A : Option Addr) (c : Nat) (AG : Option Addr) (nG cG : Nat) (s s' : RS) (x y z : Int) (v gl : Int) (AI : Option Addr) (nI kI : Nat) (gi cI : Nat) (hin : OwnInts w bi (.slice (some ⟨gi, 0, none⟩) 3 cI) [x, y, z]) (hcond : holdsL s.a x = true) (hs' : s.gate 8 gl [x, y, z] = (s', v)) (hn0 : 0 ≤ s.n) (hn1 : s.n ≤ 900000) (x0 : -1000000 ≤ x) (x1 : x ≤ 1000000) (y0 : -1000000 ≤ y) (y1 : y ≤ 1000000) (z0 : -1000000 ≤ z) (z1 : z ≤ 1000000)
    (hown : OwnRows w Av base (.slice A s.L.length c) s.L) (hL : s.L.length ≤ 900000) :
    Calls Try.prog 66 #[(.agg #[.int .i64 s.n, .slice A s.L.length c, .slice AG nG cG, .int .u64 (s.a.a.toNat : Int), .int .u64 (s.a.b.toNat : Int), .slice none 0 0, .bool s.closed]), .agg #[.int .i64 8, .int .i64 gl, .slice AI nI kI], .slice (some ⟨gi, 0, none⟩) 3 cI] w fun e w' => (∃ A' c', e = .returned (.tuple #[(.agg #[.int .i64 s'.n, .slice A' s'.L.length c', .slice AG nG cG, .int .u64 (s'.a.a.toNat : Int), .int .u64 (s'.a.b.toNat : Int), .slice none 0 0, .bool s'.closed]), .int .i64 v]) ∧ OwnRows w' Av base (.slice A' s'.L.length c') s'.L) ∧ FrR base w w' := by
  have hx : holdsL s.a x = true := hcond
  rw [RS.gate_if, hx] at hs'
  simp only [if_true] at hs'
  have hv : v = s.var := by simp only [Prod.mk.injEq] at hs'; exact hs'.2.symm
  obtain ⟨s1, hs1⟩ : ∃ q_, q_ = s.fresh (holdsL s.a y) := ⟨_, rfl⟩
  obtain ⟨s2, hs2⟩ : ∃ q_, q_ = s1.add [-v, -x, y] := ⟨_, rfl⟩
  obtain ⟨s3, hs3⟩ : ∃ q_, q_ = s2.add [-v, x, z] := ⟨_, rfl⟩
  obtain ⟨s4, hs4⟩ : ∃ q_, q_ = s3.add [v, -x, -y] := ⟨_, rfl⟩
  have hs5 : s' = s4.add [v, x, -z] := by simp only [Prod.mk.injEq] at hs'; rw [← hs'.1, hs4, hs3, hs2, hs1, hv]; simp [RS.adds, RS.add]
  have l1 : s1.L.length ≤ 900001 := by rw [hs1]; simp [RS.fresh]; omega
  have l2 : s2.L.length ≤ 900002 := by rw [hs2]; simp [RS.add]; omega
  have l3 : s3.L.length ≤ 900003 := by rw [hs3]; simp [RS.add]; omega
  have l4 : s4.L.length ≤ 900004 := by rw [hs4]; simp [RS.add]; omega
  have hl1 : s1.L = s.L := by rw [hs1]; rfl
  clear hs'
  have v0 : -1000001 ≤ v := by have := hv; unfold RS.var at this; split at this <;> omega
  have v1 : v ≤ 1000001 := by have := hv; unfold RS.var at this; split at this <;> omega
  have kh0 : ∀ W, Calls Try.prog 81 #[(.agg #[.int .i64 s.n, .slice A s.L.length c, .slice AG nG cG, .int .u64 (s.a.a.toNat : Int), .int .u64 (s.a.b.toNat : Int), .slice none 0 0, .bool s.closed]), .int .i64 x] W fun e w' => e = .returned (.bool (holdsL s.a x)) ∧ Below W.heap.size W w' := fun W => ref10_holds W A c AG nG cG s x x0 x1
  have kh1 : ∀ W, Calls Try.prog 81 #[(.agg #[.int .i64 s.n, .slice A s.L.length c, .slice AG nG cG, .int .u64 (s.a.a.toNat : Int), .int .u64 (s.a.b.toNat : Int), .slice none 0 0, .bool s.closed]), .int .i64 y] W fun e w' => e = .returned (.bool (holdsL s.a y)) ∧ Below W.heap.size W w' := fun W => ref10_holds W A c AG nG cG s y y0 y1
  have kh2 : ∀ W, Calls Try.prog 81 #[(.agg #[.int .i64 s.n, .slice A s.L.length c, .slice AG nG cG, .int .u64 (s.a.a.toNat : Int), .int .u64 (s.a.b.toNat : Int), .slice none 0 0, .bool s.closed]), .int .i64 z] W fun e w' => e = .returned (.bool (holdsL s.a z)) ∧ Below W.heap.size W w' := fun W => ref10_holds W A c AG nG cG s z z0 z1
  rw [hx] at kh0
  generalize holdsL s.a y = b1 at *
  generalize holdsL s.a z = b2 at *
  refine sx_enter (args := [.agg #[.int .i64 s.n, .slice A s.L.length c, .slice AG nG cG, .int .u64 (s.a.a.toNat : Int), .int .u64 (s.a.b.toNat : Int), .slice none 0 0, .bool s.closed], .agg #[.int .i64 8, .int .i64 gl, .slice AI nI kI], .slice (some ⟨gi, 0, none⟩) 3 cI]) Try.func66 rfl rfl (by simp) ?_
  refine cw_seq (fun FK1 K1 => ?_)
  refine cw_region ?_
  refine wl_new (fun ρ e => ex_boxState (e _ _ rfl)) rfl rfl (fun g2 w3 jb4 jk5 jg6 js7 => ?_)
  refine wl_new (fun ρ e => ex_boxGate (e _ _ rfl)) rfl rfl (fun g8 w9 jb10 jk11 jg12 js13 => ?_)
  refine wl_new (fun ρ e => ex_allocState) rfl rfl (fun g14 w15 jb16 jk17 jg18 js19 => ?_)
  have hb : Below w.heap.size w w15 := ((jb4.trans (jb10.mono jb4.size)).trans (jb16.mono (Nat.le_trans jb4.size jb10.size)))
  have gs : GSt Av base w g2 g14 AG nG cG bi (.slice (some ⟨gi, 0, none⟩) 3 cI) [x, y, z] s A c w15 := GSt.start w _ hb ((jk5.keep jb10).keep jb16) jk17 hown hin
  have hkg := jk11.keep jb16
  have hne : g2 ≠ g14 := by omega
  have h1 : w.heap.size ≤ g2 := by omega
  have h3 : w.heap.size ≤ g14 := by omega
  refine wl_val (v := .int .i64 0) (fun ρ e => ex_assign (e _ _ rfl)) rfl rfl ?_
  refine wl_nil ?_
  refine xw_next K1 ?_
  refine cw_seq (fun FK20 K20 => ?_)
  refine cw_region ?_
  refine wl_val (v := .int .i64 0) (fun ρ e => ex_assign (e _ _ rfl)) rfl rfl ?_
  refine wl_nil ?_
  refine xw_next K20 ?_
  refine cw_seq (fun FK21 K21 => ?_)
  refine cw_seq (fun FK22 K22 => ?_)
  refine cw_region ?_
  refine wl_val (v := .pointer (some ⟨g8, 0, none⟩)) (fun ρ e => ex_kind (g := g8) (o := 0) (e _ _ rfl)) rfl rfl ?_
  refine wl_val (v := .int .i64 8) (fun ρ e => ex_int (p := ⟨g8, 0, none⟩) (e _ _ rfl) (hkg.cell 0)) rfl rfl ?_
  refine wl_nil ?_
  refine xw_next K22 ?_
  refine cw_block ?_
  refine cw_seq (fun FK23 K23 => ?_)
  refine cw_region ?_
  refine wl_val (v := .bool false) (fun ρ e => ex_eql0 (u := 8) (v := 2) (e _ _ rfl) (e _ _ rfl) (by omega)) rfl rfl ?_
  refine wl_val (v := .bool false) (fun ρ e => ex_assign (e _ _ rfl)) rfl rfl ?_
  refine wl_nil ?_
  refine xw_next K23 ?_
  refine cw_false rfl ?_
  refine cw_seq (fun FK24 K24 => ?_)
  refine cw_region ?_
  refine wl_val (v := .bool false) (fun ρ e => ex_eql0 (u := 8) (v := 0) (e _ _ rfl) (e _ _ rfl) (by omega)) rfl rfl ?_
  refine wl_val (v := .bool false) (fun ρ e => ex_assign (e _ _ rfl)) rfl rfl ?_
  refine wl_nil ?_
  refine xw_next K24 ?_
  refine cw_false rfl ?_
  refine cw_seq (fun FK25 K25 => ?_)
  refine cw_region ?_
  refine wl_val (v := .bool false) (fun ρ e => ex_eql0 (u := 8) (v := 1) (e _ _ rfl) (e _ _ rfl) (by omega)) rfl rfl ?_
  refine wl_val (v := .bool false) (fun ρ e => ex_assign (e _ _ rfl)) rfl rfl ?_
  refine wl_nil ?_
  refine xw_next K25 ?_
  refine cw_false rfl ?_
  refine cw_seq (fun FK26 K26 => ?_)
  refine cw_region ?_
  refine wl_val (v := .bool false) (fun ρ e => ex_eql0 (u := 8) (v := 3) (e _ _ rfl) (e _ _ rfl) (by omega)) rfl rfl ?_
  refine wl_val (v := .bool false) (fun ρ e => ex_assign (e _ _ rfl)) rfl rfl ?_
  refine wl_nil ?_
  refine xw_next K26 ?_
  refine cw_false rfl ?_
  refine cw_seq (fun FK27 K27 => ?_)
  refine cw_region ?_
  refine wl_val (v := .bool false) (fun ρ e => ex_eql0 (u := 8) (v := 4) (e _ _ rfl) (e _ _ rfl) (by omega)) rfl rfl ?_
  refine wl_val (v := .bool false) (fun ρ e => ex_assign (e _ _ rfl)) rfl rfl ?_
  refine wl_nil ?_
  refine xw_next K27 ?_
  refine cw_false rfl ?_
  refine cw_seq (fun FK28 K28 => ?_)
  refine cw_region ?_
  refine wl_val (v := .bool false) (fun ρ e => ex_eql0 (u := 8) (v := 5) (e _ _ rfl) (e _ _ rfl) (by omega)) rfl rfl ?_
  refine wl_val (v := .bool false) (fun ρ e => ex_assign (e _ _ rfl)) rfl rfl ?_
  refine wl_nil ?_
  refine xw_next K28 ?_
  refine cw_false rfl ?_
  refine cw_seq (fun FK29 K29 => ?_)
  refine cw_region ?_
  refine wl_val (v := .bool false) (fun ρ e => ex_eql0 (u := 8) (v := 6) (e _ _ rfl) (e _ _ rfl) (by omega)) rfl rfl ?_
  refine wl_val (v := .bool false) (fun ρ e => ex_assign (e _ _ rfl)) rfl rfl ?_
  refine wl_nil ?_
  refine xw_next K29 ?_
  refine cw_false rfl ?_
  refine cw_seq (fun FK30 K30 => ?_)
  refine cw_region ?_
  refine wl_val (v := .bool false) (fun ρ e => ex_eql0 (u := 8) (v := 7) (e _ _ rfl) (e _ _ rfl) (by omega)) rfl rfl ?_
  refine wl_val (v := .bool false) (fun ρ e => ex_assign (e _ _ rfl)) rfl rfl ?_
  refine wl_nil ?_
  refine xw_next K30 ?_
  refine cw_false rfl ?_
  refine cw_skip ?_
  refine xw_block ?_
  refine xw_next K21 ?_
  refine cw_seq (fun FK31 K31 => ?_)
  refine cw_drawn (fun W => Blk W g2 63 #[.int .i64 s.n, .slice A s.L.length c, .slice AG nG cG, .int .u64 (s.a.a.toNat : Int), .int .u64 (s.a.b.toNat : Int), .slice none 0 0, .bool s.closed] ∧ OwnInts W bi (.slice (some ⟨gi, 0, none⟩) 3 cI) [x, y, z] ∧ Blk W g8 44 #[.int .i64 8, .int .i64 gl, .slice AI nI kI]) 5 [(0, 0), (1, 1), (2, 1), (3, 0), (4, 2), (5, 3)] (by kernel_rfl) (by kernel_rfl) (PQ.then_ PQ.body) (⟨gs.drew.1, gs.drew.2.2.2.1, hkg.drew⟩) ?_
  replace gs := gs.drew
  replace hkg := hkg.drew
  refine wt0 (v := .agg #[.int .i64 s.n, .slice A s.L.length c, .slice AG nG cG, .int .u64 (s.a.a.toNat : Int), .int .u64 (s.a.b.toNat : Int), .slice none 0 0, .bool s.closed]) rfl (fun ρ e W hW => ex_state (g := g2) (e _ _ rfl) hW.1) rfl rfl ?_
  refine wt1 (v := .slice (some ⟨gi, 0, none⟩) 3 cI) rfl (fun ρ e W => ex_move (e _ _ rfl)) rfl rfl ?_
  refine wt1 (v := .pointer (some ⟨gi, 2, none⟩)) rfl (fun ρ e W => ex_index0 (g := gi) (n := 3) (c := cI) (i := 2) (e _ _ rfl) (e _ _ rfl) (by omega)) rfl rfl ?_
  refine wt0 (v := .int .i64 z) rfl (fun ρ e W hW => ex_int (p := ⟨gi, 2, none⟩) (e _ _ rfl) (ints_cell hW.2.1 _ _ rfl)) rfl rfl ?_
  refine wt2_call (args := [.agg #[.int .i64 s.n, .slice A s.L.length c, .slice AG nG cG, .int .u64 (s.a.a.toNat : Int), .int .u64 (s.a.b.toNat : Int), .slice none 0 0, .bool s.closed], .int .i64 z]) rfl in_holds rfl rfl rfl ?_
  refine (kh2 _).mono ?_
  rintro _ w32 ⟨rfl, hb5⟩
  replace gs := gs.below hb5
  replace hkg := hkg.keep hb5
  refine ⟨_, rfl, ⟨gs.1, gs.2.2.2.1, hkg⟩, ?_⟩
  refine wt3 (v := .bool b2) rfl (fun ρ e => ex_assign (e _ _ rfl)) rfl rfl ?_
  refine wt_nil ?_
  refine xw_next K31 ?_
  refine cw_seq (fun FK33 K33 => ?_)
  refine cw_seq (fun FK34 K34 => ?_)
  refine cw_drawn (fun W => Blk W g2 63 #[.int .i64 s.n, .slice A s.L.length c, .slice AG nG cG, .int .u64 (s.a.a.toNat : Int), .int .u64 (s.a.b.toNat : Int), .slice none 0 0, .bool s.closed] ∧ OwnInts W bi (.slice (some ⟨gi, 0, none⟩) 3 cI) [x, y, z] ∧ Blk W g8 44 #[.int .i64 8, .int .i64 gl, .slice AI nI kI]) 5 [(0, 0), (1, 1), (2, 1), (3, 0), (4, 2)] (by kernel_rfl) (by kernel_rfl) (PQ.then_ (PQ.then_ PQ.body)) (⟨gs.drew.1, gs.drew.2.2.2.1, hkg.drew⟩) ?_
  replace gs := gs.drew
  replace hkg := hkg.drew
  refine wt0 (v := .agg #[.int .i64 s.n, .slice A s.L.length c, .slice AG nG cG, .int .u64 (s.a.a.toNat : Int), .int .u64 (s.a.b.toNat : Int), .slice none 0 0, .bool s.closed]) rfl (fun ρ e W hW => ex_state (g := g2) (e _ _ rfl) hW.1) rfl rfl ?_
  refine wt1 (v := .slice (some ⟨gi, 0, none⟩) 3 cI) rfl (fun ρ e W => ex_move (e _ _ rfl)) rfl rfl ?_
  refine wt1 (v := .pointer (some ⟨gi, 0, none⟩)) rfl (fun ρ e W => ex_index0 (g := gi) (n := 3) (c := cI) (i := 0) (e _ _ rfl) (e _ _ rfl) (by omega)) rfl rfl ?_
  refine wt0 (v := .int .i64 x) rfl (fun ρ e W hW => ex_int (p := ⟨gi, 0, none⟩) (e _ _ rfl) (ints_cell hW.2.1 _ _ rfl)) rfl rfl ?_
  refine wt2_call (args := [.agg #[.int .i64 s.n, .slice A s.L.length c, .slice AG nG cG, .int .u64 (s.a.a.toNat : Int), .int .u64 (s.a.b.toNat : Int), .slice none 0 0, .bool s.closed], .int .i64 x]) rfl in_holds rfl rfl rfl ?_
  refine (kh0 _).mono ?_
  rintro _ w35 ⟨rfl, hb5⟩
  replace gs := gs.below hb5
  replace hkg := hkg.keep hb5
  refine ⟨_, rfl, ⟨gs.1, gs.2.2.2.1, hkg⟩, ?_⟩
  refine wt_nil ?_
  refine xw_next K34 ?_
  refine cw_true rfl ?_
  refine cw_drawn (fun W => Blk W g2 63 #[.int .i64 s.n, .slice A s.L.length c, .slice AG nG cG, .int .u64 (s.a.a.toNat : Int), .int .u64 (s.a.b.toNat : Int), .slice none 0 0, .bool s.closed] ∧ OwnInts W bi (.slice (some ⟨gi, 0, none⟩) 3 cI) [x, y, z] ∧ Blk W g8 44 #[.int .i64 8, .int .i64 gl, .slice AI nI kI]) 5 [(0, 0), (1, 1), (2, 1), (3, 0), (4, 2), (5, 3)] (by kernel_rfl) (by kernel_rfl) (PQ.then_ PQ.body) (⟨gs.drew.1, gs.drew.2.2.2.1, hkg.drew⟩) ?_
  replace gs := gs.drew
  replace hkg := hkg.drew
  refine wt0 (v := .agg #[.int .i64 s.n, .slice A s.L.length c, .slice AG nG cG, .int .u64 (s.a.a.toNat : Int), .int .u64 (s.a.b.toNat : Int), .slice none 0 0, .bool s.closed]) rfl (fun ρ e W hW => ex_state (g := g2) (e _ _ rfl) hW.1) rfl rfl ?_
  refine wt1 (v := .slice (some ⟨gi, 0, none⟩) 3 cI) rfl (fun ρ e W => ex_move (e _ _ rfl)) rfl rfl ?_
  refine wt1 (v := .pointer (some ⟨gi, 1, none⟩)) rfl (fun ρ e W => ex_index0 (g := gi) (n := 3) (c := cI) (i := 1) (e _ _ rfl) (e _ _ rfl) (by omega)) rfl rfl ?_
  refine wt0 (v := .int .i64 y) rfl (fun ρ e W hW => ex_int (p := ⟨gi, 1, none⟩) (e _ _ rfl) (ints_cell hW.2.1 _ _ rfl)) rfl rfl ?_
  refine wt2_call (args := [.agg #[.int .i64 s.n, .slice A s.L.length c, .slice AG nG cG, .int .u64 (s.a.a.toNat : Int), .int .u64 (s.a.b.toNat : Int), .slice none 0 0, .bool s.closed], .int .i64 y]) rfl in_holds rfl rfl rfl ?_
  refine (kh1 _).mono ?_
  rintro _ w36 ⟨rfl, hb5⟩
  replace gs := gs.below hb5
  replace hkg := hkg.keep hb5
  refine ⟨_, rfl, ⟨gs.1, gs.2.2.2.1, hkg⟩, ?_⟩
  refine wt3 (v := .bool b1) rfl (fun ρ e => ex_assign (e _ _ rfl)) rfl rfl ?_
  refine wt_nil ?_
  refine xw_next K33 ?_
  refine cw_seq (fun FK37 K37 => ?_)
  refine cw_region ?_
  refine wl_val (v := .agg #[.int .i64 s.n, .slice A s.L.length c, .slice AG nG cG, .int .u64 (s.a.a.toNat : Int), .int .u64 (s.a.b.toNat : Int), .slice none 0 0, .bool s.closed]) (fun ρ e => ex_state (g := g2) (e _ _ rfl) gs.1) rfl rfl ?_
  refine wl_val (v := .bool b1) (fun ρ e => ex_move (e _ _ rfl)) rfl rfl ?_
  refine wl_call (args := [.agg #[.int .i64 s.n, .slice A s.L.length c, .slice AG nG cG, .int .u64 (s.a.a.toNat : Int), .int .u64 (s.a.b.toNat : Int), .slice none 0 0, .bool s.closed], .bool b1]) in_fresh rfl rfl rfl ?_
  refine (ref10_fresh _ A c AG nG cG s s1 v b1 hs1 hv hn0 (by omega)).mono ?_
  rintro _ w38 ⟨rfl, hb5⟩
  replace gs := gs.below hb5
  replace hkg := hkg.keep hb5
  have gm := gs.freshmid (s' := s1) hl1
  refine ⟨_, rfl, ?_⟩
  refine wl_val (v := .tuple #[.agg #[.int .i64 s1.n, .slice A s1.L.length c, .slice AG nG cG, .int .u64 (s1.a.a.toNat : Int), .int .u64 (s1.a.b.toNat : Int), .slice none 0 0, .bool s1.closed], .int .i64 v]) (fun ρ e => ex_move (e _ _ rfl)) rfl rfl ?_
  refine wl_val (v := .agg #[.int .i64 s1.n, .slice A s1.L.length c, .slice AG nG cG, .int .u64 (s1.a.a.toNat : Int), .int .u64 (s1.a.b.toNat : Int), .slice none 0 0, .bool s1.closed]) (fun ρ e => ex_extract (vs := #[.agg #[.int .i64 s1.n, .slice A s1.L.length c, .slice AG nG cG, .int .u64 (s1.a.a.toNat : Int), .int .u64 (s1.a.b.toNat : Int), .slice none 0 0, .bool s1.closed], .int .i64 v]) (e _ _ rfl) rfl) rfl rfl ?_
  refine wl_val (v := .int .i64 v) (fun ρ e => ex_extract (vs := #[.agg #[.int .i64 s1.n, .slice A s1.L.length c, .slice AG nG cG, .int .u64 (s1.a.a.toNat : Int), .int .u64 (s1.a.b.toNat : Int), .slice none 0 0, .bool s1.closed], .int .i64 v]) (e _ _ rfl) rfl) rfl rfl ?_
  refine wl_none (fun ρ e => ex_storeState (A := A) (c := c) (s := s1) (AG := AG) (nG := nG) (cG := cG) (e _ _ rfl) (e _ _ rfl) gm.1) rfl ?_
  replace gs := gm.put hne.symm h1
  replace hkg := put7_far (g := g2) (AG := AG) (nG := nG) (cG := cG) (s := s1) (A := A) (c := c) hkg (by omega)
  clear gm
  refine wl_val (v := .int .i64 v) (fun ρ e => ex_assign (e _ _ rfl)) rfl rfl ?_
  refine wl_nil ?_
  refine xw_next K37 ?_
  refine cw_seq (fun FK39 K39 => ?_)
  refine cw_drawn (fun W => Blk W g2 63 #[.int .i64 s1.n, .slice A s1.L.length c, .slice AG nG cG, .int .u64 (s1.a.a.toNat : Int), .int .u64 (s1.a.b.toNat : Int), .slice none 0 0, .bool s1.closed] ∧ OwnInts W bi (.slice (some ⟨gi, 0, none⟩) 3 cI) [x, y, z] ∧ Blk W g8 44 #[.int .i64 8, .int .i64 gl, .slice AI nI kI]) 12 [(0, 0), (1, 1), (2, 1), (3, 1), (4, 1), (5, 0), (6, 1), (7, 1), (8, 1), (9, 0), (10, 2), (11, 2), (12, 3)] (by kernel_rfl) (by kernel_rfl) (PQ.then_ PQ.body) (⟨gs.drew.1, gs.drew.2.2.2.1, hkg.drew⟩) ?_
  replace gs := gs.drew
  replace hkg := hkg.drew
  refine wt0 (v := .agg #[.int .i64 s1.n, .slice A s1.L.length c, .slice AG nG cG, .int .u64 (s1.a.a.toNat : Int), .int .u64 (s1.a.b.toNat : Int), .slice none 0 0, .bool s1.closed]) rfl (fun ρ e W hW => ex_state (g := g2) (e _ _ rfl) hW.1) rfl rfl ?_
  refine wt1 (v := .int .i64 v) rfl (fun ρ e W => ex_move (e _ _ rfl)) rfl rfl ?_
  refine wt1 (v := .int .i64 (-v)) rfl (fun ρ e W => ex_neg (e _ _ rfl) (wrap_in (by omega) (by omega))) rfl rfl ?_
  refine wt1 (v := .slice (some ⟨gi, 0, none⟩) 3 cI) rfl (fun ρ e W => ex_move (e _ _ rfl)) rfl rfl ?_
  refine wt1 (v := .pointer (some ⟨gi, 0, none⟩)) rfl (fun ρ e W => ex_index0 (g := gi) (n := 3) (c := cI) (i := 0) (e _ _ rfl) (e _ _ rfl) (by omega)) rfl rfl ?_
  refine wt0 (v := .int .i64 x) rfl (fun ρ e W hW => ex_int (p := ⟨gi, 0, none⟩) (e _ _ rfl) (ints_cell hW.2.1 _ _ rfl)) rfl rfl ?_
  refine wt1 (v := .int .i64 (-x)) rfl (fun ρ e W => ex_neg (e _ _ rfl) (wrap_in (by omega) (by omega))) rfl rfl ?_
  refine wt1 (v := .slice (some ⟨gi, 0, none⟩) 3 cI) rfl (fun ρ e W => ex_move (e _ _ rfl)) rfl rfl ?_
  refine wt1 (v := .pointer (some ⟨gi, 1, none⟩)) rfl (fun ρ e W => ex_index0 (g := gi) (n := 3) (c := cI) (i := 1) (e _ _ rfl) (e _ _ rfl) (by omega)) rfl rfl ?_
  refine wt0 (v := .int .i64 y) rfl (fun ρ e W hW => ex_int (p := ⟨gi, 1, none⟩) (e _ _ rfl) (ints_cell hW.2.1 _ _ rfl)) rfl rfl ?_
  refine wt2_newslice rfl (fun ρ e => ex_build3 (v0 := (-v)) (v1 := (-x)) (v2 := y) (e _ _ rfl) (e _ _ rfl) (e _ _ rfl)) rfl rfl (fun gn40 w45 jb41 jk42 jg43 js44 => ?_)
  have hsz := gs.2.2.2.2.size
  replace gs := gs.below jb41
  replace hkg := hkg.keep jb41
  refine ⟨⟨gs.1, gs.2.2.2.1, hkg⟩, ?_⟩
  refine wt2_call (args := [.agg #[.int .i64 s1.n, .slice A s1.L.length c, .slice AG nG cG, .int .u64 (s1.a.a.toNat : Int), .int .u64 (s1.a.b.toNat : Int), .slice none 0 0, .bool s1.closed], .slice (some ⟨gn40, 0, none⟩) 3 3]) rfl in_add rfl rfl rfl ?_
  refine (ref10_add_new hAv hbase hs2 (by have := gs.2.2.2.2.size; omega) gs jk42 rfl (by simp) (by omega)).mono ?_
  rintro _ w46 ⟨⟨A47, c48, rfl, o5⟩, fr5⟩
  have gm := gs.mid fr5 o5
  replace hkg := fr5.blk hkg (.inl (by decide))
  refine ⟨_, rfl, ⟨gm.1, gm.2.2.2.1, hkg⟩, ?_⟩
  refine wt3_none rfl (fun ρ e => ex_storeState (A := A47) (c := c48) (s := s2) (AG := AG) (nG := nG) (cG := cG) (e _ _ rfl) (e _ _ rfl) gm.1) rfl ?_
  replace gs := gm.put hne.symm h1
  replace hkg := put7_far (g := g2) (AG := AG) (nG := nG) (cG := cG) (s := s2) (A := A47) (c := c48) hkg (by omega)
  clear gm
  refine wt_nil ?_
  refine xw_next K39 ?_
  refine cw_seq (fun FK49 K49 => ?_)
  refine cw_drawn (fun W => Blk W g2 63 #[.int .i64 s2.n, .slice A47 s2.L.length c48, .slice AG nG cG, .int .u64 (s2.a.a.toNat : Int), .int .u64 (s2.a.b.toNat : Int), .slice none 0 0, .bool s2.closed] ∧ OwnInts W bi (.slice (some ⟨gi, 0, none⟩) 3 cI) [x, y, z] ∧ Blk W g8 44 #[.int .i64 8, .int .i64 gl, .slice AI nI kI]) 11 [(0, 0), (1, 1), (2, 1), (3, 1), (4, 1), (5, 0), (6, 1), (7, 1), (8, 0), (9, 2), (10, 2), (11, 3)] (by kernel_rfl) (by kernel_rfl) (PQ.then_ PQ.body) (⟨gs.drew.1, gs.drew.2.2.2.1, hkg.drew⟩) ?_
  replace gs := gs.drew
  replace hkg := hkg.drew
  refine wt0 (v := .agg #[.int .i64 s2.n, .slice A47 s2.L.length c48, .slice AG nG cG, .int .u64 (s2.a.a.toNat : Int), .int .u64 (s2.a.b.toNat : Int), .slice none 0 0, .bool s2.closed]) rfl (fun ρ e W hW => ex_state (g := g2) (e _ _ rfl) hW.1) rfl rfl ?_
  refine wt1 (v := .int .i64 v) rfl (fun ρ e W => ex_move (e _ _ rfl)) rfl rfl ?_
  refine wt1 (v := .int .i64 (-v)) rfl (fun ρ e W => ex_neg (e _ _ rfl) (wrap_in (by omega) (by omega))) rfl rfl ?_
  refine wt1 (v := .slice (some ⟨gi, 0, none⟩) 3 cI) rfl (fun ρ e W => ex_move (e _ _ rfl)) rfl rfl ?_
  refine wt1 (v := .pointer (some ⟨gi, 0, none⟩)) rfl (fun ρ e W => ex_index0 (g := gi) (n := 3) (c := cI) (i := 0) (e _ _ rfl) (e _ _ rfl) (by omega)) rfl rfl ?_
  refine wt0 (v := .int .i64 x) rfl (fun ρ e W hW => ex_int (p := ⟨gi, 0, none⟩) (e _ _ rfl) (ints_cell hW.2.1 _ _ rfl)) rfl rfl ?_
  refine wt1 (v := .slice (some ⟨gi, 0, none⟩) 3 cI) rfl (fun ρ e W => ex_move (e _ _ rfl)) rfl rfl ?_
  refine wt1 (v := .pointer (some ⟨gi, 2, none⟩)) rfl (fun ρ e W => ex_index0 (g := gi) (n := 3) (c := cI) (i := 2) (e _ _ rfl) (e _ _ rfl) (by omega)) rfl rfl ?_
  refine wt0 (v := .int .i64 z) rfl (fun ρ e W hW => ex_int (p := ⟨gi, 2, none⟩) (e _ _ rfl) (ints_cell hW.2.1 _ _ rfl)) rfl rfl ?_
  refine wt2_newslice rfl (fun ρ e => ex_build3 (v0 := (-v)) (v1 := x) (v2 := z) (e _ _ rfl) (e _ _ rfl) (e _ _ rfl)) rfl rfl (fun gn50 w55 jb51 jk52 jg53 js54 => ?_)
  have hsz := gs.2.2.2.2.size
  replace gs := gs.below jb51
  replace hkg := hkg.keep jb51
  refine ⟨⟨gs.1, gs.2.2.2.1, hkg⟩, ?_⟩
  refine wt2_call (args := [.agg #[.int .i64 s2.n, .slice A47 s2.L.length c48, .slice AG nG cG, .int .u64 (s2.a.a.toNat : Int), .int .u64 (s2.a.b.toNat : Int), .slice none 0 0, .bool s2.closed], .slice (some ⟨gn50, 0, none⟩) 3 3]) rfl in_add rfl rfl rfl ?_
  refine (ref10_add_new hAv hbase hs3 (by have := gs.2.2.2.2.size; omega) gs jk52 rfl (by simp) (by omega)).mono ?_
  rintro _ w56 ⟨⟨A57, c58, rfl, o5⟩, fr5⟩
  have gm := gs.mid fr5 o5
  replace hkg := fr5.blk hkg (.inl (by decide))
  refine ⟨_, rfl, ⟨gm.1, gm.2.2.2.1, hkg⟩, ?_⟩
  refine wt3_none rfl (fun ρ e => ex_storeState (A := A57) (c := c58) (s := s3) (AG := AG) (nG := nG) (cG := cG) (e _ _ rfl) (e _ _ rfl) gm.1) rfl ?_
  replace gs := gm.put hne.symm h1
  replace hkg := put7_far (g := g2) (AG := AG) (nG := nG) (cG := cG) (s := s3) (A := A57) (c := c58) hkg (by omega)
  clear gm
  refine wt_nil ?_
  refine xw_next K49 ?_
  refine cw_seq (fun FK59 K59 => ?_)
  refine cw_drawn (fun W => Blk W g2 63 #[.int .i64 s3.n, .slice A57 s3.L.length c58, .slice AG nG cG, .int .u64 (s3.a.a.toNat : Int), .int .u64 (s3.a.b.toNat : Int), .slice none 0 0, .bool s3.closed] ∧ OwnInts W bi (.slice (some ⟨gi, 0, none⟩) 3 cI) [x, y, z] ∧ Blk W g8 44 #[.int .i64 8, .int .i64 gl, .slice AI nI kI]) 12 [(0, 0), (1, 1), (2, 1), (3, 1), (4, 0), (5, 1), (6, 1), (7, 1), (8, 0), (9, 1), (10, 2), (11, 2), (12, 3)] (by kernel_rfl) (by kernel_rfl) (PQ.then_ PQ.body) (⟨gs.drew.1, gs.drew.2.2.2.1, hkg.drew⟩) ?_
  replace gs := gs.drew
  replace hkg := hkg.drew
  refine wt0 (v := .agg #[.int .i64 s3.n, .slice A57 s3.L.length c58, .slice AG nG cG, .int .u64 (s3.a.a.toNat : Int), .int .u64 (s3.a.b.toNat : Int), .slice none 0 0, .bool s3.closed]) rfl (fun ρ e W hW => ex_state (g := g2) (e _ _ rfl) hW.1) rfl rfl ?_
  refine wt1 (v := .int .i64 v) rfl (fun ρ e W => ex_move (e _ _ rfl)) rfl rfl ?_
  refine wt1 (v := .slice (some ⟨gi, 0, none⟩) 3 cI) rfl (fun ρ e W => ex_move (e _ _ rfl)) rfl rfl ?_
  refine wt1 (v := .pointer (some ⟨gi, 0, none⟩)) rfl (fun ρ e W => ex_index0 (g := gi) (n := 3) (c := cI) (i := 0) (e _ _ rfl) (e _ _ rfl) (by omega)) rfl rfl ?_
  refine wt0 (v := .int .i64 x) rfl (fun ρ e W hW => ex_int (p := ⟨gi, 0, none⟩) (e _ _ rfl) (ints_cell hW.2.1 _ _ rfl)) rfl rfl ?_
  refine wt1 (v := .int .i64 (-x)) rfl (fun ρ e W => ex_neg (e _ _ rfl) (wrap_in (by omega) (by omega))) rfl rfl ?_
  refine wt1 (v := .slice (some ⟨gi, 0, none⟩) 3 cI) rfl (fun ρ e W => ex_move (e _ _ rfl)) rfl rfl ?_
  refine wt1 (v := .pointer (some ⟨gi, 1, none⟩)) rfl (fun ρ e W => ex_index0 (g := gi) (n := 3) (c := cI) (i := 1) (e _ _ rfl) (e _ _ rfl) (by omega)) rfl rfl ?_
  refine wt0 (v := .int .i64 y) rfl (fun ρ e W hW => ex_int (p := ⟨gi, 1, none⟩) (e _ _ rfl) (ints_cell hW.2.1 _ _ rfl)) rfl rfl ?_
  refine wt1 (v := .int .i64 (-y)) rfl (fun ρ e W => ex_neg (e _ _ rfl) (wrap_in (by omega) (by omega))) rfl rfl ?_
  refine wt2_newslice rfl (fun ρ e => ex_build3 (v0 := v) (v1 := (-x)) (v2 := (-y)) (e _ _ rfl) (e _ _ rfl) (e _ _ rfl)) rfl rfl (fun gn60 w65 jb61 jk62 jg63 js64 => ?_)
  have hsz := gs.2.2.2.2.size
  replace gs := gs.below jb61
  replace hkg := hkg.keep jb61
  refine ⟨⟨gs.1, gs.2.2.2.1, hkg⟩, ?_⟩
  refine wt2_call (args := [.agg #[.int .i64 s3.n, .slice A57 s3.L.length c58, .slice AG nG cG, .int .u64 (s3.a.a.toNat : Int), .int .u64 (s3.a.b.toNat : Int), .slice none 0 0, .bool s3.closed], .slice (some ⟨gn60, 0, none⟩) 3 3]) rfl in_add rfl rfl rfl ?_
  refine (ref10_add_new hAv hbase hs4 (by have := gs.2.2.2.2.size; omega) gs jk62 rfl (by simp) (by omega)).mono ?_
  rintro _ w66 ⟨⟨A67, c68, rfl, o5⟩, fr5⟩
  have gm := gs.mid fr5 o5
  replace hkg := fr5.blk hkg (.inl (by decide))
  refine ⟨_, rfl, ⟨gm.1, gm.2.2.2.1, hkg⟩, ?_⟩
  refine wt3_none rfl (fun ρ e => ex_storeState (A := A67) (c := c68) (s := s4) (AG := AG) (nG := nG) (cG := cG) (e _ _ rfl) (e _ _ rfl) gm.1) rfl ?_
  replace gs := gm.put hne.symm h1
  replace hkg := put7_far (g := g2) (AG := AG) (nG := nG) (cG := cG) (s := s4) (A := A67) (c := c68) hkg (by omega)
  clear gm
  refine wt_nil ?_
  refine xw_next K59 ?_
  refine cw_seq (fun FK69 K69 => ?_)
  refine cw_drawn (fun W => Blk W g2 63 #[.int .i64 s4.n, .slice A67 s4.L.length c68, .slice AG nG cG, .int .u64 (s4.a.a.toNat : Int), .int .u64 (s4.a.b.toNat : Int), .slice none 0 0, .bool s4.closed] ∧ OwnInts W bi (.slice (some ⟨gi, 0, none⟩) 3 cI) [x, y, z] ∧ Blk W g8 44 #[.int .i64 8, .int .i64 gl, .slice AI nI kI]) 12 [(0, 0), (1, 1), (2, 1), (3, 1), (4, 0), (5, 1), (6, 1), (7, 0), (8, 1), (11, 1), (9, 2), (10, 2), (12, 3), (13, 3)] (by kernel_rfl) (by kernel_rfl) (PQ.then_ PQ.body) (⟨gs.drew.1, gs.drew.2.2.2.1, hkg.drew⟩) ?_
  replace gs := gs.drew
  replace hkg := hkg.drew
  refine wt0 (v := .agg #[.int .i64 s4.n, .slice A67 s4.L.length c68, .slice AG nG cG, .int .u64 (s4.a.a.toNat : Int), .int .u64 (s4.a.b.toNat : Int), .slice none 0 0, .bool s4.closed]) rfl (fun ρ e W hW => ex_state (g := g2) (e _ _ rfl) hW.1) rfl rfl ?_
  refine wt1 (v := .int .i64 v) rfl (fun ρ e W => ex_move (e _ _ rfl)) rfl rfl ?_
  refine wt1 (v := .slice (some ⟨gi, 0, none⟩) 3 cI) rfl (fun ρ e W => ex_move (e _ _ rfl)) rfl rfl ?_
  refine wt1 (v := .pointer (some ⟨gi, 0, none⟩)) rfl (fun ρ e W => ex_index0 (g := gi) (n := 3) (c := cI) (i := 0) (e _ _ rfl) (e _ _ rfl) (by omega)) rfl rfl ?_
  refine wt0 (v := .int .i64 x) rfl (fun ρ e W hW => ex_int (p := ⟨gi, 0, none⟩) (e _ _ rfl) (ints_cell hW.2.1 _ _ rfl)) rfl rfl ?_
  refine wt1 (v := .slice (some ⟨gi, 0, none⟩) 3 cI) rfl (fun ρ e W => ex_move (e _ _ rfl)) rfl rfl ?_
  refine wt1 (v := .pointer (some ⟨gi, 2, none⟩)) rfl (fun ρ e W => ex_index0 (g := gi) (n := 3) (c := cI) (i := 2) (e _ _ rfl) (e _ _ rfl) (by omega)) rfl rfl ?_
  refine wt0 (v := .int .i64 z) rfl (fun ρ e W hW => ex_int (p := ⟨gi, 2, none⟩) (e _ _ rfl) (ints_cell hW.2.1 _ _ rfl)) rfl rfl ?_
  refine wt1 (v := .int .i64 (-z)) rfl (fun ρ e W => ex_neg (e _ _ rfl) (wrap_in (by omega) (by omega))) rfl rfl ?_
  refine wt1 (v := .int .i64 v) rfl (fun ρ e W => ex_move (e _ _ rfl)) rfl rfl ?_
  refine wt2_newslice rfl (fun ρ e => ex_build3 (v0 := v) (v1 := x) (v2 := (-z)) (e _ _ rfl) (e _ _ rfl) (e _ _ rfl)) rfl rfl (fun gn70 w75 jb71 jk72 jg73 js74 => ?_)
  have hsz := gs.2.2.2.2.size
  replace gs := gs.below jb71
  replace hkg := hkg.keep jb71
  refine ⟨⟨gs.1, gs.2.2.2.1, hkg⟩, ?_⟩
  refine wt2_call (args := [.agg #[.int .i64 s4.n, .slice A67 s4.L.length c68, .slice AG nG cG, .int .u64 (s4.a.a.toNat : Int), .int .u64 (s4.a.b.toNat : Int), .slice none 0 0, .bool s4.closed], .slice (some ⟨gn70, 0, none⟩) 3 3]) rfl in_add rfl rfl rfl ?_
  refine (ref10_add_new hAv hbase hs5 (by have := gs.2.2.2.2.size; omega) gs jk72 rfl (by simp) (by omega)).mono ?_
  rintro _ w76 ⟨⟨A77, c78, rfl, o5⟩, fr5⟩
  have gm := gs.mid fr5 o5
  replace hkg := fr5.blk hkg (.inl (by decide))
  refine ⟨_, rfl, ⟨gm.1, gm.2.2.2.1, hkg⟩, ?_⟩
  refine wt3_none rfl (fun ρ e => ex_storeState (A := A77) (c := c78) (s := s') (AG := AG) (nG := nG) (cG := cG) (e _ _ rfl) (e _ _ rfl) gm.2.1) rfl ?_
  have ge := gm.fin h3
  refine wt3 (v := .int .i64 v) rfl (fun ρ e => ex_assign (e _ _ rfl)) rfl rfl ?_
  refine wt_nil ?_
  refine xw_next K69 ?_
  refine cw_ret ?_
  refine xw_ret (v := .tuple #[.agg #[.int .i64 s'.n, .slice A77 s'.L.length c78, .slice AG nG cG, .int .u64 (s'.a.a.toNat : Int), .int .u64 (s'.a.b.toNat : Int), .slice none 0 0, .bool s'.closed], .int .i64 v]) (fun T hT => ?_) ⟨⟨A77, c78, rfl, ge.2.1⟩, ge.2.2⟩
  have t6 := hT 6 _ rfl
  have t7 := hT 7 _ rfl
  have r0 := ge.1.cell 0
  have r1 := ge.1.cell 1
  have r2 := ge.1.cell 2
  have r3 := ge.1.cell 3
  have r4 := ge.1.cell 4
  have r5 := ge.1.cell 5
  have r6 := ge.1.cell 6
  simp at r0 r1 r2 r3 r4 r5 r6
  simp [results, Try.results66, go_sem, t6, t7, r0, r1, r2, r3, r4, r5, r6]

set_option maxRecDepth 100000 in
set_option maxHeartbeats 1600000 in
theorem g10_if_false (w : World) {Av : Nat → Prop} (hAv : AvOk Av w) (base bi : Nat) (hbase : base ≤ w.heap.size) (A : Option Addr) (c : Nat) (AG : Option Addr) (nG cG : Nat) (s s' : RS) (x y z : Int) (v gl : Int) (AI : Option Addr) (nI kI : Nat) (gi cI : Nat) (hin : OwnInts w bi (.slice (some ⟨gi, 0, none⟩) 3 cI) [x, y, z]) (hcond : holdsL s.a x = false) (hs' : s.gate 8 gl [x, y, z] = (s', v)) (hn0 : 0 ≤ s.n) (hn1 : s.n ≤ 900000) (x0 : -1000000 ≤ x) (x1 : x ≤ 1000000) (y0 : -1000000 ≤ y) (y1 : y ≤ 1000000) (z0 : -1000000 ≤ z) (z1 : z ≤ 1000000)
    (hown : OwnRows w Av base (.slice A s.L.length c) s.L) (hL : s.L.length ≤ 900000) :
    Calls Try.prog 66 #[(.agg #[.int .i64 s.n, .slice A s.L.length c, .slice AG nG cG, .int .u64 (s.a.a.toNat : Int), .int .u64 (s.a.b.toNat : Int), .slice none 0 0, .bool s.closed]), .agg #[.int .i64 8, .int .i64 gl, .slice AI nI kI], .slice (some ⟨gi, 0, none⟩) 3 cI] w fun e w' => (∃ A' c', e = .returned (.tuple #[(.agg #[.int .i64 s'.n, .slice A' s'.L.length c', .slice AG nG cG, .int .u64 (s'.a.a.toNat : Int), .int .u64 (s'.a.b.toNat : Int), .slice none 0 0, .bool s'.closed]), .int .i64 v]) ∧ OwnRows w' Av base (.slice A' s'.L.length c') s'.L) ∧ FrR base w w' := by
  have hx : holdsL s.a x = false := hcond
  rw [RS.gate_if, hx] at hs'
  simp only [Bool.false_eq_true, if_false] at hs'
  have hv : v = s.var := by simp only [Prod.mk.injEq] at hs'; exact hs'.2.symm
  obtain ⟨s1, hs1⟩ : ∃ q_, q_ = s.fresh (holdsL s.a z) := ⟨_, rfl⟩
  obtain ⟨s2, hs2⟩ : ∃ q_, q_ = s1.add [-v, -x, y] := ⟨_, rfl⟩
  obtain ⟨s3, hs3⟩ : ∃ q_, q_ = s2.add [-v, x, z] := ⟨_, rfl⟩
  obtain ⟨s4, hs4⟩ : ∃ q_, q_ = s3.add [v, -x, -y] := ⟨_, rfl⟩
  have hs5 : s' = s4.add [v, x, -z] := by simp only [Prod.mk.injEq] at hs'; rw [← hs'.1, hs4, hs3, hs2, hs1, hv]; simp [RS.adds, RS.add]
  have l1 : s1.L.length ≤ 900001 := by rw [hs1]; simp [RS.fresh]; omega
  have l2 : s2.L.length ≤ 900002 := by rw [hs2]; simp [RS.add]; omega
  have l3 : s3.L.length ≤ 900003 := by rw [hs3]; simp [RS.add]; omega
  have l4 : s4.L.length ≤ 900004 := by rw [hs4]; simp [RS.add]; omega
  have hl1 : s1.L = s.L := by rw [hs1]; rfl
  clear hs'
  have v0 : -1000001 ≤ v := by have := hv; unfold RS.var at this; split at this <;> omega
  have v1 : v ≤ 1000001 := by have := hv; unfold RS.var at this; split at this <;> omega
  have kh0 : ∀ W, Calls Try.prog 81 #[(.agg #[.int .i64 s.n, .slice A s.L.length c, .slice AG nG cG, .int .u64 (s.a.a.toNat : Int), .int .u64 (s.a.b.toNat : Int), .slice none 0 0, .bool s.closed]), .int .i64 x] W fun e w' => e = .returned (.bool (holdsL s.a x)) ∧ Below W.heap.size W w' := fun W => ref10_holds W A c AG nG cG s x x0 x1
  have kh1 : ∀ W, Calls Try.prog 81 #[(.agg #[.int .i64 s.n, .slice A s.L.length c, .slice AG nG cG, .int .u64 (s.a.a.toNat : Int), .int .u64 (s.a.b.toNat : Int), .slice none 0 0, .bool s.closed]), .int .i64 y] W fun e w' => e = .returned (.bool (holdsL s.a y)) ∧ Below W.heap.size W w' := fun W => ref10_holds W A c AG nG cG s y y0 y1
  have kh2 : ∀ W, Calls Try.prog 81 #[(.agg #[.int .i64 s.n, .slice A s.L.length c, .slice AG nG cG, .int .u64 (s.a.a.toNat : Int), .int .u64 (s.a.b.toNat : Int), .slice none 0 0, .bool s.closed]), .int .i64 z] W fun e w' => e = .returned (.bool (holdsL s.a z)) ∧ Below W.heap.size W w' := fun W => ref10_holds W A c AG nG cG s z z0 z1
  rw [hx] at kh0
  generalize holdsL s.a y = b1 at *
  generalize holdsL s.a z = b2 at *
  refine sx_enter (args := [.agg #[.int .i64 s.n, .slice A s.L.length c, .slice AG nG cG, .int .u64 (s.a.a.toNat : Int), .int .u64 (s.a.b.toNat : Int), .slice none 0 0, .bool s.closed], .agg #[.int .i64 8, .int .i64 gl, .slice AI nI kI], .slice (some ⟨gi, 0, none⟩) 3 cI]) Try.func66 rfl rfl (by simp) ?_
  refine cw_seq (fun FK1 K1 => ?_)
  refine cw_region ?_
  refine wl_new (fun ρ e => ex_boxState (e _ _ rfl)) rfl rfl (fun g2 w3 jb4 jk5 jg6 js7 => ?_)
  refine wl_new (fun ρ e => ex_boxGate (e _ _ rfl)) rfl rfl (fun g8 w9 jb10 jk11 jg12 js13 => ?_)
  refine wl_new (fun ρ e => ex_allocState) rfl rfl (fun g14 w15 jb16 jk17 jg18 js19 => ?_)
  have hb : Below w.heap.size w w15 := ((jb4.trans (jb10.mono jb4.size)).trans (jb16.mono (Nat.le_trans jb4.size jb10.size)))
  have gs : GSt Av base w g2 g14 AG nG cG bi (.slice (some ⟨gi, 0, none⟩) 3 cI) [x, y, z] s A c w15 := GSt.start w _ hb ((jk5.keep jb10).keep jb16) jk17 hown hin
  have hkg := jk11.keep jb16
  have hne : g2 ≠ g14 := by omega
  have h1 : w.heap.size ≤ g2 := by omega
  have h3 : w.heap.size ≤ g14 := by omega
  refine wl_val (v := .int .i64 0) (fun ρ e => ex_assign (e _ _ rfl)) rfl rfl ?_
  refine wl_nil ?_
  refine xw_next K1 ?_
  refine cw_seq (fun FK20 K20 => ?_)
  refine cw_region ?_
  refine wl_val (v := .int .i64 0) (fun ρ e => ex_assign (e _ _ rfl)) rfl rfl ?_
  refine wl_nil ?_
  refine xw_next K20 ?_
  refine cw_seq (fun FK21 K21 => ?_)
  refine cw_seq (fun FK22 K22 => ?_)
  refine cw_region ?_
  refine wl_val (v := .pointer (some ⟨g8, 0, none⟩)) (fun ρ e => ex_kind (g := g8) (o := 0) (e _ _ rfl)) rfl rfl ?_
  refine wl_val (v := .int .i64 8) (fun ρ e => ex_int (p := ⟨g8, 0, none⟩) (e _ _ rfl) (hkg.cell 0)) rfl rfl ?_
  refine wl_nil ?_
  refine xw_next K22 ?_
  refine cw_block ?_
  refine cw_seq (fun FK23 K23 => ?_)
  refine cw_region ?_
  refine wl_val (v := .bool false) (fun ρ e => ex_eql0 (u := 8) (v := 2) (e _ _ rfl) (e _ _ rfl) (by omega)) rfl rfl ?_
  refine wl_val (v := .bool false) (fun ρ e => ex_assign (e _ _ rfl)) rfl rfl ?_
  refine wl_nil ?_
  refine xw_next K23 ?_
  refine cw_false rfl ?_
  refine cw_seq (fun FK24 K24 => ?_)
  refine cw_region ?_
  refine wl_val (v := .bool false) (fun ρ e => ex_eql0 (u := 8) (v := 0) (e _ _ rfl) (e _ _ rfl) (by omega)) rfl rfl ?_
  refine wl_val (v := .bool false) (fun ρ e => ex_assign (e _ _ rfl)) rfl rfl ?_
  refine wl_nil ?_
  refine xw_next K24 ?_
  refine cw_false rfl ?_
  refine cw_seq (fun FK25 K25 => ?_)
  refine cw_region ?_
  refine wl_val (v := .bool false) (fun ρ e => ex_eql0 (u := 8) (v := 1) (e _ _ rfl) (e _ _ rfl) (by omega)) rfl rfl ?_
  refine wl_val (v := .bool false) (fun ρ e => ex_assign (e _ _ rfl)) rfl rfl ?_
  refine wl_nil ?_
  refine xw_next K25 ?_
  refine cw_false rfl ?_
  refine cw_seq (fun FK26 K26 => ?_)
  refine cw_region ?_
  refine wl_val (v := .bool false) (fun ρ e => ex_eql0 (u := 8) (v := 3) (e _ _ rfl) (e _ _ rfl) (by omega)) rfl rfl ?_
  refine wl_val (v := .bool false) (fun ρ e => ex_assign (e _ _ rfl)) rfl rfl ?_
  refine wl_nil ?_
  refine xw_next K26 ?_
  refine cw_false rfl ?_
  refine cw_seq (fun FK27 K27 => ?_)
  refine cw_region ?_
  refine wl_val (v := .bool false) (fun ρ e => ex_eql0 (u := 8) (v := 4) (e _ _ rfl) (e _ _ rfl) (by omega)) rfl rfl ?_
  refine wl_val (v := .bool false) (fun ρ e => ex_assign (e _ _ rfl)) rfl rfl ?_
  refine wl_nil ?_
  refine xw_next K27 ?_
  refine cw_false rfl ?_
  refine cw_seq (fun FK28 K28 => ?_)
  refine cw_region ?_
  refine wl_val (v := .bool false) (fun ρ e => ex_eql0 (u := 8) (v := 5) (e _ _ rfl) (e _ _ rfl) (by omega)) rfl rfl ?_
  refine wl_val (v := .bool false) (fun ρ e => ex_assign (e _ _ rfl)) rfl rfl ?_
  refine wl_nil ?_
  refine xw_next K28 ?_
  refine cw_false rfl ?_
  refine cw_seq (fun FK29 K29 => ?_)
  refine cw_region ?_
  refine wl_val (v := .bool false) (fun ρ e => ex_eql0 (u := 8) (v := 6) (e _ _ rfl) (e _ _ rfl) (by omega)) rfl rfl ?_
  refine wl_val (v := .bool false) (fun ρ e => ex_assign (e _ _ rfl)) rfl rfl ?_
  refine wl_nil ?_
  refine xw_next K29 ?_
  refine cw_false rfl ?_
  refine cw_seq (fun FK30 K30 => ?_)
  refine cw_region ?_
  refine wl_val (v := .bool false) (fun ρ e => ex_eql0 (u := 8) (v := 7) (e _ _ rfl) (e _ _ rfl) (by omega)) rfl rfl ?_
  refine wl_val (v := .bool false) (fun ρ e => ex_assign (e _ _ rfl)) rfl rfl ?_
  refine wl_nil ?_
  refine xw_next K30 ?_
  refine cw_false rfl ?_
  refine cw_skip ?_
  refine xw_block ?_
  refine xw_next K21 ?_
  refine cw_seq (fun FK31 K31 => ?_)
  refine cw_drawn (fun W => Blk W g2 63 #[.int .i64 s.n, .slice A s.L.length c, .slice AG nG cG, .int .u64 (s.a.a.toNat : Int), .int .u64 (s.a.b.toNat : Int), .slice none 0 0, .bool s.closed] ∧ OwnInts W bi (.slice (some ⟨gi, 0, none⟩) 3 cI) [x, y, z] ∧ Blk W g8 44 #[.int .i64 8, .int .i64 gl, .slice AI nI kI]) 5 [(0, 0), (1, 1), (2, 1), (3, 0), (4, 2), (5, 3)] (by kernel_rfl) (by kernel_rfl) (PQ.then_ PQ.body) (⟨gs.drew.1, gs.drew.2.2.2.1, hkg.drew⟩) ?_
  replace gs := gs.drew
  replace hkg := hkg.drew
  refine wt0 (v := .agg #[.int .i64 s.n, .slice A s.L.length c, .slice AG nG cG, .int .u64 (s.a.a.toNat : Int), .int .u64 (s.a.b.toNat : Int), .slice none 0 0, .bool s.closed]) rfl (fun ρ e W hW => ex_state (g := g2) (e _ _ rfl) hW.1) rfl rfl ?_
  refine wt1 (v := .slice (some ⟨gi, 0, none⟩) 3 cI) rfl (fun ρ e W => ex_move (e _ _ rfl)) rfl rfl ?_
  refine wt1 (v := .pointer (some ⟨gi, 2, none⟩)) rfl (fun ρ e W => ex_index0 (g := gi) (n := 3) (c := cI) (i := 2) (e _ _ rfl) (e _ _ rfl) (by omega)) rfl rfl ?_
  refine wt0 (v := .int .i64 z) rfl (fun ρ e W hW => ex_int (p := ⟨gi, 2, none⟩) (e _ _ rfl) (ints_cell hW.2.1 _ _ rfl)) rfl rfl ?_
  refine wt2_call (args := [.agg #[.int .i64 s.n, .slice A s.L.length c, .slice AG nG cG, .int .u64 (s.a.a.toNat : Int), .int .u64 (s.a.b.toNat : Int), .slice none 0 0, .bool s.closed], .int .i64 z]) rfl in_holds rfl rfl rfl ?_
  refine (kh2 _).mono ?_
  rintro _ w32 ⟨rfl, hb5⟩
  replace gs := gs.below hb5
  replace hkg := hkg.keep hb5
  refine ⟨_, rfl, ⟨gs.1, gs.2.2.2.1, hkg⟩, ?_⟩
  refine wt3 (v := .bool b2) rfl (fun ρ e => ex_assign (e _ _ rfl)) rfl rfl ?_
  refine wt_nil ?_
  refine xw_next K31 ?_
  refine cw_seq (fun FK33 K33 => ?_)
  refine cw_seq (fun FK34 K34 => ?_)
  refine cw_drawn (fun W => Blk W g2 63 #[.int .i64 s.n, .slice A s.L.length c, .slice AG nG cG, .int .u64 (s.a.a.toNat : Int), .int .u64 (s.a.b.toNat : Int), .slice none 0 0, .bool s.closed] ∧ OwnInts W bi (.slice (some ⟨gi, 0, none⟩) 3 cI) [x, y, z] ∧ Blk W g8 44 #[.int .i64 8, .int .i64 gl, .slice AI nI kI]) 5 [(0, 0), (1, 1), (2, 1), (3, 0), (4, 2)] (by kernel_rfl) (by kernel_rfl) (PQ.then_ (PQ.then_ PQ.body)) (⟨gs.drew.1, gs.drew.2.2.2.1, hkg.drew⟩) ?_
  replace gs := gs.drew
  replace hkg := hkg.drew
  refine wt0 (v := .agg #[.int .i64 s.n, .slice A s.L.length c, .slice AG nG cG, .int .u64 (s.a.a.toNat : Int), .int .u64 (s.a.b.toNat : Int), .slice none 0 0, .bool s.closed]) rfl (fun ρ e W hW => ex_state (g := g2) (e _ _ rfl) hW.1) rfl rfl ?_
  refine wt1 (v := .slice (some ⟨gi, 0, none⟩) 3 cI) rfl (fun ρ e W => ex_move (e _ _ rfl)) rfl rfl ?_
  refine wt1 (v := .pointer (some ⟨gi, 0, none⟩)) rfl (fun ρ e W => ex_index0 (g := gi) (n := 3) (c := cI) (i := 0) (e _ _ rfl) (e _ _ rfl) (by omega)) rfl rfl ?_
  refine wt0 (v := .int .i64 x) rfl (fun ρ e W hW => ex_int (p := ⟨gi, 0, none⟩) (e _ _ rfl) (ints_cell hW.2.1 _ _ rfl)) rfl rfl ?_
  refine wt2_call (args := [.agg #[.int .i64 s.n, .slice A s.L.length c, .slice AG nG cG, .int .u64 (s.a.a.toNat : Int), .int .u64 (s.a.b.toNat : Int), .slice none 0 0, .bool s.closed], .int .i64 x]) rfl in_holds rfl rfl rfl ?_
  refine (kh0 _).mono ?_
  rintro _ w35 ⟨rfl, hb5⟩
  replace gs := gs.below hb5
  replace hkg := hkg.keep hb5
  refine ⟨_, rfl, ⟨gs.1, gs.2.2.2.1, hkg⟩, ?_⟩
  refine wt_nil ?_
  refine xw_next K34 ?_
  refine cw_false rfl ?_
  refine cw_skip ?_
  refine xw_next K33 ?_
  refine cw_seq (fun FK36 K36 => ?_)
  refine cw_region ?_
  refine wl_val (v := .agg #[.int .i64 s.n, .slice A s.L.length c, .slice AG nG cG, .int .u64 (s.a.a.toNat : Int), .int .u64 (s.a.b.toNat : Int), .slice none 0 0, .bool s.closed]) (fun ρ e => ex_state (g := g2) (e _ _ rfl) gs.1) rfl rfl ?_
  refine wl_val (v := .bool b2) (fun ρ e => ex_move (e _ _ rfl)) rfl rfl ?_
  refine wl_call (args := [.agg #[.int .i64 s.n, .slice A s.L.length c, .slice AG nG cG, .int .u64 (s.a.a.toNat : Int), .int .u64 (s.a.b.toNat : Int), .slice none 0 0, .bool s.closed], .bool b2]) in_fresh rfl rfl rfl ?_
  refine (ref10_fresh _ A c AG nG cG s s1 v b2 hs1 hv hn0 (by omega)).mono ?_
  rintro _ w37 ⟨rfl, hb5⟩
  replace gs := gs.below hb5
  replace hkg := hkg.keep hb5
  have gm := gs.freshmid (s' := s1) hl1
  refine ⟨_, rfl, ?_⟩
  refine wl_val (v := .tuple #[.agg #[.int .i64 s1.n, .slice A s1.L.length c, .slice AG nG cG, .int .u64 (s1.a.a.toNat : Int), .int .u64 (s1.a.b.toNat : Int), .slice none 0 0, .bool s1.closed], .int .i64 v]) (fun ρ e => ex_move (e _ _ rfl)) rfl rfl ?_
  refine wl_val (v := .agg #[.int .i64 s1.n, .slice A s1.L.length c, .slice AG nG cG, .int .u64 (s1.a.a.toNat : Int), .int .u64 (s1.a.b.toNat : Int), .slice none 0 0, .bool s1.closed]) (fun ρ e => ex_extract (vs := #[.agg #[.int .i64 s1.n, .slice A s1.L.length c, .slice AG nG cG, .int .u64 (s1.a.a.toNat : Int), .int .u64 (s1.a.b.toNat : Int), .slice none 0 0, .bool s1.closed], .int .i64 v]) (e _ _ rfl) rfl) rfl rfl ?_
  refine wl_val (v := .int .i64 v) (fun ρ e => ex_extract (vs := #[.agg #[.int .i64 s1.n, .slice A s1.L.length c, .slice AG nG cG, .int .u64 (s1.a.a.toNat : Int), .int .u64 (s1.a.b.toNat : Int), .slice none 0 0, .bool s1.closed], .int .i64 v]) (e _ _ rfl) rfl) rfl rfl ?_
  refine wl_none (fun ρ e => ex_storeState (A := A) (c := c) (s := s1) (AG := AG) (nG := nG) (cG := cG) (e _ _ rfl) (e _ _ rfl) gm.1) rfl ?_
  replace gs := gm.put hne.symm h1
  replace hkg := put7_far (g := g2) (AG := AG) (nG := nG) (cG := cG) (s := s1) (A := A) (c := c) hkg (by omega)
  clear gm
  refine wl_val (v := .int .i64 v) (fun ρ e => ex_assign (e _ _ rfl)) rfl rfl ?_
  refine wl_nil ?_
  refine xw_next K36 ?_
  refine cw_seq (fun FK38 K38 => ?_)
  refine cw_drawn (fun W => Blk W g2 63 #[.int .i64 s1.n, .slice A s1.L.length c, .slice AG nG cG, .int .u64 (s1.a.a.toNat : Int), .int .u64 (s1.a.b.toNat : Int), .slice none 0 0, .bool s1.closed] ∧ OwnInts W bi (.slice (some ⟨gi, 0, none⟩) 3 cI) [x, y, z] ∧ Blk W g8 44 #[.int .i64 8, .int .i64 gl, .slice AI nI kI]) 12 [(0, 0), (1, 1), (2, 1), (3, 1), (4, 1), (5, 0), (6, 1), (7, 1), (8, 1), (9, 0), (10, 2), (11, 2), (12, 3)] (by kernel_rfl) (by kernel_rfl) (PQ.then_ PQ.body) (⟨gs.drew.1, gs.drew.2.2.2.1, hkg.drew⟩) ?_
  replace gs := gs.drew
  replace hkg := hkg.drew
  refine wt0 (v := .agg #[.int .i64 s1.n, .slice A s1.L.length c, .slice AG nG cG, .int .u64 (s1.a.a.toNat : Int), .int .u64 (s1.a.b.toNat : Int), .slice none 0 0, .bool s1.closed]) rfl (fun ρ e W hW => ex_state (g := g2) (e _ _ rfl) hW.1) rfl rfl ?_
  refine wt1 (v := .int .i64 v) rfl (fun ρ e W => ex_move (e _ _ rfl)) rfl rfl ?_
  refine wt1 (v := .int .i64 (-v)) rfl (fun ρ e W => ex_neg (e _ _ rfl) (wrap_in (by omega) (by omega))) rfl rfl ?_
  refine wt1 (v := .slice (some ⟨gi, 0, none⟩) 3 cI) rfl (fun ρ e W => ex_move (e _ _ rfl)) rfl rfl ?_
  refine wt1 (v := .pointer (some ⟨gi, 0, none⟩)) rfl (fun ρ e W => ex_index0 (g := gi) (n := 3) (c := cI) (i := 0) (e _ _ rfl) (e _ _ rfl) (by omega)) rfl rfl ?_
  refine wt0 (v := .int .i64 x) rfl (fun ρ e W hW => ex_int (p := ⟨gi, 0, none⟩) (e _ _ rfl) (ints_cell hW.2.1 _ _ rfl)) rfl rfl ?_
  refine wt1 (v := .int .i64 (-x)) rfl (fun ρ e W => ex_neg (e _ _ rfl) (wrap_in (by omega) (by omega))) rfl rfl ?_
  refine wt1 (v := .slice (some ⟨gi, 0, none⟩) 3 cI) rfl (fun ρ e W => ex_move (e _ _ rfl)) rfl rfl ?_
  refine wt1 (v := .pointer (some ⟨gi, 1, none⟩)) rfl (fun ρ e W => ex_index0 (g := gi) (n := 3) (c := cI) (i := 1) (e _ _ rfl) (e _ _ rfl) (by omega)) rfl rfl ?_
  refine wt0 (v := .int .i64 y) rfl (fun ρ e W hW => ex_int (p := ⟨gi, 1, none⟩) (e _ _ rfl) (ints_cell hW.2.1 _ _ rfl)) rfl rfl ?_
  refine wt2_newslice rfl (fun ρ e => ex_build3 (v0 := (-v)) (v1 := (-x)) (v2 := y) (e _ _ rfl) (e _ _ rfl) (e _ _ rfl)) rfl rfl (fun gn39 w44 jb40 jk41 jg42 js43 => ?_)
  have hsz := gs.2.2.2.2.size
  replace gs := gs.below jb40
  replace hkg := hkg.keep jb40
  refine ⟨⟨gs.1, gs.2.2.2.1, hkg⟩, ?_⟩
  refine wt2_call (args := [.agg #[.int .i64 s1.n, .slice A s1.L.length c, .slice AG nG cG, .int .u64 (s1.a.a.toNat : Int), .int .u64 (s1.a.b.toNat : Int), .slice none 0 0, .bool s1.closed], .slice (some ⟨gn39, 0, none⟩) 3 3]) rfl in_add rfl rfl rfl ?_
  refine (ref10_add_new hAv hbase hs2 (by have := gs.2.2.2.2.size; omega) gs jk41 rfl (by simp) (by omega)).mono ?_
  rintro _ w45 ⟨⟨A46, c47, rfl, o5⟩, fr5⟩
  have gm := gs.mid fr5 o5
  replace hkg := fr5.blk hkg (.inl (by decide))
  refine ⟨_, rfl, ⟨gm.1, gm.2.2.2.1, hkg⟩, ?_⟩
  refine wt3_none rfl (fun ρ e => ex_storeState (A := A46) (c := c47) (s := s2) (AG := AG) (nG := nG) (cG := cG) (e _ _ rfl) (e _ _ rfl) gm.1) rfl ?_
  replace gs := gm.put hne.symm h1
  replace hkg := put7_far (g := g2) (AG := AG) (nG := nG) (cG := cG) (s := s2) (A := A46) (c := c47) hkg (by omega)
  clear gm
  refine wt_nil ?_
  refine xw_next K38 ?_
  refine cw_seq (fun FK48 K48 => ?_)
  refine cw_drawn (fun W => Blk W g2 63 #[.int .i64 s2.n, .slice A46 s2.L.length c47, .slice AG nG cG, .int .u64 (s2.a.a.toNat : Int), .int .u64 (s2.a.b.toNat : Int), .slice none 0 0, .bool s2.closed] ∧ OwnInts W bi (.slice (some ⟨gi, 0, none⟩) 3 cI) [x, y, z] ∧ Blk W g8 44 #[.int .i64 8, .int .i64 gl, .slice AI nI kI]) 11 [(0, 0), (1, 1), (2, 1), (3, 1), (4, 1), (5, 0), (6, 1), (7, 1), (8, 0), (9, 2), (10, 2), (11, 3)] (by kernel_rfl) (by kernel_rfl) (PQ.then_ PQ.body) (⟨gs.drew.1, gs.drew.2.2.2.1, hkg.drew⟩) ?_
  replace gs := gs.drew
  replace hkg := hkg.drew
  refine wt0 (v := .agg #[.int .i64 s2.n, .slice A46 s2.L.length c47, .slice AG nG cG, .int .u64 (s2.a.a.toNat : Int), .int .u64 (s2.a.b.toNat : Int), .slice none 0 0, .bool s2.closed]) rfl (fun ρ e W hW => ex_state (g := g2) (e _ _ rfl) hW.1) rfl rfl ?_
  refine wt1 (v := .int .i64 v) rfl (fun ρ e W => ex_move (e _ _ rfl)) rfl rfl ?_
  refine wt1 (v := .int .i64 (-v)) rfl (fun ρ e W => ex_neg (e _ _ rfl) (wrap_in (by omega) (by omega))) rfl rfl ?_
  refine wt1 (v := .slice (some ⟨gi, 0, none⟩) 3 cI) rfl (fun ρ e W => ex_move (e _ _ rfl)) rfl rfl ?_
  refine wt1 (v := .pointer (some ⟨gi, 0, none⟩)) rfl (fun ρ e W => ex_index0 (g := gi) (n := 3) (c := cI) (i := 0) (e _ _ rfl) (e _ _ rfl) (by omega)) rfl rfl ?_
  refine wt0 (v := .int .i64 x) rfl (fun ρ e W hW => ex_int (p := ⟨gi, 0, none⟩) (e _ _ rfl) (ints_cell hW.2.1 _ _ rfl)) rfl rfl ?_
  refine wt1 (v := .slice (some ⟨gi, 0, none⟩) 3 cI) rfl (fun ρ e W => ex_move (e _ _ rfl)) rfl rfl ?_
  refine wt1 (v := .pointer (some ⟨gi, 2, none⟩)) rfl (fun ρ e W => ex_index0 (g := gi) (n := 3) (c := cI) (i := 2) (e _ _ rfl) (e _ _ rfl) (by omega)) rfl rfl ?_
  refine wt0 (v := .int .i64 z) rfl (fun ρ e W hW => ex_int (p := ⟨gi, 2, none⟩) (e _ _ rfl) (ints_cell hW.2.1 _ _ rfl)) rfl rfl ?_
  refine wt2_newslice rfl (fun ρ e => ex_build3 (v0 := (-v)) (v1 := x) (v2 := z) (e _ _ rfl) (e _ _ rfl) (e _ _ rfl)) rfl rfl (fun gn49 w54 jb50 jk51 jg52 js53 => ?_)
  have hsz := gs.2.2.2.2.size
  replace gs := gs.below jb50
  replace hkg := hkg.keep jb50
  refine ⟨⟨gs.1, gs.2.2.2.1, hkg⟩, ?_⟩
  refine wt2_call (args := [.agg #[.int .i64 s2.n, .slice A46 s2.L.length c47, .slice AG nG cG, .int .u64 (s2.a.a.toNat : Int), .int .u64 (s2.a.b.toNat : Int), .slice none 0 0, .bool s2.closed], .slice (some ⟨gn49, 0, none⟩) 3 3]) rfl in_add rfl rfl rfl ?_
  refine (ref10_add_new hAv hbase hs3 (by have := gs.2.2.2.2.size; omega) gs jk51 rfl (by simp) (by omega)).mono ?_
  rintro _ w55 ⟨⟨A56, c57, rfl, o5⟩, fr5⟩
  have gm := gs.mid fr5 o5
  replace hkg := fr5.blk hkg (.inl (by decide))
  refine ⟨_, rfl, ⟨gm.1, gm.2.2.2.1, hkg⟩, ?_⟩
  refine wt3_none rfl (fun ρ e => ex_storeState (A := A56) (c := c57) (s := s3) (AG := AG) (nG := nG) (cG := cG) (e _ _ rfl) (e _ _ rfl) gm.1) rfl ?_
  replace gs := gm.put hne.symm h1
  replace hkg := put7_far (g := g2) (AG := AG) (nG := nG) (cG := cG) (s := s3) (A := A56) (c := c57) hkg (by omega)
  clear gm
  refine wt_nil ?_
  refine xw_next K48 ?_
  refine cw_seq (fun FK58 K58 => ?_)
  refine cw_drawn (fun W => Blk W g2 63 #[.int .i64 s3.n, .slice A56 s3.L.length c57, .slice AG nG cG, .int .u64 (s3.a.a.toNat : Int), .int .u64 (s3.a.b.toNat : Int), .slice none 0 0, .bool s3.closed] ∧ OwnInts W bi (.slice (some ⟨gi, 0, none⟩) 3 cI) [x, y, z] ∧ Blk W g8 44 #[.int .i64 8, .int .i64 gl, .slice AI nI kI]) 12 [(0, 0), (1, 1), (2, 1), (3, 1), (4, 0), (5, 1), (6, 1), (7, 1), (8, 0), (9, 1), (10, 2), (11, 2), (12, 3)] (by kernel_rfl) (by kernel_rfl) (PQ.then_ PQ.body) (⟨gs.drew.1, gs.drew.2.2.2.1, hkg.drew⟩) ?_
  replace gs := gs.drew
  replace hkg := hkg.drew
  refine wt0 (v := .agg #[.int .i64 s3.n, .slice A56 s3.L.length c57, .slice AG nG cG, .int .u64 (s3.a.a.toNat : Int), .int .u64 (s3.a.b.toNat : Int), .slice none 0 0, .bool s3.closed]) rfl (fun ρ e W hW => ex_state (g := g2) (e _ _ rfl) hW.1) rfl rfl ?_
  refine wt1 (v := .int .i64 v) rfl (fun ρ e W => ex_move (e _ _ rfl)) rfl rfl ?_
  refine wt1 (v := .slice (some ⟨gi, 0, none⟩) 3 cI) rfl (fun ρ e W => ex_move (e _ _ rfl)) rfl rfl ?_
  refine wt1 (v := .pointer (some ⟨gi, 0, none⟩)) rfl (fun ρ e W => ex_index0 (g := gi) (n := 3) (c := cI) (i := 0) (e _ _ rfl) (e _ _ rfl) (by omega)) rfl rfl ?_
  refine wt0 (v := .int .i64 x) rfl (fun ρ e W hW => ex_int (p := ⟨gi, 0, none⟩) (e _ _ rfl) (ints_cell hW.2.1 _ _ rfl)) rfl rfl ?_
  refine wt1 (v := .int .i64 (-x)) rfl (fun ρ e W => ex_neg (e _ _ rfl) (wrap_in (by omega) (by omega))) rfl rfl ?_
  refine wt1 (v := .slice (some ⟨gi, 0, none⟩) 3 cI) rfl (fun ρ e W => ex_move (e _ _ rfl)) rfl rfl ?_
  refine wt1 (v := .pointer (some ⟨gi, 1, none⟩)) rfl (fun ρ e W => ex_index0 (g := gi) (n := 3) (c := cI) (i := 1) (e _ _ rfl) (e _ _ rfl) (by omega)) rfl rfl ?_
  refine wt0 (v := .int .i64 y) rfl (fun ρ e W hW => ex_int (p := ⟨gi, 1, none⟩) (e _ _ rfl) (ints_cell hW.2.1 _ _ rfl)) rfl rfl ?_
  refine wt1 (v := .int .i64 (-y)) rfl (fun ρ e W => ex_neg (e _ _ rfl) (wrap_in (by omega) (by omega))) rfl rfl ?_
  refine wt2_newslice rfl (fun ρ e => ex_build3 (v0 := v) (v1 := (-x)) (v2 := (-y)) (e _ _ rfl) (e _ _ rfl) (e _ _ rfl)) rfl rfl (fun gn59 w64 jb60 jk61 jg62 js63 => ?_)
  have hsz := gs.2.2.2.2.size
  replace gs := gs.below jb60
  replace hkg := hkg.keep jb60
  refine ⟨⟨gs.1, gs.2.2.2.1, hkg⟩, ?_⟩
  refine wt2_call (args := [.agg #[.int .i64 s3.n, .slice A56 s3.L.length c57, .slice AG nG cG, .int .u64 (s3.a.a.toNat : Int), .int .u64 (s3.a.b.toNat : Int), .slice none 0 0, .bool s3.closed], .slice (some ⟨gn59, 0, none⟩) 3 3]) rfl in_add rfl rfl rfl ?_
  refine (ref10_add_new hAv hbase hs4 (by have := gs.2.2.2.2.size; omega) gs jk61 rfl (by simp) (by omega)).mono ?_
  rintro _ w65 ⟨⟨A66, c67, rfl, o5⟩, fr5⟩
  have gm := gs.mid fr5 o5
  replace hkg := fr5.blk hkg (.inl (by decide))
  refine ⟨_, rfl, ⟨gm.1, gm.2.2.2.1, hkg⟩, ?_⟩
  refine wt3_none rfl (fun ρ e => ex_storeState (A := A66) (c := c67) (s := s4) (AG := AG) (nG := nG) (cG := cG) (e _ _ rfl) (e _ _ rfl) gm.1) rfl ?_
  replace gs := gm.put hne.symm h1
  replace hkg := put7_far (g := g2) (AG := AG) (nG := nG) (cG := cG) (s := s4) (A := A66) (c := c67) hkg (by omega)
  clear gm
  refine wt_nil ?_
  refine xw_next K58 ?_
  refine cw_seq (fun FK68 K68 => ?_)
  refine cw_drawn (fun W => Blk W g2 63 #[.int .i64 s4.n, .slice A66 s4.L.length c67, .slice AG nG cG, .int .u64 (s4.a.a.toNat : Int), .int .u64 (s4.a.b.toNat : Int), .slice none 0 0, .bool s4.closed] ∧ OwnInts W bi (.slice (some ⟨gi, 0, none⟩) 3 cI) [x, y, z] ∧ Blk W g8 44 #[.int .i64 8, .int .i64 gl, .slice AI nI kI]) 12 [(0, 0), (1, 1), (2, 1), (3, 1), (4, 0), (5, 1), (6, 1), (7, 0), (8, 1), (11, 1), (9, 2), (10, 2), (12, 3), (13, 3)] (by kernel_rfl) (by kernel_rfl) (PQ.then_ PQ.body) (⟨gs.drew.1, gs.drew.2.2.2.1, hkg.drew⟩) ?_
  replace gs := gs.drew
  replace hkg := hkg.drew
  refine wt0 (v := .agg #[.int .i64 s4.n, .slice A66 s4.L.length c67, .slice AG nG cG, .int .u64 (s4.a.a.toNat : Int), .int .u64 (s4.a.b.toNat : Int), .slice none 0 0, .bool s4.closed]) rfl (fun ρ e W hW => ex_state (g := g2) (e _ _ rfl) hW.1) rfl rfl ?_
  refine wt1 (v := .int .i64 v) rfl (fun ρ e W => ex_move (e _ _ rfl)) rfl rfl ?_
  refine wt1 (v := .slice (some ⟨gi, 0, none⟩) 3 cI) rfl (fun ρ e W => ex_move (e _ _ rfl)) rfl rfl ?_
  refine wt1 (v := .pointer (some ⟨gi, 0, none⟩)) rfl (fun ρ e W => ex_index0 (g := gi) (n := 3) (c := cI) (i := 0) (e _ _ rfl) (e _ _ rfl) (by omega)) rfl rfl ?_
  refine wt0 (v := .int .i64 x) rfl (fun ρ e W hW => ex_int (p := ⟨gi, 0, none⟩) (e _ _ rfl) (ints_cell hW.2.1 _ _ rfl)) rfl rfl ?_
  refine wt1 (v := .slice (some ⟨gi, 0, none⟩) 3 cI) rfl (fun ρ e W => ex_move (e _ _ rfl)) rfl rfl ?_
  refine wt1 (v := .pointer (some ⟨gi, 2, none⟩)) rfl (fun ρ e W => ex_index0 (g := gi) (n := 3) (c := cI) (i := 2) (e _ _ rfl) (e _ _ rfl) (by omega)) rfl rfl ?_
  refine wt0 (v := .int .i64 z) rfl (fun ρ e W hW => ex_int (p := ⟨gi, 2, none⟩) (e _ _ rfl) (ints_cell hW.2.1 _ _ rfl)) rfl rfl ?_
  refine wt1 (v := .int .i64 (-z)) rfl (fun ρ e W => ex_neg (e _ _ rfl) (wrap_in (by omega) (by omega))) rfl rfl ?_
  refine wt1 (v := .int .i64 v) rfl (fun ρ e W => ex_move (e _ _ rfl)) rfl rfl ?_
  refine wt2_newslice rfl (fun ρ e => ex_build3 (v0 := v) (v1 := x) (v2 := (-z)) (e _ _ rfl) (e _ _ rfl) (e _ _ rfl)) rfl rfl (fun gn69 w74 jb70 jk71 jg72 js73 => ?_)
  have hsz := gs.2.2.2.2.size
  replace gs := gs.below jb70
  replace hkg := hkg.keep jb70
  refine ⟨⟨gs.1, gs.2.2.2.1, hkg⟩, ?_⟩
  refine wt2_call (args := [.agg #[.int .i64 s4.n, .slice A66 s4.L.length c67, .slice AG nG cG, .int .u64 (s4.a.a.toNat : Int), .int .u64 (s4.a.b.toNat : Int), .slice none 0 0, .bool s4.closed], .slice (some ⟨gn69, 0, none⟩) 3 3]) rfl in_add rfl rfl rfl ?_
  refine (ref10_add_new hAv hbase hs5 (by have := gs.2.2.2.2.size; omega) gs jk71 rfl (by simp) (by omega)).mono ?_
  rintro _ w75 ⟨⟨A76, c77, rfl, o5⟩, fr5⟩
  have gm := gs.mid fr5 o5
  replace hkg := fr5.blk hkg (.inl (by decide))
  refine ⟨_, rfl, ⟨gm.1, gm.2.2.2.1, hkg⟩, ?_⟩
  refine wt3_none rfl (fun ρ e => ex_storeState (A := A76) (c := c77) (s := s') (AG := AG) (nG := nG) (cG := cG) (e _ _ rfl) (e _ _ rfl) gm.2.1) rfl ?_
  have ge := gm.fin h3
  refine wt3 (v := .int .i64 v) rfl (fun ρ e => ex_assign (e _ _ rfl)) rfl rfl ?_
  refine wt_nil ?_
  refine xw_next K68 ?_
  refine cw_ret ?_
  refine xw_ret (v := .tuple #[.agg #[.int .i64 s'.n, .slice A76 s'.L.length c77, .slice AG nG cG, .int .u64 (s'.a.a.toNat : Int), .int .u64 (s'.a.b.toNat : Int), .slice none 0 0, .bool s'.closed], .int .i64 v]) (fun T hT => ?_) ⟨⟨A76, c77, rfl, ge.2.1⟩, ge.2.2⟩
  have t6 := hT 6 _ rfl
  have t7 := hT 7 _ rfl
  have r0 := ge.1.cell 0
  have r1 := ge.1.cell 1
  have r2 := ge.1.cell 2
  have r3 := ge.1.cell 3
  have r4 := ge.1.cell 4
  have r5 := ge.1.cell 5
  have r6 := ge.1.cell 6
  simp at r0 r1 r2 r3 r4 r5 r6
  simp [results, Try.results66, go_sem, t6, t7, r0, r1, r2, r3, r4, r5, r6]
end Go.Proofs.Ytlifakbdgmdafaa

namespace Go.Proofs.Ytlifakbdgmdafaa
open Go Go.RowKit

theorem all_ones (f : Int → Bool) (l : List Int) : decide (onesOf (l.map f) = (l.map f).length) = ((l.all f) == true) := by
  have h : onesOf (l.map f) = (l.map f).length ↔ l.all f = true := by unfold onesOf; rw [List.countP_eq_length]; simp
  rw [beq_true, Bool.eq_iff_iff, decide_eq_true_iff, h]
theorem some_ones (f : Int → Bool) (l : List Int) : decide (0 < onesOf (l.map f)) = ((l.all fun x => !f x) == false) := by
  have h : 0 < onesOf (l.map f) ↔ ¬ (l.all fun x => !f x) = true := by unfold onesOf; rw [List.countP_pos_iff]; simp
  rw [beq_false, Bool.eq_iff_iff, decide_eq_true_iff, h]
  cases (l.all fun x => !f x) <;> simp
theorem holdsL_neg (a : VS) (x : Int) (h : x ≠ 0) : holdsL a (-1 * x) = !holdsL a x := by
  unfold holdsL
  have e : max (-1 * x) (- (-1 * x)) = max x (-x) := by omega
  rw [e]
  by_cases h0 : 0 < x
  · have h1 : decide (0 < -1 * x) = false := decide_eq_false (by omega)
    have h2 : decide (0 < x) = true := decide_eq_true h0
    rw [h1, h2]
    cases VS.has a (max x (-x)) <;> rfl
  · have h1 : decide (0 < -1 * x) = true := decide_eq_true (by omega)
    have h2 : decide (0 < x) = false := decide_eq_false h0
    rw [h1, h2]
    cases VS.has a (max x (-x)) <;> rfl
theorem RS.gate_and (s : RS) (gl : Int) (l : List Int) : s.gate 4 gl l = ((s.fresh ((l.all fun x => holdsL s.a (1 * x)) == true)).adds (andRows 1 s.var l), s.var) := by
  have e : kindVal 4 (l.map (holdsL s.a)) = ((l.all fun x => holdsL s.a (1 * x)) == true) := by
    show decide (onesOf _ = _) = _
    rw [all_ones]
    simp only [Int.one_mul]
  unfold RS.gate
  rw [if_neg (by omega), if_neg (by omega), e]
  rfl
theorem RS.gate_or (s : RS) (gl : Int) (l : List Int) (hnz : ∀ x ∈ l, x ≠ 0) : s.gate 5 gl l = ((s.fresh ((l.all fun x => holdsL s.a ((-1) * x)) == false)).adds (andRows (-1) s.var l), s.var) := by
  have e : kindVal 5 (l.map (holdsL s.a)) = ((l.all fun x => holdsL s.a ((-1) * x)) == false) := by
    show decide (0 < onesOf _) = _
    rw [some_ones]
    congr 1
    rw [Bool.eq_iff_iff, List.all_eq_true, List.all_eq_true]
    exact ⟨fun h x hx => by rw [holdsL_neg _ _ (hnz x hx)]; exact h x hx, fun h x hx => by have := h x hx; rwa [holdsL_neg _ _ (hnz x hx)] at this⟩
  unfold RS.gate
  rw [if_neg (by omega), if_neg (by omega), e]
  rfl
set_option maxRecDepth 100000 in
set_option maxHeartbeats 1600000 in
theorem g10_lit (w : World) {Av : Nat → Prop} (hAv : AvOk Av w) (base bi : Nat) (hbase : base ≤ w.heap.size) (A : Option Addr) (c : Nat) (AG : Option Addr) (nG cG : Nat) (s s' : RS)  (v gl : Int) (AI : Option Addr) (nI kI : Nat) (IN : Value)  (hs' : s.gate 2 gl [] = (s', v)) (hn0 : 0 ≤ s.n) (hn1 : s.n ≤ 900000) 
    (hown : OwnRows w Av base (.slice A s.L.length c) s.L) (hL : s.L.length ≤ 900000) :
    Calls Try.prog 66 #[(.agg #[.int .i64 s.n, .slice A s.L.length c, .slice AG nG cG, .int .u64 (s.a.a.toNat : Int), .int .u64 (s.a.b.toNat : Int), .slice none 0 0, .bool s.closed]), .agg #[.int .i64 2, .int .i64 gl, .slice AI nI kI], IN] w fun e w' => (∃ A' c', e = .returned (.tuple #[(.agg #[.int .i64 s'.n, .slice A' s'.L.length c', .slice AG nG cG, .int .u64 (s'.a.a.toNat : Int), .int .u64 (s'.a.b.toNat : Int), .slice none 0 0, .bool s'.closed]), .int .i64 v]) ∧ OwnRows w' Av base (.slice A' s'.L.length c') s'.L) ∧ FrR base w w' := by
  have e : s = s' ∧ gl = v := by unfold RS.gate at hs'; simp at hs'; exact hs'
  obtain ⟨rfl, rfl⟩ := e
  have _u := And.intro hbase (And.intro hn0 (And.intro hn1 (And.intro hL hAv)))
  refine sx_enter (args := [.agg #[.int .i64 s.n, .slice A s.L.length c, .slice AG nG cG, .int .u64 (s.a.a.toNat : Int), .int .u64 (s.a.b.toNat : Int), .slice none 0 0, .bool s.closed], .agg #[.int .i64 2, .int .i64 gl, .slice AI nI kI], IN]) Try.func66 rfl rfl (by simp) ?_
  refine cw_seq (fun FK1 K1 => ?_)
  refine cw_region ?_
  refine wl_new (fun ρ e => ex_boxState (e _ _ rfl)) rfl rfl (fun g2 w3 jb4 jk5 jg6 js7 => ?_)
  refine wl_new (fun ρ e => ex_boxGate (e _ _ rfl)) rfl rfl (fun g8 w9 jb10 jk11 jg12 js13 => ?_)
  refine wl_new (fun ρ e => ex_allocState) rfl rfl (fun g14 w15 jb16 jk17 jg18 js19 => ?_)
  have hb : Below w.heap.size w w15 := ((jb4.trans (jb10.mono jb4.size)).trans (jb16.mono (Nat.le_trans jb4.size jb10.size)))
  have gs : GSt Av base w g2 g14 AG nG cG bi (.slice none 0 0) [] s A c w15 := GSt.start w _ hb ((jk5.keep jb10).keep jb16) jk17 hown (OwnInts.nil _ _)
  have hkg := jk11.keep jb16
  have hne : g2 ≠ g14 := by omega
  have h1 : w.heap.size ≤ g2 := by omega
  have h3 : w.heap.size ≤ g14 := by omega
  refine wl_val (v := .int .i64 0) (fun ρ e => ex_assign (e _ _ rfl)) rfl rfl ?_
  refine wl_nil ?_
  refine xw_next K1 ?_
  refine cw_seq (fun FK20 K20 => ?_)
  refine cw_region ?_
  refine wl_val (v := .int .i64 0) (fun ρ e => ex_assign (e _ _ rfl)) rfl rfl ?_
  refine wl_nil ?_
  refine xw_next K20 ?_
  refine cw_seq (fun FK21 K21 => ?_)
  refine cw_seq (fun FK22 K22 => ?_)
  refine cw_region ?_
  refine wl_val (v := .pointer (some ⟨g8, 0, none⟩)) (fun ρ e => ex_kind (g := g8) (o := 0) (e _ _ rfl)) rfl rfl ?_
  refine wl_val (v := .int .i64 2) (fun ρ e => ex_int (p := ⟨g8, 0, none⟩) (e _ _ rfl) (hkg.cell 0)) rfl rfl ?_
  refine wl_nil ?_
  refine xw_next K22 ?_
  refine cw_block ?_
  refine cw_seq (fun FK23 K23 => ?_)
  refine cw_region ?_
  refine wl_val (v := .bool true) (fun ρ e => ex_eql1 (u := 2) (v := 2) (e _ _ rfl) (e _ _ rfl) (by omega)) rfl rfl ?_
  refine wl_val (v := .bool true) (fun ρ e => ex_assign (e _ _ rfl)) rfl rfl ?_
  refine wl_nil ?_
  refine xw_next K23 ?_
  refine cw_true rfl ?_
  refine cw_seq (fun FK24 K24 => ?_)
  refine cw_drawn (fun W => Blk W g2 63 #[.int .i64 s.n, .slice A s.L.length c, .slice AG nG cG, .int .u64 (s.a.a.toNat : Int), .int .u64 (s.a.b.toNat : Int), .slice none 0 0, .bool s.closed] ∧ OwnInts W bi (.slice none 0 0) [] ∧ Blk W g8 44 #[.int .i64 2, .int .i64 gl, .slice AI nI kI]) 5 [(0, 0), (1, 1), (2, 0), (3, 2), (4, 2)] (by kernel_rfl) (by kernel_rfl) (PQ.then_ (PQ.block (PQ.then_ PQ.body))) (⟨gs.drew.1, gs.drew.2.2.2.1, hkg.drew⟩) ?_
  replace gs := gs.drew
  replace hkg := hkg.drew
  refine wt0 (v := .agg #[.int .i64 s.n, .slice A s.L.length c, .slice AG nG cG, .int .u64 (s.a.a.toNat : Int), .int .u64 (s.a.b.toNat : Int), .slice none 0 0, .bool s.closed]) rfl (fun ρ e W hW => ex_state (g := g2) (e _ _ rfl) hW.1) rfl rfl ?_
  refine wt1 (v := .pointer (some ⟨g8, 1, none⟩)) rfl (fun ρ e W => ex_lit (g := g8) (o := 0) (e _ _ rfl)) rfl rfl ?_
  refine wt0 (v := .int .i64 gl) rfl (fun ρ e W hW => ex_int (p := ⟨g8, 1, none⟩) (e _ _ rfl) (hW.2.2.cell 1)) rfl rfl ?_
  refine wt2_none rfl (fun ρ e => ex_storeState (A := A) (c := c) (s := s) (AG := AG) (nG := nG) (cG := cG) (e _ _ rfl) (e _ _ rfl) gs.2.1) rfl ?_ ?_
  · exact ⟨put7_far gs.1 hne, (put7_keeps (TyAt.of gs.2.1)).ints gs.2.2.2.1, put7_far hkg (by omega)⟩
  have ge := gs.fin h3
  refine wt2 (v := .int .i64 gl) rfl (fun ρ e => ex_assign (e _ _ rfl)) rfl rfl ⟨put7_far gs.1 hne, (put7_keeps (TyAt.of gs.2.1)).ints gs.2.2.2.1, put7_far hkg (by omega)⟩ ?_
  refine wt_nil ?_
  refine xw_next K24 ?_
  refine cw_ret ?_
  refine xw_blockret ?_
  refine xw_past (by intro h; cases h) ?_
  refine xw_ret (v := .tuple #[.agg #[.int .i64 s.n, .slice A s.L.length c, .slice AG nG cG, .int .u64 (s.a.a.toNat : Int), .int .u64 (s.a.b.toNat : Int), .slice none 0 0, .bool s.closed], .int .i64 gl]) (fun T hT => ?_) ⟨⟨A, c, rfl, ge.2.1⟩, ge.2.2⟩
  have t6 := hT 6 _ rfl
  have t7 := hT 7 _ rfl
  have r0 := ge.1.cell 0
  have r1 := ge.1.cell 1
  have r2 := ge.1.cell 2
  have r3 := ge.1.cell 3
  have r4 := ge.1.cell 4
  have r5 := ge.1.cell 5
  have r6 := ge.1.cell 6
  simp at r0 r1 r2 r3 r4 r5 r6
  simp [results, Try.results66, go_sem, t6, t7, r0, r1, r2, r3, r4, r5, r6]

set_option maxRecDepth 100000 in
set_option maxHeartbeats 1600000 in
theorem g10_and (w : World) {Av : Nat → Prop} (hAv : AvOk Av w) (base bi : Nat) (hbase : base ≤ w.heap.size) (A : Option Addr) (c : Nat) (AG : Option Addr) (nG cG : Nat) (s s' : RS) (v gl : Int) (AI : Option Addr) (nI kI : Nat) (AIn : Option Addr) (cIn : Nat) (l : List Int) (hll : l.length ≤ 80000) (hin : OwnInts w bi (.slice AIn l.length cIn) l) (hs' : s.gate 4 gl l = (s', v)) (hbd : ∀ x ∈ l, -1000000 ≤ x ∧ x ≤ 1000000)  (hn0 : 0 ≤ s.n) (hn1 : s.n ≤ 128)
    (hown : OwnRows w Av base (.slice A s.L.length c) s.L) (hL : s.L.length ≤ 400000) :
    Calls Try.prog 66 #[(.agg #[.int .i64 s.n, .slice A s.L.length c, .slice AG nG cG, .int .u64 (s.a.a.toNat : Int), .int .u64 (s.a.b.toNat : Int), .slice none 0 0, .bool s.closed]), .agg #[.int .i64 4, .int .i64 gl, .slice AI nI kI], .slice AIn l.length cIn] w fun e w' => (∃ A' c', e = .returned (.tuple #[(.agg #[.int .i64 s'.n, .slice A' s'.L.length c', .slice AG nG cG, .int .u64 (s'.a.a.toNat : Int), .int .u64 (s'.a.b.toNat : Int), .slice none 0 0, .bool s'.closed]), .int .i64 v]) ∧ OwnRows w' Av base (.slice A' s'.L.length c') s'.L) ∧ FrR base w w' := by
  rw [RS.gate_and] at hs'
  simp only [Prod.mk.injEq] at hs'
  have hs2 := hs'.1.symm
  have hv := hs'.2.symm
  refine sx_enter (args := [.agg #[.int .i64 s.n, .slice A s.L.length c, .slice AG nG cG, .int .u64 (s.a.a.toNat : Int), .int .u64 (s.a.b.toNat : Int), .slice none 0 0, .bool s.closed], .agg #[.int .i64 4, .int .i64 gl, .slice AI nI kI], .slice AIn l.length cIn]) Try.func66 rfl rfl (by simp) ?_
  refine cw_seq (fun FK1 K1 => ?_)
  refine cw_region ?_
  refine wl_new (fun ρ e => ex_boxState (e _ _ rfl)) rfl rfl (fun g2 w3 jb4 jk5 jg6 js7 => ?_)
  refine wl_new (fun ρ e => ex_boxGate (e _ _ rfl)) rfl rfl (fun g8 w9 jb10 jk11 jg12 js13 => ?_)
  refine wl_new (fun ρ e => ex_allocState) rfl rfl (fun g14 w15 jb16 jk17 jg18 js19 => ?_)
  have hb : Below w.heap.size w w15 := ((jb4.trans (jb10.mono jb4.size)).trans (jb16.mono (Nat.le_trans jb4.size jb10.size)))
  have gs : GSt Av base w g2 g14 AG nG cG bi (.slice AIn l.length cIn) l s A c w15 := GSt.start w _ hb ((jk5.keep jb10).keep jb16) jk17 hown hin
  have hkg := jk11.keep jb16
  have hne : g2 ≠ g14 := by omega
  have h1 : w.heap.size ≤ g2 := by omega
  have h3 : w.heap.size ≤ g14 := by omega
  refine wl_val (v := .int .i64 0) (fun ρ e => ex_assign (e _ _ rfl)) rfl rfl ?_
  refine wl_nil ?_
  refine xw_next K1 ?_
  refine cw_seq (fun FK20 K20 => ?_)
  refine cw_region ?_
  refine wl_val (v := .int .i64 0) (fun ρ e => ex_assign (e _ _ rfl)) rfl rfl ?_
  refine wl_nil ?_
  refine xw_next K20 ?_
  refine cw_seq (fun FK21 K21 => ?_)
  refine cw_seq (fun FK22 K22 => ?_)
  refine cw_region ?_
  refine wl_val (v := .pointer (some ⟨g8, 0, none⟩)) (fun ρ e => ex_kind (g := g8) (o := 0) (e _ _ rfl)) rfl rfl ?_
  refine wl_val (v := .int .i64 4) (fun ρ e => ex_int (p := ⟨g8, 0, none⟩) (e _ _ rfl) (hkg.cell 0)) rfl rfl ?_
  refine wl_nil ?_
  refine xw_next K22 ?_
  refine cw_block ?_
  refine cw_seq (fun FK23 K23 => ?_)
  refine cw_region ?_
  refine wl_val (v := .bool false) (fun ρ e => ex_eql0 (u := 4) (v := 2) (e _ _ rfl) (e _ _ rfl) (by omega)) rfl rfl ?_
  refine wl_val (v := .bool false) (fun ρ e => ex_assign (e _ _ rfl)) rfl rfl ?_
  refine wl_nil ?_
  refine xw_next K23 ?_
  refine cw_false rfl ?_
  refine cw_seq (fun FK24 K24 => ?_)
  refine cw_region ?_
  refine wl_val (v := .bool false) (fun ρ e => ex_eql0 (u := 4) (v := 0) (e _ _ rfl) (e _ _ rfl) (by omega)) rfl rfl ?_
  refine wl_val (v := .bool false) (fun ρ e => ex_assign (e _ _ rfl)) rfl rfl ?_
  refine wl_nil ?_
  refine xw_next K24 ?_
  refine cw_false rfl ?_
  refine cw_seq (fun FK25 K25 => ?_)
  refine cw_region ?_
  refine wl_val (v := .bool false) (fun ρ e => ex_eql0 (u := 4) (v := 1) (e _ _ rfl) (e _ _ rfl) (by omega)) rfl rfl ?_
  refine wl_val (v := .bool false) (fun ρ e => ex_assign (e _ _ rfl)) rfl rfl ?_
  refine wl_nil ?_
  refine xw_next K25 ?_
  refine cw_false rfl ?_
  refine cw_seq (fun FK26 K26 => ?_)
  refine cw_region ?_
  refine wl_val (v := .bool false) (fun ρ e => ex_eql0 (u := 4) (v := 3) (e _ _ rfl) (e _ _ rfl) (by omega)) rfl rfl ?_
  refine wl_val (v := .bool false) (fun ρ e => ex_assign (e _ _ rfl)) rfl rfl ?_
  refine wl_nil ?_
  refine xw_next K26 ?_
  refine cw_false rfl ?_
  refine cw_seq (fun FK27 K27 => ?_)
  refine cw_region ?_
  refine wl_val (v := .bool true) (fun ρ e => ex_eql1 (u := 4) (v := 4) (e _ _ rfl) (e _ _ rfl) (by omega)) rfl rfl ?_
  refine wl_val (v := .bool true) (fun ρ e => ex_assign (e _ _ rfl)) rfl rfl ?_
  refine wl_nil ?_
  refine xw_next K27 ?_
  refine cw_true rfl ?_
  refine cw_seq (fun FK28 K28 => ?_)
  refine cw_region ?_
  refine wl_val (v := .agg #[.int .i64 s.n, .slice A s.L.length c, .slice AG nG cG, .int .u64 (s.a.a.toNat : Int), .int .u64 (s.a.b.toNat : Int), .slice none 0 0, .bool s.closed]) (fun ρ e => ex_state (g := g2) (e _ _ rfl) gs.1) rfl rfl ?_
  refine wl_val (v := .slice AIn l.length cIn) (fun ρ e => ex_move (e _ _ rfl)) rfl rfl ?_
  refine wl_call (args := [.agg #[.int .i64 s.n, .slice A s.L.length c, .slice AG nG cG, .int .u64 (s.a.a.toNat : Int), .int .u64 (s.a.b.toNat : Int), .slice none 0 0, .bool s.closed], .slice AIn l.length cIn, .int .i64 1]) in_many rfl rfl rfl ?_
  refine (m10_yes _ (hAv.le gs.2.2.2.2.size) base bi (Nat.le_trans hbase gs.2.2.2.2.size) A c AG nG cG s s' v AIn cIn l hll gs.2.2.2.1 hv hs2 hbd hn0 hn1 gs.2.2.1 hL).mono ?_
  rintro _ w29 ⟨⟨A30, c31, rfl, o5⟩, fr5⟩
  have gm := gs.mid fr5 o5
  replace hkg := fr5.blk hkg (.inl (by decide))
  refine ⟨_, rfl, ?_⟩
  refine wl_val (v := .agg #[.int .i64 s'.n, .slice A30 s'.L.length c31, .slice AG nG cG, .int .u64 (s'.a.a.toNat : Int), .int .u64 (s'.a.b.toNat : Int), .slice none 0 0, .bool s'.closed]) (fun ρ e => ex_extract (vs := #[.agg #[.int .i64 s'.n, .slice A30 s'.L.length c31, .slice AG nG cG, .int .u64 (s'.a.a.toNat : Int), .int .u64 (s'.a.b.toNat : Int), .slice none 0 0, .bool s'.closed], .int .i64 v]) (e _ _ rfl) rfl) rfl rfl ?_
  refine wl_val (v := .int .i64 v) (fun ρ e => ex_extract (vs := #[.agg #[.int .i64 s'.n, .slice A30 s'.L.length c31, .slice AG nG cG, .int .u64 (s'.a.a.toNat : Int), .int .u64 (s'.a.b.toNat : Int), .slice none 0 0, .bool s'.closed], .int .i64 v]) (e _ _ rfl) rfl) rfl rfl ?_
  refine wl_none (fun ρ e => ex_storeState (A := A30) (c := c31) (s := s') (AG := AG) (nG := nG) (cG := cG) (e _ _ rfl) (e _ _ rfl) gm.2.1) rfl ?_
  have ge := gm.fin h3
  refine wl_val (v := .int .i64 v) (fun ρ e => ex_assign (e _ _ rfl)) rfl rfl ?_
  refine wl_nil ?_
  refine xw_next K28 ?_
  refine cw_ret ?_
  refine xw_blockret ?_
  refine xw_past (by intro h; cases h) ?_
  refine xw_ret (v := .tuple #[.agg #[.int .i64 s'.n, .slice A30 s'.L.length c31, .slice AG nG cG, .int .u64 (s'.a.a.toNat : Int), .int .u64 (s'.a.b.toNat : Int), .slice none 0 0, .bool s'.closed], .int .i64 v]) (fun T hT => ?_) ⟨⟨A30, c31, rfl, ge.2.1⟩, ge.2.2⟩
  have t6 := hT 6 _ rfl
  have t7 := hT 7 _ rfl
  have r0 := ge.1.cell 0
  have r1 := ge.1.cell 1
  have r2 := ge.1.cell 2
  have r3 := ge.1.cell 3
  have r4 := ge.1.cell 4
  have r5 := ge.1.cell 5
  have r6 := ge.1.cell 6
  simp at r0 r1 r2 r3 r4 r5 r6
  simp [results, Try.results66, go_sem, t6, t7, r0, r1, r2, r3, r4, r5, r6]

set_option maxRecDepth 100000 in
set_option maxHeartbeats 1600000 in
theorem g10_or (w : World) {Av : Nat → Prop} (hAv : AvOk Av w) (base bi : Nat) (hbase : base ≤ w.heap.size) (A : Option Addr) (c : Nat) (AG : Option Addr) (nG cG : Nat) (s s' : RS) (v gl : Int) (AI : Option Addr) (nI kI : Nat) (AIn : Option Addr) (cIn : Nat) (l : List Int) (hll : l.length ≤ 80000) (hin : OwnInts w bi (.slice AIn l.length cIn) l) (hs' : s.gate 5 gl l = (s', v)) (hbd : ∀ x ∈ l, -1000000 ≤ x ∧ x ≤ 1000000) (hnz : ∀ x ∈ l, x ≠ 0) (hn0 : 0 ≤ s.n) (hn1 : s.n ≤ 128)
    (hown : OwnRows w Av base (.slice A s.L.length c) s.L) (hL : s.L.length ≤ 400000) :
    Calls Try.prog 66 #[(.agg #[.int .i64 s.n, .slice A s.L.length c, .slice AG nG cG, .int .u64 (s.a.a.toNat : Int), .int .u64 (s.a.b.toNat : Int), .slice none 0 0, .bool s.closed]), .agg #[.int .i64 5, .int .i64 gl, .slice AI nI kI], .slice AIn l.length cIn] w fun e w' => (∃ A' c', e = .returned (.tuple #[(.agg #[.int .i64 s'.n, .slice A' s'.L.length c', .slice AG nG cG, .int .u64 (s'.a.a.toNat : Int), .int .u64 (s'.a.b.toNat : Int), .slice none 0 0, .bool s'.closed]), .int .i64 v]) ∧ OwnRows w' Av base (.slice A' s'.L.length c') s'.L) ∧ FrR base w w' := by
  rw [RS.gate_or _ _ _ hnz] at hs'
  simp only [Prod.mk.injEq] at hs'
  have hs2 := hs'.1.symm
  have hv := hs'.2.symm
  refine sx_enter (args := [.agg #[.int .i64 s.n, .slice A s.L.length c, .slice AG nG cG, .int .u64 (s.a.a.toNat : Int), .int .u64 (s.a.b.toNat : Int), .slice none 0 0, .bool s.closed], .agg #[.int .i64 5, .int .i64 gl, .slice AI nI kI], .slice AIn l.length cIn]) Try.func66 rfl rfl (by simp) ?_
  refine cw_seq (fun FK1 K1 => ?_)
  refine cw_region ?_
  refine wl_new (fun ρ e => ex_boxState (e _ _ rfl)) rfl rfl (fun g2 w3 jb4 jk5 jg6 js7 => ?_)
  refine wl_new (fun ρ e => ex_boxGate (e _ _ rfl)) rfl rfl (fun g8 w9 jb10 jk11 jg12 js13 => ?_)
  refine wl_new (fun ρ e => ex_allocState) rfl rfl (fun g14 w15 jb16 jk17 jg18 js19 => ?_)
  have hb : Below w.heap.size w w15 := ((jb4.trans (jb10.mono jb4.size)).trans (jb16.mono (Nat.le_trans jb4.size jb10.size)))
  have gs : GSt Av base w g2 g14 AG nG cG bi (.slice AIn l.length cIn) l s A c w15 := GSt.start w _ hb ((jk5.keep jb10).keep jb16) jk17 hown hin
  have hkg := jk11.keep jb16
  have hne : g2 ≠ g14 := by omega
  have h1 : w.heap.size ≤ g2 := by omega
  have h3 : w.heap.size ≤ g14 := by omega
  refine wl_val (v := .int .i64 0) (fun ρ e => ex_assign (e _ _ rfl)) rfl rfl ?_
  refine wl_nil ?_
  refine xw_next K1 ?_
  refine cw_seq (fun FK20 K20 => ?_)
  refine cw_region ?_
  refine wl_val (v := .int .i64 0) (fun ρ e => ex_assign (e _ _ rfl)) rfl rfl ?_
  refine wl_nil ?_
  refine xw_next K20 ?_
  refine cw_seq (fun FK21 K21 => ?_)
  refine cw_seq (fun FK22 K22 => ?_)
  refine cw_region ?_
  refine wl_val (v := .pointer (some ⟨g8, 0, none⟩)) (fun ρ e => ex_kind (g := g8) (o := 0) (e _ _ rfl)) rfl rfl ?_
  refine wl_val (v := .int .i64 5) (fun ρ e => ex_int (p := ⟨g8, 0, none⟩) (e _ _ rfl) (hkg.cell 0)) rfl rfl ?_
  refine wl_nil ?_
  refine xw_next K22 ?_
  refine cw_block ?_
  refine cw_seq (fun FK23 K23 => ?_)
  refine cw_region ?_
  refine wl_val (v := .bool false) (fun ρ e => ex_eql0 (u := 5) (v := 2) (e _ _ rfl) (e _ _ rfl) (by omega)) rfl rfl ?_
  refine wl_val (v := .bool false) (fun ρ e => ex_assign (e _ _ rfl)) rfl rfl ?_
  refine wl_nil ?_
  refine xw_next K23 ?_
  refine cw_false rfl ?_
  refine cw_seq (fun FK24 K24 => ?_)
  refine cw_region ?_
  refine wl_val (v := .bool false) (fun ρ e => ex_eql0 (u := 5) (v := 0) (e _ _ rfl) (e _ _ rfl) (by omega)) rfl rfl ?_
  refine wl_val (v := .bool false) (fun ρ e => ex_assign (e _ _ rfl)) rfl rfl ?_
  refine wl_nil ?_
  refine xw_next K24 ?_
  refine cw_false rfl ?_
  refine cw_seq (fun FK25 K25 => ?_)
  refine cw_region ?_
  refine wl_val (v := .bool false) (fun ρ e => ex_eql0 (u := 5) (v := 1) (e _ _ rfl) (e _ _ rfl) (by omega)) rfl rfl ?_
  refine wl_val (v := .bool false) (fun ρ e => ex_assign (e _ _ rfl)) rfl rfl ?_
  refine wl_nil ?_
  refine xw_next K25 ?_
  refine cw_false rfl ?_
  refine cw_seq (fun FK26 K26 => ?_)
  refine cw_region ?_
  refine wl_val (v := .bool false) (fun ρ e => ex_eql0 (u := 5) (v := 3) (e _ _ rfl) (e _ _ rfl) (by omega)) rfl rfl ?_
  refine wl_val (v := .bool false) (fun ρ e => ex_assign (e _ _ rfl)) rfl rfl ?_
  refine wl_nil ?_
  refine xw_next K26 ?_
  refine cw_false rfl ?_
  refine cw_seq (fun FK27 K27 => ?_)
  refine cw_region ?_
  refine wl_val (v := .bool false) (fun ρ e => ex_eql0 (u := 5) (v := 4) (e _ _ rfl) (e _ _ rfl) (by omega)) rfl rfl ?_
  refine wl_val (v := .bool false) (fun ρ e => ex_assign (e _ _ rfl)) rfl rfl ?_
  refine wl_nil ?_
  refine xw_next K27 ?_
  refine cw_false rfl ?_
  refine cw_seq (fun FK28 K28 => ?_)
  refine cw_region ?_
  refine wl_val (v := .bool true) (fun ρ e => ex_eql1 (u := 5) (v := 5) (e _ _ rfl) (e _ _ rfl) (by omega)) rfl rfl ?_
  refine wl_val (v := .bool true) (fun ρ e => ex_assign (e _ _ rfl)) rfl rfl ?_
  refine wl_nil ?_
  refine xw_next K28 ?_
  refine cw_true rfl ?_
  refine cw_seq (fun FK29 K29 => ?_)
  refine cw_region ?_
  refine wl_val (v := .agg #[.int .i64 s.n, .slice A s.L.length c, .slice AG nG cG, .int .u64 (s.a.a.toNat : Int), .int .u64 (s.a.b.toNat : Int), .slice none 0 0, .bool s.closed]) (fun ρ e => ex_state (g := g2) (e _ _ rfl) gs.1) rfl rfl ?_
  refine wl_val (v := .slice AIn l.length cIn) (fun ρ e => ex_move (e _ _ rfl)) rfl rfl ?_
  refine wl_call (args := [.agg #[.int .i64 s.n, .slice A s.L.length c, .slice AG nG cG, .int .u64 (s.a.a.toNat : Int), .int .u64 (s.a.b.toNat : Int), .slice none 0 0, .bool s.closed], .slice AIn l.length cIn, .int .i64 (-1)]) in_many rfl rfl rfl ?_
  refine (m10_no _ (hAv.le gs.2.2.2.2.size) base bi (Nat.le_trans hbase gs.2.2.2.2.size) A c AG nG cG s s' v AIn cIn l hll gs.2.2.2.1 hv hs2 hbd hn0 hn1 gs.2.2.1 hL).mono ?_
  rintro _ w30 ⟨⟨A31, c32, rfl, o5⟩, fr5⟩
  have gm := gs.mid fr5 o5
  replace hkg := fr5.blk hkg (.inl (by decide))
  refine ⟨_, rfl, ?_⟩
  refine wl_val (v := .agg #[.int .i64 s'.n, .slice A31 s'.L.length c32, .slice AG nG cG, .int .u64 (s'.a.a.toNat : Int), .int .u64 (s'.a.b.toNat : Int), .slice none 0 0, .bool s'.closed]) (fun ρ e => ex_extract (vs := #[.agg #[.int .i64 s'.n, .slice A31 s'.L.length c32, .slice AG nG cG, .int .u64 (s'.a.a.toNat : Int), .int .u64 (s'.a.b.toNat : Int), .slice none 0 0, .bool s'.closed], .int .i64 v]) (e _ _ rfl) rfl) rfl rfl ?_
  refine wl_val (v := .int .i64 v) (fun ρ e => ex_extract (vs := #[.agg #[.int .i64 s'.n, .slice A31 s'.L.length c32, .slice AG nG cG, .int .u64 (s'.a.a.toNat : Int), .int .u64 (s'.a.b.toNat : Int), .slice none 0 0, .bool s'.closed], .int .i64 v]) (e _ _ rfl) rfl) rfl rfl ?_
  refine wl_none (fun ρ e => ex_storeState (A := A31) (c := c32) (s := s') (AG := AG) (nG := nG) (cG := cG) (e _ _ rfl) (e _ _ rfl) gm.2.1) rfl ?_
  have ge := gm.fin h3
  refine wl_val (v := .int .i64 v) (fun ρ e => ex_assign (e _ _ rfl)) rfl rfl ?_
  refine wl_nil ?_
  refine xw_next K29 ?_
  refine cw_ret ?_
  refine xw_blockret ?_
  refine xw_past (by intro h; cases h) ?_
  refine xw_ret (v := .tuple #[.agg #[.int .i64 s'.n, .slice A31 s'.L.length c32, .slice AG nG cG, .int .u64 (s'.a.a.toNat : Int), .int .u64 (s'.a.b.toNat : Int), .slice none 0 0, .bool s'.closed], .int .i64 v]) (fun T hT => ?_) ⟨⟨A31, c32, rfl, ge.2.1⟩, ge.2.2⟩
  have t6 := hT 6 _ rfl
  have t7 := hT 7 _ rfl
  have r0 := ge.1.cell 0
  have r1 := ge.1.cell 1
  have r2 := ge.1.cell 2
  have r3 := ge.1.cell 3
  have r4 := ge.1.cell 4
  have r5 := ge.1.cell 5
  have r6 := ge.1.cell 6
  simp at r0 r1 r2 r3 r4 r5 r6
  simp [results, Try.results66, go_sem, t6, t7, r0, r1, r2, r3, r4, r5, r6]

theorem x10_all (w : World) {Av : Nat → Prop} (hAv : AvOk Av w) (base bi : Nat) (hbase : base ≤ w.heap.size) (A : Option Addr) (c : Nat) (AG : Option Addr) (nG cG : Nat) (s s' : RS) (v gl : Int) (AIn : Option Addr) (cIn : Nat) (l : List Int) (hll : l.length ≤ 80000) (hin : OwnInts w bi (.slice AIn l.length cIn) l) (hs' : s.gate 6 gl l = (s', v)) (hbd : ∀ x ∈ l, -1000000 ≤ x ∧ x ≤ 1000000) (hn0 : 0 ≤ s.n) (hn1 : s.n ≤ 128)
    (hown : OwnRows w Av base (.slice A s.L.length c) s.L) (hL : s.L.length ≤ 400000) :
    Calls Try.prog 83 #[(.agg #[.int .i64 s.n, .slice A s.L.length c, .slice AG nG cG, .int .u64 (s.a.a.toNat : Int), .int .u64 (s.a.b.toNat : Int), .slice none 0 0, .bool s.closed]), .slice AIn l.length cIn] w fun e w' => (∃ A' c', e = .returned (.tuple #[(.agg #[.int .i64 s'.n, .slice A' s'.L.length c', .slice AG nG cG, .int .u64 (s'.a.a.toNat : Int), .int .u64 (s'.a.b.toNat : Int), .slice none 0 0, .bool s'.closed]), .int .i64 v]) ∧ OwnRows w' Av base (.slice A' s'.L.length c') s'.L) ∧ FrR base w w' := by
  match l, hll, hin, hs', hbd with
  | [], _, _, hs', _ => exact x10_0 w hAv base bi hbase A c AG nG cG s s' v gl AIn cIn hs' hn0 (by omega) hown (by omega)
  | [x], _, hin, hs', hbd =>
    obtain ⟨gi, rfl, _⟩ := own_addr hin (by simp)
    have hx := hbd x (by simp)
    exact x10_1 w hAv base bi hbase A c AG nG cG s s' x v gl gi cIn hin hs' hn0 (by omega) hx.1 hx.2 hown (by omega)
  | x0 :: y :: r, hll, hin, hs', hbd =>
    obtain ⟨gi, rfl, _⟩ := own_addr hin (by simp)
    refine x10_n w hAv base bi hbase A c AG nG cG s s' v gi _ cIn x0 (y :: r) (by simp) (by simp) (by simp at hll ⊢; omega) hin ?_ hbd hn0 hn1 hown hL
    unfold RS.gate at hs'
    rw [if_neg (by omega), if_pos ⟨rfl, by simp⟩] at hs'
    simpa using hs'
set_option maxRecDepth 100000 in
set_option maxHeartbeats 1600000 in
theorem g10_xor (w : World) {Av : Nat → Prop} (hAv : AvOk Av w) (base bi : Nat) (hbase : base ≤ w.heap.size) (A : Option Addr) (c : Nat) (AG : Option Addr) (nG cG : Nat) (s s' : RS) (v gl : Int) (AI : Option Addr) (nI kI : Nat) (AIn : Option Addr) (cIn : Nat) (l : List Int) (hll : l.length ≤ 80000) (hin : OwnInts w bi (.slice AIn l.length cIn) l) (hs' : s.gate 6 gl l = (s', v)) (hbd : ∀ x ∈ l, -1000000 ≤ x ∧ x ≤ 1000000)  (hn0 : 0 ≤ s.n) (hn1 : s.n ≤ 128)
    (hown : OwnRows w Av base (.slice A s.L.length c) s.L) (hL : s.L.length ≤ 400000) :
    Calls Try.prog 66 #[(.agg #[.int .i64 s.n, .slice A s.L.length c, .slice AG nG cG, .int .u64 (s.a.a.toNat : Int), .int .u64 (s.a.b.toNat : Int), .slice none 0 0, .bool s.closed]), .agg #[.int .i64 6, .int .i64 gl, .slice AI nI kI], .slice AIn l.length cIn] w fun e w' => (∃ A' c', e = .returned (.tuple #[(.agg #[.int .i64 s'.n, .slice A' s'.L.length c', .slice AG nG cG, .int .u64 (s'.a.a.toNat : Int), .int .u64 (s'.a.b.toNat : Int), .slice none 0 0, .bool s'.closed]), .int .i64 v]) ∧ OwnRows w' Av base (.slice A' s'.L.length c') s'.L) ∧ FrR base w w' := by
  refine sx_enter (args := [.agg #[.int .i64 s.n, .slice A s.L.length c, .slice AG nG cG, .int .u64 (s.a.a.toNat : Int), .int .u64 (s.a.b.toNat : Int), .slice none 0 0, .bool s.closed], .agg #[.int .i64 6, .int .i64 gl, .slice AI nI kI], .slice AIn l.length cIn]) Try.func66 rfl rfl (by simp) ?_
  refine cw_seq (fun FK1 K1 => ?_)
  refine cw_region ?_
  refine wl_new (fun ρ e => ex_boxState (e _ _ rfl)) rfl rfl (fun g2 w3 jb4 jk5 jg6 js7 => ?_)
  refine wl_new (fun ρ e => ex_boxGate (e _ _ rfl)) rfl rfl (fun g8 w9 jb10 jk11 jg12 js13 => ?_)
  refine wl_new (fun ρ e => ex_allocState) rfl rfl (fun g14 w15 jb16 jk17 jg18 js19 => ?_)
  have hb : Below w.heap.size w w15 := ((jb4.trans (jb10.mono jb4.size)).trans (jb16.mono (Nat.le_trans jb4.size jb10.size)))
  have gs : GSt Av base w g2 g14 AG nG cG bi (.slice AIn l.length cIn) l s A c w15 := GSt.start w _ hb ((jk5.keep jb10).keep jb16) jk17 hown hin
  have hkg := jk11.keep jb16
  have hne : g2 ≠ g14 := by omega
  have h1 : w.heap.size ≤ g2 := by omega
  have h3 : w.heap.size ≤ g14 := by omega
  refine wl_val (v := .int .i64 0) (fun ρ e => ex_assign (e _ _ rfl)) rfl rfl ?_
  refine wl_nil ?_
  refine xw_next K1 ?_
  refine cw_seq (fun FK20 K20 => ?_)
  refine cw_region ?_
  refine wl_val (v := .int .i64 0) (fun ρ e => ex_assign (e _ _ rfl)) rfl rfl ?_
  refine wl_nil ?_
  refine xw_next K20 ?_
  refine cw_seq (fun FK21 K21 => ?_)
  refine cw_seq (fun FK22 K22 => ?_)
  refine cw_region ?_
  refine wl_val (v := .pointer (some ⟨g8, 0, none⟩)) (fun ρ e => ex_kind (g := g8) (o := 0) (e _ _ rfl)) rfl rfl ?_
  refine wl_val (v := .int .i64 6) (fun ρ e => ex_int (p := ⟨g8, 0, none⟩) (e _ _ rfl) (hkg.cell 0)) rfl rfl ?_
  refine wl_nil ?_
  refine xw_next K22 ?_
  refine cw_block ?_
  refine cw_seq (fun FK23 K23 => ?_)
  refine cw_region ?_
  refine wl_val (v := .bool false) (fun ρ e => ex_eql0 (u := 6) (v := 2) (e _ _ rfl) (e _ _ rfl) (by omega)) rfl rfl ?_
  refine wl_val (v := .bool false) (fun ρ e => ex_assign (e _ _ rfl)) rfl rfl ?_
  refine wl_nil ?_
  refine xw_next K23 ?_
  refine cw_false rfl ?_
  refine cw_seq (fun FK24 K24 => ?_)
  refine cw_region ?_
  refine wl_val (v := .bool false) (fun ρ e => ex_eql0 (u := 6) (v := 0) (e _ _ rfl) (e _ _ rfl) (by omega)) rfl rfl ?_
  refine wl_val (v := .bool false) (fun ρ e => ex_assign (e _ _ rfl)) rfl rfl ?_
  refine wl_nil ?_
  refine xw_next K24 ?_
  refine cw_false rfl ?_
  refine cw_seq (fun FK25 K25 => ?_)
  refine cw_region ?_
  refine wl_val (v := .bool false) (fun ρ e => ex_eql0 (u := 6) (v := 1) (e _ _ rfl) (e _ _ rfl) (by omega)) rfl rfl ?_
  refine wl_val (v := .bool false) (fun ρ e => ex_assign (e _ _ rfl)) rfl rfl ?_
  refine wl_nil ?_
  refine xw_next K25 ?_
  refine cw_false rfl ?_
  refine cw_seq (fun FK26 K26 => ?_)
  refine cw_region ?_
  refine wl_val (v := .bool false) (fun ρ e => ex_eql0 (u := 6) (v := 3) (e _ _ rfl) (e _ _ rfl) (by omega)) rfl rfl ?_
  refine wl_val (v := .bool false) (fun ρ e => ex_assign (e _ _ rfl)) rfl rfl ?_
  refine wl_nil ?_
  refine xw_next K26 ?_
  refine cw_false rfl ?_
  refine cw_seq (fun FK27 K27 => ?_)
  refine cw_region ?_
  refine wl_val (v := .bool false) (fun ρ e => ex_eql0 (u := 6) (v := 4) (e _ _ rfl) (e _ _ rfl) (by omega)) rfl rfl ?_
  refine wl_val (v := .bool false) (fun ρ e => ex_assign (e _ _ rfl)) rfl rfl ?_
  refine wl_nil ?_
  refine xw_next K27 ?_
  refine cw_false rfl ?_
  refine cw_seq (fun FK28 K28 => ?_)
  refine cw_region ?_
  refine wl_val (v := .bool false) (fun ρ e => ex_eql0 (u := 6) (v := 5) (e _ _ rfl) (e _ _ rfl) (by omega)) rfl rfl ?_
  refine wl_val (v := .bool false) (fun ρ e => ex_assign (e _ _ rfl)) rfl rfl ?_
  refine wl_nil ?_
  refine xw_next K28 ?_
  refine cw_false rfl ?_
  refine cw_seq (fun FK29 K29 => ?_)
  refine cw_region ?_
  refine wl_val (v := .bool true) (fun ρ e => ex_eql1 (u := 6) (v := 6) (e _ _ rfl) (e _ _ rfl) (by omega)) rfl rfl ?_
  refine wl_val (v := .bool true) (fun ρ e => ex_assign (e _ _ rfl)) rfl rfl ?_
  refine wl_nil ?_
  refine xw_next K29 ?_
  refine cw_true rfl ?_
  refine cw_seq (fun FK30 K30 => ?_)
  refine cw_region ?_
  refine wl_val (v := .agg #[.int .i64 s.n, .slice A s.L.length c, .slice AG nG cG, .int .u64 (s.a.a.toNat : Int), .int .u64 (s.a.b.toNat : Int), .slice none 0 0, .bool s.closed]) (fun ρ e => ex_state (g := g2) (e _ _ rfl) gs.1) rfl rfl ?_
  refine wl_val (v := .slice AIn l.length cIn) (fun ρ e => ex_move (e _ _ rfl)) rfl rfl ?_
  refine wl_call (args := [.agg #[.int .i64 s.n, .slice A s.L.length c, .slice AG nG cG, .int .u64 (s.a.a.toNat : Int), .int .u64 (s.a.b.toNat : Int), .slice none 0 0, .bool s.closed], .slice AIn l.length cIn]) in_xor rfl rfl rfl ?_
  refine (x10_all _ (hAv.le gs.2.2.2.2.size) base bi (Nat.le_trans hbase gs.2.2.2.2.size) A c AG nG cG s s' v gl AIn cIn l hll gs.2.2.2.1 hs' hbd hn0 hn1 gs.2.2.1 hL).mono ?_
  rintro _ w31 ⟨⟨A32, c33, rfl, o5⟩, fr5⟩
  have gm := gs.mid fr5 o5
  replace hkg := fr5.blk hkg (.inl (by decide))
  refine ⟨_, rfl, ?_⟩
  refine wl_val (v := .agg #[.int .i64 s'.n, .slice A32 s'.L.length c33, .slice AG nG cG, .int .u64 (s'.a.a.toNat : Int), .int .u64 (s'.a.b.toNat : Int), .slice none 0 0, .bool s'.closed]) (fun ρ e => ex_extract (vs := #[.agg #[.int .i64 s'.n, .slice A32 s'.L.length c33, .slice AG nG cG, .int .u64 (s'.a.a.toNat : Int), .int .u64 (s'.a.b.toNat : Int), .slice none 0 0, .bool s'.closed], .int .i64 v]) (e _ _ rfl) rfl) rfl rfl ?_
  refine wl_val (v := .int .i64 v) (fun ρ e => ex_extract (vs := #[.agg #[.int .i64 s'.n, .slice A32 s'.L.length c33, .slice AG nG cG, .int .u64 (s'.a.a.toNat : Int), .int .u64 (s'.a.b.toNat : Int), .slice none 0 0, .bool s'.closed], .int .i64 v]) (e _ _ rfl) rfl) rfl rfl ?_
  refine wl_none (fun ρ e => ex_storeState (A := A32) (c := c33) (s := s') (AG := AG) (nG := nG) (cG := cG) (e _ _ rfl) (e _ _ rfl) gm.2.1) rfl ?_
  have ge := gm.fin h3
  refine wl_val (v := .int .i64 v) (fun ρ e => ex_assign (e _ _ rfl)) rfl rfl ?_
  refine wl_nil ?_
  refine xw_next K30 ?_
  refine cw_ret ?_
  refine xw_blockret ?_
  refine xw_past (by intro h; cases h) ?_
  refine xw_ret (v := .tuple #[.agg #[.int .i64 s'.n, .slice A32 s'.L.length c33, .slice AG nG cG, .int .u64 (s'.a.a.toNat : Int), .int .u64 (s'.a.b.toNat : Int), .slice none 0 0, .bool s'.closed], .int .i64 v]) (fun T hT => ?_) ⟨⟨A32, c33, rfl, ge.2.1⟩, ge.2.2⟩
  have t6 := hT 6 _ rfl
  have t7 := hT 7 _ rfl
  have r0 := ge.1.cell 0
  have r1 := ge.1.cell 1
  have r2 := ge.1.cell 2
  have r3 := ge.1.cell 3
  have r4 := ge.1.cell 4
  have r5 := ge.1.cell 5
  have r6 := ge.1.cell 6
  simp at r0 r1 r2 r3 r4 r5 r6
  simp [results, Try.results66, go_sem, t6, t7, r0, r1, r2, r3, r4, r5, r6]

/-- The kinds and how many inputs they have. -/
def kindOk (kind : Int) (n : Nat) : Prop := (kind = 0 ∧ n = 0) ∨ (kind = 1 ∧ n = 0) ∨ (kind = 2 ∧ n = 0) ∨ (kind = 3 ∧ n = 1) ∨ kind = 4 ∨ kind = 5 ∨ kind = 6 ∨ (kind = 7 ∧ n = 2) ∨ (kind = 8 ∧ n = 3)
theorem ref10_gateOf (w : World) {Av : Nat → Prop} (hAv : AvOk Av w) (base bi : Nat) (hbase : base ≤ w.heap.size) (A : Option Addr) (c : Nat) (AG : Option Addr) (nG cG : Nat) (s s' : RS) (v kind gl : Int) (AI : Option Addr) (nI kI : Nat) (AIn : Option Addr) (cIn : Nat) (l : List Int) (hok : kindOk kind l.length) (hll : l.length ≤ 80000) (hin : OwnInts w bi (.slice AIn l.length cIn) l) (hs' : s.gate kind gl l = (s', v)) (hbd : ∀ x ∈ l, -1000000 ≤ x ∧ x ≤ 1000000) (hnz : ∀ x ∈ l, x ≠ 0) (hn0 : 0 ≤ s.n) (hn1 : s.n ≤ 128)
    (hown : OwnRows w Av base (.slice A s.L.length c) s.L) (hL : s.L.length ≤ 400000) :
    Calls Try.prog 66 #[(.agg #[.int .i64 s.n, .slice A s.L.length c, .slice AG nG cG, .int .u64 (s.a.a.toNat : Int), .int .u64 (s.a.b.toNat : Int), .slice none 0 0, .bool s.closed]), .agg #[.int .i64 kind, .int .i64 gl, .slice AI nI kI], .slice AIn l.length cIn] w fun e w' => (∃ A' c', e = .returned (.tuple #[(.agg #[.int .i64 s'.n, .slice A' s'.L.length c', .slice AG nG cG, .int .u64 (s'.a.a.toNat : Int), .int .u64 (s'.a.b.toNat : Int), .slice none 0 0, .bool s'.closed]), .int .i64 v]) ∧ OwnRows w' Av base (.slice A' s'.L.length c') s'.L) ∧ FrR base w w' := by
  rcases hok with ⟨rfl, h⟩ | ⟨rfl, h⟩ | ⟨rfl, h⟩ | ⟨rfl, h⟩ | rfl | rfl | rfl | ⟨rfl, h⟩ | ⟨rfl, h⟩
  · obtain rfl := List.length_eq_zero_iff.1 h
    exact g10_false w hAv base bi hbase A c AG nG cG s s' v gl AI nI kI _ hs' hn0 (by omega) hown (by omega)
  · obtain rfl := List.length_eq_zero_iff.1 h
    exact g10_true w hAv base bi hbase A c AG nG cG s s' v gl AI nI kI _ hs' hn0 (by omega) hown (by omega)
  · obtain rfl := List.length_eq_zero_iff.1 h
    exact g10_lit w hAv base bi hbase A c AG nG cG s s' v gl AI nI kI _ hs' hn0 (by omega) hown (by omega)
  · obtain ⟨x, rfl⟩ := List.length_eq_one_iff.1 h
    obtain ⟨gi, rfl, _⟩ := own_addr hin (by simp)
    have hx := hbd x (by simp)
    exact g10_not w hAv base bi hbase A c AG nG cG s s' x v gl AI nI kI gi cIn hin hs' hn0 (by omega) hx.1 hx.2 hown (by omega)
  · exact g10_and w hAv base bi hbase A c AG nG cG s s' v gl AI nI kI AIn cIn l hll hin hs' hbd hn0 hn1 hown hL
  · exact g10_or w hAv base bi hbase A c AG nG cG s s' v gl AI nI kI AIn cIn l hll hin hs' hbd hnz hn0 hn1 hown hL
  · exact g10_xor w hAv base bi hbase A c AG nG cG s s' v gl AI nI kI AIn cIn l hll hin hs' hbd hn0 hn1 hown hL
  · match l, h, hin, hs', hbd with
    | [x, y], _, hin, hs', hbd =>
      obtain ⟨gi, rfl, _⟩ := own_addr hin (by simp)
      have hx := hbd x (by simp)
      have hy := hbd y (by simp)
      exact g10_iff w hAv base bi hbase A c AG nG cG s s' x y v gl AI nI kI gi cIn hin hs' hn0 (by omega) hx.1 hx.2 hy.1 hy.2 hown (by omega)
  · match l, h, hin, hs', hbd with
    | [x, y, z], _, hin, hs', hbd =>
      obtain ⟨gi, rfl, _⟩ := own_addr hin (by simp)
      have hx := hbd x (by simp)
      have hy := hbd y (by simp)
      have hz := hbd z (by simp)
      cases hc : holdsL s.a x
      · exact g10_if_false w hAv base bi hbase A c AG nG cG s s' x y z v gl AI nI kI gi cIn hin hc hs' hn0 (by omega) hx.1 hx.2 hy.1 hy.2 hz.1 hz.2 hown (by omega)
      · exact g10_if_true w hAv base bi hbase A c AG nG cG s s' x y z v gl AI nI kI gi cIn hin hc hs' hn0 (by omega) hx.1 hx.2 hy.1 hy.2 hz.1 hz.2 hown (by omega)
end Go.Proofs.Ytlifakbdgmdafaa
