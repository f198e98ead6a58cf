/-
  Lemmas and contracts, joined: Rxor Rgate RneedP Rneed.
-/
import Derived.Test.YtbemhgojfehnjaaDoorPf6
namespace Go.Proofs.YtbemhgojfehnjaaDoor
open Go Go.RowKit
section
variable {P : Program} {ops : Array Oper} {Q : Exit → Act → World → Prop} {S C : World → Prop} {r : List (Nat × Nat)} {rest : List Oper} {n : Nat} {m : List (Nat × Value)} {w w' : World} {i d : Nat} {op : Op} {t : TypeId} {pos : String} {aft : Array Edge} {gd : Option (Nat × Bool)} {v : Value}
theorem wt2_skip (ho : ops[i]? = some ⟨some d, op, t, pos, aft, gd⟩) (hg : wantedM ops m gd = some false) (hd : Nat.blt d n = true) (hS : S w) (h : wt P ops Q S r n ((d, undef) :: m) w) : wt P ops Q S ((i, 2) :: r) n m w := fun a ha =>
  ⟨_, ho, fun K hK => by
    rw [if_neg (by rw [ha.wanted hg]; decide)]
    exact hK.out _ _ hS (fun _ => h _ (ha.put (by simpa [Nat.blt_eq] using hd) undef))⟩
end
section
variable {ρ : Operand → Value} {d : Option Tmp} {x y : Operand} {t : TypeId} {pos : String} {aft : Array Edge} {gd : Option (Nat × Bool)} {w : World} {T1 : TypeId}
theorem ex_remr {a b q : Nat} (hx : ρ x = .int .i64 (a : Int)) (hy : ρ y = .int .i64 (b : Int)) (h : 0 < b) (hq : a % b = q) : (execOp ρ ⟨d, .binOp .rem 3 x y T1, t, pos, aft, gd⟩).run Tryd.prog w = .ok (.value (.int .i64 ((q : Nat) : Int))) w := by
  subst hq
  have e2 : (a : Int).tmod (b : Int) = ((a % b : Nat) : Int) := by simp [Int.tmod_eq_emod_of_nonneg]
  have hb : ¬ b = 0 := by omega
  simp [go_sem, hx, hy, e2, hb]
end
theorem IntsD.take {D : Nat → Prop} {w : World} {A : Option Addr} {n c k : Nat} {xs : List Int} (h : IntsD D w (.slice A n c) xs) (hk : k ≤ xs.length) : IntsD D w (.slice A k c) (xs.take k) := by
  obtain ⟨A', c', hv, h2, h3, h4⟩ := h
  injection hv with a b e
  subst a; subst e
  have hl : (xs.take k).length = k := List.length_take_of_le hk
  refine ⟨A, c, by rw [hl], by omega, h3, fun hp => ?_⟩
  obtain ⟨bb, o, hb, hA, hc⟩ := h4 (by omega)
  refine ⟨bb, o, hb, hA, fun i x hx => hc i x ?_⟩
  rw [List.getElem?_take] at hx
  split at hx
  · exact hx
  · cases hx
theorem times_pos {x : Int} {l : List Int} (h : x ∈ l) : 0 < timesOf x l := Nat.pos_of_ne_zero (fun q => times_mem.1 q h)
/-- The true gate that is left, if any. -/
def lastOf (last : Int) : List Int := if last < 0 then [] else [last]
section
variable {W : World} {f c B : Nat} {N : Int} {R : Option Addr} {D DI : Nat → Prop} {L : List Gate} {vs : List Value} {V : Value} {ins : List Int}
theorem rxor_ (O0 : Own (zone (refE f R c D L vs ++ [inE DI V ins])) W W (refE f R c D L vs ++ [inE DI V ins])) (hw : wfL N B L) (hd : ND L) (hin : ∀ x ∈ ins, 0 ≤ x ∧ x < (L.length : Int)) (hil : ins.length ≤ 1000000) (ok : shortL L) (okl : ∀ i (h : i < L.length), -1000000 ≤ L[i].lit ∧ L[i].lit ≤ 1000000) (hL : L.length ≤ 1000000) :
    Calls Tryd.prog 69 #[.pointer (some ⟨f, 0, none⟩), V] W (RPost (refE f R c D L vs ++ [inE DI V ins]) W f (xorG L ins)) := by
  have hV : IntsD DI W V ins := O0.ro 3 rfl
  have hVf := fun (h : 0 < ins.length) => hV.form h
  obtain ⟨AI, cI, rfl⟩ := hV.slice
  have hcI : ins.length ≤ cI := by obtain ⟨_, _, hv, h2, _⟩ := hV; injection hv with _ _ e; omega
  refine sx_enter (args := [.pointer (some ⟨f, 0, none⟩), .slice AI ins.length cI]) Tryd.func69 rfl rfl (by simp) ?_
  refine cw_seq (fun FK1 K1 => ?_)
  refine cw_region ?_
  refine wl_val (v := .int .i64 0) (fun ρ e => ex_assign (e _ _ rfl)) rfl rfl ?_
  refine wl_nil ?_
  refine xw_next K1 ?_
  refine cw_seq (fun FK2 K2 => ?_)
  refine cw_region ?_
  refine wl_val (v := .slice none 0 0) (fun ρ e => ex_assign (e _ _ rfl)) rfl rfl ?_
  refine wl_val (v := .slice none 0 0) (fun ρ e => ex_assign (e _ _ rfl)) rfl rfl ?_
  refine wl_nil ?_
  refine xw_next K2 ?_
  refine cw_seq (fun FK3 K3 => ?_)
  refine cw_seq (fun FK4 K4 => ?_)
  refine cw_region ?_
  refine wl_val (v := .int .i64 0) (fun ρ e => ex_assign (e _ _ rfl)) rfl rfl ?_
  refine wl_nil ?_
  refine xw_next K4 ?_
  refine cw_block ?_
  have O5 : Own (zone (refE f R c D L vs ++ [inE DI (.slice AI ins.length cI) ins])) W W [.row (.slice none 0 0) 3 1 0 (intCs []), .blk f 63 #[.slice R L.length c], .row (.slice R L.length c) 38 3 L.length (gcells L vs), .ro D (Ins D L vs), .ro DI (fun w => IntsD DI w (.slice AI ins.length cI) ins)] := O0.nilrow 3 1
  have O6 : Own (zone (refE f R c D L vs ++ [inE DI (.slice AI ins.length cI) ins])) W W [.row (.slice none 0 0) 3 1 0 (intCs []), .row (.slice none 0 0) 3 1 0 (intCs []), .blk f 63 #[.slice R L.length c], .row (.slice R L.length c) 38 3 L.length (gcells L vs), .ro D (Ins D L vs), .ro DI (fun w => IntsD DI w (.slice AI ins.length cI) ins)] := O5.nilrow 3 1
  refine cw_loop (ι := Nat × Option Addr × Nat × Nat × List Int × Option Addr × Nat × Nat × List Int × (Int → Bool) × Int) (fun q => [(0, .pointer (some ⟨f, 0, none⟩)), (1, .slice AI ins.length cI), (5, .slice q.2.1 q.2.2.2.1 q.2.2.1), (6, .slice q.2.2.2.2.2.1 q.2.2.2.2.2.2.2.1 q.2.2.2.2.2.2.1), (7, .int .i64 (q.1 : Int))]) (fun q X => (q.1 ≤ ins.length) ∧ (q.2.2.2.1 = q.2.2.2.2.1.length) ∧ (q.2.2.2.2.2.2.2.1 = q.2.2.2.2.2.2.2.2.1.length) ∧ (q.2.2.2.1 ≤ q.1) ∧ (q.2.2.2.2.2.2.2.1 ≤ q.1) ∧ (∀ x ∈ q.2.2.2.2.1, 0 ≤ x ∧ x < (L.length : Int)) ∧ (q.2.2.2.2.2.2.2.2.1 = lastOf q.2.2.2.2.2.2.2.2.2.2) ∧ (RX L ins q.1 q.2.2.2.2.2.2.2.2.2.1 q.2.2.2.2.1 q.2.2.2.2.2.2.2.2.2.2) ∧ Own (zone (refE f R c D L vs ++ [inE DI (.slice AI ins.length cI) ins])) W X [.row (.slice q.2.1 q.2.2.2.1 q.2.2.1) 3 1 q.2.2.2.1 (intCs q.2.2.2.2.1), .row (.slice q.2.2.2.2.2.1 q.2.2.2.2.2.2.2.1 q.2.2.2.2.2.2.1) 3 1 q.2.2.2.2.2.2.2.1 (intCs q.2.2.2.2.2.2.2.2.1), .blk f 63 #[.slice R L.length c], .row (.slice R L.length c) 38 3 L.length (gcells L vs), .ro D (Ins D L vs), .ro DI (fun w => IntsD DI w (.slice AI ins.length cI) ins)]) (fun q => ins.length - q.1) (0, none, 0, 0, [], none, 0, 0, [], (fun x => oddIn x ins), (-1)) ⟨Nat.zero_le _, rfl, rfl, Nat.zero_le _, Nat.zero_le _, (fun x hx => absurd hx (List.not_mem_nil)), rfl, RX.start L ins, O6⟩ ⟨rfl, rfl, rfl, rfl, rfl, trivial⟩ (fun q w7 hJ F8 K9 => ?_)
  obtain ⟨k, A, cA, n, l, A2, cA2, n2, l2, odd, last⟩ := q
  obtain ⟨hk0, hn, hn2, hnk, hn2k, hl1, hones, hrx, O10⟩ := hJ
  dsimp only at hk0 hn hn2 hnk hn2k hl1 hones hrx O10 ⊢
  by_cases hk : k < ins.length
  · obtain ⟨x, hxk, hdr, hxm⟩ := drop_cons hk
    have hxL := hin x hxm
    have hxx : ins[k] = x := (List.getElem?_eq_some_iff.1 hxk).2
    obtain ⟨bI, oI, cJ, hbI⟩ := hVf (by omega)
    by_cases h0 : kindAt L x = 0
    · skip
      refine cw_seq (fun FK11 K11 => ?_)
      refine cw_seq (fun FK12 K12 => ?_)
      refine cw_region ?_
      refine wl_val (v := .int .i64 (k : Int)) (fun ρ e => ex_move (e _ _ rfl)) rfl rfl ?_
      refine wl_val (v := .slice AI ins.length cI) (fun ρ e => ex_move (e _ _ rfl)) rfl rfl ?_
      refine wl_val (v := .int .i64 ((ins.length : Nat) : Int)) (fun ρ e => ex_len el36 (e _ _ rfl)) rfl rfl ?_
      refine wl_val (v := .bool true) (fun ρ e => ex_cmp (u := (k : Int)) (v := ((ins.length : Nat) : Int)) (e _ _ rfl) (e _ _ rfl) (lss1 (by omega))) rfl rfl ?_
      refine wl_nil ?_
      refine xw_next K12 ?_
      refine cw_true rfl ?_
      refine cw_skip ?_
      refine xw_next K11 ?_
      refine cw_seq (fun FK13 K13 => ?_)
      refine cw_block ?_
      refine cw_seq (fun FK14 K14 => ?_)
      refine cw_seq (fun FK15 K15 => ?_)
      refine cw_drawn (fun X => Own (zone (refE f R c D L vs ++ [inE DI (.slice AI ins.length cI) ins])) W X [.blk f 63 #[.slice R L.length c], .ro D (Ins D L vs), .ro DI (fun w => IntsD DI w (.slice AI ins.length cI) ins)]) 27 [(0, 1), (1, 1), (2, 1), (3, 1), (4, 0), (5, 2), (6, 1), (7, 1), (8, 1), (9, 1), (10, 1), (11, 0), (12, 2), (13, 1), (14, 1), (15, 1), (16, 1), (17, 1), (18, 1), (19, 1), (20, 1), (21, 1), (22, 1), (23, 0), (24, 2), (25, 1), (26, 1)] (by kernel_rfl) (by kernel_rfl) (PQ.then_ (PQ.then_ (PQ.block (PQ.then_ (PQ.then_ (PQ.block (PQ.then_ PQ.body))))))) ((O10.re [2, 4, 5] rfl : Own (zone (refE f R c D L vs ++ [inE DI (.slice AI ins.length cI) ins])) W w7 [.blk f 63 #[.slice R L.length c], .ro D (Ins D L vs), .ro DI (fun w => IntsD DI w (.slice AI ins.length cI) ins)])).drew ?_
      have O16 : Own (zone (refE f R c D L vs ++ [inE DI (.slice AI ins.length cI) ins])) W w7.drew [.row (.slice A n cA) 3 1 n (intCs l), .row (.slice A2 n2 cA2) 3 1 n2 (intCs l2), .blk f 63 #[.slice R L.length c], .row (.slice R L.length c) 38 3 L.length (gcells L vs), .ro D (Ins D L vs), .ro DI (fun w => IntsD DI w (.slice AI ins.length cI) ins)] := O10.drew
      refine wt1 (v := .pointer (some ⟨f, 0, none⟩)) rfl (fun ρ e W => ex_move (e _ _ rfl)) rfl rfl ?_
      refine wt1 (v := .slice AI ins.length cI) rfl (fun ρ e W => ex_move (e _ _ rfl)) rfl rfl ?_
      refine wt1 (v := .int .i64 (k : Int)) rfl (fun ρ e W => ex_move (e _ _ rfl)) rfl rfl ?_
      refine wt1 (v := .pointer (some ⟨bI, oI + k, none⟩)) rfl (fun ρ e W => ex_idx (q := oI + k) (o := oI) (i := k) el36 ((e _ _ rfl).trans hbI) (e _ _ rfl) hk (by omega)) rfl rfl ?_
      refine wt0 (v := .int .i64 x) rfl (fun ρ e W hW => ex_load1 ty3 (e _ _ rfl) (IntsD.cellq ((hbI ▸ (hW.ro 2 rfl)) : IntsD DI _ (.slice (some ⟨bI, oI, none⟩) ins.length cJ) ins) hxk)) rfl rfl ?_
      refine wt2_call (args := [.pointer (some ⟨f, 0, none⟩), .int .i64 x, .int .i64 0]) rfl in_83 rfl rfl rfl ?_
      refine (ris1 (f := f) (R := R) (c := c) (D := D) (L := L) (vs := vs) (rest := [.row (.slice A n cA) 3 1 n (intCs l), .row (.slice A2 n2 cA2) 3 1 n2 (intCs l2), .ro DI (fun w => IntsD DI w (.slice AI ins.length cI) ins)]) (O16.re [2, 3, 4, 0, 1, 5] rfl : Own (zone (refE f R c D L vs ++ [inE DI (.slice AI ins.length cI) ins])) W w7.drew [.blk f 63 #[.slice R L.length c], .row (.slice R L.length c) 38 3 L.length (gcells L vs), .ro D (Ins D L vs), .row (.slice A n cA) 3 1 n (intCs l), .row (.slice A2 n2 cA2) 3 1 n2 (intCs l2), .ro DI (fun w => IntsD DI w (.slice AI ins.length cI) ins)]) hxL h0).mono ?_
      rintro _ w17 ⟨rfl, hb18⟩
      have O19 : Own (zone (refE f R c D L vs ++ [inE DI (.slice AI ins.length cI) ins])) W w17 [.row (.slice A n cA) 3 1 n (intCs l), .row (.slice A2 n2 cA2) 3 1 n2 (intCs l2), .blk f 63 #[.slice R L.length c], .row (.slice R L.length c) 38 3 L.length (gcells L vs), .ro D (Ins D L vs), .ro DI (fun w => IntsD DI w (.slice AI ins.length cI) ins)] := O16.below hb18
      refine ⟨_, rfl, (O19.re [2, 4, 5] rfl : Own (zone (refE f R c D L vs ++ [inE DI (.slice AI ins.length cI) ins])) W w17 [.blk f 63 #[.slice R L.length c], .ro D (Ins D L vs), .ro DI (fun w => IntsD DI w (.slice AI ins.length cI) ins)]), ?_⟩
      refine wt1 (v := .bool true) rfl (fun ρ e W => ex_move (e _ _ rfl)) rfl rfl ?_
      refine wt1_skip rfl rfl rfl ?_
      refine wt1_skip rfl rfl rfl ?_
      refine wt1_skip rfl rfl rfl ?_
      refine wt1_skip rfl rfl rfl ?_
      refine wt0_skip rfl rfl rfl ?_
      refine wt2_skip rfl rfl rfl (O19.re [2, 4, 5] rfl : Own (zone (refE f R c D L vs ++ [inE DI (.slice AI ins.length cI) ins])) W w17 [.blk f 63 #[.slice R L.length c], .ro D (Ins D L vs), .ro DI (fun w => IntsD DI w (.slice AI ins.length cI) ins)]) ?_
      refine wt1_skip rfl rfl rfl ?_
      refine wt1_skip rfl rfl rfl ?_
      refine wt1 (v := .bool true) rfl (fun ρ e W => ex_pick1 (e _ _ rfl) (e _ _ rfl)) rfl rfl ?_
      refine wt1 (v := .bool true) rfl (fun ρ e W => ex_move (e _ _ rfl)) rfl rfl ?_
      refine wt1_skip rfl rfl rfl ?_
      refine wt1_skip rfl rfl rfl ?_
      refine wt1_skip rfl rfl rfl ?_
      refine wt1_skip rfl rfl rfl ?_
      refine wt1_skip rfl rfl rfl ?_
      refine wt1_skip rfl rfl rfl ?_
      refine wt0_skip rfl rfl rfl ?_
      refine wt2_skip rfl rfl rfl (O19.re [2, 4, 5] rfl : Own (zone (refE f R c D L vs ++ [inE DI (.slice AI ins.length cI) ins])) W w17 [.blk f 63 #[.slice R L.length c], .ro D (Ins D L vs), .ro DI (fun w => IntsD DI w (.slice AI ins.length cI) ins)]) ?_
      refine wt1_skip rfl rfl rfl ?_
      refine wt1 (v := .bool true) rfl (fun ρ e W => ex_pick1 (e _ _ rfl) (e _ _ rfl)) rfl rfl ?_
      refine wt_nil ?_
      refine xw_next K15 ?_
      refine cw_true rfl ?_
      refine cw_exit ?_
      refine xw_past (by intro h; cases h) ?_
      refine xw_here ?_
      refine xw_next K13 ?_
      refine cw_region ?_
      refine wl_val (v := .int .i64 (k : Int)) (fun ρ e => ex_move (e _ _ rfl)) rfl rfl ?_
      refine wl_val (v := .int .i64 ((k + 1 : Nat) : Int)) (fun ρ e => ex_arith (k := .i64) (u := (k : Int)) (v := 1) (e _ _ rfl) (e _ _ rfl) (congrArg some ((congrArg _ (by omega)).trans (wrap_in (u := ((k + 1 : Nat) : Int)) (by omega) (by omega))))) rfl rfl ?_
      refine wl_val (v := .int .i64 ((k + 1 : Nat) : Int)) (fun ρ e => ex_assign (e _ _ rfl)) rfl rfl ?_
      refine wl_nil ?_
      refine xw_round K9 (k + 1, A, cA, n, l, A2, cA2, n2, l2, odd, last) (by show ins.length - (k + 1) < ins.length - k; omega) ⟨(by show k + 1 ≤ _; omega), hn, hn2, (by show n ≤ k + 1; omega), (by show n2 ≤ k + 1; omega), hl1, hones, (hrx.skip hk hxx (.inl h0)), O19⟩ ⟨rfl, rfl, rfl, rfl, rfl, trivial⟩
    · skip
      by_cases h1 : timesOf x ins % 2 = 0
      · skip
        refine cw_seq (fun FK20 K20 => ?_)
        refine cw_seq (fun FK21 K21 => ?_)
        refine cw_region ?_
        refine wl_val (v := .int .i64 (k : Int)) (fun ρ e => ex_move (e _ _ rfl)) rfl rfl ?_
        refine wl_val (v := .slice AI ins.length cI) (fun ρ e => ex_move (e _ _ rfl)) rfl rfl ?_
        refine wl_val (v := .int .i64 ((ins.length : Nat) : Int)) (fun ρ e => ex_len el36 (e _ _ rfl)) rfl rfl ?_
        refine wl_val (v := .bool true) (fun ρ e => ex_cmp (u := (k : Int)) (v := ((ins.length : Nat) : Int)) (e _ _ rfl) (e _ _ rfl) (lss1 (by omega))) rfl rfl ?_
        refine wl_nil ?_
        refine xw_next K21 ?_
        refine cw_true rfl ?_
        refine cw_skip ?_
        refine xw_next K20 ?_
        refine cw_seq (fun FK22 K22 => ?_)
        refine cw_block ?_
        refine cw_seq (fun FK23 K23 => ?_)
        refine cw_seq (fun FK24 K24 => ?_)
        refine cw_drawn (fun X => Own (zone (refE f R c D L vs ++ [inE DI (.slice AI ins.length cI) ins])) W X [.blk f 63 #[.slice R L.length c], .ro D (Ins D L vs), .ro DI (fun w => IntsD DI w (.slice AI ins.length cI) ins)]) 27 [(0, 1), (1, 1), (2, 1), (3, 1), (4, 0), (5, 2), (6, 1), (7, 1), (8, 1), (9, 1), (10, 1), (11, 0), (12, 2), (13, 1), (14, 1), (15, 1), (16, 1), (17, 1), (18, 1), (19, 1), (20, 1), (21, 1), (22, 1), (23, 0), (24, 2), (25, 1), (26, 1)] (by kernel_rfl) (by kernel_rfl) (PQ.then_ (PQ.then_ (PQ.block (PQ.then_ (PQ.then_ (PQ.block (PQ.then_ PQ.body))))))) ((O10.re [2, 4, 5] rfl : Own (zone (refE f R c D L vs ++ [inE DI (.slice AI ins.length cI) ins])) W w7 [.blk f 63 #[.slice R L.length c], .ro D (Ins D L vs), .ro DI (fun w => IntsD DI w (.slice AI ins.length cI) ins)])).drew ?_
        have O25 : Own (zone (refE f R c D L vs ++ [inE DI (.slice AI ins.length cI) ins])) W w7.drew [.row (.slice A n cA) 3 1 n (intCs l), .row (.slice A2 n2 cA2) 3 1 n2 (intCs l2), .blk f 63 #[.slice R L.length c], .row (.slice R L.length c) 38 3 L.length (gcells L vs), .ro D (Ins D L vs), .ro DI (fun w => IntsD DI w (.slice AI ins.length cI) ins)] := O10.drew
        refine wt1 (v := .pointer (some ⟨f, 0, none⟩)) rfl (fun ρ e W => ex_move (e _ _ rfl)) rfl rfl ?_
        refine wt1 (v := .slice AI ins.length cI) rfl (fun ρ e W => ex_move (e _ _ rfl)) rfl rfl ?_
        refine wt1 (v := .int .i64 (k : Int)) rfl (fun ρ e W => ex_move (e _ _ rfl)) rfl rfl ?_
        refine wt1 (v := .pointer (some ⟨bI, oI + k, none⟩)) rfl (fun ρ e W => ex_idx (q := oI + k) (o := oI) (i := k) el36 ((e _ _ rfl).trans hbI) (e _ _ rfl) hk (by omega)) rfl rfl ?_
        refine wt0 (v := .int .i64 x) rfl (fun ρ e W hW => ex_load1 ty3 (e _ _ rfl) (IntsD.cellq ((hbI ▸ (hW.ro 2 rfl)) : IntsD DI _ (.slice (some ⟨bI, oI, none⟩) ins.length cJ) ins) hxk)) rfl rfl ?_
        refine wt2_call (args := [.pointer (some ⟨f, 0, none⟩), .int .i64 x, .int .i64 0]) rfl in_83 rfl rfl rfl ?_
        refine (ris0 (f := f) (R := R) (c := c) (D := D) (L := L) (vs := vs) (rest := [.row (.slice A n cA) 3 1 n (intCs l), .row (.slice A2 n2 cA2) 3 1 n2 (intCs l2), .ro DI (fun w => IntsD DI w (.slice AI ins.length cI) ins)]) (O25.re [2, 3, 4, 0, 1, 5] rfl : Own (zone (refE f R c D L vs ++ [inE DI (.slice AI ins.length cI) ins])) W w7.drew [.blk f 63 #[.slice R L.length c], .row (.slice R L.length c) 38 3 L.length (gcells L vs), .ro D (Ins D L vs), .row (.slice A n cA) 3 1 n (intCs l), .row (.slice A2 n2 cA2) 3 1 n2 (intCs l2), .ro DI (fun w => IntsD DI w (.slice AI ins.length cI) ins)]) hxL h0).mono ?_
        rintro _ w26 ⟨rfl, hb27⟩
        have O28 : Own (zone (refE f R c D L vs ++ [inE DI (.slice AI ins.length cI) ins])) W w26 [.row (.slice A n cA) 3 1 n (intCs l), .row (.slice A2 n2 cA2) 3 1 n2 (intCs l2), .blk f 63 #[.slice R L.length c], .row (.slice R L.length c) 38 3 L.length (gcells L vs), .ro D (Ins D L vs), .ro DI (fun w => IntsD DI w (.slice AI ins.length cI) ins)] := O25.below hb27
        refine ⟨_, rfl, (O28.re [2, 4, 5] rfl : Own (zone (refE f R c D L vs ++ [inE DI (.slice AI ins.length cI) ins])) W w26 [.blk f 63 #[.slice R L.length c], .ro D (Ins D L vs), .ro DI (fun w => IntsD DI w (.slice AI ins.length cI) ins)]), ?_⟩
        refine wt1 (v := .bool false) rfl (fun ρ e W => ex_move (e _ _ rfl)) rfl rfl ?_
        refine wt1 (v := .slice AI ins.length cI) rfl (fun ρ e W => ex_move (e _ _ rfl)) rfl rfl ?_
        refine wt1 (v := .slice AI ins.length cI) rfl (fun ρ e W => ex_move (e _ _ rfl)) rfl rfl ?_
        refine wt1 (v := .int .i64 (k : Int)) rfl (fun ρ e W => ex_move (e _ _ rfl)) rfl rfl ?_
        refine wt1 (v := .pointer (some ⟨bI, oI + k, none⟩)) rfl (fun ρ e W => ex_idx (q := oI + k) (o := oI) (i := k) el36 ((e _ _ rfl).trans hbI) (e _ _ rfl) hk (by omega)) rfl rfl ?_
        refine wt0 (v := .int .i64 x) rfl (fun ρ e W hW => ex_load1 ty3 (e _ _ rfl) (IntsD.cellq ((hbI ▸ (hW.ro 2 rfl)) : IntsD DI _ (.slice (some ⟨bI, oI, none⟩) ins.length cJ) ins) hxk)) rfl rfl ?_
        refine wt2_call (args := [.slice AI ins.length cI, .int .i64 x]) rfl in_84 rfl rfl rfl ?_
        refine (times_n (l := ins) (x := x) rfl ((O28.ro 5 rfl : IntsD DI _ (.slice AI ins.length cI) ins).V ((O28.get 5 rfl).2.1)) (by omega)).mono ?_
        rintro _ w29 ⟨rfl, hb30⟩
        have O31 : Own (zone (refE f R c D L vs ++ [inE DI (.slice AI ins.length cI) ins])) W w29 [.row (.slice A n cA) 3 1 n (intCs l), .row (.slice A2 n2 cA2) 3 1 n2 (intCs l2), .blk f 63 #[.slice R L.length c], .row (.slice R L.length c) 38 3 L.length (gcells L vs), .ro D (Ins D L vs), .ro DI (fun w => IntsD DI w (.slice AI ins.length cI) ins)] := O28.below hb30
        refine ⟨_, rfl, (O31.re [2, 4, 5] rfl : Own (zone (refE f R c D L vs ++ [inE DI (.slice AI ins.length cI) ins])) W w29 [.blk f 63 #[.slice R L.length c], .ro D (Ins D L vs), .ro DI (fun w => IntsD DI w (.slice AI ins.length cI) ins)]), ?_⟩
        refine wt1 (v := .int .i64 ((timesOf x ins % 2 : Nat) : Int)) rfl (fun ρ e W => ex_remr (a := timesOf x ins) (b := 2) (e _ _ rfl) (e _ _ rfl) (by decide) rfl) rfl rfl ?_
        refine wt1 (v := .bool true) rfl (fun ρ e W => ex_cmp (u := ((timesOf x ins % 2 : Nat) : Int)) (v := 0) (e _ _ rfl) (e _ _ rfl) (eql1 (by omega))) rfl rfl ?_
        refine wt1 (v := .bool true) rfl (fun ρ e W => ex_pick0 (e _ _ rfl) (e _ _ rfl)) rfl rfl ?_
        refine wt1 (v := .bool true) rfl (fun ρ e W => ex_move (e _ _ rfl)) rfl rfl ?_
        refine wt1_skip rfl rfl rfl ?_
        refine wt1_skip rfl rfl rfl ?_
        refine wt1_skip rfl rfl rfl ?_
        refine wt1_skip rfl rfl rfl ?_
        refine wt1_skip rfl rfl rfl ?_
        refine wt1_skip rfl rfl rfl ?_
        refine wt0_skip rfl rfl rfl ?_
        refine wt2_skip rfl rfl rfl (O31.re [2, 4, 5] rfl : Own (zone (refE f R c D L vs ++ [inE DI (.slice AI ins.length cI) ins])) W w29 [.blk f 63 #[.slice R L.length c], .ro D (Ins D L vs), .ro DI (fun w => IntsD DI w (.slice AI ins.length cI) ins)]) ?_
        refine wt1_skip rfl rfl rfl ?_
        refine wt1 (v := .bool true) rfl (fun ρ e W => ex_pick1 (e _ _ rfl) (e _ _ rfl)) rfl rfl ?_
        refine wt_nil ?_
        refine xw_next K24 ?_
        refine cw_true rfl ?_
        refine cw_exit ?_
        refine xw_past (by intro h; cases h) ?_
        refine xw_here ?_
        refine xw_next K22 ?_
        refine cw_region ?_
        refine wl_val (v := .int .i64 (k : Int)) (fun ρ e => ex_move (e _ _ rfl)) rfl rfl ?_
        refine wl_val (v := .int .i64 ((k + 1 : Nat) : Int)) (fun ρ e => ex_arith (k := .i64) (u := (k : Int)) (v := 1) (e _ _ rfl) (e _ _ rfl) (congrArg some ((congrArg _ (by omega)).trans (wrap_in (u := ((k + 1 : Nat) : Int)) (by omega) (by omega))))) rfl rfl ?_
        refine wl_val (v := .int .i64 ((k + 1 : Nat) : Int)) (fun ρ e => ex_assign (e _ _ rfl)) rfl rfl ?_
        refine wl_nil ?_
        refine xw_round K9 (k + 1, A, cA, n, l, A2, cA2, n2, l2, odd, last) (by show ins.length - (k + 1) < ins.length - k; omega) ⟨(by show k + 1 ≤ _; omega), hn, hn2, (by show n ≤ k + 1; omega), (by show n2 ≤ k + 1; omega), hl1, hones, (hrx.skip hk hxx (.inr (.inl (by rw [odd_times]; exact decide_eq_false (by omega))))), O31⟩ ⟨rfl, rfl, rfl, rfl, rfl, trivial⟩
      · skip
        by_cases h2 : x ∈ ins.take k
        · have h2' := times_pos h2
          refine cw_seq (fun FK32 K32 => ?_)
          refine cw_seq (fun FK33 K33 => ?_)
          refine cw_region ?_
          refine wl_val (v := .int .i64 (k : Int)) (fun ρ e => ex_move (e _ _ rfl)) rfl rfl ?_
          refine wl_val (v := .slice AI ins.length cI) (fun ρ e => ex_move (e _ _ rfl)) rfl rfl ?_
          refine wl_val (v := .int .i64 ((ins.length : Nat) : Int)) (fun ρ e => ex_len el36 (e _ _ rfl)) rfl rfl ?_
          refine wl_val (v := .bool true) (fun ρ e => ex_cmp (u := (k : Int)) (v := ((ins.length : Nat) : Int)) (e _ _ rfl) (e _ _ rfl) (lss1 (by omega))) rfl rfl ?_
          refine wl_nil ?_
          refine xw_next K33 ?_
          refine cw_true rfl ?_
          refine cw_skip ?_
          refine xw_next K32 ?_
          refine cw_seq (fun FK34 K34 => ?_)
          refine cw_block ?_
          refine cw_seq (fun FK35 K35 => ?_)
          refine cw_seq (fun FK36 K36 => ?_)
          refine cw_drawn (fun X => Own (zone (refE f R c D L vs ++ [inE DI (.slice AI ins.length cI) ins])) W X [.blk f 63 #[.slice R L.length c], .ro D (Ins D L vs), .ro DI (fun w => IntsD DI w (.slice AI ins.length cI) ins)]) 27 [(0, 1), (1, 1), (2, 1), (3, 1), (4, 0), (5, 2), (6, 1), (7, 1), (8, 1), (9, 1), (10, 1), (11, 0), (12, 2), (13, 1), (14, 1), (15, 1), (16, 1), (17, 1), (18, 1), (19, 1), (20, 1), (21, 1), (22, 1), (23, 0), (24, 2), (25, 1), (26, 1)] (by kernel_rfl) (by kernel_rfl) (PQ.then_ (PQ.then_ (PQ.block (PQ.then_ (PQ.then_ (PQ.block (PQ.then_ PQ.body))))))) ((O10.re [2, 4, 5] rfl : Own (zone (refE f R c D L vs ++ [inE DI (.slice AI ins.length cI) ins])) W w7 [.blk f 63 #[.slice R L.length c], .ro D (Ins D L vs), .ro DI (fun w => IntsD DI w (.slice AI ins.length cI) ins)])).drew ?_
          have O37 : Own (zone (refE f R c D L vs ++ [inE DI (.slice AI ins.length cI) ins])) W w7.drew [.row (.slice A n cA) 3 1 n (intCs l), .row (.slice A2 n2 cA2) 3 1 n2 (intCs l2), .blk f 63 #[.slice R L.length c], .row (.slice R L.length c) 38 3 L.length (gcells L vs), .ro D (Ins D L vs), .ro DI (fun w => IntsD DI w (.slice AI ins.length cI) ins)] := O10.drew
          refine wt1 (v := .pointer (some ⟨f, 0, none⟩)) rfl (fun ρ e W => ex_move (e _ _ rfl)) rfl rfl ?_
          refine wt1 (v := .slice AI ins.length cI) rfl (fun ρ e W => ex_move (e _ _ rfl)) rfl rfl ?_
          refine wt1 (v := .int .i64 (k : Int)) rfl (fun ρ e W => ex_move (e _ _ rfl)) rfl rfl ?_
          refine wt1 (v := .pointer (some ⟨bI, oI + k, none⟩)) rfl (fun ρ e W => ex_idx (q := oI + k) (o := oI) (i := k) el36 ((e _ _ rfl).trans hbI) (e _ _ rfl) hk (by omega)) rfl rfl ?_
          refine wt0 (v := .int .i64 x) rfl (fun ρ e W hW => ex_load1 ty3 (e _ _ rfl) (IntsD.cellq ((hbI ▸ (hW.ro 2 rfl)) : IntsD DI _ (.slice (some ⟨bI, oI, none⟩) ins.length cJ) ins) hxk)) rfl rfl ?_
          refine wt2_call (args := [.pointer (some ⟨f, 0, none⟩), .int .i64 x, .int .i64 0]) rfl in_83 rfl rfl rfl ?_
          refine (ris0 (f := f) (R := R) (c := c) (D := D) (L := L) (vs := vs) (rest := [.row (.slice A n cA) 3 1 n (intCs l), .row (.slice A2 n2 cA2) 3 1 n2 (intCs l2), .ro DI (fun w => IntsD DI w (.slice AI ins.length cI) ins)]) (O37.re [2, 3, 4, 0, 1, 5] rfl : Own (zone (refE f R c D L vs ++ [inE DI (.slice AI ins.length cI) ins])) W w7.drew [.blk f 63 #[.slice R L.length c], .row (.slice R L.length c) 38 3 L.length (gcells L vs), .ro D (Ins D L vs), .row (.slice A n cA) 3 1 n (intCs l), .row (.slice A2 n2 cA2) 3 1 n2 (intCs l2), .ro DI (fun w => IntsD DI w (.slice AI ins.length cI) ins)]) hxL h0).mono ?_
          rintro _ w38 ⟨rfl, hb39⟩
          have O40 : Own (zone (refE f R c D L vs ++ [inE DI (.slice AI ins.length cI) ins])) W w38 [.row (.slice A n cA) 3 1 n (intCs l), .row (.slice A2 n2 cA2) 3 1 n2 (intCs l2), .blk f 63 #[.slice R L.length c], .row (.slice R L.length c) 38 3 L.length (gcells L vs), .ro D (Ins D L vs), .ro DI (fun w => IntsD DI w (.slice AI ins.length cI) ins)] := O37.below hb39
          refine ⟨_, rfl, (O40.re [2, 4, 5] rfl : Own (zone (refE f R c D L vs ++ [inE DI (.slice AI ins.length cI) ins])) W w38 [.blk f 63 #[.slice R L.length c], .ro D (Ins D L vs), .ro DI (fun w => IntsD DI w (.slice AI ins.length cI) ins)]), ?_⟩
          refine wt1 (v := .bool false) rfl (fun ρ e W => ex_move (e _ _ rfl)) rfl rfl ?_
          refine wt1 (v := .slice AI ins.length cI) rfl (fun ρ e W => ex_move (e _ _ rfl)) rfl rfl ?_
          refine wt1 (v := .slice AI ins.length cI) rfl (fun ρ e W => ex_move (e _ _ rfl)) rfl rfl ?_
          refine wt1 (v := .int .i64 (k : Int)) rfl (fun ρ e W => ex_move (e _ _ rfl)) rfl rfl ?_
          refine wt1 (v := .pointer (some ⟨bI, oI + k, none⟩)) rfl (fun ρ e W => ex_idx (q := oI + k) (o := oI) (i := k) el36 ((e _ _ rfl).trans hbI) (e _ _ rfl) hk (by omega)) rfl rfl ?_
          refine wt0 (v := .int .i64 x) rfl (fun ρ e W hW => ex_load1 ty3 (e _ _ rfl) (IntsD.cellq ((hbI ▸ (hW.ro 2 rfl)) : IntsD DI _ (.slice (some ⟨bI, oI, none⟩) ins.length cJ) ins) hxk)) rfl rfl ?_
          refine wt2_call (args := [.slice AI ins.length cI, .int .i64 x]) rfl in_84 rfl rfl rfl ?_
          refine (times_n (l := ins) (x := x) rfl ((O40.ro 5 rfl : IntsD DI _ (.slice AI ins.length cI) ins).V ((O40.get 5 rfl).2.1)) (by omega)).mono ?_
          rintro _ w41 ⟨rfl, hb42⟩
          have O43 : Own (zone (refE f R c D L vs ++ [inE DI (.slice AI ins.length cI) ins])) W w41 [.row (.slice A n cA) 3 1 n (intCs l), .row (.slice A2 n2 cA2) 3 1 n2 (intCs l2), .blk f 63 #[.slice R L.length c], .row (.slice R L.length c) 38 3 L.length (gcells L vs), .ro D (Ins D L vs), .ro DI (fun w => IntsD DI w (.slice AI ins.length cI) ins)] := O40.below hb42
          refine ⟨_, rfl, (O43.re [2, 4, 5] rfl : Own (zone (refE f R c D L vs ++ [inE DI (.slice AI ins.length cI) ins])) W w41 [.blk f 63 #[.slice R L.length c], .ro D (Ins D L vs), .ro DI (fun w => IntsD DI w (.slice AI ins.length cI) ins)]), ?_⟩
          refine wt1 (v := .int .i64 ((timesOf x ins % 2 : Nat) : Int)) rfl (fun ρ e W => ex_remr (a := timesOf x ins) (b := 2) (e _ _ rfl) (e _ _ rfl) (by decide) rfl) rfl rfl ?_
          refine wt1 (v := .bool false) rfl (fun ρ e W => ex_cmp (u := ((timesOf x ins % 2 : Nat) : Int)) (v := 0) (e _ _ rfl) (e _ _ rfl) (eql0 (by omega))) rfl rfl ?_
          refine wt1 (v := .bool false) rfl (fun ρ e W => ex_pick0 (e _ _ rfl) (e _ _ rfl)) rfl rfl ?_
          refine wt1 (v := .bool false) rfl (fun ρ e W => ex_move (e _ _ rfl)) rfl rfl ?_
          refine wt1 (v := .slice AI ins.length cI) rfl (fun ρ e W => ex_move (e _ _ rfl)) rfl rfl ?_
          refine wt1 (v := .int .i64 (k : Int)) rfl (fun ρ e W => ex_move (e _ _ rfl)) rfl rfl ?_
          refine wt1 (v := .slice AI k cI) rfl (fun ρ e W => ex_sliceHi (h := k) (n := ins.length) el36 (e _ _ rfl) (e _ _ rfl) (by omega)) rfl rfl ?_
          refine wt1 (v := .slice AI ins.length cI) rfl (fun ρ e W => ex_move (e _ _ rfl)) rfl rfl ?_
          refine wt1 (v := .int .i64 (k : Int)) rfl (fun ρ e W => ex_move (e _ _ rfl)) rfl rfl ?_
          refine wt1 (v := .pointer (some ⟨bI, oI + k, none⟩)) rfl (fun ρ e W => ex_idx (q := oI + k) (o := oI) (i := k) el36 ((e _ _ rfl).trans hbI) (e _ _ rfl) hk (by omega)) rfl rfl ?_
          refine wt0 (v := .int .i64 x) rfl (fun ρ e W hW => ex_load1 ty3 (e _ _ rfl) (IntsD.cellq ((hbI ▸ (hW.ro 2 rfl)) : IntsD DI _ (.slice (some ⟨bI, oI, none⟩) ins.length cJ) ins) hxk)) rfl rfl ?_
          refine wt2_call (args := [.slice AI k cI, .int .i64 x]) rfl in_84 rfl rfl rfl ?_
          refine (times_n (l := (ins.take k)) (x := x) (List.length_take_of_le hk0).symm (((O43.ro 5 rfl : IntsD DI _ (.slice AI ins.length cI) ins).take hk0).V ((O43.get 5 rfl).2.1)) (by omega)).mono ?_
          rintro _ w44 ⟨rfl, hb45⟩
          have O46 : Own (zone (refE f R c D L vs ++ [inE DI (.slice AI ins.length cI) ins])) W w44 [.row (.slice A n cA) 3 1 n (intCs l), .row (.slice A2 n2 cA2) 3 1 n2 (intCs l2), .blk f 63 #[.slice R L.length c], .row (.slice R L.length c) 38 3 L.length (gcells L vs), .ro D (Ins D L vs), .ro DI (fun w => IntsD DI w (.slice AI ins.length cI) ins)] := O43.below hb45
          refine ⟨_, rfl, (O46.re [2, 4, 5] rfl : Own (zone (refE f R c D L vs ++ [inE DI (.slice AI ins.length cI) ins])) W w44 [.blk f 63 #[.slice R L.length c], .ro D (Ins D L vs), .ro DI (fun w => IntsD DI w (.slice AI ins.length cI) ins)]), ?_⟩
          refine wt1 (v := .bool true) rfl (fun ρ e W => ex_cmp (u := ((timesOf x (ins.take k) : Nat) : Int)) (v := 0) (e _ _ rfl) (e _ _ rfl) (gtr1 (by omega))) rfl rfl ?_
          refine wt1 (v := .bool true) rfl (fun ρ e W => ex_pick0 (e _ _ rfl) (e _ _ rfl)) rfl rfl ?_
          refine wt_nil ?_
          refine xw_next K36 ?_
          refine cw_true rfl ?_
          refine cw_exit ?_
          refine xw_past (by intro h; cases h) ?_
          refine xw_here ?_
          refine xw_next K34 ?_
          refine cw_region ?_
          refine wl_val (v := .int .i64 (k : Int)) (fun ρ e => ex_move (e _ _ rfl)) rfl rfl ?_
          refine wl_val (v := .int .i64 ((k + 1 : Nat) : Int)) (fun ρ e => ex_arith (k := .i64) (u := (k : Int)) (v := 1) (e _ _ rfl) (e _ _ rfl) (congrArg some ((congrArg _ (by omega)).trans (wrap_in (u := ((k + 1 : Nat) : Int)) (by omega) (by omega))))) rfl rfl ?_
          refine wl_val (v := .int .i64 ((k + 1 : Nat) : Int)) (fun ρ e => ex_assign (e _ _ rfl)) rfl rfl ?_
          refine wl_nil ?_
          refine xw_round K9 (k + 1, A, cA, n, l, A2, cA2, n2, l2, odd, last) (by show ins.length - (k + 1) < ins.length - k; omega) ⟨(by show k + 1 ≤ _; omega), hn, hn2, (by show n ≤ k + 1; omega), (by show n2 ≤ k + 1; omega), hl1, hones, (hrx.skip hk hxx (.inr (.inr h2))), O46⟩ ⟨rfl, rfl, rfl, rfl, rfl, trivial⟩
        · have h2' := times_mem.2 h2
          have ht := hrx.take_ hw hd hin hk hxx h0 (by rw [odd_times]; exact decide_eq_true (by omega)) h2
          refine cw_seq (fun FK47 K47 => ?_)
          refine cw_seq (fun FK48 K48 => ?_)
          refine cw_region ?_
          refine wl_val (v := .int .i64 (k : Int)) (fun ρ e => ex_move (e _ _ rfl)) rfl rfl ?_
          refine wl_val (v := .slice AI ins.length cI) (fun ρ e => ex_move (e _ _ rfl)) rfl rfl ?_
          refine wl_val (v := .int .i64 ((ins.length : Nat) : Int)) (fun ρ e => ex_len el36 (e _ _ rfl)) rfl rfl ?_
          refine wl_val (v := .bool true) (fun ρ e => ex_cmp (u := (k : Int)) (v := ((ins.length : Nat) : Int)) (e _ _ rfl) (e _ _ rfl) (lss1 (by omega))) rfl rfl ?_
          refine wl_nil ?_
          refine xw_next K48 ?_
          refine cw_true rfl ?_
          refine cw_skip ?_
          refine xw_next K47 ?_
          refine cw_seq (fun FK49 K49 => ?_)
          refine cw_block ?_
          refine cw_seq (fun FK50 K50 => ?_)
          refine cw_seq (fun FK51 K51 => ?_)
          refine cw_drawn (fun X => Own (zone (refE f R c D L vs ++ [inE DI (.slice AI ins.length cI) ins])) W X [.blk f 63 #[.slice R L.length c], .ro D (Ins D L vs), .ro DI (fun w => IntsD DI w (.slice AI ins.length cI) ins)]) 27 [(0, 1), (1, 1), (2, 1), (3, 1), (4, 0), (5, 2), (6, 1), (7, 1), (8, 1), (9, 1), (10, 1), (11, 0), (12, 2), (13, 1), (14, 1), (15, 1), (16, 1), (17, 1), (18, 1), (19, 1), (20, 1), (21, 1), (22, 1), (23, 0), (24, 2), (25, 1), (26, 1)] (by kernel_rfl) (by kernel_rfl) (PQ.then_ (PQ.then_ (PQ.block (PQ.then_ (PQ.then_ (PQ.block (PQ.then_ PQ.body))))))) ((O10.re [2, 4, 5] rfl : Own (zone (refE f R c D L vs ++ [inE DI (.slice AI ins.length cI) ins])) W w7 [.blk f 63 #[.slice R L.length c], .ro D (Ins D L vs), .ro DI (fun w => IntsD DI w (.slice AI ins.length cI) ins)])).drew ?_
          have O52 : Own (zone (refE f R c D L vs ++ [inE DI (.slice AI ins.length cI) ins])) W w7.drew [.row (.slice A n cA) 3 1 n (intCs l), .row (.slice A2 n2 cA2) 3 1 n2 (intCs l2), .blk f 63 #[.slice R L.length c], .row (.slice R L.length c) 38 3 L.length (gcells L vs), .ro D (Ins D L vs), .ro DI (fun w => IntsD DI w (.slice AI ins.length cI) ins)] := O10.drew
          refine wt1 (v := .pointer (some ⟨f, 0, none⟩)) rfl (fun ρ e W => ex_move (e _ _ rfl)) rfl rfl ?_
          refine wt1 (v := .slice AI ins.length cI) rfl (fun ρ e W => ex_move (e _ _ rfl)) rfl rfl ?_
          refine wt1 (v := .int .i64 (k : Int)) rfl (fun ρ e W => ex_move (e _ _ rfl)) rfl rfl ?_
          refine wt1 (v := .pointer (some ⟨bI, oI + k, none⟩)) rfl (fun ρ e W => ex_idx (q := oI + k) (o := oI) (i := k) el36 ((e _ _ rfl).trans hbI) (e _ _ rfl) hk (by omega)) rfl rfl ?_
          refine wt0 (v := .int .i64 x) rfl (fun ρ e W hW => ex_load1 ty3 (e _ _ rfl) (IntsD.cellq ((hbI ▸ (hW.ro 2 rfl)) : IntsD DI _ (.slice (some ⟨bI, oI, none⟩) ins.length cJ) ins) hxk)) rfl rfl ?_
          refine wt2_call (args := [.pointer (some ⟨f, 0, none⟩), .int .i64 x, .int .i64 0]) rfl in_83 rfl rfl rfl ?_
          refine (ris0 (f := f) (R := R) (c := c) (D := D) (L := L) (vs := vs) (rest := [.row (.slice A n cA) 3 1 n (intCs l), .row (.slice A2 n2 cA2) 3 1 n2 (intCs l2), .ro DI (fun w => IntsD DI w (.slice AI ins.length cI) ins)]) (O52.re [2, 3, 4, 0, 1, 5] rfl : Own (zone (refE f R c D L vs ++ [inE DI (.slice AI ins.length cI) ins])) W w7.drew [.blk f 63 #[.slice R L.length c], .row (.slice R L.length c) 38 3 L.length (gcells L vs), .ro D (Ins D L vs), .row (.slice A n cA) 3 1 n (intCs l), .row (.slice A2 n2 cA2) 3 1 n2 (intCs l2), .ro DI (fun w => IntsD DI w (.slice AI ins.length cI) ins)]) hxL h0).mono ?_
          rintro _ w53 ⟨rfl, hb54⟩
          have O55 : Own (zone (refE f R c D L vs ++ [inE DI (.slice AI ins.length cI) ins])) W w53 [.row (.slice A n cA) 3 1 n (intCs l), .row (.slice A2 n2 cA2) 3 1 n2 (intCs l2), .blk f 63 #[.slice R L.length c], .row (.slice R L.length c) 38 3 L.length (gcells L vs), .ro D (Ins D L vs), .ro DI (fun w => IntsD DI w (.slice AI ins.length cI) ins)] := O52.below hb54
          refine ⟨_, rfl, (O55.re [2, 4, 5] rfl : Own (zone (refE f R c D L vs ++ [inE DI (.slice AI ins.length cI) ins])) W w53 [.blk f 63 #[.slice R L.length c], .ro D (Ins D L vs), .ro DI (fun w => IntsD DI w (.slice AI ins.length cI) ins)]), ?_⟩
          refine wt1 (v := .bool false) rfl (fun ρ e W => ex_move (e _ _ rfl)) rfl rfl ?_
          refine wt1 (v := .slice AI ins.length cI) rfl (fun ρ e W => ex_move (e _ _ rfl)) rfl rfl ?_
          refine wt1 (v := .slice AI ins.length cI) rfl (fun ρ e W => ex_move (e _ _ rfl)) rfl rfl ?_
          refine wt1 (v := .int .i64 (k : Int)) rfl (fun ρ e W => ex_move (e _ _ rfl)) rfl rfl ?_
          refine wt1 (v := .pointer (some ⟨bI, oI + k, none⟩)) rfl (fun ρ e W => ex_idx (q := oI + k) (o := oI) (i := k) el36 ((e _ _ rfl).trans hbI) (e _ _ rfl) hk (by omega)) rfl rfl ?_
          refine wt0 (v := .int .i64 x) rfl (fun ρ e W hW => ex_load1 ty3 (e _ _ rfl) (IntsD.cellq ((hbI ▸ (hW.ro 2 rfl)) : IntsD DI _ (.slice (some ⟨bI, oI, none⟩) ins.length cJ) ins) hxk)) rfl rfl ?_
          refine wt2_call (args := [.slice AI ins.length cI, .int .i64 x]) rfl in_84 rfl rfl rfl ?_
          refine (times_n (l := ins) (x := x) rfl ((O55.ro 5 rfl : IntsD DI _ (.slice AI ins.length cI) ins).V ((O55.get 5 rfl).2.1)) (by omega)).mono ?_
          rintro _ w56 ⟨rfl, hb57⟩
          have O58 : Own (zone (refE f R c D L vs ++ [inE DI (.slice AI ins.length cI) ins])) W w56 [.row (.slice A n cA) 3 1 n (intCs l), .row (.slice A2 n2 cA2) 3 1 n2 (intCs l2), .blk f 63 #[.slice R L.length c], .row (.slice R L.length c) 38 3 L.length (gcells L vs), .ro D (Ins D L vs), .ro DI (fun w => IntsD DI w (.slice AI ins.length cI) ins)] := O55.below hb57
          refine ⟨_, rfl, (O58.re [2, 4, 5] rfl : Own (zone (refE f R c D L vs ++ [inE DI (.slice AI ins.length cI) ins])) W w56 [.blk f 63 #[.slice R L.length c], .ro D (Ins D L vs), .ro DI (fun w => IntsD DI w (.slice AI ins.length cI) ins)]), ?_⟩
          refine wt1 (v := .int .i64 ((timesOf x ins % 2 : Nat) : Int)) rfl (fun ρ e W => ex_remr (a := timesOf x ins) (b := 2) (e _ _ rfl) (e _ _ rfl) (by decide) rfl) rfl rfl ?_
          refine wt1 (v := .bool false) rfl (fun ρ e W => ex_cmp (u := ((timesOf x ins % 2 : Nat) : Int)) (v := 0) (e _ _ rfl) (e _ _ rfl) (eql0 (by omega))) rfl rfl ?_
          refine wt1 (v := .bool false) rfl (fun ρ e W => ex_pick0 (e _ _ rfl) (e _ _ rfl)) rfl rfl ?_
          refine wt1 (v := .bool false) rfl (fun ρ e W => ex_move (e _ _ rfl)) rfl rfl ?_
          refine wt1 (v := .slice AI ins.length cI) rfl (fun ρ e W => ex_move (e _ _ rfl)) rfl rfl ?_
          refine wt1 (v := .int .i64 (k : Int)) rfl (fun ρ e W => ex_move (e _ _ rfl)) rfl rfl ?_
          refine wt1 (v := .slice AI k cI) rfl (fun ρ e W => ex_sliceHi (h := k) (n := ins.length) el36 (e _ _ rfl) (e _ _ rfl) (by omega)) rfl rfl ?_
          refine wt1 (v := .slice AI ins.length cI) rfl (fun ρ e W => ex_move (e _ _ rfl)) rfl rfl ?_
          refine wt1 (v := .int .i64 (k : Int)) rfl (fun ρ e W => ex_move (e _ _ rfl)) rfl rfl ?_
          refine wt1 (v := .pointer (some ⟨bI, oI + k, none⟩)) rfl (fun ρ e W => ex_idx (q := oI + k) (o := oI) (i := k) el36 ((e _ _ rfl).trans hbI) (e _ _ rfl) hk (by omega)) rfl rfl ?_
          refine wt0 (v := .int .i64 x) rfl (fun ρ e W hW => ex_load1 ty3 (e _ _ rfl) (IntsD.cellq ((hbI ▸ (hW.ro 2 rfl)) : IntsD DI _ (.slice (some ⟨bI, oI, none⟩) ins.length cJ) ins) hxk)) rfl rfl ?_
          refine wt2_call (args := [.slice AI k cI, .int .i64 x]) rfl in_84 rfl rfl rfl ?_
          refine (times_n (l := (ins.take k)) (x := x) (List.length_take_of_le hk0).symm (((O58.ro 5 rfl : IntsD DI _ (.slice AI ins.length cI) ins).take hk0).V ((O58.get 5 rfl).2.1)) (by omega)).mono ?_
          rintro _ w59 ⟨rfl, hb60⟩
          have O61 : Own (zone (refE f R c D L vs ++ [inE DI (.slice AI ins.length cI) ins])) W w59 [.row (.slice A n cA) 3 1 n (intCs l), .row (.slice A2 n2 cA2) 3 1 n2 (intCs l2), .blk f 63 #[.slice R L.length c], .row (.slice R L.length c) 38 3 L.length (gcells L vs), .ro D (Ins D L vs), .ro DI (fun w => IntsD DI w (.slice AI ins.length cI) ins)] := O58.below hb60
          refine ⟨_, rfl, (O61.re [2, 4, 5] rfl : Own (zone (refE f R c D L vs ++ [inE DI (.slice AI ins.length cI) ins])) W w59 [.blk f 63 #[.slice R L.length c], .ro D (Ins D L vs), .ro DI (fun w => IntsD DI w (.slice AI ins.length cI) ins)]), ?_⟩
          refine wt1 (v := .bool false) rfl (fun ρ e W => ex_cmp (u := ((timesOf x (ins.take k) : Nat) : Int)) (v := 0) (e _ _ rfl) (e _ _ rfl) (gtr0 (by omega))) rfl rfl ?_
          refine wt1 (v := .bool false) rfl (fun ρ e W => ex_pick0 (e _ _ rfl) (e _ _ rfl)) rfl rfl ?_
          refine wt_nil ?_
          refine xw_next K51 ?_
          refine cw_false rfl ?_
          refine cw_skip ?_
          refine xw_next K50 ?_
          refine cw_seq (fun FK62 K62 => ?_)
          refine cw_region ?_
          refine wl_val (v := .pointer (some ⟨f, 0, none⟩)) (fun ρ e => ex_move (e _ _ rfl)) rfl rfl ?_
          refine wl_val (v := .slice AI ins.length cI) (fun ρ e => ex_move (e _ _ rfl)) rfl rfl ?_
          refine wl_val (v := .int .i64 (k : Int)) (fun ρ e => ex_move (e _ _ rfl)) rfl rfl ?_
          refine wl_val (v := .pointer (some ⟨bI, oI + k, none⟩)) (fun ρ e => ex_idx (q := oI + k) (o := oI) (i := k) el36 ((e _ _ rfl).trans hbI) (e _ _ rfl) hk (by omega)) rfl rfl ?_
          refine wl_val (v := .int .i64 x) (fun ρ e => ex_load1 ty3 (e _ _ rfl) (IntsD.cellq ((hbI ▸ (O61.ro 5 rfl)) : IntsD DI _ (.slice (some ⟨bI, oI, none⟩) ins.length cJ) ins) hxk)) rfl rfl ?_
          by_cases c63 : kindAt L x = 1
          · skip
            refine wl_call (args := [.pointer (some ⟨f, 0, none⟩), .int .i64 x, .int .i64 1]) in_83 rfl rfl rfl ?_
            refine (ris1 (f := f) (R := R) (c := c) (D := D) (L := L) (vs := vs) (rest := [.row (.slice A n cA) 3 1 n (intCs l), .row (.slice A2 n2 cA2) 3 1 n2 (intCs l2), .ro DI (fun w => IntsD DI w (.slice AI ins.length cI) ins)]) (O61.re [2, 3, 4, 0, 1, 5] rfl : Own (zone (refE f R c D L vs ++ [inE DI (.slice AI ins.length cI) ins])) W w59 [.blk f 63 #[.slice R L.length c], .row (.slice R L.length c) 38 3 L.length (gcells L vs), .ro D (Ins D L vs), .row (.slice A n cA) 3 1 n (intCs l), .row (.slice A2 n2 cA2) 3 1 n2 (intCs l2), .ro DI (fun w => IntsD DI w (.slice AI ins.length cI) ins)]) hxL c63).mono ?_
            rintro _ w64 ⟨rfl, hb65⟩
            have O66 : Own (zone (refE f R c D L vs ++ [inE DI (.slice AI ins.length cI) ins])) W w64 [.row (.slice A n cA) 3 1 n (intCs l), .row (.slice A2 n2 cA2) 3 1 n2 (intCs l2), .blk f 63 #[.slice R L.length c], .row (.slice R L.length c) 38 3 L.length (gcells L vs), .ro D (Ins D L vs), .ro DI (fun w => IntsD DI w (.slice AI ins.length cI) ins)] := O61.below hb65
            refine ⟨_, rfl, ?_⟩
            refine wl_nil ?_
            refine xw_next K62 ?_
            refine cw_true rfl ?_
            refine cw_region ?_
            refine wl_val (v := .slice A2 n2 cA2) (fun ρ e => ex_move (e _ _ rfl)) rfl rfl ?_
            refine wl_val (v := .slice AI ins.length cI) (fun ρ e => ex_move (e _ _ rfl)) rfl rfl ?_
            refine wl_val (v := .int .i64 (k : Int)) (fun ρ e => ex_move (e _ _ rfl)) rfl rfl ?_
            refine wl_val (v := .pointer (some ⟨bI, oI + k, none⟩)) (fun ρ e => ex_idx (q := oI + k) (o := oI) (i := k) el36 ((e _ _ rfl).trans hbI) (e _ _ rfl) hk (by omega)) rfl rfl ?_
            refine wl_val (v := .int .i64 x) (fun ρ e => ex_load1 ty3 (e _ _ rfl) (IntsD.cellq ((hbI ▸ (O66.ro 5 rfl)) : IntsD DI _ (.slice (some ⟨bI, oI, none⟩) ins.length cJ) ins) hxk)) rfl rfl ?_
            obtain ⟨g67, w68, r69, O70, hg71, hs72⟩ := own_slice O66 el36 ze3 1 [(0, .int .i64 x)] (cs := #[.int .i64 x]) (by decide) (by kernel_rfl)
            refine wl_val (v := .slice (some ⟨g67, 0, none⟩) 1 1) (fun ρ e => r69 ρ _ _ _ _ _ _ (e.parts rfl)) rfl rfl ?_
            obtain ⟨A73, c74, w75, r76, O77, hz78, hc79⟩ := own_app1 (O70.re [2, 0, 1, 3, 4, 5, 6] rfl : Own (zone (refE f R c D L vs ++ [inE DI (.slice AI ins.length cI) ins])) W w68 [.row (.slice A2 n2 cA2) 3 1 n2 (intCs l2), .blk g67 3 #[.int .i64 x], .row (.slice A n cA) 3 1 n (intCs l), .blk f 63 #[.slice R L.length c], .row (.slice R L.length c) 38 3 L.length (gcells L vs), .ro D (Ins D L vs), .ro DI (fun w => IntsD DI w (.slice AI ins.length cI) ins)]) ap36 ((O70.re [2, 0, 1, 3, 4, 5, 6] rfl : Own (zone (refE f R c D L vs ++ [inE DI (.slice AI ins.length cI) ins])) W w68 [.row (.slice A2 n2 cA2) 3 1 n2 (intCs l2), .blk g67 3 #[.int .i64 x], .row (.slice A n cA) 3 1 n (intCs l), .blk f 63 #[.slice R L.length c], .row (.slice R L.length c) 38 3 L.length (gcells L vs), .ro D (Ins D L vs), .ro DI (fun w => IntsD DI w (.slice AI ins.length cI) ins)]).blk 1 rfl) (cells := [.int .i64 x]) rfl rfl (by omega) (by omega) (ys := (intCs (l2 ++ [x]))) (intCs_snoc l2 x)
            refine wl_val (v := .slice A73 (n2 + 1) c74) (fun ρ e => r76 ρ _ _ _ _ _ _ _ (e _ _ rfl) (e _ _ rfl)) rfl rfl ?_
            refine wl_val (v := .slice A73 (n2 + 1) c74) (fun ρ e => ex_assign (e _ _ rfl)) rfl rfl ?_
            refine wl_nil ?_
            refine xw_block ?_
            refine xw_next K49 ?_
            refine cw_region ?_
            refine wl_val (v := .int .i64 (k : Int)) (fun ρ e => ex_move (e _ _ rfl)) rfl rfl ?_
            refine wl_val (v := .int .i64 ((k + 1 : Nat) : Int)) (fun ρ e => ex_arith (k := .i64) (u := (k : Int)) (v := 1) (e _ _ rfl) (e _ _ rfl) (congrArg some ((congrArg _ (by omega)).trans (wrap_in (u := ((k + 1 : Nat) : Int)) (by omega) (by omega))))) rfl rfl ?_
            refine wl_val (v := .int .i64 ((k + 1 : Nat) : Int)) (fun ρ e => ex_assign (e _ _ rfl)) rfl rfl ?_
            refine wl_nil ?_
            rw [if_pos c63] at ht
            have hl20 : l2 = [] := by rw [hones]; exact if_pos ht.1
            refine xw_round K9 (k + 1, A, cA, n, l, A73, c74, n2 + 1, l2 ++ [x], (off odd x), x) (by show ins.length - (k + 1) < ins.length - k; omega) ⟨(by show k + 1 ≤ _; omega), hn, (by show n2 + 1 = (l2 ++ [x]).length; simp [hn2]), (by show n ≤ k + 1; omega), (by show n2 + 1 ≤ k + 1; omega), hl1, (by show l2 ++ [x] = lastOf x; rw [hl20]; exact (if_neg (by omega)).symm), ht.2, (O77.re [2, 0, 3, 4, 5, 6] rfl : Own (zone (refE f R c D L vs ++ [inE DI (.slice AI ins.length cI) ins])) W w75 [.row (.slice A n cA) 3 1 n (intCs l), .row (.slice A73 (n2 + 1) c74) 3 1 (n2 + 1) (intCs (l2 ++ [x])), .blk f 63 #[.slice R L.length c], .row (.slice R L.length c) 38 3 L.length (gcells L vs), .ro D (Ins D L vs), .ro DI (fun w => IntsD DI w (.slice AI ins.length cI) ins)])⟩ ⟨rfl, rfl, rfl, rfl, rfl, trivial⟩
          · skip
            refine wl_call (args := [.pointer (some ⟨f, 0, none⟩), .int .i64 x, .int .i64 1]) in_83 rfl rfl rfl ?_
            refine (ris0 (f := f) (R := R) (c := c) (D := D) (L := L) (vs := vs) (rest := [.row (.slice A n cA) 3 1 n (intCs l), .row (.slice A2 n2 cA2) 3 1 n2 (intCs l2), .ro DI (fun w => IntsD DI w (.slice AI ins.length cI) ins)]) (O61.re [2, 3, 4, 0, 1, 5] rfl : Own (zone (refE f R c D L vs ++ [inE DI (.slice AI ins.length cI) ins])) W w59 [.blk f 63 #[.slice R L.length c], .row (.slice R L.length c) 38 3 L.length (gcells L vs), .ro D (Ins D L vs), .row (.slice A n cA) 3 1 n (intCs l), .row (.slice A2 n2 cA2) 3 1 n2 (intCs l2), .ro DI (fun w => IntsD DI w (.slice AI ins.length cI) ins)]) hxL c63).mono ?_
            rintro _ w80 ⟨rfl, hb81⟩
            have O82 : Own (zone (refE f R c D L vs ++ [inE DI (.slice AI ins.length cI) ins])) W w80 [.row (.slice A n cA) 3 1 n (intCs l), .row (.slice A2 n2 cA2) 3 1 n2 (intCs l2), .blk f 63 #[.slice R L.length c], .row (.slice R L.length c) 38 3 L.length (gcells L vs), .ro D (Ins D L vs), .ro DI (fun w => IntsD DI w (.slice AI ins.length cI) ins)] := O61.below hb81
            refine ⟨_, rfl, ?_⟩
            refine wl_nil ?_
            refine xw_next K62 ?_
            refine cw_false rfl ?_
            refine cw_region ?_
            refine wl_val (v := .slice A n cA) (fun ρ e => ex_move (e _ _ rfl)) rfl rfl ?_
            refine wl_val (v := .slice AI ins.length cI) (fun ρ e => ex_move (e _ _ rfl)) rfl rfl ?_
            refine wl_val (v := .int .i64 (k : Int)) (fun ρ e => ex_move (e _ _ rfl)) rfl rfl ?_
            refine wl_val (v := .pointer (some ⟨bI, oI + k, none⟩)) (fun ρ e => ex_idx (q := oI + k) (o := oI) (i := k) el36 ((e _ _ rfl).trans hbI) (e _ _ rfl) hk (by omega)) rfl rfl ?_
            refine wl_val (v := .int .i64 x) (fun ρ e => ex_load1 ty3 (e _ _ rfl) (IntsD.cellq ((hbI ▸ (O82.ro 5 rfl)) : IntsD DI _ (.slice (some ⟨bI, oI, none⟩) ins.length cJ) ins) hxk)) rfl rfl ?_
            obtain ⟨g83, w84, r85, O86, hg87, hs88⟩ := own_slice O82 el36 ze3 1 [(0, .int .i64 x)] (cs := #[.int .i64 x]) (by decide) (by kernel_rfl)
            refine wl_val (v := .slice (some ⟨g83, 0, none⟩) 1 1) (fun ρ e => r85 ρ _ _ _ _ _ _ (e.parts rfl)) rfl rfl ?_
            obtain ⟨A89, c90, w91, r92, O93, hz94, hc95⟩ := own_app1 (O86.re [1, 0, 2, 3, 4, 5, 6] rfl : Own (zone (refE f R c D L vs ++ [inE DI (.slice AI ins.length cI) ins])) W w84 [.row (.slice A n cA) 3 1 n (intCs l), .blk g83 3 #[.int .i64 x], .row (.slice A2 n2 cA2) 3 1 n2 (intCs l2), .blk f 63 #[.slice R L.length c], .row (.slice R L.length c) 38 3 L.length (gcells L vs), .ro D (Ins D L vs), .ro DI (fun w => IntsD DI w (.slice AI ins.length cI) ins)]) ap36 ((O86.re [1, 0, 2, 3, 4, 5, 6] rfl : Own (zone (refE f R c D L vs ++ [inE DI (.slice AI ins.length cI) ins])) W w84 [.row (.slice A n cA) 3 1 n (intCs l), .blk g83 3 #[.int .i64 x], .row (.slice A2 n2 cA2) 3 1 n2 (intCs l2), .blk f 63 #[.slice R L.length c], .row (.slice R L.length c) 38 3 L.length (gcells L vs), .ro D (Ins D L vs), .ro DI (fun w => IntsD DI w (.slice AI ins.length cI) ins)]).blk 1 rfl) (cells := [.int .i64 x]) rfl rfl (by omega) (by omega) (ys := (intCs (l ++ [x]))) (intCs_snoc l x)
            refine wl_val (v := .slice A89 (n + 1) c90) (fun ρ e => r92 ρ _ _ _ _ _ _ _ (e _ _ rfl) (e _ _ rfl)) rfl rfl ?_
            refine wl_val (v := .slice A89 (n + 1) c90) (fun ρ e => ex_assign (e _ _ rfl)) rfl rfl ?_
            refine wl_nil ?_
            refine xw_block ?_
            refine xw_next K49 ?_
            refine cw_region ?_
            refine wl_val (v := .int .i64 (k : Int)) (fun ρ e => ex_move (e _ _ rfl)) rfl rfl ?_
            refine wl_val (v := .int .i64 ((k + 1 : Nat) : Int)) (fun ρ e => ex_arith (k := .i64) (u := (k : Int)) (v := 1) (e _ _ rfl) (e _ _ rfl) (congrArg some ((congrArg _ (by omega)).trans (wrap_in (u := ((k + 1 : Nat) : Int)) (by omega) (by omega))))) rfl rfl ?_
            refine wl_val (v := .int .i64 ((k + 1 : Nat) : Int)) (fun ρ e => ex_assign (e _ _ rfl)) rfl rfl ?_
            refine wl_nil ?_
            rw [if_neg c63] at ht
            refine xw_round K9 (k + 1, A89, c90, n + 1, l ++ [x], A2, cA2, n2, l2, (off odd x), last) (by show ins.length - (k + 1) < ins.length - k; omega) ⟨(by show k + 1 ≤ _; omega), (by show n + 1 = (l ++ [x]).length; simp [hn]), hn2, (by show n + 1 ≤ k + 1; omega), (by show n2 ≤ k + 1; omega), (fun y hy => (List.mem_append.1 hy).elim (hl1 y) (fun h => by rw [List.mem_singleton.1 h]; exact hxL)), hones, ht, (O93.re [0, 2, 3, 4, 5, 6] rfl : Own (zone (refE f R c D L vs ++ [inE DI (.slice AI ins.length cI) ins])) W w91 [.row (.slice A89 (n + 1) c90) 3 1 (n + 1) (intCs (l ++ [x])), .row (.slice A2 n2 cA2) 3 1 n2 (intCs l2), .blk f 63 #[.slice R L.length c], .row (.slice R L.length c) 38 3 L.length (gcells L vs), .ro D (Ins D L vs), .ro DI (fun w => IntsD DI w (.slice AI ins.length cI) ins)])⟩ ⟨rfl, rfl, rfl, rfl, rfl, trivial⟩
  · have hke : k = ins.length := by omega
    have hgo := hrx.go
    rw [List.drop_eq_nil_of_le (by omega)] at hgo
    simp only [xorGo] at hgo
    clear hrx
    refine cw_seq (fun FK96 K96 => ?_)
    refine cw_seq (fun FK97 K97 => ?_)
    refine cw_region ?_
    refine wl_val (v := .int .i64 (k : Int)) (fun ρ e => ex_move (e _ _ rfl)) rfl rfl ?_
    refine wl_val (v := .slice AI ins.length cI) (fun ρ e => ex_move (e _ _ rfl)) rfl rfl ?_
    refine wl_val (v := .int .i64 ((ins.length : Nat) : Int)) (fun ρ e => ex_len el36 (e _ _ rfl)) rfl rfl ?_
    refine wl_val (v := .bool false) (fun ρ e => ex_cmp (u := (k : Int)) (v := ((ins.length : Nat) : Int)) (e _ _ rfl) (e _ _ rfl) (lss0 (by omega))) rfl rfl ?_
    refine wl_nil ?_
    refine xw_next K97 ?_
    refine cw_false rfl ?_
    refine cw_exit ?_
    refine xw_past (by intro h; cases h) ?_
    refine xw_past (by intro h; cases h) ?_
    refine xw_here ?_
    refine xw_next K3 ?_
    refine cw_seq (fun FK98 K98 => ?_)
    refine cw_seq (fun FK99 K99 => ?_)
    rcases l with _ | ⟨x, _ | ⟨x2, l3⟩⟩
    · have hn' : n = 0 := hn
      by_cases hla : last < 0
      · have hl2 : l2 = [] := by rw [hones]; exact if_pos hla
        subst hl2
        have hn2' : n2 = 0 := hn2
        refine cw_region ?_
        refine wl_val (v := .slice A n cA) (fun ρ e => ex_move (e _ _ rfl)) rfl rfl ?_
        refine wl_val (v := .int .i64 (n : Int)) (fun ρ e => ex_len el36 (e _ _ rfl)) rfl rfl ?_
        refine wl_val (v := .bool true) (fun ρ e => ex_cmp (u := (n : Int)) (v := 0) (e _ _ rfl) (e _ _ rfl) (eql1 (by omega))) rfl rfl ?_
        refine wl_val (v := .bool true) (fun ρ e => ex_move (e _ _ rfl)) rfl rfl ?_
        refine wl_val (v := .slice A2 n2 cA2) (fun ρ e => ex_move (e _ _ rfl)) rfl rfl ?_
        refine wl_val (v := .int .i64 (n2 : Int)) (fun ρ e => ex_len el36 (e _ _ rfl)) rfl rfl ?_
        refine wl_val (v := .bool true) (fun ρ e => ex_cmp (u := (n2 : Int)) (v := 0) (e _ _ rfl) (e _ _ rfl) (eql1 (by omega))) rfl rfl ?_
        refine wl_val (v := .bool true) (fun ρ e => ex_pick1 (e _ _ rfl) (e _ _ rfl)) rfl rfl ?_
        refine wl_nil ?_
        refine xw_next K99 ?_
        refine cw_true rfl ?_
        refine cw_seq (fun FK100 K100 => ?_)
        refine cw_region ?_
        refine wl_val (v := .pointer (some ⟨f, 0, none⟩)) (fun ρ e => ex_move (e _ _ rfl)) rfl rfl ?_
        refine wl_call (args := [.pointer (some ⟨f, 0, none⟩), .int .i64 0, .int .i64 0, .slice none 0 0]) in_72 rfl rfl rfl ?_
        have O101 : Own (zone (refE f R c D L vs ++ [inE DI (.slice AI ins.length cI) ins])) W w7 [.ro (fun _ => False) (fun w => IntsD (fun _ => False) w (.slice none 0 0) ([])), .row (.slice A n cA) 3 1 n (intCs []), .row (.slice A2 n2 cA2) 3 1 n2 (intCs []), .blk f 63 #[.slice R L.length c], .row (.slice R L.length c) 38 3 L.length (gcells L vs), .ro D (Ins D L vs), .ro DI (fun w => IntsD DI w (.slice AI ins.length cI) ins)] := O10.nilin
        refine (call_rfind (f := f) (R := R) (c := c) (D := D) (L := L) (vs := vs) (D2 := (fun _ => False)) (V := .slice none 0 0) (g := ⟨0, 0, []⟩) (rest := [.row (.slice A n cA) 3 1 n (intCs []), .row (.slice A2 n2 cA2) 3 1 n2 (intCs []), .ro DI (fun w => IntsD DI w (.slice AI ins.length cI) ins)]) (O101.re [3, 4, 5, 0, 1, 2, 6] rfl : Own (zone (refE f R c D L vs ++ [inE DI (.slice AI ins.length cI) ins])) W w7 [.blk f 63 #[.slice R L.length c], .row (.slice R L.length c) 38 3 L.length (gcells L vs), .ro D (Ins D L vs), .ro (fun _ => False) (fun w => IntsD (fun _ => False) w (.slice none 0 0) ([])), .row (.slice A n cA) 3 1 n (intCs []), .row (.slice A2 n2 cA2) 3 1 n2 (intCs []), .ro DI (fun w => IntsD DI w (.slice AI ins.length cI) ins)]) ok (Nat.le_of_ble_eq_true rfl) hL).mono ?_
        rintro _ w102 ⟨R103, c104, D105, vs106, rfl, O107⟩
        refine ⟨_, rfl, ?_⟩
        refine wl_val (v := .int .i64 ((findG L ⟨0, 0, []⟩).2)) (fun ρ e => ex_assign (e _ _ rfl)) rfl rfl ?_
        refine wl_nil ?_
        refine xw_next K100 ?_
        refine cw_ret ?_
        refine xw_past (by intro h; cases h) ?_
        refine xw_ret (v := .int .i64 ((findG L ⟨0, 0, []⟩).2)) (fun T hT => res1 rfl T _ (hT 4 _ rfl)) ?_
        exact RPost.eq ⟨_, _, _, _, rfl, (O107.re [0, 1, 2] rfl : Own (zone (refE f R c D L vs ++ [inE DI (.slice AI ins.length cI) ins])) W w102 [.blk f 63 #[.slice R103 (((findG L ⟨0, 0, []⟩).1).length) c104], .row (.slice R103 (((findG L ⟨0, 0, []⟩).1).length) c104) 38 3 (((findG L ⟨0, 0, []⟩).1).length) (gcells ((findG L ⟨0, 0, []⟩).1) vs106), .ro D105 (Ins D105 ((findG L ⟨0, 0, []⟩).1) vs106)])⟩ (by rw [xorG_0 hgo, if_pos hla])
      · have hl2 : l2 = [last] := by rw [hones]; exact if_neg hla
        subst hl2
        have hn2' : n2 = 1 := hn2
        refine cw_region ?_
        refine wl_val (v := .slice A n cA) (fun ρ e => ex_move (e _ _ rfl)) rfl rfl ?_
        refine wl_val (v := .int .i64 (n : Int)) (fun ρ e => ex_len el36 (e _ _ rfl)) rfl rfl ?_
        refine wl_val (v := .bool true) (fun ρ e => ex_cmp (u := (n : Int)) (v := 0) (e _ _ rfl) (e _ _ rfl) (eql1 (by omega))) rfl rfl ?_
        refine wl_val (v := .bool true) (fun ρ e => ex_move (e _ _ rfl)) rfl rfl ?_
        refine wl_val (v := .slice A2 n2 cA2) (fun ρ e => ex_move (e _ _ rfl)) rfl rfl ?_
        refine wl_val (v := .int .i64 (n2 : Int)) (fun ρ e => ex_len el36 (e _ _ rfl)) rfl rfl ?_
        refine wl_val (v := .bool false) (fun ρ e => ex_cmp (u := (n2 : Int)) (v := 0) (e _ _ rfl) (e _ _ rfl) (eql0 (by omega))) rfl rfl ?_
        refine wl_val (v := .bool false) (fun ρ e => ex_pick1 (e _ _ rfl) (e _ _ rfl)) rfl rfl ?_
        refine wl_nil ?_
        refine xw_next K99 ?_
        refine cw_false rfl ?_
        refine cw_skip ?_
        refine xw_next K98 ?_
        refine cw_seq (fun FK108 K108 => ?_)
        refine cw_seq (fun FK109 K109 => ?_)
        refine cw_region ?_
        refine wl_val (v := .slice A n cA) (fun ρ e => ex_move (e _ _ rfl)) rfl rfl ?_
        refine wl_val (v := .int .i64 (n : Int)) (fun ρ e => ex_len el36 (e _ _ rfl)) rfl rfl ?_
        refine wl_val (v := .slice A2 n2 cA2) (fun ρ e => ex_move (e _ _ rfl)) rfl rfl ?_
        refine wl_val (v := .int .i64 (n2 : Int)) (fun ρ e => ex_len el36 (e _ _ rfl)) rfl rfl ?_
        refine wl_val (v := .int .i64 ((n : Int) + (n2 : Int))) (fun ρ e => ex_arith (k := .i64) (u := (n : Int)) (v := (n2 : Int)) (e _ _ rfl) (e _ _ rfl) (congrArg some (wrap_in (by omega) (by omega)))) rfl rfl ?_
        refine wl_val (v := .bool true) (fun ρ e => ex_cmp (u := ((n : Int) + (n2 : Int))) (v := 1) (e _ _ rfl) (e _ _ rfl) (eql1 (by omega))) rfl rfl ?_
        refine wl_nil ?_
        refine xw_next K109 ?_
        refine cw_true rfl ?_
        refine cw_seq (fun FK110 K110 => ?_)
        refine cw_region ?_
        refine wl_val (v := .slice A n cA) (fun ρ e => ex_move (e _ _ rfl)) rfl rfl ?_
        refine wl_val (v := .slice A2 n2 cA2) (fun ρ e => ex_move (e _ _ rfl)) rfl rfl ?_
        obtain ⟨A111, c112, w113, r114, O115, hz116⟩ := own_appS (m := n2) (c := cA2) (A := A2) (news := intCs [last]) O10 ap36 (by rw [hn2']; rfl) (ints_src ((IntsD.of_row (l := [last]) (O10.row 1 rfl)).V (fun k hk => (World.ownsRow.lt (O10.row 1 rfl) k hk).2)) (Below.refl _ _)) (intCs_one _) (by omega) (by omega) (ys := intCs ([] ++ [last])) (intCs_snoc [] last)
        obtain ⟨g2, rfl⟩ := O115.rowshape 0 rfl (by omega)
        refine wl_val (v := .slice (some ⟨g2, 0, none⟩) (n + n2) c112) (fun ρ e => r114 ρ _ _ _ _ _ _ _ (e _ _ rfl) (e _ _ rfl)) rfl rfl ?_
        refine wl_val (v := .pointer (some ⟨g2, 0, none⟩)) (fun ρ e => ex_idx (q := 0) (i := 0) el36 (e _ _ rfl) (e _ _ rfl) (by omega) (by omega)) rfl rfl ?_
        refine wl_val (v := .int .i64 last) (fun ρ e => ex_load1 ty3 (e _ _ rfl) (rowcell (O115.row 0 rfl) (j := 0) rfl)) rfl rfl ?_
        refine wl_val (v := .int .i64 last) (fun ρ e => ex_assign (e _ _ rfl)) rfl rfl ?_
        refine wl_nil ?_
        refine xw_next K110 ?_
        refine cw_ret ?_
        refine xw_past (by intro h; cases h) ?_
        refine xw_ret (v := .int .i64 last) (fun T hT => res1 rfl T _ (hT 4 _ rfl)) ?_
        exact RPost.eq (q' := (L, last)) ⟨_, _, _, _, rfl, (O115.re [2, 3, 4] rfl : Own (zone (refE f R c D L vs ++ [inE DI (.slice AI ins.length cI) ins])) W w113 [.blk f 63 #[.slice R L.length c], .row (.slice R L.length c) 38 3 L.length (gcells L vs), .ro D (Ins D L vs)])⟩ (by rw [xorG_0 hgo, if_neg hla])
    · have hn' : n = 1 := hn
      obtain ⟨gl, rfl⟩ := O10.rowshape 0 rfl (by omega)
      by_cases hla : last < 0
      · have hl2 : l2 = [] := by rw [hones]; exact if_pos hla
        subst hl2
        have hn2' : n2 = 0 := hn2
        refine cw_region ?_
        refine wl_val (v := .slice (some ⟨gl, 0, none⟩) n cA) (fun ρ e => ex_move (e _ _ rfl)) rfl rfl ?_
        refine wl_val (v := .int .i64 (n : Int)) (fun ρ e => ex_len el36 (e _ _ rfl)) rfl rfl ?_
        refine wl_val (v := .bool false) (fun ρ e => ex_cmp (u := (n : Int)) (v := 0) (e _ _ rfl) (e _ _ rfl) (eql0 (by omega))) rfl rfl ?_
        refine wl_val (v := .bool false) (fun ρ e => ex_move (e _ _ rfl)) rfl rfl ?_
        refine wl_skip rfl rfl ?_
        refine wl_skip rfl rfl ?_
        refine wl_skip rfl rfl ?_
        refine wl_val (v := .bool false) (fun ρ e => ex_pick0 (e _ _ rfl) (e _ _ rfl)) rfl rfl ?_
        refine wl_nil ?_
        refine xw_next K99 ?_
        refine cw_false rfl ?_
        refine cw_skip ?_
        refine xw_next K98 ?_
        refine cw_seq (fun FK117 K117 => ?_)
        refine cw_seq (fun FK118 K118 => ?_)
        refine cw_region ?_
        refine wl_val (v := .slice (some ⟨gl, 0, none⟩) n cA) (fun ρ e => ex_move (e _ _ rfl)) rfl rfl ?_
        refine wl_val (v := .int .i64 (n : Int)) (fun ρ e => ex_len el36 (e _ _ rfl)) rfl rfl ?_
        refine wl_val (v := .slice A2 n2 cA2) (fun ρ e => ex_move (e _ _ rfl)) rfl rfl ?_
        refine wl_val (v := .int .i64 (n2 : Int)) (fun ρ e => ex_len el36 (e _ _ rfl)) rfl rfl ?_
        refine wl_val (v := .int .i64 ((n : Int) + (n2 : Int))) (fun ρ e => ex_arith (k := .i64) (u := (n : Int)) (v := (n2 : Int)) (e _ _ rfl) (e _ _ rfl) (congrArg some (wrap_in (by omega) (by omega)))) rfl rfl ?_
        refine wl_val (v := .bool true) (fun ρ e => ex_cmp (u := ((n : Int) + (n2 : Int))) (v := 1) (e _ _ rfl) (e _ _ rfl) (eql1 (by omega))) rfl rfl ?_
        refine wl_nil ?_
        refine xw_next K118 ?_
        refine cw_true rfl ?_
        refine cw_seq (fun FK119 K119 => ?_)
        refine cw_region ?_
        refine wl_val (v := .slice (some ⟨gl, 0, none⟩) n cA) (fun ρ e => ex_move (e _ _ rfl)) rfl rfl ?_
        refine wl_val (v := .slice A2 n2 cA2) (fun ρ e => ex_move (e _ _ rfl)) rfl rfl ?_
        obtain ⟨A120, c121, w122, r123, O124, hz125⟩ := own_appS (m := n2) (c := cA2) (A := A2) (news := intCs []) O10 ap36 (by rw [hn2']; rfl) (ints_src ((IntsD.of_row (l := []) (O10.row 1 rfl)).V (fun k hk => (World.ownsRow.lt (O10.row 1 rfl) k hk).2)) (Below.refl _ _)) (intCs_one _) (by omega) (by omega) (ys := intCs [x]) (List.append_nil _)
        obtain ⟨g2, rfl⟩ := O124.rowshape 0 rfl (by omega)
        refine wl_val (v := .slice (some ⟨g2, 0, none⟩) (n + n2) c121) (fun ρ e => r123 ρ _ _ _ _ _ _ _ (e _ _ rfl) (e _ _ rfl)) rfl rfl ?_
        refine wl_val (v := .pointer (some ⟨g2, 0, none⟩)) (fun ρ e => ex_idx (q := 0) (i := 0) el36 (e _ _ rfl) (e _ _ rfl) (by omega) (by omega)) rfl rfl ?_
        refine wl_val (v := .int .i64 x) (fun ρ e => ex_load1 ty3 (e _ _ rfl) (rowcell (O124.row 0 rfl) (j := 0) rfl)) rfl rfl ?_
        refine wl_val (v := .int .i64 x) (fun ρ e => ex_assign (e _ _ rfl)) rfl rfl ?_
        refine wl_nil ?_
        refine xw_next K119 ?_
        refine cw_ret ?_
        refine xw_past (by intro h; cases h) ?_
        refine xw_ret (v := .int .i64 x) (fun T hT => res1 rfl T _ (hT 4 _ rfl)) ?_
        exact RPost.eq (q' := (L, x)) ⟨_, _, _, _, rfl, (O124.re [2, 3, 4] rfl : Own (zone (refE f R c D L vs ++ [inE DI (.slice AI ins.length cI) ins])) W w122 [.blk f 63 #[.slice R L.length c], .row (.slice R L.length c) 38 3 L.length (gcells L vs), .ro D (Ins D L vs)])⟩ (by rw [xorG_1 hgo, if_pos hla])
      · have hl2 : l2 = [last] := by rw [hones]; exact if_neg hla
        subst hl2
        have hn2' : n2 = 1 := hn2
        refine cw_region ?_
        refine wl_val (v := .slice (some ⟨gl, 0, none⟩) n cA) (fun ρ e => ex_move (e _ _ rfl)) rfl rfl ?_
        refine wl_val (v := .int .i64 (n : Int)) (fun ρ e => ex_len el36 (e _ _ rfl)) rfl rfl ?_
        refine wl_val (v := .bool false) (fun ρ e => ex_cmp (u := (n : Int)) (v := 0) (e _ _ rfl) (e _ _ rfl) (eql0 (by omega))) rfl rfl ?_
        refine wl_val (v := .bool false) (fun ρ e => ex_move (e _ _ rfl)) rfl rfl ?_
        refine wl_skip rfl rfl ?_
        refine wl_skip rfl rfl ?_
        refine wl_skip rfl rfl ?_
        refine wl_val (v := .bool false) (fun ρ e => ex_pick0 (e _ _ rfl) (e _ _ rfl)) rfl rfl ?_
        refine wl_nil ?_
        refine xw_next K99 ?_
        refine cw_false rfl ?_
        refine cw_skip ?_
        refine xw_next K98 ?_
        refine cw_seq (fun FK126 K126 => ?_)
        refine cw_seq (fun FK127 K127 => ?_)
        refine cw_region ?_
        refine wl_val (v := .slice (some ⟨gl, 0, none⟩) n cA) (fun ρ e => ex_move (e _ _ rfl)) rfl rfl ?_
        refine wl_val (v := .int .i64 (n : Int)) (fun ρ e => ex_len el36 (e _ _ rfl)) rfl rfl ?_
        refine wl_val (v := .slice A2 n2 cA2) (fun ρ e => ex_move (e _ _ rfl)) rfl rfl ?_
        refine wl_val (v := .int .i64 (n2 : Int)) (fun ρ e => ex_len el36 (e _ _ rfl)) rfl rfl ?_
        refine wl_val (v := .int .i64 ((n : Int) + (n2 : Int))) (fun ρ e => ex_arith (k := .i64) (u := (n : Int)) (v := (n2 : Int)) (e _ _ rfl) (e _ _ rfl) (congrArg some (wrap_in (by omega) (by omega)))) rfl rfl ?_
        refine wl_val (v := .bool false) (fun ρ e => ex_cmp (u := ((n : Int) + (n2 : Int))) (v := 1) (e _ _ rfl) (e _ _ rfl) (eql0 (by omega))) rfl rfl ?_
        refine wl_nil ?_
        refine xw_next K127 ?_
        refine cw_false rfl ?_
        refine cw_skip ?_
        refine xw_next K126 ?_
        refine cw_seq (fun FK128 K128 => ?_)
        refine cw_seq (fun FK129 K129 => ?_)
        refine cw_region ?_
        refine wl_val (v := .slice (some ⟨gl, 0, none⟩) n cA) (fun ρ e => ex_move (e _ _ rfl)) rfl rfl ?_
        refine wl_val (v := .int .i64 (n : Int)) (fun ρ e => ex_len el36 (e _ _ rfl)) rfl rfl ?_
        refine wl_val (v := .bool true) (fun ρ e => ex_cmp (u := (n : Int)) (v := 1) (e _ _ rfl) (e _ _ rfl) (eql1 (by omega))) rfl rfl ?_
        refine wl_nil ?_
        refine xw_next K129 ?_
        refine cw_true rfl ?_
        refine cw_seq (fun FK130 K130 => ?_)
        refine cw_region ?_
        refine wl_val (v := .pointer (some ⟨f, 0, none⟩)) (fun ρ e => ex_move (e _ _ rfl)) rfl rfl ?_
        refine wl_val (v := .slice (some ⟨gl, 0, none⟩) n cA) (fun ρ e => ex_move (e _ _ rfl)) rfl rfl ?_
        refine wl_val (v := .pointer (some ⟨gl, 0, none⟩)) (fun ρ e => ex_idx (q := 0) (i := 0) el36 (e _ _ rfl) (e _ _ rfl) (by omega) (by omega)) rfl rfl ?_
        refine wl_val (v := .int .i64 x) (fun ρ e => ex_load1 ty3 (e _ _ rfl) (rowcell (O10.row 0 rfl) (j := 0) rfl)) rfl rfl ?_
        refine wl_call (args := [.pointer (some ⟨f, 0, none⟩), .int .i64 x]) in_67 rfl rfl rfl ?_
        refine (RPost.use (A := refE f R c D L vs) (rest := [.row (.slice (some ⟨gl, 0, none⟩) n cA) 3 1 n (intCs [x]), .row (.slice A2 n2 cA2) 3 1 n2 (intCs [last]), .ro DI (fun w => IntsD DI w (.slice AI ins.length cI) ins)]) (O10.re [2, 3, 4, 0, 1, 5] rfl : Own (zone (refE f R c D L vs ++ [inE DI (.slice AI ins.length cI) ins])) W w7 [.blk f 63 #[.slice R L.length c], .row (.slice R L.length c) 38 3 L.length (gcells L vs), .ro D (Ins D L vs), .row (.slice (some ⟨gl, 0, none⟩) n cA) 3 1 n (intCs [x]), .row (.slice A2 n2 cA2) 3 1 n2 (intCs [last]), .ro DI (fun w => IntsD DI w (.slice AI ins.length cI) ins)]) (rnot_ (Own.hand (A := refE f R c D L vs) (R := [.row (.slice (some ⟨gl, 0, none⟩) n cA) 3 1 n (intCs [x]), .row (.slice A2 n2 cA2) 3 1 n2 (intCs [last]), .ro DI (fun w => IntsD DI w (.slice AI ins.length cI) ins)]) (O10.re [2, 3, 4, 0, 1, 5] rfl : Own (zone (refE f R c D L vs ++ [inE DI (.slice AI ins.length cI) ins])) W w7 [.blk f 63 #[.slice R L.length c], .row (.slice R L.length c) 38 3 L.length (gcells L vs), .ro D (Ins D L vs), .row (.slice (some ⟨gl, 0, none⟩) n cA) 3 1 n (intCs [x]), .row (.slice A2 n2 cA2) 3 1 n2 (intCs [last]), .ro DI (fun w => IntsD DI w (.slice AI ins.length cI) ins)])) (hl1 x (List.mem_cons_self)) ok okl hL)).mono ?_
        rintro _ w131 ⟨R132, c133, D134, vs135, rfl, O136⟩
        refine ⟨_, rfl, ?_⟩
        refine wl_val (v := .int .i64 ((notG L x).2)) (fun ρ e => ex_assign (e _ _ rfl)) rfl rfl ?_
        refine wl_nil ?_
        refine xw_next K130 ?_
        refine cw_ret ?_
        refine xw_past (by intro h; cases h) ?_
        refine xw_ret (v := .int .i64 ((notG L x).2)) (fun T hT => res1 rfl T _ (hT 4 _ rfl)) ?_
        exact RPost.eq ⟨_, _, _, _, rfl, (O136.re [0, 1, 2] rfl : Own (zone (refE f R c D L vs ++ [inE DI (.slice AI ins.length cI) ins])) W w131 [.blk f 63 #[.slice R132 (((notG L x).1).length) c133], .row (.slice R132 (((notG L x).1).length) c133) 38 3 (((notG L x).1).length) (gcells ((notG L x).1) vs135), .ro D134 (Ins D134 ((notG L x).1) vs135)])⟩ (by rw [xorG_1 hgo, if_neg hla])
    · have hn' : n = l3.length + 2 := hn
      by_cases hla : last < 0
      · have hl2 : l2 = [] := by rw [hones]; exact if_pos hla
        subst hl2
        have hn2' : n2 = 0 := hn2
        refine cw_region ?_
        refine wl_val (v := .slice A n cA) (fun ρ e => ex_move (e _ _ rfl)) rfl rfl ?_
        refine wl_val (v := .int .i64 (n : Int)) (fun ρ e => ex_len el36 (e _ _ rfl)) rfl rfl ?_
        refine wl_val (v := .bool false) (fun ρ e => ex_cmp (u := (n : Int)) (v := 0) (e _ _ rfl) (e _ _ rfl) (eql0 (by omega))) rfl rfl ?_
        refine wl_val (v := .bool false) (fun ρ e => ex_move (e _ _ rfl)) rfl rfl ?_
        refine wl_skip rfl rfl ?_
        refine wl_skip rfl rfl ?_
        refine wl_skip rfl rfl ?_
        refine wl_val (v := .bool false) (fun ρ e => ex_pick0 (e _ _ rfl) (e _ _ rfl)) rfl rfl ?_
        refine wl_nil ?_
        refine xw_next K99 ?_
        refine cw_false rfl ?_
        refine cw_skip ?_
        refine xw_next K98 ?_
        refine cw_seq (fun FK137 K137 => ?_)
        refine cw_seq (fun FK138 K138 => ?_)
        refine cw_region ?_
        refine wl_val (v := .slice A n cA) (fun ρ e => ex_move (e _ _ rfl)) rfl rfl ?_
        refine wl_val (v := .int .i64 (n : Int)) (fun ρ e => ex_len el36 (e _ _ rfl)) rfl rfl ?_
        refine wl_val (v := .slice A2 n2 cA2) (fun ρ e => ex_move (e _ _ rfl)) rfl rfl ?_
        refine wl_val (v := .int .i64 (n2 : Int)) (fun ρ e => ex_len el36 (e _ _ rfl)) rfl rfl ?_
        refine wl_val (v := .int .i64 ((n : Int) + (n2 : Int))) (fun ρ e => ex_arith (k := .i64) (u := (n : Int)) (v := (n2 : Int)) (e _ _ rfl) (e _ _ rfl) (congrArg some (wrap_in (by omega) (by omega)))) rfl rfl ?_
        refine wl_val (v := .bool false) (fun ρ e => ex_cmp (u := ((n : Int) + (n2 : Int))) (v := 1) (e _ _ rfl) (e _ _ rfl) (eql0 (by omega))) rfl rfl ?_
        refine wl_nil ?_
        refine xw_next K138 ?_
        refine cw_false rfl ?_
        refine cw_skip ?_
        refine xw_next K137 ?_
        refine cw_seq (fun FK139 K139 => ?_)
        refine cw_seq (fun FK140 K140 => ?_)
        refine cw_region ?_
        refine wl_val (v := .slice A n cA) (fun ρ e => ex_move (e _ _ rfl)) rfl rfl ?_
        refine wl_val (v := .int .i64 (n : Int)) (fun ρ e => ex_len el36 (e _ _ rfl)) rfl rfl ?_
        refine wl_val (v := .bool false) (fun ρ e => ex_cmp (u := (n : Int)) (v := 1) (e _ _ rfl) (e _ _ rfl) (eql0 (by omega))) rfl rfl ?_
        refine wl_nil ?_
        refine xw_next K140 ?_
        refine cw_false rfl ?_
        refine cw_skip ?_
        refine xw_next K139 ?_
        refine cw_seq (fun FK141 K141 => ?_)
        refine cw_region ?_
        refine wl_val (v := .pointer (some ⟨f, 0, none⟩)) (fun ρ e => ex_move (e _ _ rfl)) rfl rfl ?_
        refine wl_val (v := .slice A n cA) (fun ρ e => ex_move (e _ _ rfl)) rfl rfl ?_
        refine wl_val (v := .slice A2 n2 cA2) (fun ρ e => ex_move (e _ _ rfl)) rfl rfl ?_
        obtain ⟨A142, c143, w144, r145, O146, hz147⟩ := own_appS (m := n2) (c := cA2) (A := A2) (news := intCs []) O10 ap36 (by rw [hn2']; rfl) (ints_src ((IntsD.of_row (l := []) (O10.row 1 rfl)).V (fun k hk => (World.ownsRow.lt (O10.row 1 rfl) k hk).2)) (Below.refl _ _)) (intCs_one _) (by omega) (by omega) (ys := intCs (x :: x2 :: l3)) (List.append_nil _)
        refine wl_val (v := .slice A142 (n + n2) c143) (fun ρ e => r145 ρ _ _ _ _ _ _ _ (e _ _ rfl) (e _ _ rfl)) rfl rfl ?_
        refine wl_call (args := [.pointer (some ⟨f, 0, none⟩), .int .i64 6, .int .i64 0, .slice A142 (n + n2) c143]) in_72 rfl rfl rfl ?_
        have O148 : Own (zone (refE f R c D L vs ++ [inE DI (.slice AI ins.length cI) ins])) W w144 [.ro (fun k => (Value.ownBlock (.slice A142 (n + n2) c143)) = some k) (fun w => IntsD (fun k => (Value.ownBlock (.slice A142 (n + n2) c143)) = some k) w (.slice A142 (n + n2) c143) (x :: x2 :: l3)), .row (.slice A2 n2 cA2) 3 1 n2 (intCs []), .blk f 63 #[.slice R L.length c], .row (.slice R L.length c) 38 3 L.length (gcells L vs), .ro D (Ins D L vs), .ro DI (fun w => IntsD DI w (.slice AI ins.length cI) ins)] := Own.rowin (l := (x :: x2 :: l3)) O146
        refine (call_rfind (f := f) (R := R) (c := c) (D := D) (L := L) (vs := vs) (D2 := (fun k => (Value.ownBlock (.slice A142 (n + n2) c143)) = some k)) (V := .slice A142 (n + n2) c143) (g := ⟨6, 0, (x :: x2 :: l3)⟩) (rest := [.row (.slice A2 n2 cA2) 3 1 n2 (intCs []), .ro DI (fun w => IntsD DI w (.slice AI ins.length cI) ins)]) (O148.re [2, 3, 4, 0, 1, 5] rfl : Own (zone (refE f R c D L vs ++ [inE DI (.slice AI ins.length cI) ins])) W w144 [.blk f 63 #[.slice R L.length c], .row (.slice R L.length c) 38 3 L.length (gcells L vs), .ro D (Ins D L vs), .ro (fun k => (Value.ownBlock (.slice A142 (n + n2) c143)) = some k) (fun w => IntsD (fun k => (Value.ownBlock (.slice A142 (n + n2) c143)) = some k) w (.slice A142 (n + n2) c143) (x :: x2 :: l3)), .row (.slice A2 n2 cA2) 3 1 n2 (intCs []), .ro DI (fun w => IntsD DI w (.slice AI ins.length cI) ins)]) ok (show _ ≤ _ from by simp only [List.length_append, List.length_cons, List.length_nil]; omega) hL).mono ?_
        rintro _ w149 ⟨R150, c151, D152, vs153, rfl, O154⟩
        refine ⟨_, rfl, ?_⟩
        refine wl_val (v := .int .i64 ((findG L ⟨6, 0, (x :: x2 :: l3)⟩).2)) (fun ρ e => ex_assign (e _ _ rfl)) rfl rfl ?_
        refine wl_nil ?_
        refine xw_next K141 ?_
        refine cw_ret ?_
        refine xw_ret (v := .int .i64 ((findG L ⟨6, 0, (x :: x2 :: l3)⟩).2)) (fun T hT => res1 rfl T _ (hT 4 _ rfl)) ?_
        exact RPost.eq ⟨_, _, _, _, rfl, (O154.re [0, 1, 2] rfl : Own (zone (refE f R c D L vs ++ [inE DI (.slice AI ins.length cI) ins])) W w149 [.blk f 63 #[.slice R150 (((findG L ⟨6, 0, (x :: x2 :: l3)⟩).1).length) c151], .row (.slice R150 (((findG L ⟨6, 0, (x :: x2 :: l3)⟩).1).length) c151) 38 3 (((findG L ⟨6, 0, (x :: x2 :: l3)⟩).1).length) (gcells ((findG L ⟨6, 0, (x :: x2 :: l3)⟩).1) vs153), .ro D152 (Ins D152 ((findG L ⟨6, 0, (x :: x2 :: l3)⟩).1) vs153)])⟩ (by rw [xorG_2 hgo, if_neg (show ¬ 0 ≤ last by omega)])
      · have hl2 : l2 = [last] := by rw [hones]; exact if_neg hla
        subst hl2
        have hn2' : n2 = 1 := hn2
        refine cw_region ?_
        refine wl_val (v := .slice A n cA) (fun ρ e => ex_move (e _ _ rfl)) rfl rfl ?_
        refine wl_val (v := .int .i64 (n : Int)) (fun ρ e => ex_len el36 (e _ _ rfl)) rfl rfl ?_
        refine wl_val (v := .bool false) (fun ρ e => ex_cmp (u := (n : Int)) (v := 0) (e _ _ rfl) (e _ _ rfl) (eql0 (by omega))) rfl rfl ?_
        refine wl_val (v := .bool false) (fun ρ e => ex_move (e _ _ rfl)) rfl rfl ?_
        refine wl_skip rfl rfl ?_
        refine wl_skip rfl rfl ?_
        refine wl_skip rfl rfl ?_
        refine wl_val (v := .bool false) (fun ρ e => ex_pick0 (e _ _ rfl) (e _ _ rfl)) rfl rfl ?_
        refine wl_nil ?_
        refine xw_next K99 ?_
        refine cw_false rfl ?_
        refine cw_skip ?_
        refine xw_next K98 ?_
        refine cw_seq (fun FK155 K155 => ?_)
        refine cw_seq (fun FK156 K156 => ?_)
        refine cw_region ?_
        refine wl_val (v := .slice A n cA) (fun ρ e => ex_move (e _ _ rfl)) rfl rfl ?_
        refine wl_val (v := .int .i64 (n : Int)) (fun ρ e => ex_len el36 (e _ _ rfl)) rfl rfl ?_
        refine wl_val (v := .slice A2 n2 cA2) (fun ρ e => ex_move (e _ _ rfl)) rfl rfl ?_
        refine wl_val (v := .int .i64 (n2 : Int)) (fun ρ e => ex_len el36 (e _ _ rfl)) rfl rfl ?_
        refine wl_val (v := .int .i64 ((n : Int) + (n2 : Int))) (fun ρ e => ex_arith (k := .i64) (u := (n : Int)) (v := (n2 : Int)) (e _ _ rfl) (e _ _ rfl) (congrArg some (wrap_in (by omega) (by omega)))) rfl rfl ?_
        refine wl_val (v := .bool false) (fun ρ e => ex_cmp (u := ((n : Int) + (n2 : Int))) (v := 1) (e _ _ rfl) (e _ _ rfl) (eql0 (by omega))) rfl rfl ?_
        refine wl_nil ?_
        refine xw_next K156 ?_
        refine cw_false rfl ?_
        refine cw_skip ?_
        refine xw_next K155 ?_
        refine cw_seq (fun FK157 K157 => ?_)
        refine cw_seq (fun FK158 K158 => ?_)
        refine cw_region ?_
        refine wl_val (v := .slice A n cA) (fun ρ e => ex_move (e _ _ rfl)) rfl rfl ?_
        refine wl_val (v := .int .i64 (n : Int)) (fun ρ e => ex_len el36 (e _ _ rfl)) rfl rfl ?_
        refine wl_val (v := .bool false) (fun ρ e => ex_cmp (u := (n : Int)) (v := 1) (e _ _ rfl) (e _ _ rfl) (eql0 (by omega))) rfl rfl ?_
        refine wl_nil ?_
        refine xw_next K158 ?_
        refine cw_false rfl ?_
        refine cw_skip ?_
        refine xw_next K157 ?_
        refine cw_seq (fun FK159 K159 => ?_)
        refine cw_region ?_
        refine wl_val (v := .pointer (some ⟨f, 0, none⟩)) (fun ρ e => ex_move (e _ _ rfl)) rfl rfl ?_
        refine wl_val (v := .slice A n cA) (fun ρ e => ex_move (e _ _ rfl)) rfl rfl ?_
        refine wl_val (v := .slice A2 n2 cA2) (fun ρ e => ex_move (e _ _ rfl)) rfl rfl ?_
        obtain ⟨A160, c161, w162, r163, O164, hz165⟩ := own_appS (m := n2) (c := cA2) (A := A2) (news := intCs [last]) O10 ap36 (by rw [hn2']; rfl) (ints_src ((IntsD.of_row (l := [last]) (O10.row 1 rfl)).V (fun k hk => (World.ownsRow.lt (O10.row 1 rfl) k hk).2)) (Below.refl _ _)) (intCs_one _) (by omega) (by omega) (ys := intCs ((x :: x2 :: l3) ++ [last])) (intCs_snoc (x :: x2 :: l3) last)
        refine wl_val (v := .slice A160 (n + n2) c161) (fun ρ e => r163 ρ _ _ _ _ _ _ _ (e _ _ rfl) (e _ _ rfl)) rfl rfl ?_
        refine wl_call (args := [.pointer (some ⟨f, 0, none⟩), .int .i64 6, .int .i64 0, .slice A160 (n + n2) c161]) in_72 rfl rfl rfl ?_
        have O166 : Own (zone (refE f R c D L vs ++ [inE DI (.slice AI ins.length cI) ins])) W w162 [.ro (fun k => (Value.ownBlock (.slice A160 (n + n2) c161)) = some k) (fun w => IntsD (fun k => (Value.ownBlock (.slice A160 (n + n2) c161)) = some k) w (.slice A160 (n + n2) c161) ((x :: x2 :: l3) ++ [last])), .row (.slice A2 n2 cA2) 3 1 n2 (intCs [last]), .blk f 63 #[.slice R L.length c], .row (.slice R L.length c) 38 3 L.length (gcells L vs), .ro D (Ins D L vs), .ro DI (fun w => IntsD DI w (.slice AI ins.length cI) ins)] := Own.rowin (l := ((x :: x2 :: l3) ++ [last])) O164
        refine (call_rfind (f := f) (R := R) (c := c) (D := D) (L := L) (vs := vs) (D2 := (fun k => (Value.ownBlock (.slice A160 (n + n2) c161)) = some k)) (V := .slice A160 (n + n2) c161) (g := ⟨6, 0, ((x :: x2 :: l3) ++ [last])⟩) (rest := [.row (.slice A2 n2 cA2) 3 1 n2 (intCs [last]), .ro DI (fun w => IntsD DI w (.slice AI ins.length cI) ins)]) (O166.re [2, 3, 4, 0, 1, 5] rfl : Own (zone (refE f R c D L vs ++ [inE DI (.slice AI ins.length cI) ins])) W w162 [.blk f 63 #[.slice R L.length c], .row (.slice R L.length c) 38 3 L.length (gcells L vs), .ro D (Ins D L vs), .ro (fun k => (Value.ownBlock (.slice A160 (n + n2) c161)) = some k) (fun w => IntsD (fun k => (Value.ownBlock (.slice A160 (n + n2) c161)) = some k) w (.slice A160 (n + n2) c161) ((x :: x2 :: l3) ++ [last])), .row (.slice A2 n2 cA2) 3 1 n2 (intCs [last]), .ro DI (fun w => IntsD DI w (.slice AI ins.length cI) ins)]) ok (show _ ≤ _ from by simp only [List.length_append, List.length_cons, List.length_nil]; omega) hL).mono ?_
        rintro _ w167 ⟨R168, c169, D170, vs171, rfl, O172⟩
        refine ⟨_, rfl, ?_⟩
        refine wl_val (v := .int .i64 ((findG L ⟨6, 0, ((x :: x2 :: l3) ++ [last])⟩).2)) (fun ρ e => ex_assign (e _ _ rfl)) rfl rfl ?_
        refine wl_nil ?_
        refine xw_next K159 ?_
        refine cw_ret ?_
        refine xw_ret (v := .int .i64 ((findG L ⟨6, 0, ((x :: x2 :: l3) ++ [last])⟩).2)) (fun T hT => res1 rfl T _ (hT 4 _ rfl)) ?_
        exact RPost.eq ⟨_, _, _, _, rfl, (O172.re [0, 1, 2] rfl : Own (zone (refE f R c D L vs ++ [inE DI (.slice AI ins.length cI) ins])) W w167 [.blk f 63 #[.slice R168 (((findG L ⟨6, 0, ((x :: x2 :: l3) ++ [last])⟩).1).length) c169], .row (.slice R168 (((findG L ⟨6, 0, ((x :: x2 :: l3) ++ [last])⟩).1).length) c169) 38 3 (((findG L ⟨6, 0, ((x :: x2 :: l3) ++ [last])⟩).1).length) (gcells ((findG L ⟨6, 0, ((x :: x2 :: l3) ++ [last])⟩).1) vs171), .ro D170 (Ins D170 ((findG L ⟨6, 0, ((x :: x2 :: l3) ++ [last])⟩).1) vs171)])⟩ (by rw [xorG_2 hgo, if_pos (show 0 ≤ last by omega)])
end
end Go.Proofs.YtbemhgojfehnjaaDoor
namespace Go.Proofs.YtbemhgojfehnjaaDoor
open Go Go.RowKit
section
variable {W : World} {f c B : Nat} {N lit : Int} {R : Option Addr} {D DI : Nat → Prop} {L : List Gate} {vs : List Value} {V GV : Value} {ins : List Int}
theorem rgate0 {inp : List Int} (O0 : Own (zone (refE f R c D L vs ++ [inE DI V ins])) W W (refE f R c D L vs ++ [inE DI V ins]))  (ok : shortL L) (hL : L.length ≤ 1000000) :
    Calls Tryd.prog 41 #[.pointer (some ⟨f, 0, none⟩), .agg #[.int .i64 0, .int .i64 lit, GV], V] W (RPost (refE f R c D L vs ++ [inE DI V ins]) W f (stepG L ⟨0, lit, inp⟩ ins)) := by
  refine sx_enter (args := [.pointer (some ⟨f, 0, none⟩), .agg #[.int .i64 0, .int .i64 lit, GV], V]) Tryd.func41 rfl rfl (by simp) ?_
  refine cw_seq (fun FK1 K1 => ?_)
  refine cw_region ?_
  obtain ⟨g2, w3, r4, O5, hg6, hs7⟩ := own_box O0 38 (.agg #[.int .i64 0, .int .i64 lit, GV]) rfl
  refine wl_val (v := .pointer (some ⟨g2, 0, none⟩)) (fun ρ e => r4 ρ _ _ _ _ _ _ (e _ _ rfl)) rfl rfl ?_
  refine wl_val (v := .int .i64 0) (fun ρ e => ex_assign (e _ _ rfl)) rfl rfl ?_
  refine wl_nil ?_
  refine xw_next K1 ?_
  refine cw_seq (fun FK8 K8 => ?_)
  refine cw_seq (fun FK9 K9 => ?_)
  refine cw_region ?_
  refine wl_val (v := .pointer (some ⟨g2, 0, none⟩)) (fun ρ e => ex_field (q := 0) fi38_0 (e _ _ rfl) rfl) rfl rfl ?_
  refine wl_val (v := .int .i64 0) (fun ρ e => ex_load1 ty3 (e _ _ rfl) (O5.cell 0 0 rfl rfl)) rfl rfl ?_
  refine wl_nil ?_
  refine xw_next K9 ?_
  refine cw_block ?_
  refine cw_seq (fun FK10 K10 => ?_)
  refine cw_region ?_
  refine wl_val (v := .bool false) (fun ρ e => ex_cmp (u := 0) (v := 3) (e _ _ rfl) (e _ _ rfl) (eql0 (by omega))) rfl rfl ?_
  refine wl_val (v := .bool false) (fun ρ e => ex_assign (e _ _ rfl)) rfl rfl ?_
  refine wl_nil ?_
  refine xw_next K10 ?_
  refine cw_false rfl ?_
  refine cw_seq (fun FK11 K11 => ?_)
  refine cw_seq (fun FK12 K12 => ?_)
  refine cw_region ?_
  refine wl_val (v := .bool false) (fun ρ e => ex_cmp (u := 0) (v := 4) (e _ _ rfl) (e _ _ rfl) (eql0 (by omega))) rfl rfl ?_
  refine wl_val (v := .bool false) (fun ρ e => ex_assign (e _ _ rfl)) rfl rfl ?_
  refine wl_nil ?_
  refine xw_next K12 ?_
  refine cw_false rfl ?_
  refine cw_region ?_
  refine wl_val (v := .bool false) (fun ρ e => ex_cmp (u := 0) (v := 5) (e _ _ rfl) (e _ _ rfl) (eql0 (by omega))) rfl rfl ?_
  refine wl_val (v := .bool false) (fun ρ e => ex_assign (e _ _ rfl)) rfl rfl ?_
  refine wl_nil ?_
  refine xw_next K11 ?_
  refine cw_false rfl ?_
  refine cw_seq (fun FK13 K13 => ?_)
  refine cw_region ?_
  refine wl_val (v := .bool false) (fun ρ e => ex_cmp (u := 0) (v := 6) (e _ _ rfl) (e _ _ rfl) (eql0 (by omega))) rfl rfl ?_
  refine wl_val (v := .bool false) (fun ρ e => ex_assign (e _ _ rfl)) rfl rfl ?_
  refine wl_nil ?_
  refine xw_next K13 ?_
  refine cw_false rfl ?_
  refine cw_seq (fun FK14 K14 => ?_)
  refine cw_region ?_
  refine wl_val (v := .bool false) (fun ρ e => ex_cmp (u := 0) (v := 7) (e _ _ rfl) (e _ _ rfl) (eql0 (by omega))) rfl rfl ?_
  refine wl_val (v := .bool false) (fun ρ e => ex_assign (e _ _ rfl)) rfl rfl ?_
  refine wl_nil ?_
  refine xw_next K14 ?_
  refine cw_false rfl ?_
  refine cw_seq (fun FK15 K15 => ?_)
  refine cw_region ?_
  refine wl_val (v := .bool false) (fun ρ e => ex_cmp (u := 0) (v := 8) (e _ _ rfl) (e _ _ rfl) (eql0 (by omega))) rfl rfl ?_
  refine wl_val (v := .bool false) (fun ρ e => ex_assign (e _ _ rfl)) rfl rfl ?_
  refine wl_nil ?_
  refine xw_next K15 ?_
  refine cw_false rfl ?_
  refine cw_skip ?_
  refine xw_block ?_
  refine xw_next K8 ?_
  refine cw_seq (fun FK16 K16 => ?_)
  refine cw_region ?_
  refine wl_val (v := .pointer (some ⟨f, 0, none⟩)) (fun ρ e => ex_move (e _ _ rfl)) rfl rfl ?_
  refine wl_val (v := .pointer (some ⟨g2, 0, none⟩)) (fun ρ e => ex_field (q := 0) fi38_0 (e _ _ rfl) rfl) rfl rfl ?_
  refine wl_val (v := .int .i64 0) (fun ρ e => ex_load1 ty3 (e _ _ rfl) (O5.cell 0 0 rfl rfl)) rfl rfl ?_
  refine wl_val (v := .pointer (some ⟨g2, 1, none⟩)) (fun ρ e => ex_field (q := 1) fi38_1 (e _ _ rfl) rfl) rfl rfl ?_
  refine wl_val (v := .int .i64 lit) (fun ρ e => ex_load1 ty3 (e _ _ rfl) (O5.cell 0 1 rfl rfl)) rfl rfl ?_
  refine wl_call (args := [.pointer (some ⟨f, 0, none⟩), .int .i64 0, .int .i64 lit, .slice none 0 0]) in_72 rfl rfl rfl ?_
  have O17 : Own (zone (refE f R c D L vs ++ [inE DI (V) ins])) W w3 [.ro (fun _ => False) (fun w => IntsD (fun _ => False) w (.slice none 0 0) ([])), .blk g2 38 #[.int .i64 0, .int .i64 lit, GV], .blk f 63 #[.slice R L.length c], .row (.slice R L.length c) 38 3 L.length (gcells L vs), .ro D (Ins D L vs), .ro DI (fun w => IntsD DI w (V) ins)] := O5.nilin
  refine (call_rfind (f := f) (R := R) (c := c) (D := D) (L := L) (vs := vs) (D2 := (fun _ => False)) (V := .slice none 0 0) (g := ⟨0, lit, []⟩) (rest := [.blk g2 38 #[.int .i64 0, .int .i64 lit, GV], .ro DI (fun w => IntsD DI w (V) ins)]) (O17.re [2, 3, 4, 0, 1, 5] rfl : Own (zone (refE f R c D L vs ++ [inE DI (V) ins])) W w3 [.blk f 63 #[.slice R L.length c], .row (.slice R L.length c) 38 3 L.length (gcells L vs), .ro D (Ins D L vs), .ro (fun _ => False) (fun w => IntsD (fun _ => False) w (.slice none 0 0) ([])), .blk g2 38 #[.int .i64 0, .int .i64 lit, GV], .ro DI (fun w => IntsD DI w (V) ins)]) ok (Nat.le_of_ble_eq_true rfl) hL).mono ?_
  rintro _ w18 ⟨R19, c20, D21, vs22, rfl, O23⟩
  refine ⟨_, rfl, ?_⟩
  refine wl_val (v := .int .i64 ((findG L ⟨0, lit, []⟩).2)) (fun ρ e => ex_assign (e _ _ rfl)) rfl rfl ?_
  refine wl_nil ?_
  refine xw_next K16 ?_
  refine cw_ret ?_
  refine xw_ret (v := .int .i64 ((findG L ⟨0, lit, []⟩).2)) (fun T hT => res1 rfl T _ (hT 6 _ rfl)) ?_
  exact RPost.eq ⟨_, _, _, _, rfl, (O23.re [0, 1, 2] rfl : Own (zone (refE f R c D L vs ++ [inE DI (V) ins])) W w18 [.blk f 63 #[.slice R19 (((findG L ⟨0, lit, []⟩).1).length) c20], .row (.slice R19 (((findG L ⟨0, lit, []⟩).1).length) c20) 38 3 (((findG L ⟨0, lit, []⟩).1).length) (gcells ((findG L ⟨0, lit, []⟩).1) vs22), .ro D21 (Ins D21 ((findG L ⟨0, lit, []⟩).1) vs22)])⟩ (by simp [stepG])
theorem rgate1 {inp : List Int} (O0 : Own (zone (refE f R c D L vs ++ [inE DI V ins])) W W (refE f R c D L vs ++ [inE DI V ins]))  (ok : shortL L) (hL : L.length ≤ 1000000) :
    Calls Tryd.prog 41 #[.pointer (some ⟨f, 0, none⟩), .agg #[.int .i64 1, .int .i64 lit, GV], V] W (RPost (refE f R c D L vs ++ [inE DI V ins]) W f (stepG L ⟨1, lit, inp⟩ ins)) := by
  refine sx_enter (args := [.pointer (some ⟨f, 0, none⟩), .agg #[.int .i64 1, .int .i64 lit, GV], V]) Tryd.func41 rfl rfl (by simp) ?_
  refine cw_seq (fun FK1 K1 => ?_)
  refine cw_region ?_
  obtain ⟨g2, w3, r4, O5, hg6, hs7⟩ := own_box O0 38 (.agg #[.int .i64 1, .int .i64 lit, GV]) rfl
  refine wl_val (v := .pointer (some ⟨g2, 0, none⟩)) (fun ρ e => r4 ρ _ _ _ _ _ _ (e _ _ rfl)) rfl rfl ?_
  refine wl_val (v := .int .i64 0) (fun ρ e => ex_assign (e _ _ rfl)) rfl rfl ?_
  refine wl_nil ?_
  refine xw_next K1 ?_
  refine cw_seq (fun FK8 K8 => ?_)
  refine cw_seq (fun FK9 K9 => ?_)
  refine cw_region ?_
  refine wl_val (v := .pointer (some ⟨g2, 0, none⟩)) (fun ρ e => ex_field (q := 0) fi38_0 (e _ _ rfl) rfl) rfl rfl ?_
  refine wl_val (v := .int .i64 1) (fun ρ e => ex_load1 ty3 (e _ _ rfl) (O5.cell 0 0 rfl rfl)) rfl rfl ?_
  refine wl_nil ?_
  refine xw_next K9 ?_
  refine cw_block ?_
  refine cw_seq (fun FK10 K10 => ?_)
  refine cw_region ?_
  refine wl_val (v := .bool false) (fun ρ e => ex_cmp (u := 1) (v := 3) (e _ _ rfl) (e _ _ rfl) (eql0 (by omega))) rfl rfl ?_
  refine wl_val (v := .bool false) (fun ρ e => ex_assign (e _ _ rfl)) rfl rfl ?_
  refine wl_nil ?_
  refine xw_next K10 ?_
  refine cw_false rfl ?_
  refine cw_seq (fun FK11 K11 => ?_)
  refine cw_seq (fun FK12 K12 => ?_)
  refine cw_region ?_
  refine wl_val (v := .bool false) (fun ρ e => ex_cmp (u := 1) (v := 4) (e _ _ rfl) (e _ _ rfl) (eql0 (by omega))) rfl rfl ?_
  refine wl_val (v := .bool false) (fun ρ e => ex_assign (e _ _ rfl)) rfl rfl ?_
  refine wl_nil ?_
  refine xw_next K12 ?_
  refine cw_false rfl ?_
  refine cw_region ?_
  refine wl_val (v := .bool false) (fun ρ e => ex_cmp (u := 1) (v := 5) (e _ _ rfl) (e _ _ rfl) (eql0 (by omega))) rfl rfl ?_
  refine wl_val (v := .bool false) (fun ρ e => ex_assign (e _ _ rfl)) rfl rfl ?_
  refine wl_nil ?_
  refine xw_next K11 ?_
  refine cw_false rfl ?_
  refine cw_seq (fun FK13 K13 => ?_)
  refine cw_region ?_
  refine wl_val (v := .bool false) (fun ρ e => ex_cmp (u := 1) (v := 6) (e _ _ rfl) (e _ _ rfl) (eql0 (by omega))) rfl rfl ?_
  refine wl_val (v := .bool false) (fun ρ e => ex_assign (e _ _ rfl)) rfl rfl ?_
  refine wl_nil ?_
  refine xw_next K13 ?_
  refine cw_false rfl ?_
  refine cw_seq (fun FK14 K14 => ?_)
  refine cw_region ?_
  refine wl_val (v := .bool false) (fun ρ e => ex_cmp (u := 1) (v := 7) (e _ _ rfl) (e _ _ rfl) (eql0 (by omega))) rfl rfl ?_
  refine wl_val (v := .bool false) (fun ρ e => ex_assign (e _ _ rfl)) rfl rfl ?_
  refine wl_nil ?_
  refine xw_next K14 ?_
  refine cw_false rfl ?_
  refine cw_seq (fun FK15 K15 => ?_)
  refine cw_region ?_
  refine wl_val (v := .bool false) (fun ρ e => ex_cmp (u := 1) (v := 8) (e _ _ rfl) (e _ _ rfl) (eql0 (by omega))) rfl rfl ?_
  refine wl_val (v := .bool false) (fun ρ e => ex_assign (e _ _ rfl)) rfl rfl ?_
  refine wl_nil ?_
  refine xw_next K15 ?_
  refine cw_false rfl ?_
  refine cw_skip ?_
  refine xw_block ?_
  refine xw_next K8 ?_
  refine cw_seq (fun FK16 K16 => ?_)
  refine cw_region ?_
  refine wl_val (v := .pointer (some ⟨f, 0, none⟩)) (fun ρ e => ex_move (e _ _ rfl)) rfl rfl ?_
  refine wl_val (v := .pointer (some ⟨g2, 0, none⟩)) (fun ρ e => ex_field (q := 0) fi38_0 (e _ _ rfl) rfl) rfl rfl ?_
  refine wl_val (v := .int .i64 1) (fun ρ e => ex_load1 ty3 (e _ _ rfl) (O5.cell 0 0 rfl rfl)) rfl rfl ?_
  refine wl_val (v := .pointer (some ⟨g2, 1, none⟩)) (fun ρ e => ex_field (q := 1) fi38_1 (e _ _ rfl) rfl) rfl rfl ?_
  refine wl_val (v := .int .i64 lit) (fun ρ e => ex_load1 ty3 (e _ _ rfl) (O5.cell 0 1 rfl rfl)) rfl rfl ?_
  refine wl_call (args := [.pointer (some ⟨f, 0, none⟩), .int .i64 1, .int .i64 lit, .slice none 0 0]) in_72 rfl rfl rfl ?_
  have O17 : Own (zone (refE f R c D L vs ++ [inE DI (V) ins])) W w3 [.ro (fun _ => False) (fun w => IntsD (fun _ => False) w (.slice none 0 0) ([])), .blk g2 38 #[.int .i64 1, .int .i64 lit, GV], .blk f 63 #[.slice R L.length c], .row (.slice R L.length c) 38 3 L.length (gcells L vs), .ro D (Ins D L vs), .ro DI (fun w => IntsD DI w (V) ins)] := O5.nilin
  refine (call_rfind (f := f) (R := R) (c := c) (D := D) (L := L) (vs := vs) (D2 := (fun _ => False)) (V := .slice none 0 0) (g := ⟨1, lit, []⟩) (rest := [.blk g2 38 #[.int .i64 1, .int .i64 lit, GV], .ro DI (fun w => IntsD DI w (V) ins)]) (O17.re [2, 3, 4, 0, 1, 5] rfl : Own (zone (refE f R c D L vs ++ [inE DI (V) ins])) W w3 [.blk f 63 #[.slice R L.length c], .row (.slice R L.length c) 38 3 L.length (gcells L vs), .ro D (Ins D L vs), .ro (fun _ => False) (fun w => IntsD (fun _ => False) w (.slice none 0 0) ([])), .blk g2 38 #[.int .i64 1, .int .i64 lit, GV], .ro DI (fun w => IntsD DI w (V) ins)]) ok (Nat.le_of_ble_eq_true rfl) hL).mono ?_
  rintro _ w18 ⟨R19, c20, D21, vs22, rfl, O23⟩
  refine ⟨_, rfl, ?_⟩
  refine wl_val (v := .int .i64 ((findG L ⟨1, lit, []⟩).2)) (fun ρ e => ex_assign (e _ _ rfl)) rfl rfl ?_
  refine wl_nil ?_
  refine xw_next K16 ?_
  refine cw_ret ?_
  refine xw_ret (v := .int .i64 ((findG L ⟨1, lit, []⟩).2)) (fun T hT => res1 rfl T _ (hT 6 _ rfl)) ?_
  exact RPost.eq ⟨_, _, _, _, rfl, (O23.re [0, 1, 2] rfl : Own (zone (refE f R c D L vs ++ [inE DI (V) ins])) W w18 [.blk f 63 #[.slice R19 (((findG L ⟨1, lit, []⟩).1).length) c20], .row (.slice R19 (((findG L ⟨1, lit, []⟩).1).length) c20) 38 3 (((findG L ⟨1, lit, []⟩).1).length) (gcells ((findG L ⟨1, lit, []⟩).1) vs22), .ro D21 (Ins D21 ((findG L ⟨1, lit, []⟩).1) vs22)])⟩ (by simp [stepG])
theorem rgate2 {inp : List Int} (O0 : Own (zone (refE f R c D L vs ++ [inE DI V ins])) W W (refE f R c D L vs ++ [inE DI V ins]))  (ok : shortL L) (hL : L.length ≤ 1000000) :
    Calls Tryd.prog 41 #[.pointer (some ⟨f, 0, none⟩), .agg #[.int .i64 2, .int .i64 lit, GV], V] W (RPost (refE f R c D L vs ++ [inE DI V ins]) W f (stepG L ⟨2, lit, inp⟩ ins)) := by
  refine sx_enter (args := [.pointer (some ⟨f, 0, none⟩), .agg #[.int .i64 2, .int .i64 lit, GV], V]) Tryd.func41 rfl rfl (by simp) ?_
  refine cw_seq (fun FK1 K1 => ?_)
  refine cw_region ?_
  obtain ⟨g2, w3, r4, O5, hg6, hs7⟩ := own_box O0 38 (.agg #[.int .i64 2, .int .i64 lit, GV]) rfl
  refine wl_val (v := .pointer (some ⟨g2, 0, none⟩)) (fun ρ e => r4 ρ _ _ _ _ _ _ (e _ _ rfl)) rfl rfl ?_
  refine wl_val (v := .int .i64 0) (fun ρ e => ex_assign (e _ _ rfl)) rfl rfl ?_
  refine wl_nil ?_
  refine xw_next K1 ?_
  refine cw_seq (fun FK8 K8 => ?_)
  refine cw_seq (fun FK9 K9 => ?_)
  refine cw_region ?_
  refine wl_val (v := .pointer (some ⟨g2, 0, none⟩)) (fun ρ e => ex_field (q := 0) fi38_0 (e _ _ rfl) rfl) rfl rfl ?_
  refine wl_val (v := .int .i64 2) (fun ρ e => ex_load1 ty3 (e _ _ rfl) (O5.cell 0 0 rfl rfl)) rfl rfl ?_
  refine wl_nil ?_
  refine xw_next K9 ?_
  refine cw_block ?_
  refine cw_seq (fun FK10 K10 => ?_)
  refine cw_region ?_
  refine wl_val (v := .bool false) (fun ρ e => ex_cmp (u := 2) (v := 3) (e _ _ rfl) (e _ _ rfl) (eql0 (by omega))) rfl rfl ?_
  refine wl_val (v := .bool false) (fun ρ e => ex_assign (e _ _ rfl)) rfl rfl ?_
  refine wl_nil ?_
  refine xw_next K10 ?_
  refine cw_false rfl ?_
  refine cw_seq (fun FK11 K11 => ?_)
  refine cw_seq (fun FK12 K12 => ?_)
  refine cw_region ?_
  refine wl_val (v := .bool false) (fun ρ e => ex_cmp (u := 2) (v := 4) (e _ _ rfl) (e _ _ rfl) (eql0 (by omega))) rfl rfl ?_
  refine wl_val (v := .bool false) (fun ρ e => ex_assign (e _ _ rfl)) rfl rfl ?_
  refine wl_nil ?_
  refine xw_next K12 ?_
  refine cw_false rfl ?_
  refine cw_region ?_
  refine wl_val (v := .bool false) (fun ρ e => ex_cmp (u := 2) (v := 5) (e _ _ rfl) (e _ _ rfl) (eql0 (by omega))) rfl rfl ?_
  refine wl_val (v := .bool false) (fun ρ e => ex_assign (e _ _ rfl)) rfl rfl ?_
  refine wl_nil ?_
  refine xw_next K11 ?_
  refine cw_false rfl ?_
  refine cw_seq (fun FK13 K13 => ?_)
  refine cw_region ?_
  refine wl_val (v := .bool false) (fun ρ e => ex_cmp (u := 2) (v := 6) (e _ _ rfl) (e _ _ rfl) (eql0 (by omega))) rfl rfl ?_
  refine wl_val (v := .bool false) (fun ρ e => ex_assign (e _ _ rfl)) rfl rfl ?_
  refine wl_nil ?_
  refine xw_next K13 ?_
  refine cw_false rfl ?_
  refine cw_seq (fun FK14 K14 => ?_)
  refine cw_region ?_
  refine wl_val (v := .bool false) (fun ρ e => ex_cmp (u := 2) (v := 7) (e _ _ rfl) (e _ _ rfl) (eql0 (by omega))) rfl rfl ?_
  refine wl_val (v := .bool false) (fun ρ e => ex_assign (e _ _ rfl)) rfl rfl ?_
  refine wl_nil ?_
  refine xw_next K14 ?_
  refine cw_false rfl ?_
  refine cw_seq (fun FK15 K15 => ?_)
  refine cw_region ?_
  refine wl_val (v := .bool false) (fun ρ e => ex_cmp (u := 2) (v := 8) (e _ _ rfl) (e _ _ rfl) (eql0 (by omega))) rfl rfl ?_
  refine wl_val (v := .bool false) (fun ρ e => ex_assign (e _ _ rfl)) rfl rfl ?_
  refine wl_nil ?_
  refine xw_next K15 ?_
  refine cw_false rfl ?_
  refine cw_skip ?_
  refine xw_block ?_
  refine xw_next K8 ?_
  refine cw_seq (fun FK16 K16 => ?_)
  refine cw_region ?_
  refine wl_val (v := .pointer (some ⟨f, 0, none⟩)) (fun ρ e => ex_move (e _ _ rfl)) rfl rfl ?_
  refine wl_val (v := .pointer (some ⟨g2, 0, none⟩)) (fun ρ e => ex_field (q := 0) fi38_0 (e _ _ rfl) rfl) rfl rfl ?_
  refine wl_val (v := .int .i64 2) (fun ρ e => ex_load1 ty3 (e _ _ rfl) (O5.cell 0 0 rfl rfl)) rfl rfl ?_
  refine wl_val (v := .pointer (some ⟨g2, 1, none⟩)) (fun ρ e => ex_field (q := 1) fi38_1 (e _ _ rfl) rfl) rfl rfl ?_
  refine wl_val (v := .int .i64 lit) (fun ρ e => ex_load1 ty3 (e _ _ rfl) (O5.cell 0 1 rfl rfl)) rfl rfl ?_
  refine wl_call (args := [.pointer (some ⟨f, 0, none⟩), .int .i64 2, .int .i64 lit, .slice none 0 0]) in_72 rfl rfl rfl ?_
  have O17 : Own (zone (refE f R c D L vs ++ [inE DI (V) ins])) W w3 [.ro (fun _ => False) (fun w => IntsD (fun _ => False) w (.slice none 0 0) ([])), .blk g2 38 #[.int .i64 2, .int .i64 lit, GV], .blk f 63 #[.slice R L.length c], .row (.slice R L.length c) 38 3 L.length (gcells L vs), .ro D (Ins D L vs), .ro DI (fun w => IntsD DI w (V) ins)] := O5.nilin
  refine (call_rfind (f := f) (R := R) (c := c) (D := D) (L := L) (vs := vs) (D2 := (fun _ => False)) (V := .slice none 0 0) (g := ⟨2, lit, []⟩) (rest := [.blk g2 38 #[.int .i64 2, .int .i64 lit, GV], .ro DI (fun w => IntsD DI w (V) ins)]) (O17.re [2, 3, 4, 0, 1, 5] rfl : Own (zone (refE f R c D L vs ++ [inE DI (V) ins])) W w3 [.blk f 63 #[.slice R L.length c], .row (.slice R L.length c) 38 3 L.length (gcells L vs), .ro D (Ins D L vs), .ro (fun _ => False) (fun w => IntsD (fun _ => False) w (.slice none 0 0) ([])), .blk g2 38 #[.int .i64 2, .int .i64 lit, GV], .ro DI (fun w => IntsD DI w (V) ins)]) ok (Nat.le_of_ble_eq_true rfl) hL).mono ?_
  rintro _ w18 ⟨R19, c20, D21, vs22, rfl, O23⟩
  refine ⟨_, rfl, ?_⟩
  refine wl_val (v := .int .i64 ((findG L ⟨2, lit, []⟩).2)) (fun ρ e => ex_assign (e _ _ rfl)) rfl rfl ?_
  refine wl_nil ?_
  refine xw_next K16 ?_
  refine cw_ret ?_
  refine xw_ret (v := .int .i64 ((findG L ⟨2, lit, []⟩).2)) (fun T hT => res1 rfl T _ (hT 6 _ rfl)) ?_
  exact RPost.eq ⟨_, _, _, _, rfl, (O23.re [0, 1, 2] rfl : Own (zone (refE f R c D L vs ++ [inE DI (V) ins])) W w18 [.blk f 63 #[.slice R19 (((findG L ⟨2, lit, []⟩).1).length) c20], .row (.slice R19 (((findG L ⟨2, lit, []⟩).1).length) c20) 38 3 (((findG L ⟨2, lit, []⟩).1).length) (gcells ((findG L ⟨2, lit, []⟩).1) vs22), .ro D21 (Ins D21 ((findG L ⟨2, lit, []⟩).1) vs22)])⟩ (by simp [stepG])
theorem rgate3 {a : Int} {inp : List Int} (O0 : Own (zone (refE f R c D L vs ++ [inE DI V [a]])) W W (refE f R c D L vs ++ [inE DI V [a]])) (ha : 0 ≤ a ∧ a < (L.length : Int)) (ok : shortL L) (okl : ∀ i (h : i < L.length), -1000000 ≤ L[i].lit ∧ L[i].lit ≤ 1000000) (hL : L.length ≤ 1000000) :
    Calls Tryd.prog 41 #[.pointer (some ⟨f, 0, none⟩), .agg #[.int .i64 3, .int .i64 lit, GV], V] W (RPost (refE f R c D L vs ++ [inE DI V [a]]) W f (stepG L ⟨3, lit, inp⟩ [a])) := by
  have hV : IntsD DI W V _ := O0.ro 3 rfl
  obtain ⟨bI, oI, cI, rfl⟩ := hV.form (Nat.succ_pos _)
  refine sx_enter (args := [.pointer (some ⟨f, 0, none⟩), .agg #[.int .i64 3, .int .i64 lit, GV], .slice (some ⟨bI, oI, none⟩) 1 cI]) Tryd.func41 rfl rfl (by simp) ?_
  refine cw_seq (fun FK1 K1 => ?_)
  refine cw_region ?_
  obtain ⟨g2, w3, r4, O5, hg6, hs7⟩ := own_box O0 38 (.agg #[.int .i64 3, .int .i64 lit, GV]) rfl
  refine wl_val (v := .pointer (some ⟨g2, 0, none⟩)) (fun ρ e => r4 ρ _ _ _ _ _ _ (e _ _ rfl)) rfl rfl ?_
  refine wl_val (v := .int .i64 0) (fun ρ e => ex_assign (e _ _ rfl)) rfl rfl ?_
  refine wl_nil ?_
  refine xw_next K1 ?_
  refine cw_seq (fun FK8 K8 => ?_)
  refine cw_seq (fun FK9 K9 => ?_)
  refine cw_region ?_
  refine wl_val (v := .pointer (some ⟨g2, 0, none⟩)) (fun ρ e => ex_field (q := 0) fi38_0 (e _ _ rfl) rfl) rfl rfl ?_
  refine wl_val (v := .int .i64 3) (fun ρ e => ex_load1 ty3 (e _ _ rfl) (O5.cell 0 0 rfl rfl)) rfl rfl ?_
  refine wl_nil ?_
  refine xw_next K9 ?_
  refine cw_block ?_
  refine cw_seq (fun FK10 K10 => ?_)
  refine cw_region ?_
  refine wl_val (v := .bool true) (fun ρ e => ex_cmp (u := 3) (v := 3) (e _ _ rfl) (e _ _ rfl) (eql1 (by omega))) rfl rfl ?_
  refine wl_val (v := .bool true) (fun ρ e => ex_assign (e _ _ rfl)) rfl rfl ?_
  refine wl_nil ?_
  refine xw_next K10 ?_
  refine cw_true rfl ?_
  refine cw_seq (fun FK11 K11 => ?_)
  refine cw_region ?_
  refine wl_val (v := .pointer (some ⟨f, 0, none⟩)) (fun ρ e => ex_move (e _ _ rfl)) rfl rfl ?_
  refine wl_val (v := .slice (some ⟨bI, oI, none⟩) 1 cI) (fun ρ e => ex_move (e _ _ rfl)) rfl rfl ?_
  refine wl_val (v := .pointer (some ⟨bI, oI + 0, none⟩)) (fun ρ e => ex_idx (q := oI + 0) (o := oI) (i := 0) el36 (e _ _ rfl) (e _ _ rfl) (by decide) (by omega)) rfl rfl ?_
  refine wl_val (v := .int .i64 a) (fun ρ e => ex_load1 ty3 (e _ _ rfl) (IntsD.cellq (O5.ro 4 rfl : IntsD DI _ (.slice (some ⟨bI, oI, none⟩) 1 cI) [a]) (k := 0) rfl)) rfl rfl ?_
  refine wl_call (args := [.pointer (some ⟨f, 0, none⟩), .int .i64 a]) in_67 rfl rfl rfl ?_
  refine (RPost.use (A := refE f R c D L vs) (rest := [.blk g2 38 #[.int .i64 3, .int .i64 lit, GV], .ro DI (fun w => IntsD DI w (.slice (some ⟨bI, oI, none⟩) 1 cI) [a])]) (O5.re [1, 2, 3, 0, 4] rfl : Own (zone (refE f R c D L vs ++ [inE DI (.slice (some ⟨bI, oI, none⟩) 1 cI) [a]])) W w3 [.blk f 63 #[.slice R L.length c], .row (.slice R L.length c) 38 3 L.length (gcells L vs), .ro D (Ins D L vs), .blk g2 38 #[.int .i64 3, .int .i64 lit, GV], .ro DI (fun w => IntsD DI w (.slice (some ⟨bI, oI, none⟩) 1 cI) [a])]) (rnot_ (Own.hand (A := refE f R c D L vs) (R := [.blk g2 38 #[.int .i64 3, .int .i64 lit, GV], .ro DI (fun w => IntsD DI w (.slice (some ⟨bI, oI, none⟩) 1 cI) [a])]) (O5.re [1, 2, 3, 0, 4] rfl : Own (zone (refE f R c D L vs ++ [inE DI (.slice (some ⟨bI, oI, none⟩) 1 cI) [a]])) W w3 [.blk f 63 #[.slice R L.length c], .row (.slice R L.length c) 38 3 L.length (gcells L vs), .ro D (Ins D L vs), .blk g2 38 #[.int .i64 3, .int .i64 lit, GV], .ro DI (fun w => IntsD DI w (.slice (some ⟨bI, oI, none⟩) 1 cI) [a])])) ha ok okl hL)).mono ?_
  rintro _ w12 ⟨R13, c14, D15, vs16, rfl, O17⟩
  refine ⟨_, rfl, ?_⟩
  refine wl_val (v := .int .i64 ((notG L a).2)) (fun ρ e => ex_assign (e _ _ rfl)) rfl rfl ?_
  refine wl_nil ?_
  refine xw_next K11 ?_
  refine cw_ret ?_
  refine xw_blockret ?_
  refine xw_past (by intro h; cases h) ?_
  refine xw_ret (v := .int .i64 ((notG L a).2)) (fun T hT => res1 rfl T _ (hT 6 _ rfl)) ?_
  exact RPost.eq ⟨_, _, _, _, rfl, (O17.re [0, 1, 2] rfl : Own (zone (refE f R c D L vs ++ [inE DI (.slice (some ⟨bI, oI, none⟩) 1 cI) [a]])) W w12 [.blk f 63 #[.slice R13 (((notG L a).1).length) c14], .row (.slice R13 (((notG L a).1).length) c14) 38 3 (((notG L a).1).length) (gcells ((notG L a).1) vs16), .ro D15 (Ins D15 ((notG L a).1) vs16)])⟩ (by simp [stepG])
theorem rgate4 {inp : List Int} (O0 : Own (zone (refE f R c D L vs ++ [inE DI V ins])) W W (refE f R c D L vs ++ [inE DI V ins])) (hw : wfL N B L) (hd : ND L) (hin : ∀ x ∈ ins, 0 ≤ x ∧ x < (L.length : Int)) (hil : ins.length ≤ 1000000) (ok : shortL L) (hL : L.length ≤ 1000000) :
    Calls Tryd.prog 41 #[.pointer (some ⟨f, 0, none⟩), .agg #[.int .i64 4, .int .i64 lit, GV], V] W (RPost (refE f R c D L vs ++ [inE DI V ins]) W f (stepG L ⟨4, lit, inp⟩ ins)) := by
  refine sx_enter (args := [.pointer (some ⟨f, 0, none⟩), .agg #[.int .i64 4, .int .i64 lit, GV], V]) Tryd.func41 rfl rfl (by simp) ?_
  refine cw_seq (fun FK1 K1 => ?_)
  refine cw_region ?_
  obtain ⟨g2, w3, r4, O5, hg6, hs7⟩ := own_box O0 38 (.agg #[.int .i64 4, .int .i64 lit, GV]) rfl
  refine wl_val (v := .pointer (some ⟨g2, 0, none⟩)) (fun ρ e => r4 ρ _ _ _ _ _ _ (e _ _ rfl)) rfl rfl ?_
  refine wl_val (v := .int .i64 0) (fun ρ e => ex_assign (e _ _ rfl)) rfl rfl ?_
  refine wl_nil ?_
  refine xw_next K1 ?_
  refine cw_seq (fun FK8 K8 => ?_)
  refine cw_seq (fun FK9 K9 => ?_)
  refine cw_region ?_
  refine wl_val (v := .pointer (some ⟨g2, 0, none⟩)) (fun ρ e => ex_field (q := 0) fi38_0 (e _ _ rfl) rfl) rfl rfl ?_
  refine wl_val (v := .int .i64 4) (fun ρ e => ex_load1 ty3 (e _ _ rfl) (O5.cell 0 0 rfl rfl)) rfl rfl ?_
  refine wl_nil ?_
  refine xw_next K9 ?_
  refine cw_block ?_
  refine cw_seq (fun FK10 K10 => ?_)
  refine cw_region ?_
  refine wl_val (v := .bool false) (fun ρ e => ex_cmp (u := 4) (v := 3) (e _ _ rfl) (e _ _ rfl) (eql0 (by omega))) rfl rfl ?_
  refine wl_val (v := .bool false) (fun ρ e => ex_assign (e _ _ rfl)) rfl rfl ?_
  refine wl_nil ?_
  refine xw_next K10 ?_
  refine cw_false rfl ?_
  refine cw_seq (fun FK11 K11 => ?_)
  refine cw_seq (fun FK12 K12 => ?_)
  refine cw_region ?_
  refine wl_val (v := .bool true) (fun ρ e => ex_cmp (u := 4) (v := 4) (e _ _ rfl) (e _ _ rfl) (eql1 (by omega))) rfl rfl ?_
  refine wl_val (v := .bool true) (fun ρ e => ex_assign (e _ _ rfl)) rfl rfl ?_
  refine wl_nil ?_
  refine xw_next K12 ?_
  refine cw_true rfl ?_
  refine cw_skip ?_
  refine xw_next K11 ?_
  refine cw_true rfl ?_
  refine cw_seq (fun FK13 K13 => ?_)
  refine cw_region ?_
  refine wl_val (v := .pointer (some ⟨f, 0, none⟩)) (fun ρ e => ex_move (e _ _ rfl)) rfl rfl ?_
  refine wl_val (v := .pointer (some ⟨g2, 0, none⟩)) (fun ρ e => ex_field (q := 0) fi38_0 (e _ _ rfl) rfl) rfl rfl ?_
  refine wl_val (v := .int .i64 4) (fun ρ e => ex_load1 ty3 (e _ _ rfl) (O5.cell 0 0 rfl rfl)) rfl rfl ?_
  refine wl_val (v := V) (fun ρ e => ex_move (e _ _ rfl)) rfl rfl ?_
  refine wl_call (args := [.pointer (some ⟨f, 0, none⟩), .int .i64 4, V]) in_68 rfl rfl rfl ?_
  refine (RPost.use (A := (refE f R c D L vs ++ [inE DI (V) ins])) (rest := [.blk g2 38 #[.int .i64 4, .int .i64 lit, GV]]) (O5.re [1, 2, 3, 4, 0] rfl : Own (zone (refE f R c D L vs ++ [inE DI (V) ins])) W w3 [.blk f 63 #[.slice R L.length c], .row (.slice R L.length c) 38 3 L.length (gcells L vs), .ro D (Ins D L vs), .ro DI (fun w => IntsD DI w (V) ins), .blk g2 38 #[.int .i64 4, .int .i64 lit, GV]]) (rmany4 (Own.hand (A := (refE f R c D L vs ++ [inE DI (V) ins])) (R := [.blk g2 38 #[.int .i64 4, .int .i64 lit, GV]]) (O5.re [1, 2, 3, 4, 0] rfl : Own (zone (refE f R c D L vs ++ [inE DI (V) ins])) W w3 [.blk f 63 #[.slice R L.length c], .row (.slice R L.length c) 38 3 L.length (gcells L vs), .ro D (Ins D L vs), .ro DI (fun w => IntsD DI w (V) ins), .blk g2 38 #[.int .i64 4, .int .i64 lit, GV]])) hw hd hin hil ok hL)).mono ?_
  rintro _ w14 ⟨R15, c16, D17, vs18, rfl, O19⟩
  refine ⟨_, rfl, ?_⟩
  refine wl_val (v := .int .i64 ((manyG L 4 ins).2)) (fun ρ e => ex_assign (e _ _ rfl)) rfl rfl ?_
  refine wl_nil ?_
  refine xw_next K13 ?_
  refine cw_ret ?_
  refine xw_blockret ?_
  refine xw_past (by intro h; cases h) ?_
  refine xw_ret (v := .int .i64 ((manyG L 4 ins).2)) (fun T hT => res1 rfl T _ (hT 6 _ rfl)) ?_
  exact RPost.eq ⟨_, _, _, _, rfl, (O19.re [0, 1, 2] rfl : Own (zone (refE f R c D L vs ++ [inE DI (V) ins])) W w14 [.blk f 63 #[.slice R15 (((manyG L 4 ins).1).length) c16], .row (.slice R15 (((manyG L 4 ins).1).length) c16) 38 3 (((manyG L 4 ins).1).length) (gcells ((manyG L 4 ins).1) vs18), .ro D17 (Ins D17 ((manyG L 4 ins).1) vs18)])⟩ (by simp [stepG])
theorem rgate5 {inp : List Int} (O0 : Own (zone (refE f R c D L vs ++ [inE DI V ins])) W W (refE f R c D L vs ++ [inE DI V ins])) (hw : wfL N B L) (hd : ND L) (hin : ∀ x ∈ ins, 0 ≤ x ∧ x < (L.length : Int)) (hil : ins.length ≤ 1000000) (ok : shortL L) (hL : L.length ≤ 1000000) :
    Calls Tryd.prog 41 #[.pointer (some ⟨f, 0, none⟩), .agg #[.int .i64 5, .int .i64 lit, GV], V] W (RPost (refE f R c D L vs ++ [inE DI V ins]) W f (stepG L ⟨5, lit, inp⟩ ins)) := by
  refine sx_enter (args := [.pointer (some ⟨f, 0, none⟩), .agg #[.int .i64 5, .int .i64 lit, GV], V]) Tryd.func41 rfl rfl (by simp) ?_
  refine cw_seq (fun FK1 K1 => ?_)
  refine cw_region ?_
  obtain ⟨g2, w3, r4, O5, hg6, hs7⟩ := own_box O0 38 (.agg #[.int .i64 5, .int .i64 lit, GV]) rfl
  refine wl_val (v := .pointer (some ⟨g2, 0, none⟩)) (fun ρ e => r4 ρ _ _ _ _ _ _ (e _ _ rfl)) rfl rfl ?_
  refine wl_val (v := .int .i64 0) (fun ρ e => ex_assign (e _ _ rfl)) rfl rfl ?_
  refine wl_nil ?_
  refine xw_next K1 ?_
  refine cw_seq (fun FK8 K8 => ?_)
  refine cw_seq (fun FK9 K9 => ?_)
  refine cw_region ?_
  refine wl_val (v := .pointer (some ⟨g2, 0, none⟩)) (fun ρ e => ex_field (q := 0) fi38_0 (e _ _ rfl) rfl) rfl rfl ?_
  refine wl_val (v := .int .i64 5) (fun ρ e => ex_load1 ty3 (e _ _ rfl) (O5.cell 0 0 rfl rfl)) rfl rfl ?_
  refine wl_nil ?_
  refine xw_next K9 ?_
  refine cw_block ?_
  refine cw_seq (fun FK10 K10 => ?_)
  refine cw_region ?_
  refine wl_val (v := .bool false) (fun ρ e => ex_cmp (u := 5) (v := 3) (e _ _ rfl) (e _ _ rfl) (eql0 (by omega))) rfl rfl ?_
  refine wl_val (v := .bool false) (fun ρ e => ex_assign (e _ _ rfl)) rfl rfl ?_
  refine wl_nil ?_
  refine xw_next K10 ?_
  refine cw_false rfl ?_
  refine cw_seq (fun FK11 K11 => ?_)
  refine cw_seq (fun FK12 K12 => ?_)
  refine cw_region ?_
  refine wl_val (v := .bool false) (fun ρ e => ex_cmp (u := 5) (v := 4) (e _ _ rfl) (e _ _ rfl) (eql0 (by omega))) rfl rfl ?_
  refine wl_val (v := .bool false) (fun ρ e => ex_assign (e _ _ rfl)) rfl rfl ?_
  refine wl_nil ?_
  refine xw_next K12 ?_
  refine cw_false rfl ?_
  refine cw_region ?_
  refine wl_val (v := .bool true) (fun ρ e => ex_cmp (u := 5) (v := 5) (e _ _ rfl) (e _ _ rfl) (eql1 (by omega))) rfl rfl ?_
  refine wl_val (v := .bool true) (fun ρ e => ex_assign (e _ _ rfl)) rfl rfl ?_
  refine wl_nil ?_
  refine xw_next K11 ?_
  refine cw_true rfl ?_
  refine cw_seq (fun FK13 K13 => ?_)
  refine cw_region ?_
  refine wl_val (v := .pointer (some ⟨f, 0, none⟩)) (fun ρ e => ex_move (e _ _ rfl)) rfl rfl ?_
  refine wl_val (v := .pointer (some ⟨g2, 0, none⟩)) (fun ρ e => ex_field (q := 0) fi38_0 (e _ _ rfl) rfl) rfl rfl ?_
  refine wl_val (v := .int .i64 5) (fun ρ e => ex_load1 ty3 (e _ _ rfl) (O5.cell 0 0 rfl rfl)) rfl rfl ?_
  refine wl_val (v := V) (fun ρ e => ex_move (e _ _ rfl)) rfl rfl ?_
  refine wl_call (args := [.pointer (some ⟨f, 0, none⟩), .int .i64 5, V]) in_68 rfl rfl rfl ?_
  refine (RPost.use (A := (refE f R c D L vs ++ [inE DI (V) ins])) (rest := [.blk g2 38 #[.int .i64 5, .int .i64 lit, GV]]) (O5.re [1, 2, 3, 4, 0] rfl : Own (zone (refE f R c D L vs ++ [inE DI (V) ins])) W w3 [.blk f 63 #[.slice R L.length c], .row (.slice R L.length c) 38 3 L.length (gcells L vs), .ro D (Ins D L vs), .ro DI (fun w => IntsD DI w (V) ins), .blk g2 38 #[.int .i64 5, .int .i64 lit, GV]]) (rmany5 (Own.hand (A := (refE f R c D L vs ++ [inE DI (V) ins])) (R := [.blk g2 38 #[.int .i64 5, .int .i64 lit, GV]]) (O5.re [1, 2, 3, 4, 0] rfl : Own (zone (refE f R c D L vs ++ [inE DI (V) ins])) W w3 [.blk f 63 #[.slice R L.length c], .row (.slice R L.length c) 38 3 L.length (gcells L vs), .ro D (Ins D L vs), .ro DI (fun w => IntsD DI w (V) ins), .blk g2 38 #[.int .i64 5, .int .i64 lit, GV]])) hw hd hin hil ok hL)).mono ?_
  rintro _ w14 ⟨R15, c16, D17, vs18, rfl, O19⟩
  refine ⟨_, rfl, ?_⟩
  refine wl_val (v := .int .i64 ((manyG L 5 ins).2)) (fun ρ e => ex_assign (e _ _ rfl)) rfl rfl ?_
  refine wl_nil ?_
  refine xw_next K13 ?_
  refine cw_ret ?_
  refine xw_blockret ?_
  refine xw_past (by intro h; cases h) ?_
  refine xw_ret (v := .int .i64 ((manyG L 5 ins).2)) (fun T hT => res1 rfl T _ (hT 6 _ rfl)) ?_
  exact RPost.eq ⟨_, _, _, _, rfl, (O19.re [0, 1, 2] rfl : Own (zone (refE f R c D L vs ++ [inE DI (V) ins])) W w14 [.blk f 63 #[.slice R15 (((manyG L 5 ins).1).length) c16], .row (.slice R15 (((manyG L 5 ins).1).length) c16) 38 3 (((manyG L 5 ins).1).length) (gcells ((manyG L 5 ins).1) vs18), .ro D17 (Ins D17 ((manyG L 5 ins).1) vs18)])⟩ (by simp [stepG])
theorem rgate6 {inp : List Int} (O0 : Own (zone (refE f R c D L vs ++ [inE DI V ins])) W W (refE f R c D L vs ++ [inE DI V ins])) (hw : wfL N B L) (hd : ND L) (hin : ∀ x ∈ ins, 0 ≤ x ∧ x < (L.length : Int)) (hil : ins.length ≤ 1000000) (ok : shortL L) (okl : ∀ i (h : i < L.length), -1000000 ≤ L[i].lit ∧ L[i].lit ≤ 1000000) (hL : L.length ≤ 1000000) :
    Calls Tryd.prog 41 #[.pointer (some ⟨f, 0, none⟩), .agg #[.int .i64 6, .int .i64 lit, GV], V] W (RPost (refE f R c D L vs ++ [inE DI V ins]) W f (stepG L ⟨6, lit, inp⟩ ins)) := by
  refine sx_enter (args := [.pointer (some ⟨f, 0, none⟩), .agg #[.int .i64 6, .int .i64 lit, GV], V]) Tryd.func41 rfl rfl (by simp) ?_
  refine cw_seq (fun FK1 K1 => ?_)
  refine cw_region ?_
  obtain ⟨g2, w3, r4, O5, hg6, hs7⟩ := own_box O0 38 (.agg #[.int .i64 6, .int .i64 lit, GV]) rfl
  refine wl_val (v := .pointer (some ⟨g2, 0, none⟩)) (fun ρ e => r4 ρ _ _ _ _ _ _ (e _ _ rfl)) rfl rfl ?_
  refine wl_val (v := .int .i64 0) (fun ρ e => ex_assign (e _ _ rfl)) rfl rfl ?_
  refine wl_nil ?_
  refine xw_next K1 ?_
  refine cw_seq (fun FK8 K8 => ?_)
  refine cw_seq (fun FK9 K9 => ?_)
  refine cw_region ?_
  refine wl_val (v := .pointer (some ⟨g2, 0, none⟩)) (fun ρ e => ex_field (q := 0) fi38_0 (e _ _ rfl) rfl) rfl rfl ?_
  refine wl_val (v := .int .i64 6) (fun ρ e => ex_load1 ty3 (e _ _ rfl) (O5.cell 0 0 rfl rfl)) rfl rfl ?_
  refine wl_nil ?_
  refine xw_next K9 ?_
  refine cw_block ?_
  refine cw_seq (fun FK10 K10 => ?_)
  refine cw_region ?_
  refine wl_val (v := .bool false) (fun ρ e => ex_cmp (u := 6) (v := 3) (e _ _ rfl) (e _ _ rfl) (eql0 (by omega))) rfl rfl ?_
  refine wl_val (v := .bool false) (fun ρ e => ex_assign (e _ _ rfl)) rfl rfl ?_
  refine wl_nil ?_
  refine xw_next K10 ?_
  refine cw_false rfl ?_
  refine cw_seq (fun FK11 K11 => ?_)
  refine cw_seq (fun FK12 K12 => ?_)
  refine cw_region ?_
  refine wl_val (v := .bool false) (fun ρ e => ex_cmp (u := 6) (v := 4) (e _ _ rfl) (e _ _ rfl) (eql0 (by omega))) rfl rfl ?_
  refine wl_val (v := .bool false) (fun ρ e => ex_assign (e _ _ rfl)) rfl rfl ?_
  refine wl_nil ?_
  refine xw_next K12 ?_
  refine cw_false rfl ?_
  refine cw_region ?_
  refine wl_val (v := .bool false) (fun ρ e => ex_cmp (u := 6) (v := 5) (e _ _ rfl) (e _ _ rfl) (eql0 (by omega))) rfl rfl ?_
  refine wl_val (v := .bool false) (fun ρ e => ex_assign (e _ _ rfl)) rfl rfl ?_
  refine wl_nil ?_
  refine xw_next K11 ?_
  refine cw_false rfl ?_
  refine cw_seq (fun FK13 K13 => ?_)
  refine cw_region ?_
  refine wl_val (v := .bool true) (fun ρ e => ex_cmp (u := 6) (v := 6) (e _ _ rfl) (e _ _ rfl) (eql1 (by omega))) rfl rfl ?_
  refine wl_val (v := .bool true) (fun ρ e => ex_assign (e _ _ rfl)) rfl rfl ?_
  refine wl_nil ?_
  refine xw_next K13 ?_
  refine cw_true rfl ?_
  refine cw_seq (fun FK14 K14 => ?_)
  refine cw_region ?_
  refine wl_val (v := .pointer (some ⟨f, 0, none⟩)) (fun ρ e => ex_move (e _ _ rfl)) rfl rfl ?_
  refine wl_val (v := V) (fun ρ e => ex_move (e _ _ rfl)) rfl rfl ?_
  refine wl_call (args := [.pointer (some ⟨f, 0, none⟩), V]) in_69 rfl rfl rfl ?_
  refine (RPost.use (A := (refE f R c D L vs ++ [inE DI (V) ins])) (rest := [.blk g2 38 #[.int .i64 6, .int .i64 lit, GV]]) (O5.re [1, 2, 3, 4, 0] rfl : Own (zone (refE f R c D L vs ++ [inE DI (V) ins])) W w3 [.blk f 63 #[.slice R L.length c], .row (.slice R L.length c) 38 3 L.length (gcells L vs), .ro D (Ins D L vs), .ro DI (fun w => IntsD DI w (V) ins), .blk g2 38 #[.int .i64 6, .int .i64 lit, GV]]) (rxor_ (Own.hand (A := (refE f R c D L vs ++ [inE DI (V) ins])) (R := [.blk g2 38 #[.int .i64 6, .int .i64 lit, GV]]) (O5.re [1, 2, 3, 4, 0] rfl : Own (zone (refE f R c D L vs ++ [inE DI (V) ins])) W w3 [.blk f 63 #[.slice R L.length c], .row (.slice R L.length c) 38 3 L.length (gcells L vs), .ro D (Ins D L vs), .ro DI (fun w => IntsD DI w (V) ins), .blk g2 38 #[.int .i64 6, .int .i64 lit, GV]])) hw hd hin hil ok okl hL)).mono ?_
  rintro _ w15 ⟨R16, c17, D18, vs19, rfl, O20⟩
  refine ⟨_, rfl, ?_⟩
  refine wl_val (v := .int .i64 ((xorG L ins).2)) (fun ρ e => ex_assign (e _ _ rfl)) rfl rfl ?_
  refine wl_nil ?_
  refine xw_next K14 ?_
  refine cw_ret ?_
  refine xw_blockret ?_
  refine xw_past (by intro h; cases h) ?_
  refine xw_ret (v := .int .i64 ((xorG L ins).2)) (fun T hT => res1 rfl T _ (hT 6 _ rfl)) ?_
  exact RPost.eq ⟨_, _, _, _, rfl, (O20.re [0, 1, 2] rfl : Own (zone (refE f R c D L vs ++ [inE DI (V) ins])) W w15 [.blk f 63 #[.slice R16 (((xorG L ins).1).length) c17], .row (.slice R16 (((xorG L ins).1).length) c17) 38 3 (((xorG L ins).1).length) (gcells ((xorG L ins).1) vs19), .ro D18 (Ins D18 ((xorG L ins).1) vs19)])⟩ (by simp [stepG])
theorem rgate7 {a b : Int} {inp : List Int} (O0 : Own (zone (refE f R c D L vs ++ [inE DI V [a, b]])) W W (refE f R c D L vs ++ [inE DI V [a, b]])) (ha : 0 ≤ a ∧ a < (L.length : Int)) (hb : 0 ≤ b ∧ b < (L.length : Int)) (ok : shortL L) (okl : ∀ i (h : i < L.length), -1000000 ≤ L[i].lit ∧ L[i].lit ≤ 1000000) (hL : L.length ≤ 1000000) :
    Calls Tryd.prog 41 #[.pointer (some ⟨f, 0, none⟩), .agg #[.int .i64 7, .int .i64 lit, GV], V] W (RPost (refE f R c D L vs ++ [inE DI V [a, b]]) W f (stepG L ⟨7, lit, inp⟩ [a, b])) := by
  have hV : IntsD DI W V _ := O0.ro 3 rfl
  obtain ⟨bI, oI, cI, rfl⟩ := hV.form (Nat.succ_pos _)
  refine sx_enter (args := [.pointer (some ⟨f, 0, none⟩), .agg #[.int .i64 7, .int .i64 lit, GV], .slice (some ⟨bI, oI, none⟩) 2 cI]) Tryd.func41 rfl rfl (by simp) ?_
  refine cw_seq (fun FK1 K1 => ?_)
  refine cw_region ?_
  obtain ⟨g2, w3, r4, O5, hg6, hs7⟩ := own_box O0 38 (.agg #[.int .i64 7, .int .i64 lit, GV]) rfl
  refine wl_val (v := .pointer (some ⟨g2, 0, none⟩)) (fun ρ e => r4 ρ _ _ _ _ _ _ (e _ _ rfl)) rfl rfl ?_
  refine wl_val (v := .int .i64 0) (fun ρ e => ex_assign (e _ _ rfl)) rfl rfl ?_
  refine wl_nil ?_
  refine xw_next K1 ?_
  refine cw_seq (fun FK8 K8 => ?_)
  refine cw_seq (fun FK9 K9 => ?_)
  refine cw_region ?_
  refine wl_val (v := .pointer (some ⟨g2, 0, none⟩)) (fun ρ e => ex_field (q := 0) fi38_0 (e _ _ rfl) rfl) rfl rfl ?_
  refine wl_val (v := .int .i64 7) (fun ρ e => ex_load1 ty3 (e _ _ rfl) (O5.cell 0 0 rfl rfl)) rfl rfl ?_
  refine wl_nil ?_
  refine xw_next K9 ?_
  refine cw_block ?_
  refine cw_seq (fun FK10 K10 => ?_)
  refine cw_region ?_
  refine wl_val (v := .bool false) (fun ρ e => ex_cmp (u := 7) (v := 3) (e _ _ rfl) (e _ _ rfl) (eql0 (by omega))) rfl rfl ?_
  refine wl_val (v := .bool false) (fun ρ e => ex_assign (e _ _ rfl)) rfl rfl ?_
  refine wl_nil ?_
  refine xw_next K10 ?_
  refine cw_false rfl ?_
  refine cw_seq (fun FK11 K11 => ?_)
  refine cw_seq (fun FK12 K12 => ?_)
  refine cw_region ?_
  refine wl_val (v := .bool false) (fun ρ e => ex_cmp (u := 7) (v := 4) (e _ _ rfl) (e _ _ rfl) (eql0 (by omega))) rfl rfl ?_
  refine wl_val (v := .bool false) (fun ρ e => ex_assign (e _ _ rfl)) rfl rfl ?_
  refine wl_nil ?_
  refine xw_next K12 ?_
  refine cw_false rfl ?_
  refine cw_region ?_
  refine wl_val (v := .bool false) (fun ρ e => ex_cmp (u := 7) (v := 5) (e _ _ rfl) (e _ _ rfl) (eql0 (by omega))) rfl rfl ?_
  refine wl_val (v := .bool false) (fun ρ e => ex_assign (e _ _ rfl)) rfl rfl ?_
  refine wl_nil ?_
  refine xw_next K11 ?_
  refine cw_false rfl ?_
  refine cw_seq (fun FK13 K13 => ?_)
  refine cw_region ?_
  refine wl_val (v := .bool false) (fun ρ e => ex_cmp (u := 7) (v := 6) (e _ _ rfl) (e _ _ rfl) (eql0 (by omega))) rfl rfl ?_
  refine wl_val (v := .bool false) (fun ρ e => ex_assign (e _ _ rfl)) rfl rfl ?_
  refine wl_nil ?_
  refine xw_next K13 ?_
  refine cw_false rfl ?_
  refine cw_seq (fun FK14 K14 => ?_)
  refine cw_region ?_
  refine wl_val (v := .bool true) (fun ρ e => ex_cmp (u := 7) (v := 7) (e _ _ rfl) (e _ _ rfl) (eql1 (by omega))) rfl rfl ?_
  refine wl_val (v := .bool true) (fun ρ e => ex_assign (e _ _ rfl)) rfl rfl ?_
  refine wl_nil ?_
  refine xw_next K14 ?_
  refine cw_true rfl ?_
  refine cw_seq (fun FK15 K15 => ?_)
  refine cw_drawn (fun X => Own (zone (refE f R c D L vs ++ [inE DI (.slice (some ⟨bI, oI, none⟩) 2 cI) [a, b]])) W X [.ro DI (fun w => IntsD DI w (.slice (some ⟨bI, oI, none⟩) 2 cI) [a, b])]) 8 [(0, 1), (1, 1), (2, 1), (3, 0), (4, 1), (5, 1), (6, 0), (7, 2), (8, 3)] (by kernel_rfl) (by kernel_rfl) (PQ.then_ (PQ.block (PQ.then_ PQ.body))) ((O5.re [4] rfl : Own (zone (refE f R c D L vs ++ [inE DI (.slice (some ⟨bI, oI, none⟩) 2 cI) [a, b]])) W w3 [.ro DI (fun w => IntsD DI w (.slice (some ⟨bI, oI, none⟩) 2 cI) [a, b])])).drew ?_
  have O16 : Own (zone (refE f R c D L vs ++ [inE DI (.slice (some ⟨bI, oI, none⟩) 2 cI) [a, b]])) W w3.drew [.blk g2 38 #[.int .i64 7, .int .i64 lit, GV], .blk f 63 #[.slice R L.length c], .row (.slice R L.length c) 38 3 L.length (gcells L vs), .ro D (Ins D L vs), .ro DI (fun w => IntsD DI w (.slice (some ⟨bI, oI, none⟩) 2 cI) [a, b])] := O5.drew
  refine wt1 (v := .pointer (some ⟨f, 0, none⟩)) rfl (fun ρ e W => ex_move (e _ _ rfl)) rfl rfl ?_
  refine wt1 (v := .slice (some ⟨bI, oI, none⟩) 2 cI) rfl (fun ρ e W => ex_move (e _ _ rfl)) rfl rfl ?_
  refine wt1 (v := .pointer (some ⟨bI, oI + 0, none⟩)) rfl (fun ρ e W => ex_idx (q := oI + 0) (o := oI) (i := 0) el36 (e _ _ rfl) (e _ _ rfl) (by decide) (by omega)) rfl rfl ?_
  refine wt0 (v := .int .i64 a) rfl (fun ρ e W hW => ex_load1 ty3 (e _ _ rfl) (IntsD.cellq (hW.ro 0 rfl : IntsD DI _ (.slice (some ⟨bI, oI, none⟩) 2 cI) [a, b]) (k := 0) rfl)) rfl rfl ?_
  refine wt1 (v := .slice (some ⟨bI, oI, none⟩) 2 cI) rfl (fun ρ e W => ex_move (e _ _ rfl)) rfl rfl ?_
  refine wt1 (v := .pointer (some ⟨bI, oI + 1, none⟩)) rfl (fun ρ e W => ex_idx (q := oI + 1) (o := oI) (i := 1) el36 (e _ _ rfl) (e _ _ rfl) (by decide) (by omega)) rfl rfl ?_
  refine wt0 (v := .int .i64 b) rfl (fun ρ e W hW => ex_load1 ty3 (e _ _ rfl) (IntsD.cellq (hW.ro 0 rfl : IntsD DI _ (.slice (some ⟨bI, oI, none⟩) 2 cI) [a, b]) (k := 1) rfl)) rfl rfl ?_
  refine wt2_call (args := [.pointer (some ⟨f, 0, none⟩), .int .i64 a, .int .i64 b]) rfl in_70 rfl rfl rfl ?_
  refine (RPost.use (A := refE f R c D L vs) (rest := [.blk g2 38 #[.int .i64 7, .int .i64 lit, GV], .ro DI (fun w => IntsD DI w (.slice (some ⟨bI, oI, none⟩) 2 cI) [a, b])]) (O16.re [1, 2, 3, 0, 4] rfl : Own (zone (refE f R c D L vs ++ [inE DI (.slice (some ⟨bI, oI, none⟩) 2 cI) [a, b]])) W w3.drew [.blk f 63 #[.slice R L.length c], .row (.slice R L.length c) 38 3 L.length (gcells L vs), .ro D (Ins D L vs), .blk g2 38 #[.int .i64 7, .int .i64 lit, GV], .ro DI (fun w => IntsD DI w (.slice (some ⟨bI, oI, none⟩) 2 cI) [a, b])]) (riff_ (Own.hand (A := refE f R c D L vs) (R := [.blk g2 38 #[.int .i64 7, .int .i64 lit, GV], .ro DI (fun w => IntsD DI w (.slice (some ⟨bI, oI, none⟩) 2 cI) [a, b])]) (O16.re [1, 2, 3, 0, 4] rfl : Own (zone (refE f R c D L vs ++ [inE DI (.slice (some ⟨bI, oI, none⟩) 2 cI) [a, b]])) W w3.drew [.blk f 63 #[.slice R L.length c], .row (.slice R L.length c) 38 3 L.length (gcells L vs), .ro D (Ins D L vs), .blk g2 38 #[.int .i64 7, .int .i64 lit, GV], .ro DI (fun w => IntsD DI w (.slice (some ⟨bI, oI, none⟩) 2 cI) [a, b])])) ha hb ok okl hL)).mono ?_
  rintro _ w17 ⟨R18, c19, D20, vs21, rfl, O22⟩
  refine ⟨_, rfl, (O22.re [4] rfl : Own (zone (refE f R c D L vs ++ [inE DI (.slice (some ⟨bI, oI, none⟩) 2 cI) [a, b]])) W w17 [.ro DI (fun w => IntsD DI w (.slice (some ⟨bI, oI, none⟩) 2 cI) [a, b])]), ?_⟩
  refine wt3 (v := .int .i64 ((iffG L a b).2)) rfl (fun ρ e => ex_assign (e _ _ rfl)) rfl rfl ?_
  refine wt_nil ?_
  refine xw_next K15 ?_
  refine cw_ret ?_
  refine xw_blockret ?_
  refine xw_past (by intro h; cases h) ?_
  refine xw_ret (v := .int .i64 ((iffG L a b).2)) (fun T hT => res1 rfl T _ (hT 6 _ rfl)) ?_
  exact RPost.eq ⟨_, _, _, _, rfl, (O22.re [0, 1, 2] rfl : Own (zone (refE f R c D L vs ++ [inE DI (.slice (some ⟨bI, oI, none⟩) 2 cI) [a, b]])) W w17 [.blk f 63 #[.slice R18 (((iffG L a b).1).length) c19], .row (.slice R18 (((iffG L a b).1).length) c19) 38 3 (((iffG L a b).1).length) (gcells ((iffG L a b).1) vs21), .ro D20 (Ins D20 ((iffG L a b).1) vs21)])⟩ (by simp [stepG])
theorem rgate8 {a b d : Int} {inp : List Int} (O0 : Own (zone (refE f R c D L vs ++ [inE DI V [a, b, d]])) W W (refE f R c D L vs ++ [inE DI V [a, b, d]])) (ha : 0 ≤ a ∧ a < (L.length : Int)) (hb : 0 ≤ b ∧ b < (L.length : Int)) (hd' : 0 ≤ d ∧ d < (L.length : Int)) (ok : shortL L) (okl : ∀ i (h : i < L.length), -1000000 ≤ L[i].lit ∧ L[i].lit ≤ 1000000) (hL : L.length ≤ 1000000) :
    Calls Tryd.prog 41 #[.pointer (some ⟨f, 0, none⟩), .agg #[.int .i64 8, .int .i64 lit, GV], V] W (RPost (refE f R c D L vs ++ [inE DI V [a, b, d]]) W f (stepG L ⟨8, lit, inp⟩ [a, b, d])) := by
  have hV : IntsD DI W V _ := O0.ro 3 rfl
  obtain ⟨bI, oI, cI, rfl⟩ := hV.form (Nat.succ_pos _)
  refine sx_enter (args := [.pointer (some ⟨f, 0, none⟩), .agg #[.int .i64 8, .int .i64 lit, GV], .slice (some ⟨bI, oI, none⟩) 3 cI]) Tryd.func41 rfl rfl (by simp) ?_
  refine cw_seq (fun FK1 K1 => ?_)
  refine cw_region ?_
  obtain ⟨g2, w3, r4, O5, hg6, hs7⟩ := own_box O0 38 (.agg #[.int .i64 8, .int .i64 lit, GV]) rfl
  refine wl_val (v := .pointer (some ⟨g2, 0, none⟩)) (fun ρ e => r4 ρ _ _ _ _ _ _ (e _ _ rfl)) rfl rfl ?_
  refine wl_val (v := .int .i64 0) (fun ρ e => ex_assign (e _ _ rfl)) rfl rfl ?_
  refine wl_nil ?_
  refine xw_next K1 ?_
  refine cw_seq (fun FK8 K8 => ?_)
  refine cw_seq (fun FK9 K9 => ?_)
  refine cw_region ?_
  refine wl_val (v := .pointer (some ⟨g2, 0, none⟩)) (fun ρ e => ex_field (q := 0) fi38_0 (e _ _ rfl) rfl) rfl rfl ?_
  refine wl_val (v := .int .i64 8) (fun ρ e => ex_load1 ty3 (e _ _ rfl) (O5.cell 0 0 rfl rfl)) rfl rfl ?_
  refine wl_nil ?_
  refine xw_next K9 ?_
  refine cw_block ?_
  refine cw_seq (fun FK10 K10 => ?_)
  refine cw_region ?_
  refine wl_val (v := .bool false) (fun ρ e => ex_cmp (u := 8) (v := 3) (e _ _ rfl) (e _ _ rfl) (eql0 (by omega))) rfl rfl ?_
  refine wl_val (v := .bool false) (fun ρ e => ex_assign (e _ _ rfl)) rfl rfl ?_
  refine wl_nil ?_
  refine xw_next K10 ?_
  refine cw_false rfl ?_
  refine cw_seq (fun FK11 K11 => ?_)
  refine cw_seq (fun FK12 K12 => ?_)
  refine cw_region ?_
  refine wl_val (v := .bool false) (fun ρ e => ex_cmp (u := 8) (v := 4) (e _ _ rfl) (e _ _ rfl) (eql0 (by omega))) rfl rfl ?_
  refine wl_val (v := .bool false) (fun ρ e => ex_assign (e _ _ rfl)) rfl rfl ?_
  refine wl_nil ?_
  refine xw_next K12 ?_
  refine cw_false rfl ?_
  refine cw_region ?_
  refine wl_val (v := .bool false) (fun ρ e => ex_cmp (u := 8) (v := 5) (e _ _ rfl) (e _ _ rfl) (eql0 (by omega))) rfl rfl ?_
  refine wl_val (v := .bool false) (fun ρ e => ex_assign (e _ _ rfl)) rfl rfl ?_
  refine wl_nil ?_
  refine xw_next K11 ?_
  refine cw_false rfl ?_
  refine cw_seq (fun FK13 K13 => ?_)
  refine cw_region ?_
  refine wl_val (v := .bool false) (fun ρ e => ex_cmp (u := 8) (v := 6) (e _ _ rfl) (e _ _ rfl) (eql0 (by omega))) rfl rfl ?_
  refine wl_val (v := .bool false) (fun ρ e => ex_assign (e _ _ rfl)) rfl rfl ?_
  refine wl_nil ?_
  refine xw_next K13 ?_
  refine cw_false rfl ?_
  refine cw_seq (fun FK14 K14 => ?_)
  refine cw_region ?_
  refine wl_val (v := .bool false) (fun ρ e => ex_cmp (u := 8) (v := 7) (e _ _ rfl) (e _ _ rfl) (eql0 (by omega))) rfl rfl ?_
  refine wl_val (v := .bool false) (fun ρ e => ex_assign (e _ _ rfl)) rfl rfl ?_
  refine wl_nil ?_
  refine xw_next K14 ?_
  refine cw_false rfl ?_
  refine cw_seq (fun FK15 K15 => ?_)
  refine cw_region ?_
  refine wl_val (v := .bool true) (fun ρ e => ex_cmp (u := 8) (v := 8) (e _ _ rfl) (e _ _ rfl) (eql1 (by omega))) rfl rfl ?_
  refine wl_val (v := .bool true) (fun ρ e => ex_assign (e _ _ rfl)) rfl rfl ?_
  refine wl_nil ?_
  refine xw_next K15 ?_
  refine cw_true rfl ?_
  refine cw_seq (fun FK16 K16 => ?_)
  refine cw_drawn (fun X => Own (zone (refE f R c D L vs ++ [inE DI (.slice (some ⟨bI, oI, none⟩) 3 cI) [a, b, d]])) W X [.ro DI (fun w => IntsD DI w (.slice (some ⟨bI, oI, none⟩) 3 cI) [a, b, d])]) 11 [(0, 1), (1, 1), (2, 1), (3, 0), (4, 1), (5, 1), (6, 0), (7, 1), (8, 1), (9, 0), (10, 2), (11, 3)] (by kernel_rfl) (by kernel_rfl) (PQ.then_ (PQ.block (PQ.then_ PQ.body))) ((O5.re [4] rfl : Own (zone (refE f R c D L vs ++ [inE DI (.slice (some ⟨bI, oI, none⟩) 3 cI) [a, b, d]])) W w3 [.ro DI (fun w => IntsD DI w (.slice (some ⟨bI, oI, none⟩) 3 cI) [a, b, d])])).drew ?_
  have O17 : Own (zone (refE f R c D L vs ++ [inE DI (.slice (some ⟨bI, oI, none⟩) 3 cI) [a, b, d]])) W w3.drew [.blk g2 38 #[.int .i64 8, .int .i64 lit, GV], .blk f 63 #[.slice R L.length c], .row (.slice R L.length c) 38 3 L.length (gcells L vs), .ro D (Ins D L vs), .ro DI (fun w => IntsD DI w (.slice (some ⟨bI, oI, none⟩) 3 cI) [a, b, d])] := O5.drew
  refine wt1 (v := .pointer (some ⟨f, 0, none⟩)) rfl (fun ρ e W => ex_move (e _ _ rfl)) rfl rfl ?_
  refine wt1 (v := .slice (some ⟨bI, oI, none⟩) 3 cI) rfl (fun ρ e W => ex_move (e _ _ rfl)) rfl rfl ?_
  refine wt1 (v := .pointer (some ⟨bI, oI + 0, none⟩)) rfl (fun ρ e W => ex_idx (q := oI + 0) (o := oI) (i := 0) el36 (e _ _ rfl) (e _ _ rfl) (by decide) (by omega)) rfl rfl ?_
  refine wt0 (v := .int .i64 a) rfl (fun ρ e W hW => ex_load1 ty3 (e _ _ rfl) (IntsD.cellq (hW.ro 0 rfl : IntsD DI _ (.slice (some ⟨bI, oI, none⟩) 3 cI) [a, b, d]) (k := 0) rfl)) rfl rfl ?_
  refine wt1 (v := .slice (some ⟨bI, oI, none⟩) 3 cI) rfl (fun ρ e W => ex_move (e _ _ rfl)) rfl rfl ?_
  refine wt1 (v := .pointer (some ⟨bI, oI + 1, none⟩)) rfl (fun ρ e W => ex_idx (q := oI + 1) (o := oI) (i := 1) el36 (e _ _ rfl) (e _ _ rfl) (by decide) (by omega)) rfl rfl ?_
  refine wt0 (v := .int .i64 b) rfl (fun ρ e W hW => ex_load1 ty3 (e _ _ rfl) (IntsD.cellq (hW.ro 0 rfl : IntsD DI _ (.slice (some ⟨bI, oI, none⟩) 3 cI) [a, b, d]) (k := 1) rfl)) rfl rfl ?_
  refine wt1 (v := .slice (some ⟨bI, oI, none⟩) 3 cI) rfl (fun ρ e W => ex_move (e _ _ rfl)) rfl rfl ?_
  refine wt1 (v := .pointer (some ⟨bI, oI + 2, none⟩)) rfl (fun ρ e W => ex_idx (q := oI + 2) (o := oI) (i := 2) el36 (e _ _ rfl) (e _ _ rfl) (by decide) (by omega)) rfl rfl ?_
  refine wt0 (v := .int .i64 d) rfl (fun ρ e W hW => ex_load1 ty3 (e _ _ rfl) (IntsD.cellq (hW.ro 0 rfl : IntsD DI _ (.slice (some ⟨bI, oI, none⟩) 3 cI) [a, b, d]) (k := 2) rfl)) rfl rfl ?_
  refine wt2_call (args := [.pointer (some ⟨f, 0, none⟩), .int .i64 a, .int .i64 b, .int .i64 d]) rfl in_71 rfl rfl rfl ?_
  refine (RPost.use (A := refE f R c D L vs) (rest := [.blk g2 38 #[.int .i64 8, .int .i64 lit, GV], .ro DI (fun w => IntsD DI w (.slice (some ⟨bI, oI, none⟩) 3 cI) [a, b, d])]) (O17.re [1, 2, 3, 0, 4] rfl : Own (zone (refE f R c D L vs ++ [inE DI (.slice (some ⟨bI, oI, none⟩) 3 cI) [a, b, d]])) W w3.drew [.blk f 63 #[.slice R L.length c], .row (.slice R L.length c) 38 3 L.length (gcells L vs), .ro D (Ins D L vs), .blk g2 38 #[.int .i64 8, .int .i64 lit, GV], .ro DI (fun w => IntsD DI w (.slice (some ⟨bI, oI, none⟩) 3 cI) [a, b, d])]) (rchoose_ (Own.hand (A := refE f R c D L vs) (R := [.blk g2 38 #[.int .i64 8, .int .i64 lit, GV], .ro DI (fun w => IntsD DI w (.slice (some ⟨bI, oI, none⟩) 3 cI) [a, b, d])]) (O17.re [1, 2, 3, 0, 4] rfl : Own (zone (refE f R c D L vs ++ [inE DI (.slice (some ⟨bI, oI, none⟩) 3 cI) [a, b, d]])) W w3.drew [.blk f 63 #[.slice R L.length c], .row (.slice R L.length c) 38 3 L.length (gcells L vs), .ro D (Ins D L vs), .blk g2 38 #[.int .i64 8, .int .i64 lit, GV], .ro DI (fun w => IntsD DI w (.slice (some ⟨bI, oI, none⟩) 3 cI) [a, b, d])])) ha hb hd' ok okl hL)).mono ?_
  rintro _ w18 ⟨R19, c20, D21, vs22, rfl, O23⟩
  refine ⟨_, rfl, (O23.re [4] rfl : Own (zone (refE f R c D L vs ++ [inE DI (.slice (some ⟨bI, oI, none⟩) 3 cI) [a, b, d]])) W w18 [.ro DI (fun w => IntsD DI w (.slice (some ⟨bI, oI, none⟩) 3 cI) [a, b, d])]), ?_⟩
  refine wt3 (v := .int .i64 ((chooseG L a b d).2)) rfl (fun ρ e => ex_assign (e _ _ rfl)) rfl rfl ?_
  refine wt_nil ?_
  refine xw_next K16 ?_
  refine cw_ret ?_
  refine xw_blockret ?_
  refine xw_past (by intro h; cases h) ?_
  refine xw_ret (v := .int .i64 ((chooseG L a b d).2)) (fun T hT => res1 rfl T _ (hT 6 _ rfl)) ?_
  exact RPost.eq ⟨_, _, _, _, rfl, (O23.re [0, 1, 2] rfl : Own (zone (refE f R c D L vs ++ [inE DI (.slice (some ⟨bI, oI, none⟩) 3 cI) [a, b, d]])) W w18 [.blk f 63 #[.slice R19 (((chooseG L a b d).1).length) c20], .row (.slice R19 (((chooseG L a b d).1).length) c20) 38 3 (((chooseG L a b d).1).length) (gcells ((chooseG L a b d).1) vs22), .ro D21 (Ins D21 ((chooseG L a b d).1) vs22)])⟩ (by simp [stepG])
theorem short_of {N : Int} {B : Nat} {L : List Gate} (hw : wfL N B L) (hB : B ≤ 1000000) : shortL L := by
  refine ⟨fun i h => ?_, fun i h hk => ?_⟩
  · have := (hw i _ (List.getElem?_eq_getElem h)).2; omega
  · obtain ⟨p1, _, _⟩ := good_parts (hw i _ (List.getElem?_eq_getElem h)).1
    rw [hk] at p1
    have := allowed3 p1; omega
theorem lits_of {N : Int} {B : Nat} {L : List Gate} (hw : wfL N B L) : ∀ i (h : i < L.length), -1000000 ≤ L[i].lit ∧ L[i].lit ≤ 1000000 := by
  intro i h
  obtain ⟨_, p2, _⟩ := good_parts (hw i _ (List.getElem?_eq_getElem h)).1
  have := lit_small p2
  unfold smallI at this; omega
theorem rgate_ {i : Int} {g : Gate} (O0 : Own (zone (refE f R c D L vs ++ [inE DI V ins])) W W (refE f R c D L vs ++ [inE DI V ins])) (hw : wfL N B L) (hd : ND L) (hg : goodGate N i g = true) (hn : ins.length = g.inp.length) (hi : ∀ x ∈ ins, inR L x) (hb : ins.length + 1 ≤ B) (hB : B ≤ 900000) (hL : L.length ≤ 1000000) :
    Calls Tryd.prog 41 #[.pointer (some ⟨f, 0, none⟩), .agg #[.int .i64 g.kind, .int .i64 g.lit, GV], V] W (RPost (refE f R c D L vs ++ [inE DI V ins]) W f (stepG L g ins)) := by
  obtain ⟨p1, p2, _⟩ := good_parts hg
  have hk := allowed_kind p1
  have ok := short_of hw (by omega)
  have okl := lits_of hw
  rw [← hn] at p1
  obtain ⟨kind, lit, inp⟩ := g
  simp only at hk p1 hn ⊢
  have h9 : kind = 0 ∨ kind = 1 ∨ kind = 2 ∨ kind = 3 ∨ kind = 4 ∨ kind = 5 ∨ kind = 6 ∨ kind = 7 ∨ kind = 8 := by omega
  rcases h9 with rfl | rfl | rfl | rfl | rfl | rfl | rfl | rfl | rfl
  · exact rgate0 O0 ok hL
  · exact rgate1 O0 ok hL
  · exact rgate2 O0 ok hL
  · have := allowed3 p1
    match ins, (show ins.length = 1 by omega), O0, hi with
    | [a], _, O0, hi => exact rgate3 O0 (hi a (by simp)) ok okl hL
  · exact rgate4 O0 hw hd hi (by omega) ok hL
  · exact rgate5 O0 hw hd hi (by omega) ok hL
  · exact rgate6 O0 hw hd hi (by omega) ok okl hL
  · have := allowed7 p1
    match ins, (show ins.length = 2 by omega), O0, hi with
    | [a, b], _, O0, hi => exact rgate7 O0 (hi a (by simp)) (hi b (by simp)) ok okl hL
  · have := allowed8 p1
    match ins, (show ins.length = 3 by omega), O0, hi with
    | [a, b, d], _, O0, hi => exact rgate8 O0 (hi a (by simp)) (hi b (by simp)) (hi d (by simp)) ok okl hL
end
end Go.Proofs.YtbemhgojfehnjaaDoor
namespace Go.Proofs.YtbemhgojfehnjaaDoor
open Go
def useW (L : List Gate) (rt : Nat) : List Bool := useGo L (rt + 1) ((List.replicate L.length false).set rt true)
theorem markIn_pad (pad : List Bool) : ∀ (l : List Int) (u : List Bool), (∀ x ∈ l, x.toNat < u.length) → markIn (u ++ pad) l = markIn u l ++ pad
  | [], _, _ => rfl
  | x :: l, u, h => by
    rw [markIn_cons, markIn_cons, List.set_append_left _ _ (h x (by simp))]
    exact markIn_pad pad l _ (fun y hy => by rw [List.length_set]; exact h y (by simp [hy]))
theorem useGo_pad {N : Int} {B : Nat} {L : List Gate} (hw : wfL N B L) (pad : List Bool) : ∀ (i : Nat) (u : List Bool), i ≤ u.length → i ≤ L.length → useGo L i (u ++ pad) = useGo L i u ++ pad
  | 0, _, _, _ => rfl
  | i + 1, u, h, hl => by
    have hi : i < L.length := by omega
    rw [useGo_succ L _ hi, useGo_succ L _ hi]
    have e : (u ++ pad).getD i false = u.getD i false := by rw [List.getD_eq_getElem?_getD, List.getD_eq_getElem?_getD, List.getElem?_append_left (by omega)]
    rw [e]
    by_cases hu : u.getD i false = true
    · rw [if_pos hu, if_pos hu, markIn_pad pad _ _ (fun x hx => by have := (good_parts (hw i _ (List.getElem?_eq_getElem hi)).1).2.2 x hx; omega)]
      exact useGo_pad hw pad i _ (by rw [markIn_len]; omega) (by omega)
    · rw [if_neg hu, if_neg hu]
      exact useGo_pad hw pad i _ (by omega) (by omega)
theorem useGo_len (L : List Gate) : ∀ (i : Nat) (u : List Bool), (useGo L i u).length = u.length
  | 0, _ => rfl
  | i + 1, u => by
    rw [useGo, useGo_len L i]
    split
    · exact markIn_len _ _
    · rfl
theorem useW_pad {N : Int} {B : Nat} {L : List Gate} (hw : wfL N B L) {rt : Nat} (h : rt < L.length) : useW L rt = useOf L rt ++ List.replicate (L.length - (rt + 1)) false := by
  unfold useW useOf
  rw [← useGo_pad hw _ (rt + 1) _ (by simp) (by omega), ← List.set_append_left _ _ (by simp), List.replicate_append_replicate, show rt + 1 + (L.length - (rt + 1)) = L.length by omega]
theorem placeGo_pad (pu : List Bool) (pp : List Int) (use : List Bool) : ∀ (r : List Gate) (i : Nat) (out : List Gate) (place : List Int), i + r.length ≤ use.length → use.length = place.length →
    (∀ (k : Nat) (g : Gate), r[k]? = some g → ∀ x ∈ g.inp, x.toNat < i + k) → placeGo (use ++ pu) r i (out, place ++ pp) = ((placeGo use r i (out, place)).1, (placeGo use r i (out, place)).2 ++ pp)
  | [], _, _, _, _, _, _ => rfl
  | g :: r, i, out, place, h1, h2, h3 => by
    rw [List.length_cons] at h1
    have e : (use ++ pu).getD i false = use.getD i false := by rw [List.getD_eq_getElem?_getD, List.getD_eq_getElem?_getD, List.getElem?_append_left (by omega)]
    have h0 := h3 0 g rfl
    have h3' : ∀ (k : Nat) (q : Gate), r[k]? = some q → ∀ x ∈ q.inp, x.toNat < i + 1 + k := fun k q hq x hx => by have := h3 (k + 1) q (by simpa using hq) x hx; omega
    rw [placeGo, placeGo, e]
    by_cases hu : use.getD i false = true
    · rw [if_pos hu, if_pos hu]
      have em : (g.inp.map fun k => (place ++ pp).getD k.toNat 0) = g.inp.map fun k => place.getD k.toNat 0 := by
        apply List.map_congr_left
        intro x hx
        have := h0 x hx
        rw [List.getD_eq_getElem?_getD, List.getD_eq_getElem?_getD, List.getElem?_append_left (by omega)]
      rw [em, List.set_append_left _ _ (by omega)]
      exact placeGo_pad pu pp use r (i + 1) _ _ (by omega) (by rw [List.length_set]; exact h2) h3'
    · rw [if_neg hu, if_neg hu]
      exact placeGo_pad pu pp use r (i + 1) _ _ (by omega) h2 h3'
theorem placeGo_none (use : List Bool) : ∀ (r : List Gate) (i : Nat) (s : List Gate × List Int), (∀ j, i ≤ j → use.getD j false = false) → placeGo use r i s = s
  | [], _, _, _ => rfl
  | g :: r, i, (out, place), h => by
    rw [placeGo, if_neg (by rw [h i (Nat.le_refl _)]; decide)]
    exact placeGo_none use r (i + 1) _ (fun j hj => h j (by omega))
theorem placeGo_append (use : List Bool) : ∀ (a b : List Gate) (i : Nat) (s : List Gate × List Int), placeGo use (a ++ b) i s = placeGo use b (i + a.length) (placeGo use a i s)
  | [], _, _, _ => rfl
  | g :: a, b, i, (out, place) => by
    rw [List.cons_append, placeGo, placeGo, List.length_cons, show i + (a.length + 1) = i + 1 + a.length by omega]
    split
    · exact placeGo_append use a b (i + 1) _
    · exact placeGo_append use a b (i + 1) _
theorem needed_whole {N : Int} {B : Nat} {L : List Gate} (hw : wfL N B L) {rt : Nat} (h : rt < L.length) : neededG L (rt : Int) = (placeGo (useW L rt) L 0 ([], List.replicate L.length 0)).1 := by
  have hu : (useOf L rt).length = rt + 1 := by unfold useOf; rw [useGo_len]; simp
  have hsp : L = L.take (rt + 1) ++ L.drop (rt + 1) := (List.take_append_drop _ _).symm
  have htl : (L.take (rt + 1)).length = rt + 1 := List.length_take_of_le (by omega)
  have hrep : List.replicate L.length (0 : Int) = List.replicate (rt + 1) 0 ++ List.replicate (L.length - (rt + 1)) 0 := by rw [List.replicate_append_replicate, show rt + 1 + (L.length - (rt + 1)) = L.length by omega]
  have e1 : placeGo (useW L rt) L 0 ([], List.replicate L.length 0) = placeGo (useW L rt) (L.drop (rt + 1)) (0 + (L.take (rt + 1)).length) (placeGo (useW L rt) (L.take (rt + 1)) 0 ([], List.replicate L.length 0)) := by
    rw [← placeGo_append, ← hsp]
  rw [e1, placeGo_none _ _ _ _ (fun j hj => ?_), useW_pad hw h, hrep, placeGo_pad _ _ _ _ _ _ _ (by omega) (by simp [hu]) (fun k g hg x hx => ?_)]
  · unfold neededG; rw [Int.toNat_natCast]
  · have hk : k < (L.take (rt + 1)).length := (List.getElem?_eq_some_iff.1 hg).1
    rw [List.getElem?_take_of_lt (by omega)] at hg
    have := (good_parts (hw k g hg).1).2.2 x hx
    omega
  · rw [useW_pad hw h, List.getD_eq_getElem?_getD, List.getElem?_append_right (by omega)]
    by_cases hj2 : j - (useOf L rt).length < L.length - (rt + 1)
    · rw [List.getElem?_replicate, if_pos hj2]; rfl
    · rw [List.getElem?_replicate, if_neg hj2]; rfl
theorem set_true_get {u : List Bool} {j x : Nat} (h : u[j]? = some true) : (u.set x true)[j]? = some true := by
  obtain ⟨hj, e⟩ := List.getElem?_eq_some_iff.1 h
  rw [List.getElem?_set]
  split
  · next q => subst q; simp [hj]
  · exact h
end Go.Proofs.YtbemhgojfehnjaaDoor
namespace Go.Proofs.YtbemhgojfehnjaaDoor
open Go Go.RowKit
theorem take_more {α : Type} {l : List α} {k : Nat} {x : α} (h : l[k]? = some x) : l.take (k + 1) = l.take k ++ [x] := by
  obtain ⟨hk, rfl⟩ := List.getElem?_eq_some_iff.1 h
  exact (List.take_append_getElem hk).symm
theorem rneeded_ {W : World} {R : Option Addr} {c rt B : Nat} {N : Int} {D : Nat → Prop} {L : List Gate} {vs : List Value} (hrow : W.ownsRow 0 38 3 (.slice R L.length c) L.length (gcells L vs)) (hI : Ins D L vs W) (hDlt : ∀ k, D k → k < W.heap.size) (hwf : wfL N B L) (hB : B ≤ 1000000) (hL : L.length ≤ 1000000) (hrt : rt < L.length) :
    Calls Tryd.prog 42 #[.slice R L.length c, .int .i64 (rt : Int)] W fun e w' => ∃ A cA D' vo, e = .returned (.slice A (neededG L (rt : Int)).length cA) ∧ Own Z0 W w' [.row (.slice A (neededG L (rt : Int)).length cA) 38 3 (neededG L (rt : Int)).length (gcells (neededG L (rt : Int)) vo), ownE D' (neededG L (rt : Int)) vo] ∧ ∀ k, D' k → W.heap.size ≤ k := by
  have hins : Ins D L vs W := hI
  have hvl := hins.1
  obtain ⟨r, rfl⟩ := rowaddr hrow (by omega)
  have hr : r < W.heap.size := (World.ownsRow.lt hrow r rfl).2
  have O0 : Own Z0 W W [] := Own.start W
  refine sx_enter (args := [.slice (some ⟨r, 0, none⟩) L.length c, .int .i64 (rt : Int)]) Tryd.func42 rfl rfl (by simp) ?_
  refine cw_seq (fun FK1 K1 => ?_)
  refine cw_region ?_
  refine wl_val (v := .slice none 0 0) (fun ρ e => ex_assign (e _ _ rfl)) rfl rfl ?_
  refine wl_nil ?_
  refine xw_next K1 ?_
  refine cw_seq (fun FK2 K2 => ?_)
  refine cw_region ?_
  refine wl_val (v := .slice (some ⟨r, 0, none⟩) L.length c) (fun ρ e => ex_move (e _ _ rfl)) rfl rfl ?_
  refine wl_val (v := .int .i64 ((L.length : Nat) : Int)) (fun ρ e => ex_len el22 (e _ _ rfl)) rfl rfl ?_
  obtain ⟨g3, w4, r5, O6, hg7, hs8⟩ := own_make1 O0 ap41 rfl L.length (by decide) (by omega) (cs := (boolCs (List.replicate L.length false)).toArray) (by simp [boolCs])
  refine wl_val (v := .slice (some ⟨g3, 0, none⟩) L.length L.length) (fun ρ e => r5 ρ _ _ _ _ _ _ _ (e _ _ rfl) (e _ _ rfl)) rfl rfl ?_
  refine wl_val (v := .slice (some ⟨g3, 0, none⟩) L.length L.length) (fun ρ e => ex_assign (e _ _ rfl)) rfl rfl ?_
  refine wl_nil ?_
  refine xw_next K2 ?_
  refine cw_seq (fun FK9 K9 => ?_)
  refine cw_region ?_
  refine wl_val (v := .slice (some ⟨g3, 0, none⟩) L.length L.length) (fun ρ e => ex_move (e _ _ rfl)) rfl rfl ?_
  refine wl_val (v := .int .i64 (rt : Int)) (fun ρ e => ex_move (e _ _ rfl)) rfl rfl ?_
  refine wl_val (v := .pointer (some ⟨g3, rt, none⟩)) (fun ρ e => ex_idx (q := rt) (i := rt) el41 (e _ _ rfl) (e _ _ rfl) (by omega) (by omega)) rfl rfl ?_
  obtain ⟨w10, r11, O12, hs13⟩ := own_put (o := rt) (n := 1) O6 ty4 (.bool true) [.bool true] (cs' := (boolCs ((List.replicate L.length false).set rt true)).toArray) rfl rfl rfl (by simp [boolCs] <;> omega) (setBo (List.replicate L.length false) rt true)
  refine wl_none (fun ρ e => r11 ρ _ _ _ _ _ _ (e _ _ rfl) (e _ _ rfl)) rfl ?_
  refine wl_nil ?_
  refine xw_next K9 ?_
  refine cw_seq (fun FK14 K14 => ?_)
  refine cw_seq (fun FK15 K15 => ?_)
  refine cw_region ?_
  refine wl_val (v := .int .i64 (rt : Int)) (fun ρ e => ex_move (e _ _ rfl)) rfl rfl ?_
  refine wl_val (v := .int .i64 (rt : Int)) (fun ρ e => ex_assign (e _ _ rfl)) rfl rfl ?_
  refine wl_nil ?_
  refine xw_next K15 ?_
  refine cw_block ?_
  refine cw_loop (ι := Nat × Int × List Bool) (fun q => [(0, .slice (some ⟨r, 0, none⟩) L.length c), (1, .int .i64 (rt : Int)), (5, .slice (some ⟨g3, 0, none⟩) L.length L.length), (6, .int .i64 q.2.1)]) (fun q X => (q.1 ≤ rt + 1) ∧ (q.2.1 = (q.1 : Int) - 1) ∧ (q.2.2.length = L.length) ∧ (useW L rt = useGo L q.1 q.2.2) ∧ Own Z0 W X [.blk g3 4 ((boolCs q.2.2).toArray)]) (fun q => q.1) (rt + 1, (rt : Int), ((List.replicate L.length false).set rt true)) ⟨Nat.le_refl _, (by show (rt : Int) = ((rt + 1 : Nat) : Int) - 1; omega), (by show (List.set _ _ _).length = _; simp), rfl, O12⟩ ⟨rfl, rfl, rfl, rfl, trivial⟩ (fun q w16 hJ F17 K18 => ?_)
  obtain ⟨j, t, u⟩ := q
  obtain ⟨hj, ht, hul, hu, O19⟩ := hJ
  dsimp only at hj ht hul hu O19 ⊢
  rcases j with _ | j
  · skip
    simp only [useGo] at hu
    refine cw_seq (fun FK20 K20 => ?_)
    refine cw_seq (fun FK21 K21 => ?_)
    refine cw_region ?_
    refine wl_val (v := .int .i64 t) (fun ρ e => ex_move (e _ _ rfl)) rfl rfl ?_
    refine wl_val (v := .bool false) (fun ρ e => ex_cmp (u := t) (v := 0) (e _ _ rfl) (e _ _ rfl) (geq0 (by omega))) rfl rfl ?_
    refine wl_nil ?_
    refine xw_next K21 ?_
    refine cw_false rfl ?_
    refine cw_exit ?_
    refine xw_past (by intro h; cases h) ?_
    refine xw_past (by intro h; cases h) ?_
    refine xw_here ?_
    refine xw_next K14 ?_
    refine cw_seq (fun FK22 K22 => ?_)
    refine cw_region ?_
    refine wl_val (v := .slice none 0 0) (fun ρ e => ex_assign (e _ _ rfl)) rfl rfl ?_
    refine wl_nil ?_
    refine xw_next K22 ?_
    refine cw_seq (fun FK23 K23 => ?_)
    refine cw_region ?_
    refine wl_val (v := .slice (some ⟨r, 0, none⟩) L.length c) (fun ρ e => ex_move (e _ _ rfl)) rfl rfl ?_
    refine wl_val (v := .int .i64 ((L.length : Nat) : Int)) (fun ρ e => ex_len el22 (e _ _ rfl)) rfl rfl ?_
    obtain ⟨g24, w25, r26, O27, hg28, hs29⟩ := own_make1 O19 ap36 rfl L.length (by decide) (by omega) (cs := (intCs (List.replicate L.length 0)).toArray) (by simp [intCs])
    refine wl_val (v := .slice (some ⟨g24, 0, none⟩) L.length L.length) (fun ρ e => r26 ρ _ _ _ _ _ _ _ (e _ _ rfl) (e _ _ rfl)) rfl rfl ?_
    refine wl_val (v := .slice (some ⟨g24, 0, none⟩) L.length L.length) (fun ρ e => ex_assign (e _ _ rfl)) rfl rfl ?_
    refine wl_nil ?_
    refine xw_next K23 ?_
    refine cw_seq (fun FK30 K30 => ?_)
    refine cw_seq (fun FK31 K31 => ?_)
    refine cw_region ?_
    refine wl_val (v := .int .i64 0) (fun ρ e => ex_assign (e _ _ rfl)) rfl rfl ?_
    refine wl_nil ?_
    refine xw_next K31 ?_
    refine cw_block ?_
    have O32 : Own Z0 W w25 [.row (.slice none 0 0) 38 3 0 (gcells [] []), .blk g24 3 ((intCs (List.replicate L.length 0)).toArray), .blk g3 4 ((boolCs u).toArray)] := O27.nilrow 38 3
    have O33 : Own Z0 W w25 [.ro (fun _ => False) (OwnIns (fun _ => False) [] []), .row (.slice none 0 0) 38 3 0 (gcells [] []), .blk g24 3 ((intCs (List.replicate L.length 0)).toArray), .blk g3 4 ((boolCs u).toArray)] := O32.nilown
    have O34 : Own Z0 W w25 [.row (.slice none 0 0) 38 3 0 (gcells [] []), .ro (fun _ => False) (OwnIns (fun _ => False) [] []), .blk g24 3 ((intCs (List.replicate L.length 0)).toArray), .blk g3 4 ((boolCs u).toArray)] := (O33.re [1, 0, 2, 3] rfl : Own Z0 W w25 [.row (.slice none 0 0) 38 3 0 (gcells [] []), .ro (fun _ => False) (OwnIns (fun _ => False) [] []), .blk g24 3 ((intCs (List.replicate L.length 0)).toArray), .blk g3 4 ((boolCs u).toArray)])
    refine cw_loop (ι := Nat × Option Addr × Nat × Nat × List Gate × List Value × (Nat → Prop) × List Int) (fun q => [(0, .slice (some ⟨r, 0, none⟩) L.length c), (5, .slice (some ⟨g3, 0, none⟩) L.length L.length), (8, .slice q.2.1 q.2.2.2.1 q.2.2.1), (9, .slice (some ⟨g24, 0, none⟩) L.length L.length), (10, .int .i64 (q.1 : Int))]) (fun q X => (q.1 ≤ L.length) ∧ (q.2.2.2.1 = q.2.2.2.2.1.length) ∧ (q.2.2.2.1 ≤ q.1) ∧ (q.2.2.2.2.2.2.2.length = L.length) ∧ (∀ k, q.2.2.2.2.2.2.1 k → W.heap.size ≤ k) ∧ ((placeGo u L 0 ([], List.replicate L.length 0)).1 = (placeGo u (L.drop q.1) q.1 (q.2.2.2.2.1, q.2.2.2.2.2.2.2)).1) ∧ Own Z0 W X [.row (.slice q.2.1 q.2.2.2.1 q.2.2.1) 38 3 q.2.2.2.1 (gcells q.2.2.2.2.1 q.2.2.2.2.2.1), .ro q.2.2.2.2.2.2.1 (OwnIns q.2.2.2.2.2.2.1 q.2.2.2.2.1 q.2.2.2.2.2.1), .blk g24 3 ((intCs q.2.2.2.2.2.2.2).toArray), .blk g3 4 ((boolCs u).toArray)]) (fun q => L.length - q.1) (0, none, 0, 0, [], [], (fun _ => False), (List.replicate L.length 0)) ⟨Nat.zero_le _, rfl, Nat.zero_le _, (by show (List.replicate _ _).length = _; simp), (fun k hk => hk.elim), rfl, O34⟩ ⟨rfl, rfl, rfl, rfl, rfl, trivial⟩ (fun q w35 hJ F36 K37 => ?_)
    obtain ⟨i, A, cA, n, o, vo, Do, p⟩ := q
    obtain ⟨hi0, hn, hni, hpl, hDo, hgo, O38⟩ := hJ
    dsimp only at hi0 hn hni hpl hDo hgo O38 ⊢
    by_cases hqi : i < L.length
    · skip
      obtain ⟨ub, hub⟩ : ∃ b, u[i]? = some b := ⟨u[i], List.getElem?_eq_getElem (by omega)⟩
      have hdr : L.drop i = L[i] :: L.drop (i + 1) := List.drop_eq_getElem_cons hqi
      rw [hdr, placeGo, List.getD_eq_getElem?_getD, hub] at hgo
      obtain ⟨hg0, hg1, hg2⟩ := gcells_get (L := L) (vs := vs) (List.getElem?_eq_getElem hqi) (List.getElem?_eq_getElem (show i < vs.length by omega))
      have hD := hins.2 i _ _ (List.getElem?_eq_getElem hqi) (List.getElem?_eq_getElem (show i < vs.length by omega))
      have hwg := hwf i _ (List.getElem?_eq_getElem hqi)
      have hIV : IntsV W W.heap.size vs[i] L[i].inp := hD.V hDlt
      obtain ⟨AI, cI, hAI⟩ := hD.slice
      rw [hAI] at hg2 hIV
      cases ub
      · skip
        simp only [Option.getD_some, if_true, Bool.false_eq_true, if_false] at hgo
        refine cw_seq (fun FK39 K39 => ?_)
        refine cw_seq (fun FK40 K40 => ?_)
        refine cw_region ?_
        refine wl_val (v := .int .i64 (i : Int)) (fun ρ e => ex_move (e _ _ rfl)) rfl rfl ?_
        refine wl_val (v := .slice (some ⟨r, 0, none⟩) L.length c) (fun ρ e => ex_move (e _ _ rfl)) rfl rfl ?_
        refine wl_val (v := .int .i64 ((L.length : Nat) : Int)) (fun ρ e => ex_len el22 (e _ _ rfl)) rfl rfl ?_
        refine wl_val (v := .bool true) (fun ρ e => ex_cmp (u := (i : Int)) (v := ((L.length : Nat) : Int)) (e _ _ rfl) (e _ _ rfl) (lss1 (by omega))) rfl rfl ?_
        refine wl_nil ?_
        refine xw_next K40 ?_
        refine cw_true rfl ?_
        refine cw_skip ?_
        refine xw_next K39 ?_
        refine cw_seq (fun FK41 K41 => ?_)
        refine cw_block ?_
        refine cw_seq (fun FK42 K42 => ?_)
        refine cw_seq (fun FK43 K43 => ?_)
        refine cw_region ?_
        refine wl_val (v := .slice (some ⟨g3, 0, none⟩) L.length L.length) (fun ρ e => ex_move (e _ _ rfl)) rfl rfl ?_
        refine wl_val (v := .int .i64 (i : Int)) (fun ρ e => ex_move (e _ _ rfl)) rfl rfl ?_
        refine wl_val (v := .pointer (some ⟨g3, i, none⟩)) (fun ρ e => ex_idx (q := i) (i := i) el41 (e _ _ rfl) (e _ _ rfl) (by omega) (by omega)) rfl rfl ?_
        refine wl_val (v := .bool false) (fun ρ e => ex_load1 ty4 (e _ _ rfl) (O38.cell 3 i rfl (getBo hub))) rfl rfl ?_
        refine wl_val (v := .bool true) (fun ρ e => ex_lnot (b := false) (e _ _ rfl)) rfl rfl ?_
        refine wl_nil ?_
        refine xw_next K43 ?_
        refine cw_true rfl ?_
        refine cw_exit ?_
        refine xw_past (by intro h; cases h) ?_
        refine xw_here ?_
        refine xw_next K41 ?_
        refine cw_region ?_
        refine wl_val (v := .int .i64 (i : Int)) (fun ρ e => ex_move (e _ _ rfl)) rfl rfl ?_
        refine wl_val (v := .int .i64 ((i + 1 : Nat) : Int)) (fun ρ e => ex_arith (k := .i64) (u := (i : Int)) (v := 1) (e _ _ rfl) (e _ _ rfl) (congrArg some ((congrArg _ (by omega)).trans (wrap_in (u := ((i + 1 : Nat) : Int)) (by omega) (by omega))))) rfl rfl ?_
        refine wl_val (v := .int .i64 ((i + 1 : Nat) : Int)) (fun ρ e => ex_assign (e _ _ rfl)) rfl rfl ?_
        refine wl_nil ?_
        refine xw_round K37 (i + 1, A, cA, n, o, vo, Do, p) (by show L.length - (i + 1) < L.length - i; omega) ⟨(by show i + 1 ≤ _; omega), hn, (by show n ≤ i + 1; omega), hpl, hDo, hgo, O38⟩ ⟨rfl, rfl, rfl, rfl, rfl, trivial⟩
      · skip
        simp only [Option.getD_some, if_true, Bool.false_eq_true, if_false] at hgo
        refine cw_seq (fun FK44 K44 => ?_)
        refine cw_seq (fun FK45 K45 => ?_)
        refine cw_region ?_
        refine wl_val (v := .int .i64 (i : Int)) (fun ρ e => ex_move (e _ _ rfl)) rfl rfl ?_
        refine wl_val (v := .slice (some ⟨r, 0, none⟩) L.length c) (fun ρ e => ex_move (e _ _ rfl)) rfl rfl ?_
        refine wl_val (v := .int .i64 ((L.length : Nat) : Int)) (fun ρ e => ex_len el22 (e _ _ rfl)) rfl rfl ?_
        refine wl_val (v := .bool true) (fun ρ e => ex_cmp (u := (i : Int)) (v := ((L.length : Nat) : Int)) (e _ _ rfl) (e _ _ rfl) (lss1 (by omega))) rfl rfl ?_
        refine wl_nil ?_
        refine xw_next K45 ?_
        refine cw_true rfl ?_
        refine cw_skip ?_
        refine xw_next K44 ?_
        refine cw_seq (fun FK46 K46 => ?_)
        refine cw_block ?_
        refine cw_seq (fun FK47 K47 => ?_)
        refine cw_seq (fun FK48 K48 => ?_)
        refine cw_region ?_
        refine wl_val (v := .slice (some ⟨g3, 0, none⟩) L.length L.length) (fun ρ e => ex_move (e _ _ rfl)) rfl rfl ?_
        refine wl_val (v := .int .i64 (i : Int)) (fun ρ e => ex_move (e _ _ rfl)) rfl rfl ?_
        refine wl_val (v := .pointer (some ⟨g3, i, none⟩)) (fun ρ e => ex_idx (q := i) (i := i) el41 (e _ _ rfl) (e _ _ rfl) (by omega) (by omega)) rfl rfl ?_
        refine wl_val (v := .bool true) (fun ρ e => ex_load1 ty4 (e _ _ rfl) (O38.cell 3 i rfl (getBo hub))) rfl rfl ?_
        refine wl_val (v := .bool false) (fun ρ e => ex_lnot (b := true) (e _ _ rfl)) rfl rfl ?_
        refine wl_nil ?_
        refine xw_next K48 ?_
        refine cw_false rfl ?_
        refine cw_skip ?_
        refine xw_next K47 ?_
        refine cw_seq (fun FK49 K49 => ?_)
        refine cw_region ?_
        refine wl_val (v := .slice none 0 0) (fun ρ e => ex_assign (e _ _ rfl)) rfl rfl ?_
        refine wl_nil ?_
        refine xw_next K49 ?_
        refine cw_seq (fun FK50 K50 => ?_)
        refine cw_seq (fun FK51 K51 => ?_)
        refine cw_region ?_
        refine wl_val (v := .int .i64 0) (fun ρ e => ex_assign (e _ _ rfl)) rfl rfl ?_
        refine wl_nil ?_
        refine xw_next K51 ?_
        refine cw_block ?_
        have O52 : Own Z0 W w35 [.row (.slice none 0 0) 3 1 0 (intCs []), .row (.slice A n cA) 38 3 n (gcells o vo), .ro Do (OwnIns Do o vo), .blk g24 3 ((intCs p).toArray), .blk g3 4 ((boolCs u).toArray)] := O38.nilrow 3 1
        refine cw_loop (ι := Nat × Option Addr × Nat × List Int) (fun q => [(0, .slice (some ⟨r, 0, none⟩) L.length c), (5, .slice (some ⟨g3, 0, none⟩) L.length L.length), (8, .slice A n cA), (9, .slice (some ⟨g24, 0, none⟩) L.length L.length), (10, .int .i64 (i : Int)), (11, .slice q.2.1 q.1 q.2.2.1), (12, .int .i64 (q.1 : Int))]) (fun q X => (q.1 ≤ L[i].inp.length) ∧ (q.2.2.2 = (L[i].inp.take q.1).map (fun x : Int => p.getD x.toNat 0)) ∧ Own Z0 W X [.row (.slice q.2.1 q.1 q.2.2.1) 3 1 q.1 (intCs q.2.2.2), .row (.slice A n cA) 38 3 n (gcells o vo), .ro Do (OwnIns Do o vo), .blk g24 3 ((intCs p).toArray), .blk g3 4 ((boolCs u).toArray)]) (fun q => L[i].inp.length - q.1) (0, none, 0, []) ⟨Nat.zero_le _, rfl, O52⟩ ⟨rfl, rfl, rfl, rfl, rfl, rfl, rfl, trivial⟩ (fun q w53 hJ F54 K55 => ?_)
        obtain ⟨k2, A3, c3, l3⟩ := q
        obtain ⟨hk20, hl3, O56⟩ := hJ
        dsimp only at hk20 hl3 O56 ⊢
        by_cases hk2 : k2 < L[i].inp.length
        · obtain ⟨x0, hxk, hdr2, hxm⟩ := drop_cons hk2
          have hxr := (good_parts hwg.1).2.2 x0 hxm
          obtain ⟨x, rfl⟩ : ∃ n : Nat, x0 = n := ⟨x0.toNat, by omega⟩
          obtain ⟨bI, oI, cJ, hbI⟩ := (IntsD.of_V hIV).form (by omega)
          have hpx : p[x]? = some (p.getD (x : Int).toNat 0) := by simp [List.getElem?_eq_getElem (show x < p.length by omega)]
          refine cw_seq (fun FK57 K57 => ?_)
          refine cw_seq (fun FK58 K58 => ?_)
          refine cw_region ?_
          refine wl_val (v := .int .i64 (k2 : Int)) (fun ρ e => ex_move (e _ _ rfl)) rfl rfl ?_
          refine wl_val (v := .slice (some ⟨r, 0, none⟩) L.length c) (fun ρ e => ex_move (e _ _ rfl)) rfl rfl ?_
          refine wl_val (v := .int .i64 (i : Int)) (fun ρ e => ex_move (e _ _ rfl)) rfl rfl ?_
          refine wl_val (v := .pointer (some ⟨r, i * 3, none⟩)) (fun ρ e => ex_idx (q := i * 3) (i := i) el22 (e _ _ rfl) (e _ _ rfl) (by omega) (by omega)) rfl rfl ?_
          refine wl_val (v := .pointer (some ⟨r, i * 3 + 2, none⟩)) (fun ρ e => ex_field (q := i * 3 + 2) fi38_2 (e _ _ rfl) rfl) rfl rfl ?_
          refine wl_val (v := .slice AI (L[i].inp.length) cI) (fun ρ e => ex_load1 ty36 (e _ _ rfl) ((O56.old.cell (p := ⟨r, i * 3 + 2, none⟩) hr).trans (rowcell hrow hg2))) rfl rfl ?_
          refine wl_val (v := .int .i64 ((L[i].inp.length : Nat) : Int)) (fun ρ e => ex_len el36 (e _ _ rfl)) rfl rfl ?_
          refine wl_val (v := .bool true) (fun ρ e => ex_cmp (u := (k2 : Int)) (v := ((L[i].inp.length : Nat) : Int)) (e _ _ rfl) (e _ _ rfl) (lss1 (by omega))) rfl rfl ?_
          refine wl_nil ?_
          refine xw_next K58 ?_
          refine cw_true rfl ?_
          refine cw_skip ?_
          refine xw_next K57 ?_
          refine cw_seq (fun FK59 K59 => ?_)
          refine cw_block ?_
          refine cw_region ?_
          refine wl_val (v := .slice A3 k2 c3) (fun ρ e => ex_move (e _ _ rfl)) rfl rfl ?_
          refine wl_val (v := .slice (some ⟨g24, 0, none⟩) L.length L.length) (fun ρ e => ex_move (e _ _ rfl)) rfl rfl ?_
          refine wl_val (v := .slice (some ⟨r, 0, none⟩) L.length c) (fun ρ e => ex_move (e _ _ rfl)) rfl rfl ?_
          refine wl_val (v := .int .i64 (i : Int)) (fun ρ e => ex_move (e _ _ rfl)) rfl rfl ?_
          refine wl_val (v := .pointer (some ⟨r, i * 3, none⟩)) (fun ρ e => ex_idx (q := i * 3) (i := i) el22 (e _ _ rfl) (e _ _ rfl) (by omega) (by omega)) rfl rfl ?_
          refine wl_val (v := .pointer (some ⟨r, i * 3 + 2, none⟩)) (fun ρ e => ex_field (q := i * 3 + 2) fi38_2 (e _ _ rfl) rfl) rfl rfl ?_
          refine wl_val (v := .slice AI (L[i].inp.length) cI) (fun ρ e => ex_load1 ty36 (e _ _ rfl) ((O56.old.cell (p := ⟨r, i * 3 + 2, none⟩) hr).trans (rowcell hrow hg2))) rfl rfl ?_
          refine wl_val (v := .int .i64 (k2 : Int)) (fun ρ e => ex_move (e _ _ rfl)) rfl rfl ?_
          refine wl_val (v := .pointer (some ⟨bI, oI + k2, none⟩)) (fun ρ e => ex_idx (q := oI + k2) (o := oI) (i := k2) el36 ((e _ _ rfl).trans hbI) (e _ _ rfl) hk2 (by omega)) rfl rfl ?_
          refine wl_val (v := .int .i64 (x : Int)) (fun ρ e => ex_load1 ty3 (e _ _ rfl) (((hIV.below O56.old).at1 hbI hk2 hxk))) rfl rfl ?_
          refine wl_val (v := .pointer (some ⟨g24, x, none⟩)) (fun ρ e => ex_idx (q := x) (i := x) el36 (e _ _ rfl) (e _ _ rfl) (by omega) (by omega)) rfl rfl ?_
          refine wl_val (v := .int .i64 (p.getD (x : Int).toNat 0)) (fun ρ e => ex_load1 ty3 (e _ _ rfl) (O56.cell 3 x rfl (getI hpx))) rfl rfl ?_
          obtain ⟨g60, w61, r62, O63, hg64, hs65⟩ := own_slice O56 el36 ze3 1 [(0, .int .i64 (p.getD (x : Int).toNat 0))] (cs := #[.int .i64 (p.getD (x : Int).toNat 0)]) (by decide) (by kernel_rfl)
          refine wl_val (v := .slice (some ⟨g60, 0, none⟩) 1 1) (fun ρ e => r62 ρ _ _ _ _ _ _ (e.parts rfl)) rfl rfl ?_
          obtain ⟨A66, c67, w68, r69, O70, hz71, hc72⟩ := own_app1 (O63.re [1, 0, 2, 3, 4, 5] rfl : Own Z0 W w61 [.row (.slice A3 k2 c3) 3 1 k2 (intCs l3), .blk g60 3 #[.int .i64 (p.getD (x : Int).toNat 0)], .row (.slice A n cA) 38 3 n (gcells o vo), .ro Do (OwnIns Do o vo), .blk g24 3 ((intCs p).toArray), .blk g3 4 ((boolCs u).toArray)]) ap36 ((O63.re [1, 0, 2, 3, 4, 5] rfl : Own Z0 W w61 [.row (.slice A3 k2 c3) 3 1 k2 (intCs l3), .blk g60 3 #[.int .i64 (p.getD (x : Int).toNat 0)], .row (.slice A n cA) 38 3 n (gcells o vo), .ro Do (OwnIns Do o vo), .blk g24 3 ((intCs p).toArray), .blk g3 4 ((boolCs u).toArray)]).blk 1 rfl) (cells := [.int .i64 (p.getD (x : Int).toNat 0)]) rfl rfl (by omega) (by omega) (ys := (intCs (l3 ++ [p.getD (x : Int).toNat 0]))) (intCs_snoc l3 _)
          refine wl_val (v := .slice A66 (k2 + 1) c67) (fun ρ e => r69 ρ _ _ _ _ _ _ _ (e _ _ rfl) (e _ _ rfl)) rfl rfl ?_
          refine wl_val (v := .slice A66 (k2 + 1) c67) (fun ρ e => ex_assign (e _ _ rfl)) rfl rfl ?_
          refine wl_nil ?_
          refine xw_block ?_
          refine xw_next K59 ?_
          refine cw_region ?_
          refine wl_val (v := .int .i64 (k2 : Int)) (fun ρ e => ex_move (e _ _ rfl)) rfl rfl ?_
          refine wl_val (v := .int .i64 ((k2 + 1 : Nat) : Int)) (fun ρ e => ex_arith (k := .i64) (u := (k2 : Int)) (v := 1) (e _ _ rfl) (e _ _ rfl) (congrArg some ((congrArg _ (by omega)).trans (wrap_in (u := ((k2 + 1 : Nat) : Int)) (by omega) (by omega))))) rfl rfl ?_
          refine wl_val (v := .int .i64 ((k2 + 1 : Nat) : Int)) (fun ρ e => ex_assign (e _ _ rfl)) rfl rfl ?_
          refine wl_nil ?_
          refine xw_round K55 (k2 + 1, A66, c67, (l3 ++ [p.getD (x : Int).toNat 0])) (by show L[i].inp.length - (k2 + 1) < L[i].inp.length - k2; omega) ⟨(by show k2 + 1 ≤ _; omega), (by show l3 ++ [_] = (L[i].inp.take (k2 + 1)).map _; rw [hl3, take_more hxk, List.map_append]; rfl), (O70.re [0, 2, 3, 4, 5] rfl : Own Z0 W w68 [.row (.slice A66 (k2 + 1) c67) 3 1 (k2 + 1) (intCs (l3 ++ [p.getD (x : Int).toNat 0])), .row (.slice A n cA) 38 3 n (gcells o vo), .ro Do (OwnIns Do o vo), .blk g24 3 ((intCs p).toArray), .blk g3 4 ((boolCs u).toArray)])⟩ ⟨rfl, rfl, rfl, rfl, rfl, rfl, rfl, trivial⟩
        · have hke : k2 = L[i].inp.length := by omega
          have hke2 := hl3
          rw [hke, List.take_length] at hke2
          subst hke2
          refine cw_seq (fun FK73 K73 => ?_)
          refine cw_seq (fun FK74 K74 => ?_)
          refine cw_region ?_
          refine wl_val (v := .int .i64 (k2 : Int)) (fun ρ e => ex_move (e _ _ rfl)) rfl rfl ?_
          refine wl_val (v := .slice (some ⟨r, 0, none⟩) L.length c) (fun ρ e => ex_move (e _ _ rfl)) rfl rfl ?_
          refine wl_val (v := .int .i64 (i : Int)) (fun ρ e => ex_move (e _ _ rfl)) rfl rfl ?_
          refine wl_val (v := .pointer (some ⟨r, i * 3, none⟩)) (fun ρ e => ex_idx (q := i * 3) (i := i) el22 (e _ _ rfl) (e _ _ rfl) (by omega) (by omega)) rfl rfl ?_
          refine wl_val (v := .pointer (some ⟨r, i * 3 + 2, none⟩)) (fun ρ e => ex_field (q := i * 3 + 2) fi38_2 (e _ _ rfl) rfl) rfl rfl ?_
          refine wl_val (v := .slice AI (L[i].inp.length) cI) (fun ρ e => ex_load1 ty36 (e _ _ rfl) ((O56.old.cell (p := ⟨r, i * 3 + 2, none⟩) hr).trans (rowcell hrow hg2))) rfl rfl ?_
          refine wl_val (v := .int .i64 ((L[i].inp.length : Nat) : Int)) (fun ρ e => ex_len el36 (e _ _ rfl)) rfl rfl ?_
          refine wl_val (v := .bool false) (fun ρ e => ex_cmp (u := (k2 : Int)) (v := ((L[i].inp.length : Nat) : Int)) (e _ _ rfl) (e _ _ rfl) (lss0 (by omega))) rfl rfl ?_
          refine wl_nil ?_
          refine xw_next K74 ?_
          refine cw_false rfl ?_
          refine cw_exit ?_
          refine xw_past (by intro h; cases h) ?_
          refine xw_past (by intro h; cases h) ?_
          refine xw_here ?_
          refine xw_next K50 ?_
          refine cw_seq (fun FK75 K75 => ?_)
          refine cw_region ?_
          refine wl_val (v := .slice (some ⟨g24, 0, none⟩) L.length L.length) (fun ρ e => ex_move (e _ _ rfl)) rfl rfl ?_
          refine wl_val (v := .int .i64 (i : Int)) (fun ρ e => ex_move (e _ _ rfl)) rfl rfl ?_
          refine wl_val (v := .slice A n cA) (fun ρ e => ex_move (e _ _ rfl)) rfl rfl ?_
          refine wl_val (v := .int .i64 (n : Int)) (fun ρ e => ex_len el22 (e _ _ rfl)) rfl rfl ?_
          refine wl_val (v := .pointer (some ⟨g24, i, none⟩)) (fun ρ e => ex_idx (q := i) (i := i) el36 (e _ _ rfl) (e _ _ rfl) (by omega) (by omega)) rfl rfl ?_
          obtain ⟨w76, r77, O78, hs79⟩ := own_put (o := i) (n := 1) (O56.re [3, 0, 1, 2, 4] rfl : Own Z0 W w53 [.blk g24 3 ((intCs p).toArray), .row (.slice A3 k2 c3) 3 1 k2 (intCs (L[i].inp.map (fun x : Int => p.getD x.toNat 0))), .row (.slice A n cA) 38 3 n (gcells o vo), .ro Do (OwnIns Do o vo), .blk g3 4 ((boolCs u).toArray)]) ty3 (.int .i64 (n : Int)) [.int .i64 (n : Int)] (cs' := (intCs (p.set i (n : Int))).toArray) rfl rfl rfl (by simp [intCs] <;> omega) (setI p i (n : Int))
          refine wl_none (fun ρ e => r77 ρ _ _ _ _ _ _ (e _ _ rfl) (e _ _ rfl)) rfl ?_
          refine wl_nil ?_
          refine xw_next K75 ?_
          refine cw_drawn (fun X => Own Z0 W X [.blk g24 3 ((intCs (p.set i (n : Int))).toArray), .ro Do (OwnIns Do o vo), .blk g3 4 ((boolCs u).toArray)]) 15 [(0, 1), (1, 1), (2, 1), (3, 1), (4, 1), (5, 0), (6, 1), (7, 1), (8, 1), (9, 1), (10, 0), (11, 1), (12, 1), (13, 2), (14, 2), (15, 3)] (by kernel_rfl) (by kernel_rfl) (PQ.block (PQ.then_ (PQ.then_ (PQ.block (PQ.then_ PQ.body))))) ((O78.re [0, 3, 4] rfl : Own Z0 W w76 [.blk g24 3 ((intCs (p.set i (n : Int))).toArray), .ro Do (OwnIns Do o vo), .blk g3 4 ((boolCs u).toArray)])).drew ?_
          have O80 : Own Z0 W w76.drew [.blk g24 3 ((intCs (p.set i (n : Int))).toArray), .row (.slice A3 k2 c3) 3 1 k2 (intCs (L[i].inp.map (fun x : Int => p.getD x.toNat 0))), .row (.slice A n cA) 38 3 n (gcells o vo), .ro Do (OwnIns Do o vo), .blk g3 4 ((boolCs u).toArray)] := O78.drew
          refine wt1 (v := .slice A n cA) rfl (fun ρ e W => ex_move (e _ _ rfl)) rfl rfl ?_
          refine wt1 (v := .slice (some ⟨r, 0, none⟩) L.length c) rfl (fun ρ e W => ex_move (e _ _ rfl)) rfl rfl ?_
          refine wt1 (v := .int .i64 (i : Int)) rfl (fun ρ e W => ex_move (e _ _ rfl)) rfl rfl ?_
          refine wt1 (v := .pointer (some ⟨r, i * 3, none⟩)) rfl (fun ρ e W => ex_idx (q := i * 3) (i := i) el22 (e _ _ rfl) (e _ _ rfl) (by omega) (by omega)) rfl rfl ?_
          refine wt1 (v := .pointer (some ⟨r, i * 3, none⟩)) rfl (fun ρ e W => ex_field (q := i * 3) fi38_0 (e _ _ rfl) rfl) rfl rfl ?_
          refine wt0 (v := .int .i64 (L[i].kind)) rfl (fun ρ e W hW => ex_load1 ty3 (e _ _ rfl) ((hW.old.cell (p := ⟨r, i * 3, none⟩) hr).trans (rowcell hrow hg0))) rfl rfl ?_
          refine wt1 (v := .slice (some ⟨r, 0, none⟩) L.length c) rfl (fun ρ e W => ex_move (e _ _ rfl)) rfl rfl ?_
          refine wt1 (v := .int .i64 (i : Int)) rfl (fun ρ e W => ex_move (e _ _ rfl)) rfl rfl ?_
          refine wt1 (v := .pointer (some ⟨r, i * 3, none⟩)) rfl (fun ρ e W => ex_idx (q := i * 3) (i := i) el22 (e _ _ rfl) (e _ _ rfl) (by omega) (by omega)) rfl rfl ?_
          refine wt1 (v := .pointer (some ⟨r, i * 3 + 1, none⟩)) rfl (fun ρ e W => ex_field (q := i * 3 + 1) fi38_1 (e _ _ rfl) rfl) rfl rfl ?_
          refine wt0 (v := .int .i64 (L[i].lit)) rfl (fun ρ e W hW => ex_load1 ty3 (e _ _ rfl) ((hW.old.cell (p := ⟨r, i * 3 + 1, none⟩) hr).trans (rowcell hrow hg1))) rfl rfl ?_
          refine wt1 (v := .slice A3 k2 c3) rfl (fun ρ e W => ex_move (e _ _ rfl)) rfl rfl ?_
          refine wt1 (v := .agg #[.int .i64 (L[i].kind), .int .i64 (L[i].lit), .slice A3 k2 c3]) rfl (fun ρ e W => ex_build (cells := #[.int .i64 (L[i].kind), .int .i64 (L[i].lit), .slice A3 k2 c3]) st38 (e.parts rfl) rfl) rfl rfl ?_
          obtain ⟨g81, w82, r83, O84, hg85, hs86⟩ := own_slice O80 el22 ze38 1 [(0, .agg #[.int .i64 (L[i].kind), .int .i64 (L[i].lit), .slice A3 k2 c3])] (cs := #[.int .i64 (L[i].kind), .int .i64 (L[i].lit), .slice A3 k2 c3]) (by decide) (by kernel_rfl)
          refine wt2 (v := .slice (some ⟨g81, 0, none⟩) 1 1) rfl (fun ρ e => r83 ρ _ _ _ _ _ _ (e.parts rfl)) rfl rfl (O84.re [1, 4, 5] rfl : Own Z0 W w82 [.blk g24 3 ((intCs (p.set i (n : Int))).toArray), .ro Do (OwnIns Do o vo), .blk g3 4 ((boolCs u).toArray)]) ?_
          obtain ⟨A87, c88, w89, r90, O91, hz92, hc93⟩ := own_app1 (O84.re [3, 0, 1, 2, 4, 5] rfl : Own Z0 W w82 [.row (.slice A n cA) 38 3 n (gcells o vo), .blk g81 38 #[.int .i64 (L[i].kind), .int .i64 (L[i].lit), .slice A3 k2 c3], .blk g24 3 ((intCs (p.set i (n : Int))).toArray), .row (.slice A3 k2 c3) 3 1 k2 (intCs (L[i].inp.map (fun x : Int => p.getD x.toNat 0))), .ro Do (OwnIns Do o vo), .blk g3 4 ((boolCs u).toArray)]) ap22 ((O84.re [3, 0, 1, 2, 4, 5] rfl : Own Z0 W w82 [.row (.slice A n cA) 38 3 n (gcells o vo), .blk g81 38 #[.int .i64 (L[i].kind), .int .i64 (L[i].lit), .slice A3 k2 c3], .blk g24 3 ((intCs (p.set i (n : Int))).toArray), .row (.slice A3 k2 c3) 3 1 k2 (intCs (L[i].inp.map (fun x : Int => p.getD x.toNat 0))), .ro Do (OwnIns Do o vo), .blk g3 4 ((boolCs u).toArray)]).blk 1 rfl) (cells := [.int .i64 (L[i].kind), .int .i64 (L[i].lit), .slice A3 k2 c3]) rfl rfl (by omega) (by omega) (ys := (gcells (o ++ [(Gate.mk L[i].kind L[i].lit (L[i].inp.map (fun x : Int => p.getD x.toNat 0)))]) (vo ++ [(Value.slice A3 k2 c3)]))) (gcells_snoc (Gate.mk L[i].kind L[i].lit (L[i].inp.map (fun x : Int => p.getD x.toNat 0))) (Value.slice A3 k2 c3) o vo (O84.ro 4 rfl : OwnIns Do o vo _).1).symm
          refine wt2 (v := .slice A87 (n + 1) c88) rfl (fun ρ e => r90 ρ _ _ _ _ _ _ _ (e _ _ rfl) (e _ _ rfl)) rfl rfl (O91.re [2, 4, 5] rfl : Own Z0 W w89 [.blk g24 3 ((intCs (p.set i (n : Int))).toArray), .ro Do (OwnIns Do o vo), .blk g3 4 ((boolCs u).toArray)]) ?_
          refine wt3 (v := .slice A87 (n + 1) c88) rfl (fun ρ e => ex_assign (e _ _ rfl)) rfl rfl ?_
          refine wt_nil ?_
          refine xw_block ?_
          refine xw_next K46 ?_
          refine cw_region ?_
          refine wl_val (v := .int .i64 (i : Int)) (fun ρ e => ex_move (e _ _ rfl)) rfl rfl ?_
          refine wl_val (v := .int .i64 ((i + 1 : Nat) : Int)) (fun ρ e => ex_arith (k := .i64) (u := (i : Int)) (v := 1) (e _ _ rfl) (e _ _ rfl) (congrArg some ((congrArg _ (by omega)).trans (wrap_in (u := ((i + 1 : Nat) : Int)) (by omega) (by omega))))) rfl rfl ?_
          refine wl_val (v := .int .i64 ((i + 1 : Nat) : Int)) (fun ρ e => ex_assign (e _ _ rfl)) rfl rfl ?_
          refine wl_nil ?_
          have hlm : k2 = (L[i].inp.map (fun x : Int => p.getD x.toNat 0)).length := by simp [hke]
          have hrn := O91.rownew 3 rfl
          have O94 := Own.ownsnoc (v := .slice A3 k2 c3) (g := (Gate.mk L[i].kind L[i].lit (L[i].inp.map (fun x : Int => p.getD x.toNat 0)))) (n := k2) (D := Do) (L := o) (vs := vo) (LL := [.row (.slice A87 (n + 1) c88) 38 3 (n + 1) (gcells (o ++ [(Gate.mk L[i].kind L[i].lit (L[i].inp.map (fun x : Int => p.getD x.toNat 0)))]) (vo ++ [(Value.slice A3 k2 c3)])), .blk g81 38 #[.int .i64 (L[i].kind), .int .i64 (L[i].lit), .slice A3 k2 c3], .blk g24 3 ((intCs (p.set i (n : Int))).toArray), .blk g3 4 ((boolCs u).toArray)]) (O91.re [3, 4, 0, 1, 2, 5] rfl : Own Z0 W w89 [.row (.slice A3 k2 c3) 3 1 k2 (intCs (L[i].inp.map (fun x : Int => p.getD x.toNat 0))), .ro Do (OwnIns Do o vo), .row (.slice A87 (n + 1) c88) 38 3 (n + 1) (gcells (o ++ [(Gate.mk L[i].kind L[i].lit (L[i].inp.map (fun x : Int => p.getD x.toNat 0)))]) (vo ++ [(Value.slice A3 k2 c3)])), .blk g81 38 #[.int .i64 (L[i].kind), .int .i64 (L[i].lit), .slice A3 k2 c3], .blk g24 3 ((intCs (p.set i (n : Int))).toArray), .blk g3 4 ((boolCs u).toArray)]) hlm
          refine xw_round K37 (i + 1, A87, c88, n + 1, (o ++ [(Gate.mk L[i].kind L[i].lit (L[i].inp.map (fun x : Int => p.getD x.toNat 0)))]), (vo ++ [(Value.slice A3 k2 c3)]), (fun k => Do k ∨ (Value.ownBlock (.slice A3 k2 c3)) = some k), (p.set i (n : Int))) (by show L.length - (i + 1) < L.length - i; omega) ⟨(by show i + 1 ≤ _; omega), (by show n + 1 = (o ++ [_]).length; simp [hn]), (by show n + 1 ≤ i + 1; omega), (by show (List.set _ _ _).length = _; simp [hpl]), (fun k hk => hk.elim (hDo k) (fun q => hrn k q)), (hn ▸ hgo), (O94.re [1, 0, 3, 4] rfl : Own Z0 W w89 [.row (.slice A87 (n + 1) c88) 38 3 (n + 1) (gcells (o ++ [(Gate.mk L[i].kind L[i].lit (L[i].inp.map (fun x : Int => p.getD x.toNat 0)))]) (vo ++ [(Value.slice A3 k2 c3)])), .ro (fun k => Do k ∨ (Value.ownBlock (.slice A3 k2 c3)) = some k) (OwnIns (fun k => Do k ∨ (Value.ownBlock (.slice A3 k2 c3)) = some k) (o ++ [(Gate.mk L[i].kind L[i].lit (L[i].inp.map (fun x : Int => p.getD x.toNat 0)))]) (vo ++ [(Value.slice A3 k2 c3)])), .blk g24 3 ((intCs (p.set i (n : Int))).toArray), .blk g3 4 ((boolCs u).toArray)])⟩ ⟨rfl, rfl, rfl, rfl, rfl, trivial⟩
    · have hie : i = L.length := by omega
      rw [List.drop_eq_nil_of_le (by omega)] at hgo
      simp only [placeGo] at hgo
      refine cw_seq (fun FK95 K95 => ?_)
      refine cw_seq (fun FK96 K96 => ?_)
      refine cw_region ?_
      refine wl_val (v := .int .i64 (i : Int)) (fun ρ e => ex_move (e _ _ rfl)) rfl rfl ?_
      refine wl_val (v := .slice (some ⟨r, 0, none⟩) L.length c) (fun ρ e => ex_move (e _ _ rfl)) rfl rfl ?_
      refine wl_val (v := .int .i64 ((L.length : Nat) : Int)) (fun ρ e => ex_len el22 (e _ _ rfl)) rfl rfl ?_
      refine wl_val (v := .bool false) (fun ρ e => ex_cmp (u := (i : Int)) (v := ((L.length : Nat) : Int)) (e _ _ rfl) (e _ _ rfl) (lss0 (by omega))) rfl rfl ?_
      refine wl_nil ?_
      refine xw_next K96 ?_
      refine cw_false rfl ?_
      refine cw_exit ?_
      refine xw_past (by intro h; cases h) ?_
      refine xw_past (by intro h; cases h) ?_
      refine xw_here ?_
      refine xw_next K30 ?_
      refine cw_seq (fun FK97 K97 => ?_)
      refine cw_region ?_
      refine wl_val (v := .slice A n cA) (fun ρ e => ex_move (e _ _ rfl)) rfl rfl ?_
      refine wl_val (v := .slice A n cA) (fun ρ e => ex_assign (e _ _ rfl)) rfl rfl ?_
      refine wl_nil ?_
      refine xw_next K97 ?_
      refine cw_ret ?_
      refine xw_ret (v := .slice A n cA) (fun T hT => res1 rfl T _ (hT 4 _ rfl)) ?_
      have hres : neededG L (rt : Int) = o := by rw [needed_whole hwf hrt, hu]; exact hgo
      rw [hres, ← hn]
      exact ⟨A, cA, Do, vo, rfl, (O38.re [0, 1] rfl : Own Z0 W w35 [.row (.slice A n cA) 38 3 n (gcells o vo), .ro Do (OwnIns Do o vo)]), hDo⟩
  · obtain rfl : t = (j : Int) := by omega
    have hqj : j < L.length := by omega
    rw [useGo_succ L u hqj] at hu
    obtain ⟨ub, hub⟩ : ∃ b, u[j]? = some b := ⟨u[j], List.getElem?_eq_getElem (by omega)⟩
    rw [List.getD_eq_getElem?_getD, hub] at hu
    simp only [Option.getD_some] at hu
    obtain ⟨hg0, hg1, hg2⟩ := gcells_get (L := L) (vs := vs) (List.getElem?_eq_getElem hqj) (List.getElem?_eq_getElem (show j < vs.length by omega))
    have hD := hins.2 j _ _ (List.getElem?_eq_getElem hqj) (List.getElem?_eq_getElem (show j < vs.length by omega))
    have hwg := hwf j _ (List.getElem?_eq_getElem hqj)
    have hIV : IntsV W W.heap.size vs[j] L[j].inp := hD.V hDlt
    obtain ⟨AI, cI, hAI⟩ := hD.slice
    rw [hAI] at hg2 hIV
    cases ub
    · skip
      simp only [if_true, Bool.false_eq_true, if_false] at hu
      refine cw_seq (fun FK98 K98 => ?_)
      refine cw_seq (fun FK99 K99 => ?_)
      refine cw_region ?_
      refine wl_val (v := .int .i64 (j : Int)) (fun ρ e => ex_move (e _ _ rfl)) rfl rfl ?_
      refine wl_val (v := .bool true) (fun ρ e => ex_cmp (u := (j : Int)) (v := 0) (e _ _ rfl) (e _ _ rfl) (geq1 (by omega))) rfl rfl ?_
      refine wl_nil ?_
      refine xw_next K99 ?_
      refine cw_true rfl ?_
      refine cw_skip ?_
      refine xw_next K98 ?_
      refine cw_seq (fun FK100 K100 => ?_)
      refine cw_block ?_
      refine cw_seq (fun FK101 K101 => ?_)
      refine cw_region ?_
      refine wl_val (v := .int .i64 0) (fun ρ e => ex_assign (e _ _ rfl)) rfl rfl ?_
      refine wl_nil ?_
      refine xw_next K101 ?_
      refine cw_block ?_
      refine cw_loop (ι := Nat) (fun q => [(0, .slice (some ⟨r, 0, none⟩) L.length c), (1, .int .i64 (rt : Int)), (5, .slice (some ⟨g3, 0, none⟩) L.length L.length), (6, .int .i64 (j : Int)), (7, .int .i64 (q : Int))]) (fun q X => (q = 0) ∧ Own Z0 W X [.blk g3 4 ((boolCs u).toArray)]) (fun q => 0) 0 ⟨rfl, O19⟩ ⟨rfl, rfl, rfl, rfl, rfl, trivial⟩ (fun q w102 hJ F103 K104 => ?_)
      obtain ⟨k2, rfl⟩ : ∃ x, x = q := ⟨_, rfl⟩
      obtain ⟨hk20, O105⟩ := hJ
      try dsimp only at hk20 O105 ⊢
      subst hk20
      refine cw_seq (fun FK106 K106 => ?_)
      refine cw_seq (fun FK107 K107 => ?_)
      refine cw_region ?_
      refine wl_val (v := .slice (some ⟨g3, 0, none⟩) L.length L.length) (fun ρ e => ex_move (e _ _ rfl)) rfl rfl ?_
      refine wl_val (v := .int .i64 (j : Int)) (fun ρ e => ex_move (e _ _ rfl)) rfl rfl ?_
      refine wl_val (v := .pointer (some ⟨g3, j, none⟩)) (fun ρ e => ex_idx (q := j) (i := j) el41 (e _ _ rfl) (e _ _ rfl) (by omega) (by omega)) rfl rfl ?_
      refine wl_val (v := .bool false) (fun ρ e => ex_load1 ty4 (e _ _ rfl) (O105.cell 0 j rfl (getBo hub))) rfl rfl ?_
      refine wl_val (v := .bool false) (fun ρ e => ex_move (e _ _ rfl)) rfl rfl ?_
      refine wl_skip rfl rfl ?_
      refine wl_skip rfl rfl ?_
      refine wl_skip rfl rfl ?_
      refine wl_skip rfl rfl ?_
      refine wl_skip rfl rfl ?_
      refine wl_skip rfl rfl ?_
      refine wl_skip rfl rfl ?_
      refine wl_skip rfl rfl ?_
      refine wl_val (v := .bool false) (fun ρ e => ex_pick0 (e _ _ rfl) (e _ _ rfl)) rfl rfl ?_
      refine wl_nil ?_
      refine xw_next K107 ?_
      refine cw_false rfl ?_
      refine cw_exit ?_
      refine xw_past (by intro h; cases h) ?_
      refine xw_past (by intro h; cases h) ?_
      refine xw_here ?_
      refine xw_block ?_
      refine xw_next K100 ?_
      refine cw_region ?_
      refine wl_val (v := .int .i64 (j : Int)) (fun ρ e => ex_move (e _ _ rfl)) rfl rfl ?_
      refine wl_val (v := .int .i64 ((j : Int) - 1)) (fun ρ e => ex_arith (k := .i64) (u := (j : Int)) (v := 1) (e _ _ rfl) (e _ _ rfl) (congrArg some (wrap_in (by omega) (by omega)))) rfl rfl ?_
      refine wl_val (v := .int .i64 ((j : Int) - 1)) (fun ρ e => ex_assign (e _ _ rfl)) rfl rfl ?_
      refine wl_nil ?_
      refine xw_round K18 (j, ((j : Int) - 1), u) (by show j < j + 1; omega) ⟨(by show j ≤ _; omega), rfl, hul, hu, O105⟩ ⟨rfl, rfl, rfl, rfl, trivial⟩
    · skip
      simp only [if_true, Bool.false_eq_true, if_false] at hu
      refine cw_seq (fun FK108 K108 => ?_)
      refine cw_seq (fun FK109 K109 => ?_)
      refine cw_region ?_
      refine wl_val (v := .int .i64 (j : Int)) (fun ρ e => ex_move (e _ _ rfl)) rfl rfl ?_
      refine wl_val (v := .bool true) (fun ρ e => ex_cmp (u := (j : Int)) (v := 0) (e _ _ rfl) (e _ _ rfl) (geq1 (by omega))) rfl rfl ?_
      refine wl_nil ?_
      refine xw_next K109 ?_
      refine cw_true rfl ?_
      refine cw_skip ?_
      refine xw_next K108 ?_
      refine cw_seq (fun FK110 K110 => ?_)
      refine cw_block ?_
      refine cw_seq (fun FK111 K111 => ?_)
      refine cw_region ?_
      refine wl_val (v := .int .i64 0) (fun ρ e => ex_assign (e _ _ rfl)) rfl rfl ?_
      refine wl_nil ?_
      refine xw_next K111 ?_
      refine cw_block ?_
      have O112 : Own Z0 W w16 [.blk g3 4 ((boolCs u).toArray)] := O19
      refine cw_loop (ι := Nat × List Bool) (fun q => [(0, .slice (some ⟨r, 0, none⟩) L.length c), (1, .int .i64 (rt : Int)), (5, .slice (some ⟨g3, 0, none⟩) L.length L.length), (6, .int .i64 (j : Int)), (7, .int .i64 (q.1 : Int))]) (fun q X => (q.1 ≤ L[j].inp.length) ∧ (q.2.length = L.length) ∧ (q.2[j]? = some true) ∧ (markIn q.2 (L[j].inp.drop q.1) = markIn u L[j].inp) ∧ Own Z0 W X [.blk g3 4 ((boolCs q.2).toArray)]) (fun q => L[j].inp.length - q.1) (0, u) ⟨Nat.zero_le _, hul, hub, rfl, O112⟩ ⟨rfl, rfl, rfl, rfl, rfl, trivial⟩ (fun q w113 hJ F114 K115 => ?_)
      obtain ⟨k2, u2⟩ := q
      obtain ⟨hk20, hul2, hub2, hm, O116⟩ := hJ
      dsimp only at hk20 hul2 hub2 hm O116 ⊢
      by_cases hk2 : k2 < L[j].inp.length
      · obtain ⟨x0, hxk, hdr, hxm⟩ := drop_cons hk2
        have hxr := (good_parts hwg.1).2.2 x0 hxm
        obtain ⟨x, rfl⟩ : ∃ n : Nat, x0 = n := ⟨x0.toNat, by omega⟩
        obtain ⟨bI, oI, cJ, hbI⟩ := (IntsD.of_V hIV).form (by omega)
        refine cw_seq (fun FK117 K117 => ?_)
        refine cw_seq (fun FK118 K118 => ?_)
        refine cw_region ?_
        refine wl_val (v := .slice (some ⟨g3, 0, none⟩) L.length L.length) (fun ρ e => ex_move (e _ _ rfl)) rfl rfl ?_
        refine wl_val (v := .int .i64 (j : Int)) (fun ρ e => ex_move (e _ _ rfl)) rfl rfl ?_
        refine wl_val (v := .pointer (some ⟨g3, j, none⟩)) (fun ρ e => ex_idx (q := j) (i := j) el41 (e _ _ rfl) (e _ _ rfl) (by omega) (by omega)) rfl rfl ?_
        refine wl_val (v := .bool true) (fun ρ e => ex_load1 ty4 (e _ _ rfl) (O116.cell 0 j rfl (getBo hub2))) rfl rfl ?_
        refine wl_val (v := .bool true) (fun ρ e => ex_move (e _ _ rfl)) rfl rfl ?_
        refine wl_val (v := .int .i64 (k2 : Int)) (fun ρ e => ex_move (e _ _ rfl)) rfl rfl ?_
        refine wl_val (v := .slice (some ⟨r, 0, none⟩) L.length c) (fun ρ e => ex_move (e _ _ rfl)) rfl rfl ?_
        refine wl_val (v := .int .i64 (j : Int)) (fun ρ e => ex_move (e _ _ rfl)) rfl rfl ?_
        refine wl_val (v := .pointer (some ⟨r, j * 3, none⟩)) (fun ρ e => ex_idx (q := j * 3) (i := j) el22 (e _ _ rfl) (e _ _ rfl) (by omega) (by omega)) rfl rfl ?_
        refine wl_val (v := .pointer (some ⟨r, j * 3 + 2, none⟩)) (fun ρ e => ex_field (q := j * 3 + 2) fi38_2 (e _ _ rfl) rfl) rfl rfl ?_
        refine wl_val (v := .slice AI (L[j].inp.length) cI) (fun ρ e => ex_load1 ty36 (e _ _ rfl) ((O116.old.cell (p := ⟨r, j * 3 + 2, none⟩) hr).trans (rowcell hrow hg2))) rfl rfl ?_
        refine wl_val (v := .int .i64 ((L[j].inp.length : Nat) : Int)) (fun ρ e => ex_len el36 (e _ _ rfl)) rfl rfl ?_
        refine wl_val (v := .bool true) (fun ρ e => ex_cmp (u := (k2 : Int)) (v := ((L[j].inp.length : Nat) : Int)) (e _ _ rfl) (e _ _ rfl) (lss1 (by omega))) rfl rfl ?_
        refine wl_val (v := .bool true) (fun ρ e => ex_pick1 (e _ _ rfl) (e _ _ rfl)) rfl rfl ?_
        refine wl_nil ?_
        refine xw_next K118 ?_
        refine cw_true rfl ?_
        refine cw_skip ?_
        refine xw_next K117 ?_
        refine cw_seq (fun FK119 K119 => ?_)
        refine cw_block ?_
        refine cw_region ?_
        refine wl_val (v := .slice (some ⟨g3, 0, none⟩) L.length L.length) (fun ρ e => ex_move (e _ _ rfl)) rfl rfl ?_
        refine wl_val (v := .slice (some ⟨r, 0, none⟩) L.length c) (fun ρ e => ex_move (e _ _ rfl)) rfl rfl ?_
        refine wl_val (v := .int .i64 (j : Int)) (fun ρ e => ex_move (e _ _ rfl)) rfl rfl ?_
        refine wl_val (v := .pointer (some ⟨r, j * 3, none⟩)) (fun ρ e => ex_idx (q := j * 3) (i := j) el22 (e _ _ rfl) (e _ _ rfl) (by omega) (by omega)) rfl rfl ?_
        refine wl_val (v := .pointer (some ⟨r, j * 3 + 2, none⟩)) (fun ρ e => ex_field (q := j * 3 + 2) fi38_2 (e _ _ rfl) rfl) rfl rfl ?_
        refine wl_val (v := .slice AI (L[j].inp.length) cI) (fun ρ e => ex_load1 ty36 (e _ _ rfl) ((O116.old.cell (p := ⟨r, j * 3 + 2, none⟩) hr).trans (rowcell hrow hg2))) rfl rfl ?_
        refine wl_val (v := .int .i64 (k2 : Int)) (fun ρ e => ex_move (e _ _ rfl)) rfl rfl ?_
        refine wl_val (v := .pointer (some ⟨bI, oI + k2, none⟩)) (fun ρ e => ex_idx (q := oI + k2) (o := oI) (i := k2) el36 ((e _ _ rfl).trans hbI) (e _ _ rfl) hk2 (by omega)) rfl rfl ?_
        refine wl_val (v := .int .i64 (x : Int)) (fun ρ e => ex_load1 ty3 (e _ _ rfl) (((hIV.below O116.old).at1 hbI hk2 hxk))) rfl rfl ?_
        refine wl_val (v := .pointer (some ⟨g3, x, none⟩)) (fun ρ e => ex_idx (q := x) (i := x) el41 (e _ _ rfl) (e _ _ rfl) (by omega) (by omega)) rfl rfl ?_
        obtain ⟨w120, r121, O122, hs123⟩ := own_put (o := x) (n := 1) O116 ty4 (.bool true) [.bool true] (cs' := (boolCs (u2.set x true)).toArray) rfl rfl rfl (by simp [boolCs] <;> omega) (setBo u2 x true)
        refine wl_none (fun ρ e => r121 ρ _ _ _ _ _ _ (e _ _ rfl) (e _ _ rfl)) rfl ?_
        refine wl_nil ?_
        refine xw_block ?_
        refine xw_next K119 ?_
        refine cw_region ?_
        refine wl_val (v := .int .i64 (k2 : Int)) (fun ρ e => ex_move (e _ _ rfl)) rfl rfl ?_
        refine wl_val (v := .int .i64 ((k2 + 1 : Nat) : Int)) (fun ρ e => ex_arith (k := .i64) (u := (k2 : Int)) (v := 1) (e _ _ rfl) (e _ _ rfl) (congrArg some ((congrArg _ (by omega)).trans (wrap_in (u := ((k2 + 1 : Nat) : Int)) (by omega) (by omega))))) rfl rfl ?_
        refine wl_val (v := .int .i64 ((k2 + 1 : Nat) : Int)) (fun ρ e => ex_assign (e _ _ rfl)) rfl rfl ?_
        refine wl_nil ?_
        refine xw_round K115 (k2 + 1, (u2.set x true)) (by show L[j].inp.length - (k2 + 1) < L[j].inp.length - k2; omega) ⟨(by show k2 + 1 ≤ _; omega), (by show (List.set _ _ _).length = _; simp [hul2]), (set_true_get hub2), (by show markIn (u2.set x true) (L[j].inp.drop (k2 + 1)) = _; rw [← hm, hdr, markIn_cons]; rfl), O122⟩ ⟨rfl, rfl, rfl, rfl, rfl, trivial⟩
      · have hke : k2 = L[j].inp.length := by omega
        rw [List.drop_eq_nil_of_le (by omega)] at hm
        have hu3 : useW L rt = useGo L j u2 := by rw [hu, ← hm]; rfl
        refine cw_seq (fun FK124 K124 => ?_)
        refine cw_seq (fun FK125 K125 => ?_)
        refine cw_region ?_
        refine wl_val (v := .slice (some ⟨g3, 0, none⟩) L.length L.length) (fun ρ e => ex_move (e _ _ rfl)) rfl rfl ?_
        refine wl_val (v := .int .i64 (j : Int)) (fun ρ e => ex_move (e _ _ rfl)) rfl rfl ?_
        refine wl_val (v := .pointer (some ⟨g3, j, none⟩)) (fun ρ e => ex_idx (q := j) (i := j) el41 (e _ _ rfl) (e _ _ rfl) (by omega) (by omega)) rfl rfl ?_
        refine wl_val (v := .bool true) (fun ρ e => ex_load1 ty4 (e _ _ rfl) (O116.cell 0 j rfl (getBo hub2))) rfl rfl ?_
        refine wl_val (v := .bool true) (fun ρ e => ex_move (e _ _ rfl)) rfl rfl ?_
        refine wl_val (v := .int .i64 (k2 : Int)) (fun ρ e => ex_move (e _ _ rfl)) rfl rfl ?_
        refine wl_val (v := .slice (some ⟨r, 0, none⟩) L.length c) (fun ρ e => ex_move (e _ _ rfl)) rfl rfl ?_
        refine wl_val (v := .int .i64 (j : Int)) (fun ρ e => ex_move (e _ _ rfl)) rfl rfl ?_
        refine wl_val (v := .pointer (some ⟨r, j * 3, none⟩)) (fun ρ e => ex_idx (q := j * 3) (i := j) el22 (e _ _ rfl) (e _ _ rfl) (by omega) (by omega)) rfl rfl ?_
        refine wl_val (v := .pointer (some ⟨r, j * 3 + 2, none⟩)) (fun ρ e => ex_field (q := j * 3 + 2) fi38_2 (e _ _ rfl) rfl) rfl rfl ?_
        refine wl_val (v := .slice AI (L[j].inp.length) cI) (fun ρ e => ex_load1 ty36 (e _ _ rfl) ((O116.old.cell (p := ⟨r, j * 3 + 2, none⟩) hr).trans (rowcell hrow hg2))) rfl rfl ?_
        refine wl_val (v := .int .i64 ((L[j].inp.length : Nat) : Int)) (fun ρ e => ex_len el36 (e _ _ rfl)) rfl rfl ?_
        refine wl_val (v := .bool false) (fun ρ e => ex_cmp (u := (k2 : Int)) (v := ((L[j].inp.length : Nat) : Int)) (e _ _ rfl) (e _ _ rfl) (lss0 (by omega))) rfl rfl ?_
        refine wl_val (v := .bool false) (fun ρ e => ex_pick1 (e _ _ rfl) (e _ _ rfl)) rfl rfl ?_
        refine wl_nil ?_
        refine xw_next K125 ?_
        refine cw_false rfl ?_
        refine cw_exit ?_
        refine xw_past (by intro h; cases h) ?_
        refine xw_past (by intro h; cases h) ?_
        refine xw_here ?_
        refine xw_block ?_
        refine xw_next K110 ?_
        refine cw_region ?_
        refine wl_val (v := .int .i64 (j : Int)) (fun ρ e => ex_move (e _ _ rfl)) rfl rfl ?_
        refine wl_val (v := .int .i64 ((j : Int) - 1)) (fun ρ e => ex_arith (k := .i64) (u := (j : Int)) (v := 1) (e _ _ rfl) (e _ _ rfl) (congrArg some (wrap_in (by omega) (by omega)))) rfl rfl ?_
        refine wl_val (v := .int .i64 ((j : Int) - 1)) (fun ρ e => ex_assign (e _ _ rfl)) rfl rfl ?_
        refine wl_nil ?_
        refine xw_round K18 (j, ((j : Int) - 1), u2) (by show j < j + 1; omega) ⟨(by show j ≤ _; omega), rfl, hul2, hu3, O116⟩ ⟨rfl, rfl, rfl, rfl, trivial⟩
end Go.Proofs.YtbemhgojfehnjaaDoor
