/-
  Lemmas and contracts, joined: Vvars.
-/
import Derived.Test.YtpeoodkepjhhiaaDoorPf4
import Derived.Test.YtpeoodkepjhhiaaDoorPf1
namespace Go.Proofs.YtpeoodkepjhhiaaDoor
open Go Go.RowKit
def vcell (s : VS) : List Value := [.int .u64 (s.a.toNat : Int), .int .u64 (s.b.toNat : Int)]
def vcells (l : List VS) : List Value := l.flatMap vcell
theorem vcells_len (l : List VS) : (vcells l).length = l.length * 2 := by
  induction l with
  | nil => rfl
  | cons x r ih => simp only [vcells, List.flatMap_cons, List.length_append, List.length_cons] at ih ⊢; rw [ih]; simp [vcell]; omega
theorem vcells_get : ∀ {l : List VS} {k : Nat} {s : VS}, l[k]? = some s → (vcells l)[k * 2]? = some (.int .u64 (s.a.toNat : Int)) ∧ (vcells l)[k * 2 + 1]? = some (.int .u64 (s.b.toNat : Int))
  | [], k, s, h => by simp at h
  | y :: r, 0, s, h => by
    simp at h; subst h
    simp [vcells, vcell]
  | y :: r, k + 1, s, h => by
    have ih := vcells_get (l := r) (k := k) (s := s) (by simpa using h)
    have e : vcells (y :: r) = vcell y ++ vcells r := by simp [vcells]
    rw [e]
    have hl : (vcell y).length = 2 := rfl
    refine ⟨?_, ?_⟩
    · rw [List.getElem?_append_right (by omega), hl, show (k + 1) * 2 - 2 = k * 2 by omega]; exact ih.1
    · rw [List.getElem?_append_right (by omega), hl, show (k + 1) * 2 + 1 - 2 = k * 2 + 1 by omega]; exact ih.2
theorem vcells_set : ∀ (l : List VS) (k : Nat) (s : VS), ((vcells l).set (k * 2) (.int .u64 (s.a.toNat : Int))).set (k * 2 + 1) (.int .u64 (s.b.toNat : Int)) = vcells (l.set k s)
  | [], k, s => by simp [vcells]
  | y :: r, 0, s => by simp [vcells, vcell]
  | y :: r, k + 1, s => by
    have ih := vcells_set r k s
    have e : vcells (y :: r) = .int .u64 (y.a.toNat : Int) :: .int .u64 (y.b.toNat : Int) :: vcells r := by simp [vcells, vcell]
    have e2 : vcells ((y :: r).set (k + 1) s) = .int .u64 (y.a.toNat : Int) :: .int .u64 (y.b.toNat : Int) :: vcells (r.set k s) := by simp [vcells, vcell]
    rw [e, e2, ← ih, show (k + 1) * 2 = (k * 2 + 1) + 1 by omega]
    rfl
theorem getV0 {l : List VS} {k : Nat} {s : VS} (h : l[k]? = some s) : (vcells l).toArray[k * 2]? = some (.int .u64 (s.a.toNat : Int)) := by simpa using (vcells_get h).1
theorem getV1 {l : List VS} {k : Nat} {s : VS} (h : l[k]? = some s) : (vcells l).toArray[k * 2 + 1]? = some (.int .u64 (s.b.toNat : Int)) := by simpa using (vcells_get h).2
theorem setV (l : List VS) (k : Nat) (s : VS) : setN (vcells l).toArray (k * 2) [.int .u64 (s.a.toNat : Int), .int .u64 (s.b.toNat : Int)] = (vcells (l.set k s)).toArray := by
  rw [← vcells_set]
  simp [setN]
section
variable {ρ : Operand → Value} {d : Option Tmp} {x0 y0 : Operand} {t T T1 : TypeId} {pos0 : String} {aft : Array Edge} {gd : Option (Nat × Bool)} {w : World}
end
theorem vcells_rep : ∀ n : Nat, vcells (List.replicate n VS.empty) = List.replicate (n * 2) (.int .u64 0)
  | 0 => rfl
  | n + 1 => by
    have e1 : vcells (List.replicate (n + 1) VS.empty) = .int .u64 0 :: .int .u64 0 :: vcells (List.replicate n VS.empty) := by simp [vcells, vcell, List.replicate_succ, VS.empty]
    rw [e1, vcells_rep n, show (n + 1) * 2 = n * 2 + 1 + 1 by omega, List.replicate_succ, List.replicate_succ]
section
variable {Z : Bool → Nat → Prop} {w0 w W : World} {L : List En}
theorem own_makeV (O : Own Z w0 w L) (n : Nat) (hn : n ≤ 1000000) {cs : Array Value} (hc : (vcells (List.replicate n VS.empty)).toArray = cs) :
    ∃ g w', (∀ (ρ : Operand → Value) x y d t pos aft gd, ρ x = .int .i64 (n : Int) → ρ y = .int .i64 (n : Int) → (execOp ρ ⟨d, .makeSlice 53 x y, t, pos, aft, gd⟩).run Tryd.prog w = .ok (.value (.slice (some ⟨g, 0, none⟩) n n)) w') ∧ Own Z w0 w' (.blk g 57 cs :: L) ∧ w.heap.size = g ∧ w'.heap.size = g + 1 := by
  subst hc
  obtain ⟨i, hi, hz, hsz, hby⟩ := info_parts ap53.info
  have hb8 : ((i.bytes : Nat) : Int) * (n : Int) ≤ 281474976710656 := by
    rw [hby]
    omega
  have hr := run_make (P := Tryd.prog) w 53 57 i (.agg #[.int .u64 0, .int .u64 0]) ap53.under hi hz .i64 .i64 n n (by omega) (by omega) hb8 (by omega)
  have hm : madeCells #[Value.int .u64 0, Value.int .u64 0] (n * 2) = (vcells (List.replicate n VS.empty)).toArray := by
    have e := vcells_rep n
    rw [e]
    apply Array.ext
    · simp [madeCells]
    · intro j h1 h2
      simp only [madeCells, List.getElem_toArray, List.getElem_replicate]
      have hj : j % 2 = 0 ∨ j % 2 = 1 := by omega
      rcases hj with hj | hj <;> simp [hj]
  rw [hsz, Int.toNat_natCast] at hr
  have hz2 : (Value.agg #[.int .u64 0, .int .u64 0]).cells = #[.int .u64 0, .int .u64 0] := rfl
  rw [hz2, hm] at hr
  refine ⟨w.heap.size, _, fun ρ x y d t pos aft gd hx hy => ?_, O.newb ((Below.refl _ _).alloc (Nat.le_refl _) _) (Blk.new w 57 _) rfl, rfl, by simp⟩
  simp only [execOp, hx, hy, Sem.run_bind, hr, Result.andThen_ok, Sem.run_pure]
theorem Own.blkrowV {g n : Nat} {l : List VS} (h : Own Z w0 W (.blk g 57 (vcells l).toArray :: L)) (hn : l.length = n) (hm : n ≤ 1000000) : Own Z w0 W (.row (.slice (some ⟨g, 0, none⟩) n n) 57 2 n (vcells l) :: L) := by
  subst hn
  refine h.as (e' := .row (.slice (some ⟨g, 0, none⟩) l.length l.length) 57 2 l.length (vcells l)) ⟨by rw [vcells_len], .inr ⟨g, l.length, (vcells l).toArray, rfl, Nat.zero_le _, h.blk 0 rfl, Nat.le_refl _, by unfold maxLen; omega, by simp [vcells_len], List.take_of_length_le (by simp [vcells_len])⟩⟩ (fun k hk => ?_) (fun _ => trivial)
  have : some g = some k := hk
  injection this with this
  exact this.symm
end
set_option maxHeartbeats 400000 in
theorem vars_union (s t : VS) (w : World) :
    Calls Tryd.prog 74 #[.agg #[.int .u64 (s.a.toNat : Int), .int .u64 (s.b.toNat : Int)], .agg #[.int .u64 (t.a.toNat : Int), .int .u64 (t.b.toNat : Int)]] w fun e w' => e = .returned (.agg #[.int .u64 ((s.union t).a.toNat : Int), .int .u64 ((s.union t).b.toNat : Int)]) ∧ Below w.heap.size w w' := by
  obtain ⟨a, b⟩ := s
  obtain ⟨c, d⟩ := t
  unfold VS.union
  go_enter Tryd.func74, Tryd.ntmps74
  go_wp2
  go_returns
  exact ⟨ret_agg2 (by rw [bits_or_bv]) (by rw [bits_or_bv]), by go_grown⟩
theorem vvars_ok {W : World} {D : Nat → Prop} {b o c : Nat} {ts : List VN} (hN : NodesD D W (.slice (some ⟨b, o, none⟩) ts.length c) ts) (hD : ∀ k, D k → k < W.heap.size) (hok : okT ts = true) : Calls Tryd.prog 44 #[.slice (some ⟨b, o, none⟩) ts.length c] W fun e w' => ∃ g c', e = .returned (.slice (some ⟨g, 0, none⟩) ts.length c') ∧ Own Z0 W w' [.row (.slice (some ⟨g, 0, none⟩) ts.length c') 57 2 ts.length (vcells (setsOf ts))] := by
  have hV := okT_val hok
  have hpos := hV.pos
  have hle := hV.le
  have O0 : Own Z0 W W [.ro D (fun w => NodesD D w (.slice (some ⟨b, o, none⟩) ts.length c) ts)] := (Own.start W).oldro (D := D) (p := (fun w => NodesD D w (.slice (some ⟨b, o, none⟩) ts.length c) ts)) (nodesE_holds hN hD)
  refine sx_enter (args := [.slice (some ⟨b, o, none⟩) ts.length c]) Tryd.func44 rfl rfl (by simp) ?_
  refine cw_seq (fun FK1 K1 => ?_)
  refine cw_region ?_
  refine wl_val (v := .slice none 0 0) (fun ρ e => ex_assign (e _ _ rfl)) rfl rfl ?_
  refine wl_nil ?_
  refine xw_next K1 ?_
  refine cw_seq (fun FK2 K2 => ?_)
  refine cw_seq (fun FK3 K3 => ?_)
  refine cw_region ?_
  refine wl_val (v := .slice (some ⟨b, o, none⟩) ts.length c) (fun ρ e => ex_move (e _ _ rfl)) rfl rfl ?_
  refine wl_call (args := [.slice (some ⟨b, o, none⟩) ts.length c]) in_23 rfl rfl rfl ?_
  refine (checkb_ (hN.move (fun k hk => (O0.old).block k (hD k hk))) (fun k hk => Nat.lt_of_lt_of_le (hD k hk) (O0.old).size) (chk_val hok)).mono ?_
  rintro _ w4 ⟨rfl, hb5⟩
  have O6 : Own Z0 W w4 [.ro D (fun w => NodesD D w (.slice (some ⟨b, o, none⟩) ts.length c) ts)] := O0.below hb5
  refine ⟨_, rfl, ?_⟩
  refine wl_val (v := .bool false) (fun ρ e => ex_cmp (u := 0) (v := 0) (e _ _ rfl) (e _ _ rfl) (neq0 (by omega))) rfl rfl ?_
  refine wl_nil ?_
  refine xw_next K3 ?_
  refine cw_false rfl ?_
  refine cw_skip ?_
  refine xw_next K2 ?_
  refine cw_seq (fun FK7 K7 => ?_)
  refine cw_region ?_
  refine wl_val (v := .slice (some ⟨b, o, none⟩) ts.length c) (fun ρ e => ex_move (e _ _ rfl)) rfl rfl ?_
  refine wl_val (v := .int .i64 ((ts.length : Nat) : Int)) (fun ρ e => ex_len el23 (e _ _ rfl)) rfl rfl ?_
  obtain ⟨g8, w9, r10, O11, hg12, hs13⟩ := own_makeV O6 ts.length (by omega) (cs := (vcells (upS ts 0)).toArray) (by rw [upS_zero])
  refine wl_val (v := .slice (some ⟨g8, 0, none⟩) ts.length ts.length) (fun ρ e => r10 ρ _ _ _ _ _ _ _ (e _ _ rfl) (e _ _ rfl)) rfl rfl ?_
  refine wl_val (v := .slice (some ⟨g8, 0, none⟩) ts.length ts.length) (fun ρ e => ex_assign (e _ _ rfl)) rfl rfl ?_
  refine wl_nil ?_
  refine xw_next K7 ?_
  refine cw_seq (fun FK14 K14 => ?_)
  refine cw_seq (fun FK15 K15 => ?_)
  refine cw_region ?_
  refine wl_val (v := .slice (some ⟨b, o, none⟩) ts.length c) (fun ρ e => ex_move (e _ _ rfl)) rfl rfl ?_
  refine wl_val (v := .int .i64 ((ts.length : Nat) : Int)) (fun ρ e => ex_len el23 (e _ _ rfl)) rfl rfl ?_
  refine wl_val (v := .int .i64 0) (fun ρ e => ex_move (e _ _ rfl)) rfl rfl ?_
  refine wl_nil ?_
  refine xw_next K15 ?_
  refine cw_block ?_
  have O16 : Own Z0 W w9 [.blk g8 57 ((vcells (upS ts 0)).toArray), .ro D (fun w => NodesD D w (.slice (some ⟨b, o, none⟩) ts.length c) ts)] := O11
  refine cw_loop (ι := Nat) (fun q => [(3, .slice (some ⟨g8, 0, none⟩) ts.length ts.length), (12, .slice (some ⟨b, o, none⟩) ts.length c), (13, .int .i64 ((ts.length : Nat) : Int)), (14, .int .i64 (q : Int))]) (fun q X => (q ≤ ts.length) ∧ Own Z0 W X [.blk g8 57 ((vcells (upS ts q)).toArray), .ro D (fun w => NodesD D w (.slice (some ⟨b, o, none⟩) ts.length c) ts)]) (fun q => ts.length - q) 0 ⟨Nat.zero_le _, O16⟩ ⟨rfl, rfl, rfl, rfl, trivial⟩ (fun q w17 hJ F18 K19 => ?_)
  obtain ⟨i, rfl⟩ : ∃ x, x = q := ⟨_, rfl⟩
  obtain ⟨hi0, O20⟩ := hJ
  try dsimp only at hi0 O20 ⊢
  by_cases hi : i < ts.length
  · skip
    rcases hV.kind i _ (List.getElem?_eq_getElem hi) with ⟨v, hx0, h1, h2⟩ | ⟨a, b2, hx0, ha, hb, hab⟩
    · skip
      have hx : ts[i]? = some ⟨-1, -1, v⟩ := by rw [List.getElem?_eq_getElem hi, hx0]
      have hlf : (lf (VN.mk (-1) (-1) v)) = true := lf_leaf h1 h2
      refine cw_seq (fun FK21 K21 => ?_)
      refine cw_region ?_
      refine wl_val (v := .bool true) (fun ρ e => ex_cmp (u := (i : Int)) (v := ((ts.length : Nat) : Int)) (e _ _ rfl) (e _ _ rfl) (lss1 (by omega))) rfl rfl ?_
      refine wl_nil ?_
      refine xw_next K21 ?_
      refine cw_seq (fun FK22 K22 => ?_)
      refine cw_true rfl ?_
      refine cw_skip ?_
      refine xw_next K22 ?_
      refine cw_seq (fun FK23 K23 => ?_)
      refine cw_block ?_
      refine cw_seq (fun FK24 K24 => ?_)
      refine cw_region ?_
      refine wl_val (v := .int .i64 (i : Int)) (fun ρ e => ex_move (e _ _ rfl)) rfl rfl ?_
      refine wl_val (v := .pointer (some ⟨b, o + i * 3, none⟩)) (fun ρ e => ex_idx (q := o + i * 3) (i := i) el23 (e _ _ rfl) (e _ _ rfl) (by omega) (by omega)) rfl rfl ?_
      refine wl_val (v := .agg #[.int .i64 (-1), .int .i64 (-1), .int .i64 v]) (fun ρ e => ex_loadN (vs := [.int .i64 (-1), .int .i64 (-1), .int .i64 v]) ty38 (e _ _ rfl) rfl (cells3 (NodesD.c0 ((O20.ro 1 rfl : (fun w => NodesD D w (.slice (some ⟨b, o, none⟩) ts.length c) ts) _) : NodesD _ _ _ _) hx) (NodesD.c1 ((O20.ro 1 rfl : (fun w => NodesD D w (.slice (some ⟨b, o, none⟩) ts.length c) ts) _) : NodesD _ _ _ _) hx) (NodesD.c2 ((O20.ro 1 rfl : (fun w => NodesD D w (.slice (some ⟨b, o, none⟩) ts.length c) ts) _) : NodesD _ _ _ _) hx))) rfl rfl ?_
      obtain ⟨g25, w26, r27, O28, hg29, hs30⟩ := own_alloc O20 38 ze38 rfl
      refine wl_val (v := .pointer (some ⟨g25, 0, none⟩)) (fun ρ e => r27 ρ _ _ _ _ _) rfl rfl ?_
      refine wl_val (v := .int .i64 (i : Int)) (fun ρ e => ex_assign (e _ _ rfl)) rfl rfl ?_
      obtain ⟨w31, r32, O33, hs34⟩ := own_put (o := 0) (n := 3) O28 ty38 (.agg #[.int .i64 (-1), .int .i64 (-1), .int .i64 v]) [.int .i64 (-1), .int .i64 (-1), .int .i64 v] (cs' := #[.int .i64 (-1), .int .i64 (-1), .int .i64 v]) rfl rfl rfl (Nat.le_of_ble_eq_true rfl) rfl
      refine wl_none (fun ρ e => r32 ρ _ _ _ _ _ _ (e _ _ rfl) (e _ _ rfl)) rfl ?_
      refine wl_nil ?_
      refine xw_next K24 ?_
      refine cw_seq (fun FK35 K35 => ?_)
      refine cw_region ?_
      refine wl_val (v := .agg #[.int .i64 (-1), .int .i64 (-1), .int .i64 v]) (fun ρ e => ex_loadN (vs := [.int .i64 (-1), .int .i64 (-1), .int .i64 v]) ty38 (e _ _ rfl) rfl (O33.cells 0 0 rfl rfl)) rfl rfl ?_
      refine wl_call (args := [.agg #[.int .i64 (-1), .int .i64 (-1), .int .i64 v]]) in_53 rfl rfl rfl ?_
      refine (isleaf_ (VN.mk (-1) (-1) v) (W := w31)).mono ?_
      rintro _ w36 ⟨rfl, hb37⟩
      have O38 : Own Z0 W w36 [.blk g25 38 #[.int .i64 (-1), .int .i64 (-1), .int .i64 v], .blk g8 57 ((vcells (upS ts i)).toArray), .ro D (fun w => NodesD D w (.slice (some ⟨b, o, none⟩) ts.length c) ts)] := O33.below hb37
      refine ⟨_, rfl, ?_⟩
      refine wl_nil ?_
      refine xw_next K35 ?_
      refine cw_true (congrArg (fun b => some (Value.bool b)) hlf) ?_
      refine cw_drawn (fun X => Own Z0 W X [.blk g25 38 #[.int .i64 (-1), .int .i64 (-1), .int .i64 v], .blk g8 57 ((vcells (upS ts i)).toArray), .ro D (fun w => NodesD D w (.slice (some ⟨b, o, none⟩) ts.length c) ts)]) 10 [(0, 1), (1, 1), (2, 1), (3, 1), (4, 1), (5, 0), (6, 1), (7, 0), (8, 2), (9, 1), (10, 3)] (by kernel_rfl) (by kernel_rfl) (PQ.block (PQ.then_ (PQ.then_ (PQ.block (PQ.then_ PQ.body))))) (O38).drew ?_
      have O39 : Own Z0 W w36.drew [.blk g25 38 #[.int .i64 (-1), .int .i64 (-1), .int .i64 v], .blk g8 57 ((vcells (upS ts i)).toArray), .ro D (fun w => NodesD D w (.slice (some ⟨b, o, none⟩) ts.length c) ts)] := O38.drew
      refine wt1 (v := .slice (some ⟨g8, 0, none⟩) ts.length ts.length) rfl (fun ρ e W => ex_move (e _ _ rfl)) rfl rfl ?_
      refine wt1 (v := .int .i64 (i : Int)) rfl (fun ρ e W => ex_move (e _ _ rfl)) rfl rfl ?_
      refine wt1 (v := .slice (some ⟨g8, 0, none⟩) ts.length ts.length) rfl (fun ρ e W => ex_move (e _ _ rfl)) rfl rfl ?_
      refine wt1 (v := .int .i64 (i : Int)) rfl (fun ρ e W => ex_move (e _ _ rfl)) rfl rfl ?_
      refine wt1 (v := .pointer (some ⟨g8, i * 2, none⟩)) rfl (fun ρ e W => ex_idx (q := i * 2) (i := i) el53 (e _ _ rfl) (e _ _ rfl) (by omega) (by omega)) rfl rfl ?_
      refine wt0 (v := .agg #[.int .u64 (VS.empty.a.toNat : Int), .int .u64 (VS.empty.b.toNat : Int)]) rfl (fun ρ e W hW => ex_loadN (vs := [.int .u64 (VS.empty.a.toNat : Int), .int .u64 (VS.empty.b.toNat : Int)]) ty57 (e _ _ rfl) rfl (cells2 ((hW.blk 1 rfl).cell _ |>.trans (getV0 (upS_new hi))) ((hW.blk 1 rfl).cell _ |>.trans (getV1 (upS_new hi))))) rfl rfl ?_
      refine wt1 (v := .pointer (some ⟨g25, 2, none⟩)) rfl (fun ρ e W => ex_field (q := 2) fi38_2 (e _ _ rfl) rfl) rfl rfl ?_
      refine wt0 (v := .int .i64 v) rfl (fun ρ e W hW => ex_load1 ty3 (e _ _ rfl) (hW.cell 0 2 rfl rfl)) rfl rfl ?_
      refine wt2_call (args := [.agg #[.int .u64 (VS.empty.a.toNat : Int), .int .u64 (VS.empty.b.toNat : Int)], .int .i64 v]) rfl in_73 rfl rfl rfl ?_
      have hset : VS.with_ VS.empty v = (setT (trF ts ts.length i)) := by rw [tr_leaf hx h1 h2]; rfl
      have hcw := vars_with VS.empty.a VS.empty.b v w36.drew
      rw [show (⟨VS.empty.a, VS.empty.b⟩ : VS) = VS.empty from rfl, hset] at hcw
      refine hcw.mono ?_
      rintro _ w40 ⟨rfl, hb41⟩
      have O42 : Own Z0 W w40 [.blk g25 38 #[.int .i64 (-1), .int .i64 (-1), .int .i64 v], .blk g8 57 ((vcells (upS ts i)).toArray), .ro D (fun w => NodesD D w (.slice (some ⟨b, o, none⟩) ts.length c) ts)] := O39.below hb41
      refine ⟨_, rfl, O42, ?_⟩
      refine wt1 (v := .pointer (some ⟨g8, i * 2, none⟩)) rfl (fun ρ e W => ex_idx (q := i * 2) (i := i) el53 (e _ _ rfl) (e _ _ rfl) (by omega) (by omega)) rfl rfl ?_
      obtain ⟨w43, r44, O45, hs46⟩ := own_put (o := i * 2) (n := 2) (O42.re [1, 0, 2] rfl : Own Z0 W w40 [.blk g8 57 ((vcells (upS ts i)).toArray), .blk g25 38 #[.int .i64 (-1), .int .i64 (-1), .int .i64 v], .ro D (fun w => NodesD D w (.slice (some ⟨b, o, none⟩) ts.length c) ts)]) ty57 (.agg #[.int .u64 ((setT (trF ts ts.length i)).a.toNat : Int), .int .u64 ((setT (trF ts ts.length i)).b.toNat : Int)]) [.int .u64 ((setT (trF ts ts.length i)).a.toNat : Int), .int .u64 ((setT (trF ts ts.length i)).b.toNat : Int)] (cs' := (vcells ((upS ts i).set i (setT (trF ts ts.length i)))).toArray) rfl rfl rfl (by simp [vcells_len, upS_len] <;> omega) (setV _ i (setT (trF ts ts.length i)))
      refine wt3_none rfl (fun ρ e => r44 ρ _ _ _ _ _ _ (e _ _ rfl) (e _ _ rfl)) rfl ?_
      refine wt_nil ?_
      refine xw_block ?_
      refine xw_next K23 ?_
      refine cw_region ?_
      refine wl_val (v := .int .i64 ((i + 1 : Nat) : Int)) (fun ρ e => ex_arith (k := .i64) (u := (i : Int)) (v := 1) (e _ _ rfl) (e _ _ rfl) (congrArg some ((congrArg _ (by omega)).trans (wrap_in (u := ((i + 1 : Nat) : Int)) (by omega) (by omega))))) rfl rfl ?_
      refine wl_val (v := .int .i64 ((i + 1 : Nat) : Int)) (fun ρ e => ex_move (e _ _ rfl)) rfl rfl ?_
      refine wl_nil ?_
      have O47 : Own Z0 W w43 [.blk g8 57 ((vcells (upS ts (i + 1))).toArray), .ro D (fun w => NodesD D w (.slice (some ⟨b, o, none⟩) ts.length c) ts)] := by rw [← upS_set hi]; exact (O45.re [0, 2] rfl : Own Z0 W w43 [.blk g8 57 ((vcells ((upS ts i).set i (setT (trF ts ts.length i)))).toArray), .ro D (fun w => NodesD D w (.slice (some ⟨b, o, none⟩) ts.length c) ts)])
      refine xw_round K19 (i + 1) (by show ts.length - (i + 1) < ts.length - i; omega) ⟨(by show i + 1 ≤ ts.length; omega), O47⟩ ⟨rfl, rfl, rfl, rfl, trivial⟩
    · skip
      have hx : ts[i]? = some ⟨(a : Int), (b2 : Int), 0⟩ := by rw [List.getElem?_eq_getElem hi, hx0]
      have hlf : (lf (VN.mk (a : Int) (b2 : Int) 0)) = false := lf_inner a b2
      refine cw_seq (fun FK48 K48 => ?_)
      refine cw_region ?_
      refine wl_val (v := .bool true) (fun ρ e => ex_cmp (u := (i : Int)) (v := ((ts.length : Nat) : Int)) (e _ _ rfl) (e _ _ rfl) (lss1 (by omega))) rfl rfl ?_
      refine wl_nil ?_
      refine xw_next K48 ?_
      refine cw_seq (fun FK49 K49 => ?_)
      refine cw_true rfl ?_
      refine cw_skip ?_
      refine xw_next K49 ?_
      refine cw_seq (fun FK50 K50 => ?_)
      refine cw_block ?_
      refine cw_seq (fun FK51 K51 => ?_)
      refine cw_region ?_
      refine wl_val (v := .int .i64 (i : Int)) (fun ρ e => ex_move (e _ _ rfl)) rfl rfl ?_
      refine wl_val (v := .pointer (some ⟨b, o + i * 3, none⟩)) (fun ρ e => ex_idx (q := o + i * 3) (i := i) el23 (e _ _ rfl) (e _ _ rfl) (by omega) (by omega)) rfl rfl ?_
      refine wl_val (v := .agg #[.int .i64 (a : Int), .int .i64 (b2 : Int), .int .i64 0]) (fun ρ e => ex_loadN (vs := [.int .i64 (a : Int), .int .i64 (b2 : Int), .int .i64 0]) ty38 (e _ _ rfl) rfl (cells3 (NodesD.c0 ((O20.ro 1 rfl : (fun w => NodesD D w (.slice (some ⟨b, o, none⟩) ts.length c) ts) _) : NodesD _ _ _ _) hx) (NodesD.c1 ((O20.ro 1 rfl : (fun w => NodesD D w (.slice (some ⟨b, o, none⟩) ts.length c) ts) _) : NodesD _ _ _ _) hx) (NodesD.c2 ((O20.ro 1 rfl : (fun w => NodesD D w (.slice (some ⟨b, o, none⟩) ts.length c) ts) _) : NodesD _ _ _ _) hx))) rfl rfl ?_
      obtain ⟨g52, w53, r54, O55, hg56, hs57⟩ := own_alloc O20 38 ze38 rfl
      refine wl_val (v := .pointer (some ⟨g52, 0, none⟩)) (fun ρ e => r54 ρ _ _ _ _ _) rfl rfl ?_
      refine wl_val (v := .int .i64 (i : Int)) (fun ρ e => ex_assign (e _ _ rfl)) rfl rfl ?_
      obtain ⟨w58, r59, O60, hs61⟩ := own_put (o := 0) (n := 3) O55 ty38 (.agg #[.int .i64 (a : Int), .int .i64 (b2 : Int), .int .i64 0]) [.int .i64 (a : Int), .int .i64 (b2 : Int), .int .i64 0] (cs' := #[.int .i64 (a : Int), .int .i64 (b2 : Int), .int .i64 0]) rfl rfl rfl (Nat.le_of_ble_eq_true rfl) rfl
      refine wl_none (fun ρ e => r59 ρ _ _ _ _ _ _ (e _ _ rfl) (e _ _ rfl)) rfl ?_
      refine wl_nil ?_
      refine xw_next K51 ?_
      refine cw_seq (fun FK62 K62 => ?_)
      refine cw_region ?_
      refine wl_val (v := .agg #[.int .i64 (a : Int), .int .i64 (b2 : Int), .int .i64 0]) (fun ρ e => ex_loadN (vs := [.int .i64 (a : Int), .int .i64 (b2 : Int), .int .i64 0]) ty38 (e _ _ rfl) rfl (O60.cells 0 0 rfl rfl)) rfl rfl ?_
      refine wl_call (args := [.agg #[.int .i64 (a : Int), .int .i64 (b2 : Int), .int .i64 0]]) in_53 rfl rfl rfl ?_
      refine (isleaf_ (VN.mk (a : Int) (b2 : Int) 0) (W := w58)).mono ?_
      rintro _ w63 ⟨rfl, hb64⟩
      have O65 : Own Z0 W w63 [.blk g52 38 #[.int .i64 (a : Int), .int .i64 (b2 : Int), .int .i64 0], .blk g8 57 ((vcells (upS ts i)).toArray), .ro D (fun w => NodesD D w (.slice (some ⟨b, o, none⟩) ts.length c) ts)] := O60.below hb64
      refine ⟨_, rfl, ?_⟩
      refine wl_nil ?_
      refine xw_next K62 ?_
      refine cw_false (congrArg (fun b => some (Value.bool b)) hlf) ?_
      refine cw_drawn (fun X => Own Z0 W X [.blk g52 38 #[.int .i64 (a : Int), .int .i64 (b2 : Int), .int .i64 0], .blk g8 57 ((vcells (upS ts i)).toArray), .ro D (fun w => NodesD D w (.slice (some ⟨b, o, none⟩) ts.length c) ts)]) 14 [(0, 1), (1, 1), (2, 1), (3, 1), (4, 0), (5, 1), (6, 0), (7, 1), (8, 1), (9, 0), (10, 1), (11, 0), (12, 2), (13, 1), (14, 3)] (by kernel_rfl) (by kernel_rfl) (PQ.block (PQ.then_ (PQ.then_ (PQ.block (PQ.then_ PQ.body))))) (O65).drew ?_
      have O66 : Own Z0 W w63.drew [.blk g52 38 #[.int .i64 (a : Int), .int .i64 (b2 : Int), .int .i64 0], .blk g8 57 ((vcells (upS ts i)).toArray), .ro D (fun w => NodesD D w (.slice (some ⟨b, o, none⟩) ts.length c) ts)] := O65.drew
      refine wt1 (v := .slice (some ⟨g8, 0, none⟩) ts.length ts.length) rfl (fun ρ e W => ex_move (e _ _ rfl)) rfl rfl ?_
      refine wt1 (v := .int .i64 (i : Int)) rfl (fun ρ e W => ex_move (e _ _ rfl)) rfl rfl ?_
      refine wt1 (v := .slice (some ⟨g8, 0, none⟩) ts.length ts.length) rfl (fun ρ e W => ex_move (e _ _ rfl)) rfl rfl ?_
      refine wt1 (v := .pointer (some ⟨g52, 0, none⟩)) rfl (fun ρ e W => ex_field (q := 0) fi38_0 (e _ _ rfl) rfl) rfl rfl ?_
      refine wt0 (v := .int .i64 (a : Int)) rfl (fun ρ e W hW => ex_load1 ty3 (e _ _ rfl) (hW.cell 0 0 rfl rfl)) rfl rfl ?_
      refine wt1 (v := .pointer (some ⟨g8, a * 2, none⟩)) rfl (fun ρ e W => ex_idx (q := a * 2) (i := a) el53 (e _ _ rfl) (e _ _ rfl) (by omega) (by omega)) rfl rfl ?_
      refine wt0 (v := .agg #[.int .u64 ((setT (trF ts ts.length a)).a.toNat : Int), .int .u64 ((setT (trF ts ts.length a)).b.toNat : Int)]) rfl (fun ρ e W hW => ex_loadN (vs := [.int .u64 ((setT (trF ts ts.length a)).a.toNat : Int), .int .u64 ((setT (trF ts ts.length a)).b.toNat : Int)]) ty57 (e _ _ rfl) rfl (cells2 ((hW.blk 1 rfl).cell _ |>.trans (getV0 (upS_get (by omega) ha))) ((hW.blk 1 rfl).cell _ |>.trans (getV1 (upS_get (by omega) ha))))) rfl rfl ?_
      refine wt1 (v := .slice (some ⟨g8, 0, none⟩) ts.length ts.length) rfl (fun ρ e W => ex_move (e _ _ rfl)) rfl rfl ?_
      refine wt1 (v := .pointer (some ⟨g52, 1, none⟩)) rfl (fun ρ e W => ex_field (q := 1) fi38_1 (e _ _ rfl) rfl) rfl rfl ?_
      refine wt0 (v := .int .i64 (b2 : Int)) rfl (fun ρ e W hW => ex_load1 ty3 (e _ _ rfl) (hW.cell 0 1 rfl rfl)) rfl rfl ?_
      refine wt1 (v := .pointer (some ⟨g8, b2 * 2, none⟩)) rfl (fun ρ e W => ex_idx (q := b2 * 2) (i := b2) el53 (e _ _ rfl) (e _ _ rfl) (by omega) (by omega)) rfl rfl ?_
      refine wt0 (v := .agg #[.int .u64 ((setT (trF ts ts.length b2)).a.toNat : Int), .int .u64 ((setT (trF ts ts.length b2)).b.toNat : Int)]) rfl (fun ρ e W hW => ex_loadN (vs := [.int .u64 ((setT (trF ts ts.length b2)).a.toNat : Int), .int .u64 ((setT (trF ts ts.length b2)).b.toNat : Int)]) ty57 (e _ _ rfl) rfl (cells2 ((hW.blk 1 rfl).cell _ |>.trans (getV0 (upS_get (by omega) hb))) ((hW.blk 1 rfl).cell _ |>.trans (getV1 (upS_get (by omega) hb))))) rfl rfl ?_
      refine wt2_call (args := [.agg #[.int .u64 ((setT (trF ts ts.length a)).a.toNat : Int), .int .u64 ((setT (trF ts ts.length a)).b.toNat : Int)], .agg #[.int .u64 ((setT (trF ts ts.length b2)).a.toNat : Int), .int .u64 ((setT (trF ts ts.length b2)).b.toNat : Int)]]) rfl in_74 rfl rfl rfl ?_
      have hset : VS.union (setT (trF ts ts.length a)) (setT (trF ts ts.length b2)) = (setT (trF ts ts.length i)) := by rw [tr_node hV hx]; rfl
      have hcw := vars_union (setT (trF ts ts.length a)) (setT (trF ts ts.length b2)) w63.drew
      rw [hset] at hcw
      refine hcw.mono ?_
      rintro _ w67 ⟨rfl, hb68⟩
      have O69 : Own Z0 W w67 [.blk g52 38 #[.int .i64 (a : Int), .int .i64 (b2 : Int), .int .i64 0], .blk g8 57 ((vcells (upS ts i)).toArray), .ro D (fun w => NodesD D w (.slice (some ⟨b, o, none⟩) ts.length c) ts)] := O66.below hb68
      refine ⟨_, rfl, O69, ?_⟩
      refine wt1 (v := .pointer (some ⟨g8, i * 2, none⟩)) rfl (fun ρ e W => ex_idx (q := i * 2) (i := i) el53 (e _ _ rfl) (e _ _ rfl) (by omega) (by omega)) rfl rfl ?_
      obtain ⟨w70, r71, O72, hs73⟩ := own_put (o := i * 2) (n := 2) (O69.re [1, 0, 2] rfl : Own Z0 W w67 [.blk g8 57 ((vcells (upS ts i)).toArray), .blk g52 38 #[.int .i64 (a : Int), .int .i64 (b2 : Int), .int .i64 0], .ro D (fun w => NodesD D w (.slice (some ⟨b, o, none⟩) ts.length c) ts)]) ty57 (.agg #[.int .u64 ((setT (trF ts ts.length i)).a.toNat : Int), .int .u64 ((setT (trF ts ts.length i)).b.toNat : Int)]) [.int .u64 ((setT (trF ts ts.length i)).a.toNat : Int), .int .u64 ((setT (trF ts ts.length i)).b.toNat : Int)] (cs' := (vcells ((upS ts i).set i (setT (trF ts ts.length i)))).toArray) rfl rfl rfl (by simp [vcells_len, upS_len] <;> omega) (setV _ i (setT (trF ts ts.length i)))
      refine wt3_none rfl (fun ρ e => r71 ρ _ _ _ _ _ _ (e _ _ rfl) (e _ _ rfl)) rfl ?_
      refine wt_nil ?_
      refine xw_block ?_
      refine xw_next K50 ?_
      refine cw_region ?_
      refine wl_val (v := .int .i64 ((i + 1 : Nat) : Int)) (fun ρ e => ex_arith (k := .i64) (u := (i : Int)) (v := 1) (e _ _ rfl) (e _ _ rfl) (congrArg some ((congrArg _ (by omega)).trans (wrap_in (u := ((i + 1 : Nat) : Int)) (by omega) (by omega))))) rfl rfl ?_
      refine wl_val (v := .int .i64 ((i + 1 : Nat) : Int)) (fun ρ e => ex_move (e _ _ rfl)) rfl rfl ?_
      refine wl_nil ?_
      have O74 : Own Z0 W w70 [.blk g8 57 ((vcells (upS ts (i + 1))).toArray), .ro D (fun w => NodesD D w (.slice (some ⟨b, o, none⟩) ts.length c) ts)] := by rw [← upS_set hi]; exact (O72.re [0, 2] rfl : Own Z0 W w70 [.blk g8 57 ((vcells ((upS ts i).set i (setT (trF ts ts.length i)))).toArray), .ro D (fun w => NodesD D w (.slice (some ⟨b, o, none⟩) ts.length c) ts)])
      refine xw_round K19 (i + 1) (by show ts.length - (i + 1) < ts.length - i; omega) ⟨(by show i + 1 ≤ ts.length; omega), O74⟩ ⟨rfl, rfl, rfl, rfl, trivial⟩
  · have hie : i = ts.length := by omega
    rw [hie, upS_all] at O20
    refine cw_seq (fun FK75 K75 => ?_)
    refine cw_region ?_
    refine wl_val (v := .bool false) (fun ρ e => ex_cmp (u := (i : Int)) (v := ((ts.length : Nat) : Int)) (e _ _ rfl) (e _ _ rfl) (lss0 (by omega))) rfl rfl ?_
    refine wl_nil ?_
    refine xw_next K75 ?_
    refine cw_seq (fun FK76 K76 => ?_)
    refine cw_false rfl ?_
    refine cw_exit ?_
    refine xw_past (by intro h; cases h) ?_
    refine xw_past (by intro h; cases h) ?_
    refine xw_here ?_
    refine xw_next K14 ?_
    refine cw_seq (fun FK77 K77 => ?_)
    refine cw_region ?_
    refine wl_val (v := .slice (some ⟨g8, 0, none⟩) ts.length ts.length) (fun ρ e => ex_move (e _ _ rfl)) rfl rfl ?_
    refine wl_val (v := .slice (some ⟨g8, 0, none⟩) ts.length ts.length) (fun ρ e => ex_assign (e _ _ rfl)) rfl rfl ?_
    refine wl_nil ?_
    refine xw_next K77 ?_
    refine cw_ret ?_
    refine xw_ret (v := .slice (some ⟨g8, 0, none⟩) ts.length ts.length) (fun T hT => res1 rfl T _ (hT 2 _ rfl)) ?_
    have O78 := Own.blkrowV (l := setsOf ts) (n := ts.length) (O20.re [0] rfl : Own Z0 W w17 [.blk g8 57 ((vcells (setsOf ts)).toArray)]) (by simp [setsOf_len]) (by omega)
    exact ⟨g8, ts.length, rfl, O78⟩
end Go.Proofs.YtpeoodkepjhhiaaDoor
