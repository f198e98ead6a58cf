/-
  Lemmas and contracts, joined: Vvars Vsame Vrprint VlChecks.
-/
import Derived.Test.YtpeoodkepjhhiaaDoorPf4
import Derived.Test.YtpeoodkepjhhiaaDoorPf1
namespace Go.Proofs.YtpeoodkepjhhiaaDoor
open Go Go.RowKit
def vcell (s : VS) : List Value := [.int .u64 (s.a.toNat : Int), .int .u64 (s.b.toNat : Int)]
def vcells (l : List VS) : List Value := l.flatMap vcell
theorem vcells_len (l : List VS) : (vcells l).length = l.length * 2 := by
  induction l with
  | nil => rfl
  | cons x r ih => simp only [vcells, List.flatMap_cons, List.length_append, List.length_cons] at ih ⊢; rw [ih]; simp [vcell]; omega
theorem vcells_get : ∀ {l : List VS} {k : Nat} {s : VS}, l[k]? = some s → (vcells l)[k * 2]? = some (.int .u64 (s.a.toNat : Int)) ∧ (vcells l)[k * 2 + 1]? = some (.int .u64 (s.b.toNat : Int))
  | [], k, s, h => by simp at h
  | y :: r, 0, s, h => by
    simp at h; subst h
    simp [vcells, vcell]
  | y :: r, k + 1, s, h => by
    have ih := vcells_get (l := r) (k := k) (s := s) (by simpa using h)
    have e : vcells (y :: r) = vcell y ++ vcells r := by simp [vcells]
    rw [e]
    have hl : (vcell y).length = 2 := rfl
    refine ⟨?_, ?_⟩
    · rw [List.getElem?_append_right (by omega), hl, show (k + 1) * 2 - 2 = k * 2 by omega]; exact ih.1
    · rw [List.getElem?_append_right (by omega), hl, show (k + 1) * 2 + 1 - 2 = k * 2 + 1 by omega]; exact ih.2
theorem vcells_set : ∀ (l : List VS) (k : Nat) (s : VS), ((vcells l).set (k * 2) (.int .u64 (s.a.toNat : Int))).set (k * 2 + 1) (.int .u64 (s.b.toNat : Int)) = vcells (l.set k s)
  | [], k, s => by simp [vcells]
  | y :: r, 0, s => by simp [vcells, vcell]
  | y :: r, k + 1, s => by
    have ih := vcells_set r k s
    have e : vcells (y :: r) = .int .u64 (y.a.toNat : Int) :: .int .u64 (y.b.toNat : Int) :: vcells r := by simp [vcells, vcell]
    have e2 : vcells ((y :: r).set (k + 1) s) = .int .u64 (y.a.toNat : Int) :: .int .u64 (y.b.toNat : Int) :: vcells (r.set k s) := by simp [vcells, vcell]
    rw [e, e2, ← ih, show (k + 1) * 2 = (k * 2 + 1) + 1 by omega]
    rfl
theorem getV0 {l : List VS} {k : Nat} {s : VS} (h : l[k]? = some s) : (vcells l).toArray[k * 2]? = some (.int .u64 (s.a.toNat : Int)) := by simpa using (vcells_get h).1
theorem getV1 {l : List VS} {k : Nat} {s : VS} (h : l[k]? = some s) : (vcells l).toArray[k * 2 + 1]? = some (.int .u64 (s.b.toNat : Int)) := by simpa using (vcells_get h).2
theorem setV (l : List VS) (k : Nat) (s : VS) : setN (vcells l).toArray (k * 2) [.int .u64 (s.a.toNat : Int), .int .u64 (s.b.toNat : Int)] = (vcells (l.set k s)).toArray := by
  rw [← vcells_set]
  simp [setN]
theorem setV0 {l : List VS} {k : Nat} {s t : VS} {x : Int} (h : l[k]? = some s) (ht : x = (t.a.toNat : Int) ∧ s.b = t.b) : setN (vcells l).toArray (k * 2) [.int .u64 x] = (vcells (l.set k t)).toArray := by
  obtain ⟨rfl, hb⟩ := ht
  rw [← vcells_set]
  have h1 := (vcells_get h).2
  have hlt := (List.getElem?_eq_some_iff.1 h1).1
  simp only [setN, List.setIfInBounds_toArray]
  congr 1
  apply List.ext_getElem?
  intro j
  rw [List.getElem?_set (i := k * 2 + 1)]
  by_cases e : k * 2 + 1 = j
  · subst e
    rw [if_pos rfl, List.getElem?_set_ne (by omega), h1, List.length_set, if_pos hlt, hb]
  · rw [if_neg e]
theorem setV1 {l : List VS} {k : Nat} {s t : VS} {x : Int} (h : l[k]? = some s) (ht : x = (t.b.toNat : Int) ∧ s.a = t.a) : setN (vcells l).toArray (k * 2 + 1) [.int .u64 x] = (vcells (l.set k t)).toArray := by
  obtain ⟨rfl, hb⟩ := ht
  rw [← vcells_set]
  have h1 := (vcells_get h).1
  have hlt := (List.getElem?_eq_some_iff.1 h1).1
  simp only [setN, List.setIfInBounds_toArray]
  congr 2
  apply List.ext_getElem?
  intro j
  rw [List.getElem?_set]
  by_cases e : k * 2 = j
  · subst e
    rw [if_pos rfl, if_pos hlt, h1, hb]
  · rw [if_neg e]
theorem leaf_lo {ts : List VN} {i vn : Nat} (h : ts[i]? = some ⟨-1, -1, (vn : Int)⟩) (h1 : 1 ≤ (vn : Int)) (h2 : (vn : Int) ≤ 128) (h3 : vn ≤ 64) : ((1#64 <<< (vn - 1)).toNat : Int) = ((setT (trF ts ts.length i)).a.toNat : Int) ∧ VS.empty.b = (setT (trF ts ts.length i)).b := by
  rw [tr_leaf h h1 h2]
  have e : setT (.leaf (vn : Int)) = ⟨0#64 ||| 1#64 <<< ((vn : Int).toNat - 1), 0#64 ||| 0#64⟩ := by
    simp only [setT, VS.with_, VS.bit, VS.empty, if_pos (show 1 ≤ (vn : Int) ∧ (vn : Int) ≤ 64 by omega)]
  rw [e, Int.toNat_natCast]
  simp [VS.empty]
theorem leaf_hi {ts : List VN} {i vn : Nat} (h : ts[i]? = some ⟨-1, -1, (vn : Int)⟩) (h1 : 1 ≤ (vn : Int)) (h2 : (vn : Int) ≤ 128) (h3 : 65 ≤ vn) : ((1#64 <<< (vn - 65)).toNat : Int) = ((setT (trF ts ts.length i)).b.toNat : Int) ∧ VS.empty.a = (setT (trF ts ts.length i)).a := by
  rw [tr_leaf h h1 h2]
  have e : setT (.leaf (vn : Int)) = ⟨0#64 ||| 0#64, 0#64 ||| 1#64 <<< ((vn : Int).toNat - 65)⟩ := by
    simp only [setT, VS.with_, VS.bit, VS.empty, if_neg (show ¬ (1 ≤ (vn : Int) ∧ (vn : Int) ≤ 64) by omega), if_pos (show 65 ≤ (vn : Int) ∧ (vn : Int) ≤ 128 by omega)]
  rw [e, Int.toNat_natCast]
  simp [VS.empty]
section
variable {ρ : Operand → Value} {d : Option Tmp} {x0 y0 : Operand} {t T T1 : TypeId} {pos0 : String} {aft : Array Edge} {gd : Option (Nat × Bool)} {w : World}
theorem ex_quo64 {a q : Nat} (hx : ρ x0 = .int .i64 ((a : Nat) : Int)) (hy : ρ y0 = .int .i64 64) (hq : a / 64 = q ∧ a ≤ 1000) : (execOp ρ ⟨d, .binOp .quo 3 x0 y0 T1, t, pos0, aft, gd⟩).run Tryd.prog w = .ok (.value (.int .i64 ((q : Nat) : Int))) w := by
  have h : IntKind.i64.wrap ((a : Int) / 64) = (q : Int) := by
    rw [IntKind.wrap_i64]
    omega
  simp [go_sem, hx, hy, h]
theorem ex_rem64 {a q : Nat} (hx : ρ x0 = .int .i64 ((a : Nat) : Int)) (hy : ρ y0 = .int .i64 64) (hq : a % 64 = q ∧ a ≤ 1000) : (execOp ρ ⟨d, .binOp .rem 3 x0 y0 T1, t, pos0, aft, gd⟩).run Tryd.prog w = .ok (.value (.int .i64 ((q : Nat) : Int))) w := by
  have h3 : (a : Int).tmod 64 = (a : Int) % 64 := Int.tmod_eq_emod_of_nonneg (by omega)
  have h : IntKind.i64.wrap ((a : Int) % 64) = (q : Int) := by
    rw [IntKind.wrap_i64]
    omega
  have h4 : (a : Int) % 64 = (q : Int) := by omega
  rw [h4] at h h3
  simp [go_sem, hx, hy, h, h3]
theorem ex_conv343 {u : Int} (hx : ρ x0 = .int .i64 u) (h0 : 0 ≤ u) (h1 : u ≤ 1000) : (execOp ρ ⟨d, .convert 3 43 x0, t, pos0, aft, gd⟩).run Tryd.prog w = .ok (.value (.int .u64 u)) w := by
  have h : IntKind.u64.wrap u = u := by rw [IntKind.wrap_u64]; omega
  simp [go_sem, hx, h]
theorem ex_shl1 {k : Nat} (hx : ρ x0 = .int .u64 1) (hy : ρ y0 = .int .u64 ((k : Nat) : Int)) (hk : k < 64) : (execOp ρ ⟨d, .binOp .shl 55 x0 y0 T1, t, pos0, aft, gd⟩).run Tryd.prog w = .ok (.value (.int .u64 ((1#64 <<< k).toNat : Int))) w := by
  have h := pow_bv k hk
  have h2 : ¬ (64 : Int) ≤ (k : Int) := by omega
  simp [go_sem, hx, hy, hk, h, h2]
theorem ex_add64 {x y z : BitVec 64} (hx : ρ x0 = .int .u64 (x.toNat : Int)) (hy : ρ y0 = .int .u64 (y.toNat : Int)) (hz : x + y = z) : (execOp ρ ⟨d, .binOp .add T x0 y0 T1, t, pos0, aft, gd⟩).run Tryd.prog w = .ok (.value (.int .u64 (z.toNat : Int))) w := by
  subst hz
  refine ex_arith (k := .u64) (u := (x.toNat : Int)) (v := (y.toNat : Int)) hx hy (congrArg some ?_)
  rw [IntKind.wrap_u64, BitVec.toNat_add]
  omega
end
theorem vcells_rep : ∀ n : Nat, vcells (List.replicate n VS.empty) = List.replicate (n * 2) (.int .u64 0)
  | 0 => rfl
  | n + 1 => by
    have e1 : vcells (List.replicate (n + 1) VS.empty) = .int .u64 0 :: .int .u64 0 :: vcells (List.replicate n VS.empty) := by simp [vcells, vcell, List.replicate_succ, VS.empty]
    rw [e1, vcells_rep n, show (n + 1) * 2 = n * 2 + 1 + 1 by omega, List.replicate_succ, List.replicate_succ]
section
variable {Z : Bool → Nat → Prop} {w0 w W : World} {L : List En}
theorem own_makeV (O : Own Z w0 w L) (n : Nat) (hn : n ≤ 1000000) {cs : Array Value} (hc : (vcells (List.replicate n VS.empty)).toArray = cs) :
    ∃ g w', (∀ (ρ : Operand → Value) x y d t pos aft gd, ρ x = .int .i64 (n : Int) → ρ y = .int .i64 (n : Int) → (execOp ρ ⟨d, .makeSlice 53 x y, t, pos, aft, gd⟩).run Tryd.prog w = .ok (.value (.slice (some ⟨g, 0, none⟩) n n)) w') ∧ Own Z w0 w' (.blk g 57 cs :: L) ∧ w.heap.size = g ∧ w'.heap.size = g + 1 := by
  subst hc
  obtain ⟨i, hi, hz, hsz, hby⟩ := info_parts ap53.info
  have hb8 : ((i.bytes : Nat) : Int) * (n : Int) ≤ 281474976710656 := by
    rw [hby]
    omega
  have hr := run_make (P := Tryd.prog) w 53 57 i (.agg #[.int .u64 0, .int .u64 0]) ap53.under hi hz .i64 .i64 n n (by omega) (by omega) hb8 (by omega)
  have hm : madeCells #[Value.int .u64 0, Value.int .u64 0] (n * 2) = (vcells (List.replicate n VS.empty)).toArray := by
    have e := vcells_rep n
    rw [e]
    apply Array.ext
    · simp [madeCells]
    · intro j h1 h2
      simp only [madeCells, List.getElem_toArray, List.getElem_replicate]
      have hj : j % 2 = 0 ∨ j % 2 = 1 := by omega
      rcases hj with hj | hj <;> simp [hj]
  rw [hsz, Int.toNat_natCast] at hr
  have hz2 : (Value.agg #[.int .u64 0, .int .u64 0]).cells = #[.int .u64 0, .int .u64 0] := rfl
  rw [hz2, hm] at hr
  refine ⟨w.heap.size, _, fun ρ x y d t pos aft gd hx hy => ?_, O.newb ((Below.refl _ _).alloc (Nat.le_refl _) _) (Blk.new w 57 _) rfl, rfl, by simp⟩
  simp only [execOp, hx, hy, Sem.run_bind, hr, Result.andThen_ok, Sem.run_pure]
theorem Own.blkrowV {g n : Nat} {l : List VS} (h : Own Z w0 W (.blk g 57 (vcells l).toArray :: L)) (hn : l.length = n) (hm : n ≤ 1000000) : Own Z w0 W (.row (.slice (some ⟨g, 0, none⟩) n n) 57 2 n (vcells l) :: L) := by
  subst hn
  refine h.as (e' := .row (.slice (some ⟨g, 0, none⟩) l.length l.length) 57 2 l.length (vcells l)) ⟨by rw [vcells_len], .inr ⟨g, l.length, (vcells l).toArray, rfl, Nat.zero_le _, h.blk 0 rfl, Nat.le_refl _, by unfold maxLen; omega, by simp [vcells_len], List.take_of_length_le (by simp [vcells_len])⟩⟩ (fun k hk => ?_) (fun _ => trivial)
  have : some g = some k := hk
  injection this with this
  exact this.symm
end
set_option maxHeartbeats 400000 in
theorem vars_union (s t : VS) (w : World) :
    Calls Tryd.prog 74 #[.agg #[.int .u64 (s.a.toNat : Int), .int .u64 (s.b.toNat : Int)], .agg #[.int .u64 (t.a.toNat : Int), .int .u64 (t.b.toNat : Int)]] w fun e w' => e = .returned (.agg #[.int .u64 ((s.union t).a.toNat : Int), .int .u64 ((s.union t).b.toNat : Int)]) ∧ Below w.heap.size w w' := by
  obtain ⟨a, b⟩ := s
  obtain ⟨c, d⟩ := t
  unfold VS.union
  go_enter Tryd.func74, Tryd.ntmps74
  go_wp2
  go_returns
  exact ⟨ret_agg2 (by rw [bits_or_bv]) (by rw [bits_or_bv]), by go_grown⟩
theorem vvars_ok {W : World} {D : Nat → Prop} {b o c : Nat} {ts : List VN} (hN : NodesD D W (.slice (some ⟨b, o, none⟩) ts.length c) ts) (hD : ∀ k, D k → k < W.heap.size) (hok : okT ts = true) : Calls Tryd.prog 44 #[.slice (some ⟨b, o, none⟩) ts.length c] W fun e w' => ∃ g c', e = .returned (.slice (some ⟨g, 0, none⟩) ts.length c') ∧ Own Z0 W w' [.row (.slice (some ⟨g, 0, none⟩) ts.length c') 57 2 ts.length (vcells (setsOf ts))] := by
  have hV := okT_val hok
  have hpos := hV.pos
  have hle := hV.le
  have O0 : Own Z0 W W [.ro D (fun w => NodesD D w (.slice (some ⟨b, o, none⟩) ts.length c) ts)] := (Own.start W).oldro (D := D) (p := (fun w => NodesD D w (.slice (some ⟨b, o, none⟩) ts.length c) ts)) (nodesE_holds hN hD)
  refine sx_enter (args := [.slice (some ⟨b, o, none⟩) ts.length c]) Tryd.func44 rfl rfl (by simp) ?_
  refine cw_seq (fun FK1 K1 => ?_)
  refine cw_region ?_
  refine wl_val (v := .slice none 0 0) (fun ρ e => ex_assign (e _ _ rfl)) rfl rfl ?_
  refine wl_nil ?_
  refine xw_next K1 ?_
  refine cw_seq (fun FK2 K2 => ?_)
  refine cw_seq (fun FK3 K3 => ?_)
  refine cw_region ?_
  refine wl_val (v := .slice (some ⟨b, o, none⟩) ts.length c) (fun ρ e => ex_move (e _ _ rfl)) rfl rfl ?_
  refine wl_call (args := [.slice (some ⟨b, o, none⟩) ts.length c]) in_23 rfl rfl rfl ?_
  refine (checkb_ (hN.move (fun k hk => (O0.old).block k (hD k hk))) (fun k hk => Nat.lt_of_lt_of_le (hD k hk) (O0.old).size) (chk_val hok)).mono ?_
  rintro _ w4 ⟨rfl, hb5⟩
  have O6 : Own Z0 W w4 [.ro D (fun w => NodesD D w (.slice (some ⟨b, o, none⟩) ts.length c) ts)] := O0.below hb5
  refine ⟨_, rfl, ?_⟩
  refine wl_val (v := .bool false) (fun ρ e => ex_cmp (u := 0) (v := 0) (e _ _ rfl) (e _ _ rfl) (neq0 (by omega))) rfl rfl ?_
  refine wl_nil ?_
  refine xw_next K3 ?_
  refine cw_false rfl ?_
  refine cw_skip ?_
  refine xw_next K2 ?_
  refine cw_seq (fun FK7 K7 => ?_)
  refine cw_region ?_
  refine wl_val (v := .slice (some ⟨b, o, none⟩) ts.length c) (fun ρ e => ex_move (e _ _ rfl)) rfl rfl ?_
  refine wl_val (v := .int .i64 ((ts.length : Nat) : Int)) (fun ρ e => ex_len el23 (e _ _ rfl)) rfl rfl ?_
  obtain ⟨g8, w9, r10, O11, hg12, hs13⟩ := own_makeV O6 ts.length (by omega) (cs := (vcells (upS ts 0)).toArray) (by rw [upS_zero])
  refine wl_val (v := .slice (some ⟨g8, 0, none⟩) ts.length ts.length) (fun ρ e => r10 ρ _ _ _ _ _ _ _ (e _ _ rfl) (e _ _ rfl)) rfl rfl ?_
  refine wl_val (v := .slice (some ⟨g8, 0, none⟩) ts.length ts.length) (fun ρ e => ex_assign (e _ _ rfl)) rfl rfl ?_
  refine wl_nil ?_
  refine xw_next K7 ?_
  refine cw_seq (fun FK14 K14 => ?_)
  refine cw_seq (fun FK15 K15 => ?_)
  refine cw_region ?_
  refine wl_val (v := .slice (some ⟨b, o, none⟩) ts.length c) (fun ρ e => ex_move (e _ _ rfl)) rfl rfl ?_
  refine wl_val (v := .int .i64 ((ts.length : Nat) : Int)) (fun ρ e => ex_len el23 (e _ _ rfl)) rfl rfl ?_
  refine wl_val (v := .int .i64 0) (fun ρ e => ex_move (e _ _ rfl)) rfl rfl ?_
  refine wl_nil ?_
  refine xw_next K15 ?_
  refine cw_block ?_
  have O16 : Own Z0 W w9 [.blk g8 57 ((vcells (upS ts 0)).toArray), .ro D (fun w => NodesD D w (.slice (some ⟨b, o, none⟩) ts.length c) ts)] := O11
  refine cw_loop (ι := Nat) (fun q => [(3, .slice (some ⟨g8, 0, none⟩) ts.length ts.length), (12, .slice (some ⟨b, o, none⟩) ts.length c), (13, .int .i64 ((ts.length : Nat) : Int)), (14, .int .i64 (q : Int))]) (fun q X => (q ≤ ts.length) ∧ Own Z0 W X [.blk g8 57 ((vcells (upS ts q)).toArray), .ro D (fun w => NodesD D w (.slice (some ⟨b, o, none⟩) ts.length c) ts)]) (fun q => ts.length - q) 0 ⟨Nat.zero_le _, O16⟩ ⟨rfl, rfl, rfl, rfl, trivial⟩ (fun q w17 hJ F18 K19 => ?_)
  obtain ⟨i, rfl⟩ : ∃ x, x = q := ⟨_, rfl⟩
  obtain ⟨hi0, O20⟩ := hJ
  try dsimp only at hi0 O20 ⊢
  by_cases hi : i < ts.length
  · skip
    rcases hV.kind i _ (List.getElem?_eq_getElem hi) with ⟨v, hx0, h1, h2⟩ | ⟨a, b2, hx0, ha, hb, hab⟩
    · skip
      have hx : ts[i]? = some ⟨-1, -1, v⟩ := by rw [List.getElem?_eq_getElem hi, hx0]
      have hlf : (lf (VN.mk (-1) (-1) v)) = true := lf_leaf h1 h2
      refine cw_seq (fun FK21 K21 => ?_)
      refine cw_region ?_
      refine wl_val (v := .bool true) (fun ρ e => ex_cmp (u := (i : Int)) (v := ((ts.length : Nat) : Int)) (e _ _ rfl) (e _ _ rfl) (lss1 (by omega))) rfl rfl ?_
      refine wl_nil ?_
      refine xw_next K21 ?_
      refine cw_seq (fun FK22 K22 => ?_)
      refine cw_true rfl ?_
      refine cw_skip ?_
      refine xw_next K22 ?_
      refine cw_seq (fun FK23 K23 => ?_)
      refine cw_block ?_
      refine cw_seq (fun FK24 K24 => ?_)
      refine cw_region ?_
      refine wl_val (v := .int .i64 (i : Int)) (fun ρ e => ex_move (e _ _ rfl)) rfl rfl ?_
      refine wl_val (v := .pointer (some ⟨b, o + i * 3, none⟩)) (fun ρ e => ex_idx (q := o + i * 3) (i := i) el23 (e _ _ rfl) (e _ _ rfl) (by omega) (by omega)) rfl rfl ?_
      refine wl_val (v := .agg #[.int .i64 (-1), .int .i64 (-1), .int .i64 v]) (fun ρ e => ex_loadN (vs := [.int .i64 (-1), .int .i64 (-1), .int .i64 v]) ty38 (e _ _ rfl) rfl (cells3 (NodesD.c0 ((O20.ro 1 rfl : (fun w => NodesD D w (.slice (some ⟨b, o, none⟩) ts.length c) ts) _) : NodesD _ _ _ _) hx) (NodesD.c1 ((O20.ro 1 rfl : (fun w => NodesD D w (.slice (some ⟨b, o, none⟩) ts.length c) ts) _) : NodesD _ _ _ _) hx) (NodesD.c2 ((O20.ro 1 rfl : (fun w => NodesD D w (.slice (some ⟨b, o, none⟩) ts.length c) ts) _) : NodesD _ _ _ _) hx))) rfl rfl ?_
      obtain ⟨g25, w26, r27, O28, hg29, hs30⟩ := own_alloc O20 38 ze38 rfl
      refine wl_val (v := .pointer (some ⟨g25, 0, none⟩)) (fun ρ e => r27 ρ _ _ _ _ _) rfl rfl ?_
      refine wl_val (v := .int .i64 (i : Int)) (fun ρ e => ex_assign (e _ _ rfl)) rfl rfl ?_
      obtain ⟨w31, r32, O33, hs34⟩ := own_put (o := 0) (n := 3) O28 ty38 (.agg #[.int .i64 (-1), .int .i64 (-1), .int .i64 v]) [.int .i64 (-1), .int .i64 (-1), .int .i64 v] (cs' := #[.int .i64 (-1), .int .i64 (-1), .int .i64 v]) rfl rfl rfl (Nat.le_of_ble_eq_true rfl) rfl
      refine wl_none (fun ρ e => r32 ρ _ _ _ _ _ _ (e _ _ rfl) (e _ _ rfl)) rfl ?_
      refine wl_nil ?_
      refine xw_next K24 ?_
      refine cw_seq (fun FK35 K35 => ?_)
      refine cw_region ?_
      refine wl_val (v := .agg #[.int .i64 (-1), .int .i64 (-1), .int .i64 v]) (fun ρ e => ex_loadN (vs := [.int .i64 (-1), .int .i64 (-1), .int .i64 v]) ty38 (e _ _ rfl) rfl (O33.cells 0 0 rfl rfl)) rfl rfl ?_
      refine wl_call (args := [.agg #[.int .i64 (-1), .int .i64 (-1), .int .i64 v]]) in_53 rfl rfl rfl ?_
      refine (isleaf_ (VN.mk (-1) (-1) v) (W := w31)).mono ?_
      rintro _ w36 ⟨rfl, hb37⟩
      have O38 : Own Z0 W w36 [.blk g25 38 #[.int .i64 (-1), .int .i64 (-1), .int .i64 v], .blk g8 57 ((vcells (upS ts i)).toArray), .ro D (fun w => NodesD D w (.slice (some ⟨b, o, none⟩) ts.length c) ts)] := O33.below hb37
      refine ⟨_, rfl, ?_⟩
      refine wl_nil ?_
      refine xw_next K35 ?_
      refine cw_true (congrArg (fun b => some (Value.bool b)) hlf) ?_
      refine cw_drawn (fun X => Own Z0 W X [.blk g25 38 #[.int .i64 (-1), .int .i64 (-1), .int .i64 v], .blk g8 57 ((vcells (upS ts i)).toArray), .ro D (fun w => NodesD D w (.slice (some ⟨b, o, none⟩) ts.length c) ts)]) 10 [(0, 1), (1, 1), (2, 1), (3, 1), (4, 1), (5, 0), (6, 1), (7, 0), (8, 2), (9, 1), (10, 3)] (by kernel_rfl) (by kernel_rfl) (PQ.block (PQ.then_ (PQ.then_ (PQ.block (PQ.then_ PQ.body))))) (O38).drew ?_
      have O39 : Own Z0 W w36.drew [.blk g25 38 #[.int .i64 (-1), .int .i64 (-1), .int .i64 v], .blk g8 57 ((vcells (upS ts i)).toArray), .ro D (fun w => NodesD D w (.slice (some ⟨b, o, none⟩) ts.length c) ts)] := O38.drew
      refine wt1 (v := .slice (some ⟨g8, 0, none⟩) ts.length ts.length) rfl (fun ρ e W => ex_move (e _ _ rfl)) rfl rfl ?_
      refine wt1 (v := .int .i64 (i : Int)) rfl (fun ρ e W => ex_move (e _ _ rfl)) rfl rfl ?_
      refine wt1 (v := .slice (some ⟨g8, 0, none⟩) ts.length ts.length) rfl (fun ρ e W => ex_move (e _ _ rfl)) rfl rfl ?_
      refine wt1 (v := .int .i64 (i : Int)) rfl (fun ρ e W => ex_move (e _ _ rfl)) rfl rfl ?_
      refine wt1 (v := .pointer (some ⟨g8, i * 2, none⟩)) rfl (fun ρ e W => ex_idx (q := i * 2) (i := i) el53 (e _ _ rfl) (e _ _ rfl) (by omega) (by omega)) rfl rfl ?_
      refine wt0 (v := .agg #[.int .u64 (VS.empty.a.toNat : Int), .int .u64 (VS.empty.b.toNat : Int)]) rfl (fun ρ e W hW => ex_loadN (vs := [.int .u64 (VS.empty.a.toNat : Int), .int .u64 (VS.empty.b.toNat : Int)]) ty57 (e _ _ rfl) rfl (cells2 ((hW.blk 1 rfl).cell _ |>.trans (getV0 (upS_new hi))) ((hW.blk 1 rfl).cell _ |>.trans (getV1 (upS_new hi))))) rfl rfl ?_
      refine wt1 (v := .pointer (some ⟨g25, 2, none⟩)) rfl (fun ρ e W => ex_field (q := 2) fi38_2 (e _ _ rfl) rfl) rfl rfl ?_
      refine wt0 (v := .int .i64 v) rfl (fun ρ e W hW => ex_load1 ty3 (e _ _ rfl) (hW.cell 0 2 rfl rfl)) rfl rfl ?_
      refine wt2_call (args := [.agg #[.int .u64 (VS.empty.a.toNat : Int), .int .u64 (VS.empty.b.toNat : Int)], .int .i64 v]) rfl in_73 rfl rfl rfl ?_
      have hset : VS.with_ VS.empty v = (setT (trF ts ts.length i)) := by rw [tr_leaf hx h1 h2]; rfl
      have hcw := vars_with VS.empty.a VS.empty.b v w36.drew
      rw [show (⟨VS.empty.a, VS.empty.b⟩ : VS) = VS.empty from rfl, hset] at hcw
      refine hcw.mono ?_
      rintro _ w40 ⟨rfl, hb41⟩
      have O42 : Own Z0 W w40 [.blk g25 38 #[.int .i64 (-1), .int .i64 (-1), .int .i64 v], .blk g8 57 ((vcells (upS ts i)).toArray), .ro D (fun w => NodesD D w (.slice (some ⟨b, o, none⟩) ts.length c) ts)] := O39.below hb41
      refine ⟨_, rfl, O42, ?_⟩
      refine wt1 (v := .pointer (some ⟨g8, i * 2, none⟩)) rfl (fun ρ e W => ex_idx (q := i * 2) (i := i) el53 (e _ _ rfl) (e _ _ rfl) (by omega) (by omega)) rfl rfl ?_
      obtain ⟨w43, r44, O45, hs46⟩ := own_put (o := i * 2) (n := 2) (O42.re [1, 0, 2] rfl : Own Z0 W w40 [.blk g8 57 ((vcells (upS ts i)).toArray), .blk g25 38 #[.int .i64 (-1), .int .i64 (-1), .int .i64 v], .ro D (fun w => NodesD D w (.slice (some ⟨b, o, none⟩) ts.length c) ts)]) ty57 (.agg #[.int .u64 ((setT (trF ts ts.length i)).a.toNat : Int), .int .u64 ((setT (trF ts ts.length i)).b.toNat : Int)]) [.int .u64 ((setT (trF ts ts.length i)).a.toNat : Int), .int .u64 ((setT (trF ts ts.length i)).b.toNat : Int)] (cs' := (vcells ((upS ts i).set i (setT (trF ts ts.length i)))).toArray) rfl rfl rfl (by simp [vcells_len, upS_len] <;> omega) (setV _ i (setT (trF ts ts.length i)))
      refine wt3_none rfl (fun ρ e => r44 ρ _ _ _ _ _ _ (e _ _ rfl) (e _ _ rfl)) rfl ?_
      refine wt_nil ?_
      refine xw_block ?_
      refine xw_next K23 ?_
      refine cw_region ?_
      refine wl_val (v := .int .i64 ((i + 1 : Nat) : Int)) (fun ρ e => ex_arith (k := .i64) (u := (i : Int)) (v := 1) (e _ _ rfl) (e _ _ rfl) (congrArg some ((congrArg _ (by omega)).trans (wrap_in (u := ((i + 1 : Nat) : Int)) (by omega) (by omega))))) rfl rfl ?_
      refine wl_val (v := .int .i64 ((i + 1 : Nat) : Int)) (fun ρ e => ex_move (e _ _ rfl)) rfl rfl ?_
      refine wl_nil ?_
      have O47 : Own Z0 W w43 [.blk g8 57 ((vcells (upS ts (i + 1))).toArray), .ro D (fun w => NodesD D w (.slice (some ⟨b, o, none⟩) ts.length c) ts)] := by rw [← upS_set hi]; exact (O45.re [0, 2] rfl : Own Z0 W w43 [.blk g8 57 ((vcells ((upS ts i).set i (setT (trF ts ts.length i)))).toArray), .ro D (fun w => NodesD D w (.slice (some ⟨b, o, none⟩) ts.length c) ts)])
      refine xw_round K19 (i + 1) (by show ts.length - (i + 1) < ts.length - i; omega) ⟨(by show i + 1 ≤ ts.length; omega), O47⟩ ⟨rfl, rfl, rfl, rfl, trivial⟩
    · skip
      have hx : ts[i]? = some ⟨(a : Int), (b2 : Int), 0⟩ := by rw [List.getElem?_eq_getElem hi, hx0]
      have hlf : (lf (VN.mk (a : Int) (b2 : Int) 0)) = false := lf_inner a b2
      refine cw_seq (fun FK48 K48 => ?_)
      refine cw_region ?_
      refine wl_val (v := .bool true) (fun ρ e => ex_cmp (u := (i : Int)) (v := ((ts.length : Nat) : Int)) (e _ _ rfl) (e _ _ rfl) (lss1 (by omega))) rfl rfl ?_
      refine wl_nil ?_
      refine xw_next K48 ?_
      refine cw_seq (fun FK49 K49 => ?_)
      refine cw_true rfl ?_
      refine cw_skip ?_
      refine xw_next K49 ?_
      refine cw_seq (fun FK50 K50 => ?_)
      refine cw_block ?_
      refine cw_seq (fun FK51 K51 => ?_)
      refine cw_region ?_
      refine wl_val (v := .int .i64 (i : Int)) (fun ρ e => ex_move (e _ _ rfl)) rfl rfl ?_
      refine wl_val (v := .pointer (some ⟨b, o + i * 3, none⟩)) (fun ρ e => ex_idx (q := o + i * 3) (i := i) el23 (e _ _ rfl) (e _ _ rfl) (by omega) (by omega)) rfl rfl ?_
      refine wl_val (v := .agg #[.int .i64 (a : Int), .int .i64 (b2 : Int), .int .i64 0]) (fun ρ e => ex_loadN (vs := [.int .i64 (a : Int), .int .i64 (b2 : Int), .int .i64 0]) ty38 (e _ _ rfl) rfl (cells3 (NodesD.c0 ((O20.ro 1 rfl : (fun w => NodesD D w (.slice (some ⟨b, o, none⟩) ts.length c) ts) _) : NodesD _ _ _ _) hx) (NodesD.c1 ((O20.ro 1 rfl : (fun w => NodesD D w (.slice (some ⟨b, o, none⟩) ts.length c) ts) _) : NodesD _ _ _ _) hx) (NodesD.c2 ((O20.ro 1 rfl : (fun w => NodesD D w (.slice (some ⟨b, o, none⟩) ts.length c) ts) _) : NodesD _ _ _ _) hx))) rfl rfl ?_
      obtain ⟨g52, w53, r54, O55, hg56, hs57⟩ := own_alloc O20 38 ze38 rfl
      refine wl_val (v := .pointer (some ⟨g52, 0, none⟩)) (fun ρ e => r54 ρ _ _ _ _ _) rfl rfl ?_
      refine wl_val (v := .int .i64 (i : Int)) (fun ρ e => ex_assign (e _ _ rfl)) rfl rfl ?_
      obtain ⟨w58, r59, O60, hs61⟩ := own_put (o := 0) (n := 3) O55 ty38 (.agg #[.int .i64 (a : Int), .int .i64 (b2 : Int), .int .i64 0]) [.int .i64 (a : Int), .int .i64 (b2 : Int), .int .i64 0] (cs' := #[.int .i64 (a : Int), .int .i64 (b2 : Int), .int .i64 0]) rfl rfl rfl (Nat.le_of_ble_eq_true rfl) rfl
      refine wl_none (fun ρ e => r59 ρ _ _ _ _ _ _ (e _ _ rfl) (e _ _ rfl)) rfl ?_
      refine wl_nil ?_
      refine xw_next K51 ?_
      refine cw_seq (fun FK62 K62 => ?_)
      refine cw_region ?_
      refine wl_val (v := .agg #[.int .i64 (a : Int), .int .i64 (b2 : Int), .int .i64 0]) (fun ρ e => ex_loadN (vs := [.int .i64 (a : Int), .int .i64 (b2 : Int), .int .i64 0]) ty38 (e _ _ rfl) rfl (O60.cells 0 0 rfl rfl)) rfl rfl ?_
      refine wl_call (args := [.agg #[.int .i64 (a : Int), .int .i64 (b2 : Int), .int .i64 0]]) in_53 rfl rfl rfl ?_
      refine (isleaf_ (VN.mk (a : Int) (b2 : Int) 0) (W := w58)).mono ?_
      rintro _ w63 ⟨rfl, hb64⟩
      have O65 : Own Z0 W w63 [.blk g52 38 #[.int .i64 (a : Int), .int .i64 (b2 : Int), .int .i64 0], .blk g8 57 ((vcells (upS ts i)).toArray), .ro D (fun w => NodesD D w (.slice (some ⟨b, o, none⟩) ts.length c) ts)] := O60.below hb64
      refine ⟨_, rfl, ?_⟩
      refine wl_nil ?_
      refine xw_next K62 ?_
      refine cw_false (congrArg (fun b => some (Value.bool b)) hlf) ?_
      refine cw_drawn (fun X => Own Z0 W X [.blk g52 38 #[.int .i64 (a : Int), .int .i64 (b2 : Int), .int .i64 0], .blk g8 57 ((vcells (upS ts i)).toArray), .ro D (fun w => NodesD D w (.slice (some ⟨b, o, none⟩) ts.length c) ts)]) 14 [(0, 1), (1, 1), (2, 1), (3, 1), (4, 0), (5, 1), (6, 0), (7, 1), (8, 1), (9, 0), (10, 1), (11, 0), (12, 2), (13, 1), (14, 3)] (by kernel_rfl) (by kernel_rfl) (PQ.block (PQ.then_ (PQ.then_ (PQ.block (PQ.then_ PQ.body))))) (O65).drew ?_
      have O66 : Own Z0 W w63.drew [.blk g52 38 #[.int .i64 (a : Int), .int .i64 (b2 : Int), .int .i64 0], .blk g8 57 ((vcells (upS ts i)).toArray), .ro D (fun w => NodesD D w (.slice (some ⟨b, o, none⟩) ts.length c) ts)] := O65.drew
      refine wt1 (v := .slice (some ⟨g8, 0, none⟩) ts.length ts.length) rfl (fun ρ e W => ex_move (e _ _ rfl)) rfl rfl ?_
      refine wt1 (v := .int .i64 (i : Int)) rfl (fun ρ e W => ex_move (e _ _ rfl)) rfl rfl ?_
      refine wt1 (v := .slice (some ⟨g8, 0, none⟩) ts.length ts.length) rfl (fun ρ e W => ex_move (e _ _ rfl)) rfl rfl ?_
      refine wt1 (v := .pointer (some ⟨g52, 0, none⟩)) rfl (fun ρ e W => ex_field (q := 0) fi38_0 (e _ _ rfl) rfl) rfl rfl ?_
      refine wt0 (v := .int .i64 (a : Int)) rfl (fun ρ e W hW => ex_load1 ty3 (e _ _ rfl) (hW.cell 0 0 rfl rfl)) rfl rfl ?_
      refine wt1 (v := .pointer (some ⟨g8, a * 2, none⟩)) rfl (fun ρ e W => ex_idx (q := a * 2) (i := a) el53 (e _ _ rfl) (e _ _ rfl) (by omega) (by omega)) rfl rfl ?_
      refine wt0 (v := .agg #[.int .u64 ((setT (trF ts ts.length a)).a.toNat : Int), .int .u64 ((setT (trF ts ts.length a)).b.toNat : Int)]) rfl (fun ρ e W hW => ex_loadN (vs := [.int .u64 ((setT (trF ts ts.length a)).a.toNat : Int), .int .u64 ((setT (trF ts ts.length a)).b.toNat : Int)]) ty57 (e _ _ rfl) rfl (cells2 ((hW.blk 1 rfl).cell _ |>.trans (getV0 (upS_get (by omega) ha))) ((hW.blk 1 rfl).cell _ |>.trans (getV1 (upS_get (by omega) ha))))) rfl rfl ?_
      refine wt1 (v := .slice (some ⟨g8, 0, none⟩) ts.length ts.length) rfl (fun ρ e W => ex_move (e _ _ rfl)) rfl rfl ?_
      refine wt1 (v := .pointer (some ⟨g52, 1, none⟩)) rfl (fun ρ e W => ex_field (q := 1) fi38_1 (e _ _ rfl) rfl) rfl rfl ?_
      refine wt0 (v := .int .i64 (b2 : Int)) rfl (fun ρ e W hW => ex_load1 ty3 (e _ _ rfl) (hW.cell 0 1 rfl rfl)) rfl rfl ?_
      refine wt1 (v := .pointer (some ⟨g8, b2 * 2, none⟩)) rfl (fun ρ e W => ex_idx (q := b2 * 2) (i := b2) el53 (e _ _ rfl) (e _ _ rfl) (by omega) (by omega)) rfl rfl ?_
      refine wt0 (v := .agg #[.int .u64 ((setT (trF ts ts.length b2)).a.toNat : Int), .int .u64 ((setT (trF ts ts.length b2)).b.toNat : Int)]) rfl (fun ρ e W hW => ex_loadN (vs := [.int .u64 ((setT (trF ts ts.length b2)).a.toNat : Int), .int .u64 ((setT (trF ts ts.length b2)).b.toNat : Int)]) ty57 (e _ _ rfl) rfl (cells2 ((hW.blk 1 rfl).cell _ |>.trans (getV0 (upS_get (by omega) hb))) ((hW.blk 1 rfl).cell _ |>.trans (getV1 (upS_get (by omega) hb))))) rfl rfl ?_
      refine wt2_call (args := [.agg #[.int .u64 ((setT (trF ts ts.length a)).a.toNat : Int), .int .u64 ((setT (trF ts ts.length a)).b.toNat : Int)], .agg #[.int .u64 ((setT (trF ts ts.length b2)).a.toNat : Int), .int .u64 ((setT (trF ts ts.length b2)).b.toNat : Int)]]) rfl in_74 rfl rfl rfl ?_
      have hset : VS.union (setT (trF ts ts.length a)) (setT (trF ts ts.length b2)) = (setT (trF ts ts.length i)) := by rw [tr_node hV hx]; rfl
      have hcw := vars_union (setT (trF ts ts.length a)) (setT (trF ts ts.length b2)) w63.drew
      rw [hset] at hcw
      refine hcw.mono ?_
      rintro _ w67 ⟨rfl, hb68⟩
      have O69 : Own Z0 W w67 [.blk g52 38 #[.int .i64 (a : Int), .int .i64 (b2 : Int), .int .i64 0], .blk g8 57 ((vcells (upS ts i)).toArray), .ro D (fun w => NodesD D w (.slice (some ⟨b, o, none⟩) ts.length c) ts)] := O66.below hb68
      refine ⟨_, rfl, O69, ?_⟩
      refine wt1 (v := .pointer (some ⟨g8, i * 2, none⟩)) rfl (fun ρ e W => ex_idx (q := i * 2) (i := i) el53 (e _ _ rfl) (e _ _ rfl) (by omega) (by omega)) rfl rfl ?_
      obtain ⟨w70, r71, O72, hs73⟩ := own_put (o := i * 2) (n := 2) (O69.re [1, 0, 2] rfl : Own Z0 W w67 [.blk g8 57 ((vcells (upS ts i)).toArray), .blk g52 38 #[.int .i64 (a : Int), .int .i64 (b2 : Int), .int .i64 0], .ro D (fun w => NodesD D w (.slice (some ⟨b, o, none⟩) ts.length c) ts)]) ty57 (.agg #[.int .u64 ((setT (trF ts ts.length i)).a.toNat : Int), .int .u64 ((setT (trF ts ts.length i)).b.toNat : Int)]) [.int .u64 ((setT (trF ts ts.length i)).a.toNat : Int), .int .u64 ((setT (trF ts ts.length i)).b.toNat : Int)] (cs' := (vcells ((upS ts i).set i (setT (trF ts ts.length i)))).toArray) rfl rfl rfl (by simp [vcells_len, upS_len] <;> omega) (setV _ i (setT (trF ts ts.length i)))
      refine wt3_none rfl (fun ρ e => r71 ρ _ _ _ _ _ _ (e _ _ rfl) (e _ _ rfl)) rfl ?_
      refine wt_nil ?_
      refine xw_block ?_
      refine xw_next K50 ?_
      refine cw_region ?_
      refine wl_val (v := .int .i64 ((i + 1 : Nat) : Int)) (fun ρ e => ex_arith (k := .i64) (u := (i : Int)) (v := 1) (e _ _ rfl) (e _ _ rfl) (congrArg some ((congrArg _ (by omega)).trans (wrap_in (u := ((i + 1 : Nat) : Int)) (by omega) (by omega))))) rfl rfl ?_
      refine wl_val (v := .int .i64 ((i + 1 : Nat) : Int)) (fun ρ e => ex_move (e _ _ rfl)) rfl rfl ?_
      refine wl_nil ?_
      have O74 : Own Z0 W w70 [.blk g8 57 ((vcells (upS ts (i + 1))).toArray), .ro D (fun w => NodesD D w (.slice (some ⟨b, o, none⟩) ts.length c) ts)] := by rw [← upS_set hi]; exact (O72.re [0, 2] rfl : Own Z0 W w70 [.blk g8 57 ((vcells ((upS ts i).set i (setT (trF ts ts.length i)))).toArray), .ro D (fun w => NodesD D w (.slice (some ⟨b, o, none⟩) ts.length c) ts)])
      refine xw_round K19 (i + 1) (by show ts.length - (i + 1) < ts.length - i; omega) ⟨(by show i + 1 ≤ ts.length; omega), O74⟩ ⟨rfl, rfl, rfl, rfl, trivial⟩
  · have hie : i = ts.length := by omega
    rw [hie, upS_all] at O20
    refine cw_seq (fun FK75 K75 => ?_)
    refine cw_region ?_
    refine wl_val (v := .bool false) (fun ρ e => ex_cmp (u := (i : Int)) (v := ((ts.length : Nat) : Int)) (e _ _ rfl) (e _ _ rfl) (lss0 (by omega))) rfl rfl ?_
    refine wl_nil ?_
    refine xw_next K75 ?_
    refine cw_seq (fun FK76 K76 => ?_)
    refine cw_false rfl ?_
    refine cw_exit ?_
    refine xw_past (by intro h; cases h) ?_
    refine xw_past (by intro h; cases h) ?_
    refine xw_here ?_
    refine xw_next K14 ?_
    refine cw_seq (fun FK77 K77 => ?_)
    refine cw_region ?_
    refine wl_val (v := .slice (some ⟨g8, 0, none⟩) ts.length ts.length) (fun ρ e => ex_move (e _ _ rfl)) rfl rfl ?_
    refine wl_val (v := .slice (some ⟨g8, 0, none⟩) ts.length ts.length) (fun ρ e => ex_assign (e _ _ rfl)) rfl rfl ?_
    refine wl_nil ?_
    refine xw_next K77 ?_
    refine cw_ret ?_
    refine xw_ret (v := .slice (some ⟨g8, 0, none⟩) ts.length ts.length) (fun T hT => res1 rfl T _ (hT 2 _ rfl)) ?_
    have O78 := Own.blkrowV (l := setsOf ts) (n := ts.length) (O20.re [0] rfl : Own Z0 W w17 [.blk g8 57 ((vcells (setsOf ts)).toArray)]) (by simp [setsOf_len]) (by omega)
    exact ⟨g8, ts.length, rfl, O78⟩
theorem vvars_no {W : World} {D : Nat → Prop} {V : Value} {ts : List VN} (hN : NodesD D W V ts) (hD : ∀ k, D k → k < W.heap.size) (hok : okT ts = false) : Calls Tryd.prog 44 #[V] W fun e w' => e = .returned (.slice none 0 0) ∧ Below W.heap.size W w' := by
  obtain ⟨A, c, rfl⟩ := hN.slice
  have O0 : Own Z0 W W [] := Own.start W
  refine sx_enter (args := [.slice A ts.length c]) Tryd.func44 rfl rfl (by simp) ?_
  refine cw_seq (fun FK1 K1 => ?_)
  refine cw_region ?_
  refine wl_val (v := .slice none 0 0) (fun ρ e => ex_assign (e _ _ rfl)) rfl rfl ?_
  refine wl_nil ?_
  refine xw_next K1 ?_
  refine cw_seq (fun FK2 K2 => ?_)
  refine cw_seq (fun FK3 K3 => ?_)
  refine cw_region ?_
  refine wl_val (v := .slice A ts.length c) (fun ρ e => ex_move (e _ _ rfl)) rfl rfl ?_
  refine wl_call (args := [.slice A ts.length c]) in_23 rfl rfl rfl ?_
  refine (checkb_ (hN.move (fun k hk => (O0.old).block k (hD k hk))) (fun k hk => Nat.lt_of_lt_of_le (hD k hk) (O0.old).size) (chk_val hok)).mono ?_
  rintro _ w4 ⟨rfl, hb5⟩
  have O6 : Own Z0 W w4 [] := O0.below hb5
  refine ⟨_, rfl, ?_⟩
  refine wl_val (v := .bool true) (fun ρ e => ex_cmp (u := 1) (v := 0) (e _ _ rfl) (e _ _ rfl) (neq1 (by omega))) rfl rfl ?_
  refine wl_nil ?_
  refine xw_next K3 ?_
  refine cw_true rfl ?_
  refine cw_seq (fun FK7 K7 => ?_)
  refine cw_region ?_
  refine wl_val (v := .slice none 0 0) (fun ρ e => ex_assign (e _ _ rfl)) rfl rfl ?_
  refine wl_nil ?_
  refine xw_next K7 ?_
  refine cw_ret ?_
  refine xw_past (by intro h; cases h) ?_
  refine xw_ret (v := .slice none 0 0) (fun T hT => res1 rfl T _ (hT 2 _ rfl)) ?_
  exact ⟨rfl, O6.old⟩
theorem rvars_ok {W : World} {D : Nat → Prop} {b o c : Nat} {ts : List VN} (hN : NodesD D W (.slice (some ⟨b, o, none⟩) ts.length c) ts) (hD : ∀ k, D k → k < W.heap.size) (hok : okT ts = true) : Calls Tryd.prog 45 #[.slice (some ⟨b, o, none⟩) ts.length c] W fun e w' => ∃ g c', e = .returned (.slice (some ⟨g, 0, none⟩) ts.length c') ∧ Own Z0 W w' [.row (.slice (some ⟨g, 0, none⟩) ts.length c') 57 2 ts.length (vcells (setsOf ts))] := by
  have hV := okT_val hok
  have hpos := hV.pos
  have hle := hV.le
  have O0 : Own Z0 W W [.ro D (fun w => NodesD D w (.slice (some ⟨b, o, none⟩) ts.length c) ts)] := (Own.start W).oldro (D := D) (p := (fun w => NodesD D w (.slice (some ⟨b, o, none⟩) ts.length c) ts)) (nodesE_holds hN hD)
  refine sx_enter (args := [.slice (some ⟨b, o, none⟩) ts.length c]) Tryd.func45 rfl rfl (by simp) ?_
  refine cw_seq (fun FK1 K1 => ?_)
  refine cw_region ?_
  refine wl_val (v := .slice none 0 0) (fun ρ e => ex_assign (e _ _ rfl)) rfl rfl ?_
  refine wl_nil ?_
  refine xw_next K1 ?_
  refine cw_seq (fun FK2 K2 => ?_)
  refine cw_seq (fun FK3 K3 => ?_)
  refine cw_region ?_
  refine wl_val (v := .slice (some ⟨b, o, none⟩) ts.length c) (fun ρ e => ex_move (e _ _ rfl)) rfl rfl ?_
  refine wl_call (args := [.slice (some ⟨b, o, none⟩) ts.length c]) in_41 rfl rfl rfl ?_
  refine (rcheckb_ (hN.move (fun k hk => (O0.old).block k (hD k hk))) (fun k hk => Nat.lt_of_lt_of_le (hD k hk) (O0.old).size) (by omega) (chk_val hok)).mono ?_
  rintro _ w4 ⟨rfl, hb5⟩
  have O6 : Own Z0 W w4 [.ro D (fun w => NodesD D w (.slice (some ⟨b, o, none⟩) ts.length c) ts)] := O0.below hb5
  refine ⟨_, rfl, ?_⟩
  refine wl_val (v := .bool false) (fun ρ e => ex_cmp (u := 0) (v := 0) (e _ _ rfl) (e _ _ rfl) (neq0 (by omega))) rfl rfl ?_
  refine wl_nil ?_
  refine xw_next K3 ?_
  refine cw_false rfl ?_
  refine cw_skip ?_
  refine xw_next K2 ?_
  refine cw_seq (fun FK7 K7 => ?_)
  refine cw_region ?_
  refine wl_val (v := .slice (some ⟨b, o, none⟩) ts.length c) (fun ρ e => ex_move (e _ _ rfl)) rfl rfl ?_
  refine wl_val (v := .int .i64 ((ts.length : Nat) : Int)) (fun ρ e => ex_len el23 (e _ _ rfl)) rfl rfl ?_
  obtain ⟨g8, w9, r10, O11, hg12, hs13⟩ := own_makeV O6 ts.length (by omega) (cs := (vcells (upS ts 0)).toArray) (by rw [upS_zero])
  refine wl_val (v := .slice (some ⟨g8, 0, none⟩) ts.length ts.length) (fun ρ e => r10 ρ _ _ _ _ _ _ _ (e _ _ rfl) (e _ _ rfl)) rfl rfl ?_
  refine wl_val (v := .slice (some ⟨g8, 0, none⟩) ts.length ts.length) (fun ρ e => ex_assign (e _ _ rfl)) rfl rfl ?_
  refine wl_nil ?_
  refine xw_next K7 ?_
  refine cw_seq (fun FK14 K14 => ?_)
  refine cw_seq (fun FK15 K15 => ?_)
  refine cw_region ?_
  refine wl_val (v := .int .i64 0) (fun ρ e => ex_assign (e _ _ rfl)) rfl rfl ?_
  refine wl_nil ?_
  refine xw_next K15 ?_
  refine cw_block ?_
  have O16 : Own Z0 W w9 [.blk g8 57 ((vcells (upS ts 0)).toArray), .ro D (fun w => NodesD D w (.slice (some ⟨b, o, none⟩) ts.length c) ts)] := O11
  refine cw_loop (ι := Nat) (fun q => [(0, .slice (some ⟨b, o, none⟩) ts.length c), (3, .slice (some ⟨g8, 0, none⟩) ts.length ts.length), (4, .int .i64 (q : Int))]) (fun q X => (q ≤ ts.length) ∧ Own Z0 W X [.blk g8 57 ((vcells (upS ts q)).toArray), .ro D (fun w => NodesD D w (.slice (some ⟨b, o, none⟩) ts.length c) ts)]) (fun q => ts.length - q) 0 ⟨Nat.zero_le _, O16⟩ ⟨rfl, rfl, rfl, trivial⟩ (fun q w17 hJ F18 K19 => ?_)
  obtain ⟨i, rfl⟩ : ∃ x, x = q := ⟨_, rfl⟩
  obtain ⟨hi0, O20⟩ := hJ
  try dsimp only at hi0 O20 ⊢
  by_cases hi : i < ts.length
  · skip
    rcases hV.kind i _ (List.getElem?_eq_getElem hi) with ⟨v, hx0, h1, h2⟩ | ⟨a, b2, hx0, ha, hb, hab⟩
    · skip
      have hx : ts[i]? = some ⟨-1, -1, v⟩ := by rw [List.getElem?_eq_getElem hi, hx0]
      have hlf : (lf (VN.mk (-1) (-1) v)) = true := lf_leaf h1 h2
      by_cases h64 : v ≤ 64
      · skip
        obtain ⟨vn, rfl⟩ : ∃ n : Nat, v = n := ⟨v.toNat, by omega⟩
        refine cw_seq (fun FK21 K21 => ?_)
        refine cw_seq (fun FK22 K22 => ?_)
        refine cw_region ?_
        refine wl_val (v := .int .i64 (i : Int)) (fun ρ e => ex_move (e _ _ rfl)) rfl rfl ?_
        refine wl_val (v := .slice (some ⟨b, o, none⟩) ts.length c) (fun ρ e => ex_move (e _ _ rfl)) rfl rfl ?_
        refine wl_val (v := .int .i64 ((ts.length : Nat) : Int)) (fun ρ e => ex_len el23 (e _ _ rfl)) rfl rfl ?_
        refine wl_val (v := .bool true) (fun ρ e => ex_cmp (u := (i : Int)) (v := ((ts.length : Nat) : Int)) (e _ _ rfl) (e _ _ rfl) (lss1 (by omega))) rfl rfl ?_
        refine wl_nil ?_
        refine xw_next K22 ?_
        refine cw_true rfl ?_
        refine cw_skip ?_
        refine xw_next K21 ?_
        refine cw_seq (fun FK23 K23 => ?_)
        refine cw_block ?_
        refine cw_seq (fun FK24 K24 => ?_)
        refine cw_region ?_
        refine wl_val (v := .slice (some ⟨b, o, none⟩) ts.length c) (fun ρ e => ex_move (e _ _ rfl)) rfl rfl ?_
        refine wl_val (v := .int .i64 (i : Int)) (fun ρ e => ex_move (e _ _ rfl)) rfl rfl ?_
        refine wl_val (v := .pointer (some ⟨b, o + i * 3, none⟩)) (fun ρ e => ex_idx (q := o + i * 3) (i := i) el23 (e _ _ rfl) (e _ _ rfl) (by omega) (by omega)) rfl rfl ?_
        refine wl_val (v := .agg #[.int .i64 (-1), .int .i64 (-1), .int .i64 (vn : Int)]) (fun ρ e => ex_loadN (vs := [.int .i64 (-1), .int .i64 (-1), .int .i64 (vn : Int)]) ty38 (e _ _ rfl) rfl (cells3 (NodesD.c0 ((O20.ro 1 rfl : (fun w => NodesD D w (.slice (some ⟨b, o, none⟩) ts.length c) ts) _) : NodesD _ _ _ _) hx) (NodesD.c1 ((O20.ro 1 rfl : (fun w => NodesD D w (.slice (some ⟨b, o, none⟩) ts.length c) ts) _) : NodesD _ _ _ _) hx) (NodesD.c2 ((O20.ro 1 rfl : (fun w => NodesD D w (.slice (some ⟨b, o, none⟩) ts.length c) ts) _) : NodesD _ _ _ _) hx))) rfl rfl ?_
        refine wl_call (args := [.agg #[.int .i64 (-1), .int .i64 (-1), .int .i64 (vn : Int)]]) in_72 rfl rfl rfl ?_
        refine (rleaf_ (VN.mk (-1) (-1) (vn : Int)) (W := w17)).mono ?_
        rintro _ w25 ⟨rfl, hb26⟩
        have O27 : Own Z0 W w25 [.blk g8 57 ((vcells (upS ts i)).toArray), .ro D (fun w => NodesD D w (.slice (some ⟨b, o, none⟩) ts.length c) ts)] := O20.below hb26
        refine ⟨_, rfl, ?_⟩
        refine wl_nil ?_
        refine xw_next K24 ?_
        refine cw_true (congrArg (fun b => some (Value.bool b)) hlf) ?_
        refine cw_seq (fun FK28 K28 => ?_)
        refine cw_region ?_
        refine wl_val (v := .slice (some ⟨b, o, none⟩) ts.length c) (fun ρ e => ex_move (e _ _ rfl)) rfl rfl ?_
        refine wl_val (v := .int .i64 (i : Int)) (fun ρ e => ex_move (e _ _ rfl)) rfl rfl ?_
        refine wl_val (v := .pointer (some ⟨b, o + i * 3, none⟩)) (fun ρ e => ex_idx (q := o + i * 3) (i := i) el23 (e _ _ rfl) (e _ _ rfl) (by omega) (by omega)) rfl rfl ?_
        refine wl_val (v := .pointer (some ⟨b, o + i * 3 + 2, none⟩)) (fun ρ e => ex_field (q := o + i * 3 + 2) fi38_2 (e _ _ rfl) rfl) rfl rfl ?_
        refine wl_val (v := .int .i64 (vn : Int)) (fun ρ e => ex_load1 ty3 (e _ _ rfl) (NodesD.c2 ((O27.ro 1 rfl : (fun w => NodesD D w (.slice (some ⟨b, o, none⟩) ts.length c) ts) _) : NodesD _ _ _ _) hx)) rfl rfl ?_
        refine wl_val (v := .int .i64 (vn : Int)) (fun ρ e => ex_assign (e _ _ rfl)) rfl rfl ?_
        refine wl_nil ?_
        refine xw_next K28 ?_
        refine cw_region ?_
        refine wl_val (v := .slice (some ⟨g8, 0, none⟩) ts.length ts.length) (fun ρ e => ex_move (e _ _ rfl)) rfl rfl ?_
        refine wl_val (v := .int .i64 (i : Int)) (fun ρ e => ex_move (e _ _ rfl)) rfl rfl ?_
        refine wl_val (v := .int .i64 (vn : Int)) (fun ρ e => ex_move (e _ _ rfl)) rfl rfl ?_
        refine wl_val (v := .int .i64 ((vn - 1 : Nat) : Int)) (fun ρ e => ex_arith (k := .i64) (u := (vn : Int)) (v := 1) (e _ _ rfl) (e _ _ rfl) (congrArg some ((congrArg _ (show _ = ((vn - 1 : Nat) : Int) by omega)).trans (wrap_in (by omega) (by omega))))) rfl rfl ?_
        refine wl_val (v := .int .i64 0) (fun ρ e => ex_quo64 (a := vn - 1) (q := 0) (e _ _ rfl) (e _ _ rfl) (by omega)) rfl rfl ?_
        refine wl_val (v := .int .i64 (vn : Int)) (fun ρ e => ex_move (e _ _ rfl)) rfl rfl ?_
        refine wl_val (v := .int .i64 ((vn - 1 : Nat) : Int)) (fun ρ e => ex_arith (k := .i64) (u := (vn : Int)) (v := 1) (e _ _ rfl) (e _ _ rfl) (congrArg some ((congrArg _ (show _ = ((vn - 1 : Nat) : Int) by omega)).trans (wrap_in (by omega) (by omega))))) rfl rfl ?_
        refine wl_val (v := .int .i64 ((vn - 1 : Nat) : Int)) (fun ρ e => ex_rem64 (a := vn - 1) (q := vn - 1) (e _ _ rfl) (e _ _ rfl) (by omega)) rfl rfl ?_
        refine wl_val (v := .int .u64 ((vn - 1 : Nat) : Int)) (fun ρ e => ex_conv343 (e _ _ rfl) (by omega) (by omega)) rfl rfl ?_
        refine wl_val (v := .int .u64 ((1#64 <<< (vn - 1)).toNat : Int)) (fun ρ e => ex_shl1 (k := vn - 1) (e _ _ rfl) (e _ _ rfl) (by omega)) rfl rfl ?_
        refine wl_val (v := .pointer (some ⟨g8, i * 2, none⟩)) (fun ρ e => ex_idx (q := i * 2) (i := i) el53 (e _ _ rfl) (e _ _ rfl) (by omega) (by omega)) rfl rfl ?_
        refine wl_val (v := .pointer (some ⟨g8, i * 2, none⟩)) (fun ρ e => ex_idxA (q := i * 2) (i := 0) an57 (e _ _ rfl) (e _ _ rfl) (by omega) (by omega)) rfl rfl ?_
        obtain ⟨w29, r30, O31, hs32⟩ := own_put (o := i * 2) (n := 1) O27 ty55 (.int .u64 ((1#64 <<< (vn - 1)).toNat : Int)) [.int .u64 ((1#64 <<< (vn - 1)).toNat : Int)] (cs' := (vcells ((upS ts i).set i (setT (trF ts ts.length i)))).toArray) rfl rfl rfl (by simp [vcells_len, upS_len] <;> omega) (setV0 (upS_new hi) (leaf_lo hx h1 h2 (by omega)))
        refine wl_none (fun ρ e => r30 ρ _ _ _ _ _ _ (e _ _ rfl) (e _ _ rfl)) rfl ?_
        refine wl_nil ?_
        refine xw_block ?_
        refine xw_next K23 ?_
        refine cw_region ?_
        refine wl_val (v := .int .i64 (i : Int)) (fun ρ e => ex_move (e _ _ rfl)) rfl rfl ?_
        refine wl_val (v := .int .i64 ((i + 1 : Nat) : Int)) (fun ρ e => ex_arith (k := .i64) (u := (i : Int)) (v := 1) (e _ _ rfl) (e _ _ rfl) (congrArg some ((congrArg _ (by omega)).trans (wrap_in (u := ((i + 1 : Nat) : Int)) (by omega) (by omega))))) rfl rfl ?_
        refine wl_val (v := .int .i64 ((i + 1 : Nat) : Int)) (fun ρ e => ex_assign (e _ _ rfl)) rfl rfl ?_
        refine wl_nil ?_
        have O33 : Own Z0 W w29 [.blk g8 57 ((vcells (upS ts (i + 1))).toArray), .ro D (fun w => NodesD D w (.slice (some ⟨b, o, none⟩) ts.length c) ts)] := by rw [← upS_set hi]; exact O31
        refine xw_round K19 (i + 1) (by show ts.length - (i + 1) < ts.length - i; omega) ⟨(by show i + 1 ≤ ts.length; omega), O33⟩ ⟨rfl, rfl, rfl, trivial⟩
      · skip
        obtain ⟨vn, rfl⟩ : ∃ n : Nat, v = n := ⟨v.toNat, by omega⟩
        refine cw_seq (fun FK34 K34 => ?_)
        refine cw_seq (fun FK35 K35 => ?_)
        refine cw_region ?_
        refine wl_val (v := .int .i64 (i : Int)) (fun ρ e => ex_move (e _ _ rfl)) rfl rfl ?_
        refine wl_val (v := .slice (some ⟨b, o, none⟩) ts.length c) (fun ρ e => ex_move (e _ _ rfl)) rfl rfl ?_
        refine wl_val (v := .int .i64 ((ts.length : Nat) : Int)) (fun ρ e => ex_len el23 (e _ _ rfl)) rfl rfl ?_
        refine wl_val (v := .bool true) (fun ρ e => ex_cmp (u := (i : Int)) (v := ((ts.length : Nat) : Int)) (e _ _ rfl) (e _ _ rfl) (lss1 (by omega))) rfl rfl ?_
        refine wl_nil ?_
        refine xw_next K35 ?_
        refine cw_true rfl ?_
        refine cw_skip ?_
        refine xw_next K34 ?_
        refine cw_seq (fun FK36 K36 => ?_)
        refine cw_block ?_
        refine cw_seq (fun FK37 K37 => ?_)
        refine cw_region ?_
        refine wl_val (v := .slice (some ⟨b, o, none⟩) ts.length c) (fun ρ e => ex_move (e _ _ rfl)) rfl rfl ?_
        refine wl_val (v := .int .i64 (i : Int)) (fun ρ e => ex_move (e _ _ rfl)) rfl rfl ?_
        refine wl_val (v := .pointer (some ⟨b, o + i * 3, none⟩)) (fun ρ e => ex_idx (q := o + i * 3) (i := i) el23 (e _ _ rfl) (e _ _ rfl) (by omega) (by omega)) rfl rfl ?_
        refine wl_val (v := .agg #[.int .i64 (-1), .int .i64 (-1), .int .i64 (vn : Int)]) (fun ρ e => ex_loadN (vs := [.int .i64 (-1), .int .i64 (-1), .int .i64 (vn : Int)]) ty38 (e _ _ rfl) rfl (cells3 (NodesD.c0 ((O20.ro 1 rfl : (fun w => NodesD D w (.slice (some ⟨b, o, none⟩) ts.length c) ts) _) : NodesD _ _ _ _) hx) (NodesD.c1 ((O20.ro 1 rfl : (fun w => NodesD D w (.slice (some ⟨b, o, none⟩) ts.length c) ts) _) : NodesD _ _ _ _) hx) (NodesD.c2 ((O20.ro 1 rfl : (fun w => NodesD D w (.slice (some ⟨b, o, none⟩) ts.length c) ts) _) : NodesD _ _ _ _) hx))) rfl rfl ?_
        refine wl_call (args := [.agg #[.int .i64 (-1), .int .i64 (-1), .int .i64 (vn : Int)]]) in_72 rfl rfl rfl ?_
        refine (rleaf_ (VN.mk (-1) (-1) (vn : Int)) (W := w17)).mono ?_
        rintro _ w38 ⟨rfl, hb39⟩
        have O40 : Own Z0 W w38 [.blk g8 57 ((vcells (upS ts i)).toArray), .ro D (fun w => NodesD D w (.slice (some ⟨b, o, none⟩) ts.length c) ts)] := O20.below hb39
        refine ⟨_, rfl, ?_⟩
        refine wl_nil ?_
        refine xw_next K37 ?_
        refine cw_true (congrArg (fun b => some (Value.bool b)) hlf) ?_
        refine cw_seq (fun FK41 K41 => ?_)
        refine cw_region ?_
        refine wl_val (v := .slice (some ⟨b, o, none⟩) ts.length c) (fun ρ e => ex_move (e _ _ rfl)) rfl rfl ?_
        refine wl_val (v := .int .i64 (i : Int)) (fun ρ e => ex_move (e _ _ rfl)) rfl rfl ?_
        refine wl_val (v := .pointer (some ⟨b, o + i * 3, none⟩)) (fun ρ e => ex_idx (q := o + i * 3) (i := i) el23 (e _ _ rfl) (e _ _ rfl) (by omega) (by omega)) rfl rfl ?_
        refine wl_val (v := .pointer (some ⟨b, o + i * 3 + 2, none⟩)) (fun ρ e => ex_field (q := o + i * 3 + 2) fi38_2 (e _ _ rfl) rfl) rfl rfl ?_
        refine wl_val (v := .int .i64 (vn : Int)) (fun ρ e => ex_load1 ty3 (e _ _ rfl) (NodesD.c2 ((O40.ro 1 rfl : (fun w => NodesD D w (.slice (some ⟨b, o, none⟩) ts.length c) ts) _) : NodesD _ _ _ _) hx)) rfl rfl ?_
        refine wl_val (v := .int .i64 (vn : Int)) (fun ρ e => ex_assign (e _ _ rfl)) rfl rfl ?_
        refine wl_nil ?_
        refine xw_next K41 ?_
        refine cw_region ?_
        refine wl_val (v := .slice (some ⟨g8, 0, none⟩) ts.length ts.length) (fun ρ e => ex_move (e _ _ rfl)) rfl rfl ?_
        refine wl_val (v := .int .i64 (i : Int)) (fun ρ e => ex_move (e _ _ rfl)) rfl rfl ?_
        refine wl_val (v := .int .i64 (vn : Int)) (fun ρ e => ex_move (e _ _ rfl)) rfl rfl ?_
        refine wl_val (v := .int .i64 ((vn - 1 : Nat) : Int)) (fun ρ e => ex_arith (k := .i64) (u := (vn : Int)) (v := 1) (e _ _ rfl) (e _ _ rfl) (congrArg some ((congrArg _ (show _ = ((vn - 1 : Nat) : Int) by omega)).trans (wrap_in (by omega) (by omega))))) rfl rfl ?_
        refine wl_val (v := .int .i64 1) (fun ρ e => ex_quo64 (a := vn - 1) (q := 1) (e _ _ rfl) (e _ _ rfl) (by omega)) rfl rfl ?_
        refine wl_val (v := .int .i64 (vn : Int)) (fun ρ e => ex_move (e _ _ rfl)) rfl rfl ?_
        refine wl_val (v := .int .i64 ((vn - 1 : Nat) : Int)) (fun ρ e => ex_arith (k := .i64) (u := (vn : Int)) (v := 1) (e _ _ rfl) (e _ _ rfl) (congrArg some ((congrArg _ (show _ = ((vn - 1 : Nat) : Int) by omega)).trans (wrap_in (by omega) (by omega))))) rfl rfl ?_
        refine wl_val (v := .int .i64 ((vn - 65 : Nat) : Int)) (fun ρ e => ex_rem64 (a := vn - 1) (q := vn - 65) (e _ _ rfl) (e _ _ rfl) (by omega)) rfl rfl ?_
        refine wl_val (v := .int .u64 ((vn - 65 : Nat) : Int)) (fun ρ e => ex_conv343 (e _ _ rfl) (by omega) (by omega)) rfl rfl ?_
        refine wl_val (v := .int .u64 ((1#64 <<< (vn - 65)).toNat : Int)) (fun ρ e => ex_shl1 (k := vn - 65) (e _ _ rfl) (e _ _ rfl) (by omega)) rfl rfl ?_
        refine wl_val (v := .pointer (some ⟨g8, i * 2, none⟩)) (fun ρ e => ex_idx (q := i * 2) (i := i) el53 (e _ _ rfl) (e _ _ rfl) (by omega) (by omega)) rfl rfl ?_
        refine wl_val (v := .pointer (some ⟨g8, i * 2 + 1, none⟩)) (fun ρ e => ex_idxA (q := i * 2 + 1) (i := 1) an57 (e _ _ rfl) (e _ _ rfl) (by omega) (by omega)) rfl rfl ?_
        obtain ⟨w42, r43, O44, hs45⟩ := own_put (o := i * 2 + 1) (n := 1) O40 ty55 (.int .u64 ((1#64 <<< (vn - 65)).toNat : Int)) [.int .u64 ((1#64 <<< (vn - 65)).toNat : Int)] (cs' := (vcells ((upS ts i).set i (setT (trF ts ts.length i)))).toArray) rfl rfl rfl (by simp [vcells_len, upS_len] <;> omega) (setV1 (upS_new hi) (leaf_hi hx h1 h2 (by omega)))
        refine wl_none (fun ρ e => r43 ρ _ _ _ _ _ _ (e _ _ rfl) (e _ _ rfl)) rfl ?_
        refine wl_nil ?_
        refine xw_block ?_
        refine xw_next K36 ?_
        refine cw_region ?_
        refine wl_val (v := .int .i64 (i : Int)) (fun ρ e => ex_move (e _ _ rfl)) rfl rfl ?_
        refine wl_val (v := .int .i64 ((i + 1 : Nat) : Int)) (fun ρ e => ex_arith (k := .i64) (u := (i : Int)) (v := 1) (e _ _ rfl) (e _ _ rfl) (congrArg some ((congrArg _ (by omega)).trans (wrap_in (u := ((i + 1 : Nat) : Int)) (by omega) (by omega))))) rfl rfl ?_
        refine wl_val (v := .int .i64 ((i + 1 : Nat) : Int)) (fun ρ e => ex_assign (e _ _ rfl)) rfl rfl ?_
        refine wl_nil ?_
        have O46 : Own Z0 W w42 [.blk g8 57 ((vcells (upS ts (i + 1))).toArray), .ro D (fun w => NodesD D w (.slice (some ⟨b, o, none⟩) ts.length c) ts)] := by rw [← upS_set hi]; exact O44
        refine xw_round K19 (i + 1) (by show ts.length - (i + 1) < ts.length - i; omega) ⟨(by show i + 1 ≤ ts.length; omega), O46⟩ ⟨rfl, rfl, rfl, trivial⟩
    · skip
      have hx : ts[i]? = some ⟨(a : Int), (b2 : Int), 0⟩ := by rw [List.getElem?_eq_getElem hi, hx0]
      have hlf : (lf (VN.mk (a : Int) (b2 : Int) 0)) = false := lf_inner a b2
      obtain ⟨hs1, hs2⟩ := setT_sum (kids_apart hV hx)
      rw [← tr_node hV hx] at hs1 hs2
      refine cw_seq (fun FK47 K47 => ?_)
      refine cw_seq (fun FK48 K48 => ?_)
      refine cw_region ?_
      refine wl_val (v := .int .i64 (i : Int)) (fun ρ e => ex_move (e _ _ rfl)) rfl rfl ?_
      refine wl_val (v := .slice (some ⟨b, o, none⟩) ts.length c) (fun ρ e => ex_move (e _ _ rfl)) rfl rfl ?_
      refine wl_val (v := .int .i64 ((ts.length : Nat) : Int)) (fun ρ e => ex_len el23 (e _ _ rfl)) rfl rfl ?_
      refine wl_val (v := .bool true) (fun ρ e => ex_cmp (u := (i : Int)) (v := ((ts.length : Nat) : Int)) (e _ _ rfl) (e _ _ rfl) (lss1 (by omega))) rfl rfl ?_
      refine wl_nil ?_
      refine xw_next K48 ?_
      refine cw_true rfl ?_
      refine cw_skip ?_
      refine xw_next K47 ?_
      refine cw_seq (fun FK49 K49 => ?_)
      refine cw_block ?_
      refine cw_seq (fun FK50 K50 => ?_)
      refine cw_region ?_
      refine wl_val (v := .slice (some ⟨b, o, none⟩) ts.length c) (fun ρ e => ex_move (e _ _ rfl)) rfl rfl ?_
      refine wl_val (v := .int .i64 (i : Int)) (fun ρ e => ex_move (e _ _ rfl)) rfl rfl ?_
      refine wl_val (v := .pointer (some ⟨b, o + i * 3, none⟩)) (fun ρ e => ex_idx (q := o + i * 3) (i := i) el23 (e _ _ rfl) (e _ _ rfl) (by omega) (by omega)) rfl rfl ?_
      refine wl_val (v := .agg #[.int .i64 (a : Int), .int .i64 (b2 : Int), .int .i64 0]) (fun ρ e => ex_loadN (vs := [.int .i64 (a : Int), .int .i64 (b2 : Int), .int .i64 0]) ty38 (e _ _ rfl) rfl (cells3 (NodesD.c0 ((O20.ro 1 rfl : (fun w => NodesD D w (.slice (some ⟨b, o, none⟩) ts.length c) ts) _) : NodesD _ _ _ _) hx) (NodesD.c1 ((O20.ro 1 rfl : (fun w => NodesD D w (.slice (some ⟨b, o, none⟩) ts.length c) ts) _) : NodesD _ _ _ _) hx) (NodesD.c2 ((O20.ro 1 rfl : (fun w => NodesD D w (.slice (some ⟨b, o, none⟩) ts.length c) ts) _) : NodesD _ _ _ _) hx))) rfl rfl ?_
      refine wl_call (args := [.agg #[.int .i64 (a : Int), .int .i64 (b2 : Int), .int .i64 0]]) in_72 rfl rfl rfl ?_
      refine (rleaf_ (VN.mk (a : Int) (b2 : Int) 0) (W := w17)).mono ?_
      rintro _ w51 ⟨rfl, hb52⟩
      have O53 : Own Z0 W w51 [.blk g8 57 ((vcells (upS ts i)).toArray), .ro D (fun w => NodesD D w (.slice (some ⟨b, o, none⟩) ts.length c) ts)] := O20.below hb52
      refine ⟨_, rfl, ?_⟩
      refine wl_nil ?_
      refine xw_next K50 ?_
      refine cw_false (congrArg (fun b => some (Value.bool b)) hlf) ?_
      refine cw_seq (fun FK54 K54 => ?_)
      refine cw_region ?_
      refine wl_val (v := .slice (some ⟨g8, 0, none⟩) ts.length ts.length) (fun ρ e => ex_move (e _ _ rfl)) rfl rfl ?_
      refine wl_val (v := .slice (some ⟨b, o, none⟩) ts.length c) (fun ρ e => ex_move (e _ _ rfl)) rfl rfl ?_
      refine wl_val (v := .int .i64 (i : Int)) (fun ρ e => ex_move (e _ _ rfl)) rfl rfl ?_
      refine wl_val (v := .pointer (some ⟨b, o + i * 3, none⟩)) (fun ρ e => ex_idx (q := o + i * 3) (i := i) el23 (e _ _ rfl) (e _ _ rfl) (by omega) (by omega)) rfl rfl ?_
      refine wl_val (v := .pointer (some ⟨b, o + i * 3, none⟩)) (fun ρ e => ex_field (q := o + i * 3) fi38_0 (e _ _ rfl) rfl) rfl rfl ?_
      refine wl_val (v := .int .i64 (a : Int)) (fun ρ e => ex_load1 ty3 (e _ _ rfl) (NodesD.c0 ((O53.ro 1 rfl : (fun w => NodesD D w (.slice (some ⟨b, o, none⟩) ts.length c) ts) _) : NodesD _ _ _ _) hx)) rfl rfl ?_
      refine wl_val (v := .pointer (some ⟨g8, a * 2, none⟩)) (fun ρ e => ex_idx (q := a * 2) (i := a) el53 (e _ _ rfl) (e _ _ rfl) (by omega) (by omega)) rfl rfl ?_
      refine wl_val (v := .agg #[.int .u64 ((setT (trF ts ts.length a)).a.toNat : Int), .int .u64 ((setT (trF ts ts.length a)).b.toNat : Int)]) (fun ρ e => ex_loadN (vs := [.int .u64 ((setT (trF ts ts.length a)).a.toNat : Int), .int .u64 ((setT (trF ts ts.length a)).b.toNat : Int)]) ty57 (e _ _ rfl) rfl (cells2 ((O53.blk 0 rfl).cell _ |>.trans (getV0 (upS_get (by omega) ha))) ((O53.blk 0 rfl).cell _ |>.trans (getV1 (upS_get (by omega) ha))))) rfl rfl ?_
      obtain ⟨g55, w56, r57, O58, hg59, hs60⟩ := own_alloc O53 57 ze57 rfl
      refine wl_val (v := .pointer (some ⟨g55, 0, none⟩)) (fun ρ e => r57 ρ _ _ _ _ _) rfl rfl ?_
      obtain ⟨w61, r62, O63, hs64⟩ := own_put (o := 0) (n := 2) O58 ty57 (.agg #[.int .u64 ((setT (trF ts ts.length a)).a.toNat : Int), .int .u64 ((setT (trF ts ts.length a)).b.toNat : Int)]) [.int .u64 ((setT (trF ts ts.length a)).a.toNat : Int), .int .u64 ((setT (trF ts ts.length a)).b.toNat : Int)] (cs' := #[.int .u64 ((setT (trF ts ts.length a)).a.toNat : Int), .int .u64 ((setT (trF ts ts.length a)).b.toNat : Int)]) rfl rfl rfl (Nat.le_of_ble_eq_true rfl) rfl
      refine wl_none (fun ρ e => r62 ρ _ _ _ _ _ _ (e _ _ rfl) (e _ _ rfl)) rfl ?_
      refine wl_nil ?_
      refine xw_next K54 ?_
      refine cw_seq (fun FK65 K65 => ?_)
      refine cw_region ?_
      refine wl_val (v := .slice (some ⟨g8, 0, none⟩) ts.length ts.length) (fun ρ e => ex_move (e _ _ rfl)) rfl rfl ?_
      refine wl_val (v := .slice (some ⟨b, o, none⟩) ts.length c) (fun ρ e => ex_move (e _ _ rfl)) rfl rfl ?_
      refine wl_val (v := .int .i64 (i : Int)) (fun ρ e => ex_move (e _ _ rfl)) rfl rfl ?_
      refine wl_val (v := .pointer (some ⟨b, o + i * 3, none⟩)) (fun ρ e => ex_idx (q := o + i * 3) (i := i) el23 (e _ _ rfl) (e _ _ rfl) (by omega) (by omega)) rfl rfl ?_
      refine wl_val (v := .pointer (some ⟨b, o + i * 3 + 1, none⟩)) (fun ρ e => ex_field (q := o + i * 3 + 1) fi38_1 (e _ _ rfl) rfl) rfl rfl ?_
      refine wl_val (v := .int .i64 (b2 : Int)) (fun ρ e => ex_load1 ty3 (e _ _ rfl) (NodesD.c1 ((O63.ro 2 rfl : (fun w => NodesD D w (.slice (some ⟨b, o, none⟩) ts.length c) ts) _) : NodesD _ _ _ _) hx)) rfl rfl ?_
      refine wl_val (v := .pointer (some ⟨g8, b2 * 2, none⟩)) (fun ρ e => ex_idx (q := b2 * 2) (i := b2) el53 (e _ _ rfl) (e _ _ rfl) (by omega) (by omega)) rfl rfl ?_
      refine wl_val (v := .agg #[.int .u64 ((setT (trF ts ts.length b2)).a.toNat : Int), .int .u64 ((setT (trF ts ts.length b2)).b.toNat : Int)]) (fun ρ e => ex_loadN (vs := [.int .u64 ((setT (trF ts ts.length b2)).a.toNat : Int), .int .u64 ((setT (trF ts ts.length b2)).b.toNat : Int)]) ty57 (e _ _ rfl) rfl (cells2 ((O63.blk 1 rfl).cell _ |>.trans (getV0 (upS_get (by omega) hb))) ((O63.blk 1 rfl).cell _ |>.trans (getV1 (upS_get (by omega) hb))))) rfl rfl ?_
      obtain ⟨g66, w67, r68, O69, hg70, hs71⟩ := own_alloc O63 57 ze57 rfl
      refine wl_val (v := .pointer (some ⟨g66, 0, none⟩)) (fun ρ e => r68 ρ _ _ _ _ _) rfl rfl ?_
      obtain ⟨w72, r73, O74, hs75⟩ := own_put (o := 0) (n := 2) O69 ty57 (.agg #[.int .u64 ((setT (trF ts ts.length b2)).a.toNat : Int), .int .u64 ((setT (trF ts ts.length b2)).b.toNat : Int)]) [.int .u64 ((setT (trF ts ts.length b2)).a.toNat : Int), .int .u64 ((setT (trF ts ts.length b2)).b.toNat : Int)] (cs' := #[.int .u64 ((setT (trF ts ts.length b2)).a.toNat : Int), .int .u64 ((setT (trF ts ts.length b2)).b.toNat : Int)]) rfl rfl rfl (Nat.le_of_ble_eq_true rfl) rfl
      refine wl_none (fun ρ e => r73 ρ _ _ _ _ _ _ (e _ _ rfl) (e _ _ rfl)) rfl ?_
      refine wl_nil ?_
      refine xw_next K65 ?_
      refine cw_region ?_
      refine wl_val (v := .slice (some ⟨g8, 0, none⟩) ts.length ts.length) (fun ρ e => ex_move (e _ _ rfl)) rfl rfl ?_
      refine wl_val (v := .int .i64 (i : Int)) (fun ρ e => ex_move (e _ _ rfl)) rfl rfl ?_
      refine wl_val (v := .pointer (some ⟨g55, 0, none⟩)) (fun ρ e => ex_idxA (q := 0) (i := 0) an57 (e _ _ rfl) (e _ _ rfl) (by omega) (by omega)) rfl rfl ?_
      refine wl_val (v := .int .u64 ((setT (trF ts ts.length a)).a.toNat : Int)) (fun ρ e => ex_load1 ty55 (e _ _ rfl) (O74.cell 1 0 rfl rfl)) rfl rfl ?_
      refine wl_val (v := .pointer (some ⟨g66, 0, none⟩)) (fun ρ e => ex_idxA (q := 0) (i := 0) an57 (e _ _ rfl) (e _ _ rfl) (by omega) (by omega)) rfl rfl ?_
      refine wl_val (v := .int .u64 ((setT (trF ts ts.length b2)).a.toNat : Int)) (fun ρ e => ex_load1 ty55 (e _ _ rfl) (O74.cell 0 0 rfl rfl)) rfl rfl ?_
      refine wl_val (v := .int .u64 ((setT (trF ts ts.length i)).a.toNat : Int)) (fun ρ e => ex_add64 (x := (setT (trF ts ts.length a)).a) (y := (setT (trF ts ts.length b2)).a) (e _ _ rfl) (e _ _ rfl) hs1) rfl rfl ?_
      refine wl_val (v := .pointer (some ⟨g55, 1, none⟩)) (fun ρ e => ex_idxA (q := 1) (i := 1) an57 (e _ _ rfl) (e _ _ rfl) (by omega) (by omega)) rfl rfl ?_
      refine wl_val (v := .int .u64 ((setT (trF ts ts.length a)).b.toNat : Int)) (fun ρ e => ex_load1 ty55 (e _ _ rfl) (O74.cell 1 1 rfl rfl)) rfl rfl ?_
      refine wl_val (v := .pointer (some ⟨g66, 1, none⟩)) (fun ρ e => ex_idxA (q := 1) (i := 1) an57 (e _ _ rfl) (e _ _ rfl) (by omega) (by omega)) rfl rfl ?_
      refine wl_val (v := .int .u64 ((setT (trF ts ts.length b2)).b.toNat : Int)) (fun ρ e => ex_load1 ty55 (e _ _ rfl) (O74.cell 0 1 rfl rfl)) rfl rfl ?_
      refine wl_val (v := .int .u64 ((setT (trF ts ts.length i)).b.toNat : Int)) (fun ρ e => ex_add64 (x := (setT (trF ts ts.length a)).b) (y := (setT (trF ts ts.length b2)).b) (e _ _ rfl) (e _ _ rfl) hs2) rfl rfl ?_
      refine wl_val (v := .agg #[.int .u64 ((setT (trF ts ts.length i)).a.toNat : Int), .int .u64 ((setT (trF ts ts.length i)).b.toNat : Int)]) (fun ρ e => ex_buildA (cells := #[.int .u64 ((setT (trF ts ts.length i)).a.toNat : Int), .int .u64 ((setT (trF ts ts.length i)).b.toNat : Int)]) ar57 (e.parts rfl) rfl) rfl rfl ?_
      refine wl_val (v := .pointer (some ⟨g8, i * 2, none⟩)) (fun ρ e => ex_idx (q := i * 2) (i := i) el53 (e _ _ rfl) (e _ _ rfl) (by omega) (by omega)) rfl rfl ?_
      obtain ⟨w76, r77, O78, hs79⟩ := own_put (o := i * 2) (n := 2) (O74.re [2, 0, 1, 3] rfl : Own Z0 W w72 [.blk g8 57 ((vcells (upS ts i)).toArray), .blk g66 57 #[.int .u64 ((setT (trF ts ts.length b2)).a.toNat : Int), .int .u64 ((setT (trF ts ts.length b2)).b.toNat : Int)], .blk g55 57 #[.int .u64 ((setT (trF ts ts.length a)).a.toNat : Int), .int .u64 ((setT (trF ts ts.length a)).b.toNat : Int)], .ro D (fun w => NodesD D w (.slice (some ⟨b, o, none⟩) ts.length c) ts)]) ty57 (.agg #[.int .u64 ((setT (trF ts ts.length i)).a.toNat : Int), .int .u64 ((setT (trF ts ts.length i)).b.toNat : Int)]) [.int .u64 ((setT (trF ts ts.length i)).a.toNat : Int), .int .u64 ((setT (trF ts ts.length i)).b.toNat : Int)] (cs' := (vcells ((upS ts i).set i (setT (trF ts ts.length i)))).toArray) rfl rfl rfl (by simp [vcells_len, upS_len] <;> omega) (setV _ i (setT (trF ts ts.length i)))
      refine wl_none (fun ρ e => r77 ρ _ _ _ _ _ _ (e _ _ rfl) (e _ _ rfl)) rfl ?_
      refine wl_nil ?_
      refine xw_block ?_
      refine xw_next K49 ?_
      refine cw_region ?_
      refine wl_val (v := .int .i64 (i : Int)) (fun ρ e => ex_move (e _ _ rfl)) rfl rfl ?_
      refine wl_val (v := .int .i64 ((i + 1 : Nat) : Int)) (fun ρ e => ex_arith (k := .i64) (u := (i : Int)) (v := 1) (e _ _ rfl) (e _ _ rfl) (congrArg some ((congrArg _ (by omega)).trans (wrap_in (u := ((i + 1 : Nat) : Int)) (by omega) (by omega))))) rfl rfl ?_
      refine wl_val (v := .int .i64 ((i + 1 : Nat) : Int)) (fun ρ e => ex_assign (e _ _ rfl)) rfl rfl ?_
      refine wl_nil ?_
      have O80 : Own Z0 W w76 [.blk g8 57 ((vcells (upS ts (i + 1))).toArray), .ro D (fun w => NodesD D w (.slice (some ⟨b, o, none⟩) ts.length c) ts)] := by rw [← upS_set hi]; exact (O78.re [0, 3] rfl : Own Z0 W w76 [.blk g8 57 ((vcells ((upS ts i).set i (setT (trF ts ts.length i)))).toArray), .ro D (fun w => NodesD D w (.slice (some ⟨b, o, none⟩) ts.length c) ts)])
      refine xw_round K19 (i + 1) (by show ts.length - (i + 1) < ts.length - i; omega) ⟨(by show i + 1 ≤ ts.length; omega), O80⟩ ⟨rfl, rfl, rfl, trivial⟩
  · have hie : i = ts.length := by omega
    rw [hie, upS_all] at O20
    refine cw_seq (fun FK81 K81 => ?_)
    refine cw_seq (fun FK82 K82 => ?_)
    refine cw_region ?_
    refine wl_val (v := .int .i64 (i : Int)) (fun ρ e => ex_move (e _ _ rfl)) rfl rfl ?_
    refine wl_val (v := .slice (some ⟨b, o, none⟩) ts.length c) (fun ρ e => ex_move (e _ _ rfl)) rfl rfl ?_
    refine wl_val (v := .int .i64 ((ts.length : Nat) : Int)) (fun ρ e => ex_len el23 (e _ _ rfl)) rfl rfl ?_
    refine wl_val (v := .bool false) (fun ρ e => ex_cmp (u := (i : Int)) (v := ((ts.length : Nat) : Int)) (e _ _ rfl) (e _ _ rfl) (lss0 (by omega))) rfl rfl ?_
    refine wl_nil ?_
    refine xw_next K82 ?_
    refine cw_false rfl ?_
    refine cw_exit ?_
    refine xw_past (by intro h; cases h) ?_
    refine xw_past (by intro h; cases h) ?_
    refine xw_here ?_
    refine xw_next K14 ?_
    refine cw_seq (fun FK83 K83 => ?_)
    refine cw_region ?_
    refine wl_val (v := .slice (some ⟨g8, 0, none⟩) ts.length ts.length) (fun ρ e => ex_move (e _ _ rfl)) rfl rfl ?_
    refine wl_val (v := .slice (some ⟨g8, 0, none⟩) ts.length ts.length) (fun ρ e => ex_assign (e _ _ rfl)) rfl rfl ?_
    refine wl_nil ?_
    refine xw_next K83 ?_
    refine cw_ret ?_
    refine xw_ret (v := .slice (some ⟨g8, 0, none⟩) ts.length ts.length) (fun T hT => res1 rfl T _ (hT 2 _ rfl)) ?_
    have O84 := Own.blkrowV (l := setsOf ts) (n := ts.length) (O20.re [0] rfl : Own Z0 W w17 [.blk g8 57 ((vcells (setsOf ts)).toArray)]) (by simp [setsOf_len]) (by omega)
    exact ⟨g8, ts.length, rfl, O84⟩
theorem rvars_no {W : World} {D : Nat → Prop} {V : Value} {ts : List VN} (hN : NodesD D W V ts) (hD : ∀ k, D k → k < W.heap.size) (hsz : ts.length ≤ 1000000) (hok : okT ts = false) : Calls Tryd.prog 45 #[V] W fun e w' => e = .returned (.slice none 0 0) ∧ Below W.heap.size W w' := by
  obtain ⟨A, c, rfl⟩ := hN.slice
  have O0 : Own Z0 W W [] := Own.start W
  refine sx_enter (args := [.slice A ts.length c]) Tryd.func45 rfl rfl (by simp) ?_
  refine cw_seq (fun FK1 K1 => ?_)
  refine cw_region ?_
  refine wl_val (v := .slice none 0 0) (fun ρ e => ex_assign (e _ _ rfl)) rfl rfl ?_
  refine wl_nil ?_
  refine xw_next K1 ?_
  refine cw_seq (fun FK2 K2 => ?_)
  refine cw_seq (fun FK3 K3 => ?_)
  refine cw_region ?_
  refine wl_val (v := .slice A ts.length c) (fun ρ e => ex_move (e _ _ rfl)) rfl rfl ?_
  refine wl_call (args := [.slice A ts.length c]) in_41 rfl rfl rfl ?_
  refine (rcheckb_ (hN.move (fun k hk => (O0.old).block k (hD k hk))) (fun k hk => Nat.lt_of_lt_of_le (hD k hk) (O0.old).size) (by omega) (chk_val hok)).mono ?_
  rintro _ w4 ⟨rfl, hb5⟩
  have O6 : Own Z0 W w4 [] := O0.below hb5
  refine ⟨_, rfl, ?_⟩
  refine wl_val (v := .bool true) (fun ρ e => ex_cmp (u := 1) (v := 0) (e _ _ rfl) (e _ _ rfl) (neq1 (by omega))) rfl rfl ?_
  refine wl_nil ?_
  refine xw_next K3 ?_
  refine cw_true rfl ?_
  refine cw_seq (fun FK7 K7 => ?_)
  refine cw_region ?_
  refine wl_val (v := .slice none 0 0) (fun ρ e => ex_assign (e _ _ rfl)) rfl rfl ?_
  refine wl_nil ?_
  refine xw_next K7 ?_
  refine cw_ret ?_
  refine xw_past (by intro h; cases h) ?_
  refine xw_ret (v := .slice none 0 0) (fun T hT => res1 rfl T _ (hT 2 _ rfl)) ?_
  exact ⟨rfl, O6.old⟩
end Go.Proofs.YtpeoodkepjhhiaaDoor
namespace Go.Proofs.YtpeoodkepjhhiaaDoor
open Go Go.RowKit
end Go.Proofs.YtpeoodkepjhhiaaDoor
namespace Go.Proofs.YtpeoodkepjhhiaaDoor
open Go Go.RowKit
section
variable {ρ : Operand → Value} {d : Option Tmp} {x y z : Operand} {t T : TypeId} {pos0 : String} {aft : Array Edge} {gd : Option (Nat × Bool)} {w : World}
theorem ex_quo10 {a : Nat} {T1 : TypeId} (hx : ρ x = .int .i64 ((a : Nat) : Int)) (hy : ρ y = .int .i64 10) (ha : a ≤ 1000000000) : (execOp ρ ⟨d, .binOp .quo 3 x y T1, t, pos0, aft, gd⟩).run Tryd.prog w = .ok (.value (.int .i64 ((a / 10 : Nat) : Int))) w := by
  have h : IntKind.i64.wrap ((a : Int) / 10) = (a : Int) / 10 := by
    rw [IntKind.wrap_i64]
    omega
  simp [go_sem, hx, hy, h]
theorem ex_rem10 {a : Nat} {T1 : TypeId} (hx : ρ x = .int .i64 ((a : Nat) : Int)) (hy : ρ y = .int .i64 10) (ha : a ≤ 1000000000) : (execOp ρ ⟨d, .binOp .rem 3 x y T1, t, pos0, aft, gd⟩).run Tryd.prog w = .ok (.value (.int .i64 ((a % 10 : Nat) : Int))) w := by
  have h2 : ((a % 10 : Nat) : Int) = (a : Int) % 10 := by omega
  have h : IntKind.i64.wrap ((a : Int) % 10) = (a : Int) % 10 := by
    rw [IntKind.wrap_i64]
    omega
  have h3 : (a : Int).tmod 10 = (a : Int) % 10 := Int.tmod_eq_emod_of_nonneg (by omega)
  rw [h2]
  simp [go_sem, hx, hy, h, h3]
theorem ex_conv35 {k : Nat} (hx : ρ x = .int .i64 ((k : Nat) : Int)) (hk : k < 256) : (execOp ρ ⟨d, .convert 3 5 x, t, pos0, aft, gd⟩).run Tryd.prog w = .ok (.value (.int .u8 ((UInt8.ofNat k).toNat : Int))) w := by
  have h2 : (UInt8.ofNat k).toNat = k := by rw [UInt8.toNat_ofNat']; omega
  rw [h2]
  have h : IntKind.u8.wrap ((k : Nat) : Int) = ((k : Nat) : Int) := by
    rw [IntKind.wrap_u8]; omega
  simp [go_sem, hx, h]
theorem ex_conv1 {g : Nat} {b : UInt8} (hx : ρ x = .slice (some ⟨g, 0, none⟩) 1 1) (hk : Blk w g 5 #[.int .u8 (b.toNat : Int)]) : (execOp ρ ⟨d, .convert 32 9 x, t, pos0, aft, gd⟩).run Tryd.prog w = .ok (.value (.string ⟨([b]).toArray⟩)) w := by
  have hcv := run_convert_bytes_back (P := Tryd.prog) w 32 9 5 ⟨g, 0, none⟩ 1 [b] Tryd.underlying32 Tryd.underlying5 Tryd.underlying9 (fun j hj => by
    obtain rfl : j = 0 := by simpa using hj
    rw [addr_plus, hk.cell]
    rfl)
  have hcv' : (convert 32 9 (.slice (some ⟨g, 0, none⟩) 1 1)).run Tryd.prog w = .ok (.string ⟨([b]).toArray⟩) w := hcv
  simp only [execOp, hx, Sem.run_bind, hcv', Result.andThen_ok, Sem.run_pure]
theorem ex_addS {a b : List UInt8} {T1 : TypeId} (hx : ρ x = .string ⟨a.toArray⟩) (hy : ρ y = .string ⟨b.toArray⟩) (hl : a.length + b.length ≤ 1000000) : (execOp ρ ⟨d, .binOp .add 9 x y T1, t, pos0, aft, gd⟩).run Tryd.prog w = .ok (.value (.string ⟨(a ++ b).toArray⟩)) w := by
  have e : (⟨a.toArray⟩ : ByteArray) ++ ⟨b.toArray⟩ = ⟨(a ++ b).toArray⟩ := by
    apply ByteArray.ext
    simp
  have h : (binOp .add 9 (.string ⟨a.toArray⟩) (.string ⟨b.toArray⟩)).run Tryd.prog w = .ok (.string ⟨(a ++ b).toArray⟩) w := by
    rw [← e]
    have h1 : (⟨a.toArray⟩ : ByteArray).size = a.length := by show a.toArray.size = _; simp
    have h2 : (⟨b.toArray⟩ : ByteArray).size = b.length := by show b.toArray.size = _; simp
    have h3 : ((⟨a.toArray⟩ : ByteArray).size : Int) + ((⟨b.toArray⟩ : ByteArray).size : Int) ≤ 9223372036854775807 := by omega
    simp [binOp, Op.stringOp, h3]
  have hg : (eqGuard .add 9 x y (.string ⟨a.toArray⟩) (.string ⟨b.toArray⟩)).run Tryd.prog w = .ok () w := rfl
  simp only [execOp, hx, hy, Sem.run_bind, hg, h, Result.andThen_ok, Sem.run_pure]
end
/-- The reference's decimal. -/
def decR (v : Nat) : List UInt8 := dec (v : Int)
theorem decR_small {v : Nat} (h : v < 10) : decR v = [UInt8.ofNat (48 + v)] := by
  unfold decR dec
  rw [if_pos (by omega), Int.toNat_natCast]
theorem decR_big {v : Nat} (h : ¬ v < 10 ∧ v < 1000) : decR v = decR (v / 10) ++ [UInt8.ofNat (48 + v % 10)] := by
  unfold decR dec
  rw [if_neg (by omega)]
  simp only [Int.toNat_natCast]
  by_cases h2 : v < 100
  · rw [if_pos (by omega), if_pos (by omega)]; rfl
  · rw [if_neg (by omega), if_neg (by omega), if_pos (by omega)]
    rw [show v / 10 / 10 = v / 100 by omega]; rfl
theorem rdec_ : ∀ (n v : Nat), v < n → v < 1000 → ∀ (W : World), Calls Tryd.prog 83 #[.int .i64 (v : Int)] W fun e w' => e = .returned (.string ⟨(decR v).toArray⟩) ∧ Below W.heap.size W w'
  | 0, _, h, _ => absurd h (Nat.not_lt_zero _)
  | n + 1, v, hn, hv => fun W => by
    have hdl : (decR (v / 10)).length ≤ 3 := (dec_len _).2
    have O0 : Own Z0 W W [] := Own.start W
    refine sx_enter (args := [.int .i64 (v : Int)]) Tryd.func83 rfl rfl (by simp) ?_
    refine cw_seq (fun FK1 K1 => ?_)
    refine cw_region ?_
    refine wl_val (v := .string (⟨#[]⟩)) (fun ρ e => ex_assign (e _ _ rfl)) rfl rfl ?_
    refine wl_nil ?_
    refine xw_next K1 ?_
    refine cw_seq (fun FK2 K2 => ?_)
    refine cw_seq (fun FK3 K3 => ?_)
    refine cw_region ?_
    refine wl_val (v := .int .i64 (v : Int)) (fun ρ e => ex_move (e _ _ rfl)) rfl rfl ?_
    by_cases c4 : (v : Int) < 10
    · skip
      refine wl_val (v := .bool true) (fun ρ e => ex_cmp (u := (v : Int)) (v := 10) (e _ _ rfl) (e _ _ rfl) (lss1 (by omega))) rfl rfl ?_
      refine wl_nil ?_
      refine xw_next K3 ?_
      refine cw_true rfl ?_
      refine cw_seq (fun FK5 K5 => ?_)
      refine cw_region ?_
      refine wl_val (v := .int .i64 (v : Int)) (fun ρ e => ex_move (e _ _ rfl)) rfl rfl ?_
      refine wl_val (v := .int .i64 ((48 + v : Nat) : Int)) (fun ρ e => ex_arith (k := .i64) (u := 48) (v := (v : Int)) (e _ _ rfl) (e _ _ rfl) (congrArg some ((congrArg _ (by omega)).trans (wrap_in (u := ((48 + v : Nat) : Int)) (by omega) (by omega))))) rfl rfl ?_
      refine wl_val (v := .int .u8 ((UInt8.ofNat (48 + v)).toNat : Int)) (fun ρ e => ex_conv35 (k := 48 + v) (e _ _ rfl) (by omega)) rfl rfl ?_
      obtain ⟨g6, w7, r8, O9, hg10, hs11⟩ := own_slice O0 el32 ze5 1 [(0, .int .u8 ((UInt8.ofNat (48 + v)).toNat : Int))] (cs := #[.int .u8 ((UInt8.ofNat (48 + v)).toNat : Int)]) (by decide) (by kernel_rfl)
      refine wl_val (v := .slice (some ⟨g6, 0, none⟩) 1 1) (fun ρ e => r8 ρ _ _ _ _ _ _ (e.parts rfl)) rfl rfl ?_
      refine wl_val (v := .string (⟨([UInt8.ofNat (48 + v)]).toArray⟩)) (fun ρ e => ex_conv1 (b := UInt8.ofNat (48 + v)) (e _ _ rfl) (O9.blk 0 rfl)) rfl rfl ?_
      refine wl_val (v := .string (⟨([UInt8.ofNat (48 + v)]).toArray⟩)) (fun ρ e => ex_assign (e _ _ rfl)) rfl rfl ?_
      refine wl_nil ?_
      refine xw_next K5 ?_
      refine cw_ret ?_
      refine xw_past (by intro h; cases h) ?_
      refine xw_ret (v := .string (⟨([UInt8.ofNat (48 + v)]).toArray⟩)) (fun T hT => res1 rfl T _ (hT 2 _ rfl)) ?_
      have hd : decR v = [UInt8.ofNat (48 + v)] := by rw [decR_small (by omega)]
      rw [hd]
      exact ⟨rfl, O9.old⟩
    · skip
      refine wl_val (v := .bool false) (fun ρ e => ex_cmp (u := (v : Int)) (v := 10) (e _ _ rfl) (e _ _ rfl) (lss0 (by omega))) rfl rfl ?_
      refine wl_nil ?_
      refine xw_next K3 ?_
      refine cw_false rfl ?_
      refine cw_skip ?_
      refine xw_next K2 ?_
      refine cw_seq (fun FK12 K12 => ?_)
      refine at_start (fuel := 11) (listed := #[false, false, false, false, false, false, false, false, false, false, false]) (fun X => Own Z0 W X []) 10 (by kernel_rfl) rfl (by kernel_rfl) (O0).drew ?_
      have O13 : Own Z0 W W.drew [] := O0.drew
      refine at_name (fun AT14 hin15 hout16 => ?_)
      have N38 : ∀ (g26 : Nat) (w39 : World), Own Z0 W w39 [.blk g26 5 #[.int .u8 ((UInt8.ofNat (48 + v % 10)).toNat : Int)]] → AT14 0 #[true, true, true, true, true, true, true, true, true, true, true] 20 [(0, .int .i64 (v : Int)), (2, .string (⟨(decR (v / 10) ++ [UInt8.ofNat (48 + v % 10)]).toArray⟩)), (3, .int .i64 (v : Int)), (4, .bool false)] w39 := by
        intro g26 w39 O40
        refine hin15 _ _ _ _ _ ?_
        refine at_done rfl ?_
        refine xw_next K12 ?_
        refine cw_ret ?_
        refine xw_ret (v := .string (⟨(decR (v / 10) ++ [UInt8.ofNat (48 + v % 10)]).toArray⟩)) (fun T hT => res1 rfl T _ (hT 2 _ rfl)) ?_
        have hd : decR v = decR (v / 10) ++ [UInt8.ofNat (48 + v % 10)] := by rw [decR_big (by omega)]
        rw [hd]
        exact ⟨rfl, O40.old⟩
      have N41 : ∀ (g26 : Nat) (w42 : World), Own Z0 W w42 [.blk g26 5 #[.int .u8 ((UInt8.ofNat (48 + v % 10)).toNat : Int)]] → AT14 1 #[true, true, true, true, true, true, true, true, true, true, false] 20 [(0, .int .i64 (v : Int)), (2, .string (⟨#[]⟩)), (3, .int .i64 (v : Int)), (4, .bool false), (19, .string (⟨(decR (v / 10) ++ [UInt8.ofNat (48 + v % 10)]).toArray⟩))] w42 := by
        intro g26 w42 O43
        refine hin15 _ _ _ _ _ ?_
        refine at_branch [10] (by kernel_rfl) ⟨?_, trivial⟩
        · skip
          refine stp_val (v := .string (⟨(decR (v / 10) ++ [UInt8.ofNat (48 + v % 10)]).toArray⟩)) (listed' := #[true, true, true, true, true, true, true, true, true, true, true]) rfl rfl (fun ρ e => ex_assign (e _ _ rfl)) rfl rfl (fun h => absurd (show true = false from h) (by decide)) ?_
          exact at_sub2 (hout16 _ _ _ _ _ (N38 g26 w42 O43)) ⟨rfl, rfl, rfl, rfl, trivial⟩
      have N44 : ∀ (g20 : Nat) (w45 : World), Own Z0 W w45 [.blk g20 5 #[.int .u8 ((UInt8.ofNat (48 + v % 10)).toNat : Int)]] → AT14 3 #[true, true, false, true, true, true, true, true, true, false, false] 20 [(0, .int .i64 (v : Int)), (2, .string (⟨#[]⟩)), (3, .int .i64 (v : Int)), (4, .bool false), (11, .int .i64 ((v / 10 : Nat) : Int)), (18, .string (⟨([UInt8.ofNat (48 + v % 10)]).toArray⟩))] w45 := by
        intro g20 w45 O46
        refine hin15 _ _ _ _ _ ?_
        refine at_branch [2] (by kernel_rfl) ⟨?_, trivial⟩
        · skip
          refine stp_call (args := [.int .i64 ((v / 10 : Nat) : Int)]) (listed' := #[true, true, true, true, true, true, true, true, true, false, false]) rfl rfl in_83 rfl rfl rfl ?_
          refine (rdec_ n (v / 10) (by omega) (by omega) w45).mono ?_
          rintro _ w47 ⟨rfl, hb48⟩
          have O49 : Own Z0 W w47 [.blk g20 5 #[.int .u8 ((UInt8.ofNat (48 + v % 10)).toNat : Int)]] := O46.below hb48
          refine ⟨_, rfl, (fun _ => (O49.re [] rfl : Own Z0 W w47 [])), ?_⟩
          refine at_take1 (v := .string (⟨(decR (v / 10) ++ [UInt8.ofNat (48 + v % 10)]).toArray⟩)) (i := 9) (listed' := #[true, true, true, true, true, true, true, true, true, true, false]) rfl (by kernel_rfl) (PQ.then_ PQ.body) (fun _ => (O49.re [] rfl : Own Z0 W w47 [])) (fun ρ e W => ex_addS (a := decR (v / 10)) (b := [UInt8.ofNat (48 + v % 10)]) (e _ _ rfl) (e _ _ rfl) (by simp only [List.length_append, List.length_cons, List.length_nil]; omega)) rfl rfl ?_
          exact at_sub2 (hout16 _ _ _ _ _ (N41 g20 w47 O49)) ⟨rfl, rfl, rfl, rfl, rfl, trivial⟩
      have N50 : ∀ (g26 : Nat) (w51 : World), Own Z0 W w51 [.blk g26 5 #[.int .u8 ((UInt8.ofNat (48 + v % 10)).toNat : Int)]] → AT14 3 #[true, true, true, true, true, true, true, true, false, false, false] 20 [(0, .int .i64 (v : Int)), (2, .string (⟨#[]⟩)), (3, .int .i64 (v : Int)), (4, .bool false), (12, .string (⟨(decR (v / 10)).toArray⟩)), (17, .slice (some ⟨g26, 0, none⟩) 1 1)] w51 := by
        intro g26 w51 O52
        refine hin15 _ _ _ _ _ ?_
        refine at_branch [8] (by kernel_rfl) ⟨?_, trivial⟩
        · skip
          refine stp_val (v := .string (⟨([UInt8.ofNat (48 + v % 10)]).toArray⟩)) (listed' := #[true, true, true, true, true, true, true, true, true, false, false]) rfl rfl (fun ρ e => ex_conv1 (b := UInt8.ofNat (48 + v % 10)) (e _ _ rfl) (O52.blk 0 rfl)) rfl rfl (fun _ => (O52.re [] rfl : Own Z0 W w51 [])) ?_
          refine at_take1 (v := .string (⟨(decR (v / 10) ++ [UInt8.ofNat (48 + v % 10)]).toArray⟩)) (i := 9) (listed' := #[true, true, true, true, true, true, true, true, true, true, false]) rfl (by kernel_rfl) (PQ.then_ PQ.body) (fun _ => (O52.re [] rfl : Own Z0 W w51 [])) (fun ρ e W => ex_addS (a := decR (v / 10)) (b := [UInt8.ofNat (48 + v % 10)]) (e _ _ rfl) (e _ _ rfl) (by simp only [List.length_append, List.length_cons, List.length_nil]; omega)) rfl rfl ?_
          exact at_sub2 (hout16 _ _ _ _ _ (N41 g26 w51 O52)) ⟨rfl, rfl, rfl, rfl, rfl, trivial⟩
      have N53 : ∀ (g20 : Nat) (w54 : World), Own Z0 W w54 [.blk g20 5 #[.int .u8 ((UInt8.ofNat (48 + v % 10)).toNat : Int)]] → AT14 4 #[true, true, false, true, true, true, true, true, false, false, false] 20 [(0, .int .i64 (v : Int)), (2, .string (⟨#[]⟩)), (3, .int .i64 (v : Int)), (4, .bool false), (11, .int .i64 ((v / 10 : Nat) : Int)), (17, .slice (some ⟨g20, 0, none⟩) 1 1)] w54 := by
        intro g20 w54 O55
        refine hin15 _ _ _ _ _ ?_
        refine at_branch [2, 8] (by kernel_rfl) ⟨?_, ?_, trivial⟩
        · skip
          refine stp_call (args := [.int .i64 ((v / 10 : Nat) : Int)]) (listed' := #[true, true, true, true, true, true, true, true, false, false, false]) rfl rfl in_83 rfl rfl rfl ?_
          refine (rdec_ n (v / 10) (by omega) (by omega) w54).mono ?_
          rintro _ w56 ⟨rfl, hb57⟩
          have O58 : Own Z0 W w56 [.blk g20 5 #[.int .u8 ((UInt8.ofNat (48 + v % 10)).toNat : Int)]] := O55.below hb57
          refine ⟨_, rfl, (fun _ => (O58.re [] rfl : Own Z0 W w56 [])), ?_⟩
          exact at_sub2 (hout16 _ _ _ _ _ (N50 g20 w56 O58)) ⟨rfl, rfl, rfl, rfl, rfl, rfl, trivial⟩
        · skip
          refine stp_val (v := .string (⟨([UInt8.ofNat (48 + v % 10)]).toArray⟩)) (listed' := #[true, true, false, true, true, true, true, true, true, false, false]) rfl rfl (fun ρ e => ex_conv1 (b := UInt8.ofNat (48 + v % 10)) (e _ _ rfl) (O55.blk 0 rfl)) rfl rfl (fun _ => (O55.re [] rfl : Own Z0 W w54 [])) ?_
          exact at_sub2 (hout16 _ _ _ _ _ (N44 g20 w54 O55)) ⟨rfl, rfl, rfl, rfl, rfl, rfl, trivial⟩
      have N59 : ∀  (w60 : World), Own Z0 W w60 [] → AT14 4 #[true, true, true, true, true, true, true, false, false, false, false] 20 [(0, .int .i64 (v : Int)), (2, .string (⟨#[]⟩)), (3, .int .i64 (v : Int)), (4, .bool false), (16, .int .u8 ((UInt8.ofNat (48 + v % 10)).toNat : Int)), (12, .string (⟨(decR (v / 10)).toArray⟩))] w60 := by
        intro  w60 O61
        refine hin15 _ _ _ _ _ ?_
        refine at_branch [7] (by kernel_rfl) ⟨?_, trivial⟩
        · skip
          obtain ⟨g62, w63, r64, O65, hg66, hs67⟩ := own_slice O61 el32 ze5 1 [(0, .int .u8 ((UInt8.ofNat (48 + v % 10)).toNat : Int))] (cs := #[.int .u8 ((UInt8.ofNat (48 + v % 10)).toNat : Int)]) (by decide) (by kernel_rfl)
          refine stp_val (v := .slice (some ⟨g62, 0, none⟩) 1 1) (listed' := #[true, true, true, true, true, true, true, true, false, false, false]) rfl rfl (fun ρ e => r64 ρ _ _ _ _ _ _ (e.parts rfl)) rfl rfl (fun _ => (O65.re [] rfl : Own Z0 W w63 [])) ?_
          exact at_sub2 (hout16 _ _ _ _ _ (N50 g62 w63 O65)) ⟨rfl, rfl, rfl, rfl, rfl, rfl, trivial⟩
      refine hin15 _ _ _ _ _ ?_
      refine at_take1 (v := .int .i64 (v : Int)) (i := 0) (listed' := #[true, false, false, false, false, false, false, false, false, false, false]) rfl (by kernel_rfl) (PQ.then_ PQ.body) (fun _ => O13) (fun ρ e W => ex_move (e _ _ rfl)) rfl rfl ?_
      refine at_take1 (v := .int .i64 ((v / 10 : Nat) : Int)) (i := 1) (listed' := #[true, true, false, false, false, false, false, false, false, false, false]) rfl (by kernel_rfl) (PQ.then_ PQ.body) (fun _ => O13) (fun ρ e W => ex_quo10 (e _ _ rfl) (e _ _ rfl) (by omega)) rfl rfl ?_
      refine at_take1 (v := .int .i64 (v : Int)) (i := 3) (listed' := #[true, true, false, true, false, false, false, false, false, false, false]) rfl (by kernel_rfl) (PQ.then_ PQ.body) (fun _ => O13) (fun ρ e W => ex_move (e _ _ rfl)) rfl rfl ?_
      refine at_take1 (v := .int .i64 ((v % 10 : Nat) : Int)) (i := 4) (listed' := #[true, true, false, true, true, false, false, false, false, false, false]) rfl (by kernel_rfl) (PQ.then_ PQ.body) (fun _ => O13) (fun ρ e W => ex_rem10 (e _ _ rfl) (e _ _ rfl) (by omega)) rfl rfl ?_
      refine at_take1 (v := .int .i64 ((48 + v % 10 : Nat) : Int)) (i := 5) (listed' := #[true, true, false, true, true, true, false, false, false, false, false]) rfl (by kernel_rfl) (PQ.then_ PQ.body) (fun _ => O13) (fun ρ e W => ex_arith (k := .i64) (u := 48) (v := ((v % 10 : Nat) : Int)) (e _ _ rfl) (e _ _ rfl) (congrArg some ((congrArg _ (by omega)).trans (wrap_in (u := ((48 + v % 10 : Nat) : Int)) (by omega) (by omega))))) rfl rfl ?_
      refine at_take1 (v := .int .u8 ((UInt8.ofNat (48 + v % 10)).toNat : Int)) (i := 6) (listed' := #[true, true, false, true, true, true, true, false, false, false, false]) rfl (by kernel_rfl) (PQ.then_ PQ.body) (fun _ => O13) (fun ρ e W => ex_conv35 (k := 48 + v % 10) (e _ _ rfl) (by omega)) rfl rfl ?_
      refine at_branch [2, 7] (by kernel_rfl) ⟨?_, ?_, trivial⟩
      · skip
        refine stp_call (args := [.int .i64 ((v / 10 : Nat) : Int)]) (listed' := #[true, true, true, true, true, true, true, false, false, false, false]) rfl rfl in_83 rfl rfl rfl ?_
        refine (rdec_ n (v / 10) (by omega) (by omega) W.drew).mono ?_
        rintro _ w68 ⟨rfl, hb69⟩
        have O70 : Own Z0 W w68 [] := O13.below hb69
        refine ⟨_, rfl, (fun _ => O70), ?_⟩
        exact at_sub2 (hout16 _ _ _ _ _ (N59  w68 O70)) ⟨rfl, rfl, rfl, rfl, rfl, rfl, trivial⟩
      · skip
        obtain ⟨g71, w72, r73, O74, hg75, hs76⟩ := own_slice O13 el32 ze5 1 [(0, .int .u8 ((UInt8.ofNat (48 + v % 10)).toNat : Int))] (cs := #[.int .u8 ((UInt8.ofNat (48 + v % 10)).toNat : Int)]) (by decide) (by kernel_rfl)
        refine stp_val (v := .slice (some ⟨g71, 0, none⟩) 1 1) (listed' := #[true, true, false, true, true, true, true, true, false, false, false]) rfl rfl (fun ρ e => r73 ρ _ _ _ _ _ _ (e.parts rfl)) rfl rfl (fun _ => (O74.re [] rfl : Own Z0 W w72 [])) ?_
        exact at_sub2 (hout16 _ _ _ _ _ (N53 g71 w72 O74)) ⟨rfl, rfl, rfl, rfl, rfl, rfl, trivial⟩
theorem rtext_ {ts : List VN} {D : Nat → Prop} {b o c0 : Nat} (hle : ts.length ≤ 255) : ∀ {i : Nat} {T : Tr} {vs : List Nat}, At ts idF i T vs → T.size ≤ 255 → ∀ (W : World), NodesD D W (.slice (some ⟨b, o, none⟩) ts.length c0) ts → (∀ k, D k → k < W.heap.size) →
    Calls Tryd.prog 71 #[.slice (some ⟨b, o, none⟩) ts.length c0, .int .i64 (i : Int)] W fun e w' => e = .returned (.string ⟨(textT T).toArray⟩) ∧ Below W.heap.size W w' := by
  intro i T vs hAt
  induction hAt with
  | @leaf i v hx h1 h2 =>
    intro hTs W hN hD
    have hi : i < ts.length := (List.getElem?_eq_some_iff.1 hx).1
    obtain ⟨vv, rfl⟩ : ∃ n : Nat, v = n := ⟨v.toNat, by omega⟩
    have hlf : lf (VN.mk (-1) (-1) (vv : Int)) = true := lf_leaf h1 h2
    have O0 : Own Z0 W W [.ro D (fun w => NodesD D w (.slice (some ⟨b, o, none⟩) ts.length c0) ts)] := (Own.start W).oldro (D := D) (p := (fun w => NodesD D w (.slice (some ⟨b, o, none⟩) ts.length c0) ts)) (nodesE_holds hN hD)
    refine sx_enter (args := [.slice (some ⟨b, o, none⟩) ts.length c0, .int .i64 (i : Int)]) Tryd.func71 rfl rfl (by simp) ?_
    refine cw_seq (fun FK1 K1 => ?_)
    refine cw_region ?_
    refine wl_val (v := .string (⟨#[]⟩)) (fun ρ e => ex_assign (e _ _ rfl)) rfl rfl ?_
    refine wl_nil ?_
    refine xw_next K1 ?_
    refine cw_seq (fun FK2 K2 => ?_)
    refine cw_region ?_
    refine wl_val (v := .slice (some ⟨b, o, none⟩) ts.length c0) (fun ρ e => ex_move (e _ _ rfl)) rfl rfl ?_
    refine wl_val (v := .int .i64 (i : Int)) (fun ρ e => ex_move (e _ _ rfl)) rfl rfl ?_
    refine wl_val (v := .pointer (some ⟨b, o + i * 3, none⟩)) (fun ρ e => ex_idx (q := o + i * 3) (i := i) el23 (e _ _ rfl) (e _ _ rfl) (by omega) (by omega)) rfl rfl ?_
    refine wl_val (v := .agg #[.int .i64 (-1), .int .i64 (-1), .int .i64 (vv : Int)]) (fun ρ e => ex_loadN (vs := [.int .i64 (-1), .int .i64 (-1), .int .i64 (vv : Int)]) ty38 (e _ _ rfl) rfl (cells3 (NodesD.c0 ((O0.ro 0 rfl : (fun w => NodesD D w (.slice (some ⟨b, o, none⟩) ts.length c0) ts) _) : NodesD _ _ _ _) hx) (NodesD.c1 ((O0.ro 0 rfl : (fun w => NodesD D w (.slice (some ⟨b, o, none⟩) ts.length c0) ts) _) : NodesD _ _ _ _) hx) (NodesD.c2 ((O0.ro 0 rfl : (fun w => NodesD D w (.slice (some ⟨b, o, none⟩) ts.length c0) ts) _) : NodesD _ _ _ _) hx))) rfl rfl ?_
    obtain ⟨g3, w4, r5, O6, hg7, hs8⟩ := own_alloc O0 38 ze38 rfl
    refine wl_val (v := .pointer (some ⟨g3, 0, none⟩)) (fun ρ e => r5 ρ _ _ _ _ _) rfl rfl ?_
    obtain ⟨w9, r10, O11, hs12⟩ := own_put (o := 0) (n := 3) O6 ty38 (.agg #[.int .i64 (-1), .int .i64 (-1), .int .i64 (vv : Int)]) [.int .i64 (-1), .int .i64 (-1), .int .i64 (vv : Int)] (cs' := #[.int .i64 (-1), .int .i64 (-1), .int .i64 (vv : Int)]) rfl rfl rfl (Nat.le_of_ble_eq_true rfl) rfl
    refine wl_none (fun ρ e => r10 ρ _ _ _ _ _ _ (e _ _ rfl) (e _ _ rfl)) rfl ?_
    refine wl_nil ?_
    refine xw_next K2 ?_
    refine cw_seq (fun FK13 K13 => ?_)
    refine cw_seq (fun FK14 K14 => ?_)
    refine cw_region ?_
    refine wl_val (v := .agg #[.int .i64 (-1), .int .i64 (-1), .int .i64 (vv : Int)]) (fun ρ e => ex_loadN (vs := [.int .i64 (-1), .int .i64 (-1), .int .i64 (vv : Int)]) ty38 (e _ _ rfl) rfl (O11.cells 0 0 rfl rfl)) rfl rfl ?_
    refine wl_call (args := [.agg #[.int .i64 (-1), .int .i64 (-1), .int .i64 (vv : Int)]]) in_72 rfl rfl rfl ?_
    refine (rleaf_ (VN.mk (-1) (-1) (vv : Int)) (W := w9)).mono ?_
    rintro _ w15 ⟨rfl, hb16⟩
    have O17 : Own Z0 W w15 [.blk g3 38 #[.int .i64 (-1), .int .i64 (-1), .int .i64 (vv : Int)], .ro D (fun w => NodesD D w (.slice (some ⟨b, o, none⟩) ts.length c0) ts)] := O11.below hb16
    refine ⟨_, rfl, ?_⟩
    refine wl_nil ?_
    refine xw_next K14 ?_
    refine cw_true (congrArg (fun b => some (Value.bool b)) hlf) ?_
    refine cw_seq (fun FK18 K18 => ?_)
    refine cw_region ?_
    refine wl_val (v := .pointer (some ⟨g3, 2, none⟩)) (fun ρ e => ex_field (q := 2) fi38_2 (e _ _ rfl) rfl) rfl rfl ?_
    refine wl_val (v := .int .i64 (vv : Int)) (fun ρ e => ex_load1 ty3 (e _ _ rfl) (O17.cell 0 2 rfl rfl)) rfl rfl ?_
    refine wl_call (args := [.int .i64 (vv : Int)]) in_83 rfl rfl rfl ?_
    refine (rdec_ (vv + 1) vv (by omega) (by omega) w15).mono ?_
    rintro _ w19 ⟨rfl, hb20⟩
    have O21 : Own Z0 W w19 [.blk g3 38 #[.int .i64 (-1), .int .i64 (-1), .int .i64 (vv : Int)], .ro D (fun w => NodesD D w (.slice (some ⟨b, o, none⟩) ts.length c0) ts)] := O17.below hb20
    refine ⟨_, rfl, ?_⟩
    refine wl_val (v := .string (⟨(decR vv).toArray⟩)) (fun ρ e => ex_assign (e _ _ rfl)) rfl rfl ?_
    refine wl_nil ?_
    refine xw_next K18 ?_
    refine cw_ret ?_
    refine xw_past (by intro h; cases h) ?_
    refine xw_ret (v := .string (⟨(decR vv).toArray⟩)) (fun T hT => res1 rfl T _ (hT 4 _ rfl)) ?_
    have hx2 : textT (.leaf (vv : Int)) = decR vv := by simp [textT, decR]
    rw [hx2]
    exact ⟨rfl, O21.old⟩
  | @node i a b2 a' b' A1 B1 va vb hx hf hA hB ihA ihB =>
    intro hTs W hN hD
    have hi : i < ts.length := (List.getElem?_eq_some_iff.1 hx).1
    injection hf with e1 e2
    subst e1 e2
    have hlf : lf (VN.mk (a : Int) (b2 : Int) 0) = false := lf_inner a b2
    have hla := textT_len A1
    have hlb := textT_len B1
    simp only [Tr.size] at hTs
    have O0 : Own Z0 W W [.ro D (fun w => NodesD D w (.slice (some ⟨b, o, none⟩) ts.length c0) ts)] := (Own.start W).oldro (D := D) (p := (fun w => NodesD D w (.slice (some ⟨b, o, none⟩) ts.length c0) ts)) (nodesE_holds hN hD)
    refine sx_enter (args := [.slice (some ⟨b, o, none⟩) ts.length c0, .int .i64 (i : Int)]) Tryd.func71 rfl rfl (by simp) ?_
    refine cw_seq (fun FK1 K1 => ?_)
    refine cw_region ?_
    refine wl_val (v := .string (⟨#[]⟩)) (fun ρ e => ex_assign (e _ _ rfl)) rfl rfl ?_
    refine wl_nil ?_
    refine xw_next K1 ?_
    refine cw_seq (fun FK2 K2 => ?_)
    refine cw_region ?_
    refine wl_val (v := .slice (some ⟨b, o, none⟩) ts.length c0) (fun ρ e => ex_move (e _ _ rfl)) rfl rfl ?_
    refine wl_val (v := .int .i64 (i : Int)) (fun ρ e => ex_move (e _ _ rfl)) rfl rfl ?_
    refine wl_val (v := .pointer (some ⟨b, o + i * 3, none⟩)) (fun ρ e => ex_idx (q := o + i * 3) (i := i) el23 (e _ _ rfl) (e _ _ rfl) (by omega) (by omega)) rfl rfl ?_
    refine wl_val (v := .agg #[.int .i64 (a : Int), .int .i64 (b2 : Int), .int .i64 0]) (fun ρ e => ex_loadN (vs := [.int .i64 (a : Int), .int .i64 (b2 : Int), .int .i64 0]) ty38 (e _ _ rfl) rfl (cells3 (NodesD.c0 ((O0.ro 0 rfl : (fun w => NodesD D w (.slice (some ⟨b, o, none⟩) ts.length c0) ts) _) : NodesD _ _ _ _) hx) (NodesD.c1 ((O0.ro 0 rfl : (fun w => NodesD D w (.slice (some ⟨b, o, none⟩) ts.length c0) ts) _) : NodesD _ _ _ _) hx) (NodesD.c2 ((O0.ro 0 rfl : (fun w => NodesD D w (.slice (some ⟨b, o, none⟩) ts.length c0) ts) _) : NodesD _ _ _ _) hx))) rfl rfl ?_
    obtain ⟨g3, w4, r5, O6, hg7, hs8⟩ := own_alloc O0 38 ze38 rfl
    refine wl_val (v := .pointer (some ⟨g3, 0, none⟩)) (fun ρ e => r5 ρ _ _ _ _ _) rfl rfl ?_
    obtain ⟨w9, r10, O11, hs12⟩ := own_put (o := 0) (n := 3) O6 ty38 (.agg #[.int .i64 (a : Int), .int .i64 (b2 : Int), .int .i64 0]) [.int .i64 (a : Int), .int .i64 (b2 : Int), .int .i64 0] (cs' := #[.int .i64 (a : Int), .int .i64 (b2 : Int), .int .i64 0]) rfl rfl rfl (Nat.le_of_ble_eq_true rfl) rfl
    refine wl_none (fun ρ e => r10 ρ _ _ _ _ _ _ (e _ _ rfl) (e _ _ rfl)) rfl ?_
    refine wl_nil ?_
    refine xw_next K2 ?_
    refine cw_seq (fun FK13 K13 => ?_)
    refine cw_seq (fun FK14 K14 => ?_)
    refine cw_region ?_
    refine wl_val (v := .agg #[.int .i64 (a : Int), .int .i64 (b2 : Int), .int .i64 0]) (fun ρ e => ex_loadN (vs := [.int .i64 (a : Int), .int .i64 (b2 : Int), .int .i64 0]) ty38 (e _ _ rfl) rfl (O11.cells 0 0 rfl rfl)) rfl rfl ?_
    refine wl_call (args := [.agg #[.int .i64 (a : Int), .int .i64 (b2 : Int), .int .i64 0]]) in_72 rfl rfl rfl ?_
    refine (rleaf_ (VN.mk (a : Int) (b2 : Int) 0) (W := w9)).mono ?_
    rintro _ w15 ⟨rfl, hb16⟩
    have O17 : Own Z0 W w15 [.blk g3 38 #[.int .i64 (a : Int), .int .i64 (b2 : Int), .int .i64 0], .ro D (fun w => NodesD D w (.slice (some ⟨b, o, none⟩) ts.length c0) ts)] := O11.below hb16
    refine ⟨_, rfl, ?_⟩
    refine wl_nil ?_
    refine xw_next K14 ?_
    refine cw_false (congrArg (fun b => some (Value.bool b)) hlf) ?_
    refine cw_skip ?_
    refine xw_next K13 ?_
    refine cw_seq (fun FK18 K18 => ?_)
    refine cw_drawn (fun X => Own Z0 W X [.blk g3 38 #[.int .i64 (a : Int), .int .i64 (b2 : Int), .int .i64 0], .ro D (fun w => NodesD D w (.slice (some ⟨b, o, none⟩) ts.length c0) ts)]) 12 [(0, 1), (1, 1), (2, 0), (6, 1), (7, 1), (8, 0), (3, 2), (4, 1), (5, 1), (9, 2), (10, 1), (11, 1), (12, 3)] (by kernel_rfl) (by kernel_rfl) (PQ.then_ PQ.body) (O17).drew ?_
    have O19 : Own Z0 W w15.drew [.blk g3 38 #[.int .i64 (a : Int), .int .i64 (b2 : Int), .int .i64 0], .ro D (fun w => NodesD D w (.slice (some ⟨b, o, none⟩) ts.length c0) ts)] := O17.drew
    refine wt1 (v := .slice (some ⟨b, o, none⟩) ts.length c0) rfl (fun ρ e W => ex_move (e _ _ rfl)) rfl rfl ?_
    refine wt1 (v := .pointer (some ⟨g3, 0, none⟩)) rfl (fun ρ e W => ex_field (q := 0) fi38_0 (e _ _ rfl) rfl) rfl rfl ?_
    refine wt0 (v := .int .i64 (a : Int)) rfl (fun ρ e W hW => ex_load1 ty3 (e _ _ rfl) (hW.cell 0 0 rfl rfl)) rfl rfl ?_
    refine wt1 (v := .slice (some ⟨b, o, none⟩) ts.length c0) rfl (fun ρ e W => ex_move (e _ _ rfl)) rfl rfl ?_
    refine wt1 (v := .pointer (some ⟨g3, 1, none⟩)) rfl (fun ρ e W => ex_field (q := 1) fi38_1 (e _ _ rfl) rfl) rfl rfl ?_
    refine wt0 (v := .int .i64 (b2 : Int)) rfl (fun ρ e W hW => ex_load1 ty3 (e _ _ rfl) (hW.cell 0 1 rfl rfl)) rfl rfl ?_
    refine wt2_call (args := [.slice (some ⟨b, o, none⟩) ts.length c0, .int .i64 (a : Int)]) rfl in_71 rfl rfl rfl ?_
    refine (ihA (by omega) w15.drew (hN.move (fun k hk => (O19.old).block k (hD k hk))) (fun k hk => Nat.lt_of_lt_of_le (hD k hk) (O19.old).size)).mono ?_
    rintro _ w20 ⟨rfl, hb21⟩
    have O22 : Own Z0 W w20 [.blk g3 38 #[.int .i64 (a : Int), .int .i64 (b2 : Int), .int .i64 0], .ro D (fun w => NodesD D w (.slice (some ⟨b, o, none⟩) ts.length c0) ts)] := O19.below hb21
    refine ⟨_, rfl, O22, ?_⟩
    refine wt1 (v := .string (⟨([40] ++ textT A1).toArray⟩)) rfl (fun ρ e W => ex_addS (a := [40]) (b := textT A1) (e _ _ rfl) (e _ _ rfl) (by simp only [List.length_append, List.length_cons, List.length_nil]; omega)) rfl rfl ?_
    refine wt1 (v := .string (⟨([40] ++ textT A1 ++ [32]).toArray⟩)) rfl (fun ρ e W => ex_addS (a := [40] ++ textT A1) (b := [32]) (e _ _ rfl) (e _ _ rfl) (by simp only [List.length_append, List.length_cons, List.length_nil]; omega)) rfl rfl ?_
    refine wt2_call (args := [.slice (some ⟨b, o, none⟩) ts.length c0, .int .i64 (b2 : Int)]) rfl in_71 rfl rfl rfl ?_
    refine (ihB (by omega) w20 (hN.move (fun k hk => (O22.old).block k (hD k hk))) (fun k hk => Nat.lt_of_lt_of_le (hD k hk) (O22.old).size)).mono ?_
    rintro _ w23 ⟨rfl, hb24⟩
    have O25 : Own Z0 W w23 [.blk g3 38 #[.int .i64 (a : Int), .int .i64 (b2 : Int), .int .i64 0], .ro D (fun w => NodesD D w (.slice (some ⟨b, o, none⟩) ts.length c0) ts)] := O22.below hb24
    refine ⟨_, rfl, O25, ?_⟩
    refine wt1 (v := .string (⟨([40] ++ textT A1 ++ [32] ++ textT B1).toArray⟩)) rfl (fun ρ e W => ex_addS (a := [40] ++ textT A1 ++ [32]) (b := textT B1) (e _ _ rfl) (e _ _ rfl) (by simp only [List.length_append, List.length_cons, List.length_nil]; omega)) rfl rfl ?_
    refine wt1 (v := .string (⟨([40] ++ textT A1 ++ [32] ++ textT B1 ++ [41]).toArray⟩)) rfl (fun ρ e W => ex_addS (a := [40] ++ textT A1 ++ [32] ++ textT B1) (b := [41]) (e _ _ rfl) (e _ _ rfl) (by simp only [List.length_append, List.length_cons, List.length_nil]; omega)) rfl rfl ?_
    refine wt3 (v := .string (⟨([40] ++ textT A1 ++ [32] ++ textT B1 ++ [41]).toArray⟩)) rfl (fun ρ e => ex_assign (e _ _ rfl)) rfl rfl ?_
    refine wt_nil ?_
    refine xw_next K18 ?_
    refine cw_ret ?_
    refine xw_ret (v := .string (⟨([40] ++ textT A1 ++ [32] ++ textT B1 ++ [41]).toArray⟩)) (fun T hT => res1 rfl T _ (hT 4 _ rfl)) ?_
    have hx2 : textT (.node A1 B1) = [40] ++ textT A1 ++ [32] ++ textT B1 ++ [41] := by simp [textT]
    rw [hx2]
    exact ⟨rfl, O25.old⟩
theorem rprint_ {W : World} {D : Nat → Prop} {V : Value} {ts : List VN} (hN : NodesD D W V ts) (hD : ∀ k, D k → k < W.heap.size) (hsz : ts.length ≤ 1000000) :
    Calls Tryd.prog 40 #[V] W fun e w' => e = .returned (.tuple #[.string ⟨(printOf ts).toArray⟩, .int .i64 (chkV ts)]) ∧ Below W.heap.size W w' := by
  obtain ⟨A, c0, rfl⟩ := hN.slice
  have O0 : Own Z0 W W [] := Own.start W
  refine sx_enter (args := [.slice A ts.length c0]) Tryd.func40 rfl rfl (by simp) ?_
  refine cw_seq (fun FK1 K1 => ?_)
  refine cw_region ?_
  refine wl_val (v := .string (⟨#[]⟩)) (fun ρ e => ex_assign (e _ _ rfl)) rfl rfl ?_
  refine wl_val (v := .int .i64 0) (fun ρ e => ex_assign (e _ _ rfl)) rfl rfl ?_
  refine wl_nil ?_
  refine xw_next K1 ?_
  refine cw_seq (fun FK2 K2 => ?_)
  refine cw_seq (fun FK3 K3 => ?_)
  refine cw_region ?_
  refine wl_val (v := .slice A ts.length c0) (fun ρ e => ex_move (e _ _ rfl)) rfl rfl ?_
  refine wl_call (args := [.slice A ts.length c0]) in_41 rfl rfl rfl ?_
  refine (rcheck_ (hN.move (fun k hk => (O0.old).block k (hD k hk))) (fun k hk => Nat.lt_of_lt_of_le (hD k hk) (O0.old).size) hsz).mono ?_
  rintro _ w4 ⟨rfl, hb5⟩
  have O6 : Own Z0 W w4 [] := O0.below hb5
  refine ⟨_, rfl, ?_⟩
  by_cases c7 : (chkV ts) ≠ 0
  · skip
    refine wl_val (v := .bool true) (fun ρ e => ex_cmp (u := (chkV ts)) (v := 0) (e _ _ rfl) (e _ _ rfl) (neq1 (by omega))) rfl rfl ?_
    refine wl_nil ?_
    refine xw_next K3 ?_
    refine cw_true rfl ?_
    refine cw_seq (fun FK8 K8 => ?_)
    refine cw_region ?_
    refine wl_val (v := .string (⟨#[]⟩)) (fun ρ e => ex_assign (e _ _ rfl)) rfl rfl ?_
    refine wl_val (v := .int .i64 1) (fun ρ e => ex_assign (e _ _ rfl)) rfl rfl ?_
    refine wl_nil ?_
    refine xw_next K8 ?_
    refine cw_ret ?_
    refine xw_past (by intro h; cases h) ?_
    refine xw_ret (v := .tuple #[.string (⟨#[]⟩), .int .i64 1]) (fun T hT => res2 rfl T _ (hT 2 _ rfl) (hT 3 _ rfl)) ?_
    have hno : okT ts = false := chk_no (by omega)
    exact ⟨by unfold chkV printOf; rw [hno]; rfl, O6.old⟩
  · skip
    have hok : okT ts = true := chk_ok (by omega)
    have hV := okT_val hok
    have hpos := hV.pos
    have hle := hV.le
    obtain ⟨vs, hAt⟩ := tree_at hok
    obtain ⟨b, o, c', hv, hDb⟩ := hN.form hpos
    injection hv with hA _ hc
    subst hA hc
    refine wl_val (v := .bool false) (fun ρ e => ex_cmp (u := (chkV ts)) (v := 0) (e _ _ rfl) (e _ _ rfl) (neq0 (by omega))) rfl rfl ?_
    refine wl_nil ?_
    refine xw_next K3 ?_
    refine cw_false rfl ?_
    refine cw_skip ?_
    refine xw_next K2 ?_
    refine cw_seq (fun FK9 K9 => ?_)
    refine cw_region ?_
    refine wl_val (v := .slice (some ⟨b, o, none⟩) ts.length c0) (fun ρ e => ex_move (e _ _ rfl)) rfl rfl ?_
    refine wl_val (v := .slice (some ⟨b, o, none⟩) ts.length c0) (fun ρ e => ex_move (e _ _ rfl)) rfl rfl ?_
    refine wl_val (v := .int .i64 ((ts.length : Nat) : Int)) (fun ρ e => ex_len el23 (e _ _ rfl)) rfl rfl ?_
    refine wl_val (v := .int .i64 ((ts.length - 1 : Nat) : Int)) (fun ρ e => ex_arith (k := .i64) (u := ((ts.length : Nat) : Int)) (v := 1) (e _ _ rfl) (e _ _ rfl) (congrArg some ((congrArg _ (show _ = ((ts.length - 1 : Nat) : Int) by omega)).trans (wrap_in (by omega) (by omega))))) rfl rfl ?_
    refine wl_call (args := [.slice (some ⟨b, o, none⟩) ts.length c0, .int .i64 ((ts.length - 1 : Nat) : Int)]) in_71 rfl rfl rfl ?_
    refine (rtext_ hle hAt (by have := hAt.small hV; omega) _ (hN.move (fun k hk => (O6.old).block k (hD k hk))) (fun k hk => Nat.lt_of_lt_of_le (hD k hk) (O6.old).size)).mono ?_
    rintro _ w10 ⟨rfl, hb11⟩
    have O12 : Own Z0 W w10 [] := O6.below hb11
    refine ⟨_, rfl, ?_⟩
    refine wl_val (v := .string (⟨(textT (treeOf ts)).toArray⟩)) (fun ρ e => ex_assign (e _ _ rfl)) rfl rfl ?_
    refine wl_val (v := .int .i64 0) (fun ρ e => ex_assign (e _ _ rfl)) rfl rfl ?_
    refine wl_nil ?_
    refine xw_next K9 ?_
    refine cw_ret ?_
    refine xw_ret (v := .tuple #[.string (⟨(textT (treeOf ts)).toArray⟩), .int .i64 0]) (fun T hT => res2 rfl T _ (hT 2 _ rfl) (hT 3 _ rfl)) ?_
    exact ⟨by unfold chkV printOf; rw [hok]; rfl, O12.old⟩
end Go.Proofs.YtpeoodkepjhhiaaDoor
namespace Go.Proofs.YtpeoodkepjhhiaaDoor
open Go Go.RowKit
theorem sameints_ {W : World} {D D2 : Nat → Prop} {V V2 : Value} {l : List Int} (hI : IntsD D W V l) (hD : ∀ k, D k → k < W.heap.size) (hI2 : IntsD D2 W V2 l) (hD2 : ∀ k, D2 k → k < W.heap.size) (hsz : l.length ≤ 1000000) : Calls Tryd.prog 42 #[V, V2] W fun e w' => e = .returned (.bool true) ∧ Below W.heap.size W w' := by
  obtain ⟨A, c, rfl⟩ := hI.slice
  obtain ⟨A2, c2, rfl⟩ := hI2.slice
  rcases Nat.eq_zero_or_pos l.length with h0 | h0
  · skip
    have O0 : Own Z0 W W [] := Own.start W
    refine sx_enter (args := [.slice A l.length c, .slice A2 l.length c2]) Tryd.func42 rfl rfl (by simp) ?_
    refine cw_seq (fun FK1 K1 => ?_)
    refine cw_region ?_
    refine wl_val (v := .bool false) (fun ρ e => ex_assign (e _ _ rfl)) rfl rfl ?_
    refine wl_nil ?_
    refine xw_next K1 ?_
    refine cw_seq (fun FK2 K2 => ?_)
    refine cw_seq (fun FK3 K3 => ?_)
    refine cw_region ?_
    refine wl_val (v := .slice A l.length c) (fun ρ e => ex_move (e _ _ rfl)) rfl rfl ?_
    refine wl_val (v := .int .i64 ((l.length : Nat) : Int)) (fun ρ e => ex_len el36 (e _ _ rfl)) rfl rfl ?_
    refine wl_val (v := .slice A2 l.length c2) (fun ρ e => ex_move (e _ _ rfl)) rfl rfl ?_
    refine wl_val (v := .int .i64 ((l.length : Nat) : Int)) (fun ρ e => ex_len el36 (e _ _ rfl)) rfl rfl ?_
    refine wl_val (v := .bool false) (fun ρ e => ex_cmp (u := ((l.length : Nat) : Int)) (v := ((l.length : Nat) : Int)) (e _ _ rfl) (e _ _ rfl) (neq0 rfl)) rfl rfl ?_
    refine wl_nil ?_
    refine xw_next K3 ?_
    refine cw_false rfl ?_
    refine cw_skip ?_
    refine xw_next K2 ?_
    refine cw_seq (fun FK4 K4 => ?_)
    refine cw_seq (fun FK5 K5 => ?_)
    refine cw_region ?_
    refine wl_val (v := .int .i64 0) (fun ρ e => ex_assign (e _ _ rfl)) rfl rfl ?_
    refine wl_nil ?_
    refine xw_next K5 ?_
    refine cw_block ?_
    refine cw_loop (ι := Nat) (fun q => [(0, .slice A l.length c), (1, .slice A2 l.length c2), (5, .int .i64 (q : Int))]) (fun q X => (q ≤ l.length) ∧ Own Z0 W X []) (fun q => l.length - q) 0 ⟨Nat.zero_le _, O0⟩ ⟨rfl, rfl, rfl, trivial⟩ (fun q w6 hJ F7 K8 => ?_)
    obtain ⟨i, rfl⟩ : ∃ x, x = q := ⟨_, rfl⟩
    obtain ⟨hi0, O9⟩ := hJ
    try dsimp only at hi0 O9 ⊢
    by_cases hi : i < l.length
    · skip
      exact absurd hi (by omega)
    · skip
      refine cw_seq (fun FK10 K10 => ?_)
      refine cw_seq (fun FK11 K11 => ?_)
      refine cw_region ?_
      refine wl_val (v := .int .i64 (i : Int)) (fun ρ e => ex_move (e _ _ rfl)) rfl rfl ?_
      refine wl_val (v := .slice A l.length c) (fun ρ e => ex_move (e _ _ rfl)) rfl rfl ?_
      refine wl_val (v := .int .i64 ((l.length : Nat) : Int)) (fun ρ e => ex_len el36 (e _ _ rfl)) rfl rfl ?_
      refine wl_val (v := .bool false) (fun ρ e => ex_cmp (u := (i : Int)) (v := ((l.length : Nat) : Int)) (e _ _ rfl) (e _ _ rfl) (lss0 (by omega))) rfl rfl ?_
      refine wl_nil ?_
      refine xw_next K11 ?_
      refine cw_false rfl ?_
      refine cw_exit ?_
      refine xw_past (by intro h; cases h) ?_
      refine xw_past (by intro h; cases h) ?_
      refine xw_here ?_
      refine xw_next K4 ?_
      refine cw_seq (fun FK12 K12 => ?_)
      refine cw_region ?_
      refine wl_val (v := .bool true) (fun ρ e => ex_assign (e _ _ rfl)) rfl rfl ?_
      refine wl_nil ?_
      refine xw_next K12 ?_
      refine cw_ret ?_
      refine xw_ret (v := .bool true) (fun T hT => res1 rfl T _ (hT 4 _ rfl)) ?_
      exact ⟨rfl, O9.old⟩
  · obtain ⟨b, o, c', hv0⟩ := hI.form h0
    injection hv0 with hA _ hc
    subst hA hc
    obtain ⟨b3, o3, c', hv0⟩ := hI2.form h0
    injection hv0 with hA _ hc
    subst hA hc
    have O0 : Own Z0 W W [.ro D (fun w => IntsD D w (.slice (some ⟨b, o, none⟩) l.length c) l), .ro D2 (fun w => IntsD D2 w (.slice (some ⟨b3, o3, none⟩) l.length c2) l)] := ((Own.start W).oldro (D := D2) (p := (fun w => IntsD D2 w (.slice (some ⟨b3, o3, none⟩) l.length c2) l)) (inE_holds hI2 hD2)).oldro (D := D) (p := (fun w => IntsD D w (.slice (some ⟨b, o, none⟩) l.length c) l)) (inE_holds hI hD)
    refine sx_enter (args := [.slice (some ⟨b, o, none⟩) l.length c, .slice (some ⟨b3, o3, none⟩) l.length c2]) Tryd.func42 rfl rfl (by simp) ?_
    refine cw_seq (fun FK13 K13 => ?_)
    refine cw_region ?_
    refine wl_val (v := .bool false) (fun ρ e => ex_assign (e _ _ rfl)) rfl rfl ?_
    refine wl_nil ?_
    refine xw_next K13 ?_
    refine cw_seq (fun FK14 K14 => ?_)
    refine cw_seq (fun FK15 K15 => ?_)
    refine cw_region ?_
    refine wl_val (v := .slice (some ⟨b, o, none⟩) l.length c) (fun ρ e => ex_move (e _ _ rfl)) rfl rfl ?_
    refine wl_val (v := .int .i64 ((l.length : Nat) : Int)) (fun ρ e => ex_len el36 (e _ _ rfl)) rfl rfl ?_
    refine wl_val (v := .slice (some ⟨b3, o3, none⟩) l.length c2) (fun ρ e => ex_move (e _ _ rfl)) rfl rfl ?_
    refine wl_val (v := .int .i64 ((l.length : Nat) : Int)) (fun ρ e => ex_len el36 (e _ _ rfl)) rfl rfl ?_
    refine wl_val (v := .bool false) (fun ρ e => ex_cmp (u := ((l.length : Nat) : Int)) (v := ((l.length : Nat) : Int)) (e _ _ rfl) (e _ _ rfl) (neq0 rfl)) rfl rfl ?_
    refine wl_nil ?_
    refine xw_next K15 ?_
    refine cw_false rfl ?_
    refine cw_skip ?_
    refine xw_next K14 ?_
    refine cw_seq (fun FK16 K16 => ?_)
    refine cw_seq (fun FK17 K17 => ?_)
    refine cw_region ?_
    refine wl_val (v := .int .i64 0) (fun ρ e => ex_assign (e _ _ rfl)) rfl rfl ?_
    refine wl_nil ?_
    refine xw_next K17 ?_
    refine cw_block ?_
    refine cw_loop (ι := Nat) (fun q => [(0, .slice (some ⟨b, o, none⟩) l.length c), (1, .slice (some ⟨b3, o3, none⟩) l.length c2), (5, .int .i64 (q : Int))]) (fun q X => (q ≤ l.length) ∧ Own Z0 W X [.ro D (fun w => IntsD D w (.slice (some ⟨b, o, none⟩) l.length c) l), .ro D2 (fun w => IntsD D2 w (.slice (some ⟨b3, o3, none⟩) l.length c2) l)]) (fun q => l.length - q) 0 ⟨Nat.zero_le _, O0⟩ ⟨rfl, rfl, rfl, trivial⟩ (fun q w18 hJ F19 K20 => ?_)
    obtain ⟨i, rfl⟩ : ∃ x, x = q := ⟨_, rfl⟩
    obtain ⟨hi0, O21⟩ := hJ
    try dsimp only at hi0 O21 ⊢
    by_cases hi : i < l.length
    · skip
      obtain ⟨v, hv⟩ : ∃ v, l[i]? = some v := ⟨l[i], List.getElem?_eq_getElem hi⟩
      refine cw_seq (fun FK22 K22 => ?_)
      refine cw_seq (fun FK23 K23 => ?_)
      refine cw_region ?_
      refine wl_val (v := .int .i64 (i : Int)) (fun ρ e => ex_move (e _ _ rfl)) rfl rfl ?_
      refine wl_val (v := .slice (some ⟨b, o, none⟩) l.length c) (fun ρ e => ex_move (e _ _ rfl)) rfl rfl ?_
      refine wl_val (v := .int .i64 ((l.length : Nat) : Int)) (fun ρ e => ex_len el36 (e _ _ rfl)) rfl rfl ?_
      refine wl_val (v := .bool true) (fun ρ e => ex_cmp (u := (i : Int)) (v := ((l.length : Nat) : Int)) (e _ _ rfl) (e _ _ rfl) (lss1 (by omega))) rfl rfl ?_
      refine wl_nil ?_
      refine xw_next K23 ?_
      refine cw_true rfl ?_
      refine cw_skip ?_
      refine xw_next K22 ?_
      refine cw_seq (fun FK24 K24 => ?_)
      refine cw_block ?_
      refine cw_seq (fun FK25 K25 => ?_)
      refine cw_drawn (fun X => Own Z0 W X [.ro D (fun w => IntsD D w (.slice (some ⟨b, o, none⟩) l.length c) l), .ro D2 (fun w => IntsD D2 w (.slice (some ⟨b3, o3, none⟩) l.length c2) l)]) 9 [(0, 1), (1, 1), (2, 1), (3, 0), (4, 1), (5, 1), (6, 1), (7, 0), (8, 1)] (by kernel_rfl) (by kernel_rfl) (PQ.then_ (PQ.block (PQ.then_ (PQ.then_ (PQ.block (PQ.then_ PQ.body)))))) (O21).drew ?_
      have O26 : Own Z0 W w18.drew [.ro D (fun w => IntsD D w (.slice (some ⟨b, o, none⟩) l.length c) l), .ro D2 (fun w => IntsD D2 w (.slice (some ⟨b3, o3, none⟩) l.length c2) l)] := O21.drew
      refine wt1 (v := .slice (some ⟨b, o, none⟩) l.length c) rfl (fun ρ e W => ex_move (e _ _ rfl)) rfl rfl ?_
      refine wt1 (v := .int .i64 (i : Int)) rfl (fun ρ e W => ex_move (e _ _ rfl)) rfl rfl ?_
      refine wt1 (v := .pointer (some ⟨b, o + i, none⟩)) rfl (fun ρ e W => ex_idx (q := o + i) (i := i) el36 (e _ _ rfl) (e _ _ rfl) (by omega) (by omega)) rfl rfl ?_
      refine wt0 (v := .int .i64 v) rfl (fun ρ e W hW => ex_load1 ty3 (e _ _ rfl) (IntsD.cellq ((hW.ro 0 rfl) : IntsD _ _ (.slice (some ⟨b, o, none⟩) l.length c) l) hv)) rfl rfl ?_
      refine wt1 (v := .slice (some ⟨b3, o3, none⟩) l.length c2) rfl (fun ρ e W => ex_move (e _ _ rfl)) rfl rfl ?_
      refine wt1 (v := .int .i64 (i : Int)) rfl (fun ρ e W => ex_move (e _ _ rfl)) rfl rfl ?_
      refine wt1 (v := .pointer (some ⟨b3, o3 + i, none⟩)) rfl (fun ρ e W => ex_idx (q := o3 + i) (i := i) el36 (e _ _ rfl) (e _ _ rfl) (by omega) (by omega)) rfl rfl ?_
      refine wt0 (v := .int .i64 v) rfl (fun ρ e W hW => ex_load1 ty3 (e _ _ rfl) (IntsD.cellq ((hW.ro 1 rfl) : IntsD _ _ (.slice (some ⟨b3, o3, none⟩) l.length c2) l) hv)) rfl rfl ?_
      refine wt1 (v := .bool false) rfl (fun ρ e W => ex_cmp (u := v) (v := v) (e _ _ rfl) (e _ _ rfl) (neq0 rfl)) rfl rfl ?_
      refine wt_nil ?_
      refine xw_next K25 ?_
      refine cw_false rfl ?_
      refine cw_skip ?_
      refine xw_block ?_
      refine xw_next K24 ?_
      refine cw_region ?_
      refine wl_val (v := .int .i64 (i : Int)) (fun ρ e => ex_move (e _ _ rfl)) rfl rfl ?_
      refine wl_val (v := .int .i64 ((i + 1 : Nat) : Int)) (fun ρ e => ex_arith (k := .i64) (u := (i : Int)) (v := 1) (e _ _ rfl) (e _ _ rfl) (congrArg some ((congrArg _ (by omega)).trans (wrap_in (u := ((i + 1 : Nat) : Int)) (by omega) (by omega))))) rfl rfl ?_
      refine wl_val (v := .int .i64 ((i + 1 : Nat) : Int)) (fun ρ e => ex_assign (e _ _ rfl)) rfl rfl ?_
      refine wl_nil ?_
      refine xw_round K20 (i + 1) (by show l.length - (i + 1) < l.length - i; omega) ⟨(by show i + 1 ≤ l.length; omega), O26⟩ ⟨rfl, rfl, rfl, trivial⟩
    · skip
      refine cw_seq (fun FK27 K27 => ?_)
      refine cw_seq (fun FK28 K28 => ?_)
      refine cw_region ?_
      refine wl_val (v := .int .i64 (i : Int)) (fun ρ e => ex_move (e _ _ rfl)) rfl rfl ?_
      refine wl_val (v := .slice (some ⟨b, o, none⟩) l.length c) (fun ρ e => ex_move (e _ _ rfl)) rfl rfl ?_
      refine wl_val (v := .int .i64 ((l.length : Nat) : Int)) (fun ρ e => ex_len el36 (e _ _ rfl)) rfl rfl ?_
      refine wl_val (v := .bool false) (fun ρ e => ex_cmp (u := (i : Int)) (v := ((l.length : Nat) : Int)) (e _ _ rfl) (e _ _ rfl) (lss0 (by omega))) rfl rfl ?_
      refine wl_nil ?_
      refine xw_next K28 ?_
      refine cw_false rfl ?_
      refine cw_exit ?_
      refine xw_past (by intro h; cases h) ?_
      refine xw_past (by intro h; cases h) ?_
      refine xw_here ?_
      refine xw_next K16 ?_
      refine cw_seq (fun FK29 K29 => ?_)
      refine cw_region ?_
      refine wl_val (v := .bool true) (fun ρ e => ex_assign (e _ _ rfl)) rfl rfl ?_
      refine wl_nil ?_
      refine xw_next K29 ?_
      refine cw_ret ?_
      refine xw_ret (v := .bool true) (fun T hT => res1 rfl T _ (hT 4 _ rfl)) ?_
      exact ⟨rfl, O21.old⟩
theorem set_eq57 (a b : Int) (w : World) : (Op.equalIn 10000 57 (.agg #[.int .u64 a, .int .u64 b]) (.agg #[.int .u64 a, .int .u64 b])).run Tryd.prog w = .ok true w := by
  have h2 : List.range' 0 2 = [0, 1] := rfl
  unfold Op.equalIn
  simp [go_sem, h2]
theorem ex_nesame57 {ρ : Operand → Value} {d : Option Tmp} {x y : Operand} {t : TypeId} {pos : String} {aft : Array Edge} {gd : Option (Nat × Bool)} {w : World} {a b : Int} (hx : ρ x = .agg #[.int .u64 a, .int .u64 b]) (hy : ρ y = .agg #[.int .u64 a, .int .u64 b]) : (execOp ρ ⟨d, .binOp .neq 57 x y 57, t, pos, aft, gd⟩).run Tryd.prog w = .ok (.value (.bool false)) w := by
  have h1 : (eqGuard .neq 57 x y (.agg #[.int .u64 a, .int .u64 b]) (.agg #[.int .u64 a, .int .u64 b])).run Tryd.prog w = .ok () w := by
    have hg : (Tryd.prog.eqGuardType Tryd.prog.depth 57) = false := by kernel_rfl
    simp [eqGuard, hg]
  have h2 : binOp .neq 57 (.agg #[.int .u64 a, .int .u64 b]) (.agg #[.int .u64 a, .int .u64 b]) = (do pure (.bool (!(← Op.equal 57 (.agg #[.int .u64 a, .int .u64 b]) (.agg #[.int .u64 a, .int .u64 b]))))) := rfl
  have h3 : (Op.equal 57 (.agg #[.int .u64 a, .int .u64 b]) (.agg #[.int .u64 a, .int .u64 b])).run Tryd.prog w = .ok true w := set_eq57 a b w
  simp only [execOp, hx, hy, Sem.run_bind, h1, h2, h3, Result.andThen_ok, Sem.run_pure]
  rfl
theorem checks_ok {W : World} {D : Nat → Prop} {b o c : Nat} {ts : List VN} (hN : NodesD D W (.slice (some ⟨b, o, none⟩) ts.length c) ts) (hD : ∀ k, D k → k < W.heap.size) (tab : Tab W) (hok : okT ts = true) : Calls Tryd.prog 10 #[.slice (some ⟨b, o, none⟩) ts.length c] W fun e w' => e = .returned (.bool true) ∧ Below W.heap.size W w' := by
  have hV := okT_val hok
  have hle := hV.le
  have O0 : Own Z0 W W [] := Own.start W
  refine sx_enter (args := [.slice (some ⟨b, o, none⟩) ts.length c]) Tryd.func10 rfl rfl (by simp) ?_
  refine cw_seq (fun FK1 K1 => ?_)
  refine cw_region ?_
  refine wl_val (v := .bool false) (fun ρ e => ex_assign (e _ _ rfl)) rfl rfl ?_
  refine wl_nil ?_
  refine xw_next K1 ?_
  refine cw_seq (fun FK2 K2 => ?_)
  refine cw_seq (fun FK3 K3 => ?_)
  refine cw_region ?_
  refine wl_val (v := .slice (some ⟨b, o, none⟩) ts.length c) (fun ρ e => ex_move (e _ _ rfl)) rfl rfl ?_
  refine wl_val (v := .int .i64 ((ts.length : Nat) : Int)) (fun ρ e => ex_len el23 (e _ _ rfl)) rfl rfl ?_
  by_cases c4 : ((ts.length : Nat) : Int) > 300
  · skip
    refine wl_val (v := .bool true) (fun ρ e => ex_cmp (u := ((ts.length : Nat) : Int)) (v := 300) (e _ _ rfl) (e _ _ rfl) (gtr1 (by omega))) rfl rfl ?_
    refine wl_nil ?_
    refine xw_next K3 ?_
    refine cw_true rfl ?_
    refine cw_seq (fun FK5 K5 => ?_)
    refine cw_region ?_
    refine wl_call (args := []) in_14 rfl rfl rfl ?_
    refine (works_ (tab.below (Nat.le_refl _) O0.old)).mono ?_
    rintro _ w6 ⟨rfl, hb7⟩
    have O8 : Own Z0 W w6 [] := O0.below hb7
    refine ⟨_, rfl, ?_⟩
    refine wl_val (v := .bool true) (fun ρ e => ex_assign (e _ _ rfl)) rfl rfl ?_
    refine wl_nil ?_
    refine xw_next K5 ?_
    refine cw_ret ?_
    refine xw_past (by intro h; cases h) ?_
    refine xw_ret (v := .bool true) (fun T hT => res1 rfl T _ (hT 2 _ rfl)) ?_
    exact ⟨rfl, O8.old⟩
  · skip
    refine wl_val (v := .bool false) (fun ρ e => ex_cmp (u := ((ts.length : Nat) : Int)) (v := 300) (e _ _ rfl) (e _ _ rfl) (gtr0 (by omega))) rfl rfl ?_
    refine wl_nil ?_
    refine xw_next K3 ?_
    refine cw_false rfl ?_
    refine cw_skip ?_
    refine xw_next K2 ?_
    refine cw_seq (fun FK9 K9 => ?_)
    refine cw_region ?_
    refine wl_val (v := .slice (some ⟨b, o, none⟩) ts.length c) (fun ρ e => ex_move (e _ _ rfl)) rfl rfl ?_
    refine wl_call (args := [.slice (some ⟨b, o, none⟩) ts.length c]) in_39 rfl rfl rfl ?_
    refine (print_ (hN.move (fun k hk => (O0.old).block k (hD k hk))) (fun k hk => Nat.lt_of_lt_of_le (hD k hk) (O0.old).size) (tab.below (Nat.le_refl _) O0.old)).mono ?_
    rintro _ w10 ⟨rfl, hb11⟩
    have O12 : Own Z0 W w10 [] := O0.below hb11
    refine ⟨_, rfl, ?_⟩
    refine wl_val (v := .tuple #[.string (⟨(printOf ts).toArray⟩), .int .i64 (chkV ts)]) (fun ρ e => ex_move (e _ _ rfl)) rfl rfl ?_
    refine wl_val (v := .string (⟨(printOf ts).toArray⟩)) (fun ρ e => ex_extract (vs := #[.string (⟨(printOf ts).toArray⟩), .int .i64 (chkV ts)]) (e _ _ rfl) rfl) rfl rfl ?_
    refine wl_val (v := .int .i64 (chkV ts)) (fun ρ e => ex_extract (vs := #[.string (⟨(printOf ts).toArray⟩), .int .i64 (chkV ts)]) (e _ _ rfl) rfl) rfl rfl ?_
    refine wl_val (v := .string (⟨(printOf ts).toArray⟩)) (fun ρ e => ex_assign (e _ _ rfl)) rfl rfl ?_
    refine wl_val (v := .int .i64 (chkV ts)) (fun ρ e => ex_assign (e _ _ rfl)) rfl rfl ?_
    refine wl_nil ?_
    refine xw_next K9 ?_
    refine cw_seq (fun FK13 K13 => ?_)
    refine cw_region ?_
    refine wl_val (v := .slice (some ⟨b, o, none⟩) ts.length c) (fun ρ e => ex_move (e _ _ rfl)) rfl rfl ?_
    refine wl_call (args := [.slice (some ⟨b, o, none⟩) ts.length c]) in_40 rfl rfl rfl ?_
    refine (rprint_ (hN.move (fun k hk => (O12.old).block k (hD k hk))) (fun k hk => Nat.lt_of_lt_of_le (hD k hk) (O12.old).size) (by omega)).mono ?_
    rintro _ w14 ⟨rfl, hb15⟩
    have O16 : Own Z0 W w14 [] := O12.below hb15
    refine ⟨_, rfl, ?_⟩
    refine wl_val (v := .tuple #[.string (⟨(printOf ts).toArray⟩), .int .i64 (chkV ts)]) (fun ρ e => ex_move (e _ _ rfl)) rfl rfl ?_
    refine wl_val (v := .string (⟨(printOf ts).toArray⟩)) (fun ρ e => ex_extract (vs := #[.string (⟨(printOf ts).toArray⟩), .int .i64 (chkV ts)]) (e _ _ rfl) rfl) rfl rfl ?_
    refine wl_val (v := .int .i64 (chkV ts)) (fun ρ e => ex_extract (vs := #[.string (⟨(printOf ts).toArray⟩), .int .i64 (chkV ts)]) (e _ _ rfl) rfl) rfl rfl ?_
    refine wl_val (v := .string (⟨(printOf ts).toArray⟩)) (fun ρ e => ex_assign (e _ _ rfl)) rfl rfl ?_
    refine wl_val (v := .int .i64 (chkV ts)) (fun ρ e => ex_assign (e _ _ rfl)) rfl rfl ?_
    refine wl_nil ?_
    refine xw_next K13 ?_
    refine cw_seq (fun FK17 K17 => ?_)
    refine cw_seq (fun FK18 K18 => ?_)
    refine cw_region ?_
    refine wl_val (v := .slice (some ⟨b, o, none⟩) ts.length c) (fun ρ e => ex_move (e _ _ rfl)) rfl rfl ?_
    refine wl_call (args := [.slice (some ⟨b, o, none⟩) ts.length c]) in_23 rfl rfl rfl ?_
    refine (check_ (hN.move (fun k hk => (O16.old).block k (hD k hk))) (fun k hk => Nat.lt_of_lt_of_le (hD k hk) (O16.old).size)).mono ?_
    rintro _ w19 ⟨rfl, hb20⟩
    have O21 : Own Z0 W w19 [] := O16.below hb20
    refine ⟨_, rfl, ?_⟩
    refine wl_val (v := .slice (some ⟨b, o, none⟩) ts.length c) (fun ρ e => ex_move (e _ _ rfl)) rfl rfl ?_
    refine wl_call (args := [.slice (some ⟨b, o, none⟩) ts.length c]) in_41 rfl rfl rfl ?_
    refine (rcheck_ (hN.move (fun k hk => (O21.old).block k (hD k hk))) (fun k hk => Nat.lt_of_lt_of_le (hD k hk) (O21.old).size) (by omega)).mono ?_
    rintro _ w22 ⟨rfl, hb23⟩
    have O24 : Own Z0 W w22 [] := O21.below hb23
    refine ⟨_, rfl, ?_⟩
    refine wl_val (v := .bool false) (fun ρ e => ex_cmp (u := (chkV ts)) (v := (chkV ts)) (e _ _ rfl) (e _ _ rfl) (neq0 rfl)) rfl rfl ?_
    refine wl_val (v := .bool false) (fun ρ e => ex_move (e _ _ rfl)) rfl rfl ?_
    refine wl_val (v := .string (⟨(printOf ts).toArray⟩)) (fun ρ e => ex_move (e _ _ rfl)) rfl rfl ?_
    refine wl_val (v := .string (⟨(printOf ts).toArray⟩)) (fun ρ e => ex_move (e _ _ rfl)) rfl rfl ?_
    refine wl_val (v := .bool false) (fun ρ e => ex_neS (a := ⟨(printOf ts).toArray⟩) (b := ⟨(printOf ts).toArray⟩) (e _ _ rfl) (e _ _ rfl) (by rw [decide_eq_true rfl]; rfl)) rfl rfl ?_
    refine wl_val (v := .bool false) (fun ρ e => ex_pick0 (e _ _ rfl) (e _ _ rfl)) rfl rfl ?_
    refine wl_val (v := .bool false) (fun ρ e => ex_move (e _ _ rfl)) rfl rfl ?_
    refine wl_val (v := .int .i64 (chkV ts)) (fun ρ e => ex_move (e _ _ rfl)) rfl rfl ?_
    refine wl_val (v := .int .i64 (chkV ts)) (fun ρ e => ex_move (e _ _ rfl)) rfl rfl ?_
    refine wl_val (v := .bool false) (fun ρ e => ex_cmp (u := (chkV ts)) (v := (chkV ts)) (e _ _ rfl) (e _ _ rfl) (neq0 rfl)) rfl rfl ?_
    refine wl_val (v := .bool false) (fun ρ e => ex_pick0 (e _ _ rfl) (e _ _ rfl)) rfl rfl ?_
    refine wl_val (v := .bool false) (fun ρ e => ex_move (e _ _ rfl)) rfl rfl ?_
    refine wl_val (v := .slice (some ⟨b, o, none⟩) ts.length c) (fun ρ e => ex_move (e _ _ rfl)) rfl rfl ?_
    refine wl_call (args := [.slice (some ⟨b, o, none⟩) ts.length c]) in_31 rfl rfl rfl ?_
    refine (parents_ok (hN.move (fun k hk => (O24.old).block k (hD k hk))) (fun k hk => Nat.lt_of_lt_of_le (hD k hk) (O24.old).size) hok).mono ?_
    rintro _ w25 ⟨g28, c29, rfl, h26⟩
    have O27 := O24.join1 h26 trivial
    refine ⟨_, rfl, ?_⟩
    refine wl_val (v := .slice (some ⟨b, o, none⟩) ts.length c) (fun ρ e => ex_move (e _ _ rfl)) rfl rfl ?_
    refine wl_call (args := [.slice (some ⟨b, o, none⟩) ts.length c]) in_43 rfl rfl rfl ?_
    refine (rparents_ok (hN.move (fun k hk => (O27.old).block k (hD k hk))) (fun k hk => Nat.lt_of_lt_of_le (hD k hk) (O27.old).size) hok).mono ?_
    rintro _ w30 ⟨g33, c34, rfl, h31⟩
    have O32 := O27.join1 h31 trivial
    refine ⟨_, rfl, ?_⟩
    refine wl_call (args := [.slice (some ⟨g28, 0, none⟩) ts.length c29, .slice (some ⟨g33, 0, none⟩) ts.length c34]) in_42 rfl rfl rfl ?_
    refine (sameints_ (IntsD.of_row (O32.row 1 rfl)) (fun k hk => (World.ownsRow.lt (O32.row 1 rfl) k hk).2) (IntsD.of_row (O32.row 0 rfl)) (fun k hk => (World.ownsRow.lt (O32.row 0 rfl) k hk).2) (by rw [parsOf_len]; omega)).mono ?_
    rintro _ w35 ⟨rfl, hb36⟩
    have O37 : Own Z0 W w35 [.row (.slice (some ⟨g33, 0, none⟩) ts.length c34) 3 1 ts.length (intCs (parsOf ts)), .row (.slice (some ⟨g28, 0, none⟩) ts.length c29) 3 1 ts.length (intCs (parsOf ts))] := O32.below hb36
    refine ⟨_, rfl, ?_⟩
    refine wl_val (v := .bool false) (fun ρ e => ex_lnot (b := true) (e _ _ rfl)) rfl rfl ?_
    refine wl_val (v := .bool false) (fun ρ e => ex_pick0 (e _ _ rfl) (e _ _ rfl)) rfl rfl ?_
    refine wl_nil ?_
    refine xw_next K18 ?_
    refine cw_false rfl ?_
    refine cw_skip ?_
    refine xw_next K17 ?_
    refine cw_seq (fun FK38 K38 => ?_)
    refine cw_region ?_
    refine wl_val (v := .slice (some ⟨b, o, none⟩) ts.length c) (fun ρ e => ex_move (e _ _ rfl)) rfl rfl ?_
    refine wl_call (args := [.slice (some ⟨b, o, none⟩) ts.length c]) in_44 rfl rfl rfl ?_
    refine (vvars_ok (hN.move (fun k hk => (O37.old).block k (hD k hk))) (fun k hk => Nat.lt_of_lt_of_le (hD k hk) (O37.old).size) hok).mono ?_
    rintro _ w39 ⟨g42, c43, rfl, h40⟩
    have O41 := O37.join1 h40 trivial
    refine ⟨_, rfl, ?_⟩
    refine wl_val (v := .slice (some ⟨b, o, none⟩) ts.length c) (fun ρ e => ex_move (e _ _ rfl)) rfl rfl ?_
    refine wl_call (args := [.slice (some ⟨b, o, none⟩) ts.length c]) in_45 rfl rfl rfl ?_
    refine (rvars_ok (hN.move (fun k hk => (O41.old).block k (hD k hk))) (fun k hk => Nat.lt_of_lt_of_le (hD k hk) (O41.old).size) hok).mono ?_
    rintro _ w44 ⟨g47, c48, rfl, h45⟩
    have O46 := O41.join1 h45 trivial
    refine ⟨_, rfl, ?_⟩
    refine wl_val (v := .slice (some ⟨g42, 0, none⟩) ts.length c43) (fun ρ e => ex_assign (e _ _ rfl)) rfl rfl ?_
    refine wl_val (v := .slice (some ⟨g47, 0, none⟩) ts.length c48) (fun ρ e => ex_assign (e _ _ rfl)) rfl rfl ?_
    refine wl_nil ?_
    refine xw_next K38 ?_
    refine cw_seq (fun FK49 K49 => ?_)
    refine cw_seq (fun FK50 K50 => ?_)
    refine cw_region ?_
    refine wl_val (v := .slice (some ⟨g42, 0, none⟩) ts.length c43) (fun ρ e => ex_move (e _ _ rfl)) rfl rfl ?_
    refine wl_val (v := .int .i64 ((ts.length : Nat) : Int)) (fun ρ e => ex_len el53 (e _ _ rfl)) rfl rfl ?_
    refine wl_val (v := .slice (some ⟨g47, 0, none⟩) ts.length c48) (fun ρ e => ex_move (e _ _ rfl)) rfl rfl ?_
    refine wl_val (v := .int .i64 ((ts.length : Nat) : Int)) (fun ρ e => ex_len el53 (e _ _ rfl)) rfl rfl ?_
    refine wl_val (v := .bool false) (fun ρ e => ex_cmp (u := ((ts.length : Nat) : Int)) (v := ((ts.length : Nat) : Int)) (e _ _ rfl) (e _ _ rfl) (neq0 rfl)) rfl rfl ?_
    refine wl_nil ?_
    refine xw_next K50 ?_
    refine cw_false rfl ?_
    refine cw_skip ?_
    refine xw_next K49 ?_
    refine cw_seq (fun FK51 K51 => ?_)
    refine cw_seq (fun FK52 K52 => ?_)
    refine cw_region ?_
    refine wl_val (v := .slice (some ⟨g42, 0, none⟩) ts.length c43) (fun ρ e => ex_move (e _ _ rfl)) rfl rfl ?_
    refine wl_val (v := .int .i64 ((ts.length : Nat) : Int)) (fun ρ e => ex_len el53 (e _ _ rfl)) rfl rfl ?_
    refine wl_val (v := .int .i64 0) (fun ρ e => ex_move (e _ _ rfl)) rfl rfl ?_
    refine wl_nil ?_
    refine xw_next K52 ?_
    refine cw_block ?_
    have O53 : Own Z0 W w44 [.row (.slice (some ⟨g47, 0, none⟩) ts.length c48) 57 2 ts.length (vcells (setsOf ts)), .row (.slice (some ⟨g42, 0, none⟩) ts.length c43) 57 2 ts.length (vcells (setsOf ts))] := (O46.re [0, 1] rfl : Own Z0 W w44 [.row (.slice (some ⟨g47, 0, none⟩) ts.length c48) 57 2 ts.length (vcells (setsOf ts)), .row (.slice (some ⟨g42, 0, none⟩) ts.length c43) 57 2 ts.length (vcells (setsOf ts))])
    refine cw_loop (ι := Nat) (fun q => [(7, .slice (some ⟨g42, 0, none⟩) ts.length c43), (8, .slice (some ⟨g47, 0, none⟩) ts.length c48), (57, .int .i64 ((ts.length : Nat) : Int)), (58, .int .i64 (q : Int))]) (fun q X => (q ≤ ts.length) ∧ Own Z0 W X [.row (.slice (some ⟨g47, 0, none⟩) ts.length c48) 57 2 ts.length (vcells (setsOf ts)), .row (.slice (some ⟨g42, 0, none⟩) ts.length c43) 57 2 ts.length (vcells (setsOf ts))]) (fun q => ts.length - q) 0 ⟨Nat.zero_le _, O53⟩ ⟨rfl, rfl, rfl, rfl, trivial⟩ (fun q w54 hJ F55 K56 => ?_)
    obtain ⟨i, rfl⟩ : ∃ x, x = q := ⟨_, rfl⟩
    obtain ⟨hi0, O57⟩ := hJ
    try dsimp only at hi0 O57 ⊢
    by_cases hi : i < ts.length
    · skip
      obtain ⟨sv, hsv⟩ : ∃ s, (setsOf ts)[i]? = some s := ⟨_, List.getElem?_eq_getElem (show i < (setsOf ts).length by rw [setsOf_len]; exact hi)⟩
      refine cw_seq (fun FK58 K58 => ?_)
      refine cw_region ?_
      refine wl_val (v := .bool true) (fun ρ e => ex_cmp (u := (i : Int)) (v := ((ts.length : Nat) : Int)) (e _ _ rfl) (e _ _ rfl) (lss1 (by omega))) rfl rfl ?_
      refine wl_nil ?_
      refine xw_next K58 ?_
      refine cw_seq (fun FK59 K59 => ?_)
      refine cw_true rfl ?_
      refine cw_skip ?_
      refine xw_next K59 ?_
      refine cw_seq (fun FK60 K60 => ?_)
      refine cw_block ?_
      refine cw_seq (fun FK61 K61 => ?_)
      refine cw_region ?_
      refine wl_val (v := .int .i64 (i : Int)) (fun ρ e => ex_move (e _ _ rfl)) rfl rfl ?_
      refine wl_val (v := .int .i64 (i : Int)) (fun ρ e => ex_assign (e _ _ rfl)) rfl rfl ?_
      refine wl_nil ?_
      refine xw_next K61 ?_
      refine cw_seq (fun FK62 K62 => ?_)
      refine cw_drawn (fun X => Own Z0 W X [.row (.slice (some ⟨g47, 0, none⟩) ts.length c48) 57 2 ts.length (vcells (setsOf ts)), .row (.slice (some ⟨g42, 0, none⟩) ts.length c43) 57 2 ts.length (vcells (setsOf ts))]) 9 [(0, 1), (1, 1), (2, 1), (3, 0), (4, 1), (5, 1), (6, 1), (7, 0), (8, 1)] (by kernel_rfl) (by kernel_rfl) (PQ.then_ (PQ.block (PQ.then_ (PQ.then_ (PQ.block (PQ.then_ PQ.body)))))) (O57).drew ?_
      have O63 : Own Z0 W w54.drew [.row (.slice (some ⟨g47, 0, none⟩) ts.length c48) 57 2 ts.length (vcells (setsOf ts)), .row (.slice (some ⟨g42, 0, none⟩) ts.length c43) 57 2 ts.length (vcells (setsOf ts))] := O57.drew
      refine wt1 (v := .slice (some ⟨g42, 0, none⟩) ts.length c43) rfl (fun ρ e W => ex_move (e _ _ rfl)) rfl rfl ?_
      refine wt1 (v := .int .i64 (i : Int)) rfl (fun ρ e W => ex_move (e _ _ rfl)) rfl rfl ?_
      refine wt1 (v := .pointer (some ⟨g42, i * 2, none⟩)) rfl (fun ρ e W => ex_idx (q := i * 2) (i := i) el53 (e _ _ rfl) (e _ _ rfl) (by omega) (by omega)) rfl rfl ?_
      refine wt0 (v := .agg #[.int .u64 (sv.a.toNat : Int), .int .u64 (sv.b.toNat : Int)]) rfl (fun ρ e W hW => ex_loadN (vs := [.int .u64 (sv.a.toNat : Int), .int .u64 (sv.b.toNat : Int)]) ty57 (e _ _ rfl) rfl (cells2 (rowcell (hW.row 1 rfl) (vcells_get hsv).1) (rowcell (hW.row 1 rfl) (vcells_get hsv).2))) rfl rfl ?_
      refine wt1 (v := .slice (some ⟨g47, 0, none⟩) ts.length c48) rfl (fun ρ e W => ex_move (e _ _ rfl)) rfl rfl ?_
      refine wt1 (v := .int .i64 (i : Int)) rfl (fun ρ e W => ex_move (e _ _ rfl)) rfl rfl ?_
      refine wt1 (v := .pointer (some ⟨g47, i * 2, none⟩)) rfl (fun ρ e W => ex_idx (q := i * 2) (i := i) el53 (e _ _ rfl) (e _ _ rfl) (by omega) (by omega)) rfl rfl ?_
      refine wt0 (v := .agg #[.int .u64 (sv.a.toNat : Int), .int .u64 (sv.b.toNat : Int)]) rfl (fun ρ e W hW => ex_loadN (vs := [.int .u64 (sv.a.toNat : Int), .int .u64 (sv.b.toNat : Int)]) ty57 (e _ _ rfl) rfl (cells2 (rowcell (hW.row 0 rfl) (vcells_get hsv).1) (rowcell (hW.row 0 rfl) (vcells_get hsv).2))) rfl rfl ?_
      refine wt1 (v := .bool false) rfl (fun ρ e W => ex_nesame57 (e _ _ rfl) (e _ _ rfl)) rfl rfl ?_
      refine wt_nil ?_
      refine xw_next K62 ?_
      refine cw_false rfl ?_
      refine cw_skip ?_
      refine xw_block ?_
      refine xw_next K60 ?_
      refine cw_region ?_
      refine wl_val (v := .int .i64 ((i + 1 : Nat) : Int)) (fun ρ e => ex_arith (k := .i64) (u := (i : Int)) (v := 1) (e _ _ rfl) (e _ _ rfl) (congrArg some ((congrArg _ (by omega)).trans (wrap_in (u := ((i + 1 : Nat) : Int)) (by omega) (by omega))))) rfl rfl ?_
      refine wl_val (v := .int .i64 ((i + 1 : Nat) : Int)) (fun ρ e => ex_move (e _ _ rfl)) rfl rfl ?_
      refine wl_nil ?_
      refine xw_round K56 (i + 1) (by show ts.length - (i + 1) < ts.length - i; omega) ⟨(by show i + 1 ≤ ts.length; omega), O63⟩ ⟨rfl, rfl, rfl, rfl, trivial⟩
    · skip
      refine cw_seq (fun FK64 K64 => ?_)
      refine cw_region ?_
      refine wl_val (v := .bool false) (fun ρ e => ex_cmp (u := (i : Int)) (v := ((ts.length : Nat) : Int)) (e _ _ rfl) (e _ _ rfl) (lss0 (by omega))) rfl rfl ?_
      refine wl_nil ?_
      refine xw_next K64 ?_
      refine cw_seq (fun FK65 K65 => ?_)
      refine cw_false rfl ?_
      refine cw_exit ?_
      refine xw_past (by intro h; cases h) ?_
      refine xw_past (by intro h; cases h) ?_
      refine xw_here ?_
      refine xw_next K51 ?_
      refine cw_seq (fun FK66 K66 => ?_)
      refine cw_region ?_
      refine wl_call (args := []) in_14 rfl rfl rfl ?_
      refine (works_ (tab.below (Nat.le_refl _) O57.old)).mono ?_
      rintro _ w67 ⟨rfl, hb68⟩
      have O69 : Own Z0 W w67 [.row (.slice (some ⟨g47, 0, none⟩) ts.length c48) 57 2 ts.length (vcells (setsOf ts)), .row (.slice (some ⟨g42, 0, none⟩) ts.length c43) 57 2 ts.length (vcells (setsOf ts))] := O57.below hb68
      refine ⟨_, rfl, ?_⟩
      refine wl_val (v := .bool true) (fun ρ e => ex_assign (e _ _ rfl)) rfl rfl ?_
      refine wl_nil ?_
      refine xw_next K66 ?_
      refine cw_ret ?_
      refine xw_ret (v := .bool true) (fun T hT => res1 rfl T _ (hT 2 _ rfl)) ?_
      exact ⟨rfl, O69.old⟩
theorem checks_no {W : World} {D : Nat → Prop} {V : Value} {ts : List VN} (hN : NodesD D W V ts) (hD : ∀ k, D k → k < W.heap.size) (tab : Tab W) (hok : okT ts = false) : Calls Tryd.prog 10 #[V] W fun e w' => e = .returned (.bool true) ∧ Below W.heap.size W w' := by
  obtain ⟨A, c, rfl⟩ := hN.slice
  have O0 : Own Z0 W W [] := Own.start W
  refine sx_enter (args := [.slice A ts.length c]) Tryd.func10 rfl rfl (by simp) ?_
  refine cw_seq (fun FK1 K1 => ?_)
  refine cw_region ?_
  refine wl_val (v := .bool false) (fun ρ e => ex_assign (e _ _ rfl)) rfl rfl ?_
  refine wl_nil ?_
  refine xw_next K1 ?_
  refine cw_seq (fun FK2 K2 => ?_)
  refine cw_seq (fun FK3 K3 => ?_)
  refine cw_region ?_
  refine wl_val (v := .slice A ts.length c) (fun ρ e => ex_move (e _ _ rfl)) rfl rfl ?_
  refine wl_val (v := .int .i64 ((ts.length : Nat) : Int)) (fun ρ e => ex_len el23 (e _ _ rfl)) rfl rfl ?_
  by_cases c4 : ((ts.length : Nat) : Int) > 300
  · skip
    refine wl_val (v := .bool true) (fun ρ e => ex_cmp (u := ((ts.length : Nat) : Int)) (v := 300) (e _ _ rfl) (e _ _ rfl) (gtr1 (by omega))) rfl rfl ?_
    refine wl_nil ?_
    refine xw_next K3 ?_
    refine cw_true rfl ?_
    refine cw_seq (fun FK5 K5 => ?_)
    refine cw_region ?_
    refine wl_call (args := []) in_14 rfl rfl rfl ?_
    refine (works_ (tab.below (Nat.le_refl _) O0.old)).mono ?_
    rintro _ w6 ⟨rfl, hb7⟩
    have O8 : Own Z0 W w6 [] := O0.below hb7
    refine ⟨_, rfl, ?_⟩
    refine wl_val (v := .bool true) (fun ρ e => ex_assign (e _ _ rfl)) rfl rfl ?_
    refine wl_nil ?_
    refine xw_next K5 ?_
    refine cw_ret ?_
    refine xw_past (by intro h; cases h) ?_
    refine xw_ret (v := .bool true) (fun T hT => res1 rfl T _ (hT 2 _ rfl)) ?_
    exact ⟨rfl, O8.old⟩
  · skip
    refine wl_val (v := .bool false) (fun ρ e => ex_cmp (u := ((ts.length : Nat) : Int)) (v := 300) (e _ _ rfl) (e _ _ rfl) (gtr0 (by omega))) rfl rfl ?_
    refine wl_nil ?_
    refine xw_next K3 ?_
    refine cw_false rfl ?_
    refine cw_skip ?_
    refine xw_next K2 ?_
    refine cw_seq (fun FK9 K9 => ?_)
    refine cw_region ?_
    refine wl_val (v := .slice A ts.length c) (fun ρ e => ex_move (e _ _ rfl)) rfl rfl ?_
    refine wl_call (args := [.slice A ts.length c]) in_39 rfl rfl rfl ?_
    refine (print_ (hN.move (fun k hk => (O0.old).block k (hD k hk))) (fun k hk => Nat.lt_of_lt_of_le (hD k hk) (O0.old).size) (tab.below (Nat.le_refl _) O0.old)).mono ?_
    rintro _ w10 ⟨rfl, hb11⟩
    have O12 : Own Z0 W w10 [] := O0.below hb11
    refine ⟨_, rfl, ?_⟩
    refine wl_val (v := .tuple #[.string (⟨(printOf ts).toArray⟩), .int .i64 (chkV ts)]) (fun ρ e => ex_move (e _ _ rfl)) rfl rfl ?_
    refine wl_val (v := .string (⟨(printOf ts).toArray⟩)) (fun ρ e => ex_extract (vs := #[.string (⟨(printOf ts).toArray⟩), .int .i64 (chkV ts)]) (e _ _ rfl) rfl) rfl rfl ?_
    refine wl_val (v := .int .i64 (chkV ts)) (fun ρ e => ex_extract (vs := #[.string (⟨(printOf ts).toArray⟩), .int .i64 (chkV ts)]) (e _ _ rfl) rfl) rfl rfl ?_
    refine wl_val (v := .string (⟨(printOf ts).toArray⟩)) (fun ρ e => ex_assign (e _ _ rfl)) rfl rfl ?_
    refine wl_val (v := .int .i64 (chkV ts)) (fun ρ e => ex_assign (e _ _ rfl)) rfl rfl ?_
    refine wl_nil ?_
    refine xw_next K9 ?_
    refine cw_seq (fun FK13 K13 => ?_)
    refine cw_region ?_
    refine wl_val (v := .slice A ts.length c) (fun ρ e => ex_move (e _ _ rfl)) rfl rfl ?_
    refine wl_call (args := [.slice A ts.length c]) in_40 rfl rfl rfl ?_
    refine (rprint_ (hN.move (fun k hk => (O12.old).block k (hD k hk))) (fun k hk => Nat.lt_of_lt_of_le (hD k hk) (O12.old).size) (by omega)).mono ?_
    rintro _ w14 ⟨rfl, hb15⟩
    have O16 : Own Z0 W w14 [] := O12.below hb15
    refine ⟨_, rfl, ?_⟩
    refine wl_val (v := .tuple #[.string (⟨(printOf ts).toArray⟩), .int .i64 (chkV ts)]) (fun ρ e => ex_move (e _ _ rfl)) rfl rfl ?_
    refine wl_val (v := .string (⟨(printOf ts).toArray⟩)) (fun ρ e => ex_extract (vs := #[.string (⟨(printOf ts).toArray⟩), .int .i64 (chkV ts)]) (e _ _ rfl) rfl) rfl rfl ?_
    refine wl_val (v := .int .i64 (chkV ts)) (fun ρ e => ex_extract (vs := #[.string (⟨(printOf ts).toArray⟩), .int .i64 (chkV ts)]) (e _ _ rfl) rfl) rfl rfl ?_
    refine wl_val (v := .string (⟨(printOf ts).toArray⟩)) (fun ρ e => ex_assign (e _ _ rfl)) rfl rfl ?_
    refine wl_val (v := .int .i64 (chkV ts)) (fun ρ e => ex_assign (e _ _ rfl)) rfl rfl ?_
    refine wl_nil ?_
    refine xw_next K13 ?_
    refine cw_seq (fun FK17 K17 => ?_)
    refine cw_seq (fun FK18 K18 => ?_)
    refine cw_region ?_
    refine wl_val (v := .slice A ts.length c) (fun ρ e => ex_move (e _ _ rfl)) rfl rfl ?_
    refine wl_call (args := [.slice A ts.length c]) in_23 rfl rfl rfl ?_
    refine (check_ (hN.move (fun k hk => (O16.old).block k (hD k hk))) (fun k hk => Nat.lt_of_lt_of_le (hD k hk) (O16.old).size)).mono ?_
    rintro _ w19 ⟨rfl, hb20⟩
    have O21 : Own Z0 W w19 [] := O16.below hb20
    refine ⟨_, rfl, ?_⟩
    refine wl_val (v := .slice A ts.length c) (fun ρ e => ex_move (e _ _ rfl)) rfl rfl ?_
    refine wl_call (args := [.slice A ts.length c]) in_41 rfl rfl rfl ?_
    refine (rcheck_ (hN.move (fun k hk => (O21.old).block k (hD k hk))) (fun k hk => Nat.lt_of_lt_of_le (hD k hk) (O21.old).size) (by omega)).mono ?_
    rintro _ w22 ⟨rfl, hb23⟩
    have O24 : Own Z0 W w22 [] := O21.below hb23
    refine ⟨_, rfl, ?_⟩
    refine wl_val (v := .bool false) (fun ρ e => ex_cmp (u := (chkV ts)) (v := (chkV ts)) (e _ _ rfl) (e _ _ rfl) (neq0 rfl)) rfl rfl ?_
    refine wl_val (v := .bool false) (fun ρ e => ex_move (e _ _ rfl)) rfl rfl ?_
    refine wl_val (v := .string (⟨(printOf ts).toArray⟩)) (fun ρ e => ex_move (e _ _ rfl)) rfl rfl ?_
    refine wl_val (v := .string (⟨(printOf ts).toArray⟩)) (fun ρ e => ex_move (e _ _ rfl)) rfl rfl ?_
    refine wl_val (v := .bool false) (fun ρ e => ex_neS (a := ⟨(printOf ts).toArray⟩) (b := ⟨(printOf ts).toArray⟩) (e _ _ rfl) (e _ _ rfl) (by rw [decide_eq_true rfl]; rfl)) rfl rfl ?_
    refine wl_val (v := .bool false) (fun ρ e => ex_pick0 (e _ _ rfl) (e _ _ rfl)) rfl rfl ?_
    refine wl_val (v := .bool false) (fun ρ e => ex_move (e _ _ rfl)) rfl rfl ?_
    refine wl_val (v := .int .i64 (chkV ts)) (fun ρ e => ex_move (e _ _ rfl)) rfl rfl ?_
    refine wl_val (v := .int .i64 (chkV ts)) (fun ρ e => ex_move (e _ _ rfl)) rfl rfl ?_
    refine wl_val (v := .bool false) (fun ρ e => ex_cmp (u := (chkV ts)) (v := (chkV ts)) (e _ _ rfl) (e _ _ rfl) (neq0 rfl)) rfl rfl ?_
    refine wl_val (v := .bool false) (fun ρ e => ex_pick0 (e _ _ rfl) (e _ _ rfl)) rfl rfl ?_
    refine wl_val (v := .bool false) (fun ρ e => ex_move (e _ _ rfl)) rfl rfl ?_
    refine wl_val (v := .slice A ts.length c) (fun ρ e => ex_move (e _ _ rfl)) rfl rfl ?_
    refine wl_call (args := [.slice A ts.length c]) in_31 rfl rfl rfl ?_
    refine (parents_no (hN.move (fun k hk => (O24.old).block k (hD k hk))) (fun k hk => Nat.lt_of_lt_of_le (hD k hk) (O24.old).size) hok).mono ?_
    rintro _ w25 ⟨rfl, hb26⟩
    have O27 : Own Z0 W w25 [] := O24.below hb26
    refine ⟨_, rfl, ?_⟩
    refine wl_val (v := .slice A ts.length c) (fun ρ e => ex_move (e _ _ rfl)) rfl rfl ?_
    refine wl_call (args := [.slice A ts.length c]) in_43 rfl rfl rfl ?_
    refine (rparents_no (hN.move (fun k hk => (O27.old).block k (hD k hk))) (fun k hk => Nat.lt_of_lt_of_le (hD k hk) (O27.old).size) (by omega) hok).mono ?_
    rintro _ w28 ⟨rfl, hb29⟩
    have O30 : Own Z0 W w28 [] := O27.below hb29
    refine ⟨_, rfl, ?_⟩
    refine wl_call (args := [.slice none 0 0, .slice none 0 0]) in_42 rfl rfl rfl ?_
    refine (sameints_ (IntsD.nil (fun _ => False) _) (fun _ h => h.elim) (IntsD.nil (fun _ => False) _) (fun _ h => h.elim) (by decide)).mono ?_
    rintro _ w31 ⟨rfl, hb32⟩
    have O33 : Own Z0 W w31 [] := O30.below hb32
    refine ⟨_, rfl, ?_⟩
    refine wl_val (v := .bool false) (fun ρ e => ex_lnot (b := true) (e _ _ rfl)) rfl rfl ?_
    refine wl_val (v := .bool false) (fun ρ e => ex_pick0 (e _ _ rfl) (e _ _ rfl)) rfl rfl ?_
    refine wl_nil ?_
    refine xw_next K18 ?_
    refine cw_false rfl ?_
    refine cw_skip ?_
    refine xw_next K17 ?_
    refine cw_seq (fun FK34 K34 => ?_)
    refine cw_region ?_
    refine wl_val (v := .slice A ts.length c) (fun ρ e => ex_move (e _ _ rfl)) rfl rfl ?_
    refine wl_call (args := [.slice A ts.length c]) in_44 rfl rfl rfl ?_
    refine (vvars_no (hN.move (fun k hk => (O33.old).block k (hD k hk))) (fun k hk => Nat.lt_of_lt_of_le (hD k hk) (O33.old).size) hok).mono ?_
    rintro _ w35 ⟨rfl, hb36⟩
    have O37 : Own Z0 W w35 [] := O33.below hb36
    refine ⟨_, rfl, ?_⟩
    refine wl_val (v := .slice A ts.length c) (fun ρ e => ex_move (e _ _ rfl)) rfl rfl ?_
    refine wl_call (args := [.slice A ts.length c]) in_45 rfl rfl rfl ?_
    refine (rvars_no (hN.move (fun k hk => (O37.old).block k (hD k hk))) (fun k hk => Nat.lt_of_lt_of_le (hD k hk) (O37.old).size) (by omega) hok).mono ?_
    rintro _ w38 ⟨rfl, hb39⟩
    have O40 : Own Z0 W w38 [] := O37.below hb39
    refine ⟨_, rfl, ?_⟩
    refine wl_val (v := .slice none 0 0) (fun ρ e => ex_assign (e _ _ rfl)) rfl rfl ?_
    refine wl_val (v := .slice none 0 0) (fun ρ e => ex_assign (e _ _ rfl)) rfl rfl ?_
    refine wl_nil ?_
    refine xw_next K34 ?_
    refine cw_seq (fun FK41 K41 => ?_)
    refine cw_seq (fun FK42 K42 => ?_)
    refine cw_region ?_
    refine wl_val (v := .slice none 0 0) (fun ρ e => ex_move (e _ _ rfl)) rfl rfl ?_
    refine wl_val (v := .int .i64 (0 : Int)) (fun ρ e => ex_len el53 (e _ _ rfl)) rfl rfl ?_
    refine wl_val (v := .slice none 0 0) (fun ρ e => ex_move (e _ _ rfl)) rfl rfl ?_
    refine wl_val (v := .int .i64 (0 : Int)) (fun ρ e => ex_len el53 (e _ _ rfl)) rfl rfl ?_
    refine wl_val (v := .bool false) (fun ρ e => ex_cmp (u := (0 : Int)) (v := (0 : Int)) (e _ _ rfl) (e _ _ rfl) (neq0 rfl)) rfl rfl ?_
    refine wl_nil ?_
    refine xw_next K42 ?_
    refine cw_false rfl ?_
    refine cw_skip ?_
    refine xw_next K41 ?_
    refine cw_seq (fun FK43 K43 => ?_)
    refine cw_seq (fun FK44 K44 => ?_)
    refine cw_region ?_
    refine wl_val (v := .slice none 0 0) (fun ρ e => ex_move (e _ _ rfl)) rfl rfl ?_
    refine wl_val (v := .int .i64 (0 : Int)) (fun ρ e => ex_len el53 (e _ _ rfl)) rfl rfl ?_
    refine wl_val (v := .int .i64 0) (fun ρ e => ex_move (e _ _ rfl)) rfl rfl ?_
    refine wl_nil ?_
    refine xw_next K44 ?_
    refine cw_block ?_
    have O45 : Own Z0 W w38 [] := O40
    refine cw_loop (ι := Nat) (fun q => [(7, .slice none 0 0), (8, .slice none 0 0), (57, .int .i64 (0 : Int)), (58, .int .i64 (q : Int))]) (fun q X => (q ≤ 0) ∧ Own Z0 W X []) (fun q => 0 - q) 0 ⟨Nat.zero_le _, O45⟩ ⟨rfl, rfl, rfl, rfl, trivial⟩ (fun q w46 hJ F47 K48 => ?_)
    obtain ⟨i, rfl⟩ : ∃ x, x = q := ⟨_, rfl⟩
    obtain ⟨hi0, O49⟩ := hJ
    try dsimp only at hi0 O49 ⊢
    obtain rfl : i = 0 := by omega
    refine cw_seq (fun FK50 K50 => ?_)
    refine cw_region ?_
    refine wl_val (v := .bool false) (fun ρ e => ex_cmp (u := ((0 : Nat) : Int)) (v := (0 : Int)) (e _ _ rfl) (e _ _ rfl) (lss0 (by omega))) rfl rfl ?_
    refine wl_nil ?_
    refine xw_next K50 ?_
    refine cw_seq (fun FK51 K51 => ?_)
    refine cw_false rfl ?_
    refine cw_exit ?_
    refine xw_past (by intro h; cases h) ?_
    refine xw_past (by intro h; cases h) ?_
    refine xw_here ?_
    refine xw_next K43 ?_
    refine cw_seq (fun FK52 K52 => ?_)
    refine cw_region ?_
    refine wl_call (args := []) in_14 rfl rfl rfl ?_
    refine (works_ (tab.below (Nat.le_refl _) O49.old)).mono ?_
    rintro _ w53 ⟨rfl, hb54⟩
    have O55 : Own Z0 W w53 [] := O49.below hb54
    refine ⟨_, rfl, ?_⟩
    refine wl_val (v := .bool true) (fun ρ e => ex_assign (e _ _ rfl)) rfl rfl ?_
    refine wl_nil ?_
    refine xw_next K52 ?_
    refine cw_ret ?_
    refine xw_ret (v := .bool true) (fun T hT => res1 rfl T _ (hT 2 _ rfl)) ?_
    exact ⟨rfl, O55.old⟩
theorem vtreeChecks_ok {W : World} {D : Nat → Prop} {V : Value} {ts : List VN} (hN : NodesD D W V ts) (hD : ∀ k, D k → k < W.heap.size) (tab : Tab W) : Calls Tryd.prog 10 #[V] W fun e w' => e = .returned (.bool true) ∧ Below W.heap.size W w' := by
  cases hok : okT ts with
  | false => exact checks_no hN hD tab hok
  | true =>
    obtain ⟨b, o, c, rfl, _⟩ := hN.form (okT_val hok).pos
    exact checks_ok hN hD tab hok

end Go.Proofs.YtpeoodkepjhhiaaDoor
