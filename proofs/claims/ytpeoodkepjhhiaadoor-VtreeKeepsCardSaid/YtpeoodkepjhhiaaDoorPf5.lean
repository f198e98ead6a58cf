/-
  Lemmas and contracts, joined: Vgrow Vopen2 Vleaves Vch Vdp Vgt2 Vrchk Vrpar Vvs Vvars Vkp Vmapk.
-/
import Derived.Test.YtpeoodkepjhhiaaDoorPf4
import Derived.Test.YtpeoodkepjhhiaaDoorPf1
import Derived.Test.YtpeoodkepjhhiaaDoorPf2
namespace Go.Proofs.YtpeoodkepjhhiaaDoor
open Go Go.RowKit
/-- A slice of bytes, in the blocks of D. -/
def BytesD (D : Nat → Prop) (w : World) (v : Value) (bs : List Nat) : Prop :=
  ∃ A c, v = .slice A bs.length c ∧ bs.length ≤ c ∧ c ≤ maxLen ∧ (0 < bs.length → ∃ b o, D b ∧ A = some ⟨b, o, none⟩ ∧ ∀ (i x : Nat), bs[i]? = some x → w.cell? ⟨b, o + i, none⟩ = some (.int .u8 (x : Int)) ∧ x ≤ 255)
section
variable {D D' : Nat → Prop} {w w' : World} {v : Value} {bs : List Nat}
theorem BytesD.move (h : BytesD D w v bs) (hk : ∀ k, D k → w'.heap[k]? = w.heap[k]?) : BytesD D w' v bs := by
  obtain ⟨A, c, h1, h2, h3, h4⟩ := h
  refine ⟨A, c, h1, h2, h3, fun hp => ?_⟩
  obtain ⟨b, o, hb, hA, hc⟩ := h4 hp
  exact ⟨b, o, hb, hA, fun i x hx => ⟨(cell_move (hk b hb)).trans (hc i x hx).1, (hc i x hx).2⟩⟩
theorem BytesD.slice (h : BytesD D w v bs) : ∃ A c, v = .slice A bs.length c := by
  obtain ⟨A, c', hv, _⟩ := h
  exact ⟨A, c', hv⟩
theorem BytesD.form (h : BytesD D w v bs) (hp : 0 < bs.length) : ∃ b o c, v = .slice (some ⟨b, o, none⟩) bs.length c := by
  obtain ⟨A, c, h1, h2, h3, h4⟩ := h
  obtain ⟨b, o, hb, hA, hc⟩ := h4 hp
  exact ⟨b, o, c, by rw [h1, hA]⟩
theorem BytesD.cell {b o n c : Nat} (h : BytesD D w (.slice (some ⟨b, o, none⟩) n c) bs) {i x : Nat} (hx : bs[i]? = some x) : w.cell? ⟨b, o + i, none⟩ = some (.int .u8 (x : Int)) ∧ x ≤ 255 := by
  obtain ⟨A, c, h1, h2, h3, h4⟩ := h
  obtain ⟨b', o', hb, hA, hc⟩ := h4 (by have := (List.getElem?_eq_some_iff.1 hx).1; omega)
  injection h1 with h1 _ _
  subst hA
  injection h1 with h1
  injection h1 with h1 h5
  subst h1 h5
  exact hc i x hx
def bytesE (D : Nat → Prop) (v : Value) (bs : List Nat) : En := .ro D (fun w => BytesD D w v bs)
theorem bytesE_holds (h : BytesD D w v bs) (hD : ∀ k, D k → k < w.heap.size) : (bytesE D v bs).holds w := ⟨h, hD, fun _ _ _ hk h => h.move hk⟩
end
section
variable {ρ : Operand → Value} {d : Option Tmp} {x y : Operand} {t T1 : TypeId} {pos : String} {aft : Array Edge} {gd : Option (Nat × Bool)} {w : World}
theorem ex_conv8 {a : Nat} (hx : ρ x = .int .u8 (a : Int)) (h : a ≤ 255) : (execOp ρ ⟨d, .convert 5 3 x, t, pos, aft, gd⟩).run Tryd.prog w = .ok (.value (.int .i64 (a : Int))) w := by
  have e : IntKind.i64.wrap (a : Int) = (a : Int) := wrap_in (by omega) (by omega)
  simp [go_sem, hx, e]
theorem ex_remg {a b q : Nat} (hx : ρ x = .int .i64 (a : Int)) (hy : ρ y = .int .i64 (b : Int)) (h : 0 < b) (hq : a % b = q) : (execOp ρ ⟨d, .binOp .rem 3 x y T1, t, pos, aft, gd⟩).run Tryd.prog w = .ok (.value (.int .i64 ((q : Nat) : Int))) w := by
  subst hq
  have e2 : (a : Int).tmod (b : Int) = ((a % b : Nat) : Int) := by simp [Int.tmod_eq_emod_of_nonneg]
  have hb : ¬ b = 0 := by omega
  simp [go_sem, hx, hy, e2, hb]
theorem ex_rem8 {a b q : Nat} (hx : ρ x = .int .u8 (a : Int)) (hy : ρ y = .int .u8 (b : Int)) (h : 0 < b) (hq : a % b = q) : (execOp ρ ⟨d, .binOp .rem 5 x y T1, t, pos, aft, gd⟩).run Tryd.prog w = .ok (.value (.int .u8 ((q : Nat) : Int))) w := by
  subst hq
  have e2 : (a : Int).tmod (b : Int) = ((a % b : Nat) : Int) := by simp [Int.tmod_eq_emod_of_nonneg]
  have hb : ¬ b = 0 := by omega
  simp [go_sem, hx, hy, e2, hb]
end
theorem next_ {Z : Bool → Nat → Prop} {w0 W : World} {tb lb : Nat} {D : Nat → Prop} {V : Value} {bs : List Nat} {a : Nat} (O0 : Own Z w0 W [.blk tb 3 #[.int .i64 (a : Int)], .blk lb 32 #[V], .ro D (fun w => BytesD D w V bs)]) (ha : a ≤ 100000) (hbs : bs.length ≤ 100000) :
    Calls Tryd.prog 51 #[.pointer (some ⟨tb, 0, none⟩), .pointer (some ⟨lb, 0, none⟩)] W fun e w' => ∃ r : Nat, r ≤ a + 256 ∧ e = .returned (.int .i64 (r : Int)) ∧ Own Z w0 w' [.blk tb 3 #[.int .i64 ((a + 1 : Nat) : Int)], .blk lb 32 #[V], .ro D (fun w => BytesD D w V bs)] := by
  have hB : BytesD D W V bs := O0.ro 2 rfl
  rcases Nat.eq_zero_or_pos bs.length with h0 | h0
  · obtain ⟨A, cl, rfl⟩ := hB.slice
    refine sx_enter (args := [.pointer (some ⟨tb, 0, none⟩), .pointer (some ⟨lb, 0, none⟩)]) Tryd.func51 rfl rfl (by simp) ?_
    refine cw_seq (fun FK1 K1 => ?_)
    refine cw_region ?_
    refine wl_val (v := .int .i64 0) (fun ρ e => ex_assign (e _ _ rfl)) rfl rfl ?_
    refine wl_nil ?_
    refine xw_next K1 ?_
    refine cw_seq (fun FK2 K2 => ?_)
    refine cw_region ?_
    refine wl_val (v := .int .i64 (a : Int)) (fun ρ e => ex_load1 ty3 (e _ _ rfl) (O0.cell 0 0 rfl rfl)) rfl rfl ?_
    refine wl_val (v := .int .i64 ((a + 1 : Nat) : Int)) (fun ρ e => ex_arith (k := .i64) (u := (a : Int)) (v := 1) (e _ _ rfl) (e _ _ rfl) (congrArg some ((congrArg _ (show _ = ((a + 1 : Nat) : Int) by omega)).trans (wrap_in (by omega) (by omega))))) rfl rfl ?_
    obtain ⟨w3, r4, O5, hs6⟩ := own_put (o := 0) (n := 1) O0 ty3 (.int .i64 ((a + 1 : Nat) : Int)) [.int .i64 ((a + 1 : Nat) : Int)] (cs' := #[.int .i64 ((a + 1 : Nat) : Int)]) rfl rfl rfl (Nat.le_of_ble_eq_true rfl) rfl
    refine wl_none (fun ρ e => r4 ρ _ _ _ _ _ _ (e _ _ rfl) (e _ _ rfl)) rfl ?_
    refine wl_nil ?_
    refine xw_next K2 ?_
    refine cw_seq (fun FK7 K7 => ?_)
    refine cw_seq (fun FK8 K8 => ?_)
    refine cw_region ?_
    refine wl_val (v := .slice A bs.length cl) (fun ρ e => ex_load1 ty32 (e _ _ rfl) (O5.cell 1 0 rfl rfl)) rfl rfl ?_
    refine wl_val (v := .int .i64 ((bs.length : Nat) : Int)) (fun ρ e => ex_len el32 (e _ _ rfl)) rfl rfl ?_
    refine wl_val (v := .bool true) (fun ρ e => ex_cmp (u := ((bs.length : Nat) : Int)) (v := 0) (e _ _ rfl) (e _ _ rfl) (eql1 (by omega))) rfl rfl ?_
    refine wl_nil ?_
    refine xw_next K8 ?_
    refine cw_true rfl ?_
    refine cw_seq (fun FK9 K9 => ?_)
    refine cw_region ?_
    refine wl_val (v := .int .i64 ((a + 1 : Nat) : Int)) (fun ρ e => ex_load1 ty3 (e _ _ rfl) (O5.cell 0 0 rfl rfl)) rfl rfl ?_
    refine wl_val (v := .int .i64 ((a + 1 : Nat) : Int)) (fun ρ e => ex_assign (e _ _ rfl)) rfl rfl ?_
    refine wl_nil ?_
    refine xw_next K9 ?_
    refine cw_ret ?_
    refine xw_past (by intro h; cases h) ?_
    refine xw_ret (v := .int .i64 ((a + 1 : Nat) : Int)) (fun T hT => res1 rfl T _ (hT 2 _ rfl)) ?_
    exact ⟨a + 1, by omega, rfl, O5⟩
  · obtain ⟨bl, ol, cl, rfl⟩ := hB.form h0
    refine sx_enter (args := [.pointer (some ⟨tb, 0, none⟩), .pointer (some ⟨lb, 0, none⟩)]) Tryd.func51 rfl rfl (by simp) ?_
    refine cw_seq (fun FK1 K1 => ?_)
    refine cw_region ?_
    refine wl_val (v := .int .i64 0) (fun ρ e => ex_assign (e _ _ rfl)) rfl rfl ?_
    refine wl_nil ?_
    refine xw_next K1 ?_
    refine cw_seq (fun FK2 K2 => ?_)
    refine cw_region ?_
    refine wl_val (v := .int .i64 (a : Int)) (fun ρ e => ex_load1 ty3 (e _ _ rfl) (O0.cell 0 0 rfl rfl)) rfl rfl ?_
    refine wl_val (v := .int .i64 ((a + 1 : Nat) : Int)) (fun ρ e => ex_arith (k := .i64) (u := (a : Int)) (v := 1) (e _ _ rfl) (e _ _ rfl) (congrArg some ((congrArg _ (show _ = ((a + 1 : Nat) : Int) by omega)).trans (wrap_in (by omega) (by omega))))) rfl rfl ?_
    obtain ⟨w3, r4, O5, hs6⟩ := own_put (o := 0) (n := 1) O0 ty3 (.int .i64 ((a + 1 : Nat) : Int)) [.int .i64 ((a + 1 : Nat) : Int)] (cs' := #[.int .i64 ((a + 1 : Nat) : Int)]) rfl rfl rfl (Nat.le_of_ble_eq_true rfl) rfl
    refine wl_none (fun ρ e => r4 ρ _ _ _ _ _ _ (e _ _ rfl) (e _ _ rfl)) rfl ?_
    refine wl_nil ?_
    refine xw_next K2 ?_
    refine cw_seq (fun FK7 K7 => ?_)
    refine cw_seq (fun FK8 K8 => ?_)
    refine cw_region ?_
    refine wl_val (v := .slice (some ⟨bl, ol, none⟩) bs.length cl) (fun ρ e => ex_load1 ty32 (e _ _ rfl) (O5.cell 1 0 rfl rfl)) rfl rfl ?_
    refine wl_val (v := .int .i64 ((bs.length : Nat) : Int)) (fun ρ e => ex_len el32 (e _ _ rfl)) rfl rfl ?_
    refine wl_val (v := .bool false) (fun ρ e => ex_cmp (u := ((bs.length : Nat) : Int)) (v := 0) (e _ _ rfl) (e _ _ rfl) (eql0 (by omega))) rfl rfl ?_
    refine wl_nil ?_
    refine xw_next K8 ?_
    refine cw_false rfl ?_
    refine cw_skip ?_
    refine xw_next K7 ?_
    refine cw_seq (fun FK9 K9 => ?_)
    refine cw_drawn (fun X => Own Z w0 X [.blk tb 3 #[.int .i64 ((a + 1 : Nat) : Int)], .blk lb 32 #[.slice (some ⟨bl, ol, none⟩) bs.length cl], .ro D (fun w => BytesD D w (.slice (some ⟨bl, ol, none⟩) bs.length cl) bs)]) 10 [(0, 0), (1, 0), (2, 0), (3, 1), (4, 1), (5, 1), (6, 0), (7, 1), (8, 0), (9, 1), (10, 3)] (by kernel_rfl) (by kernel_rfl) (PQ.then_ PQ.body) (O5).drew ?_
    have O10 : Own Z w0 w3.drew [.blk tb 3 #[.int .i64 ((a + 1 : Nat) : Int)], .blk lb 32 #[.slice (some ⟨bl, ol, none⟩) bs.length cl], .ro D (fun w => BytesD D w (.slice (some ⟨bl, ol, none⟩) bs.length cl) bs)] := O5.drew
    refine wt0 (v := .slice (some ⟨bl, ol, none⟩) bs.length cl) rfl (fun ρ e W hW => ex_load1 ty32 (e _ _ rfl) (hW.cell 1 0 rfl rfl)) rfl rfl ?_
    refine wt0 (v := .int .i64 ((a + 1 : Nat) : Int)) rfl (fun ρ e W hW => ex_load1 ty3 (e _ _ rfl) (hW.cell 0 0 rfl rfl)) rfl rfl ?_
    refine wt0 (v := .slice (some ⟨bl, ol, none⟩) bs.length cl) rfl (fun ρ e W hW => ex_load1 ty32 (e _ _ rfl) (hW.cell 1 0 rfl rfl)) rfl rfl ?_
    refine wt1 (v := .int .i64 ((bs.length : Nat) : Int)) rfl (fun ρ e W => ex_len el32 (e _ _ rfl)) rfl rfl ?_
    obtain ⟨k11, hk11, lk11⟩ : ∃ q, (a + 1) % bs.length = q ∧ q < bs.length := ⟨_, rfl, Nat.mod_lt _ (by omega)⟩
    refine wt1 (v := .int .i64 (k11 : Int)) rfl (fun ρ e W => ex_remg (a := a + 1) (b := bs.length) (e _ _ rfl) (e _ _ rfl) (by omega) hk11) rfl rfl ?_
    obtain ⟨bv, hbv⟩ : ∃ v, bs[k11]? = some v := ⟨bs[k11], List.getElem?_eq_getElem lk11⟩
    have h255 := (BytesD.cell ((O10.ro 2 rfl) : BytesD _ _ (.slice (some ⟨bl, ol, none⟩) bs.length cl) bs) hbv).2
    refine wt1 (v := .pointer (some ⟨bl, ol + k11, none⟩)) rfl (fun ρ e W => ex_idx (q := ol + k11) (i := k11) el32 (e _ _ rfl) (e _ _ rfl) lk11 (by omega)) rfl rfl ?_
    refine wt0 (v := .int .u8 (bv : Int)) rfl (fun ρ e W hW => ex_load1 ty5 (e _ _ rfl) (BytesD.cell ((hW.ro 2 rfl) : BytesD _ _ (.slice (some ⟨bl, ol, none⟩) bs.length cl) bs) hbv).1) rfl rfl ?_
    refine wt1 (v := .int .i64 (bv : Int)) rfl (fun ρ e W => ex_conv8 (e _ _ rfl) h255) rfl rfl ?_
    refine wt0 (v := .int .i64 ((a + 1 : Nat) : Int)) rfl (fun ρ e W hW => ex_load1 ty3 (e _ _ rfl) (hW.cell 0 0 rfl rfl)) rfl rfl ?_
    refine wt1 (v := .int .i64 ((bv + a + 1 : Nat) : Int)) rfl (fun ρ e W => ex_arith (k := .i64) (u := (bv : Int)) (v := ((a + 1 : Nat) : Int)) (e _ _ rfl) (e _ _ rfl) (congrArg some ((congrArg _ (show _ = ((bv + a + 1 : Nat) : Int) by omega)).trans (wrap_in (by omega) (by omega))))) rfl rfl ?_
    refine wt3 (v := .int .i64 ((bv + a + 1 : Nat) : Int)) rfl (fun ρ e => ex_assign (e _ _ rfl)) rfl rfl ?_
    refine wt_nil ?_
    refine xw_next K9 ?_
    refine cw_ret ?_
    refine xw_ret (v := .int .i64 ((bv + a + 1 : Nat) : Int)) (fun T hT => res1 rfl T _ (hT 2 _ rfl)) ?_
    exact ⟨bv + a + 1, by omega, rfl, O10⟩
theorem take_one {L : List Int} {s : Nat} {v : Int} (h : L[s]? = some v) : (L.drop s).take 1 = [v] := by
  have e : (L.drop s)[0]? = some v := by rw [List.getElem?_drop, Nat.add_zero]; exact h
  cases hd : L.drop s with
  | nil => rw [hd] at e; simp at e
  | cons a r => rw [hd] at e; simp at e; simp [e]
theorem take_cut {L : List Int} {s k m : Nat} (h : k ≤ m) : (L.drop s).take k ++ (L.drop (s + k)).take (m - k) = (L.drop s).take m := by
  rw [← List.drop_drop]
  have e := List.take_append_drop k ((L.drop s).take m)
  rw [List.take_take, Nat.min_eq_left h, List.drop_take] at e
  exact e
theorem gpart_ {L0 : List Int} {D : Nat → Prop} {V : Value} {bs : List Nat} {tb lb nb pb ob vb : Nat} (hbs : bs.length ≤ 100000) :
    ∀ (k s m cc : Nat), s + m ≤ L0.length → 1 ≤ m → m ≤ k → m ≤ cc → ∀ (Z : Bool → Nat → Prop) (w0 W : World) (A : Option Addr) (n c : Nat) (l : List VN) (a : Nat), Own Z w0 W [.blk tb 3 #[.int .i64 (a : Int)], .blk lb 32 #[V], .blk nb 68 #[.func (.func 51) #[] #[.pointer (some ⟨tb, 0, none⟩), .pointer (some ⟨lb, 0, none⟩)]], .blk pb 69 #[.func (.func 52) #[] #[.pointer (some ⟨nb, 0, none⟩), .pointer (some ⟨pb, 0, none⟩), .pointer (some ⟨ob, 0, none⟩)]], .blk ob 23 #[.slice A n c], .row (.slice A n c) 38 3 n (ncells l), .blk vb 3 ((intCs L0).toArray), .ro D (fun w => BytesD D w (V) bs)] → n + 2 * m ≤ 100000 → a + m ≤ 100000 →
    Calls Tryd.prog 52 #[.slice (some ⟨vb, s, none⟩) m cc, .pointer (some ⟨nb, 0, none⟩), .pointer (some ⟨pb, 0, none⟩), .pointer (some ⟨ob, 0, none⟩)] W fun e w' => ∃ T A' c', T.leaves = (L0.drop s).take m ∧ T.size = 2 * m - 1 ∧ e = .returned (.int .i64 ((n + (2 * m - 1) - 1 : Nat) : Int)) ∧ Own Z w0 w' [.blk tb 3 #[.int .i64 ((a + (m - 1) : Nat) : Int)], .blk lb 32 #[V], .blk nb 68 #[.func (.func 51) #[] #[.pointer (some ⟨tb, 0, none⟩), .pointer (some ⟨lb, 0, none⟩)]], .blk pb 69 #[.func (.func 52) #[] #[.pointer (some ⟨nb, 0, none⟩), .pointer (some ⟨pb, 0, none⟩), .pointer (some ⟨ob, 0, none⟩)]], .blk ob 23 #[.slice A' (n + (2 * m - 1)) c'], .row (.slice A' (n + (2 * m - 1)) c') 38 3 (n + (2 * m - 1)) (ncells (l ++ post T n)), .blk vb 3 ((intCs L0).toArray), .ro D (fun w => BytesD D w (V) bs)]
  | 0, s, m, cc, _, h1, h2, _ => absurd h1 (by omega)
  | k + 1, s, m, cc, hsm, hm1, hmk, hmc => fun Z w0 W A n c l a O0 hlim halim => by
    have IH := gpart_ (L0 := L0) (D := D) (V := V) (bs := bs) (tb := tb) (lb := lb) (nb := nb) (pb := pb) (ob := ob) (vb := vb) hbs k
    obtain ⟨v0, hv0⟩ : ∃ v, L0[s]? = some v := ⟨L0[s], List.getElem?_eq_getElem (by omega)⟩
    by_cases h1 : m = 1
    · skip
      refine sx_enter (args := [.slice (some ⟨vb, s, none⟩) m cc, .pointer (some ⟨nb, 0, none⟩), .pointer (some ⟨pb, 0, none⟩), .pointer (some ⟨ob, 0, none⟩)]) Tryd.func52 rfl rfl (by simp) ?_
      refine cw_seq (fun FK1 K1 => ?_)
      refine cw_region ?_
      refine wl_val (v := .int .i64 0) (fun ρ e => ex_assign (e _ _ rfl)) rfl rfl ?_
      refine wl_nil ?_
      refine xw_next K1 ?_
      refine cw_seq (fun FK2 K2 => ?_)
      refine cw_region ?_
      refine wl_val (v := .slice (some ⟨vb, s, none⟩) m cc) (fun ρ e => ex_move (e _ _ rfl)) rfl rfl ?_
      refine wl_val (v := .pointer (some ⟨vb, s, none⟩)) (fun ρ e => ex_idx (q := s) (i := 0) el36 (e _ _ rfl) (e _ _ rfl) (by omega) (by omega)) rfl rfl ?_
      refine wl_val (v := .int .i64 v0) (fun ρ e => ex_load1 ty3 (e _ _ rfl) (((O0.blk 6 rfl).cell _).trans (getI hv0))) rfl rfl ?_
      refine wl_val (v := .agg #[.int .i64 (-1), .int .i64 (-1), .int .i64 v0]) (fun ρ e => ex_build (cells := #[.int .i64 (-1), .int .i64 (-1), .int .i64 v0]) st38 (e.parts rfl) rfl) rfl rfl ?_
      obtain ⟨g3, w4, r5, O6, hg7, hs8⟩ := own_alloc O0 38 ze38 rfl
      refine wl_val (v := .pointer (some ⟨g3, 0, none⟩)) (fun ρ e => r5 ρ _ _ _ _ _) rfl rfl ?_
      obtain ⟨w9, r10, O11, hs12⟩ := own_put (o := 0) (n := 3) O6 ty38 (.agg #[.int .i64 (-1), .int .i64 (-1), .int .i64 v0]) [.int .i64 (-1), .int .i64 (-1), .int .i64 v0] (cs' := #[.int .i64 (-1), .int .i64 (-1), .int .i64 v0]) rfl rfl rfl (Nat.le_of_ble_eq_true rfl) rfl
      refine wl_none (fun ρ e => r10 ρ _ _ _ _ _ _ (e _ _ rfl) (e _ _ rfl)) rfl ?_
      refine wl_nil ?_
      refine xw_next K2 ?_
      refine cw_seq (fun FK13 K13 => ?_)
      refine cw_seq (fun FK14 K14 => ?_)
      refine cw_region ?_
      refine wl_val (v := .slice (some ⟨vb, s, none⟩) m cc) (fun ρ e => ex_move (e _ _ rfl)) rfl rfl ?_
      refine wl_val (v := .int .i64 (m : Int)) (fun ρ e => ex_len el36 (e _ _ rfl)) rfl rfl ?_
      refine wl_val (v := .bool false) (fun ρ e => ex_cmp (u := (m : Int)) (v := 1) (e _ _ rfl) (e _ _ rfl) (gtr0 (by omega))) rfl rfl ?_
      refine wl_nil ?_
      refine xw_next K14 ?_
      refine cw_false rfl ?_
      refine cw_skip ?_
      refine xw_next K13 ?_
      refine cw_seq (fun FK15 K15 => ?_)
      refine cw_region ?_
      refine wl_val (v := .slice A n c) (fun ρ e => ex_load1 ty23 (e _ _ rfl) (O11.cell 5 0 rfl rfl)) rfl rfl ?_
      refine wl_val (v := .agg #[.int .i64 (-1), .int .i64 (-1), .int .i64 v0]) (fun ρ e => ex_loadN (vs := [.int .i64 (-1), .int .i64 (-1), .int .i64 v0]) ty38 (e _ _ rfl) rfl (O11.cells 0 0 rfl rfl)) rfl rfl ?_
      obtain ⟨g16, w17, r18, O19, hg20, hs21⟩ := own_slice O11 el23 ze38 1 [(0, .agg #[.int .i64 (-1), .int .i64 (-1), .int .i64 v0])] (cs := #[.int .i64 (-1), .int .i64 (-1), .int .i64 v0]) (by decide) (by kernel_rfl)
      refine wl_val (v := .slice (some ⟨g16, 0, none⟩) 1 1) (fun ρ e => r18 ρ _ _ _ _ _ _ (e.parts rfl)) rfl rfl ?_
      obtain ⟨A22, c23, w24, r25, O26, hz27, hc28⟩ := own_app1 (O19.re [7, 0, 1, 2, 3, 4, 5, 6, 8, 9] rfl : Own Z w0 w17 [.row (.slice A n c) 38 3 n (ncells l), .blk g16 38 #[.int .i64 (-1), .int .i64 (-1), .int .i64 v0], .blk g3 38 #[.int .i64 (-1), .int .i64 (-1), .int .i64 v0], .blk tb 3 #[.int .i64 (a : Int)], .blk lb 32 #[V], .blk nb 68 #[.func (.func 51) #[] #[.pointer (some ⟨tb, 0, none⟩), .pointer (some ⟨lb, 0, none⟩)]], .blk pb 69 #[.func (.func 52) #[] #[.pointer (some ⟨nb, 0, none⟩), .pointer (some ⟨pb, 0, none⟩), .pointer (some ⟨ob, 0, none⟩)]], .blk ob 23 #[.slice A n c], .blk vb 3 ((intCs L0).toArray), .ro D (fun w => BytesD D w (V) bs)]) ap23 ((O19.re [7, 0, 1, 2, 3, 4, 5, 6, 8, 9] rfl : Own Z w0 w17 [.row (.slice A n c) 38 3 n (ncells l), .blk g16 38 #[.int .i64 (-1), .int .i64 (-1), .int .i64 v0], .blk g3 38 #[.int .i64 (-1), .int .i64 (-1), .int .i64 v0], .blk tb 3 #[.int .i64 (a : Int)], .blk lb 32 #[V], .blk nb 68 #[.func (.func 51) #[] #[.pointer (some ⟨tb, 0, none⟩), .pointer (some ⟨lb, 0, none⟩)]], .blk pb 69 #[.func (.func 52) #[] #[.pointer (some ⟨nb, 0, none⟩), .pointer (some ⟨pb, 0, none⟩), .pointer (some ⟨ob, 0, none⟩)]], .blk ob 23 #[.slice A n c], .blk vb 3 ((intCs L0).toArray), .ro D (fun w => BytesD D w (V) bs)]).blk 1 rfl) (cells := [.int .i64 (-1), .int .i64 (-1), .int .i64 v0]) rfl rfl (by omega) (by omega) (ys := (ncells (l ++ [(VN.mk (-1) (-1) v0)]))) (ncells_snoc l (VN.mk (-1) (-1) v0))
      refine wl_val (v := .slice A22 (n + 1) c23) (fun ρ e => r25 ρ _ _ _ _ _ _ _ (e _ _ rfl) (e _ _ rfl)) rfl rfl ?_
      obtain ⟨w29, r30, O31, hs32⟩ := own_put (o := 0) (n := 1) (O26.re [7, 0, 1, 2, 3, 4, 5, 6, 8, 9] rfl : Own Z w0 w24 [.blk ob 23 #[.slice A n c], .row (.slice A22 (n + 1) c23) 38 3 (n + 1) (ncells (l ++ [(VN.mk (-1) (-1) v0)])), .blk g16 38 #[.int .i64 (-1), .int .i64 (-1), .int .i64 v0], .blk g3 38 #[.int .i64 (-1), .int .i64 (-1), .int .i64 v0], .blk tb 3 #[.int .i64 (a : Int)], .blk lb 32 #[V], .blk nb 68 #[.func (.func 51) #[] #[.pointer (some ⟨tb, 0, none⟩), .pointer (some ⟨lb, 0, none⟩)]], .blk pb 69 #[.func (.func 52) #[] #[.pointer (some ⟨nb, 0, none⟩), .pointer (some ⟨pb, 0, none⟩), .pointer (some ⟨ob, 0, none⟩)]], .blk vb 3 ((intCs L0).toArray), .ro D (fun w => BytesD D w (V) bs)]) ty23 (.slice A22 (n + 1) c23) [.slice A22 (n + 1) c23] (cs' := #[.slice A22 (n + 1) c23]) rfl rfl rfl (Nat.le_of_ble_eq_true rfl) rfl
      refine wl_none (fun ρ e => r30 ρ _ _ _ _ _ _ (e _ _ rfl) (e _ _ rfl)) rfl ?_
      refine wl_nil ?_
      refine xw_next K15 ?_
      refine cw_seq (fun FK33 K33 => ?_)
      refine cw_region ?_
      refine wl_val (v := .slice A22 (n + 1) c23) (fun ρ e => ex_load1 ty23 (e _ _ rfl) (O31.cell 0 0 rfl rfl)) rfl rfl ?_
      refine wl_val (v := .int .i64 ((n + 1 : Nat) : Int)) (fun ρ e => ex_len el23 (e _ _ rfl)) rfl rfl ?_
      refine wl_val (v := .int .i64 ((n + 1 - 1 : Nat) : Int)) (fun ρ e => ex_arith (k := .i64) (u := ((n + 1 : Nat) : Int)) (v := 1) (e _ _ rfl) (e _ _ rfl) (congrArg some ((congrArg _ (show _ = ((n + 1 - 1 : Nat) : Int) by omega)).trans (wrap_in (by omega) (by omega))))) rfl rfl ?_
      refine wl_val (v := .int .i64 ((n + 1 - 1 : Nat) : Int)) (fun ρ e => ex_assign (e _ _ rfl)) rfl rfl ?_
      refine wl_nil ?_
      refine xw_next K33 ?_
      refine cw_ret ?_
      refine xw_ret (v := .int .i64 ((n + 1 - 1 : Nat) : Int)) (fun T hT => res1 rfl T _ (hT 5 _ rfl)) ?_
      have hlv : (Tr.leaf v0).leaves = (L0.drop s).take m := by rw [h1, take_one hv0]; rfl
      have hsz : (Tr.leaf v0).size = 2 * m - 1 := by rw [h1]; rfl
      have hn : n + 1 = n + (2 * m - 1) := by omega
      have ha2 : a = a + (m - 1) := by omega
      have hl : (l ++ [(VN.mk (-1) (-1) v0)]) = l ++ post (Tr.leaf v0) n := by simp [post]
      have hO := (O31.re [4, 5, 6, 7, 0, 1, 8, 9] rfl : Own Z w0 w29 [.blk tb 3 #[.int .i64 (a : Int)], .blk lb 32 #[V], .blk nb 68 #[.func (.func 51) #[] #[.pointer (some ⟨tb, 0, none⟩), .pointer (some ⟨lb, 0, none⟩)]], .blk pb 69 #[.func (.func 52) #[] #[.pointer (some ⟨nb, 0, none⟩), .pointer (some ⟨pb, 0, none⟩), .pointer (some ⟨ob, 0, none⟩)]], .blk ob 23 #[.slice A22 (n + 1) c23], .row (.slice A22 (n + 1) c23) 38 3 (n + 1) (ncells (l ++ [(VN.mk (-1) (-1) v0)])), .blk vb 3 ((intCs L0).toArray), .ro D (fun w => BytesD D w (V) bs)])
      rw [hn, hl] at hO
      have ha3 : a + (m - 1) = a := by omega
      exact ⟨Tr.leaf v0, A22, c23, hlv, hsz, congrArg (fun z : Nat => Ending.returned (.int .i64 (z : Int))) (show n + 1 - 1 = n + (2 * m - 1) - 1 by omega), by rw [ha3]; exact hO⟩
    · skip
      refine sx_enter (args := [.slice (some ⟨vb, s, none⟩) m cc, .pointer (some ⟨nb, 0, none⟩), .pointer (some ⟨pb, 0, none⟩), .pointer (some ⟨ob, 0, none⟩)]) Tryd.func52 rfl rfl (by simp) ?_
      refine cw_seq (fun FK1 K1 => ?_)
      refine cw_region ?_
      refine wl_val (v := .int .i64 0) (fun ρ e => ex_assign (e _ _ rfl)) rfl rfl ?_
      refine wl_nil ?_
      refine xw_next K1 ?_
      refine cw_seq (fun FK2 K2 => ?_)
      refine cw_region ?_
      refine wl_val (v := .slice (some ⟨vb, s, none⟩) m cc) (fun ρ e => ex_move (e _ _ rfl)) rfl rfl ?_
      refine wl_val (v := .pointer (some ⟨vb, s, none⟩)) (fun ρ e => ex_idx (q := s) (i := 0) el36 (e _ _ rfl) (e _ _ rfl) (by omega) (by omega)) rfl rfl ?_
      refine wl_val (v := .int .i64 v0) (fun ρ e => ex_load1 ty3 (e _ _ rfl) (((O0.blk 6 rfl).cell _).trans (getI hv0))) rfl rfl ?_
      refine wl_val (v := .agg #[.int .i64 (-1), .int .i64 (-1), .int .i64 v0]) (fun ρ e => ex_build (cells := #[.int .i64 (-1), .int .i64 (-1), .int .i64 v0]) st38 (e.parts rfl) rfl) rfl rfl ?_
      obtain ⟨g3, w4, r5, O6, hg7, hs8⟩ := own_alloc O0 38 ze38 rfl
      refine wl_val (v := .pointer (some ⟨g3, 0, none⟩)) (fun ρ e => r5 ρ _ _ _ _ _) rfl rfl ?_
      obtain ⟨w9, r10, O11, hs12⟩ := own_put (o := 0) (n := 3) O6 ty38 (.agg #[.int .i64 (-1), .int .i64 (-1), .int .i64 v0]) [.int .i64 (-1), .int .i64 (-1), .int .i64 v0] (cs' := #[.int .i64 (-1), .int .i64 (-1), .int .i64 v0]) rfl rfl rfl (Nat.le_of_ble_eq_true rfl) rfl
      refine wl_none (fun ρ e => r10 ρ _ _ _ _ _ _ (e _ _ rfl) (e _ _ rfl)) rfl ?_
      refine wl_nil ?_
      refine xw_next K2 ?_
      refine cw_seq (fun FK13 K13 => ?_)
      refine cw_seq (fun FK14 K14 => ?_)
      refine cw_region ?_
      refine wl_val (v := .slice (some ⟨vb, s, none⟩) m cc) (fun ρ e => ex_move (e _ _ rfl)) rfl rfl ?_
      refine wl_val (v := .int .i64 (m : Int)) (fun ρ e => ex_len el36 (e _ _ rfl)) rfl rfl ?_
      refine wl_val (v := .bool true) (fun ρ e => ex_cmp (u := (m : Int)) (v := 1) (e _ _ rfl) (e _ _ rfl) (gtr1 (by omega))) rfl rfl ?_
      refine wl_nil ?_
      refine xw_next K14 ?_
      refine cw_true rfl ?_
      refine cw_seq (fun FK15 K15 => ?_)
      refine cw_region ?_
      refine wl_val (v := .func (.func 51) #[] #[.pointer (some ⟨tb, 0, none⟩), .pointer (some ⟨lb, 0, none⟩)]) (fun ρ e => ex_load1 ty68 (e _ _ rfl) (O11.cell 3 0 rfl rfl)) rfl rfl ?_
      refine wl_callv (args := []) (all := [.pointer (some ⟨tb, 0, none⟩), .pointer (some ⟨lb, 0, none⟩)]) in_51 rfl rfl rfl rfl rfl ?_
      have O20h := Own.hand (A := [.blk tb 3 #[.int .i64 (a : Int)], .blk lb 32 #[V], .ro D (fun w => BytesD D w (V) bs)]) (R := [.blk g3 38 #[.int .i64 (-1), .int .i64 (-1), .int .i64 v0], .blk nb 68 #[.func (.func 51) #[] #[.pointer (some ⟨tb, 0, none⟩), .pointer (some ⟨lb, 0, none⟩)]], .blk pb 69 #[.func (.func 52) #[] #[.pointer (some ⟨nb, 0, none⟩), .pointer (some ⟨pb, 0, none⟩), .pointer (some ⟨ob, 0, none⟩)]], .blk ob 23 #[.slice A n c], .row (.slice A n c) 38 3 n (ncells l), .blk vb 3 ((intCs L0).toArray)]) (O11.re [1, 2, 8, 0, 3, 4, 5, 6, 7] rfl : Own Z w0 w9 [.blk tb 3 #[.int .i64 (a : Int)], .blk lb 32 #[V], .ro D (fun w => BytesD D w (V) bs), .blk g3 38 #[.int .i64 (-1), .int .i64 (-1), .int .i64 v0], .blk nb 68 #[.func (.func 51) #[] #[.pointer (some ⟨tb, 0, none⟩), .pointer (some ⟨lb, 0, none⟩)]], .blk pb 69 #[.func (.func 52) #[] #[.pointer (some ⟨nb, 0, none⟩), .pointer (some ⟨pb, 0, none⟩), .pointer (some ⟨ob, 0, none⟩)]], .blk ob 23 #[.slice A n c], .row (.slice A n c) 38 3 n (ncells l), .blk vb 3 ((intCs L0).toArray)])
      refine (next_ (a := a) O20h (by omega) hbs).mono ?_
      rintro _ w18 ⟨r16, hr17, rfl, h19⟩
      have O20 : Own Z w0 w18 [.blk tb 3 #[.int .i64 ((a + 1 : Nat) : Int)], .blk lb 32 #[V], .ro D (fun w => BytesD D w (V) bs), .blk g3 38 #[.int .i64 (-1), .int .i64 (-1), .int .i64 v0], .blk nb 68 #[.func (.func 51) #[] #[.pointer (some ⟨tb, 0, none⟩), .pointer (some ⟨lb, 0, none⟩)]], .blk pb 69 #[.func (.func 52) #[] #[.pointer (some ⟨nb, 0, none⟩), .pointer (some ⟨pb, 0, none⟩), .pointer (some ⟨ob, 0, none⟩)]], .blk ob 23 #[.slice A n c], .row (.slice A n c) 38 3 n (ncells l), .blk vb 3 ((intCs L0).toArray)] := Own.frame (A := [.blk tb 3 #[.int .i64 (a : Int)], .blk lb 32 #[V], .ro D (fun w => BytesD D w (V) bs)]) (R := [.blk g3 38 #[.int .i64 (-1), .int .i64 (-1), .int .i64 v0], .blk nb 68 #[.func (.func 51) #[] #[.pointer (some ⟨tb, 0, none⟩), .pointer (some ⟨lb, 0, none⟩)]], .blk pb 69 #[.func (.func 52) #[] #[.pointer (some ⟨nb, 0, none⟩), .pointer (some ⟨pb, 0, none⟩), .pointer (some ⟨ob, 0, none⟩)]], .blk ob 23 #[.slice A n c], .row (.slice A n c) 38 3 n (ncells l), .blk vb 3 ((intCs L0).toArray)]) (O11.re [1, 2, 8, 0, 3, 4, 5, 6, 7] rfl : Own Z w0 w9 [.blk tb 3 #[.int .i64 (a : Int)], .blk lb 32 #[V], .ro D (fun w => BytesD D w (V) bs), .blk g3 38 #[.int .i64 (-1), .int .i64 (-1), .int .i64 v0], .blk nb 68 #[.func (.func 51) #[] #[.pointer (some ⟨tb, 0, none⟩), .pointer (some ⟨lb, 0, none⟩)]], .blk pb 69 #[.func (.func 52) #[] #[.pointer (some ⟨nb, 0, none⟩), .pointer (some ⟨pb, 0, none⟩), .pointer (some ⟨ob, 0, none⟩)]], .blk ob 23 #[.slice A n c], .row (.slice A n c) 38 3 n (ncells l), .blk vb 3 ((intCs L0).toArray)]) h19
      refine ⟨_, rfl, ?_⟩
      refine wl_val (v := .slice (some ⟨vb, s, none⟩) m cc) (fun ρ e => ex_move (e _ _ rfl)) rfl rfl ?_
      refine wl_val (v := .int .i64 (m : Int)) (fun ρ e => ex_len el36 (e _ _ rfl)) rfl rfl ?_
      refine wl_val (v := .int .i64 ((m - 1 : Nat) : Int)) (fun ρ e => ex_arith (k := .i64) (u := (m : Int)) (v := 1) (e _ _ rfl) (e _ _ rfl) (congrArg some ((congrArg _ (show _ = ((m - 1 : Nat) : Int) by omega)).trans (wrap_in (by omega) (by omega))))) rfl rfl ?_
      obtain ⟨k21, hk21, lk21⟩ : ∃ q, r16 % (m - 1) = q ∧ q < m - 1 := ⟨_, rfl, Nat.mod_lt _ (by omega)⟩
      refine wl_val (v := .int .i64 (k21 : Int)) (fun ρ e => ex_remg (a := r16) (b := m - 1) (e _ _ rfl) (e _ _ rfl) (by omega) hk21) rfl rfl ?_
      obtain ⟨kk, hkk⟩ : ∃ q, q = k21 + 1 := ⟨_, rfl⟩
      refine wl_val (v := .int .i64 (kk : Int)) (fun ρ e => ex_arith (k := .i64) (u := 1) (v := (k21 : Int)) (e _ _ rfl) (e _ _ rfl) (congrArg some ((congrArg _ (show _ = (kk : Int) by omega)).trans (wrap_in (by omega) (by omega))))) rfl rfl ?_
      refine wl_val (v := .int .i64 (kk : Int)) (fun ρ e => ex_assign (e _ _ rfl)) rfl rfl ?_
      refine wl_nil ?_
      refine xw_next K15 ?_
      refine cw_drawn (fun X => Own Z w0 X [.blk lb 32 #[V], .ro D (fun w => BytesD D w (V) bs), .blk g3 38 #[.int .i64 (-1), .int .i64 (-1), .int .i64 v0], .blk nb 68 #[.func (.func 51) #[] #[.pointer (some ⟨tb, 0, none⟩), .pointer (some ⟨lb, 0, none⟩)]], .blk pb 69 #[.func (.func 52) #[] #[.pointer (some ⟨nb, 0, none⟩), .pointer (some ⟨pb, 0, none⟩), .pointer (some ⟨ob, 0, none⟩)]], .blk vb 3 ((intCs L0).toArray)]) 11 [(0, 0), (1, 1), (2, 1), (3, 1), (5, 0), (6, 1), (7, 1), (8, 1), (4, 2), (9, 2), (10, 1), (11, 3)] (by kernel_rfl) (by kernel_rfl) (PQ.then_ PQ.body) ((O20.re [1, 2, 3, 4, 5, 8] rfl : Own Z w0 w18 [.blk lb 32 #[V], .ro D (fun w => BytesD D w (V) bs), .blk g3 38 #[.int .i64 (-1), .int .i64 (-1), .int .i64 v0], .blk nb 68 #[.func (.func 51) #[] #[.pointer (some ⟨tb, 0, none⟩), .pointer (some ⟨lb, 0, none⟩)]], .blk pb 69 #[.func (.func 52) #[] #[.pointer (some ⟨nb, 0, none⟩), .pointer (some ⟨pb, 0, none⟩), .pointer (some ⟨ob, 0, none⟩)]], .blk vb 3 ((intCs L0).toArray)])).drew ?_
      have O22 : Own Z w0 w18.drew [.blk tb 3 #[.int .i64 ((a + 1 : Nat) : Int)], .blk lb 32 #[V], .ro D (fun w => BytesD D w (V) bs), .blk g3 38 #[.int .i64 (-1), .int .i64 (-1), .int .i64 v0], .blk nb 68 #[.func (.func 51) #[] #[.pointer (some ⟨tb, 0, none⟩), .pointer (some ⟨lb, 0, none⟩)]], .blk pb 69 #[.func (.func 52) #[] #[.pointer (some ⟨nb, 0, none⟩), .pointer (some ⟨pb, 0, none⟩), .pointer (some ⟨ob, 0, none⟩)]], .blk ob 23 #[.slice A n c], .row (.slice A n c) 38 3 n (ncells l), .blk vb 3 ((intCs L0).toArray)] := O20.drew
      refine wt0 (v := .func (.func 52) #[] #[.pointer (some ⟨nb, 0, none⟩), .pointer (some ⟨pb, 0, none⟩), .pointer (some ⟨ob, 0, none⟩)]) rfl (fun ρ e W hW => ex_load1 ty69 (e _ _ rfl) (hW.cell 4 0 rfl rfl)) rfl rfl ?_
      refine wt1 (v := .slice (some ⟨vb, s, none⟩) m cc) rfl (fun ρ e W => ex_move (e _ _ rfl)) rfl rfl ?_
      refine wt1 (v := .int .i64 (kk : Int)) rfl (fun ρ e W => ex_move (e _ _ rfl)) rfl rfl ?_
      refine wt1 (v := .slice (some ⟨vb, s, none⟩) kk cc) rfl (fun ρ e W => ex_sliceHi (h := kk) el36 (e _ _ rfl) (e _ _ rfl) (by omega)) rfl rfl ?_
      refine wt0 (v := .func (.func 52) #[] #[.pointer (some ⟨nb, 0, none⟩), .pointer (some ⟨pb, 0, none⟩), .pointer (some ⟨ob, 0, none⟩)]) rfl (fun ρ e W hW => ex_load1 ty69 (e _ _ rfl) (hW.cell 4 0 rfl rfl)) rfl rfl ?_
      refine wt1 (v := .slice (some ⟨vb, s, none⟩) m cc) rfl (fun ρ e W => ex_move (e _ _ rfl)) rfl rfl ?_
      refine wt1 (v := .int .i64 (kk : Int)) rfl (fun ρ e W => ex_move (e _ _ rfl)) rfl rfl ?_
      refine wt1 (v := .slice (some ⟨vb, (s + kk), none⟩) (m - kk) (cc - kk)) rfl (fun ρ e W => ex_sliceLo (k := kk) (q := s + kk) el36 (e _ _ rfl) (e _ _ rfl) (by omega) (by omega) (by omega)) rfl rfl ?_
      refine wt2_callv (args := [.slice (some ⟨vb, s, none⟩) kk cc]) (all := [.slice (some ⟨vb, s, none⟩) kk cc, .pointer (some ⟨nb, 0, none⟩), .pointer (some ⟨pb, 0, none⟩), .pointer (some ⟨ob, 0, none⟩)]) rfl in_52 rfl rfl rfl rfl rfl ?_
      have O30h := Own.hand (A := [.blk tb 3 #[.int .i64 ((a + 1 : Nat) : Int)], .blk lb 32 #[V], .blk nb 68 #[.func (.func 51) #[] #[.pointer (some ⟨tb, 0, none⟩), .pointer (some ⟨lb, 0, none⟩)]], .blk pb 69 #[.func (.func 52) #[] #[.pointer (some ⟨nb, 0, none⟩), .pointer (some ⟨pb, 0, none⟩), .pointer (some ⟨ob, 0, none⟩)]], .blk ob 23 #[.slice A n c], .row (.slice A n c) 38 3 n (ncells l), .blk vb 3 ((intCs L0).toArray), .ro D (fun w => BytesD D w (V) bs)]) (R := [.blk g3 38 #[.int .i64 (-1), .int .i64 (-1), .int .i64 v0]]) (O22.re [0, 1, 4, 5, 6, 7, 8, 2, 3] rfl : Own Z w0 w18.drew [.blk tb 3 #[.int .i64 ((a + 1 : Nat) : Int)], .blk lb 32 #[V], .blk nb 68 #[.func (.func 51) #[] #[.pointer (some ⟨tb, 0, none⟩), .pointer (some ⟨lb, 0, none⟩)]], .blk pb 69 #[.func (.func 52) #[] #[.pointer (some ⟨nb, 0, none⟩), .pointer (some ⟨pb, 0, none⟩), .pointer (some ⟨ob, 0, none⟩)]], .blk ob 23 #[.slice A n c], .row (.slice A n c) 38 3 n (ncells l), .blk vb 3 ((intCs L0).toArray), .ro D (fun w => BytesD D w (V) bs), .blk g3 38 #[.int .i64 (-1), .int .i64 (-1), .int .i64 v0]])
      refine (IH s kk cc (by omega) (by omega) (by omega) (by omega) _ _ _ _ _ _ l (a + 1) O30h (by omega) (by omega)).mono ?_
      rintro _ w28 ⟨T23, A26, c27, hlv24, hsz25, rfl, h29⟩
      have O30 : Own Z w0 w28 [.blk tb 3 #[.int .i64 ((a + 1 + (kk - 1) : Nat) : Int)], .blk lb 32 #[V], .blk nb 68 #[.func (.func 51) #[] #[.pointer (some ⟨tb, 0, none⟩), .pointer (some ⟨lb, 0, none⟩)]], .blk pb 69 #[.func (.func 52) #[] #[.pointer (some ⟨nb, 0, none⟩), .pointer (some ⟨pb, 0, none⟩), .pointer (some ⟨ob, 0, none⟩)]], .blk ob 23 #[.slice A26 (n + (2 * kk - 1)) c27], .row (.slice A26 (n + (2 * kk - 1)) c27) 38 3 (n + (2 * kk - 1)) (ncells (l ++ post T23 n)), .blk vb 3 ((intCs L0).toArray), .ro D (fun w => BytesD D w (V) bs), .blk g3 38 #[.int .i64 (-1), .int .i64 (-1), .int .i64 v0]] := Own.frame (A := [.blk tb 3 #[.int .i64 ((a + 1 : Nat) : Int)], .blk lb 32 #[V], .blk nb 68 #[.func (.func 51) #[] #[.pointer (some ⟨tb, 0, none⟩), .pointer (some ⟨lb, 0, none⟩)]], .blk pb 69 #[.func (.func 52) #[] #[.pointer (some ⟨nb, 0, none⟩), .pointer (some ⟨pb, 0, none⟩), .pointer (some ⟨ob, 0, none⟩)]], .blk ob 23 #[.slice A n c], .row (.slice A n c) 38 3 n (ncells l), .blk vb 3 ((intCs L0).toArray), .ro D (fun w => BytesD D w (V) bs)]) (R := [.blk g3 38 #[.int .i64 (-1), .int .i64 (-1), .int .i64 v0]]) (O22.re [0, 1, 4, 5, 6, 7, 8, 2, 3] rfl : Own Z w0 w18.drew [.blk tb 3 #[.int .i64 ((a + 1 : Nat) : Int)], .blk lb 32 #[V], .blk nb 68 #[.func (.func 51) #[] #[.pointer (some ⟨tb, 0, none⟩), .pointer (some ⟨lb, 0, none⟩)]], .blk pb 69 #[.func (.func 52) #[] #[.pointer (some ⟨nb, 0, none⟩), .pointer (some ⟨pb, 0, none⟩), .pointer (some ⟨ob, 0, none⟩)]], .blk ob 23 #[.slice A n c], .row (.slice A n c) 38 3 n (ncells l), .blk vb 3 ((intCs L0).toArray), .ro D (fun w => BytesD D w (V) bs), .blk g3 38 #[.int .i64 (-1), .int .i64 (-1), .int .i64 v0]]) h29
      refine ⟨_, rfl, (O30.re [1, 7, 8, 2, 3, 6] rfl : Own Z w0 w28 [.blk lb 32 #[V], .ro D (fun w => BytesD D w (V) bs), .blk g3 38 #[.int .i64 (-1), .int .i64 (-1), .int .i64 v0], .blk nb 68 #[.func (.func 51) #[] #[.pointer (some ⟨tb, 0, none⟩), .pointer (some ⟨lb, 0, none⟩)]], .blk pb 69 #[.func (.func 52) #[] #[.pointer (some ⟨nb, 0, none⟩), .pointer (some ⟨pb, 0, none⟩), .pointer (some ⟨ob, 0, none⟩)]], .blk vb 3 ((intCs L0).toArray)]), ?_⟩
      refine wt2_callv (args := [.slice (some ⟨vb, (s + kk), none⟩) (m - kk) (cc - kk)]) (all := [.slice (some ⟨vb, (s + kk), none⟩) (m - kk) (cc - kk), .pointer (some ⟨nb, 0, none⟩), .pointer (some ⟨pb, 0, none⟩), .pointer (some ⟨ob, 0, none⟩)]) rfl in_52 rfl rfl rfl rfl rfl ?_
      have O38h := Own.hand (A := [.blk tb 3 #[.int .i64 ((a + 1 + (kk - 1) : Nat) : Int)], .blk lb 32 #[V], .blk nb 68 #[.func (.func 51) #[] #[.pointer (some ⟨tb, 0, none⟩), .pointer (some ⟨lb, 0, none⟩)]], .blk pb 69 #[.func (.func 52) #[] #[.pointer (some ⟨nb, 0, none⟩), .pointer (some ⟨pb, 0, none⟩), .pointer (some ⟨ob, 0, none⟩)]], .blk ob 23 #[.slice A26 (n + (2 * kk - 1)) c27], .row (.slice A26 (n + (2 * kk - 1)) c27) 38 3 (n + (2 * kk - 1)) (ncells (l ++ post T23 n)), .blk vb 3 ((intCs L0).toArray), .ro D (fun w => BytesD D w (V) bs)]) (R := [.blk g3 38 #[.int .i64 (-1), .int .i64 (-1), .int .i64 v0]]) O30
      refine (IH (s + kk) (m - kk) (cc - kk) (by omega) (by omega) (by omega) (by omega) _ _ _ _ _ _ (l ++ post T23 n) (a + 1 + (kk - 1)) O38h (by omega) (by omega)).mono ?_
      rintro _ w36 ⟨T31, A34, c35, hlv32, hsz33, rfl, h37⟩
      have O38 : Own Z w0 w36 [.blk tb 3 #[.int .i64 ((a + 1 + (kk - 1) + ((m - kk) - 1) : Nat) : Int)], .blk lb 32 #[V], .blk nb 68 #[.func (.func 51) #[] #[.pointer (some ⟨tb, 0, none⟩), .pointer (some ⟨lb, 0, none⟩)]], .blk pb 69 #[.func (.func 52) #[] #[.pointer (some ⟨nb, 0, none⟩), .pointer (some ⟨pb, 0, none⟩), .pointer (some ⟨ob, 0, none⟩)]], .blk ob 23 #[.slice A34 ((n + (2 * kk - 1)) + (2 * (m - kk) - 1)) c35], .row (.slice A34 ((n + (2 * kk - 1)) + (2 * (m - kk) - 1)) c35) 38 3 ((n + (2 * kk - 1)) + (2 * (m - kk) - 1)) (ncells ((l ++ post T23 n) ++ post T31 (n + (2 * kk - 1)))), .blk vb 3 ((intCs L0).toArray), .ro D (fun w => BytesD D w (V) bs), .blk g3 38 #[.int .i64 (-1), .int .i64 (-1), .int .i64 v0]] := Own.frame (A := [.blk tb 3 #[.int .i64 ((a + 1 + (kk - 1) : Nat) : Int)], .blk lb 32 #[V], .blk nb 68 #[.func (.func 51) #[] #[.pointer (some ⟨tb, 0, none⟩), .pointer (some ⟨lb, 0, none⟩)]], .blk pb 69 #[.func (.func 52) #[] #[.pointer (some ⟨nb, 0, none⟩), .pointer (some ⟨pb, 0, none⟩), .pointer (some ⟨ob, 0, none⟩)]], .blk ob 23 #[.slice A26 (n + (2 * kk - 1)) c27], .row (.slice A26 (n + (2 * kk - 1)) c27) 38 3 (n + (2 * kk - 1)) (ncells (l ++ post T23 n)), .blk vb 3 ((intCs L0).toArray), .ro D (fun w => BytesD D w (V) bs)]) (R := [.blk g3 38 #[.int .i64 (-1), .int .i64 (-1), .int .i64 v0]]) O30 h37
      refine ⟨_, rfl, (O38.re [1, 7, 8, 2, 3, 6] rfl : Own Z w0 w36 [.blk lb 32 #[V], .ro D (fun w => BytesD D w (V) bs), .blk g3 38 #[.int .i64 (-1), .int .i64 (-1), .int .i64 v0], .blk nb 68 #[.func (.func 51) #[] #[.pointer (some ⟨tb, 0, none⟩), .pointer (some ⟨lb, 0, none⟩)]], .blk pb 69 #[.func (.func 52) #[] #[.pointer (some ⟨nb, 0, none⟩), .pointer (some ⟨pb, 0, none⟩), .pointer (some ⟨ob, 0, none⟩)]], .blk vb 3 ((intCs L0).toArray)]), ?_⟩
      refine wt1 (v := .agg #[.int .i64 ((n + (2 * kk - 1) - 1 : Nat) : Int), .int .i64 (((n + (2 * kk - 1)) + (2 * (m - kk) - 1) - 1 : Nat) : Int), .int .i64 0]) rfl (fun ρ e W => ex_build (cells := #[.int .i64 ((n + (2 * kk - 1) - 1 : Nat) : Int), .int .i64 (((n + (2 * kk - 1)) + (2 * (m - kk) - 1) - 1 : Nat) : Int), .int .i64 0]) st38 (e.parts rfl) rfl) rfl rfl ?_
      obtain ⟨w39, r40, O41, hs42⟩ := own_put (o := 0) (n := 3) (O38.re [8, 0, 1, 2, 3, 4, 5, 6, 7] rfl : Own Z w0 w36 [.blk g3 38 #[.int .i64 (-1), .int .i64 (-1), .int .i64 v0], .blk tb 3 #[.int .i64 ((a + 1 + (kk - 1) + ((m - kk) - 1) : Nat) : Int)], .blk lb 32 #[V], .blk nb 68 #[.func (.func 51) #[] #[.pointer (some ⟨tb, 0, none⟩), .pointer (some ⟨lb, 0, none⟩)]], .blk pb 69 #[.func (.func 52) #[] #[.pointer (some ⟨nb, 0, none⟩), .pointer (some ⟨pb, 0, none⟩), .pointer (some ⟨ob, 0, none⟩)]], .blk ob 23 #[.slice A34 ((n + (2 * kk - 1)) + (2 * (m - kk) - 1)) c35], .row (.slice A34 ((n + (2 * kk - 1)) + (2 * (m - kk) - 1)) c35) 38 3 ((n + (2 * kk - 1)) + (2 * (m - kk) - 1)) (ncells ((l ++ post T23 n) ++ post T31 (n + (2 * kk - 1)))), .blk vb 3 ((intCs L0).toArray), .ro D (fun w => BytesD D w (V) bs)]) ty38 (.agg #[.int .i64 ((n + (2 * kk - 1) - 1 : Nat) : Int), .int .i64 (((n + (2 * kk - 1)) + (2 * (m - kk) - 1) - 1 : Nat) : Int), .int .i64 0]) [.int .i64 ((n + (2 * kk - 1) - 1 : Nat) : Int), .int .i64 (((n + (2 * kk - 1)) + (2 * (m - kk) - 1) - 1 : Nat) : Int), .int .i64 0] (cs' := #[.int .i64 ((n + (2 * kk - 1) - 1 : Nat) : Int), .int .i64 (((n + (2 * kk - 1)) + (2 * (m - kk) - 1) - 1 : Nat) : Int), .int .i64 0]) rfl rfl rfl (Nat.le_of_ble_eq_true rfl) rfl
      refine wt3_none rfl (fun ρ e => r40 ρ _ _ _ _ _ _ (e _ _ rfl) (e _ _ rfl)) rfl ?_
      refine wt_nil ?_
      refine xw_next K13 ?_
      refine cw_seq (fun FK43 K43 => ?_)
      refine cw_region ?_
      refine wl_val (v := .slice A34 ((n + (2 * kk - 1)) + (2 * (m - kk) - 1)) c35) (fun ρ e => ex_load1 ty23 (e _ _ rfl) (O41.cell 5 0 rfl rfl)) rfl rfl ?_
      refine wl_val (v := .agg #[.int .i64 ((n + (2 * kk - 1) - 1 : Nat) : Int), .int .i64 (((n + (2 * kk - 1)) + (2 * (m - kk) - 1) - 1 : Nat) : Int), .int .i64 0]) (fun ρ e => ex_loadN (vs := [.int .i64 ((n + (2 * kk - 1) - 1 : Nat) : Int), .int .i64 (((n + (2 * kk - 1)) + (2 * (m - kk) - 1) - 1 : Nat) : Int), .int .i64 0]) ty38 (e _ _ rfl) rfl (O41.cells 0 0 rfl rfl)) rfl rfl ?_
      obtain ⟨g44, w45, r46, O47, hg48, hs49⟩ := own_slice O41 el23 ze38 1 [(0, .agg #[.int .i64 ((n + (2 * kk - 1) - 1 : Nat) : Int), .int .i64 (((n + (2 * kk - 1)) + (2 * (m - kk) - 1) - 1 : Nat) : Int), .int .i64 0])] (cs := #[.int .i64 ((n + (2 * kk - 1) - 1 : Nat) : Int), .int .i64 (((n + (2 * kk - 1)) + (2 * (m - kk) - 1) - 1 : Nat) : Int), .int .i64 0]) (by decide) (by kernel_rfl)
      refine wl_val (v := .slice (some ⟨g44, 0, none⟩) 1 1) (fun ρ e => r46 ρ _ _ _ _ _ _ (e.parts rfl)) rfl rfl ?_
      obtain ⟨A50, c51, w52, r53, O54, hz55, hc56⟩ := own_app1 (O47.re [7, 0, 1, 2, 3, 4, 5, 6, 8, 9] rfl : Own Z w0 w45 [.row (.slice A34 ((n + (2 * kk - 1)) + (2 * (m - kk) - 1)) c35) 38 3 ((n + (2 * kk - 1)) + (2 * (m - kk) - 1)) (ncells ((l ++ post T23 n) ++ post T31 (n + (2 * kk - 1)))), .blk g44 38 #[.int .i64 ((n + (2 * kk - 1) - 1 : Nat) : Int), .int .i64 (((n + (2 * kk - 1)) + (2 * (m - kk) - 1) - 1 : Nat) : Int), .int .i64 0], .blk g3 38 #[.int .i64 ((n + (2 * kk - 1) - 1 : Nat) : Int), .int .i64 (((n + (2 * kk - 1)) + (2 * (m - kk) - 1) - 1 : Nat) : Int), .int .i64 0], .blk tb 3 #[.int .i64 ((a + 1 + (kk - 1) + ((m - kk) - 1) : Nat) : Int)], .blk lb 32 #[V], .blk nb 68 #[.func (.func 51) #[] #[.pointer (some ⟨tb, 0, none⟩), .pointer (some ⟨lb, 0, none⟩)]], .blk pb 69 #[.func (.func 52) #[] #[.pointer (some ⟨nb, 0, none⟩), .pointer (some ⟨pb, 0, none⟩), .pointer (some ⟨ob, 0, none⟩)]], .blk ob 23 #[.slice A34 ((n + (2 * kk - 1)) + (2 * (m - kk) - 1)) c35], .blk vb 3 ((intCs L0).toArray), .ro D (fun w => BytesD D w (V) bs)]) ap23 ((O47.re [7, 0, 1, 2, 3, 4, 5, 6, 8, 9] rfl : Own Z w0 w45 [.row (.slice A34 ((n + (2 * kk - 1)) + (2 * (m - kk) - 1)) c35) 38 3 ((n + (2 * kk - 1)) + (2 * (m - kk) - 1)) (ncells ((l ++ post T23 n) ++ post T31 (n + (2 * kk - 1)))), .blk g44 38 #[.int .i64 ((n + (2 * kk - 1) - 1 : Nat) : Int), .int .i64 (((n + (2 * kk - 1)) + (2 * (m - kk) - 1) - 1 : Nat) : Int), .int .i64 0], .blk g3 38 #[.int .i64 ((n + (2 * kk - 1) - 1 : Nat) : Int), .int .i64 (((n + (2 * kk - 1)) + (2 * (m - kk) - 1) - 1 : Nat) : Int), .int .i64 0], .blk tb 3 #[.int .i64 ((a + 1 + (kk - 1) + ((m - kk) - 1) : Nat) : Int)], .blk lb 32 #[V], .blk nb 68 #[.func (.func 51) #[] #[.pointer (some ⟨tb, 0, none⟩), .pointer (some ⟨lb, 0, none⟩)]], .blk pb 69 #[.func (.func 52) #[] #[.pointer (some ⟨nb, 0, none⟩), .pointer (some ⟨pb, 0, none⟩), .pointer (some ⟨ob, 0, none⟩)]], .blk ob 23 #[.slice A34 ((n + (2 * kk - 1)) + (2 * (m - kk) - 1)) c35], .blk vb 3 ((intCs L0).toArray), .ro D (fun w => BytesD D w (V) bs)]).blk 1 rfl) (cells := [.int .i64 ((n + (2 * kk - 1) - 1 : Nat) : Int), .int .i64 (((n + (2 * kk - 1)) + (2 * (m - kk) - 1) - 1 : Nat) : Int), .int .i64 0]) rfl rfl (by omega) (by omega) (ys := (ncells (((l ++ post T23 n) ++ post T31 (n + (2 * kk - 1))) ++ [(VN.mk ((n + (2 * kk - 1) - 1 : Nat) : Int) (((n + (2 * kk - 1)) + (2 * (m - kk) - 1) - 1 : Nat) : Int) 0)]))) (ncells_snoc ((l ++ post T23 n) ++ post T31 (n + (2 * kk - 1))) (VN.mk ((n + (2 * kk - 1) - 1 : Nat) : Int) (((n + (2 * kk - 1)) + (2 * (m - kk) - 1) - 1 : Nat) : Int) 0))
      refine wl_val (v := .slice A50 (((n + (2 * kk - 1)) + (2 * (m - kk) - 1)) + 1) c51) (fun ρ e => r53 ρ _ _ _ _ _ _ _ (e _ _ rfl) (e _ _ rfl)) rfl rfl ?_
      obtain ⟨w57, r58, O59, hs60⟩ := own_put (o := 0) (n := 1) (O54.re [7, 0, 1, 2, 3, 4, 5, 6, 8, 9] rfl : Own Z w0 w52 [.blk ob 23 #[.slice A34 ((n + (2 * kk - 1)) + (2 * (m - kk) - 1)) c35], .row (.slice A50 (((n + (2 * kk - 1)) + (2 * (m - kk) - 1)) + 1) c51) 38 3 (((n + (2 * kk - 1)) + (2 * (m - kk) - 1)) + 1) (ncells (((l ++ post T23 n) ++ post T31 (n + (2 * kk - 1))) ++ [(VN.mk ((n + (2 * kk - 1) - 1 : Nat) : Int) (((n + (2 * kk - 1)) + (2 * (m - kk) - 1) - 1 : Nat) : Int) 0)])), .blk g44 38 #[.int .i64 ((n + (2 * kk - 1) - 1 : Nat) : Int), .int .i64 (((n + (2 * kk - 1)) + (2 * (m - kk) - 1) - 1 : Nat) : Int), .int .i64 0], .blk g3 38 #[.int .i64 ((n + (2 * kk - 1) - 1 : Nat) : Int), .int .i64 (((n + (2 * kk - 1)) + (2 * (m - kk) - 1) - 1 : Nat) : Int), .int .i64 0], .blk tb 3 #[.int .i64 ((a + 1 + (kk - 1) + ((m - kk) - 1) : Nat) : Int)], .blk lb 32 #[V], .blk nb 68 #[.func (.func 51) #[] #[.pointer (some ⟨tb, 0, none⟩), .pointer (some ⟨lb, 0, none⟩)]], .blk pb 69 #[.func (.func 52) #[] #[.pointer (some ⟨nb, 0, none⟩), .pointer (some ⟨pb, 0, none⟩), .pointer (some ⟨ob, 0, none⟩)]], .blk vb 3 ((intCs L0).toArray), .ro D (fun w => BytesD D w (V) bs)]) ty23 (.slice A50 (((n + (2 * kk - 1)) + (2 * (m - kk) - 1)) + 1) c51) [.slice A50 (((n + (2 * kk - 1)) + (2 * (m - kk) - 1)) + 1) c51] (cs' := #[.slice A50 (((n + (2 * kk - 1)) + (2 * (m - kk) - 1)) + 1) c51]) rfl rfl rfl (Nat.le_of_ble_eq_true rfl) rfl
      refine wl_none (fun ρ e => r58 ρ _ _ _ _ _ _ (e _ _ rfl) (e _ _ rfl)) rfl ?_
      refine wl_nil ?_
      refine xw_next K43 ?_
      refine cw_seq (fun FK61 K61 => ?_)
      refine cw_region ?_
      refine wl_val (v := .slice A50 (((n + (2 * kk - 1)) + (2 * (m - kk) - 1)) + 1) c51) (fun ρ e => ex_load1 ty23 (e _ _ rfl) (O59.cell 0 0 rfl rfl)) rfl rfl ?_
      refine wl_val (v := .int .i64 ((((n + (2 * kk - 1)) + (2 * (m - kk) - 1)) + 1 : Nat) : Int)) (fun ρ e => ex_len el23 (e _ _ rfl)) rfl rfl ?_
      refine wl_val (v := .int .i64 ((((n + (2 * kk - 1)) + (2 * (m - kk) - 1)) + 1 - 1 : Nat) : Int)) (fun ρ e => ex_arith (k := .i64) (u := ((((n + (2 * kk - 1)) + (2 * (m - kk) - 1)) + 1 : Nat) : Int)) (v := 1) (e _ _ rfl) (e _ _ rfl) (congrArg some ((congrArg _ (show _ = ((((n + (2 * kk - 1)) + (2 * (m - kk) - 1)) + 1 - 1 : Nat) : Int) by omega)).trans (wrap_in (by omega) (by omega))))) rfl rfl ?_
      refine wl_val (v := .int .i64 ((((n + (2 * kk - 1)) + (2 * (m - kk) - 1)) + 1 - 1 : Nat) : Int)) (fun ρ e => ex_assign (e _ _ rfl)) rfl rfl ?_
      refine wl_nil ?_
      refine xw_next K61 ?_
      refine cw_ret ?_
      refine xw_ret (v := .int .i64 ((((n + (2 * kk - 1)) + (2 * (m - kk) - 1)) + 1 - 1 : Nat) : Int)) (fun T hT => res1 rfl T _ (hT 5 _ rfl)) ?_
      have hlv : (Tr.node T23 T31).leaves = (L0.drop s).take m := by simp only [Tr.leaves, hlv24, hlv32]; exact take_cut (by omega)
      have hsz : (Tr.node T23 T31).size = 2 * m - 1 := by simp only [Tr.size, hsz25, hsz33]; omega
      have hn : ((n + (2 * kk - 1)) + (2 * (m - kk) - 1)) + 1 = n + (2 * m - 1) := by omega
      have ha2 : a + 1 + (kk - 1) + ((m - kk) - 1) = a + (m - 1) := by omega
      have hl : (((l ++ post T23 n) ++ post T31 (n + (2 * kk - 1))) ++ [(VN.mk ((n + (2 * kk - 1) - 1 : Nat) : Int) (((n + (2 * kk - 1)) + (2 * (m - kk) - 1) - 1 : Nat) : Int) 0)]) = l ++ post (Tr.node T23 T31) n := by simp [post, hsz25, hsz33]
      have hO := (O59.re [4, 5, 6, 7, 0, 1, 8, 9] rfl : Own Z w0 w57 [.blk tb 3 #[.int .i64 ((a + 1 + (kk - 1) + ((m - kk) - 1) : Nat) : Int)], .blk lb 32 #[V], .blk nb 68 #[.func (.func 51) #[] #[.pointer (some ⟨tb, 0, none⟩), .pointer (some ⟨lb, 0, none⟩)]], .blk pb 69 #[.func (.func 52) #[] #[.pointer (some ⟨nb, 0, none⟩), .pointer (some ⟨pb, 0, none⟩), .pointer (some ⟨ob, 0, none⟩)]], .blk ob 23 #[.slice A50 (((n + (2 * kk - 1)) + (2 * (m - kk) - 1)) + 1) c51], .row (.slice A50 (((n + (2 * kk - 1)) + (2 * (m - kk) - 1)) + 1) c51) 38 3 (((n + (2 * kk - 1)) + (2 * (m - kk) - 1)) + 1) (ncells (((l ++ post T23 n) ++ post T31 (n + (2 * kk - 1))) ++ [(VN.mk ((n + (2 * kk - 1) - 1 : Nat) : Int) (((n + (2 * kk - 1)) + (2 * (m - kk) - 1) - 1 : Nat) : Int) 0)])), .blk vb 3 ((intCs L0).toArray), .ro D (fun w => BytesD D w (V) bs)])
      rw [hn, hl, ha2] at hO
      exact ⟨Tr.node T23 T31, A50, c51, hlv, hsz, congrArg (fun z : Nat => Ending.returned (.int .i64 (z : Int))) (show ((n + (2 * kk - 1)) + (2 * (m - kk) - 1)) + 1 - 1 = n + (2 * m - 1) - 1 by omega), hO⟩
/-- 1 to i, and noughts behind: n numbers. -/
def numL (n i : Nat) : List Int := (List.range n).map fun k => if k < i then ((k + 1 : Nat) : Int) else 0
theorem numL_len (n i : Nat) : (numL n i).length = n := by simp [numL]
theorem numL_zero (n : Nat) : numL n 0 = List.replicate n 0 := by
  apply List.ext_getElem?
  intro k
  by_cases h : k < n <;> simp [numL, h]
theorem numL_set {n i : Nat} (hi : i < n) : (numL n i).set i ((i + 1 : Nat) : Int) = numL n (i + 1) := by
  apply List.ext_getElem?
  intro k
  rw [List.getElem?_set]
  by_cases hk : k < n
  · by_cases e : i = k
    · subst e; simp [numL, hk]
    · by_cases hlt : k < i
      · simp [numL, hk, e, hlt, show k < i + 1 by omega]
      · simp [numL, hk, e, hlt, show ¬ k < i + 1 by omega]
  · have e : ¬ i = k := by omega
    simp [numL, hk, e]
theorem numL_nodup (n : Nat) : (numL n n).Nodup := by
  unfold numL
  rw [List.nodup_iff_pairwise_ne, List.pairwise_map]
  refine List.Pairwise.imp_of_mem ?_ (List.nodup_iff_pairwise_ne.1 List.nodup_range)
  intro a b ha hb hne
  have ha := List.mem_range.1 ha
  have hb := List.mem_range.1 hb
  rw [if_pos ha, if_pos hb]
  omega
theorem numL_in {n : Nat} (hn : n ≤ 128) {v : Int} (h : v ∈ numL n n) : 1 ≤ v ∧ v ≤ 128 := by
  unfold numL at h
  obtain ⟨k, hk, rfl⟩ := List.mem_map.1 h
  have hk := List.mem_range.1 hk
  rw [if_pos hk]
  omega
theorem swap_perm {vs l : List Int} {i k : Nat} {xi xk : Int} (hi : vs[i]? = some xi) (hk : vs[k]? = some xk) (hp : vs.Perm l) : ((vs.set i xk).set k xi).Perm l := by
  obtain ⟨h1, rfl⟩ := List.getElem?_eq_some_iff.1 hi
  obtain ⟨h2, rfl⟩ := List.getElem?_eq_some_iff.1 hk
  exact (List.set_set_perm h1 h2).trans hp
theorem grown_ {W : World} {D : Nat → Prop} {V : Value} {bs : List Nat} (hB : BytesD D W V bs) (hD : ∀ k, D k → k < W.heap.size) (hbs : bs.length ≤ 100000) {x : Nat} (hx : x ≤ 255) :
    Calls Tryd.prog 20 #[.int .u8 (x : Int), V] W fun e w' => ∃ T A' c', GoodT T ∧ T.leaves.length = 1 + x % 40 ∧ e = .returned (.slice A' T.size c') ∧ Own Z0 W w' [.row (.slice A' T.size c') 38 3 T.size (ncells (post T 0))] := by
  obtain ⟨A, cl, rfl⟩ := hB.slice
  have O0 : Own Z0 W W [.ro D (fun w => BytesD D w (.slice A bs.length cl) bs)] := (Own.start W).oldro (D := D) (p := (fun w => BytesD D w (.slice A bs.length cl) bs)) (bytesE_holds hB hD)
  refine sx_enter (args := [.int .u8 (x : Int), .slice A bs.length cl]) Tryd.func20 rfl rfl (by simp) ?_
  refine cw_seq (fun FK1 K1 => ?_)
  refine cw_region ?_
  obtain ⟨g2, w3, r4, O5, hg6, hs7⟩ := own_box O0 32 (.slice A bs.length cl) rfl
  refine wl_val (v := .pointer (some ⟨g2, 0, none⟩)) (fun ρ e => r4 ρ _ _ _ _ _ _ (e _ _ rfl)) rfl rfl ?_
  refine wl_val (v := .slice none 0 0) (fun ρ e => ex_assign (e _ _ rfl)) rfl rfl ?_
  refine wl_nil ?_
  refine xw_next K1 ?_
  refine cw_seq (fun FK8 K8 => ?_)
  refine cw_region ?_
  refine wl_val (v := .int .u8 (x : Int)) (fun ρ e => ex_move (e _ _ rfl)) rfl rfl ?_
  obtain ⟨k9, hk9, lk9⟩ : ∃ q, x % 40 = q ∧ q < 40 := ⟨_, rfl, Nat.mod_lt _ (by omega)⟩
  refine wl_val (v := .int .u8 (k9 : Int)) (fun ρ e => ex_rem8 (a := x) (b := 40) (e _ _ rfl) (e _ _ rfl) (by omega) hk9) rfl rfl ?_
  refine wl_val (v := .int .i64 (k9 : Int)) (fun ρ e => ex_conv8 (e _ _ rfl) (by omega)) rfl rfl ?_
  obtain ⟨n, hn⟩ : ∃ q, q = 1 + k9 := ⟨_, rfl⟩
  refine wl_val (v := .int .i64 (n : Int)) (fun ρ e => ex_arith (k := .i64) (u := 1) (v := (k9 : Int)) (e _ _ rfl) (e _ _ rfl) (congrArg some ((congrArg _ (show _ = (n : Int) by omega)).trans (wrap_in (by omega) (by omega))))) rfl rfl ?_
  refine wl_val (v := .int .i64 (n : Int)) (fun ρ e => ex_assign (e _ _ rfl)) rfl rfl ?_
  refine wl_nil ?_
  refine xw_next K8 ?_
  refine cw_seq (fun FK10 K10 => ?_)
  refine cw_region ?_
  obtain ⟨g11, w12, r13, O14, hg15, hs16⟩ := own_alloc O5 3 ze3 rfl
  refine wl_val (v := .pointer (some ⟨g11, 0, none⟩)) (fun ρ e => r13 ρ _ _ _ _ _) rfl rfl ?_
  obtain ⟨w17, r18, O19, hs20⟩ := own_put (o := 0) (n := 1) O14 ty3 (.int .i64 0) [.int .i64 0] (cs' := #[.int .i64 0]) rfl rfl rfl (Nat.le_of_ble_eq_true rfl) rfl
  refine wl_none (fun ρ e => r18 ρ _ _ _ _ _ _ (e _ _ rfl) (e _ _ rfl)) rfl ?_
  refine wl_nil ?_
  refine xw_next K10 ?_
  refine cw_seq (fun FK21 K21 => ?_)
  refine cw_region ?_
  refine wl_val (v := .func (.func 51) #[] #[.pointer (some ⟨g11, 0, none⟩), .pointer (some ⟨g2, 0, none⟩)]) (fun ρ e => ex_func (us := []) (vs := [.pointer (some ⟨g11, 0, none⟩), .pointer (some ⟨g2, 0, none⟩)]) (e.list rfl) (e.list rfl)) rfl rfl ?_
  obtain ⟨g22, w23, r24, O25, hg26, hs27⟩ := own_alloc O19 68 ze68 rfl
  refine wl_val (v := .pointer (some ⟨g22, 0, none⟩)) (fun ρ e => r24 ρ _ _ _ _ _) rfl rfl ?_
  obtain ⟨w28, r29, O30, hs31⟩ := own_put (o := 0) (n := 1) O25 ty68 (.func (.func 51) #[] #[.pointer (some ⟨g11, 0, none⟩), .pointer (some ⟨g2, 0, none⟩)]) [.func (.func 51) #[] #[.pointer (some ⟨g11, 0, none⟩), .pointer (some ⟨g2, 0, none⟩)]] (cs' := #[.func (.func 51) #[] #[.pointer (some ⟨g11, 0, none⟩), .pointer (some ⟨g2, 0, none⟩)]]) rfl rfl rfl (Nat.le_of_ble_eq_true rfl) rfl
  refine wl_none (fun ρ e => r29 ρ _ _ _ _ _ _ (e _ _ rfl) (e _ _ rfl)) rfl ?_
  refine wl_nil ?_
  refine xw_next K21 ?_
  refine cw_seq (fun FK32 K32 => ?_)
  refine cw_region ?_
  refine wl_val (v := .int .i64 (n : Int)) (fun ρ e => ex_move (e _ _ rfl)) rfl rfl ?_
  obtain ⟨g33, w34, r35, O36, hg37, hs38⟩ := own_make1 O30 ap36 rfl n (by decide) (by omega) (cs := (intCs (numL n 0)).toArray) (by rw [numL_zero]; simp [intCs])
  refine wl_val (v := .slice (some ⟨g33, 0, none⟩) n n) (fun ρ e => r35 ρ _ _ _ _ _ _ _ (e _ _ rfl) (e _ _ rfl)) rfl rfl ?_
  refine wl_val (v := .slice (some ⟨g33, 0, none⟩) n n) (fun ρ e => ex_assign (e _ _ rfl)) rfl rfl ?_
  refine wl_nil ?_
  refine xw_next K32 ?_
  refine cw_seq (fun FK39 K39 => ?_)
  refine cw_seq (fun FK40 K40 => ?_)
  refine cw_region ?_
  refine wl_val (v := .slice (some ⟨g33, 0, none⟩) n n) (fun ρ e => ex_move (e _ _ rfl)) rfl rfl ?_
  refine wl_val (v := .int .i64 (n : Int)) (fun ρ e => ex_len el36 (e _ _ rfl)) rfl rfl ?_
  refine wl_val (v := .int .i64 0) (fun ρ e => ex_move (e _ _ rfl)) rfl rfl ?_
  refine wl_nil ?_
  refine xw_next K40 ?_
  refine cw_block ?_
  have O41 : Own Z0 W w34 [.blk g11 3 #[.int .i64 0], .blk g2 32 #[.slice A bs.length cl], .blk g22 68 #[.func (.func 51) #[] #[.pointer (some ⟨g11, 0, none⟩), .pointer (some ⟨g2, 0, none⟩)]], .blk g33 3 ((intCs (numL n 0)).toArray), .ro D (fun w => BytesD D w (.slice A bs.length cl) bs)] := (O36.re [2, 3, 1, 0, 4] rfl : Own Z0 W w34 [.blk g11 3 #[.int .i64 0], .blk g2 32 #[.slice A bs.length cl], .blk g22 68 #[.func (.func 51) #[] #[.pointer (some ⟨g11, 0, none⟩), .pointer (some ⟨g2, 0, none⟩)]], .blk g33 3 ((intCs (numL n 0)).toArray), .ro D (fun w => BytesD D w (.slice A bs.length cl) bs)])
  refine cw_loop (ι := Nat) (fun q => [(5, .int .i64 (n : Int)), (7, .pointer (some ⟨g22, 0, none⟩)), (8, .slice (some ⟨g33, 0, none⟩) n n), (22, .int .i64 (n : Int)), (23, .int .i64 (q : Int))]) (fun q X => (q ≤ n) ∧ Own Z0 W X [.blk g11 3 #[.int .i64 0], .blk g2 32 #[.slice A bs.length cl], .blk g22 68 #[.func (.func 51) #[] #[.pointer (some ⟨g11, 0, none⟩), .pointer (some ⟨g2, 0, none⟩)]], .blk g33 3 ((intCs (numL n q)).toArray), .ro D (fun w => BytesD D w (.slice A bs.length cl) bs)]) (fun q => n - q) 0 ⟨Nat.zero_le _, O41⟩ ⟨rfl, rfl, rfl, rfl, rfl, trivial⟩ (fun q w42 hJ F43 K44 => ?_)
  obtain ⟨i, rfl⟩ : ∃ x, x = q := ⟨_, rfl⟩
  obtain ⟨hi0, O45⟩ := hJ
  try dsimp only at hi0 O45 ⊢
  by_cases hi : i < n
  · skip
    refine cw_seq (fun FK46 K46 => ?_)
    refine cw_region ?_
    refine wl_val (v := .bool true) (fun ρ e => ex_cmp (u := (i : Int)) (v := (n : Int)) (e _ _ rfl) (e _ _ rfl) (lss1 (by omega))) rfl rfl ?_
    refine wl_nil ?_
    refine xw_next K46 ?_
    refine cw_seq (fun FK47 K47 => ?_)
    refine cw_true rfl ?_
    refine cw_skip ?_
    refine xw_next K47 ?_
    refine cw_seq (fun FK48 K48 => ?_)
    refine cw_block ?_
    refine cw_seq (fun FK49 K49 => ?_)
    refine cw_region ?_
    refine wl_val (v := .int .i64 (i : Int)) (fun ρ e => ex_move (e _ _ rfl)) rfl rfl ?_
    refine wl_val (v := .int .i64 (i : Int)) (fun ρ e => ex_assign (e _ _ rfl)) rfl rfl ?_
    refine wl_nil ?_
    refine xw_next K49 ?_
    refine cw_region ?_
    refine wl_val (v := .slice (some ⟨g33, 0, none⟩) n n) (fun ρ e => ex_move (e _ _ rfl)) rfl rfl ?_
    refine wl_val (v := .int .i64 (i : Int)) (fun ρ e => ex_move (e _ _ rfl)) rfl rfl ?_
    refine wl_val (v := .int .i64 (i : Int)) (fun ρ e => ex_move (e _ _ rfl)) rfl rfl ?_
    refine wl_val (v := .int .i64 ((i + 1 : Nat) : Int)) (fun ρ e => ex_arith (k := .i64) (u := (i : Int)) (v := 1) (e _ _ rfl) (e _ _ rfl) (congrArg some ((congrArg _ (show _ = ((i + 1 : Nat) : Int) by omega)).trans (wrap_in (by omega) (by omega))))) rfl rfl ?_
    refine wl_val (v := .pointer (some ⟨g33, i, none⟩)) (fun ρ e => ex_idx (q := i) (i := i) el36 (e _ _ rfl) (e _ _ rfl) (by omega) (by omega)) rfl rfl ?_
    obtain ⟨w50, r51, O52, hs53⟩ := own_put (o := i) (n := 1) (O45.re [3, 0, 1, 2, 4] rfl : Own Z0 W w42 [.blk g33 3 ((intCs (numL n i)).toArray), .blk g11 3 #[.int .i64 0], .blk g2 32 #[.slice A bs.length cl], .blk g22 68 #[.func (.func 51) #[] #[.pointer (some ⟨g11, 0, none⟩), .pointer (some ⟨g2, 0, none⟩)]], .ro D (fun w => BytesD D w (.slice A bs.length cl) bs)]) ty3 (.int .i64 ((i + 1 : Nat) : Int)) [.int .i64 ((i + 1 : Nat) : Int)] (cs' := (intCs ((numL n i).set i ((i + 1 : Nat) : Int))).toArray) rfl rfl rfl (by simp [intCs, numL_len] <;> omega) (setI _ i ((i + 1 : Nat) : Int))
    refine wl_none (fun ρ e => r51 ρ _ _ _ _ _ _ (e _ _ rfl) (e _ _ rfl)) rfl ?_
    refine wl_nil ?_
    refine xw_block ?_
    refine xw_next K48 ?_
    refine cw_region ?_
    refine wl_val (v := .int .i64 ((i + 1 : Nat) : Int)) (fun ρ e => ex_arith (k := .i64) (u := (i : Int)) (v := 1) (e _ _ rfl) (e _ _ rfl) (congrArg some ((congrArg _ (show _ = ((i + 1 : Nat) : Int) by omega)).trans (wrap_in (by omega) (by omega))))) rfl rfl ?_
    refine wl_val (v := .int .i64 ((i + 1 : Nat) : Int)) (fun ρ e => ex_move (e _ _ rfl)) rfl rfl ?_
    refine wl_nil ?_
    have O54 : Own Z0 W w50 [.blk g11 3 #[.int .i64 0], .blk g2 32 #[.slice A bs.length cl], .blk g22 68 #[.func (.func 51) #[] #[.pointer (some ⟨g11, 0, none⟩), .pointer (some ⟨g2, 0, none⟩)]], .blk g33 3 ((intCs (numL n (i + 1))).toArray), .ro D (fun w => BytesD D w (.slice A bs.length cl) bs)] := by rw [← numL_set hi]; exact (O52.re [1, 2, 3, 0, 4] rfl : Own Z0 W w50 [.blk g11 3 #[.int .i64 0], .blk g2 32 #[.slice A bs.length cl], .blk g22 68 #[.func (.func 51) #[] #[.pointer (some ⟨g11, 0, none⟩), .pointer (some ⟨g2, 0, none⟩)]], .blk g33 3 ((intCs ((numL n i).set i ((i + 1 : Nat) : Int))).toArray), .ro D (fun w => BytesD D w (.slice A bs.length cl) bs)])
    refine xw_round K44 (i + 1) (by show n - (i + 1) < n - i; omega) ⟨(by show i + 1 ≤ n; omega), O54⟩ ⟨rfl, rfl, rfl, rfl, rfl, trivial⟩
  · have hie : i = n := by omega
    rw [hie] at O45
    refine cw_seq (fun FK55 K55 => ?_)
    refine cw_region ?_
    refine wl_val (v := .bool false) (fun ρ e => ex_cmp (u := (i : Int)) (v := (n : Int)) (e _ _ rfl) (e _ _ rfl) (lss0 (by omega))) rfl rfl ?_
    refine wl_nil ?_
    refine xw_next K55 ?_
    refine cw_seq (fun FK56 K56 => ?_)
    refine cw_false rfl ?_
    refine cw_exit ?_
    refine xw_past (by intro h; cases h) ?_
    refine xw_past (by intro h; cases h) ?_
    refine xw_here ?_
    refine xw_next K39 ?_
    refine cw_seq (fun FK57 K57 => ?_)
    refine cw_seq (fun FK58 K58 => ?_)
    refine cw_region ?_
    refine wl_val (v := .slice (some ⟨g33, 0, none⟩) n n) (fun ρ e => ex_move (e _ _ rfl)) rfl rfl ?_
    refine wl_val (v := .int .i64 (n : Int)) (fun ρ e => ex_len el36 (e _ _ rfl)) rfl rfl ?_
    refine wl_val (v := .int .i64 0) (fun ρ e => ex_move (e _ _ rfl)) rfl rfl ?_
    refine wl_nil ?_
    refine xw_next K58 ?_
    refine cw_block ?_
    have O59 : Own Z0 W w42 [.blk g11 3 #[.int .i64 0], .blk g2 32 #[.slice A bs.length cl], .blk g22 68 #[.func (.func 51) #[] #[.pointer (some ⟨g11, 0, none⟩), .pointer (some ⟨g2, 0, none⟩)]], .blk g33 3 ((intCs (numL n n)).toArray), .ro D (fun w => BytesD D w (.slice A bs.length cl) bs)] := O45
    have hz0 : ((0 : Nat) : Int) = 0 := rfl
    refine cw_loop (ι := Nat × List Int) (fun q => [(5, .int .i64 (n : Int)), (7, .pointer (some ⟨g22, 0, none⟩)), (8, .slice (some ⟨g33, 0, none⟩) n n), (33, .int .i64 (n : Int)), (34, .int .i64 (q.1 : Int))]) (fun q X => (q.1 ≤ n) ∧ (q.2.Perm (numL n n)) ∧ Own Z0 W X [.blk g11 3 #[.int .i64 (q.1 : Int)], .blk g2 32 #[.slice A bs.length cl], .blk g22 68 #[.func (.func 51) #[] #[.pointer (some ⟨g11, 0, none⟩), .pointer (some ⟨g2, 0, none⟩)]], .blk g33 3 ((intCs q.2).toArray), .ro D (fun w => BytesD D w (.slice A bs.length cl) bs)]) (fun q => n - q.1) (0, (numL n n)) ⟨Nat.zero_le _, List.Perm.refl _, O59⟩ ⟨rfl, rfl, rfl, rfl, rfl, trivial⟩ (fun q w60 hJ F61 K62 => ?_)
    obtain ⟨i, vs⟩ := q
    obtain ⟨hi0, hp, O63⟩ := hJ
    dsimp only at hi0 hp O63 ⊢
    have hlen : vs.length = n := by rw [hp.length_eq, numL_len]
    by_cases hi : i < n
    · skip
      obtain ⟨xi, hxi⟩ : ∃ v, vs[i]? = some v := ⟨vs[i], List.getElem?_eq_getElem (by omega)⟩
      refine cw_seq (fun FK64 K64 => ?_)
      refine cw_region ?_
      refine wl_val (v := .bool true) (fun ρ e => ex_cmp (u := (i : Int)) (v := (n : Int)) (e _ _ rfl) (e _ _ rfl) (lss1 (by omega))) rfl rfl ?_
      refine wl_nil ?_
      refine xw_next K64 ?_
      refine cw_seq (fun FK65 K65 => ?_)
      refine cw_true rfl ?_
      refine cw_skip ?_
      refine xw_next K65 ?_
      refine cw_seq (fun FK66 K66 => ?_)
      refine cw_block ?_
      refine cw_seq (fun FK67 K67 => ?_)
      refine cw_region ?_
      refine wl_val (v := .int .i64 (i : Int)) (fun ρ e => ex_move (e _ _ rfl)) rfl rfl ?_
      refine wl_val (v := .int .i64 (i : Int)) (fun ρ e => ex_assign (e _ _ rfl)) rfl rfl ?_
      refine wl_nil ?_
      refine xw_next K67 ?_
      refine cw_seq (fun FK68 K68 => ?_)
      refine cw_region ?_
      refine wl_val (v := .func (.func 51) #[] #[.pointer (some ⟨g11, 0, none⟩), .pointer (some ⟨g2, 0, none⟩)]) (fun ρ e => ex_load1 ty68 (e _ _ rfl) (O63.cell 2 0 rfl rfl)) rfl rfl ?_
      refine wl_callv (args := []) (all := [.pointer (some ⟨g11, 0, none⟩), .pointer (some ⟨g2, 0, none⟩)]) in_51 rfl rfl rfl rfl rfl ?_
      have O73h := Own.hand (A := [.blk g11 3 #[.int .i64 (i : Int)], .blk g2 32 #[.slice A bs.length cl], .ro D (fun w => BytesD D w (.slice A bs.length cl) bs)]) (R := [.blk g22 68 #[.func (.func 51) #[] #[.pointer (some ⟨g11, 0, none⟩), .pointer (some ⟨g2, 0, none⟩)]], .blk g33 3 ((intCs vs).toArray)]) (O63.re [0, 1, 4, 2, 3] rfl : Own Z0 W w60 [.blk g11 3 #[.int .i64 (i : Int)], .blk g2 32 #[.slice A bs.length cl], .ro D (fun w => BytesD D w (.slice A bs.length cl) bs), .blk g22 68 #[.func (.func 51) #[] #[.pointer (some ⟨g11, 0, none⟩), .pointer (some ⟨g2, 0, none⟩)]], .blk g33 3 ((intCs vs).toArray)])
      refine (next_ (a := i) O73h (by omega) hbs).mono ?_
      rintro _ w71 ⟨r69, hr70, rfl, h72⟩
      have O73 : Own Z0 W w71 [.blk g11 3 #[.int .i64 ((i + 1 : Nat) : Int)], .blk g2 32 #[.slice A bs.length cl], .ro D (fun w => BytesD D w (.slice A bs.length cl) bs), .blk g22 68 #[.func (.func 51) #[] #[.pointer (some ⟨g11, 0, none⟩), .pointer (some ⟨g2, 0, none⟩)]], .blk g33 3 ((intCs vs).toArray)] := Own.frame (A := [.blk g11 3 #[.int .i64 (i : Int)], .blk g2 32 #[.slice A bs.length cl], .ro D (fun w => BytesD D w (.slice A bs.length cl) bs)]) (R := [.blk g22 68 #[.func (.func 51) #[] #[.pointer (some ⟨g11, 0, none⟩), .pointer (some ⟨g2, 0, none⟩)]], .blk g33 3 ((intCs vs).toArray)]) (O63.re [0, 1, 4, 2, 3] rfl : Own Z0 W w60 [.blk g11 3 #[.int .i64 (i : Int)], .blk g2 32 #[.slice A bs.length cl], .ro D (fun w => BytesD D w (.slice A bs.length cl) bs), .blk g22 68 #[.func (.func 51) #[] #[.pointer (some ⟨g11, 0, none⟩), .pointer (some ⟨g2, 0, none⟩)]], .blk g33 3 ((intCs vs).toArray)]) h72
      refine ⟨_, rfl, ?_⟩
      refine wl_val (v := .int .i64 (n : Int)) (fun ρ e => ex_move (e _ _ rfl)) rfl rfl ?_
      obtain ⟨k74, hk74, lk74⟩ : ∃ q, r69 % n = q ∧ q < n := ⟨_, rfl, Nat.mod_lt _ (by omega)⟩
      obtain ⟨xk, hxk⟩ : ∃ v, vs[k74]? = some v := ⟨vs[k74], List.getElem?_eq_getElem (by omega)⟩
      refine wl_val (v := .int .i64 (k74 : Int)) (fun ρ e => ex_remg (a := r69) (b := n) (e _ _ rfl) (e _ _ rfl) (by omega) hk74) rfl rfl ?_
      refine wl_val (v := .int .i64 (k74 : Int)) (fun ρ e => ex_assign (e _ _ rfl)) rfl rfl ?_
      refine wl_nil ?_
      refine xw_next K68 ?_
      refine cw_drawn (fun X => Own Z0 W X [.blk g11 3 #[.int .i64 ((i + 1 : Nat) : Int)], .blk g2 32 #[.slice A bs.length cl], .ro D (fun w => BytesD D w (.slice A bs.length cl) bs), .blk g22 68 #[.func (.func 51) #[] #[.pointer (some ⟨g11, 0, none⟩), .pointer (some ⟨g2, 0, none⟩)]], .blk g33 3 ((intCs vs).toArray)]) 13 [(0, 1), (1, 1), (2, 1), (3, 1), (4, 1), (5, 1), (6, 1), (7, 0), (8, 1), (9, 1), (10, 1), (11, 0), (12, 1), (13, 3), (14, 1), (15, 3)] (by kernel_rfl) (by kernel_rfl) (PQ.block (PQ.then_ (PQ.then_ (PQ.block (PQ.then_ PQ.body))))) (O73).drew ?_
      have O75 : Own Z0 W w71.drew [.blk g11 3 #[.int .i64 ((i + 1 : Nat) : Int)], .blk g2 32 #[.slice A bs.length cl], .ro D (fun w => BytesD D w (.slice A bs.length cl) bs), .blk g22 68 #[.func (.func 51) #[] #[.pointer (some ⟨g11, 0, none⟩), .pointer (some ⟨g2, 0, none⟩)]], .blk g33 3 ((intCs vs).toArray)] := O73.drew
      refine wt1 (v := .slice (some ⟨g33, 0, none⟩) n n) rfl (fun ρ e W => ex_move (e _ _ rfl)) rfl rfl ?_
      refine wt1 (v := .int .i64 (i : Int)) rfl (fun ρ e W => ex_move (e _ _ rfl)) rfl rfl ?_
      refine wt1 (v := .slice (some ⟨g33, 0, none⟩) n n) rfl (fun ρ e W => ex_move (e _ _ rfl)) rfl rfl ?_
      refine wt1 (v := .int .i64 (k74 : Int)) rfl (fun ρ e W => ex_move (e _ _ rfl)) rfl rfl ?_
      refine wt1 (v := .slice (some ⟨g33, 0, none⟩) n n) rfl (fun ρ e W => ex_move (e _ _ rfl)) rfl rfl ?_
      refine wt1 (v := .int .i64 (k74 : Int)) rfl (fun ρ e W => ex_move (e _ _ rfl)) rfl rfl ?_
      refine wt1 (v := .pointer (some ⟨g33, k74, none⟩)) rfl (fun ρ e W => ex_idx (q := k74) (i := k74) el36 (e _ _ rfl) (e _ _ rfl) (by omega) (by omega)) rfl rfl ?_
      refine wt0 (v := .int .i64 xk) rfl (fun ρ e W hW => ex_load1 ty3 (e _ _ rfl) (((hW.blk 4 rfl).cell _).trans (getI hxk))) rfl rfl ?_
      refine wt1 (v := .slice (some ⟨g33, 0, none⟩) n n) rfl (fun ρ e W => ex_move (e _ _ rfl)) rfl rfl ?_
      refine wt1 (v := .int .i64 (i : Int)) rfl (fun ρ e W => ex_move (e _ _ rfl)) rfl rfl ?_
      refine wt1 (v := .pointer (some ⟨g33, i, none⟩)) rfl (fun ρ e W => ex_idx (q := i) (i := i) el36 (e _ _ rfl) (e _ _ rfl) (by omega) (by omega)) rfl rfl ?_
      refine wt0 (v := .int .i64 xi) rfl (fun ρ e W hW => ex_load1 ty3 (e _ _ rfl) (((hW.blk 4 rfl).cell _).trans (getI hxi))) rfl rfl ?_
      refine wt1 (v := .pointer (some ⟨g33, i, none⟩)) rfl (fun ρ e W => ex_idx (q := i) (i := i) el36 (e _ _ rfl) (e _ _ rfl) (by omega) (by omega)) rfl rfl ?_
      obtain ⟨w76, r77, O78, hs79⟩ := own_put (o := i) (n := 1) (O75.re [4, 0, 1, 2, 3] rfl : Own Z0 W w71.drew [.blk g33 3 ((intCs vs).toArray), .blk g11 3 #[.int .i64 ((i + 1 : Nat) : Int)], .blk g2 32 #[.slice A bs.length cl], .ro D (fun w => BytesD D w (.slice A bs.length cl) bs), .blk g22 68 #[.func (.func 51) #[] #[.pointer (some ⟨g11, 0, none⟩), .pointer (some ⟨g2, 0, none⟩)]]]) ty3 (.int .i64 xk) [.int .i64 xk] (cs' := (intCs (vs.set i xk)).toArray) rfl rfl rfl (by simp [intCs, numL_len] <;> omega) (setI _ i xk)
      refine wt3_none rfl (fun ρ e => r77 ρ _ _ _ _ _ _ (e _ _ rfl) (e _ _ rfl)) rfl ?_
      refine wt1 (v := .pointer (some ⟨g33, k74, none⟩)) rfl (fun ρ e W => ex_idx (q := k74) (i := k74) el36 (e _ _ rfl) (e _ _ rfl) (by omega) (by omega)) rfl rfl ?_
      obtain ⟨w80, r81, O82, hs83⟩ := own_put (o := k74) (n := 1) O78 ty3 (.int .i64 xi) [.int .i64 xi] (cs' := (intCs ((vs.set i xk).set k74 xi)).toArray) rfl rfl rfl (by simp [intCs, numL_len] <;> omega) (setI _ k74 xi)
      refine wt3_none rfl (fun ρ e => r81 ρ _ _ _ _ _ _ (e _ _ rfl) (e _ _ rfl)) rfl ?_
      refine wt_nil ?_
      refine xw_block ?_
      refine xw_next K66 ?_
      refine cw_region ?_
      refine wl_val (v := .int .i64 ((i + 1 : Nat) : Int)) (fun ρ e => ex_arith (k := .i64) (u := (i : Int)) (v := 1) (e _ _ rfl) (e _ _ rfl) (congrArg some ((congrArg _ (show _ = ((i + 1 : Nat) : Int) by omega)).trans (wrap_in (by omega) (by omega))))) rfl rfl ?_
      refine wl_val (v := .int .i64 ((i + 1 : Nat) : Int)) (fun ρ e => ex_move (e _ _ rfl)) rfl rfl ?_
      refine wl_nil ?_
      refine xw_round K62 (i + 1, ((vs.set i xk).set k74 xi)) (by show n - (i + 1) < n - i; omega) ⟨(by show i + 1 ≤ n; omega), (swap_perm hxi hxk hp), (O82.re [1, 2, 4, 0, 3] rfl : Own Z0 W w80 [.blk g11 3 #[.int .i64 ((i + 1 : Nat) : Int)], .blk g2 32 #[.slice A bs.length cl], .blk g22 68 #[.func (.func 51) #[] #[.pointer (some ⟨g11, 0, none⟩), .pointer (some ⟨g2, 0, none⟩)]], .blk g33 3 ((intCs ((vs.set i xk).set k74 xi)).toArray), .ro D (fun w => BytesD D w (.slice A bs.length cl) bs)])⟩ ⟨rfl, rfl, rfl, rfl, rfl, trivial⟩
    · have hie : i = n := by omega
      refine cw_seq (fun FK84 K84 => ?_)
      refine cw_region ?_
      refine wl_val (v := .bool false) (fun ρ e => ex_cmp (u := (i : Int)) (v := (n : Int)) (e _ _ rfl) (e _ _ rfl) (lss0 (by omega))) rfl rfl ?_
      refine wl_nil ?_
      refine xw_next K84 ?_
      refine cw_seq (fun FK85 K85 => ?_)
      refine cw_false rfl ?_
      refine cw_exit ?_
      refine xw_past (by intro h; cases h) ?_
      refine xw_past (by intro h; cases h) ?_
      refine xw_here ?_
      refine xw_next K57 ?_
      refine cw_seq (fun FK86 K86 => ?_)
      refine cw_region ?_
      obtain ⟨g87, w88, r89, O90, hg91, hs92⟩ := own_alloc O63 23 ze23 rfl
      refine wl_val (v := .pointer (some ⟨g87, 0, none⟩)) (fun ρ e => r89 ρ _ _ _ _ _) rfl rfl ?_
      refine wl_nil ?_
      refine xw_next K86 ?_
      refine cw_seq (fun FK93 K93 => ?_)
      refine cw_region ?_
      obtain ⟨g94, w95, r96, O97, hg98, hs99⟩ := own_alloc O90 69 ze69 rfl
      refine wl_val (v := .pointer (some ⟨g94, 0, none⟩)) (fun ρ e => r96 ρ _ _ _ _ _) rfl rfl ?_
      refine wl_nil ?_
      refine xw_next K93 ?_
      refine cw_seq (fun FK100 K100 => ?_)
      refine cw_region ?_
      refine wl_val (v := .func (.func 52) #[] #[.pointer (some ⟨g22, 0, none⟩), .pointer (some ⟨g94, 0, none⟩), .pointer (some ⟨g87, 0, none⟩)]) (fun ρ e => ex_func (us := []) (vs := [.pointer (some ⟨g22, 0, none⟩), .pointer (some ⟨g94, 0, none⟩), .pointer (some ⟨g87, 0, none⟩)]) (e.list rfl) (e.list rfl)) rfl rfl ?_
      obtain ⟨w101, r102, O103, hs104⟩ := own_put (o := 0) (n := 1) O97 ty69 (.func (.func 52) #[] #[.pointer (some ⟨g22, 0, none⟩), .pointer (some ⟨g94, 0, none⟩), .pointer (some ⟨g87, 0, none⟩)]) [.func (.func 52) #[] #[.pointer (some ⟨g22, 0, none⟩), .pointer (some ⟨g94, 0, none⟩), .pointer (some ⟨g87, 0, none⟩)]] (cs' := #[.func (.func 52) #[] #[.pointer (some ⟨g22, 0, none⟩), .pointer (some ⟨g94, 0, none⟩), .pointer (some ⟨g87, 0, none⟩)]]) rfl rfl rfl (Nat.le_of_ble_eq_true rfl) rfl
      refine wl_none (fun ρ e => r102 ρ _ _ _ _ _ _ (e _ _ rfl) (e _ _ rfl)) rfl ?_
      refine wl_nil ?_
      refine xw_next K100 ?_
      refine cw_seq (fun FK105 K105 => ?_)
      refine cw_region ?_
      refine wl_val (v := .func (.func 52) #[] #[.pointer (some ⟨g22, 0, none⟩), .pointer (some ⟨g94, 0, none⟩), .pointer (some ⟨g87, 0, none⟩)]) (fun ρ e => ex_load1 ty69 (e _ _ rfl) (O103.cell 0 0 rfl rfl)) rfl rfl ?_
      refine wl_val (v := .slice (some ⟨g33, 0, none⟩) n n) (fun ρ e => ex_move (e _ _ rfl)) rfl rfl ?_
      refine wl_callv (args := [.slice (some ⟨g33, 0, none⟩) n n]) (all := [.slice (some ⟨g33, 0, none⟩) n n, .pointer (some ⟨g22, 0, none⟩), .pointer (some ⟨g94, 0, none⟩), .pointer (some ⟨g87, 0, none⟩)]) in_52 rfl rfl rfl rfl rfl ?_
      have O106 : Own Z0 W w101 [.row (.slice none 0 0) 38 3 0 (ncells []), .blk g94 69 #[.func (.func 52) #[] #[.pointer (some ⟨g22, 0, none⟩), .pointer (some ⟨g94, 0, none⟩), .pointer (some ⟨g87, 0, none⟩)]], .blk g87 23 #[.slice none 0 0], .blk g11 3 #[.int .i64 (i : Int)], .blk g2 32 #[.slice A bs.length cl], .blk g22 68 #[.func (.func 51) #[] #[.pointer (some ⟨g11, 0, none⟩), .pointer (some ⟨g2, 0, none⟩)]], .blk g33 3 ((intCs vs).toArray), .ro D (fun w => BytesD D w (.slice A bs.length cl) bs)] := O103.nilrow 38 3
      have hL : vs.length = n := hlen
      have O114h := Own.hand (A := [.blk g11 3 #[.int .i64 (i : Int)], .blk g2 32 #[.slice A bs.length cl], .blk g22 68 #[.func (.func 51) #[] #[.pointer (some ⟨g11, 0, none⟩), .pointer (some ⟨g2, 0, none⟩)]], .blk g94 69 #[.func (.func 52) #[] #[.pointer (some ⟨g22, 0, none⟩), .pointer (some ⟨g94, 0, none⟩), .pointer (some ⟨g87, 0, none⟩)]], .blk g87 23 #[.slice none 0 0], .row (.slice none 0 0) 38 3 0 (ncells []), .blk g33 3 ((intCs vs).toArray), .ro D (fun w => BytesD D w (.slice A bs.length cl) bs)]) (R := []) (O106.re [3, 4, 5, 1, 2, 0, 6, 7] rfl : Own Z0 W w101 [.blk g11 3 #[.int .i64 (i : Int)], .blk g2 32 #[.slice A bs.length cl], .blk g22 68 #[.func (.func 51) #[] #[.pointer (some ⟨g11, 0, none⟩), .pointer (some ⟨g2, 0, none⟩)]], .blk g94 69 #[.func (.func 52) #[] #[.pointer (some ⟨g22, 0, none⟩), .pointer (some ⟨g94, 0, none⟩), .pointer (some ⟨g87, 0, none⟩)]], .blk g87 23 #[.slice none 0 0], .row (.slice none 0 0) 38 3 0 (ncells []), .blk g33 3 ((intCs vs).toArray), .ro D (fun w => BytesD D w (.slice A bs.length cl) bs)])
      refine (gpart_ hbs n 0 n n (by rw [hL]; omega) (by omega) (by omega) (by omega) _ _ _ _ _ _ [] i O114h (by omega) (by omega)).mono ?_
      rintro _ w112 ⟨T107, A110, c111, hlv108, hsz109, rfl, h113⟩
      have O114 : Own Z0 W w112 [.blk g11 3 #[.int .i64 ((i + (n - 1) : Nat) : Int)], .blk g2 32 #[.slice A bs.length cl], .blk g22 68 #[.func (.func 51) #[] #[.pointer (some ⟨g11, 0, none⟩), .pointer (some ⟨g2, 0, none⟩)]], .blk g94 69 #[.func (.func 52) #[] #[.pointer (some ⟨g22, 0, none⟩), .pointer (some ⟨g94, 0, none⟩), .pointer (some ⟨g87, 0, none⟩)]], .blk g87 23 #[.slice A110 (0 + (2 * n - 1)) c111], .row (.slice A110 (0 + (2 * n - 1)) c111) 38 3 (0 + (2 * n - 1)) (ncells ([] ++ post T107 0)), .blk g33 3 ((intCs vs).toArray), .ro D (fun w => BytesD D w (.slice A bs.length cl) bs)] := Own.frame (A := [.blk g11 3 #[.int .i64 (i : Int)], .blk g2 32 #[.slice A bs.length cl], .blk g22 68 #[.func (.func 51) #[] #[.pointer (some ⟨g11, 0, none⟩), .pointer (some ⟨g2, 0, none⟩)]], .blk g94 69 #[.func (.func 52) #[] #[.pointer (some ⟨g22, 0, none⟩), .pointer (some ⟨g94, 0, none⟩), .pointer (some ⟨g87, 0, none⟩)]], .blk g87 23 #[.slice none 0 0], .row (.slice none 0 0) 38 3 0 (ncells []), .blk g33 3 ((intCs vs).toArray), .ro D (fun w => BytesD D w (.slice A bs.length cl) bs)]) (R := []) (O106.re [3, 4, 5, 1, 2, 0, 6, 7] rfl : Own Z0 W w101 [.blk g11 3 #[.int .i64 (i : Int)], .blk g2 32 #[.slice A bs.length cl], .blk g22 68 #[.func (.func 51) #[] #[.pointer (some ⟨g11, 0, none⟩), .pointer (some ⟨g2, 0, none⟩)]], .blk g94 69 #[.func (.func 52) #[] #[.pointer (some ⟨g22, 0, none⟩), .pointer (some ⟨g94, 0, none⟩), .pointer (some ⟨g87, 0, none⟩)]], .blk g87 23 #[.slice none 0 0], .row (.slice none 0 0) 38 3 0 (ncells []), .blk g33 3 ((intCs vs).toArray), .ro D (fun w => BytesD D w (.slice A bs.length cl) bs)]) h113
      refine ⟨_, rfl, ?_⟩
      refine wl_nil ?_
      refine xw_next K105 ?_
      refine cw_seq (fun FK115 K115 => ?_)
      refine cw_region ?_
      refine wl_val (v := .slice A110 (0 + (2 * n - 1)) c111) (fun ρ e => ex_load1 ty23 (e _ _ rfl) (O114.cell 4 0 rfl rfl)) rfl rfl ?_
      refine wl_val (v := .slice A110 (0 + (2 * n - 1)) c111) (fun ρ e => ex_assign (e _ _ rfl)) rfl rfl ?_
      refine wl_nil ?_
      refine xw_next K115 ?_
      refine cw_ret ?_
      refine xw_ret (v := .slice A110 (0 + (2 * n - 1)) c111) (fun T hT => res1 rfl T _ (hT 4 _ rfl)) ?_
      have hlv : T107.leaves = vs := by rw [hlv108, List.drop_zero]; exact List.take_of_length_le (by omega)
      have hO := (O114.re [5] rfl : Own Z0 W w112 [.row (.slice A110 (0 + (2 * n - 1)) c111) 38 3 (0 + (2 * n - 1)) (ncells ([] ++ post T107 0))])
      rw [Nat.zero_add, List.nil_append, ← hsz109] at hO
      exact ⟨T107, A110, c111, ⟨hlv ▸ (hp.nodup_iff.2 (numL_nodup n)), fun v hv => numL_in (by omega) (hp.mem_iff.1 (hlv ▸ hv))⟩, by rw [hlv, hlen, hn, ← hk9], by rw [Nat.zero_add, hsz109], hO⟩

end Go.Proofs.YtpeoodkepjhhiaaDoor
namespace Go.Proofs.YtpeoodkepjhhiaaDoor
open Go Go.ChangeShapes Go.WideShapes Go.ChangeAt Go.RowKit Go.Deep Go.Joins
section
variable {H : Type} {enc : TypeId × Value → H} {W : World} {held : Bool}
theorem open_bytesD {fuel : Nat} {cs : List Value} {x : DataW H × List MemPlace} (h : DataW.trod enc Tryd.prog W 0 (fun _ => true) held fuel 32 cs = some x) :
    ∃ v bs, cs = [v] ∧ BytesD (fun k => k < W.heap.size) W v bs := by
  rcases open_ints Tryd.underlying32 Tryd.underlying5 (by kernel_rfl) h with ⟨rfl, rfl⟩ | ⟨a, len, cap, zs, rfl, _, hl, hm, hz, rfl, hc, hw⟩
  · exact ⟨_, [], rfl, none, 0, rfl, by simp, by unfold maxLen; omega, fun h => by simp at h⟩
  · simp only [if_true] at hz
    have hlen : ((zs.take len).map Int.toNat).length = len := by rw [List.length_map, List.length_take]; omega
    refine ⟨_, (zs.take len).map Int.toNat, rfl, some a, cap, by rw [hlen], by rw [hlen]; exact hl, hm, fun hp => ?_⟩
    have h0 := hc 0 (by omega)
    have ha : a.add 0 = a := by simp [Addr.add]
    rw [ha] at h0
    have he := addr_eta h0
    refine ⟨a.block, a.off, block_lt h0, by rw [← he], fun i y hy => ?_⟩
    have hi : i < len := by
      have := (List.getElem?_eq_some_iff.1 hy).1
      omega
    have h1 := hc i (by omega)
    rw [he, addr_add] at h1
    rw [List.getElem?_map, List.getElem?_take_of_lt hi] at hy
    obtain ⟨z, hz2, rfl⟩ := Option.map_eq_some_iff.1 hy
    rw [List.getD_eq_getElem?_getD, hz2] at h1
    have hwz := hw z (List.mem_of_getElem? hz2)
    simp [Lit.wf] at hwz
    have e1 : IntKind.u8.min = 0 := rfl
    have e2 : IntKind.u8.max = 255 := rfl
    rw [e1, e2] at hwz
    have e3 : ((z.toNat : Nat) : Int) = z := by omega
    rw [e3]
    exact ⟨by simpa using h1, by omega⟩
set_option maxRecDepth 100000 in
theorem open_bl {r : Reach} {b0 : Nat} {v : Value} {d : DataW H} {p : List MemPlace} (hv : Value.okWide Tryd.prog W r b0 32 v) (h : DataW.Trod enc Tryd.prog W 0 (fun _ => true) held 32 v d p) : ∃ bs, BytesD (fun k => k < W.heap.size) W v bs := by
  obtain ⟨fuel, hf⟩ := h
  rw [slice_cells Tryd.underlying32 hv] at hf
  obtain ⟨v', bs, h1, h2⟩ := open_bytesD hf
  injection h1 with h1 _
  exact ⟨bs, h1 ▸ h2⟩
end
theorem byte_nat {x : Int} (h : (Lit.int .u8 x).wf = true) : ∃ n : Nat, n ≤ 255 ∧ x = (n : Int) := by
  simp [Lit.wf] at h
  have e1 : IntKind.u8.min = 0 := rfl
  have e2 : IntKind.u8.max = 255 := rfl
  rw [e1, e2] at h
  exact ⟨x.toNat, by omega, by omega⟩
end Go.Proofs.YtpeoodkepjhhiaaDoor
namespace Go.Proofs.YtpeoodkepjhhiaaDoor
open Go Go.RowKit
def leavesOf (ts : List VN) : List Int := (ts.map (·.v)).filter fun v => decide (v ≠ 0)
def lvT (ts : List VN) (i : Nat) : List Int := leavesOf (ts.take i)
theorem lvT_zero (ts : List VN) : lvT ts 0 = [] := by simp [lvT, leavesOf]
theorem lvT_all (ts : List VN) : lvT ts ts.length = leavesOf ts := by unfold lvT; rw [List.take_length]
theorem lvT_le (ts : List VN) (i : Nat) : (lvT ts i).length ≤ i := by
  unfold lvT leavesOf
  refine Nat.le_trans (List.length_filter_le _ _) ?_
  rw [List.length_map, List.length_take]
  omega
theorem take_snoc {ts : List VN} {i : Nat} {x : VN} (h : ts[i]? = some x) : ts.take (i + 1) = ts.take i ++ [x] := by
  rw [List.take_add_one, h]; rfl
theorem lvT_zero_ {ts : List VN} {i : Nat} {l r v : Int} (h : ts[i]? = some ⟨l, r, v⟩) (hv : ¬ v ≠ 0) : lvT ts (i + 1) = lvT ts i := by
  have hv : v = 0 := by omega
  subst hv
  unfold lvT leavesOf
  rw [take_snoc h]
  simp
theorem lvT_more {ts : List VN} {i : Nat} {l r v : Int} (h : ts[i]? = some ⟨l, r, v⟩) (hv : v ≠ 0) : lvT ts (i + 1) = lvT ts i ++ [v] := by
  unfold lvT leavesOf
  rw [take_snoc h]
  simp [hv]
theorem intCs_snoc (l : List Int) (x : Int) : intCs l ++ [.int .i64 x] = intCs (l ++ [x]) := by simp [intCs]
theorem leaves_ {W : World} {D : Nat → Prop} {b o c : Nat} {ts : List VN} (hN : NodesD D W (.slice (some ⟨b, o, none⟩) ts.length c) ts) (hD : ∀ k, D k → k < W.heap.size) (hsz : ts.length ≤ 1000000) :
    Calls Tryd.prog 30 #[.slice (some ⟨b, o, none⟩) ts.length c] W fun e w' => ∃ A' c', e = .returned (.slice A' (leavesOf ts).length c') ∧ Own Z0 W w' [.row (.slice A' (leavesOf ts).length c') 3 1 (leavesOf ts).length (intCs (leavesOf ts))] := by
  have O0 : Own Z0 W W [.ro D (fun w => NodesD D w (.slice (some ⟨b, o, none⟩) ts.length c) ts)] := (Own.start W).oldro (D := D) (p := (fun w => NodesD D w (.slice (some ⟨b, o, none⟩) ts.length c) ts)) (nodesE_holds hN hD)
  refine sx_enter (args := [.slice (some ⟨b, o, none⟩) ts.length c]) Tryd.func30 rfl rfl (by simp) ?_
  refine cw_seq (fun FK1 K1 => ?_)
  refine cw_region ?_
  refine wl_val (v := .slice none 0 0) (fun ρ e => ex_assign (e _ _ rfl)) rfl rfl ?_
  refine wl_nil ?_
  refine xw_next K1 ?_
  refine cw_seq (fun FK2 K2 => ?_)
  refine cw_region ?_
  refine wl_val (v := .slice none 0 0) (fun ρ e => ex_assign (e _ _ rfl)) rfl rfl ?_
  refine wl_nil ?_
  refine xw_next K2 ?_
  refine cw_seq (fun FK3 K3 => ?_)
  refine cw_seq (fun FK4 K4 => ?_)
  refine cw_region ?_
  refine wl_val (v := .slice (some ⟨b, o, none⟩) ts.length c) (fun ρ e => ex_move (e _ _ rfl)) rfl rfl ?_
  refine wl_val (v := .int .i64 ((ts.length : Nat) : Int)) (fun ρ e => ex_len el23 (e _ _ rfl)) rfl rfl ?_
  refine wl_val (v := .int .i64 0) (fun ρ e => ex_move (e _ _ rfl)) rfl rfl ?_
  refine wl_nil ?_
  refine xw_next K4 ?_
  refine cw_block ?_
  have O5 : Own Z0 W W [.row (.slice none 0 0) 3 1 0 (intCs (lvT ts 0)), .ro D (fun w => NodesD D w (.slice (some ⟨b, o, none⟩) ts.length c) ts)] := by rw [lvT_zero]; exact (O0).nilrow 3 1
  refine cw_loop (ι := Nat × Nat × Option Addr × Nat) (fun q => [(6, .slice (some ⟨b, o, none⟩) ts.length c), (7, .int .i64 ((ts.length : Nat) : Int)), (3, .slice q.2.2.1 q.2.1 q.2.2.2), (8, .int .i64 (q.1 : Int))]) (fun q X => (q.1 ≤ ts.length) ∧ (q.2.1 = (lvT ts q.1).length) ∧ Own Z0 W X [.row (.slice q.2.2.1 q.2.1 q.2.2.2) 3 1 q.2.1 (intCs (lvT ts q.1)), .ro D (fun w => NodesD D w (.slice (some ⟨b, o, none⟩) ts.length c) ts)]) (fun q => ts.length - q.1) (0, 0, none, 0) ⟨Nat.zero_le _, (by rw [lvT_zero]; rfl), O5⟩ ⟨rfl, rfl, rfl, rfl, trivial⟩ (fun q w6 hJ F7 K8 => ?_)
  obtain ⟨i, n, R, rc⟩ := q
  obtain ⟨hi0, hn, O9⟩ := hJ
  dsimp only at hi0 hn O9 ⊢
  by_cases hi : i < ts.length
  · skip
    obtain ⟨⟨xl, xr, xv⟩, hx⟩ : ∃ x, ts[i]? = some x := ⟨ts[i], List.getElem?_eq_getElem hi⟩
    have hlv := lvT_le ts i
    refine cw_seq (fun FK10 K10 => ?_)
    refine cw_region ?_
    refine wl_val (v := .bool true) (fun ρ e => ex_cmp (u := (i : Int)) (v := ((ts.length : Nat) : Int)) (e _ _ rfl) (e _ _ rfl) (lss1 (by omega))) rfl rfl ?_
    refine wl_nil ?_
    refine xw_next K10 ?_
    refine cw_seq (fun FK11 K11 => ?_)
    refine cw_true rfl ?_
    refine cw_skip ?_
    refine xw_next K11 ?_
    refine cw_seq (fun FK12 K12 => ?_)
    refine cw_block ?_
    refine cw_seq (fun FK13 K13 => ?_)
    refine cw_region ?_
    refine wl_val (v := .pointer (some ⟨b, o + i * 3, none⟩)) (fun ρ e => ex_idx (q := o + i * 3) (i := i) el23 (e _ _ rfl) (e _ _ rfl) (by omega) (by omega)) rfl rfl ?_
    refine wl_val (v := .agg #[.int .i64 xl, .int .i64 xr, .int .i64 xv]) (fun ρ e => ex_loadN (vs := [.int .i64 xl, .int .i64 xr, .int .i64 xv]) ty38 (e _ _ rfl) rfl (cells3 (NodesD.c0 ((O9.ro 1 rfl : (fun w => NodesD D w (.slice (some ⟨b, o, none⟩) ts.length c) ts) _) : NodesD _ _ _ _) hx) (NodesD.c1 ((O9.ro 1 rfl : (fun w => NodesD D w (.slice (some ⟨b, o, none⟩) ts.length c) ts) _) : NodesD _ _ _ _) hx) (NodesD.c2 ((O9.ro 1 rfl : (fun w => NodesD D w (.slice (some ⟨b, o, none⟩) ts.length c) ts) _) : NodesD _ _ _ _) hx))) rfl rfl ?_
    obtain ⟨g14, w15, r16, O17, hg18, hs19⟩ := own_alloc O9 38 ze38 rfl
    refine wl_val (v := .pointer (some ⟨g14, 0, none⟩)) (fun ρ e => r16 ρ _ _ _ _ _) rfl rfl ?_
    obtain ⟨w20, r21, O22, hs23⟩ := own_put (o := 0) (n := 3) O17 ty38 (.agg #[.int .i64 xl, .int .i64 xr, .int .i64 xv]) [.int .i64 xl, .int .i64 xr, .int .i64 xv] (cs' := #[.int .i64 xl, .int .i64 xr, .int .i64 xv]) rfl rfl rfl (Nat.le_of_ble_eq_true rfl) rfl
    refine wl_none (fun ρ e => r21 ρ _ _ _ _ _ _ (e _ _ rfl) (e _ _ rfl)) rfl ?_
    refine wl_nil ?_
    refine xw_next K13 ?_
    refine cw_seq (fun FK24 K24 => ?_)
    refine cw_region ?_
    refine wl_val (v := .pointer (some ⟨g14, 2, none⟩)) (fun ρ e => ex_field (q := 2) fi38_2 (e _ _ rfl) rfl) rfl rfl ?_
    refine wl_val (v := .int .i64 xv) (fun ρ e => ex_load1 ty3 (e _ _ rfl) (O22.cell 0 2 rfl rfl)) rfl rfl ?_
    by_cases c25 : xv ≠ 0
    · skip
      refine wl_val (v := .bool true) (fun ρ e => ex_cmp (u := xv) (v := 0) (e _ _ rfl) (e _ _ rfl) (neq1 (by omega))) rfl rfl ?_
      refine wl_nil ?_
      refine xw_next K24 ?_
      refine cw_true rfl ?_
      refine cw_region ?_
      refine wl_val (v := .slice R n rc) (fun ρ e => ex_move (e _ _ rfl)) rfl rfl ?_
      refine wl_val (v := .pointer (some ⟨g14, 2, none⟩)) (fun ρ e => ex_field (q := 2) fi38_2 (e _ _ rfl) rfl) rfl rfl ?_
      refine wl_val (v := .int .i64 xv) (fun ρ e => ex_load1 ty3 (e _ _ rfl) (O22.cell 0 2 rfl rfl)) rfl rfl ?_
      obtain ⟨g26, w27, r28, O29, hg30, hs31⟩ := own_slice O22 el36 ze3 1 [(0, .int .i64 xv)] (cs := #[.int .i64 xv]) (by decide) (by kernel_rfl)
      refine wl_val (v := .slice (some ⟨g26, 0, none⟩) 1 1) (fun ρ e => r28 ρ _ _ _ _ _ _ (e.parts rfl)) rfl rfl ?_
      obtain ⟨A32, c33, w34, r35, O36, hz37, hc38⟩ := own_app1 (O29.re [2, 0, 1, 3] rfl : Own Z0 W w27 [.row (.slice R n rc) 3 1 n (intCs (lvT ts i)), .blk g26 3 #[.int .i64 xv], .blk g14 38 #[.int .i64 xl, .int .i64 xr, .int .i64 xv], .ro D (fun w => NodesD D w (.slice (some ⟨b, o, none⟩) ts.length c) ts)]) ap36 ((O29.re [2, 0, 1, 3] rfl : Own Z0 W w27 [.row (.slice R n rc) 3 1 n (intCs (lvT ts i)), .blk g26 3 #[.int .i64 xv], .blk g14 38 #[.int .i64 xl, .int .i64 xr, .int .i64 xv], .ro D (fun w => NodesD D w (.slice (some ⟨b, o, none⟩) ts.length c) ts)]).blk 1 rfl) (cells := [.int .i64 xv]) rfl rfl (by omega) (by omega) (ys := (intCs (lvT ts i ++ [xv]))) (intCs_snoc _ _)
      refine wl_val (v := .slice A32 (n + 1) c33) (fun ρ e => r35 ρ _ _ _ _ _ _ _ (e _ _ rfl) (e _ _ rfl)) rfl rfl ?_
      refine wl_val (v := .slice A32 (n + 1) c33) (fun ρ e => ex_assign (e _ _ rfl)) rfl rfl ?_
      refine wl_nil ?_
      refine xw_block ?_
      refine xw_next K12 ?_
      refine cw_region ?_
      refine wl_val (v := .int .i64 ((i + 1 : Nat) : Int)) (fun ρ e => ex_arith (k := .i64) (u := (i : Int)) (v := 1) (e _ _ rfl) (e _ _ rfl) (congrArg some ((congrArg _ (by omega)).trans (wrap_in (u := ((i + 1 : Nat) : Int)) (by omega) (by omega))))) rfl rfl ?_
      refine wl_val (v := .int .i64 ((i + 1 : Nat) : Int)) (fun ρ e => ex_move (e _ _ rfl)) rfl rfl ?_
      refine wl_nil ?_
      have hst : lvT ts (i + 1) = lvT ts i ++ [xv] := lvT_more hx c25
      have O39 : Own Z0 W w34 [.row (.slice A32 (n + 1) c33) 3 1 (n + 1) (intCs (lvT ts (i + 1))), .ro D (fun w => NodesD D w (.slice (some ⟨b, o, none⟩) ts.length c) ts)] := by rw [hst]; exact (O36.re [0, 3] rfl : Own Z0 W w34 [.row (.slice A32 (n + 1) c33) 3 1 (n + 1) (intCs (lvT ts i ++ [xv])), .ro D (fun w => NodesD D w (.slice (some ⟨b, o, none⟩) ts.length c) ts)])
      refine xw_round K8 (i + 1, n + 1, A32, c33) (by show ts.length - (i + 1) < ts.length - i; omega) ⟨(by show i + 1 ≤ ts.length; omega), (by show n + 1 = (lvT ts (i + 1)).length; rw [hst]; simp [hn]), O39⟩ ⟨rfl, rfl, rfl, rfl, trivial⟩
    · skip
      refine wl_val (v := .bool false) (fun ρ e => ex_cmp (u := xv) (v := 0) (e _ _ rfl) (e _ _ rfl) (neq0 (by omega))) rfl rfl ?_
      refine wl_nil ?_
      refine xw_next K24 ?_
      refine cw_false rfl ?_
      refine cw_skip ?_
      refine xw_block ?_
      refine xw_next K12 ?_
      refine cw_region ?_
      refine wl_val (v := .int .i64 ((i + 1 : Nat) : Int)) (fun ρ e => ex_arith (k := .i64) (u := (i : Int)) (v := 1) (e _ _ rfl) (e _ _ rfl) (congrArg some ((congrArg _ (by omega)).trans (wrap_in (u := ((i + 1 : Nat) : Int)) (by omega) (by omega))))) rfl rfl ?_
      refine wl_val (v := .int .i64 ((i + 1 : Nat) : Int)) (fun ρ e => ex_move (e _ _ rfl)) rfl rfl ?_
      refine wl_nil ?_
      have hst : lvT ts (i + 1) = lvT ts i := lvT_zero_ hx c25
      have O40 : Own Z0 W w20 [.row (.slice R n rc) 3 1 n (intCs (lvT ts (i + 1))), .ro D (fun w => NodesD D w (.slice (some ⟨b, o, none⟩) ts.length c) ts)] := by rw [hst]; exact (O22.re [1, 2] rfl : Own Z0 W w20 [.row (.slice R n rc) 3 1 n (intCs (lvT ts i)), .ro D (fun w => NodesD D w (.slice (some ⟨b, o, none⟩) ts.length c) ts)])
      refine xw_round K8 (i + 1, n, R, rc) (by show ts.length - (i + 1) < ts.length - i; omega) ⟨(by show i + 1 ≤ ts.length; omega), (by show n = (lvT ts (i + 1)).length; rw [hst]; simp [hn]), O40⟩ ⟨rfl, rfl, rfl, rfl, trivial⟩
  · have hie : i = ts.length := by omega
    refine cw_seq (fun FK41 K41 => ?_)
    refine cw_region ?_
    refine wl_val (v := .bool false) (fun ρ e => ex_cmp (u := (i : Int)) (v := ((ts.length : Nat) : Int)) (e _ _ rfl) (e _ _ rfl) (lss0 (by omega))) rfl rfl ?_
    refine wl_nil ?_
    refine xw_next K41 ?_
    refine cw_seq (fun FK42 K42 => ?_)
    refine cw_false rfl ?_
    refine cw_exit ?_
    refine xw_past (by intro h; cases h) ?_
    refine xw_past (by intro h; cases h) ?_
    refine xw_here ?_
    refine xw_next K3 ?_
    refine cw_seq (fun FK43 K43 => ?_)
    refine cw_region ?_
    refine wl_val (v := .slice R n rc) (fun ρ e => ex_move (e _ _ rfl)) rfl rfl ?_
    refine wl_val (v := .slice R n rc) (fun ρ e => ex_assign (e _ _ rfl)) rfl rfl ?_
    refine wl_nil ?_
    refine xw_next K43 ?_
    refine cw_ret ?_
    refine xw_ret (v := .slice R n rc) (fun T hT => res1 rfl T _ (hT 2 _ rfl)) ?_
    subst hie
    rw [lvT_all] at hn
    subst hn
    rw [lvT_all] at O9
    exact ⟨R, rc, rfl, O9.re [0] rfl⟩

end Go.Proofs.YtpeoodkepjhhiaaDoor
namespace Go.Proofs.YtpeoodkepjhhiaaDoor

def chainL (u : List Int) : Nat → Nat → List Int
  | 0, _ => []
  | n + 1, k => (k : Int) :: (match u[k]? with
    | none => []
    | some p => if p = -1 then [] else chainL u n p.toNat)
def chainOf (ts : List VN) (k : Nat) : List Int := chainL (parsOf ts) ts.length k
def firstIn (l m : List Int) : Int := match l.find? (fun x => decide (x ∈ m)) with
  | some x => x
  | none => -1
section
variable {ts : List VN}
end
end Go.Proofs.YtpeoodkepjhhiaaDoor
namespace Go.Proofs.YtpeoodkepjhhiaaDoor

/-- n numbers: the first i of them are those of the law, from y on. -/
def ordL (n y i : Nat) : List Int := (List.range n).map fun k => if k < i then ((1 + (k + y) % 128 : Nat) : Int) else 0
def Tr.depth : Tr → Nat
  | .leaf _ => 0
  | .node a b => max a.depth b.depth + 1
/-- Every left child is a leaf. -/
def chR : Tr → Prop
  | .leaf _ => True
  | .node a b => (∃ v, a = .leaf v) ∧ chR b
/-- Every right child is a leaf. -/
def chL : Tr → Prop
  | .leaf _ => True
  | .node a b => (∃ v, b = .leaf v) ∧ chL a
section
variable {ts : List VN}
end
/-- How the way up is counted: k is where it stands, or -1; d steps lie behind. -/
def UpTo (ts : List VN) (i : Nat) (k : Int) (d : Nat) : Prop := (k = -1 ∧ d + 1 = (chainOf ts i).length) ∨ ∃ m : Nat, k = (m : Int) ∧ m < ts.length ∧ d + 1 + (chainOf ts m).length = (chainOf ts i).length
end Go.Proofs.YtpeoodkepjhhiaaDoor
namespace Go.Proofs.YtpeoodkepjhhiaaDoor
theorem leaves_post : ∀ (T : Tr) (n : Nat), (∀ v ∈ T.leaves, 1 ≤ v ∧ v ≤ 128) → leavesOf (post T n) = T.leaves
  | .leaf v, n, h => by
    obtain ⟨h1, h2⟩ := h v (by simp [Tr.leaves])
    simp [post, leavesOf, Tr.leaves, show ¬ v = 0 by omega]
  | .node a b, n, h => by
    have h1 := leaves_post a n (fun v hv => h v (List.mem_append_left _ hv))
    have h2 := leaves_post b (n + a.size) (fun v hv => h v (List.mem_append_right _ hv))
    unfold leavesOf at h1 h2 ⊢
    simp only [post, List.map_append, List.filter_append, h1, h2, Tr.leaves]
    simp
end Go.Proofs.YtpeoodkepjhhiaaDoor
namespace Go.Proofs.YtpeoodkepjhhiaaDoor
open Go Go.RowKit
def rchkV (ts : List VN) : Int := if rokT ts then 0 else 1
section
variable {l : List VN} {xl xr xv : Int}
end
end Go.Proofs.YtpeoodkepjhhiaaDoor
namespace Go.Proofs.YtpeoodkepjhhiaaDoor
open Go Go.RowKit
end Go.Proofs.YtpeoodkepjhhiaaDoor
namespace Go.Proofs.YtpeoodkepjhhiaaDoor

def setT : Tr → VS
  | .leaf v => VS.empty.with_ v
  | .node a b => (setT a).union (setT b)
theorem has_setT (u : Int) (h1 : 1 ≤ u) (h2 : u ≤ 128) : ∀ T : Tr, (setT T).has u = decide (u ∈ T.leaves)
  | .leaf v => by
    simp only [setT, VS.has_with, VS.has_empty, Bool.false_or, Tr.leaves, List.mem_singleton]
    rw [Bool.eq_iff_iff]
    simp only [Bool.and_eq_true, decide_eq_true_eq]
    constructor
    · exact fun h => h.2
    · rintro rfl; exact ⟨⟨h1, h2⟩, rfl⟩
  | .node a b => by
    simp only [setT, VS.has_union, has_setT u h1 h2 a, has_setT u h1 h2 b, Tr.leaves, List.mem_append, Bool.decide_or]
def upS (ts : List VN) (i : Nat) : List VS := (List.range ts.length).map fun k => if k < i then setT (trF ts ts.length k) else VS.empty
def setsOf (ts : List VN) : List VS := (List.range ts.length).map fun k => setT (trF ts ts.length k)
theorem upS_len (ts : List VN) (i : Nat) : (upS ts i).length = ts.length := by simp [upS]
theorem setsOf_len (ts : List VN) : (setsOf ts).length = ts.length := by simp [setsOf]
theorem upS_get {ts : List VN} {i k : Nat} (h : k < ts.length) (hk : k < i) : (upS ts i)[k]? = some (setT (trF ts ts.length k)) := by simp [upS, h, hk]
theorem upS_new {ts : List VN} {i : Nat} (h : i < ts.length) : (upS ts i)[i]? = some VS.empty := by simp [upS, h]
theorem upS_zero (ts : List VN) : upS ts 0 = List.replicate ts.length VS.empty := by
  apply List.ext_getElem?
  intro k
  by_cases h : k < ts.length <;> simp [upS, h]
theorem upS_all (ts : List VN) : upS ts ts.length = setsOf ts := by
  unfold upS setsOf
  refine List.map_congr_left fun k hk => ?_
  rw [if_pos (List.mem_range.1 hk)]
theorem upS_set {ts : List VN} {i : Nat} (hi : i < ts.length) : (upS ts i).set i (setT (trF ts ts.length i)) = upS ts (i + 1) := by
  apply List.ext_getElem?
  intro k
  rw [List.getElem?_set]
  by_cases hk : k < ts.length
  · by_cases e : i = k
    · subst e
      simp [upS, hi]
    · by_cases hlt : k < i
      · simp [upS, hk, e, hlt, show k < i + 1 by omega]
      · simp [upS, hk, e, hlt, show ¬ k < i + 1 by omega]
  · simp [upS, hk]; omega
section
variable {ts : List VN}
theorem tr_leaf {i : Nat} {v : Int} (h : ts[i]? = some ⟨-1, -1, v⟩) (h1 : 1 ≤ v) (h2 : v ≤ 128) : trF ts ts.length i = .leaf v := by
  obtain ⟨n, hn⟩ : ∃ m, ts.length = m + 1 := ⟨ts.length - 1, by have := (List.getElem?_eq_some_iff.1 h).1; omega⟩
  rw [hn]
  exact trF_leaf h h1 h2
theorem tr_node (hV : Val ts) {i a b : Nat} (h : ts[i]? = some ⟨(a : Int), (b : Int), 0⟩) : trF ts ts.length i = .node (trF ts ts.length a) (trF ts ts.length b) := by
  obtain ⟨h1, h2, _, h3⟩ := hV.in_ h
  obtain ⟨n, hn⟩ : ∃ m, ts.length = m + 1 := ⟨ts.length - 1, by omega⟩
  have e := trF_node (n := n) h
  rw [← hn] at e
  rw [e, trF_more hV (n := n) (m := ts.length) (j := a) (by omega) (by omega) (by omega), trF_more hV (n := n) (m := ts.length) (j := b) (by omega) (by omega) (by omega)]
end
end Go.Proofs.YtpeoodkepjhhiaaDoor
namespace Go.Proofs.YtpeoodkepjhhiaaDoor
open Go Go.RowKit
def vcell (s : VS) : List Value := [.int .u64 (s.a.toNat : Int), .int .u64 (s.b.toNat : Int)]
def vcells (l : List VS) : List Value := l.flatMap vcell
theorem vcells_len (l : List VS) : (vcells l).length = l.length * 2 := by
  induction l with
  | nil => rfl
  | cons x r ih => simp only [vcells, List.flatMap_cons, List.length_append, List.length_cons] at ih ⊢; rw [ih]; simp [vcell]; omega
theorem vcells_get : ∀ {l : List VS} {k : Nat} {s : VS}, l[k]? = some s → (vcells l)[k * 2]? = some (.int .u64 (s.a.toNat : Int)) ∧ (vcells l)[k * 2 + 1]? = some (.int .u64 (s.b.toNat : Int))
  | [], k, s, h => by simp at h
  | y :: r, 0, s, h => by
    simp at h; subst h
    simp [vcells, vcell]
  | y :: r, k + 1, s, h => by
    have ih := vcells_get (l := r) (k := k) (s := s) (by simpa using h)
    have e : vcells (y :: r) = vcell y ++ vcells r := by simp [vcells]
    rw [e]
    have hl : (vcell y).length = 2 := rfl
    refine ⟨?_, ?_⟩
    · rw [List.getElem?_append_right (by omega), hl, show (k + 1) * 2 - 2 = k * 2 by omega]; exact ih.1
    · rw [List.getElem?_append_right (by omega), hl, show (k + 1) * 2 + 1 - 2 = k * 2 + 1 by omega]; exact ih.2
theorem vcells_set : ∀ (l : List VS) (k : Nat) (s : VS), ((vcells l).set (k * 2) (.int .u64 (s.a.toNat : Int))).set (k * 2 + 1) (.int .u64 (s.b.toNat : Int)) = vcells (l.set k s)
  | [], k, s => by simp [vcells]
  | y :: r, 0, s => by simp [vcells, vcell]
  | y :: r, k + 1, s => by
    have ih := vcells_set r k s
    have e : vcells (y :: r) = .int .u64 (y.a.toNat : Int) :: .int .u64 (y.b.toNat : Int) :: vcells r := by simp [vcells, vcell]
    have e2 : vcells ((y :: r).set (k + 1) s) = .int .u64 (y.a.toNat : Int) :: .int .u64 (y.b.toNat : Int) :: vcells (r.set k s) := by simp [vcells, vcell]
    rw [e, e2, ← ih, show (k + 1) * 2 = (k * 2 + 1) + 1 by omega]
    rfl
theorem getV0 {l : List VS} {k : Nat} {s : VS} (h : l[k]? = some s) : (vcells l).toArray[k * 2]? = some (.int .u64 (s.a.toNat : Int)) := by simpa using (vcells_get h).1
theorem getV1 {l : List VS} {k : Nat} {s : VS} (h : l[k]? = some s) : (vcells l).toArray[k * 2 + 1]? = some (.int .u64 (s.b.toNat : Int)) := by simpa using (vcells_get h).2
theorem setV (l : List VS) (k : Nat) (s : VS) : setN (vcells l).toArray (k * 2) [.int .u64 (s.a.toNat : Int), .int .u64 (s.b.toNat : Int)] = (vcells (l.set k s)).toArray := by
  rw [← vcells_set]
  simp [setN]
section
variable {ρ : Operand → Value} {d : Option Tmp} {x0 y0 : Operand} {t T T1 : TypeId} {pos0 : String} {aft : Array Edge} {gd : Option (Nat × Bool)} {w : World}
end
theorem vcells_rep : ∀ n : Nat, vcells (List.replicate n VS.empty) = List.replicate (n * 2) (.int .u64 0)
  | 0 => rfl
  | n + 1 => by
    have e1 : vcells (List.replicate (n + 1) VS.empty) = .int .u64 0 :: .int .u64 0 :: vcells (List.replicate n VS.empty) := by simp [vcells, vcell, List.replicate_succ, VS.empty]
    rw [e1, vcells_rep n, show (n + 1) * 2 = n * 2 + 1 + 1 by omega, List.replicate_succ, List.replicate_succ]
section
variable {Z : Bool → Nat → Prop} {w0 w W : World} {L : List En}
theorem own_makeV (O : Own Z w0 w L) (n : Nat) (hn : n ≤ 1000000) {cs : Array Value} (hc : (vcells (List.replicate n VS.empty)).toArray = cs) :
    ∃ g w', (∀ (ρ : Operand → Value) x y d t pos aft gd, ρ x = .int .i64 (n : Int) → ρ y = .int .i64 (n : Int) → (execOp ρ ⟨d, .makeSlice 53 x y, t, pos, aft, gd⟩).run Tryd.prog w = .ok (.value (.slice (some ⟨g, 0, none⟩) n n)) w') ∧ Own Z w0 w' (.blk g 57 cs :: L) ∧ w.heap.size = g ∧ w'.heap.size = g + 1 := by
  subst hc
  obtain ⟨i, hi, hz, hsz, hby⟩ := info_parts ap53.info
  have hb8 : ((i.bytes : Nat) : Int) * (n : Int) ≤ 281474976710656 := by
    rw [hby]
    omega
  have hr := run_make (P := Tryd.prog) w 53 57 i (.agg #[.int .u64 0, .int .u64 0]) ap53.under hi hz .i64 .i64 n n (by omega) (by omega) hb8 (by omega)
  have hm : madeCells #[Value.int .u64 0, Value.int .u64 0] (n * 2) = (vcells (List.replicate n VS.empty)).toArray := by
    have e := vcells_rep n
    rw [e]
    apply Array.ext
    · simp [madeCells]
    · intro j h1 h2
      simp only [madeCells, List.getElem_toArray, List.getElem_replicate]
      have hj : j % 2 = 0 ∨ j % 2 = 1 := by omega
      rcases hj with hj | hj <;> simp [hj]
  rw [hsz, Int.toNat_natCast] at hr
  have hz2 : (Value.agg #[.int .u64 0, .int .u64 0]).cells = #[.int .u64 0, .int .u64 0] := rfl
  rw [hz2, hm] at hr
  refine ⟨w.heap.size, _, fun ρ x y d t pos aft gd hx hy => ?_, O.newb ((Below.refl _ _).alloc (Nat.le_refl _) _) (Blk.new w 57 _) rfl, rfl, by simp⟩
  simp only [execOp, hx, hy, Sem.run_bind, hr, Result.andThen_ok, Sem.run_pure]
theorem Own.blkrowV {g n : Nat} {l : List VS} (h : Own Z w0 W (.blk g 57 (vcells l).toArray :: L)) (hn : l.length = n) (hm : n ≤ 1000000) : Own Z w0 W (.row (.slice (some ⟨g, 0, none⟩) n n) 57 2 n (vcells l) :: L) := by
  subst hn
  refine h.as (e' := .row (.slice (some ⟨g, 0, none⟩) l.length l.length) 57 2 l.length (vcells l)) ⟨by rw [vcells_len], .inr ⟨g, l.length, (vcells l).toArray, rfl, Nat.zero_le _, h.blk 0 rfl, Nat.le_refl _, by unfold maxLen; omega, by simp [vcells_len], List.take_of_length_le (by simp [vcells_len])⟩⟩ (fun k hk => ?_) (fun _ => trivial)
  have : some g = some k := hk
  injection this with this
  exact this.symm
end
set_option maxHeartbeats 400000 in
theorem vars_union (s t : VS) (w : World) :
    Calls Tryd.prog 74 #[.agg #[.int .u64 (s.a.toNat : Int), .int .u64 (s.b.toNat : Int)], .agg #[.int .u64 (t.a.toNat : Int), .int .u64 (t.b.toNat : Int)]] w fun e w' => e = .returned (.agg #[.int .u64 ((s.union t).a.toNat : Int), .int .u64 ((s.union t).b.toNat : Int)]) ∧ Below w.heap.size w w' := by
  obtain ⟨a, b⟩ := s
  obtain ⟨c, d⟩ := t
  unfold VS.union
  go_enter Tryd.func74, Tryd.ntmps74
  go_wp2
  go_returns
  exact ⟨ret_agg2 (by rw [bits_or_bv]) (by rw [bits_or_bv]), by go_grown⟩
theorem vvars_ok {W : World} {D : Nat → Prop} {b o c : Nat} {ts : List VN} (hN : NodesD D W (.slice (some ⟨b, o, none⟩) ts.length c) ts) (hD : ∀ k, D k → k < W.heap.size) (hok : okT ts = true) : Calls Tryd.prog 44 #[.slice (some ⟨b, o, none⟩) ts.length c] W fun e w' => ∃ g c', e = .returned (.slice (some ⟨g, 0, none⟩) ts.length c') ∧ Own Z0 W w' [.row (.slice (some ⟨g, 0, none⟩) ts.length c') 57 2 ts.length (vcells (setsOf ts))] := by
  have hV := okT_val hok
  have hpos := hV.pos
  have hle := hV.le
  have O0 : Own Z0 W W [.ro D (fun w => NodesD D w (.slice (some ⟨b, o, none⟩) ts.length c) ts)] := (Own.start W).oldro (D := D) (p := (fun w => NodesD D w (.slice (some ⟨b, o, none⟩) ts.length c) ts)) (nodesE_holds hN hD)
  refine sx_enter (args := [.slice (some ⟨b, o, none⟩) ts.length c]) Tryd.func44 rfl rfl (by simp) ?_
  refine cw_seq (fun FK1 K1 => ?_)
  refine cw_region ?_
  refine wl_val (v := .slice none 0 0) (fun ρ e => ex_assign (e _ _ rfl)) rfl rfl ?_
  refine wl_nil ?_
  refine xw_next K1 ?_
  refine cw_seq (fun FK2 K2 => ?_)
  refine cw_seq (fun FK3 K3 => ?_)
  refine cw_region ?_
  refine wl_val (v := .slice (some ⟨b, o, none⟩) ts.length c) (fun ρ e => ex_move (e _ _ rfl)) rfl rfl ?_
  refine wl_call (args := [.slice (some ⟨b, o, none⟩) ts.length c]) in_23 rfl rfl rfl ?_
  refine (checkb_ (hN.move (fun k hk => (O0.old).block k (hD k hk))) (fun k hk => Nat.lt_of_lt_of_le (hD k hk) (O0.old).size) (chk_val hok)).mono ?_
  rintro _ w4 ⟨rfl, hb5⟩
  have O6 : Own Z0 W w4 [.ro D (fun w => NodesD D w (.slice (some ⟨b, o, none⟩) ts.length c) ts)] := O0.below hb5
  refine ⟨_, rfl, ?_⟩
  refine wl_val (v := .bool false) (fun ρ e => ex_cmp (u := 0) (v := 0) (e _ _ rfl) (e _ _ rfl) (neq0 (by omega))) rfl rfl ?_
  refine wl_nil ?_
  refine xw_next K3 ?_
  refine cw_false rfl ?_
  refine cw_skip ?_
  refine xw_next K2 ?_
  refine cw_seq (fun FK7 K7 => ?_)
  refine cw_region ?_
  refine wl_val (v := .slice (some ⟨b, o, none⟩) ts.length c) (fun ρ e => ex_move (e _ _ rfl)) rfl rfl ?_
  refine wl_val (v := .int .i64 ((ts.length : Nat) : Int)) (fun ρ e => ex_len el23 (e _ _ rfl)) rfl rfl ?_
  obtain ⟨g8, w9, r10, O11, hg12, hs13⟩ := own_makeV O6 ts.length (by omega) (cs := (vcells (upS ts 0)).toArray) (by rw [upS_zero])
  refine wl_val (v := .slice (some ⟨g8, 0, none⟩) ts.length ts.length) (fun ρ e => r10 ρ _ _ _ _ _ _ _ (e _ _ rfl) (e _ _ rfl)) rfl rfl ?_
  refine wl_val (v := .slice (some ⟨g8, 0, none⟩) ts.length ts.length) (fun ρ e => ex_assign (e _ _ rfl)) rfl rfl ?_
  refine wl_nil ?_
  refine xw_next K7 ?_
  refine cw_seq (fun FK14 K14 => ?_)
  refine cw_seq (fun FK15 K15 => ?_)
  refine cw_region ?_
  refine wl_val (v := .slice (some ⟨b, o, none⟩) ts.length c) (fun ρ e => ex_move (e _ _ rfl)) rfl rfl ?_
  refine wl_val (v := .int .i64 ((ts.length : Nat) : Int)) (fun ρ e => ex_len el23 (e _ _ rfl)) rfl rfl ?_
  refine wl_val (v := .int .i64 0) (fun ρ e => ex_move (e _ _ rfl)) rfl rfl ?_
  refine wl_nil ?_
  refine xw_next K15 ?_
  refine cw_block ?_
  have O16 : Own Z0 W w9 [.blk g8 57 ((vcells (upS ts 0)).toArray), .ro D (fun w => NodesD D w (.slice (some ⟨b, o, none⟩) ts.length c) ts)] := O11
  refine cw_loop (ι := Nat) (fun q => [(3, .slice (some ⟨g8, 0, none⟩) ts.length ts.length), (12, .slice (some ⟨b, o, none⟩) ts.length c), (13, .int .i64 ((ts.length : Nat) : Int)), (14, .int .i64 (q : Int))]) (fun q X => (q ≤ ts.length) ∧ Own Z0 W X [.blk g8 57 ((vcells (upS ts q)).toArray), .ro D (fun w => NodesD D w (.slice (some ⟨b, o, none⟩) ts.length c) ts)]) (fun q => ts.length - q) 0 ⟨Nat.zero_le _, O16⟩ ⟨rfl, rfl, rfl, rfl, trivial⟩ (fun q w17 hJ F18 K19 => ?_)
  obtain ⟨i, rfl⟩ : ∃ x, x = q := ⟨_, rfl⟩
  obtain ⟨hi0, O20⟩ := hJ
  try dsimp only at hi0 O20 ⊢
  by_cases hi : i < ts.length
  · skip
    rcases hV.kind i _ (List.getElem?_eq_getElem hi) with ⟨v, hx0, h1, h2⟩ | ⟨a, b2, hx0, ha, hb, hab⟩
    · skip
      have hx : ts[i]? = some ⟨-1, -1, v⟩ := by rw [List.getElem?_eq_getElem hi, hx0]
      have hlf : (lf (VN.mk (-1) (-1) v)) = true := lf_leaf h1 h2
      refine cw_seq (fun FK21 K21 => ?_)
      refine cw_region ?_
      refine wl_val (v := .bool true) (fun ρ e => ex_cmp (u := (i : Int)) (v := ((ts.length : Nat) : Int)) (e _ _ rfl) (e _ _ rfl) (lss1 (by omega))) rfl rfl ?_
      refine wl_nil ?_
      refine xw_next K21 ?_
      refine cw_seq (fun FK22 K22 => ?_)
      refine cw_true rfl ?_
      refine cw_skip ?_
      refine xw_next K22 ?_
      refine cw_seq (fun FK23 K23 => ?_)
      refine cw_block ?_
      refine cw_seq (fun FK24 K24 => ?_)
      refine cw_region ?_
      refine wl_val (v := .int .i64 (i : Int)) (fun ρ e => ex_move (e _ _ rfl)) rfl rfl ?_
      refine wl_val (v := .pointer (some ⟨b, o + i * 3, none⟩)) (fun ρ e => ex_idx (q := o + i * 3) (i := i) el23 (e _ _ rfl) (e _ _ rfl) (by omega) (by omega)) rfl rfl ?_
      refine wl_val (v := .agg #[.int .i64 (-1), .int .i64 (-1), .int .i64 v]) (fun ρ e => ex_loadN (vs := [.int .i64 (-1), .int .i64 (-1), .int .i64 v]) ty38 (e _ _ rfl) rfl (cells3 (NodesD.c0 ((O20.ro 1 rfl : (fun w => NodesD D w (.slice (some ⟨b, o, none⟩) ts.length c) ts) _) : NodesD _ _ _ _) hx) (NodesD.c1 ((O20.ro 1 rfl : (fun w => NodesD D w (.slice (some ⟨b, o, none⟩) ts.length c) ts) _) : NodesD _ _ _ _) hx) (NodesD.c2 ((O20.ro 1 rfl : (fun w => NodesD D w (.slice (some ⟨b, o, none⟩) ts.length c) ts) _) : NodesD _ _ _ _) hx))) rfl rfl ?_
      obtain ⟨g25, w26, r27, O28, hg29, hs30⟩ := own_alloc O20 38 ze38 rfl
      refine wl_val (v := .pointer (some ⟨g25, 0, none⟩)) (fun ρ e => r27 ρ _ _ _ _ _) rfl rfl ?_
      refine wl_val (v := .int .i64 (i : Int)) (fun ρ e => ex_assign (e _ _ rfl)) rfl rfl ?_
      obtain ⟨w31, r32, O33, hs34⟩ := own_put (o := 0) (n := 3) O28 ty38 (.agg #[.int .i64 (-1), .int .i64 (-1), .int .i64 v]) [.int .i64 (-1), .int .i64 (-1), .int .i64 v] (cs' := #[.int .i64 (-1), .int .i64 (-1), .int .i64 v]) rfl rfl rfl (Nat.le_of_ble_eq_true rfl) rfl
      refine wl_none (fun ρ e => r32 ρ _ _ _ _ _ _ (e _ _ rfl) (e _ _ rfl)) rfl ?_
      refine wl_nil ?_
      refine xw_next K24 ?_
      refine cw_seq (fun FK35 K35 => ?_)
      refine cw_region ?_
      refine wl_val (v := .agg #[.int .i64 (-1), .int .i64 (-1), .int .i64 v]) (fun ρ e => ex_loadN (vs := [.int .i64 (-1), .int .i64 (-1), .int .i64 v]) ty38 (e _ _ rfl) rfl (O33.cells 0 0 rfl rfl)) rfl rfl ?_
      refine wl_call (args := [.agg #[.int .i64 (-1), .int .i64 (-1), .int .i64 v]]) in_53 rfl rfl rfl ?_
      refine (isleaf_ (VN.mk (-1) (-1) v) (W := w31)).mono ?_
      rintro _ w36 ⟨rfl, hb37⟩
      have O38 : Own Z0 W w36 [.blk g25 38 #[.int .i64 (-1), .int .i64 (-1), .int .i64 v], .blk g8 57 ((vcells (upS ts i)).toArray), .ro D (fun w => NodesD D w (.slice (some ⟨b, o, none⟩) ts.length c) ts)] := O33.below hb37
      refine ⟨_, rfl, ?_⟩
      refine wl_nil ?_
      refine xw_next K35 ?_
      refine cw_true (congrArg (fun b => some (Value.bool b)) hlf) ?_
      refine cw_drawn (fun X => Own Z0 W X [.blk g25 38 #[.int .i64 (-1), .int .i64 (-1), .int .i64 v], .blk g8 57 ((vcells (upS ts i)).toArray), .ro D (fun w => NodesD D w (.slice (some ⟨b, o, none⟩) ts.length c) ts)]) 10 [(0, 1), (1, 1), (2, 1), (3, 1), (4, 1), (5, 0), (6, 1), (7, 0), (8, 2), (9, 1), (10, 3)] (by kernel_rfl) (by kernel_rfl) (PQ.block (PQ.then_ (PQ.then_ (PQ.block (PQ.then_ PQ.body))))) (O38).drew ?_
      have O39 : Own Z0 W w36.drew [.blk g25 38 #[.int .i64 (-1), .int .i64 (-1), .int .i64 v], .blk g8 57 ((vcells (upS ts i)).toArray), .ro D (fun w => NodesD D w (.slice (some ⟨b, o, none⟩) ts.length c) ts)] := O38.drew
      refine wt1 (v := .slice (some ⟨g8, 0, none⟩) ts.length ts.length) rfl (fun ρ e W => ex_move (e _ _ rfl)) rfl rfl ?_
      refine wt1 (v := .int .i64 (i : Int)) rfl (fun ρ e W => ex_move (e _ _ rfl)) rfl rfl ?_
      refine wt1 (v := .slice (some ⟨g8, 0, none⟩) ts.length ts.length) rfl (fun ρ e W => ex_move (e _ _ rfl)) rfl rfl ?_
      refine wt1 (v := .int .i64 (i : Int)) rfl (fun ρ e W => ex_move (e _ _ rfl)) rfl rfl ?_
      refine wt1 (v := .pointer (some ⟨g8, i * 2, none⟩)) rfl (fun ρ e W => ex_idx (q := i * 2) (i := i) el53 (e _ _ rfl) (e _ _ rfl) (by omega) (by omega)) rfl rfl ?_
      refine wt0 (v := .agg #[.int .u64 (VS.empty.a.toNat : Int), .int .u64 (VS.empty.b.toNat : Int)]) rfl (fun ρ e W hW => ex_loadN (vs := [.int .u64 (VS.empty.a.toNat : Int), .int .u64 (VS.empty.b.toNat : Int)]) ty57 (e _ _ rfl) rfl (cells2 ((hW.blk 1 rfl).cell _ |>.trans (getV0 (upS_new hi))) ((hW.blk 1 rfl).cell _ |>.trans (getV1 (upS_new hi))))) rfl rfl ?_
      refine wt1 (v := .pointer (some ⟨g25, 2, none⟩)) rfl (fun ρ e W => ex_field (q := 2) fi38_2 (e _ _ rfl) rfl) rfl rfl ?_
      refine wt0 (v := .int .i64 v) rfl (fun ρ e W hW => ex_load1 ty3 (e _ _ rfl) (hW.cell 0 2 rfl rfl)) rfl rfl ?_
      refine wt2_call (args := [.agg #[.int .u64 (VS.empty.a.toNat : Int), .int .u64 (VS.empty.b.toNat : Int)], .int .i64 v]) rfl in_73 rfl rfl rfl ?_
      have hset : VS.with_ VS.empty v = (setT (trF ts ts.length i)) := by rw [tr_leaf hx h1 h2]; rfl
      have hcw := vars_with VS.empty.a VS.empty.b v w36.drew
      rw [show (⟨VS.empty.a, VS.empty.b⟩ : VS) = VS.empty from rfl, hset] at hcw
      refine hcw.mono ?_
      rintro _ w40 ⟨rfl, hb41⟩
      have O42 : Own Z0 W w40 [.blk g25 38 #[.int .i64 (-1), .int .i64 (-1), .int .i64 v], .blk g8 57 ((vcells (upS ts i)).toArray), .ro D (fun w => NodesD D w (.slice (some ⟨b, o, none⟩) ts.length c) ts)] := O39.below hb41
      refine ⟨_, rfl, O42, ?_⟩
      refine wt1 (v := .pointer (some ⟨g8, i * 2, none⟩)) rfl (fun ρ e W => ex_idx (q := i * 2) (i := i) el53 (e _ _ rfl) (e _ _ rfl) (by omega) (by omega)) rfl rfl ?_
      obtain ⟨w43, r44, O45, hs46⟩ := own_put (o := i * 2) (n := 2) (O42.re [1, 0, 2] rfl : Own Z0 W w40 [.blk g8 57 ((vcells (upS ts i)).toArray), .blk g25 38 #[.int .i64 (-1), .int .i64 (-1), .int .i64 v], .ro D (fun w => NodesD D w (.slice (some ⟨b, o, none⟩) ts.length c) ts)]) ty57 (.agg #[.int .u64 ((setT (trF ts ts.length i)).a.toNat : Int), .int .u64 ((setT (trF ts ts.length i)).b.toNat : Int)]) [.int .u64 ((setT (trF ts ts.length i)).a.toNat : Int), .int .u64 ((setT (trF ts ts.length i)).b.toNat : Int)] (cs' := (vcells ((upS ts i).set i (setT (trF ts ts.length i)))).toArray) rfl rfl rfl (by simp [vcells_len, upS_len] <;> omega) (setV _ i (setT (trF ts ts.length i)))
      refine wt3_none rfl (fun ρ e => r44 ρ _ _ _ _ _ _ (e _ _ rfl) (e _ _ rfl)) rfl ?_
      refine wt_nil ?_
      refine xw_block ?_
      refine xw_next K23 ?_
      refine cw_region ?_
      refine wl_val (v := .int .i64 ((i + 1 : Nat) : Int)) (fun ρ e => ex_arith (k := .i64) (u := (i : Int)) (v := 1) (e _ _ rfl) (e _ _ rfl) (congrArg some ((congrArg _ (by omega)).trans (wrap_in (u := ((i + 1 : Nat) : Int)) (by omega) (by omega))))) rfl rfl ?_
      refine wl_val (v := .int .i64 ((i + 1 : Nat) : Int)) (fun ρ e => ex_move (e _ _ rfl)) rfl rfl ?_
      refine wl_nil ?_
      have O47 : Own Z0 W w43 [.blk g8 57 ((vcells (upS ts (i + 1))).toArray), .ro D (fun w => NodesD D w (.slice (some ⟨b, o, none⟩) ts.length c) ts)] := by rw [← upS_set hi]; exact (O45.re [0, 2] rfl : Own Z0 W w43 [.blk g8 57 ((vcells ((upS ts i).set i (setT (trF ts ts.length i)))).toArray), .ro D (fun w => NodesD D w (.slice (some ⟨b, o, none⟩) ts.length c) ts)])
      refine xw_round K19 (i + 1) (by show ts.length - (i + 1) < ts.length - i; omega) ⟨(by show i + 1 ≤ ts.length; omega), O47⟩ ⟨rfl, rfl, rfl, rfl, trivial⟩
    · skip
      have hx : ts[i]? = some ⟨(a : Int), (b2 : Int), 0⟩ := by rw [List.getElem?_eq_getElem hi, hx0]
      have hlf : (lf (VN.mk (a : Int) (b2 : Int) 0)) = false := lf_inner a b2
      refine cw_seq (fun FK48 K48 => ?_)
      refine cw_region ?_
      refine wl_val (v := .bool true) (fun ρ e => ex_cmp (u := (i : Int)) (v := ((ts.length : Nat) : Int)) (e _ _ rfl) (e _ _ rfl) (lss1 (by omega))) rfl rfl ?_
      refine wl_nil ?_
      refine xw_next K48 ?_
      refine cw_seq (fun FK49 K49 => ?_)
      refine cw_true rfl ?_
      refine cw_skip ?_
      refine xw_next K49 ?_
      refine cw_seq (fun FK50 K50 => ?_)
      refine cw_block ?_
      refine cw_seq (fun FK51 K51 => ?_)
      refine cw_region ?_
      refine wl_val (v := .int .i64 (i : Int)) (fun ρ e => ex_move (e _ _ rfl)) rfl rfl ?_
      refine wl_val (v := .pointer (some ⟨b, o + i * 3, none⟩)) (fun ρ e => ex_idx (q := o + i * 3) (i := i) el23 (e _ _ rfl) (e _ _ rfl) (by omega) (by omega)) rfl rfl ?_
      refine wl_val (v := .agg #[.int .i64 (a : Int), .int .i64 (b2 : Int), .int .i64 0]) (fun ρ e => ex_loadN (vs := [.int .i64 (a : Int), .int .i64 (b2 : Int), .int .i64 0]) ty38 (e _ _ rfl) rfl (cells3 (NodesD.c0 ((O20.ro 1 rfl : (fun w => NodesD D w (.slice (some ⟨b, o, none⟩) ts.length c) ts) _) : NodesD _ _ _ _) hx) (NodesD.c1 ((O20.ro 1 rfl : (fun w => NodesD D w (.slice (some ⟨b, o, none⟩) ts.length c) ts) _) : NodesD _ _ _ _) hx) (NodesD.c2 ((O20.ro 1 rfl : (fun w => NodesD D w (.slice (some ⟨b, o, none⟩) ts.length c) ts) _) : NodesD _ _ _ _) hx))) rfl rfl ?_
      obtain ⟨g52, w53, r54, O55, hg56, hs57⟩ := own_alloc O20 38 ze38 rfl
      refine wl_val (v := .pointer (some ⟨g52, 0, none⟩)) (fun ρ e => r54 ρ _ _ _ _ _) rfl rfl ?_
      refine wl_val (v := .int .i64 (i : Int)) (fun ρ e => ex_assign (e _ _ rfl)) rfl rfl ?_
      obtain ⟨w58, r59, O60, hs61⟩ := own_put (o := 0) (n := 3) O55 ty38 (.agg #[.int .i64 (a : Int), .int .i64 (b2 : Int), .int .i64 0]) [.int .i64 (a : Int), .int .i64 (b2 : Int), .int .i64 0] (cs' := #[.int .i64 (a : Int), .int .i64 (b2 : Int), .int .i64 0]) rfl rfl rfl (Nat.le_of_ble_eq_true rfl) rfl
      refine wl_none (fun ρ e => r59 ρ _ _ _ _ _ _ (e _ _ rfl) (e _ _ rfl)) rfl ?_
      refine wl_nil ?_
      refine xw_next K51 ?_
      refine cw_seq (fun FK62 K62 => ?_)
      refine cw_region ?_
      refine wl_val (v := .agg #[.int .i64 (a : Int), .int .i64 (b2 : Int), .int .i64 0]) (fun ρ e => ex_loadN (vs := [.int .i64 (a : Int), .int .i64 (b2 : Int), .int .i64 0]) ty38 (e _ _ rfl) rfl (O60.cells 0 0 rfl rfl)) rfl rfl ?_
      refine wl_call (args := [.agg #[.int .i64 (a : Int), .int .i64 (b2 : Int), .int .i64 0]]) in_53 rfl rfl rfl ?_
      refine (isleaf_ (VN.mk (a : Int) (b2 : Int) 0) (W := w58)).mono ?_
      rintro _ w63 ⟨rfl, hb64⟩
      have O65 : Own Z0 W w63 [.blk g52 38 #[.int .i64 (a : Int), .int .i64 (b2 : Int), .int .i64 0], .blk g8 57 ((vcells (upS ts i)).toArray), .ro D (fun w => NodesD D w (.slice (some ⟨b, o, none⟩) ts.length c) ts)] := O60.below hb64
      refine ⟨_, rfl, ?_⟩
      refine wl_nil ?_
      refine xw_next K62 ?_
      refine cw_false (congrArg (fun b => some (Value.bool b)) hlf) ?_
      refine cw_drawn (fun X => Own Z0 W X [.blk g52 38 #[.int .i64 (a : Int), .int .i64 (b2 : Int), .int .i64 0], .blk g8 57 ((vcells (upS ts i)).toArray), .ro D (fun w => NodesD D w (.slice (some ⟨b, o, none⟩) ts.length c) ts)]) 14 [(0, 1), (1, 1), (2, 1), (3, 1), (4, 0), (5, 1), (6, 0), (7, 1), (8, 1), (9, 0), (10, 1), (11, 0), (12, 2), (13, 1), (14, 3)] (by kernel_rfl) (by kernel_rfl) (PQ.block (PQ.then_ (PQ.then_ (PQ.block (PQ.then_ PQ.body))))) (O65).drew ?_
      have O66 : Own Z0 W w63.drew [.blk g52 38 #[.int .i64 (a : Int), .int .i64 (b2 : Int), .int .i64 0], .blk g8 57 ((vcells (upS ts i)).toArray), .ro D (fun w => NodesD D w (.slice (some ⟨b, o, none⟩) ts.length c) ts)] := O65.drew
      refine wt1 (v := .slice (some ⟨g8, 0, none⟩) ts.length ts.length) rfl (fun ρ e W => ex_move (e _ _ rfl)) rfl rfl ?_
      refine wt1 (v := .int .i64 (i : Int)) rfl (fun ρ e W => ex_move (e _ _ rfl)) rfl rfl ?_
      refine wt1 (v := .slice (some ⟨g8, 0, none⟩) ts.length ts.length) rfl (fun ρ e W => ex_move (e _ _ rfl)) rfl rfl ?_
      refine wt1 (v := .pointer (some ⟨g52, 0, none⟩)) rfl (fun ρ e W => ex_field (q := 0) fi38_0 (e _ _ rfl) rfl) rfl rfl ?_
      refine wt0 (v := .int .i64 (a : Int)) rfl (fun ρ e W hW => ex_load1 ty3 (e _ _ rfl) (hW.cell 0 0 rfl rfl)) rfl rfl ?_
      refine wt1 (v := .pointer (some ⟨g8, a * 2, none⟩)) rfl (fun ρ e W => ex_idx (q := a * 2) (i := a) el53 (e _ _ rfl) (e _ _ rfl) (by omega) (by omega)) rfl rfl ?_
      refine wt0 (v := .agg #[.int .u64 ((setT (trF ts ts.length a)).a.toNat : Int), .int .u64 ((setT (trF ts ts.length a)).b.toNat : Int)]) rfl (fun ρ e W hW => ex_loadN (vs := [.int .u64 ((setT (trF ts ts.length a)).a.toNat : Int), .int .u64 ((setT (trF ts ts.length a)).b.toNat : Int)]) ty57 (e _ _ rfl) rfl (cells2 ((hW.blk 1 rfl).cell _ |>.trans (getV0 (upS_get (by omega) ha))) ((hW.blk 1 rfl).cell _ |>.trans (getV1 (upS_get (by omega) ha))))) rfl rfl ?_
      refine wt1 (v := .slice (some ⟨g8, 0, none⟩) ts.length ts.length) rfl (fun ρ e W => ex_move (e _ _ rfl)) rfl rfl ?_
      refine wt1 (v := .pointer (some ⟨g52, 1, none⟩)) rfl (fun ρ e W => ex_field (q := 1) fi38_1 (e _ _ rfl) rfl) rfl rfl ?_
      refine wt0 (v := .int .i64 (b2 : Int)) rfl (fun ρ e W hW => ex_load1 ty3 (e _ _ rfl) (hW.cell 0 1 rfl rfl)) rfl rfl ?_
      refine wt1 (v := .pointer (some ⟨g8, b2 * 2, none⟩)) rfl (fun ρ e W => ex_idx (q := b2 * 2) (i := b2) el53 (e _ _ rfl) (e _ _ rfl) (by omega) (by omega)) rfl rfl ?_
      refine wt0 (v := .agg #[.int .u64 ((setT (trF ts ts.length b2)).a.toNat : Int), .int .u64 ((setT (trF ts ts.length b2)).b.toNat : Int)]) rfl (fun ρ e W hW => ex_loadN (vs := [.int .u64 ((setT (trF ts ts.length b2)).a.toNat : Int), .int .u64 ((setT (trF ts ts.length b2)).b.toNat : Int)]) ty57 (e _ _ rfl) rfl (cells2 ((hW.blk 1 rfl).cell _ |>.trans (getV0 (upS_get (by omega) hb))) ((hW.blk 1 rfl).cell _ |>.trans (getV1 (upS_get (by omega) hb))))) rfl rfl ?_
      refine wt2_call (args := [.agg #[.int .u64 ((setT (trF ts ts.length a)).a.toNat : Int), .int .u64 ((setT (trF ts ts.length a)).b.toNat : Int)], .agg #[.int .u64 ((setT (trF ts ts.length b2)).a.toNat : Int), .int .u64 ((setT (trF ts ts.length b2)).b.toNat : Int)]]) rfl in_74 rfl rfl rfl ?_
      have hset : VS.union (setT (trF ts ts.length a)) (setT (trF ts ts.length b2)) = (setT (trF ts ts.length i)) := by rw [tr_node hV hx]; rfl
      have hcw := vars_union (setT (trF ts ts.length a)) (setT (trF ts ts.length b2)) w63.drew
      rw [hset] at hcw
      refine hcw.mono ?_
      rintro _ w67 ⟨rfl, hb68⟩
      have O69 : Own Z0 W w67 [.blk g52 38 #[.int .i64 (a : Int), .int .i64 (b2 : Int), .int .i64 0], .blk g8 57 ((vcells (upS ts i)).toArray), .ro D (fun w => NodesD D w (.slice (some ⟨b, o, none⟩) ts.length c) ts)] := O66.below hb68
      refine ⟨_, rfl, O69, ?_⟩
      refine wt1 (v := .pointer (some ⟨g8, i * 2, none⟩)) rfl (fun ρ e W => ex_idx (q := i * 2) (i := i) el53 (e _ _ rfl) (e _ _ rfl) (by omega) (by omega)) rfl rfl ?_
      obtain ⟨w70, r71, O72, hs73⟩ := own_put (o := i * 2) (n := 2) (O69.re [1, 0, 2] rfl : Own Z0 W w67 [.blk g8 57 ((vcells (upS ts i)).toArray), .blk g52 38 #[.int .i64 (a : Int), .int .i64 (b2 : Int), .int .i64 0], .ro D (fun w => NodesD D w (.slice (some ⟨b, o, none⟩) ts.length c) ts)]) ty57 (.agg #[.int .u64 ((setT (trF ts ts.length i)).a.toNat : Int), .int .u64 ((setT (trF ts ts.length i)).b.toNat : Int)]) [.int .u64 ((setT (trF ts ts.length i)).a.toNat : Int), .int .u64 ((setT (trF ts ts.length i)).b.toNat : Int)] (cs' := (vcells ((upS ts i).set i (setT (trF ts ts.length i)))).toArray) rfl rfl rfl (by simp [vcells_len, upS_len] <;> omega) (setV _ i (setT (trF ts ts.length i)))
      refine wt3_none rfl (fun ρ e => r71 ρ _ _ _ _ _ _ (e _ _ rfl) (e _ _ rfl)) rfl ?_
      refine wt_nil ?_
      refine xw_block ?_
      refine xw_next K50 ?_
      refine cw_region ?_
      refine wl_val (v := .int .i64 ((i + 1 : Nat) : Int)) (fun ρ e => ex_arith (k := .i64) (u := (i : Int)) (v := 1) (e _ _ rfl) (e _ _ rfl) (congrArg some ((congrArg _ (by omega)).trans (wrap_in (u := ((i + 1 : Nat) : Int)) (by omega) (by omega))))) rfl rfl ?_
      refine wl_val (v := .int .i64 ((i + 1 : Nat) : Int)) (fun ρ e => ex_move (e _ _ rfl)) rfl rfl ?_
      refine wl_nil ?_
      have O74 : Own Z0 W w70 [.blk g8 57 ((vcells (upS ts (i + 1))).toArray), .ro D (fun w => NodesD D w (.slice (some ⟨b, o, none⟩) ts.length c) ts)] := by rw [← upS_set hi]; exact (O72.re [0, 2] rfl : Own Z0 W w70 [.blk g8 57 ((vcells ((upS ts i).set i (setT (trF ts ts.length i)))).toArray), .ro D (fun w => NodesD D w (.slice (some ⟨b, o, none⟩) ts.length c) ts)])
      refine xw_round K19 (i + 1) (by show ts.length - (i + 1) < ts.length - i; omega) ⟨(by show i + 1 ≤ ts.length; omega), O74⟩ ⟨rfl, rfl, rfl, rfl, trivial⟩
  · have hie : i = ts.length := by omega
    rw [hie, upS_all] at O20
    refine cw_seq (fun FK75 K75 => ?_)
    refine cw_region ?_
    refine wl_val (v := .bool false) (fun ρ e => ex_cmp (u := (i : Int)) (v := ((ts.length : Nat) : Int)) (e _ _ rfl) (e _ _ rfl) (lss0 (by omega))) rfl rfl ?_
    refine wl_nil ?_
    refine xw_next K75 ?_
    refine cw_seq (fun FK76 K76 => ?_)
    refine cw_false rfl ?_
    refine cw_exit ?_
    refine xw_past (by intro h; cases h) ?_
    refine xw_past (by intro h; cases h) ?_
    refine xw_here ?_
    refine xw_next K14 ?_
    refine cw_seq (fun FK77 K77 => ?_)
    refine cw_region ?_
    refine wl_val (v := .slice (some ⟨g8, 0, none⟩) ts.length ts.length) (fun ρ e => ex_move (e _ _ rfl)) rfl rfl ?_
    refine wl_val (v := .slice (some ⟨g8, 0, none⟩) ts.length ts.length) (fun ρ e => ex_assign (e _ _ rfl)) rfl rfl ?_
    refine wl_nil ?_
    refine xw_next K77 ?_
    refine cw_ret ?_
    refine xw_ret (v := .slice (some ⟨g8, 0, none⟩) ts.length ts.length) (fun T hT => res1 rfl T _ (hT 2 _ rfl)) ?_
    have O78 := Own.blkrowV (l := setsOf ts) (n := ts.length) (O20.re [0] rfl : Own Z0 W w17 [.blk g8 57 ((vcells (setsOf ts)).toArray)]) (by simp [setsOf_len]) (by omega)
    exact ⟨g8, ts.length, rfl, O78⟩
end Go.Proofs.YtpeoodkepjhhiaaDoor
namespace Go.Proofs.YtpeoodkepjhhiaaDoor
theorem vs_eq (s t : VS) : (s.a = t.a ∧ s.b = t.b) ↔ s = t := by
  cases s; cases t; simp
instance : DecidableEq VS := fun s t => decidable_of_iff (s.a = t.a ∧ s.b = t.b) (vs_eq s t)
/-- The sets of a tree's nodes in postorder. -/
def setsT : Tr → List VS
  | .leaf v => [setT (.leaf v)]
  | .node a b => setsT a ++ (setsT b ++ [setT (.node a b)])
theorem sets_lies {ts : List VN} (hV : Val ts) : ∀ (T : Tr) (n : Nat), (∀ v ∈ T.leaves, 1 ≤ v ∧ v ≤ 128) → Lies ts n T → ((List.range' n T.size).map fun k => setT (trF ts ts.length k)) = setsT T
  | .leaf v, n, h, hs => by
    have hl := hs.len
    have := trF_sub hV h hs (m := ts.length) (by simp only [Tr.size] at hl ⊢; omega)
    simp only [Tr.size, Nat.add_sub_cancel] at this
    simp [Tr.size, setsT, this]
  | .node a b, n, h, hs => by
    have hl := hs.len
    have h1 := sets_lies hV a n (fun v hv => h v (List.mem_append_left _ hv)) hs.left
    have h2 := sets_lies hV b (n + a.size) (fun v hv => h v (List.mem_append_right _ hv)) hs.right
    have h3 := trF_sub hV h hs (m := ts.length) (by simp only [Tr.size] at hl ⊢; omega)
    have e0 : n + (Tr.node a b).size - 1 = n + (a.size + b.size) := by simp only [Tr.size]; omega
    rw [e0] at h3
    have e1 : List.range' n (Tr.node a b).size = List.range' n a.size ++ (List.range' (n + a.size) b.size ++ [n + (a.size + b.size)]) := by
      simp only [Tr.size]
      rw [List.range'_concat, ← List.range'_append_1, List.append_assoc]
      simp
    rw [e1]
    simp only [List.map_append, List.map_cons, List.map_nil, h1, h2, h3, setsT]
theorem sets_post {T : Tr} (h : GoodT T) : setsOf (post T 0) = setsT T := by
  have := sets_lies (okT_val (post_ok h)) T 0 h.2 (Lies.all T)
  unfold setsOf
  rw [← this, List.range_eq_range', post_len]
/-- A set told by the variables it has. -/
theorem setT_eq {A B : Tr} (h : ∀ u, u ∈ A.leaves ↔ u ∈ B.leaves) : setT A = setT B := by
  apply VS.ext_has
  intro u h1 h2
  rw [has_setT u h1 h2, has_setT u h1 h2]
  simp [h u]
theorem setsT_has : ∀ (T : Tr) (s : VS), s ∈ setsT T → ∀ u, 1 ≤ u → u ≤ 128 → s.has u = true → u ∈ T.leaves
  | .leaf v, s, h, u, h1, h2, hu => by
    simp only [setsT, List.mem_singleton] at h
    subst h
    rw [has_setT u h1 h2] at hu
    simpa using hu
  | .node a b, s, h, u, h1, h2, hu => by
    simp only [setsT, List.mem_append, List.mem_singleton] at h
    simp only [Tr.leaves, List.mem_append]
    rcases h with h | h | h
    · exact .inl (setsT_has a s h u h1 h2 hu)
    · exact .inr (setsT_has b s h u h1 h2 hu)
    · subst h
      rw [has_setT u h1 h2] at hu
      simpa [Tr.leaves] using hu
theorem leaves_pos : ∀ T : Tr, ∃ u, u ∈ T.leaves
  | .leaf v => ⟨v, by simp [Tr.leaves]⟩
  | .node a b => by
    obtain ⟨u, hu⟩ := leaves_pos a
    exact ⟨u, List.mem_append_left _ hu⟩
/-- How many of the sets are not in S. -/
def newOf (S l : List VS) : Nat := l.countP fun s => decide (s ∉ S)
theorem newOf_zero {S l : List VS} (h : ∀ s ∈ l, s ∈ S) : newOf S l = 0 := by
  unfold newOf
  rw [List.countP_eq_zero]
  intro s hs
  simp [h s hs]
theorem newOf_append (S l m : List VS) : newOf S (l ++ m) = newOf S l + newOf S m := List.countP_append
theorem newOf_one {S : List VS} {s : VS} (h : s ∉ S) : newOf S [s] = 1 := by simp [newOf, h]
theorem newOf_in {S : List VS} {s : VS} (h : s ∈ S) : newOf S [s] = 0 := by simp [newOf, h]
/-- A set of some of a tree's variables that none of its nodes has. -/
def Fresh (T : Tr) (X : VS) : Prop := X ∉ setsT T ∧ (∃ u, 1 ≤ u ∧ u ≤ 128 ∧ X.has u = true) ∧ ∀ u, 1 ≤ u → u ≤ 128 → X.has u = true → u ∈ T.leaves
theorem has_of {T : Tr} {u : Int} (hT : ∀ v ∈ T.leaves, 1 ≤ v ∧ v ≤ 128) (h : u ∈ T.leaves) : (setT T).has u = true := by
  obtain ⟨h1, h2⟩ := hT u h
  rw [has_setT u h1 h2]
  simp [h]
theorem fresh_left {a b : Tr} (hT : GoodT (.node a b)) {X : VS} (h : Fresh a X) : Fresh (.node a b) X := by
  obtain ⟨h1, ⟨u, q1, q2, q3⟩, h3⟩ := h
  have hd := (List.nodup_append.1 hT.1).2.2
  refine ⟨fun hm => ?_, ⟨u, q1, q2, q3⟩, fun v r1 r2 r3 => List.mem_append_left _ (h3 v r1 r2 r3)⟩
  simp only [setsT, List.mem_append, List.mem_singleton] at hm
  rcases hm with hm | hm | hm
  · exact h1 hm
  · exact hd u (h3 u q1 q2 q3) u (setsT_has b X hm u q1 q2 q3) rfl
  · subst hm
    obtain ⟨w, hw⟩ := leaves_pos b
    obtain ⟨w1, w2⟩ := hT.2 w (List.mem_append_right _ hw)
    exact hd w (h3 w w1 w2 (has_of hT.2 (List.mem_append_right _ hw))) w hw rfl
theorem fresh_right {a b : Tr} (hT : GoodT (.node a b)) {X : VS} (h : Fresh b X) : Fresh (.node a b) X := by
  obtain ⟨h1, ⟨u, q1, q2, q3⟩, h3⟩ := h
  have hd := (List.nodup_append.1 hT.1).2.2
  refine ⟨fun hm => ?_, ⟨u, q1, q2, q3⟩, fun v r1 r2 r3 => List.mem_append_right _ (h3 v r1 r2 r3)⟩
  simp only [setsT, List.mem_append, List.mem_singleton] at hm
  rcases hm with hm | hm | hm
  · exact hd u (setsT_has a X hm u q1 q2 q3) u (h3 u q1 q2 q3) rfl
  · exact h1 hm
  · subst hm
    obtain ⟨w, hw⟩ := leaves_pos a
    obtain ⟨w1, w2⟩ := hT.2 w (List.mem_append_left _ hw)
    exact hd w hw w (h3 w w1 w2 (has_of hT.2 (List.mem_append_left _ hw))) rfl
theorem turn_new {kind : Nat} (hk : kind = 1 ∨ kind = 2) {a b U : Tr} (hT : GoodT (.node a b)) (h : turn kind a b = some U) : setT U = setT (.node a b) ∧ ∃ X, Fresh (.node a b) X ∧ ∀ S, (∀ s ∈ setsT (.node a b), s ∈ S) → X ∉ S → newOf S (setsT U) = 1 := by
  have hl := (turn_leaves h).1
  have hU : setT U = setT (.node a b) := setT_eq (fun u => hl.mem_iff)
  refine ⟨hU, ?_⟩
  rcases hk with rfl | rfl
  · cases a with
    | leaf _ => cases h
    | node p q =>
      injection h with h
      subst h
      have hd := List.nodup_append.1 hT.1
      have hpq := List.nodup_append.1 (show (p.leaves ++ q.leaves).Nodup from hd.1)
      obtain ⟨up, hup⟩ := leaves_pos p
      obtain ⟨uq, huq⟩ := leaves_pos q
      obtain ⟨ub, hub⟩ := leaves_pos b
      have inq : ∀ {u}, u ∈ q.leaves → u ∈ (Tr.node q b).leaves := fun h => List.mem_append_left _ h
      have inb : ∀ {u}, u ∈ b.leaves → u ∈ (Tr.node q b).leaves := fun h => List.mem_append_right _ h
      have hN : ∀ v ∈ (Tr.node q b).leaves, 1 ≤ v ∧ v ≤ 128 := fun v hv => hT.2 v (by
        rcases List.mem_append.1 hv with hv | hv
        · exact List.mem_append_left _ (List.mem_append_right _ hv)
        · exact List.mem_append_right _ hv)
      have rq := hN uq (inq huq)
      have rb := hN ub (inb hub)
      refine ⟨setT (.node q b), ⟨fun hm => ?_, ⟨uq, rq.1, rq.2, has_of hN (inq huq)⟩, fun u h1 h2 hu => ?_⟩, fun S hS hX => ?_⟩
      · simp only [setsT, List.mem_append, List.mem_singleton] at hm
        rcases hm with (hm | hm | hm) | hm | hm
        · exact hpq.2.2 uq (setsT_has p _ hm uq rq.1 rq.2 (has_of hN (inq huq))) uq huq rfl
        · exact hd.2.2 ub (List.mem_append_right _ (setsT_has q _ hm ub rb.1 rb.2 (has_of hN (inb hub)))) ub hub rfl
        · have := has_of hN (inb hub)
          rw [hm, has_setT ub rb.1 rb.2] at this
          exact hd.2.2 ub (by simpa using this) ub hub rfl
        · exact hd.2.2 uq (List.mem_append_right _ huq) uq (setsT_has b _ hm uq rq.1 rq.2 (has_of hN (inq huq))) rfl
        · obtain ⟨r1, r2⟩ := hT.2 up (List.mem_append_left _ (List.mem_append_left _ hup))
          have hh : (setT (.node (.node p q) b)).has up = true := has_of hT.2 (List.mem_append_left _ (List.mem_append_left _ hup))
          rw [← hm, has_setT up r1 r2] at hh
          have hh : up ∈ (Tr.node q b).leaves := by simpa using hh
          rcases List.mem_append.1 hh with hh | hh
          · exact hpq.2.2 up hup up hh rfl
          · exact hd.2.2 up (List.mem_append_left _ hup) up hh rfl
      · rw [has_setT u h1 h2] at hu
        have hu : u ∈ (Tr.node q b).leaves := by simpa using hu
        rcases List.mem_append.1 hu with hu | hu
        · exact List.mem_append_left _ (List.mem_append_right _ hu)
        · exact List.mem_append_right _ hu
      · have mp : ∀ s ∈ setsT p, s ∈ S := fun s hs => hS s (by simp [setsT, hs])
        have mq : ∀ s ∈ setsT q, s ∈ S := fun s hs => hS s (by simp [setsT, hs])
        have mb : ∀ s ∈ setsT b, s ∈ S := fun s hs => hS s (by simp [setsT, hs])
        have mt : setT (.node p (.node q b)) ∈ S := by rw [hU]; exact hS _ (by simp [setsT])
        simp only [setsT, newOf_append, newOf_zero mp, newOf_zero mq, newOf_zero mb, newOf_one hX, newOf_in mt]
  · cases b with
    | leaf _ => cases h
    | node p q =>
      injection h with h
      subst h
      have hd := List.nodup_append.1 hT.1
      have hpq := List.nodup_append.1 (show (p.leaves ++ q.leaves).Nodup from hd.2.1)
      obtain ⟨ua, hua⟩ := leaves_pos a
      obtain ⟨up, hup⟩ := leaves_pos p
      obtain ⟨uq, huq⟩ := leaves_pos q
      have ina : ∀ {u}, u ∈ a.leaves → u ∈ (Tr.node a p).leaves := fun h => List.mem_append_left _ h
      have inp : ∀ {u}, u ∈ p.leaves → u ∈ (Tr.node a p).leaves := fun h => List.mem_append_right _ h
      have hN : ∀ v ∈ (Tr.node a p).leaves, 1 ≤ v ∧ v ≤ 128 := fun v hv => hT.2 v (by
        rcases List.mem_append.1 hv with hv | hv
        · exact List.mem_append_left _ hv
        · exact List.mem_append_right _ (List.mem_append_left _ hv))
      have ra := hN ua (ina hua)
      have rp := hN up (inp hup)
      refine ⟨setT (.node a p), ⟨fun hm => ?_, ⟨ua, ra.1, ra.2, has_of hN (ina hua)⟩, fun u h1 h2 hu => ?_⟩, fun S hS hX => ?_⟩
      · simp only [setsT, List.mem_append, List.mem_singleton] at hm
        rcases hm with hm | (hm | hm | hm) | hm
        · exact hd.2.2 up (setsT_has a _ hm up rp.1 rp.2 (has_of hN (inp hup))) up (List.mem_append_left _ hup) rfl
        · exact hd.2.2 ua hua ua (List.mem_append_left _ (setsT_has p _ hm ua ra.1 ra.2 (has_of hN (ina hua)))) rfl
        · exact hd.2.2 ua hua ua (List.mem_append_right _ (setsT_has q _ hm ua ra.1 ra.2 (has_of hN (ina hua)))) rfl
        · have := has_of hN (ina hua)
          rw [hm, has_setT ua ra.1 ra.2] at this
          exact hd.2.2 ua hua ua (by simpa using this) rfl
        · obtain ⟨r1, r2⟩ := hT.2 uq (List.mem_append_right _ (List.mem_append_right _ huq))
          have hh : (setT (.node a (.node p q))).has uq = true := has_of hT.2 (List.mem_append_right _ (List.mem_append_right _ huq))
          rw [← hm, has_setT uq r1 r2] at hh
          have hh : uq ∈ (Tr.node a p).leaves := by simpa using hh
          rcases List.mem_append.1 hh with hh | hh
          · exact hd.2.2 uq hh uq (List.mem_append_right _ huq) rfl
          · exact hpq.2.2 uq hh uq huq rfl
      · rw [has_setT u h1 h2] at hu
        have hu : u ∈ (Tr.node a p).leaves := by simpa using hu
        rcases List.mem_append.1 hu with hu | hu
        · exact List.mem_append_left _ hu
        · exact List.mem_append_right _ (List.mem_append_left _ hu)
      · have ma : ∀ s ∈ setsT a, s ∈ S := fun s hs => hS s (by simp [setsT, hs])
        have mp : ∀ s ∈ setsT p, s ∈ S := fun s hs => hS s (by simp [setsT, hs])
        have mq : ∀ s ∈ setsT q, s ∈ S := fun s hs => hS s (by simp [setsT, hs])
        have mt : setT (.node (.node a p) q) ∈ S := by rw [hU]; exact hS _ (by simp [setsT])
        simp only [setsT, newOf_append, newOf_zero ma, newOf_zero mp, newOf_zero mq, newOf_one hX, newOf_in mt]
theorem tAt_new {kind : Nat} (hk : kind = 1 ∨ kind = 2) : ∀ {T U : Tr} {n i : Nat}, GoodT T → tAt kind T n i = some U → setT U = setT T ∧ ∃ X, Fresh T X ∧ ∀ S, (∀ s ∈ setsT T, s ∈ S) → X ∉ S → newOf S (setsT U) = 1
  | .leaf _, U, n, i, hT, h => by cases h
  | .node a b, U, n, i, hT, h => by
    have hl := (tAt_leaves h).1
    have hU : setT U = setT (.node a b) := setT_eq (fun u => hl.mem_iff)
    refine ⟨hU, ?_⟩
    unfold tAt at h
    split at h
    · exact (turn_new hk hT h).2
    · split at h
      · obtain ⟨c, hc, rfl⟩ := Option.map_eq_some_iff.1 h
        obtain ⟨_, X, hX, hS⟩ := tAt_new hk hT.left hc
        refine ⟨X, fresh_left hT hX, fun S h1 h2 => ?_⟩
        have q1 := hS S (fun s hs => h1 s (by simp [setsT, hs])) h2
        have q2 : ∀ s ∈ setsT b, s ∈ S := fun s hs => h1 s (by simp [setsT, hs])
        have q3 : setT (.node c b) ∈ S := by rw [hU]; exact h1 _ (by simp [setsT])
        simp only [setsT, newOf_append, q1, newOf_zero q2, newOf_in q3]
      · obtain ⟨c, hc, rfl⟩ := Option.map_eq_some_iff.1 h
        obtain ⟨_, X, hX, hS⟩ := tAt_new hk hT.right hc
        refine ⟨X, fresh_right hT hX, fun S h1 h2 => ?_⟩
        have q1 := hS S (fun s hs => h1 s (by simp [setsT, hs])) h2
        have q2 : ∀ s ∈ setsT a, s ∈ S := fun s hs => h1 s (by simp [setsT, hs])
        have q3 : setT (.node a c) ∈ S := by rw [hU]; exact h1 _ (by simp [setsT])
        simp only [setsT, newOf_append, q1, newOf_zero q2, newOf_in q3]
theorem tAt_same : ∀ {T U : Tr} {n i : Nat}, tAt 3 T n i = some U → ∀ s ∈ setsT U, s ∈ setsT T
  | .leaf _, U, n, i, h => by cases h
  | .node a b, U, n, i, h => by
    have hl := (tAt_leaves h).1
    have hU : setT U = setT (.node a b) := setT_eq (fun u => hl.mem_iff)
    unfold tAt at h
    split at h
    · injection h with h
      subst h
      intro s hs
      simp only [setsT, List.mem_append, List.mem_singleton] at hs ⊢
      rcases hs with hs | hs | hs
      · exact .inr (.inl hs)
      · exact .inl hs
      · exact .inr (.inr (hs.trans hU))
    · split at h
      · obtain ⟨c, hc, rfl⟩ := Option.map_eq_some_iff.1 h
        have ih := tAt_same hc
        intro s hs
        simp only [setsT, List.mem_append, List.mem_singleton] at hs ⊢
        rcases hs with hs | hs | hs
        · exact .inl (ih s hs)
        · exact .inr (.inl hs)
        · exact .inr (.inr (hs.trans hU))
      · obtain ⟨c, hc, rfl⟩ := Option.map_eq_some_iff.1 h
        have ih := tAt_same hc
        intro s hs
        simp only [setsT, List.mem_append, List.mem_singleton] at hs ⊢
        rcases hs with hs | hs | hs
        · exact .inl hs
        · exact .inr (.inl (ih s hs))
        · exact .inr (.inr (hs.trans hU))
theorem new_count {kind : Nat} (hk : kind = 1 ∨ kind = 2 ∨ kind = 3) {T U : Tr} {i : Nat} (hT : GoodT T) (h : tAt kind T 0 i = some U) : newOf (setsOf (post T 0)) (setsOf (post U 0)) = if kind = 3 then 0 else 1 := by
  rw [sets_post hT, sets_post (tAt_good hT h)]
  rcases hk with hk | hk | rfl
  · obtain ⟨_, X, hX, hS⟩ := tAt_new (.inl hk) hT h
    rw [hS _ (fun _ h => h) hX.1, if_neg (by omega)]
  · obtain ⟨_, X, hX, hS⟩ := tAt_new (.inr hk) hT h
    rw [hS _ (fun _ h => h) hX.1, if_neg (by omega)]
  · rw [newOf_zero (tAt_same h), if_pos rfl]
end Go.Proofs.YtpeoodkepjhhiaaDoor
namespace Go.Proofs.YtpeoodkepjhhiaaDoor
open Go Go.RowKit
def encS (s : VS) : Value := .agg #[.int .u64 (s.a.toNat : Int), .int .u64 (s.b.toNat : Int)]
theorem check57 (em : Bool) (s : VS) (w : World) : (Instr.checkKey em 10000 57 (encS s)).run Tryd.prog w = .ok () w := by
  have h2 : List.range' 0 2 = [0, 1] := rfl
  have hc : ∀ x : Int, (Instr.checkKey em 9999 55 (.int .u64 x)).run Tryd.prog w = .ok () w := fun x => MapKept.run_checkKey (k := .int .u64 x) Tryd.underlying55 (show MapKept.IsKey (.int .u64) (.int .u64 x) from rfl) em 9998
  unfold Instr.checkKey encS
  simp [go_sem, h2, hc]
theorem eqn57 (a b c d : Int) (w : World) : (Op.equalIn 10000 57 (.agg #[.int .u64 a, .int .u64 b]) (.agg #[.int .u64 c, .int .u64 d])).run Tryd.prog w = .ok (decide (a = c ∧ b = d)) w := by
  have h2 : List.range' 0 2 = [0, 1] := rfl
  unfold Op.equalIn
  by_cases h : a = c
  · by_cases h' : b = d
    · simp [go_sem, h2, h, h']
    · simp [go_sem, h2, h, h']
  · simp [go_sem, h2, h]
theorem equal57 (s t : VS) (w : World) : (Op.equal 57 (encS s) (encS t)).run Tryd.prog w = .ok (decide (s = t)) w := by
  have h : (Op.equalIn 10000 57 (encS s) (encS t)).run Tryd.prog w = .ok (decide (((s.a.toNat : Int) = (t.a.toNat : Int)) ∧ ((s.b.toNat : Int) = (t.b.toNat : Int)))) w := eqn57 _ _ _ _ w
  have e : decide (((s.a.toNat : Int) = (t.a.toNat : Int)) ∧ ((s.b.toNat : Int) = (t.b.toNat : Int))) = decide (s = t) := by
    refine decide_eq_decide.2 ⟨fun h => (vs_eq s t).1 ⟨BitVec.eq_of_toNat_eq (by omega), BitVec.eq_of_toNat_eq (by omega)⟩, ?_⟩
    rintro rfl
    exact ⟨rfl, rfl⟩
  rw [e] at h
  exact h
theorem asking57 (k : VS) (w : World) : ∀ (l : List (VS × Value)) (es : List MapEntry) (i : Nat), es.map (fun e => (e.key, e.val)) = encL encS l → (Instr.findAsking 57 (encS k) es i).run Tryd.prog w = .ok (look k l i) w
  | [], es, i, h => by
    cases es with
    | nil => rfl
    | cons e es => cases h
  | (a, v) :: l, es, i, h => by
    cases es with
    | nil => cases h
    | cons e es =>
      simp only [List.map_cons, encL, List.cons.injEq, Prod.mk.injEq] at h
      obtain ⟨⟨h1, h2⟩, h3⟩ := h
      unfold Instr.findAsking look
      rw [h1]
      simp only [Sem.run_bind, equal57, Result.andThen_ok]
      by_cases hk : k = a
      · simp [hk, h2]
      · simp only [hk, decide_false, if_false]
        exact asking57 k w l es (i + 1) h3
theorem find57 (k : VS) (w : World) (l : List (VS × Value)) (es : List MapEntry) (h : es.map (fun e => (e.key, e.val)) = encL encS l) : (Instr.findKey 57 (encS k) es).run Tryd.prog w = .ok (look k l 0) w := by
  have hn : Instr.findNow (.array 2 55) (encS k) es 0 = if es = [] then some none else none := by
    cases es with
    | nil => rfl
    | cons e es => rfl
  unfold Instr.findKey
  simp only [Sem.run_bind, run_underlying Tryd.underlying57, Result.andThen_ok, hn]
  cases es with
  | nil =>
    cases l with
    | nil => rfl
    | cons p l => cases h
  | cons e es => exact asking57 k w l (e :: es) 0 h
theorem stays57 (s : VS) (w : World) : (Instr.keyThatStays (encS s) (encS s)).run Tryd.prog w = .ok (encS s) w := by
  have h : Instr.sameBits 10000 (encS s) (encS s) = true := by simp [encS, Instr.sameBits]
  simp [Instr.keyThatStays, h]
section
variable {w : World} {t e : TypeId} {m : Nat} {l : List (VS × Value)}
theorem run_lookS (ht : Tryd.prog.underlying t = some (.map 57 e)) (h : MapB w m (encL encS l)) (k : VS) {r : Option (Nat × Value)} (hr : look k l 0 = r) {z : Value} (hz : (zeroValue e).run Tryd.prog w = .ok z w) :
    (Instr.lookup t (.map (some m)) (encS k) false).run Tryd.prog w = .ok (match r with | some (_, v) => v | none => z) w := by
  obtain ⟨es, clock, hb, hl⟩ := h
  have h1 := find57 k w l es.toList hl
  rw [hr] at h1
  cases r with
  | none => simp [Instr.lookup, run_underlying ht, MapKept.run_getObj_map hb, check57, h1, hz, Result.andThen]
  | some p => simp [Instr.lookup, run_underlying ht, MapKept.run_getObj_map hb, check57, h1, Result.andThen]
theorem run_putS (ht : Tryd.prog.underlying t = some (.map 57 e)) (h : MapB w m (encL encS l)) (k : VS) (v : Value) :
    ∃ w', (Instr.mapUpdate t (.map (some m)) (encS k) v).run Tryd.prog w = .ok () w' ∧ MapB w' m (encL encS (aput k v l)) ∧ Frame (fun j => j = m) w w' ∧ w'.heap.size = w.heap.size := by
  obtain ⟨es, clock, hb, hl⟩ := h
  have h1 := find57 k w l es.toList hl
  have fr : ∀ o, Frame (fun j => j = m) w { w with heap := w.heap.setIfInBounds m o } := fun o => ⟨rfl, rfl, rfl, by simp, fun j _ hj => (MapKept.heap_set (o' := o) hb).2 j hj⟩
  cases hr : look k l 0 with
  | none =>
    rw [hr] at h1
    refine ⟨_, by simp only [Instr.mapUpdate, Sem.run_bind, run_underlying ht, MapKept.run_getObj_map hb, check57, h1, MapKept.run_setObj_map _ hb, Result.andThen]; rfl, ?_, fr _, by simp⟩
    refine ⟨_, _, (MapKept.heap_set hb).1, ?_⟩
    rw [aput_none k v l 0 hr]
    simp [encL, hl]
  | some p =>
    obtain ⟨j, u⟩ := p
    rw [hr] at h1
    obtain ⟨_, a, ha, h3⟩ := look_shift k l 0 j u hr
    have hj : ∃ x, es[j]? = some x ∧ x.key = encS k := by
      have h4 : (es.toList.map fun e => (e.key, e.val))[j]? = some (encS a, u) := by rw [hl]; unfold encL; rw [List.getElem?_map]; rw [Nat.sub_zero] at h3; rw [h3]; rfl
      rw [List.getElem?_map] at h4
      cases h5 : es.toList[j]? with
      | none => rw [h5] at h4; cases h4
      | some x =>
        rw [h5] at h4
        injection h4 with h4
        injection h4 with h6 _
        exact ⟨x, by simpa using h5, by rw [h6, ha]⟩
    obtain ⟨x, hx, hxk⟩ := hj
    refine ⟨_, by simp only [Instr.mapUpdate, Sem.run_bind, run_underlying ht, MapKept.run_getObj_map hb, check57, h1, hx, Option.map_some, Option.getD_some, hxk, stays57, MapKept.run_setObj_map _ hb, Result.andThen]; rfl, ?_, fr _, by simp⟩
    refine ⟨_, _, (MapKept.heap_set hb).1, ?_⟩
    rw [aput_some k v l 0 j u hr]
    have e1 : (es.modify j fun e => { e with key := encS k, val := v }).toList = es.toList.modify j fun e => { e with key := encS k, val := v } := by simp
    rw [e1]
    apply List.ext_getElem?
    intro q
    have hq : (es.toList.map fun e => (e.key, e.val))[q]? = (encL encS l)[q]? := by rw [hl]
    unfold encL at hq ⊢
    simp only [List.getElem?_map, List.getElem?_modify, Nat.sub_zero] at hq ⊢
    by_cases hqj : j = q
    · subst hqj
      rw [Nat.sub_zero] at h3
      simp [h3, hx, ha]
    · simp only [hqj, if_false]
      simpa using hq
theorem ex_lookS {ρ : Operand → Value} {x y : Operand} {d : Option Tmp} {t' : TypeId} {pos : String} {aft : Array Edge} {gd : Option (Nat × Bool)} (ht : Tryd.prog.underlying t = some (.map 57 e)) {z : Value} (hz : ZeroB e z) (h : MapB w m (encL encS l)) (k : VS) {V : Value} (hV : lookV (look k l 0) z = V) (hx : ρ x = .map (some m)) (hy : ρ y = encS k) :
    (execOp ρ ⟨d, .lookup t x y false, t', pos, aft, gd⟩).run Tryd.prog w = .ok (.value V) w := by
  subst hV
  generalize hr : look k l 0 = r
  have := run_lookS ht h k hr (run_zeroB hz (w := w))
  cases r <;> simp only [execOp, hx, hy, Sem.run_bind, this, Result.andThen_ok, Sem.run_pure] <;> rfl
theorem own_mapputS {Z : Bool → Nat → Prop} {w0 : World} {L : List En} (hO : Own Z w0 w (.map m (encL encS l) :: L)) (ht : Tryd.prog.underlying t = some (.map 57 e)) (k : VS) (v : Value) :
    ∃ w', (∀ (ρ : Operand → Value) x y z t' pos aft gd, ρ x = .map (some m) → ρ y = encS k → ρ z = v → (execOp ρ ⟨none, .mapUpdate t x y z, t', pos, aft, gd⟩).run Tryd.prog w = .ok .skip w') ∧ Own Z w0 w' (.map m (encL encS (aput k v l)) :: L) ∧ w'.heap.size = w.heap.size := by
  obtain ⟨w', h1, h2, h3, h4⟩ := run_putS ht (hO.map 0 rfl) k v
  refine ⟨w', fun ρ x y z t' pos aft gd hx hy hz => ?_, hO.mapput h2 h3, h4⟩
  simp only [execOp, hx, hy, hz, Sem.run_bind, h1, Result.andThen_ok, Sem.run_pure]
end
/-- The map holds true at just the sets of S. -/
def Holds (l : List (VS × Value)) (S : List VS) : Prop := (∀ (s : VS) (i : Nat), (look s l i).isSome = decide (s ∈ S)) ∧ ∀ p ∈ l, p.2 = .bool true
theorem holds_nil : Holds [] [] := ⟨fun s i => by simp [look], by simp⟩
theorem look_aput (k s : VS) (v : Value) : ∀ (l : List (VS × Value)) (i : Nat), (look s (aput k v l) i).isSome = (decide (s = k) || (look s l i).isSome)
  | [], i => by
    unfold aput look
    by_cases h : s = k
    · simp [h]
    · simp [h, look]
  | (a, u) :: l, i => by
    unfold aput
    by_cases hk : k = a
    · subst hk
      rw [if_pos rfl]
      unfold look
      by_cases h : s = k
      · simp [h]
      · simp [h]
    · rw [if_neg hk]
      unfold look
      by_cases h : s = a
      · simp [h]
      · simp only [h, if_false]
        exact look_aput k s v l (i + 1)
theorem aput_mem {k : VS} {v : Value} : ∀ {l : List (VS × Value)} {p : VS × Value}, p ∈ aput k v l → p.2 = v ∨ p ∈ l
  | [], p, h => by
    unfold aput at h
    rw [List.mem_singleton.1 h]
    exact .inl rfl
  | (a, u) :: l, p, h => by
    unfold aput at h
    split at h
    · rcases List.mem_cons.1 h with rfl | h
      · exact .inl rfl
      · exact .inr (List.mem_cons_of_mem _ h)
    · rcases List.mem_cons.1 h with rfl | h
      · exact .inr (by simp)
      · rcases aput_mem h with h | h
        · exact .inl h
        · exact .inr (List.mem_cons_of_mem _ h)
theorem Holds.put {l : List (VS × Value)} {S : List VS} (h : Holds l S) (k : VS) : Holds (aput k (.bool true) l) (S ++ [k]) := by
  refine ⟨fun s i => ?_, fun p hp => ?_⟩
  · rw [look_aput, h.1 s i, ← Bool.decide_or, decide_eq_decide, List.mem_append, List.mem_singleton]
    exact or_comm
  · rcases aput_mem hp with h' | h'
    · exact h'
    · exact h.2 p h'
theorem Holds.at_ {l : List (VS × Value)} {S : List VS} (h : Holds l S) (s : VS) : lookV (look s l 0) (.bool false) = .bool (decide (s ∈ S)) := by
  rw [← h.1 s 0]
  cases hl : look s l 0 with
  | none => rfl
  | some p =>
    obtain ⟨j, v⟩ := p
    obtain ⟨_, a, _, h3⟩ := look_shift s l 0 j v hl
    have := h.2 _ (List.mem_of_getElem? h3)
    dsimp only at this
    subst this
    rfl
end Go.Proofs.YtpeoodkepjhhiaaDoor
