/-
  Lemmas and contracts, joined: Vgrow Vopen2 Vleaves VlBack.
-/
import Derived.Test.YtpeoodkepjhhiaaDoorPf4
import Derived.Test.YtpeoodkepjhhiaaDoorPf1
namespace Go.Proofs.YtpeoodkepjhhiaaDoor
open Go Go.RowKit
/-- A slice of bytes, in the blocks of D. -/
def BytesD (D : Nat → Prop) (w : World) (v : Value) (bs : List Nat) : Prop :=
  ∃ A c, v = .slice A bs.length c ∧ bs.length ≤ c ∧ c ≤ maxLen ∧ (0 < bs.length → ∃ b o, D b ∧ A = some ⟨b, o, none⟩ ∧ ∀ (i x : Nat), bs[i]? = some x → w.cell? ⟨b, o + i, none⟩ = some (.int .u8 (x : Int)) ∧ x ≤ 255)
section
variable {D D' : Nat → Prop} {w w' : World} {v : Value} {bs : List Nat}
theorem BytesD.move (h : BytesD D w v bs) (hk : ∀ k, D k → w'.heap[k]? = w.heap[k]?) : BytesD D w' v bs := by
  obtain ⟨A, c, h1, h2, h3, h4⟩ := h
  refine ⟨A, c, h1, h2, h3, fun hp => ?_⟩
  obtain ⟨b, o, hb, hA, hc⟩ := h4 hp
  exact ⟨b, o, hb, hA, fun i x hx => ⟨(cell_move (hk b hb)).trans (hc i x hx).1, (hc i x hx).2⟩⟩
theorem BytesD.slice (h : BytesD D w v bs) : ∃ A c, v = .slice A bs.length c := by
  obtain ⟨A, c', hv, _⟩ := h
  exact ⟨A, c', hv⟩
theorem BytesD.form (h : BytesD D w v bs) (hp : 0 < bs.length) : ∃ b o c, v = .slice (some ⟨b, o, none⟩) bs.length c := by
  obtain ⟨A, c, h1, h2, h3, h4⟩ := h
  obtain ⟨b, o, hb, hA, hc⟩ := h4 hp
  exact ⟨b, o, c, by rw [h1, hA]⟩
theorem BytesD.cell {b o n c : Nat} (h : BytesD D w (.slice (some ⟨b, o, none⟩) n c) bs) {i x : Nat} (hx : bs[i]? = some x) : w.cell? ⟨b, o + i, none⟩ = some (.int .u8 (x : Int)) ∧ x ≤ 255 := by
  obtain ⟨A, c, h1, h2, h3, h4⟩ := h
  obtain ⟨b', o', hb, hA, hc⟩ := h4 (by have := (List.getElem?_eq_some_iff.1 hx).1; omega)
  injection h1 with h1 _ _
  subst hA
  injection h1 with h1
  injection h1 with h1 h5
  subst h1 h5
  exact hc i x hx
def bytesE (D : Nat → Prop) (v : Value) (bs : List Nat) : En := .ro D (fun w => BytesD D w v bs)
theorem bytesE_holds (h : BytesD D w v bs) (hD : ∀ k, D k → k < w.heap.size) : (bytesE D v bs).holds w := ⟨h, hD, fun _ _ _ hk h => h.move hk⟩
end
section
variable {ρ : Operand → Value} {d : Option Tmp} {x y : Operand} {t T1 : TypeId} {pos : String} {aft : Array Edge} {gd : Option (Nat × Bool)} {w : World}
theorem ex_conv8 {a : Nat} (hx : ρ x = .int .u8 (a : Int)) (h : a ≤ 255) : (execOp ρ ⟨d, .convert 5 3 x, t, pos, aft, gd⟩).run Tryd.prog w = .ok (.value (.int .i64 (a : Int))) w := by
  have e : IntKind.i64.wrap (a : Int) = (a : Int) := wrap_in (by omega) (by omega)
  simp [go_sem, hx, e]
theorem ex_remg {a b q : Nat} (hx : ρ x = .int .i64 (a : Int)) (hy : ρ y = .int .i64 (b : Int)) (h : 0 < b) (hq : a % b = q) : (execOp ρ ⟨d, .binOp .rem 3 x y T1, t, pos, aft, gd⟩).run Tryd.prog w = .ok (.value (.int .i64 ((q : Nat) : Int))) w := by
  subst hq
  have e2 : (a : Int).tmod (b : Int) = ((a % b : Nat) : Int) := by simp [Int.tmod_eq_emod_of_nonneg]
  have hb : ¬ b = 0 := by omega
  simp [go_sem, hx, hy, e2, hb]
theorem ex_rem8 {a b q : Nat} (hx : ρ x = .int .u8 (a : Int)) (hy : ρ y = .int .u8 (b : Int)) (h : 0 < b) (hq : a % b = q) : (execOp ρ ⟨d, .binOp .rem 5 x y T1, t, pos, aft, gd⟩).run Tryd.prog w = .ok (.value (.int .u8 ((q : Nat) : Int))) w := by
  subst hq
  have e2 : (a : Int).tmod (b : Int) = ((a % b : Nat) : Int) := by simp [Int.tmod_eq_emod_of_nonneg]
  have hb : ¬ b = 0 := by omega
  simp [go_sem, hx, hy, e2, hb]
end
theorem next_ {Z : Bool → Nat → Prop} {w0 W : World} {tb lb : Nat} {D : Nat → Prop} {V : Value} {bs : List Nat} {a : Nat} (O0 : Own Z w0 W [.blk tb 3 #[.int .i64 (a : Int)], .blk lb 32 #[V], .ro D (fun w => BytesD D w V bs)]) (ha : a ≤ 100000) (hbs : bs.length ≤ 100000) :
    Calls Tryd.prog 51 #[.pointer (some ⟨tb, 0, none⟩), .pointer (some ⟨lb, 0, none⟩)] W fun e w' => ∃ r : Nat, r ≤ a + 256 ∧ e = .returned (.int .i64 (r : Int)) ∧ Own Z w0 w' [.blk tb 3 #[.int .i64 ((a + 1 : Nat) : Int)], .blk lb 32 #[V], .ro D (fun w => BytesD D w V bs)] := by
  have hB : BytesD D W V bs := O0.ro 2 rfl
  rcases Nat.eq_zero_or_pos bs.length with h0 | h0
  · obtain ⟨A, cl, rfl⟩ := hB.slice
    refine sx_enter (args := [.pointer (some ⟨tb, 0, none⟩), .pointer (some ⟨lb, 0, none⟩)]) Tryd.func51 rfl rfl (by simp) ?_
    refine cw_seq (fun FK1 K1 => ?_)
    refine cw_region ?_
    refine wl_val (v := .int .i64 0) (fun ρ e => ex_assign (e _ _ rfl)) rfl rfl ?_
    refine wl_nil ?_
    refine xw_next K1 ?_
    refine cw_seq (fun FK2 K2 => ?_)
    refine cw_region ?_
    refine wl_val (v := .int .i64 (a : Int)) (fun ρ e => ex_load1 ty3 (e _ _ rfl) (O0.cell 0 0 rfl rfl)) rfl rfl ?_
    refine wl_val (v := .int .i64 ((a + 1 : Nat) : Int)) (fun ρ e => ex_arith (k := .i64) (u := (a : Int)) (v := 1) (e _ _ rfl) (e _ _ rfl) (congrArg some ((congrArg _ (show _ = ((a + 1 : Nat) : Int) by omega)).trans (wrap_in (by omega) (by omega))))) rfl rfl ?_
    obtain ⟨w3, r4, O5, hs6⟩ := own_put (o := 0) (n := 1) O0 ty3 (.int .i64 ((a + 1 : Nat) : Int)) [.int .i64 ((a + 1 : Nat) : Int)] (cs' := #[.int .i64 ((a + 1 : Nat) : Int)]) rfl rfl rfl (Nat.le_of_ble_eq_true rfl) rfl
    refine wl_none (fun ρ e => r4 ρ _ _ _ _ _ _ (e _ _ rfl) (e _ _ rfl)) rfl ?_
    refine wl_nil ?_
    refine xw_next K2 ?_
    refine cw_seq (fun FK7 K7 => ?_)
    refine cw_seq (fun FK8 K8 => ?_)
    refine cw_region ?_
    refine wl_val (v := .slice A bs.length cl) (fun ρ e => ex_load1 ty32 (e _ _ rfl) (O5.cell 1 0 rfl rfl)) rfl rfl ?_
    refine wl_val (v := .int .i64 ((bs.length : Nat) : Int)) (fun ρ e => ex_len el32 (e _ _ rfl)) rfl rfl ?_
    refine wl_val (v := .bool true) (fun ρ e => ex_cmp (u := ((bs.length : Nat) : Int)) (v := 0) (e _ _ rfl) (e _ _ rfl) (eql1 (by omega))) rfl rfl ?_
    refine wl_nil ?_
    refine xw_next K8 ?_
    refine cw_true rfl ?_
    refine cw_seq (fun FK9 K9 => ?_)
    refine cw_region ?_
    refine wl_val (v := .int .i64 ((a + 1 : Nat) : Int)) (fun ρ e => ex_load1 ty3 (e _ _ rfl) (O5.cell 0 0 rfl rfl)) rfl rfl ?_
    refine wl_val (v := .int .i64 ((a + 1 : Nat) : Int)) (fun ρ e => ex_assign (e _ _ rfl)) rfl rfl ?_
    refine wl_nil ?_
    refine xw_next K9 ?_
    refine cw_ret ?_
    refine xw_past (by intro h; cases h) ?_
    refine xw_ret (v := .int .i64 ((a + 1 : Nat) : Int)) (fun T hT => res1 rfl T _ (hT 2 _ rfl)) ?_
    exact ⟨a + 1, by omega, rfl, O5⟩
  · obtain ⟨bl, ol, cl, rfl⟩ := hB.form h0
    refine sx_enter (args := [.pointer (some ⟨tb, 0, none⟩), .pointer (some ⟨lb, 0, none⟩)]) Tryd.func51 rfl rfl (by simp) ?_
    refine cw_seq (fun FK1 K1 => ?_)
    refine cw_region ?_
    refine wl_val (v := .int .i64 0) (fun ρ e => ex_assign (e _ _ rfl)) rfl rfl ?_
    refine wl_nil ?_
    refine xw_next K1 ?_
    refine cw_seq (fun FK2 K2 => ?_)
    refine cw_region ?_
    refine wl_val (v := .int .i64 (a : Int)) (fun ρ e => ex_load1 ty3 (e _ _ rfl) (O0.cell 0 0 rfl rfl)) rfl rfl ?_
    refine wl_val (v := .int .i64 ((a + 1 : Nat) : Int)) (fun ρ e => ex_arith (k := .i64) (u := (a : Int)) (v := 1) (e _ _ rfl) (e _ _ rfl) (congrArg some ((congrArg _ (show _ = ((a + 1 : Nat) : Int) by omega)).trans (wrap_in (by omega) (by omega))))) rfl rfl ?_
    obtain ⟨w3, r4, O5, hs6⟩ := own_put (o := 0) (n := 1) O0 ty3 (.int .i64 ((a + 1 : Nat) : Int)) [.int .i64 ((a + 1 : Nat) : Int)] (cs' := #[.int .i64 ((a + 1 : Nat) : Int)]) rfl rfl rfl (Nat.le_of_ble_eq_true rfl) rfl
    refine wl_none (fun ρ e => r4 ρ _ _ _ _ _ _ (e _ _ rfl) (e _ _ rfl)) rfl ?_
    refine wl_nil ?_
    refine xw_next K2 ?_
    refine cw_seq (fun FK7 K7 => ?_)
    refine cw_seq (fun FK8 K8 => ?_)
    refine cw_region ?_
    refine wl_val (v := .slice (some ⟨bl, ol, none⟩) bs.length cl) (fun ρ e => ex_load1 ty32 (e _ _ rfl) (O5.cell 1 0 rfl rfl)) rfl rfl ?_
    refine wl_val (v := .int .i64 ((bs.length : Nat) : Int)) (fun ρ e => ex_len el32 (e _ _ rfl)) rfl rfl ?_
    refine wl_val (v := .bool false) (fun ρ e => ex_cmp (u := ((bs.length : Nat) : Int)) (v := 0) (e _ _ rfl) (e _ _ rfl) (eql0 (by omega))) rfl rfl ?_
    refine wl_nil ?_
    refine xw_next K8 ?_
    refine cw_false rfl ?_
    refine cw_skip ?_
    refine xw_next K7 ?_
    refine cw_seq (fun FK9 K9 => ?_)
    refine cw_drawn (fun X => Own Z w0 X [.blk tb 3 #[.int .i64 ((a + 1 : Nat) : Int)], .blk lb 32 #[.slice (some ⟨bl, ol, none⟩) bs.length cl], .ro D (fun w => BytesD D w (.slice (some ⟨bl, ol, none⟩) bs.length cl) bs)]) 10 [(0, 0), (1, 0), (2, 0), (3, 1), (4, 1), (5, 1), (6, 0), (7, 1), (8, 0), (9, 1), (10, 3)] (by kernel_rfl) (by kernel_rfl) (PQ.then_ PQ.body) (O5).drew ?_
    have O10 : Own Z w0 w3.drew [.blk tb 3 #[.int .i64 ((a + 1 : Nat) : Int)], .blk lb 32 #[.slice (some ⟨bl, ol, none⟩) bs.length cl], .ro D (fun w => BytesD D w (.slice (some ⟨bl, ol, none⟩) bs.length cl) bs)] := O5.drew
    refine wt0 (v := .slice (some ⟨bl, ol, none⟩) bs.length cl) rfl (fun ρ e W hW => ex_load1 ty32 (e _ _ rfl) (hW.cell 1 0 rfl rfl)) rfl rfl ?_
    refine wt0 (v := .int .i64 ((a + 1 : Nat) : Int)) rfl (fun ρ e W hW => ex_load1 ty3 (e _ _ rfl) (hW.cell 0 0 rfl rfl)) rfl rfl ?_
    refine wt0 (v := .slice (some ⟨bl, ol, none⟩) bs.length cl) rfl (fun ρ e W hW => ex_load1 ty32 (e _ _ rfl) (hW.cell 1 0 rfl rfl)) rfl rfl ?_
    refine wt1 (v := .int .i64 ((bs.length : Nat) : Int)) rfl (fun ρ e W => ex_len el32 (e _ _ rfl)) rfl rfl ?_
    obtain ⟨k11, hk11, lk11⟩ : ∃ q, (a + 1) % bs.length = q ∧ q < bs.length := ⟨_, rfl, Nat.mod_lt _ (by omega)⟩
    refine wt1 (v := .int .i64 (k11 : Int)) rfl (fun ρ e W => ex_remg (a := a + 1) (b := bs.length) (e _ _ rfl) (e _ _ rfl) (by omega) hk11) rfl rfl ?_
    obtain ⟨bv, hbv⟩ : ∃ v, bs[k11]? = some v := ⟨bs[k11], List.getElem?_eq_getElem lk11⟩
    have h255 := (BytesD.cell ((O10.ro 2 rfl) : BytesD _ _ (.slice (some ⟨bl, ol, none⟩) bs.length cl) bs) hbv).2
    refine wt1 (v := .pointer (some ⟨bl, ol + k11, none⟩)) rfl (fun ρ e W => ex_idx (q := ol + k11) (i := k11) el32 (e _ _ rfl) (e _ _ rfl) lk11 (by omega)) rfl rfl ?_
    refine wt0 (v := .int .u8 (bv : Int)) rfl (fun ρ e W hW => ex_load1 ty5 (e _ _ rfl) (BytesD.cell ((hW.ro 2 rfl) : BytesD _ _ (.slice (some ⟨bl, ol, none⟩) bs.length cl) bs) hbv).1) rfl rfl ?_
    refine wt1 (v := .int .i64 (bv : Int)) rfl (fun ρ e W => ex_conv8 (e _ _ rfl) h255) rfl rfl ?_
    refine wt0 (v := .int .i64 ((a + 1 : Nat) : Int)) rfl (fun ρ e W hW => ex_load1 ty3 (e _ _ rfl) (hW.cell 0 0 rfl rfl)) rfl rfl ?_
    refine wt1 (v := .int .i64 ((bv + a + 1 : Nat) : Int)) rfl (fun ρ e W => ex_arith (k := .i64) (u := (bv : Int)) (v := ((a + 1 : Nat) : Int)) (e _ _ rfl) (e _ _ rfl) (congrArg some ((congrArg _ (show _ = ((bv + a + 1 : Nat) : Int) by omega)).trans (wrap_in (by omega) (by omega))))) rfl rfl ?_
    refine wt3 (v := .int .i64 ((bv + a + 1 : Nat) : Int)) rfl (fun ρ e => ex_assign (e _ _ rfl)) rfl rfl ?_
    refine wt_nil ?_
    refine xw_next K9 ?_
    refine cw_ret ?_
    refine xw_ret (v := .int .i64 ((bv + a + 1 : Nat) : Int)) (fun T hT => res1 rfl T _ (hT 2 _ rfl)) ?_
    exact ⟨bv + a + 1, by omega, rfl, O10⟩
theorem take_one {L : List Int} {s : Nat} {v : Int} (h : L[s]? = some v) : (L.drop s).take 1 = [v] := by
  have e : (L.drop s)[0]? = some v := by rw [List.getElem?_drop, Nat.add_zero]; exact h
  cases hd : L.drop s with
  | nil => rw [hd] at e; simp at e
  | cons a r => rw [hd] at e; simp at e; simp [e]
theorem take_cut {L : List Int} {s k m : Nat} (h : k ≤ m) : (L.drop s).take k ++ (L.drop (s + k)).take (m - k) = (L.drop s).take m := by
  rw [← List.drop_drop]
  have e := List.take_append_drop k ((L.drop s).take m)
  rw [List.take_take, Nat.min_eq_left h, List.drop_take] at e
  exact e
theorem gpart_ {L0 : List Int} {D : Nat → Prop} {V : Value} {bs : List Nat} {tb lb nb pb ob vb : Nat} (hbs : bs.length ≤ 100000) :
    ∀ (k s m cc : Nat), s + m ≤ L0.length → 1 ≤ m → m ≤ k → m ≤ cc → ∀ (Z : Bool → Nat → Prop) (w0 W : World) (A : Option Addr) (n c : Nat) (l : List VN) (a : Nat), Own Z w0 W [.blk tb 3 #[.int .i64 (a : Int)], .blk lb 32 #[V], .blk nb 68 #[.func (.func 51) #[] #[.pointer (some ⟨tb, 0, none⟩), .pointer (some ⟨lb, 0, none⟩)]], .blk pb 69 #[.func (.func 52) #[] #[.pointer (some ⟨nb, 0, none⟩), .pointer (some ⟨pb, 0, none⟩), .pointer (some ⟨ob, 0, none⟩)]], .blk ob 23 #[.slice A n c], .row (.slice A n c) 38 3 n (ncells l), .blk vb 3 ((intCs L0).toArray), .ro D (fun w => BytesD D w (V) bs)] → n + 2 * m ≤ 100000 → a + m ≤ 100000 →
    Calls Tryd.prog 52 #[.slice (some ⟨vb, s, none⟩) m cc, .pointer (some ⟨nb, 0, none⟩), .pointer (some ⟨pb, 0, none⟩), .pointer (some ⟨ob, 0, none⟩)] W fun e w' => ∃ T A' c', T.leaves = (L0.drop s).take m ∧ T.size = 2 * m - 1 ∧ e = .returned (.int .i64 ((n + (2 * m - 1) - 1 : Nat) : Int)) ∧ Own Z w0 w' [.blk tb 3 #[.int .i64 ((a + (m - 1) : Nat) : Int)], .blk lb 32 #[V], .blk nb 68 #[.func (.func 51) #[] #[.pointer (some ⟨tb, 0, none⟩), .pointer (some ⟨lb, 0, none⟩)]], .blk pb 69 #[.func (.func 52) #[] #[.pointer (some ⟨nb, 0, none⟩), .pointer (some ⟨pb, 0, none⟩), .pointer (some ⟨ob, 0, none⟩)]], .blk ob 23 #[.slice A' (n + (2 * m - 1)) c'], .row (.slice A' (n + (2 * m - 1)) c') 38 3 (n + (2 * m - 1)) (ncells (l ++ post T n)), .blk vb 3 ((intCs L0).toArray), .ro D (fun w => BytesD D w (V) bs)]
  | 0, s, m, cc, _, h1, h2, _ => absurd h1 (by omega)
  | k + 1, s, m, cc, hsm, hm1, hmk, hmc => fun Z w0 W A n c l a O0 hlim halim => by
    have IH := gpart_ (L0 := L0) (D := D) (V := V) (bs := bs) (tb := tb) (lb := lb) (nb := nb) (pb := pb) (ob := ob) (vb := vb) hbs k
    obtain ⟨v0, hv0⟩ : ∃ v, L0[s]? = some v := ⟨L0[s], List.getElem?_eq_getElem (by omega)⟩
    by_cases h1 : m = 1
    · skip
      refine sx_enter (args := [.slice (some ⟨vb, s, none⟩) m cc, .pointer (some ⟨nb, 0, none⟩), .pointer (some ⟨pb, 0, none⟩), .pointer (some ⟨ob, 0, none⟩)]) Tryd.func52 rfl rfl (by simp) ?_
      refine cw_seq (fun FK1 K1 => ?_)
      refine cw_region ?_
      refine wl_val (v := .int .i64 0) (fun ρ e => ex_assign (e _ _ rfl)) rfl rfl ?_
      refine wl_nil ?_
      refine xw_next K1 ?_
      refine cw_seq (fun FK2 K2 => ?_)
      refine cw_region ?_
      refine wl_val (v := .slice (some ⟨vb, s, none⟩) m cc) (fun ρ e => ex_move (e _ _ rfl)) rfl rfl ?_
      refine wl_val (v := .pointer (some ⟨vb, s, none⟩)) (fun ρ e => ex_idx (q := s) (i := 0) el36 (e _ _ rfl) (e _ _ rfl) (by omega) (by omega)) rfl rfl ?_
      refine wl_val (v := .int .i64 v0) (fun ρ e => ex_load1 ty3 (e _ _ rfl) (((O0.blk 6 rfl).cell _).trans (getI hv0))) rfl rfl ?_
      refine wl_val (v := .agg #[.int .i64 (-1), .int .i64 (-1), .int .i64 v0]) (fun ρ e => ex_build (cells := #[.int .i64 (-1), .int .i64 (-1), .int .i64 v0]) st38 (e.parts rfl) rfl) rfl rfl ?_
      obtain ⟨g3, w4, r5, O6, hg7, hs8⟩ := own_alloc O0 38 ze38 rfl
      refine wl_val (v := .pointer (some ⟨g3, 0, none⟩)) (fun ρ e => r5 ρ _ _ _ _ _) rfl rfl ?_
      obtain ⟨w9, r10, O11, hs12⟩ := own_put (o := 0) (n := 3) O6 ty38 (.agg #[.int .i64 (-1), .int .i64 (-1), .int .i64 v0]) [.int .i64 (-1), .int .i64 (-1), .int .i64 v0] (cs' := #[.int .i64 (-1), .int .i64 (-1), .int .i64 v0]) rfl rfl rfl (Nat.le_of_ble_eq_true rfl) rfl
      refine wl_none (fun ρ e => r10 ρ _ _ _ _ _ _ (e _ _ rfl) (e _ _ rfl)) rfl ?_
      refine wl_nil ?_
      refine xw_next K2 ?_
      refine cw_seq (fun FK13 K13 => ?_)
      refine cw_seq (fun FK14 K14 => ?_)
      refine cw_region ?_
      refine wl_val (v := .slice (some ⟨vb, s, none⟩) m cc) (fun ρ e => ex_move (e _ _ rfl)) rfl rfl ?_
      refine wl_val (v := .int .i64 (m : Int)) (fun ρ e => ex_len el36 (e _ _ rfl)) rfl rfl ?_
      refine wl_val (v := .bool false) (fun ρ e => ex_cmp (u := (m : Int)) (v := 1) (e _ _ rfl) (e _ _ rfl) (gtr0 (by omega))) rfl rfl ?_
      refine wl_nil ?_
      refine xw_next K14 ?_
      refine cw_false rfl ?_
      refine cw_skip ?_
      refine xw_next K13 ?_
      refine cw_seq (fun FK15 K15 => ?_)
      refine cw_region ?_
      refine wl_val (v := .slice A n c) (fun ρ e => ex_load1 ty23 (e _ _ rfl) (O11.cell 5 0 rfl rfl)) rfl rfl ?_
      refine wl_val (v := .agg #[.int .i64 (-1), .int .i64 (-1), .int .i64 v0]) (fun ρ e => ex_loadN (vs := [.int .i64 (-1), .int .i64 (-1), .int .i64 v0]) ty38 (e _ _ rfl) rfl (O11.cells 0 0 rfl rfl)) rfl rfl ?_
      obtain ⟨g16, w17, r18, O19, hg20, hs21⟩ := own_slice O11 el23 ze38 1 [(0, .agg #[.int .i64 (-1), .int .i64 (-1), .int .i64 v0])] (cs := #[.int .i64 (-1), .int .i64 (-1), .int .i64 v0]) (by decide) (by kernel_rfl)
      refine wl_val (v := .slice (some ⟨g16, 0, none⟩) 1 1) (fun ρ e => r18 ρ _ _ _ _ _ _ (e.parts rfl)) rfl rfl ?_
      obtain ⟨A22, c23, w24, r25, O26, hz27, hc28⟩ := own_app1 (O19.re [7, 0, 1, 2, 3, 4, 5, 6, 8, 9] rfl : Own Z w0 w17 [.row (.slice A n c) 38 3 n (ncells l), .blk g16 38 #[.int .i64 (-1), .int .i64 (-1), .int .i64 v0], .blk g3 38 #[.int .i64 (-1), .int .i64 (-1), .int .i64 v0], .blk tb 3 #[.int .i64 (a : Int)], .blk lb 32 #[V], .blk nb 68 #[.func (.func 51) #[] #[.pointer (some ⟨tb, 0, none⟩), .pointer (some ⟨lb, 0, none⟩)]], .blk pb 69 #[.func (.func 52) #[] #[.pointer (some ⟨nb, 0, none⟩), .pointer (some ⟨pb, 0, none⟩), .pointer (some ⟨ob, 0, none⟩)]], .blk ob 23 #[.slice A n c], .blk vb 3 ((intCs L0).toArray), .ro D (fun w => BytesD D w (V) bs)]) ap23 ((O19.re [7, 0, 1, 2, 3, 4, 5, 6, 8, 9] rfl : Own Z w0 w17 [.row (.slice A n c) 38 3 n (ncells l), .blk g16 38 #[.int .i64 (-1), .int .i64 (-1), .int .i64 v0], .blk g3 38 #[.int .i64 (-1), .int .i64 (-1), .int .i64 v0], .blk tb 3 #[.int .i64 (a : Int)], .blk lb 32 #[V], .blk nb 68 #[.func (.func 51) #[] #[.pointer (some ⟨tb, 0, none⟩), .pointer (some ⟨lb, 0, none⟩)]], .blk pb 69 #[.func (.func 52) #[] #[.pointer (some ⟨nb, 0, none⟩), .pointer (some ⟨pb, 0, none⟩), .pointer (some ⟨ob, 0, none⟩)]], .blk ob 23 #[.slice A n c], .blk vb 3 ((intCs L0).toArray), .ro D (fun w => BytesD D w (V) bs)]).blk 1 rfl) (cells := [.int .i64 (-1), .int .i64 (-1), .int .i64 v0]) rfl rfl (by omega) (by omega) (ys := (ncells (l ++ [(VN.mk (-1) (-1) v0)]))) (ncells_snoc l (VN.mk (-1) (-1) v0))
      refine wl_val (v := .slice A22 (n + 1) c23) (fun ρ e => r25 ρ _ _ _ _ _ _ _ (e _ _ rfl) (e _ _ rfl)) rfl rfl ?_
      obtain ⟨w29, r30, O31, hs32⟩ := own_put (o := 0) (n := 1) (O26.re [7, 0, 1, 2, 3, 4, 5, 6, 8, 9] rfl : Own Z w0 w24 [.blk ob 23 #[.slice A n c], .row (.slice A22 (n + 1) c23) 38 3 (n + 1) (ncells (l ++ [(VN.mk (-1) (-1) v0)])), .blk g16 38 #[.int .i64 (-1), .int .i64 (-1), .int .i64 v0], .blk g3 38 #[.int .i64 (-1), .int .i64 (-1), .int .i64 v0], .blk tb 3 #[.int .i64 (a : Int)], .blk lb 32 #[V], .blk nb 68 #[.func (.func 51) #[] #[.pointer (some ⟨tb, 0, none⟩), .pointer (some ⟨lb, 0, none⟩)]], .blk pb 69 #[.func (.func 52) #[] #[.pointer (some ⟨nb, 0, none⟩), .pointer (some ⟨pb, 0, none⟩), .pointer (some ⟨ob, 0, none⟩)]], .blk vb 3 ((intCs L0).toArray), .ro D (fun w => BytesD D w (V) bs)]) ty23 (.slice A22 (n + 1) c23) [.slice A22 (n + 1) c23] (cs' := #[.slice A22 (n + 1) c23]) rfl rfl rfl (Nat.le_of_ble_eq_true rfl) rfl
      refine wl_none (fun ρ e => r30 ρ _ _ _ _ _ _ (e _ _ rfl) (e _ _ rfl)) rfl ?_
      refine wl_nil ?_
      refine xw_next K15 ?_
      refine cw_seq (fun FK33 K33 => ?_)
      refine cw_region ?_
      refine wl_val (v := .slice A22 (n + 1) c23) (fun ρ e => ex_load1 ty23 (e _ _ rfl) (O31.cell 0 0 rfl rfl)) rfl rfl ?_
      refine wl_val (v := .int .i64 ((n + 1 : Nat) : Int)) (fun ρ e => ex_len el23 (e _ _ rfl)) rfl rfl ?_
      refine wl_val (v := .int .i64 ((n + 1 - 1 : Nat) : Int)) (fun ρ e => ex_arith (k := .i64) (u := ((n + 1 : Nat) : Int)) (v := 1) (e _ _ rfl) (e _ _ rfl) (congrArg some ((congrArg _ (show _ = ((n + 1 - 1 : Nat) : Int) by omega)).trans (wrap_in (by omega) (by omega))))) rfl rfl ?_
      refine wl_val (v := .int .i64 ((n + 1 - 1 : Nat) : Int)) (fun ρ e => ex_assign (e _ _ rfl)) rfl rfl ?_
      refine wl_nil ?_
      refine xw_next K33 ?_
      refine cw_ret ?_
      refine xw_ret (v := .int .i64 ((n + 1 - 1 : Nat) : Int)) (fun T hT => res1 rfl T _ (hT 5 _ rfl)) ?_
      have hlv : (Tr.leaf v0).leaves = (L0.drop s).take m := by rw [h1, take_one hv0]; rfl
      have hsz : (Tr.leaf v0).size = 2 * m - 1 := by rw [h1]; rfl
      have hn : n + 1 = n + (2 * m - 1) := by omega
      have ha2 : a = a + (m - 1) := by omega
      have hl : (l ++ [(VN.mk (-1) (-1) v0)]) = l ++ post (Tr.leaf v0) n := by simp [post]
      have hO := (O31.re [4, 5, 6, 7, 0, 1, 8, 9] rfl : Own Z w0 w29 [.blk tb 3 #[.int .i64 (a : Int)], .blk lb 32 #[V], .blk nb 68 #[.func (.func 51) #[] #[.pointer (some ⟨tb, 0, none⟩), .pointer (some ⟨lb, 0, none⟩)]], .blk pb 69 #[.func (.func 52) #[] #[.pointer (some ⟨nb, 0, none⟩), .pointer (some ⟨pb, 0, none⟩), .pointer (some ⟨ob, 0, none⟩)]], .blk ob 23 #[.slice A22 (n + 1) c23], .row (.slice A22 (n + 1) c23) 38 3 (n + 1) (ncells (l ++ [(VN.mk (-1) (-1) v0)])), .blk vb 3 ((intCs L0).toArray), .ro D (fun w => BytesD D w (V) bs)])
      rw [hn, hl] at hO
      have ha3 : a + (m - 1) = a := by omega
      exact ⟨Tr.leaf v0, A22, c23, hlv, hsz, congrArg (fun z : Nat => Ending.returned (.int .i64 (z : Int))) (show n + 1 - 1 = n + (2 * m - 1) - 1 by omega), by rw [ha3]; exact hO⟩
    · skip
      refine sx_enter (args := [.slice (some ⟨vb, s, none⟩) m cc, .pointer (some ⟨nb, 0, none⟩), .pointer (some ⟨pb, 0, none⟩), .pointer (some ⟨ob, 0, none⟩)]) Tryd.func52 rfl rfl (by simp) ?_
      refine cw_seq (fun FK1 K1 => ?_)
      refine cw_region ?_
      refine wl_val (v := .int .i64 0) (fun ρ e => ex_assign (e _ _ rfl)) rfl rfl ?_
      refine wl_nil ?_
      refine xw_next K1 ?_
      refine cw_seq (fun FK2 K2 => ?_)
      refine cw_region ?_
      refine wl_val (v := .slice (some ⟨vb, s, none⟩) m cc) (fun ρ e => ex_move (e _ _ rfl)) rfl rfl ?_
      refine wl_val (v := .pointer (some ⟨vb, s, none⟩)) (fun ρ e => ex_idx (q := s) (i := 0) el36 (e _ _ rfl) (e _ _ rfl) (by omega) (by omega)) rfl rfl ?_
      refine wl_val (v := .int .i64 v0) (fun ρ e => ex_load1 ty3 (e _ _ rfl) (((O0.blk 6 rfl).cell _).trans (getI hv0))) rfl rfl ?_
      refine wl_val (v := .agg #[.int .i64 (-1), .int .i64 (-1), .int .i64 v0]) (fun ρ e => ex_build (cells := #[.int .i64 (-1), .int .i64 (-1), .int .i64 v0]) st38 (e.parts rfl) rfl) rfl rfl ?_
      obtain ⟨g3, w4, r5, O6, hg7, hs8⟩ := own_alloc O0 38 ze38 rfl
      refine wl_val (v := .pointer (some ⟨g3, 0, none⟩)) (fun ρ e => r5 ρ _ _ _ _ _) rfl rfl ?_
      obtain ⟨w9, r10, O11, hs12⟩ := own_put (o := 0) (n := 3) O6 ty38 (.agg #[.int .i64 (-1), .int .i64 (-1), .int .i64 v0]) [.int .i64 (-1), .int .i64 (-1), .int .i64 v0] (cs' := #[.int .i64 (-1), .int .i64 (-1), .int .i64 v0]) rfl rfl rfl (Nat.le_of_ble_eq_true rfl) rfl
      refine wl_none (fun ρ e => r10 ρ _ _ _ _ _ _ (e _ _ rfl) (e _ _ rfl)) rfl ?_
      refine wl_nil ?_
      refine xw_next K2 ?_
      refine cw_seq (fun FK13 K13 => ?_)
      refine cw_seq (fun FK14 K14 => ?_)
      refine cw_region ?_
      refine wl_val (v := .slice (some ⟨vb, s, none⟩) m cc) (fun ρ e => ex_move (e _ _ rfl)) rfl rfl ?_
      refine wl_val (v := .int .i64 (m : Int)) (fun ρ e => ex_len el36 (e _ _ rfl)) rfl rfl ?_
      refine wl_val (v := .bool true) (fun ρ e => ex_cmp (u := (m : Int)) (v := 1) (e _ _ rfl) (e _ _ rfl) (gtr1 (by omega))) rfl rfl ?_
      refine wl_nil ?_
      refine xw_next K14 ?_
      refine cw_true rfl ?_
      refine cw_seq (fun FK15 K15 => ?_)
      refine cw_region ?_
      refine wl_val (v := .func (.func 51) #[] #[.pointer (some ⟨tb, 0, none⟩), .pointer (some ⟨lb, 0, none⟩)]) (fun ρ e => ex_load1 ty68 (e _ _ rfl) (O11.cell 3 0 rfl rfl)) rfl rfl ?_
      refine wl_callv (args := []) (all := [.pointer (some ⟨tb, 0, none⟩), .pointer (some ⟨lb, 0, none⟩)]) in_51 rfl rfl rfl rfl rfl ?_
      have O20h := Own.hand (A := [.blk tb 3 #[.int .i64 (a : Int)], .blk lb 32 #[V], .ro D (fun w => BytesD D w (V) bs)]) (R := [.blk g3 38 #[.int .i64 (-1), .int .i64 (-1), .int .i64 v0], .blk nb 68 #[.func (.func 51) #[] #[.pointer (some ⟨tb, 0, none⟩), .pointer (some ⟨lb, 0, none⟩)]], .blk pb 69 #[.func (.func 52) #[] #[.pointer (some ⟨nb, 0, none⟩), .pointer (some ⟨pb, 0, none⟩), .pointer (some ⟨ob, 0, none⟩)]], .blk ob 23 #[.slice A n c], .row (.slice A n c) 38 3 n (ncells l), .blk vb 3 ((intCs L0).toArray)]) (O11.re [1, 2, 8, 0, 3, 4, 5, 6, 7] rfl : Own Z w0 w9 [.blk tb 3 #[.int .i64 (a : Int)], .blk lb 32 #[V], .ro D (fun w => BytesD D w (V) bs), .blk g3 38 #[.int .i64 (-1), .int .i64 (-1), .int .i64 v0], .blk nb 68 #[.func (.func 51) #[] #[.pointer (some ⟨tb, 0, none⟩), .pointer (some ⟨lb, 0, none⟩)]], .blk pb 69 #[.func (.func 52) #[] #[.pointer (some ⟨nb, 0, none⟩), .pointer (some ⟨pb, 0, none⟩), .pointer (some ⟨ob, 0, none⟩)]], .blk ob 23 #[.slice A n c], .row (.slice A n c) 38 3 n (ncells l), .blk vb 3 ((intCs L0).toArray)])
      refine (next_ (a := a) O20h (by omega) hbs).mono ?_
      rintro _ w18 ⟨r16, hr17, rfl, h19⟩
      have O20 : Own Z w0 w18 [.blk tb 3 #[.int .i64 ((a + 1 : Nat) : Int)], .blk lb 32 #[V], .ro D (fun w => BytesD D w (V) bs), .blk g3 38 #[.int .i64 (-1), .int .i64 (-1), .int .i64 v0], .blk nb 68 #[.func (.func 51) #[] #[.pointer (some ⟨tb, 0, none⟩), .pointer (some ⟨lb, 0, none⟩)]], .blk pb 69 #[.func (.func 52) #[] #[.pointer (some ⟨nb, 0, none⟩), .pointer (some ⟨pb, 0, none⟩), .pointer (some ⟨ob, 0, none⟩)]], .blk ob 23 #[.slice A n c], .row (.slice A n c) 38 3 n (ncells l), .blk vb 3 ((intCs L0).toArray)] := Own.frame (A := [.blk tb 3 #[.int .i64 (a : Int)], .blk lb 32 #[V], .ro D (fun w => BytesD D w (V) bs)]) (R := [.blk g3 38 #[.int .i64 (-1), .int .i64 (-1), .int .i64 v0], .blk nb 68 #[.func (.func 51) #[] #[.pointer (some ⟨tb, 0, none⟩), .pointer (some ⟨lb, 0, none⟩)]], .blk pb 69 #[.func (.func 52) #[] #[.pointer (some ⟨nb, 0, none⟩), .pointer (some ⟨pb, 0, none⟩), .pointer (some ⟨ob, 0, none⟩)]], .blk ob 23 #[.slice A n c], .row (.slice A n c) 38 3 n (ncells l), .blk vb 3 ((intCs L0).toArray)]) (O11.re [1, 2, 8, 0, 3, 4, 5, 6, 7] rfl : Own Z w0 w9 [.blk tb 3 #[.int .i64 (a : Int)], .blk lb 32 #[V], .ro D (fun w => BytesD D w (V) bs), .blk g3 38 #[.int .i64 (-1), .int .i64 (-1), .int .i64 v0], .blk nb 68 #[.func (.func 51) #[] #[.pointer (some ⟨tb, 0, none⟩), .pointer (some ⟨lb, 0, none⟩)]], .blk pb 69 #[.func (.func 52) #[] #[.pointer (some ⟨nb, 0, none⟩), .pointer (some ⟨pb, 0, none⟩), .pointer (some ⟨ob, 0, none⟩)]], .blk ob 23 #[.slice A n c], .row (.slice A n c) 38 3 n (ncells l), .blk vb 3 ((intCs L0).toArray)]) h19
      refine ⟨_, rfl, ?_⟩
      refine wl_val (v := .slice (some ⟨vb, s, none⟩) m cc) (fun ρ e => ex_move (e _ _ rfl)) rfl rfl ?_
      refine wl_val (v := .int .i64 (m : Int)) (fun ρ e => ex_len el36 (e _ _ rfl)) rfl rfl ?_
      refine wl_val (v := .int .i64 ((m - 1 : Nat) : Int)) (fun ρ e => ex_arith (k := .i64) (u := (m : Int)) (v := 1) (e _ _ rfl) (e _ _ rfl) (congrArg some ((congrArg _ (show _ = ((m - 1 : Nat) : Int) by omega)).trans (wrap_in (by omega) (by omega))))) rfl rfl ?_
      obtain ⟨k21, hk21, lk21⟩ : ∃ q, r16 % (m - 1) = q ∧ q < m - 1 := ⟨_, rfl, Nat.mod_lt _ (by omega)⟩
      refine wl_val (v := .int .i64 (k21 : Int)) (fun ρ e => ex_remg (a := r16) (b := m - 1) (e _ _ rfl) (e _ _ rfl) (by omega) hk21) rfl rfl ?_
      obtain ⟨kk, hkk⟩ : ∃ q, q = k21 + 1 := ⟨_, rfl⟩
      refine wl_val (v := .int .i64 (kk : Int)) (fun ρ e => ex_arith (k := .i64) (u := 1) (v := (k21 : Int)) (e _ _ rfl) (e _ _ rfl) (congrArg some ((congrArg _ (show _ = (kk : Int) by omega)).trans (wrap_in (by omega) (by omega))))) rfl rfl ?_
      refine wl_val (v := .int .i64 (kk : Int)) (fun ρ e => ex_assign (e _ _ rfl)) rfl rfl ?_
      refine wl_nil ?_
      refine xw_next K15 ?_
      refine cw_drawn (fun X => Own Z w0 X [.blk lb 32 #[V], .ro D (fun w => BytesD D w (V) bs), .blk g3 38 #[.int .i64 (-1), .int .i64 (-1), .int .i64 v0], .blk nb 68 #[.func (.func 51) #[] #[.pointer (some ⟨tb, 0, none⟩), .pointer (some ⟨lb, 0, none⟩)]], .blk pb 69 #[.func (.func 52) #[] #[.pointer (some ⟨nb, 0, none⟩), .pointer (some ⟨pb, 0, none⟩), .pointer (some ⟨ob, 0, none⟩)]], .blk vb 3 ((intCs L0).toArray)]) 11 [(0, 0), (1, 1), (2, 1), (3, 1), (5, 0), (6, 1), (7, 1), (8, 1), (4, 2), (9, 2), (10, 1), (11, 3)] (by kernel_rfl) (by kernel_rfl) (PQ.then_ PQ.body) ((O20.re [1, 2, 3, 4, 5, 8] rfl : Own Z w0 w18 [.blk lb 32 #[V], .ro D (fun w => BytesD D w (V) bs), .blk g3 38 #[.int .i64 (-1), .int .i64 (-1), .int .i64 v0], .blk nb 68 #[.func (.func 51) #[] #[.pointer (some ⟨tb, 0, none⟩), .pointer (some ⟨lb, 0, none⟩)]], .blk pb 69 #[.func (.func 52) #[] #[.pointer (some ⟨nb, 0, none⟩), .pointer (some ⟨pb, 0, none⟩), .pointer (some ⟨ob, 0, none⟩)]], .blk vb 3 ((intCs L0).toArray)])).drew ?_
      have O22 : Own Z w0 w18.drew [.blk tb 3 #[.int .i64 ((a + 1 : Nat) : Int)], .blk lb 32 #[V], .ro D (fun w => BytesD D w (V) bs), .blk g3 38 #[.int .i64 (-1), .int .i64 (-1), .int .i64 v0], .blk nb 68 #[.func (.func 51) #[] #[.pointer (some ⟨tb, 0, none⟩), .pointer (some ⟨lb, 0, none⟩)]], .blk pb 69 #[.func (.func 52) #[] #[.pointer (some ⟨nb, 0, none⟩), .pointer (some ⟨pb, 0, none⟩), .pointer (some ⟨ob, 0, none⟩)]], .blk ob 23 #[.slice A n c], .row (.slice A n c) 38 3 n (ncells l), .blk vb 3 ((intCs L0).toArray)] := O20.drew
      refine wt0 (v := .func (.func 52) #[] #[.pointer (some ⟨nb, 0, none⟩), .pointer (some ⟨pb, 0, none⟩), .pointer (some ⟨ob, 0, none⟩)]) rfl (fun ρ e W hW => ex_load1 ty69 (e _ _ rfl) (hW.cell 4 0 rfl rfl)) rfl rfl ?_
      refine wt1 (v := .slice (some ⟨vb, s, none⟩) m cc) rfl (fun ρ e W => ex_move (e _ _ rfl)) rfl rfl ?_
      refine wt1 (v := .int .i64 (kk : Int)) rfl (fun ρ e W => ex_move (e _ _ rfl)) rfl rfl ?_
      refine wt1 (v := .slice (some ⟨vb, s, none⟩) kk cc) rfl (fun ρ e W => ex_sliceHi (h := kk) el36 (e _ _ rfl) (e _ _ rfl) (by omega)) rfl rfl ?_
      refine wt0 (v := .func (.func 52) #[] #[.pointer (some ⟨nb, 0, none⟩), .pointer (some ⟨pb, 0, none⟩), .pointer (some ⟨ob, 0, none⟩)]) rfl (fun ρ e W hW => ex_load1 ty69 (e _ _ rfl) (hW.cell 4 0 rfl rfl)) rfl rfl ?_
      refine wt1 (v := .slice (some ⟨vb, s, none⟩) m cc) rfl (fun ρ e W => ex_move (e _ _ rfl)) rfl rfl ?_
      refine wt1 (v := .int .i64 (kk : Int)) rfl (fun ρ e W => ex_move (e _ _ rfl)) rfl rfl ?_
      refine wt1 (v := .slice (some ⟨vb, (s + kk), none⟩) (m - kk) (cc - kk)) rfl (fun ρ e W => ex_sliceLo (k := kk) (q := s + kk) el36 (e _ _ rfl) (e _ _ rfl) (by omega) (by omega) (by omega)) rfl rfl ?_
      refine wt2_callv (args := [.slice (some ⟨vb, s, none⟩) kk cc]) (all := [.slice (some ⟨vb, s, none⟩) kk cc, .pointer (some ⟨nb, 0, none⟩), .pointer (some ⟨pb, 0, none⟩), .pointer (some ⟨ob, 0, none⟩)]) rfl in_52 rfl rfl rfl rfl rfl ?_
      have O30h := Own.hand (A := [.blk tb 3 #[.int .i64 ((a + 1 : Nat) : Int)], .blk lb 32 #[V], .blk nb 68 #[.func (.func 51) #[] #[.pointer (some ⟨tb, 0, none⟩), .pointer (some ⟨lb, 0, none⟩)]], .blk pb 69 #[.func (.func 52) #[] #[.pointer (some ⟨nb, 0, none⟩), .pointer (some ⟨pb, 0, none⟩), .pointer (some ⟨ob, 0, none⟩)]], .blk ob 23 #[.slice A n c], .row (.slice A n c) 38 3 n (ncells l), .blk vb 3 ((intCs L0).toArray), .ro D (fun w => BytesD D w (V) bs)]) (R := [.blk g3 38 #[.int .i64 (-1), .int .i64 (-1), .int .i64 v0]]) (O22.re [0, 1, 4, 5, 6, 7, 8, 2, 3] rfl : Own Z w0 w18.drew [.blk tb 3 #[.int .i64 ((a + 1 : Nat) : Int)], .blk lb 32 #[V], .blk nb 68 #[.func (.func 51) #[] #[.pointer (some ⟨tb, 0, none⟩), .pointer (some ⟨lb, 0, none⟩)]], .blk pb 69 #[.func (.func 52) #[] #[.pointer (some ⟨nb, 0, none⟩), .pointer (some ⟨pb, 0, none⟩), .pointer (some ⟨ob, 0, none⟩)]], .blk ob 23 #[.slice A n c], .row (.slice A n c) 38 3 n (ncells l), .blk vb 3 ((intCs L0).toArray), .ro D (fun w => BytesD D w (V) bs), .blk g3 38 #[.int .i64 (-1), .int .i64 (-1), .int .i64 v0]])
      refine (IH s kk cc (by omega) (by omega) (by omega) (by omega) _ _ _ _ _ _ l (a + 1) O30h (by omega) (by omega)).mono ?_
      rintro _ w28 ⟨T23, A26, c27, hlv24, hsz25, rfl, h29⟩
      have O30 : Own Z w0 w28 [.blk tb 3 #[.int .i64 ((a + 1 + (kk - 1) : Nat) : Int)], .blk lb 32 #[V], .blk nb 68 #[.func (.func 51) #[] #[.pointer (some ⟨tb, 0, none⟩), .pointer (some ⟨lb, 0, none⟩)]], .blk pb 69 #[.func (.func 52) #[] #[.pointer (some ⟨nb, 0, none⟩), .pointer (some ⟨pb, 0, none⟩), .pointer (some ⟨ob, 0, none⟩)]], .blk ob 23 #[.slice A26 (n + (2 * kk - 1)) c27], .row (.slice A26 (n + (2 * kk - 1)) c27) 38 3 (n + (2 * kk - 1)) (ncells (l ++ post T23 n)), .blk vb 3 ((intCs L0).toArray), .ro D (fun w => BytesD D w (V) bs), .blk g3 38 #[.int .i64 (-1), .int .i64 (-1), .int .i64 v0]] := Own.frame (A := [.blk tb 3 #[.int .i64 ((a + 1 : Nat) : Int)], .blk lb 32 #[V], .blk nb 68 #[.func (.func 51) #[] #[.pointer (some ⟨tb, 0, none⟩), .pointer (some ⟨lb, 0, none⟩)]], .blk pb 69 #[.func (.func 52) #[] #[.pointer (some ⟨nb, 0, none⟩), .pointer (some ⟨pb, 0, none⟩), .pointer (some ⟨ob, 0, none⟩)]], .blk ob 23 #[.slice A n c], .row (.slice A n c) 38 3 n (ncells l), .blk vb 3 ((intCs L0).toArray), .ro D (fun w => BytesD D w (V) bs)]) (R := [.blk g3 38 #[.int .i64 (-1), .int .i64 (-1), .int .i64 v0]]) (O22.re [0, 1, 4, 5, 6, 7, 8, 2, 3] rfl : Own Z w0 w18.drew [.blk tb 3 #[.int .i64 ((a + 1 : Nat) : Int)], .blk lb 32 #[V], .blk nb 68 #[.func (.func 51) #[] #[.pointer (some ⟨tb, 0, none⟩), .pointer (some ⟨lb, 0, none⟩)]], .blk pb 69 #[.func (.func 52) #[] #[.pointer (some ⟨nb, 0, none⟩), .pointer (some ⟨pb, 0, none⟩), .pointer (some ⟨ob, 0, none⟩)]], .blk ob 23 #[.slice A n c], .row (.slice A n c) 38 3 n (ncells l), .blk vb 3 ((intCs L0).toArray), .ro D (fun w => BytesD D w (V) bs), .blk g3 38 #[.int .i64 (-1), .int .i64 (-1), .int .i64 v0]]) h29
      refine ⟨_, rfl, (O30.re [1, 7, 8, 2, 3, 6] rfl : Own Z w0 w28 [.blk lb 32 #[V], .ro D (fun w => BytesD D w (V) bs), .blk g3 38 #[.int .i64 (-1), .int .i64 (-1), .int .i64 v0], .blk nb 68 #[.func (.func 51) #[] #[.pointer (some ⟨tb, 0, none⟩), .pointer (some ⟨lb, 0, none⟩)]], .blk pb 69 #[.func (.func 52) #[] #[.pointer (some ⟨nb, 0, none⟩), .pointer (some ⟨pb, 0, none⟩), .pointer (some ⟨ob, 0, none⟩)]], .blk vb 3 ((intCs L0).toArray)]), ?_⟩
      refine wt2_callv (args := [.slice (some ⟨vb, (s + kk), none⟩) (m - kk) (cc - kk)]) (all := [.slice (some ⟨vb, (s + kk), none⟩) (m - kk) (cc - kk), .pointer (some ⟨nb, 0, none⟩), .pointer (some ⟨pb, 0, none⟩), .pointer (some ⟨ob, 0, none⟩)]) rfl in_52 rfl rfl rfl rfl rfl ?_
      have O38h := Own.hand (A := [.blk tb 3 #[.int .i64 ((a + 1 + (kk - 1) : Nat) : Int)], .blk lb 32 #[V], .blk nb 68 #[.func (.func 51) #[] #[.pointer (some ⟨tb, 0, none⟩), .pointer (some ⟨lb, 0, none⟩)]], .blk pb 69 #[.func (.func 52) #[] #[.pointer (some ⟨nb, 0, none⟩), .pointer (some ⟨pb, 0, none⟩), .pointer (some ⟨ob, 0, none⟩)]], .blk ob 23 #[.slice A26 (n + (2 * kk - 1)) c27], .row (.slice A26 (n + (2 * kk - 1)) c27) 38 3 (n + (2 * kk - 1)) (ncells (l ++ post T23 n)), .blk vb 3 ((intCs L0).toArray), .ro D (fun w => BytesD D w (V) bs)]) (R := [.blk g3 38 #[.int .i64 (-1), .int .i64 (-1), .int .i64 v0]]) O30
      refine (IH (s + kk) (m - kk) (cc - kk) (by omega) (by omega) (by omega) (by omega) _ _ _ _ _ _ (l ++ post T23 n) (a + 1 + (kk - 1)) O38h (by omega) (by omega)).mono ?_
      rintro _ w36 ⟨T31, A34, c35, hlv32, hsz33, rfl, h37⟩
      have O38 : Own Z w0 w36 [.blk tb 3 #[.int .i64 ((a + 1 + (kk - 1) + ((m - kk) - 1) : Nat) : Int)], .blk lb 32 #[V], .blk nb 68 #[.func (.func 51) #[] #[.pointer (some ⟨tb, 0, none⟩), .pointer (some ⟨lb, 0, none⟩)]], .blk pb 69 #[.func (.func 52) #[] #[.pointer (some ⟨nb, 0, none⟩), .pointer (some ⟨pb, 0, none⟩), .pointer (some ⟨ob, 0, none⟩)]], .blk ob 23 #[.slice A34 ((n + (2 * kk - 1)) + (2 * (m - kk) - 1)) c35], .row (.slice A34 ((n + (2 * kk - 1)) + (2 * (m - kk) - 1)) c35) 38 3 ((n + (2 * kk - 1)) + (2 * (m - kk) - 1)) (ncells ((l ++ post T23 n) ++ post T31 (n + (2 * kk - 1)))), .blk vb 3 ((intCs L0).toArray), .ro D (fun w => BytesD D w (V) bs), .blk g3 38 #[.int .i64 (-1), .int .i64 (-1), .int .i64 v0]] := Own.frame (A := [.blk tb 3 #[.int .i64 ((a + 1 + (kk - 1) : Nat) : Int)], .blk lb 32 #[V], .blk nb 68 #[.func (.func 51) #[] #[.pointer (some ⟨tb, 0, none⟩), .pointer (some ⟨lb, 0, none⟩)]], .blk pb 69 #[.func (.func 52) #[] #[.pointer (some ⟨nb, 0, none⟩), .pointer (some ⟨pb, 0, none⟩), .pointer (some ⟨ob, 0, none⟩)]], .blk ob 23 #[.slice A26 (n + (2 * kk - 1)) c27], .row (.slice A26 (n + (2 * kk - 1)) c27) 38 3 (n + (2 * kk - 1)) (ncells (l ++ post T23 n)), .blk vb 3 ((intCs L0).toArray), .ro D (fun w => BytesD D w (V) bs)]) (R := [.blk g3 38 #[.int .i64 (-1), .int .i64 (-1), .int .i64 v0]]) O30 h37
      refine ⟨_, rfl, (O38.re [1, 7, 8, 2, 3, 6] rfl : Own Z w0 w36 [.blk lb 32 #[V], .ro D (fun w => BytesD D w (V) bs), .blk g3 38 #[.int .i64 (-1), .int .i64 (-1), .int .i64 v0], .blk nb 68 #[.func (.func 51) #[] #[.pointer (some ⟨tb, 0, none⟩), .pointer (some ⟨lb, 0, none⟩)]], .blk pb 69 #[.func (.func 52) #[] #[.pointer (some ⟨nb, 0, none⟩), .pointer (some ⟨pb, 0, none⟩), .pointer (some ⟨ob, 0, none⟩)]], .blk vb 3 ((intCs L0).toArray)]), ?_⟩
      refine wt1 (v := .agg #[.int .i64 ((n + (2 * kk - 1) - 1 : Nat) : Int), .int .i64 (((n + (2 * kk - 1)) + (2 * (m - kk) - 1) - 1 : Nat) : Int), .int .i64 0]) rfl (fun ρ e W => ex_build (cells := #[.int .i64 ((n + (2 * kk - 1) - 1 : Nat) : Int), .int .i64 (((n + (2 * kk - 1)) + (2 * (m - kk) - 1) - 1 : Nat) : Int), .int .i64 0]) st38 (e.parts rfl) rfl) rfl rfl ?_
      obtain ⟨w39, r40, O41, hs42⟩ := own_put (o := 0) (n := 3) (O38.re [8, 0, 1, 2, 3, 4, 5, 6, 7] rfl : Own Z w0 w36 [.blk g3 38 #[.int .i64 (-1), .int .i64 (-1), .int .i64 v0], .blk tb 3 #[.int .i64 ((a + 1 + (kk - 1) + ((m - kk) - 1) : Nat) : Int)], .blk lb 32 #[V], .blk nb 68 #[.func (.func 51) #[] #[.pointer (some ⟨tb, 0, none⟩), .pointer (some ⟨lb, 0, none⟩)]], .blk pb 69 #[.func (.func 52) #[] #[.pointer (some ⟨nb, 0, none⟩), .pointer (some ⟨pb, 0, none⟩), .pointer (some ⟨ob, 0, none⟩)]], .blk ob 23 #[.slice A34 ((n + (2 * kk - 1)) + (2 * (m - kk) - 1)) c35], .row (.slice A34 ((n + (2 * kk - 1)) + (2 * (m - kk) - 1)) c35) 38 3 ((n + (2 * kk - 1)) + (2 * (m - kk) - 1)) (ncells ((l ++ post T23 n) ++ post T31 (n + (2 * kk - 1)))), .blk vb 3 ((intCs L0).toArray), .ro D (fun w => BytesD D w (V) bs)]) ty38 (.agg #[.int .i64 ((n + (2 * kk - 1) - 1 : Nat) : Int), .int .i64 (((n + (2 * kk - 1)) + (2 * (m - kk) - 1) - 1 : Nat) : Int), .int .i64 0]) [.int .i64 ((n + (2 * kk - 1) - 1 : Nat) : Int), .int .i64 (((n + (2 * kk - 1)) + (2 * (m - kk) - 1) - 1 : Nat) : Int), .int .i64 0] (cs' := #[.int .i64 ((n + (2 * kk - 1) - 1 : Nat) : Int), .int .i64 (((n + (2 * kk - 1)) + (2 * (m - kk) - 1) - 1 : Nat) : Int), .int .i64 0]) rfl rfl rfl (Nat.le_of_ble_eq_true rfl) rfl
      refine wt3_none rfl (fun ρ e => r40 ρ _ _ _ _ _ _ (e _ _ rfl) (e _ _ rfl)) rfl ?_
      refine wt_nil ?_
      refine xw_next K13 ?_
      refine cw_seq (fun FK43 K43 => ?_)
      refine cw_region ?_
      refine wl_val (v := .slice A34 ((n + (2 * kk - 1)) + (2 * (m - kk) - 1)) c35) (fun ρ e => ex_load1 ty23 (e _ _ rfl) (O41.cell 5 0 rfl rfl)) rfl rfl ?_
      refine wl_val (v := .agg #[.int .i64 ((n + (2 * kk - 1) - 1 : Nat) : Int), .int .i64 (((n + (2 * kk - 1)) + (2 * (m - kk) - 1) - 1 : Nat) : Int), .int .i64 0]) (fun ρ e => ex_loadN (vs := [.int .i64 ((n + (2 * kk - 1) - 1 : Nat) : Int), .int .i64 (((n + (2 * kk - 1)) + (2 * (m - kk) - 1) - 1 : Nat) : Int), .int .i64 0]) ty38 (e _ _ rfl) rfl (O41.cells 0 0 rfl rfl)) rfl rfl ?_
      obtain ⟨g44, w45, r46, O47, hg48, hs49⟩ := own_slice O41 el23 ze38 1 [(0, .agg #[.int .i64 ((n + (2 * kk - 1) - 1 : Nat) : Int), .int .i64 (((n + (2 * kk - 1)) + (2 * (m - kk) - 1) - 1 : Nat) : Int), .int .i64 0])] (cs := #[.int .i64 ((n + (2 * kk - 1) - 1 : Nat) : Int), .int .i64 (((n + (2 * kk - 1)) + (2 * (m - kk) - 1) - 1 : Nat) : Int), .int .i64 0]) (by decide) (by kernel_rfl)
      refine wl_val (v := .slice (some ⟨g44, 0, none⟩) 1 1) (fun ρ e => r46 ρ _ _ _ _ _ _ (e.parts rfl)) rfl rfl ?_
      obtain ⟨A50, c51, w52, r53, O54, hz55, hc56⟩ := own_app1 (O47.re [7, 0, 1, 2, 3, 4, 5, 6, 8, 9] rfl : Own Z w0 w45 [.row (.slice A34 ((n + (2 * kk - 1)) + (2 * (m - kk) - 1)) c35) 38 3 ((n + (2 * kk - 1)) + (2 * (m - kk) - 1)) (ncells ((l ++ post T23 n) ++ post T31 (n + (2 * kk - 1)))), .blk g44 38 #[.int .i64 ((n + (2 * kk - 1) - 1 : Nat) : Int), .int .i64 (((n + (2 * kk - 1)) + (2 * (m - kk) - 1) - 1 : Nat) : Int), .int .i64 0], .blk g3 38 #[.int .i64 ((n + (2 * kk - 1) - 1 : Nat) : Int), .int .i64 (((n + (2 * kk - 1)) + (2 * (m - kk) - 1) - 1 : Nat) : Int), .int .i64 0], .blk tb 3 #[.int .i64 ((a + 1 + (kk - 1) + ((m - kk) - 1) : Nat) : Int)], .blk lb 32 #[V], .blk nb 68 #[.func (.func 51) #[] #[.pointer (some ⟨tb, 0, none⟩), .pointer (some ⟨lb, 0, none⟩)]], .blk pb 69 #[.func (.func 52) #[] #[.pointer (some ⟨nb, 0, none⟩), .pointer (some ⟨pb, 0, none⟩), .pointer (some ⟨ob, 0, none⟩)]], .blk ob 23 #[.slice A34 ((n + (2 * kk - 1)) + (2 * (m - kk) - 1)) c35], .blk vb 3 ((intCs L0).toArray), .ro D (fun w => BytesD D w (V) bs)]) ap23 ((O47.re [7, 0, 1, 2, 3, 4, 5, 6, 8, 9] rfl : Own Z w0 w45 [.row (.slice A34 ((n + (2 * kk - 1)) + (2 * (m - kk) - 1)) c35) 38 3 ((n + (2 * kk - 1)) + (2 * (m - kk) - 1)) (ncells ((l ++ post T23 n) ++ post T31 (n + (2 * kk - 1)))), .blk g44 38 #[.int .i64 ((n + (2 * kk - 1) - 1 : Nat) : Int), .int .i64 (((n + (2 * kk - 1)) + (2 * (m - kk) - 1) - 1 : Nat) : Int), .int .i64 0], .blk g3 38 #[.int .i64 ((n + (2 * kk - 1) - 1 : Nat) : Int), .int .i64 (((n + (2 * kk - 1)) + (2 * (m - kk) - 1) - 1 : Nat) : Int), .int .i64 0], .blk tb 3 #[.int .i64 ((a + 1 + (kk - 1) + ((m - kk) - 1) : Nat) : Int)], .blk lb 32 #[V], .blk nb 68 #[.func (.func 51) #[] #[.pointer (some ⟨tb, 0, none⟩), .pointer (some ⟨lb, 0, none⟩)]], .blk pb 69 #[.func (.func 52) #[] #[.pointer (some ⟨nb, 0, none⟩), .pointer (some ⟨pb, 0, none⟩), .pointer (some ⟨ob, 0, none⟩)]], .blk ob 23 #[.slice A34 ((n + (2 * kk - 1)) + (2 * (m - kk) - 1)) c35], .blk vb 3 ((intCs L0).toArray), .ro D (fun w => BytesD D w (V) bs)]).blk 1 rfl) (cells := [.int .i64 ((n + (2 * kk - 1) - 1 : Nat) : Int), .int .i64 (((n + (2 * kk - 1)) + (2 * (m - kk) - 1) - 1 : Nat) : Int), .int .i64 0]) rfl rfl (by omega) (by omega) (ys := (ncells (((l ++ post T23 n) ++ post T31 (n + (2 * kk - 1))) ++ [(VN.mk ((n + (2 * kk - 1) - 1 : Nat) : Int) (((n + (2 * kk - 1)) + (2 * (m - kk) - 1) - 1 : Nat) : Int) 0)]))) (ncells_snoc ((l ++ post T23 n) ++ post T31 (n + (2 * kk - 1))) (VN.mk ((n + (2 * kk - 1) - 1 : Nat) : Int) (((n + (2 * kk - 1)) + (2 * (m - kk) - 1) - 1 : Nat) : Int) 0))
      refine wl_val (v := .slice A50 (((n + (2 * kk - 1)) + (2 * (m - kk) - 1)) + 1) c51) (fun ρ e => r53 ρ _ _ _ _ _ _ _ (e _ _ rfl) (e _ _ rfl)) rfl rfl ?_
      obtain ⟨w57, r58, O59, hs60⟩ := own_put (o := 0) (n := 1) (O54.re [7, 0, 1, 2, 3, 4, 5, 6, 8, 9] rfl : Own Z w0 w52 [.blk ob 23 #[.slice A34 ((n + (2 * kk - 1)) + (2 * (m - kk) - 1)) c35], .row (.slice A50 (((n + (2 * kk - 1)) + (2 * (m - kk) - 1)) + 1) c51) 38 3 (((n + (2 * kk - 1)) + (2 * (m - kk) - 1)) + 1) (ncells (((l ++ post T23 n) ++ post T31 (n + (2 * kk - 1))) ++ [(VN.mk ((n + (2 * kk - 1) - 1 : Nat) : Int) (((n + (2 * kk - 1)) + (2 * (m - kk) - 1) - 1 : Nat) : Int) 0)])), .blk g44 38 #[.int .i64 ((n + (2 * kk - 1) - 1 : Nat) : Int), .int .i64 (((n + (2 * kk - 1)) + (2 * (m - kk) - 1) - 1 : Nat) : Int), .int .i64 0], .blk g3 38 #[.int .i64 ((n + (2 * kk - 1) - 1 : Nat) : Int), .int .i64 (((n + (2 * kk - 1)) + (2 * (m - kk) - 1) - 1 : Nat) : Int), .int .i64 0], .blk tb 3 #[.int .i64 ((a + 1 + (kk - 1) + ((m - kk) - 1) : Nat) : Int)], .blk lb 32 #[V], .blk nb 68 #[.func (.func 51) #[] #[.pointer (some ⟨tb, 0, none⟩), .pointer (some ⟨lb, 0, none⟩)]], .blk pb 69 #[.func (.func 52) #[] #[.pointer (some ⟨nb, 0, none⟩), .pointer (some ⟨pb, 0, none⟩), .pointer (some ⟨ob, 0, none⟩)]], .blk vb 3 ((intCs L0).toArray), .ro D (fun w => BytesD D w (V) bs)]) ty23 (.slice A50 (((n + (2 * kk - 1)) + (2 * (m - kk) - 1)) + 1) c51) [.slice A50 (((n + (2 * kk - 1)) + (2 * (m - kk) - 1)) + 1) c51] (cs' := #[.slice A50 (((n + (2 * kk - 1)) + (2 * (m - kk) - 1)) + 1) c51]) rfl rfl rfl (Nat.le_of_ble_eq_true rfl) rfl
      refine wl_none (fun ρ e => r58 ρ _ _ _ _ _ _ (e _ _ rfl) (e _ _ rfl)) rfl ?_
      refine wl_nil ?_
      refine xw_next K43 ?_
      refine cw_seq (fun FK61 K61 => ?_)
      refine cw_region ?_
      refine wl_val (v := .slice A50 (((n + (2 * kk - 1)) + (2 * (m - kk) - 1)) + 1) c51) (fun ρ e => ex_load1 ty23 (e _ _ rfl) (O59.cell 0 0 rfl rfl)) rfl rfl ?_
      refine wl_val (v := .int .i64 ((((n + (2 * kk - 1)) + (2 * (m - kk) - 1)) + 1 : Nat) : Int)) (fun ρ e => ex_len el23 (e _ _ rfl)) rfl rfl ?_
      refine wl_val (v := .int .i64 ((((n + (2 * kk - 1)) + (2 * (m - kk) - 1)) + 1 - 1 : Nat) : Int)) (fun ρ e => ex_arith (k := .i64) (u := ((((n + (2 * kk - 1)) + (2 * (m - kk) - 1)) + 1 : Nat) : Int)) (v := 1) (e _ _ rfl) (e _ _ rfl) (congrArg some ((congrArg _ (show _ = ((((n + (2 * kk - 1)) + (2 * (m - kk) - 1)) + 1 - 1 : Nat) : Int) by omega)).trans (wrap_in (by omega) (by omega))))) rfl rfl ?_
      refine wl_val (v := .int .i64 ((((n + (2 * kk - 1)) + (2 * (m - kk) - 1)) + 1 - 1 : Nat) : Int)) (fun ρ e => ex_assign (e _ _ rfl)) rfl rfl ?_
      refine wl_nil ?_
      refine xw_next K61 ?_
      refine cw_ret ?_
      refine xw_ret (v := .int .i64 ((((n + (2 * kk - 1)) + (2 * (m - kk) - 1)) + 1 - 1 : Nat) : Int)) (fun T hT => res1 rfl T _ (hT 5 _ rfl)) ?_
      have hlv : (Tr.node T23 T31).leaves = (L0.drop s).take m := by simp only [Tr.leaves, hlv24, hlv32]; exact take_cut (by omega)
      have hsz : (Tr.node T23 T31).size = 2 * m - 1 := by simp only [Tr.size, hsz25, hsz33]; omega
      have hn : ((n + (2 * kk - 1)) + (2 * (m - kk) - 1)) + 1 = n + (2 * m - 1) := by omega
      have ha2 : a + 1 + (kk - 1) + ((m - kk) - 1) = a + (m - 1) := by omega
      have hl : (((l ++ post T23 n) ++ post T31 (n + (2 * kk - 1))) ++ [(VN.mk ((n + (2 * kk - 1) - 1 : Nat) : Int) (((n + (2 * kk - 1)) + (2 * (m - kk) - 1) - 1 : Nat) : Int) 0)]) = l ++ post (Tr.node T23 T31) n := by simp [post, hsz25, hsz33]
      have hO := (O59.re [4, 5, 6, 7, 0, 1, 8, 9] rfl : Own Z w0 w57 [.blk tb 3 #[.int .i64 ((a + 1 + (kk - 1) + ((m - kk) - 1) : Nat) : Int)], .blk lb 32 #[V], .blk nb 68 #[.func (.func 51) #[] #[.pointer (some ⟨tb, 0, none⟩), .pointer (some ⟨lb, 0, none⟩)]], .blk pb 69 #[.func (.func 52) #[] #[.pointer (some ⟨nb, 0, none⟩), .pointer (some ⟨pb, 0, none⟩), .pointer (some ⟨ob, 0, none⟩)]], .blk ob 23 #[.slice A50 (((n + (2 * kk - 1)) + (2 * (m - kk) - 1)) + 1) c51], .row (.slice A50 (((n + (2 * kk - 1)) + (2 * (m - kk) - 1)) + 1) c51) 38 3 (((n + (2 * kk - 1)) + (2 * (m - kk) - 1)) + 1) (ncells (((l ++ post T23 n) ++ post T31 (n + (2 * kk - 1))) ++ [(VN.mk ((n + (2 * kk - 1) - 1 : Nat) : Int) (((n + (2 * kk - 1)) + (2 * (m - kk) - 1) - 1 : Nat) : Int) 0)])), .blk vb 3 ((intCs L0).toArray), .ro D (fun w => BytesD D w (V) bs)])
      rw [hn, hl, ha2] at hO
      exact ⟨Tr.node T23 T31, A50, c51, hlv, hsz, congrArg (fun z : Nat => Ending.returned (.int .i64 (z : Int))) (show ((n + (2 * kk - 1)) + (2 * (m - kk) - 1)) + 1 - 1 = n + (2 * m - 1) - 1 by omega), hO⟩
/-- 1 to i, and noughts behind: n numbers. -/
def numL (n i : Nat) : List Int := (List.range n).map fun k => if k < i then ((k + 1 : Nat) : Int) else 0
theorem numL_len (n i : Nat) : (numL n i).length = n := by simp [numL]
theorem numL_zero (n : Nat) : numL n 0 = List.replicate n 0 := by
  apply List.ext_getElem?
  intro k
  by_cases h : k < n <;> simp [numL, h]
theorem numL_set {n i : Nat} (hi : i < n) : (numL n i).set i ((i + 1 : Nat) : Int) = numL n (i + 1) := by
  apply List.ext_getElem?
  intro k
  rw [List.getElem?_set]
  by_cases hk : k < n
  · by_cases e : i = k
    · subst e; simp [numL, hk]
    · by_cases hlt : k < i
      · simp [numL, hk, e, hlt, show k < i + 1 by omega]
      · simp [numL, hk, e, hlt, show ¬ k < i + 1 by omega]
  · have e : ¬ i = k := by omega
    simp [numL, hk, e]
theorem numL_nodup (n : Nat) : (numL n n).Nodup := by
  unfold numL
  rw [List.nodup_iff_pairwise_ne, List.pairwise_map]
  refine List.Pairwise.imp_of_mem ?_ (List.nodup_iff_pairwise_ne.1 List.nodup_range)
  intro a b ha hb hne
  have ha := List.mem_range.1 ha
  have hb := List.mem_range.1 hb
  rw [if_pos ha, if_pos hb]
  omega
theorem numL_in {n : Nat} (hn : n ≤ 128) {v : Int} (h : v ∈ numL n n) : 1 ≤ v ∧ v ≤ 128 := by
  unfold numL at h
  obtain ⟨k, hk, rfl⟩ := List.mem_map.1 h
  have hk := List.mem_range.1 hk
  rw [if_pos hk]
  omega
theorem swap_perm {vs l : List Int} {i k : Nat} {xi xk : Int} (hi : vs[i]? = some xi) (hk : vs[k]? = some xk) (hp : vs.Perm l) : ((vs.set i xk).set k xi).Perm l := by
  obtain ⟨h1, rfl⟩ := List.getElem?_eq_some_iff.1 hi
  obtain ⟨h2, rfl⟩ := List.getElem?_eq_some_iff.1 hk
  exact (List.set_set_perm h1 h2).trans hp
theorem grown_ {W : World} {D : Nat → Prop} {V : Value} {bs : List Nat} (hB : BytesD D W V bs) (hD : ∀ k, D k → k < W.heap.size) (hbs : bs.length ≤ 100000) {x : Nat} (hx : x ≤ 255) :
    Calls Tryd.prog 20 #[.int .u8 (x : Int), V] W fun e w' => ∃ T A' c', GoodT T ∧ T.leaves.length = 1 + x % 40 ∧ e = .returned (.slice A' T.size c') ∧ Own Z0 W w' [.row (.slice A' T.size c') 38 3 T.size (ncells (post T 0))] := by
  obtain ⟨A, cl, rfl⟩ := hB.slice
  have O0 : Own Z0 W W [.ro D (fun w => BytesD D w (.slice A bs.length cl) bs)] := (Own.start W).oldro (D := D) (p := (fun w => BytesD D w (.slice A bs.length cl) bs)) (bytesE_holds hB hD)
  refine sx_enter (args := [.int .u8 (x : Int), .slice A bs.length cl]) Tryd.func20 rfl rfl (by simp) ?_
  refine cw_seq (fun FK1 K1 => ?_)
  refine cw_region ?_
  obtain ⟨g2, w3, r4, O5, hg6, hs7⟩ := own_box O0 32 (.slice A bs.length cl) rfl
  refine wl_val (v := .pointer (some ⟨g2, 0, none⟩)) (fun ρ e => r4 ρ _ _ _ _ _ _ (e _ _ rfl)) rfl rfl ?_
  refine wl_val (v := .slice none 0 0) (fun ρ e => ex_assign (e _ _ rfl)) rfl rfl ?_
  refine wl_nil ?_
  refine xw_next K1 ?_
  refine cw_seq (fun FK8 K8 => ?_)
  refine cw_region ?_
  refine wl_val (v := .int .u8 (x : Int)) (fun ρ e => ex_move (e _ _ rfl)) rfl rfl ?_
  obtain ⟨k9, hk9, lk9⟩ : ∃ q, x % 40 = q ∧ q < 40 := ⟨_, rfl, Nat.mod_lt _ (by omega)⟩
  refine wl_val (v := .int .u8 (k9 : Int)) (fun ρ e => ex_rem8 (a := x) (b := 40) (e _ _ rfl) (e _ _ rfl) (by omega) hk9) rfl rfl ?_
  refine wl_val (v := .int .i64 (k9 : Int)) (fun ρ e => ex_conv8 (e _ _ rfl) (by omega)) rfl rfl ?_
  obtain ⟨n, hn⟩ : ∃ q, q = 1 + k9 := ⟨_, rfl⟩
  refine wl_val (v := .int .i64 (n : Int)) (fun ρ e => ex_arith (k := .i64) (u := 1) (v := (k9 : Int)) (e _ _ rfl) (e _ _ rfl) (congrArg some ((congrArg _ (show _ = (n : Int) by omega)).trans (wrap_in (by omega) (by omega))))) rfl rfl ?_
  refine wl_val (v := .int .i64 (n : Int)) (fun ρ e => ex_assign (e _ _ rfl)) rfl rfl ?_
  refine wl_nil ?_
  refine xw_next K8 ?_
  refine cw_seq (fun FK10 K10 => ?_)
  refine cw_region ?_
  obtain ⟨g11, w12, r13, O14, hg15, hs16⟩ := own_alloc O5 3 ze3 rfl
  refine wl_val (v := .pointer (some ⟨g11, 0, none⟩)) (fun ρ e => r13 ρ _ _ _ _ _) rfl rfl ?_
  obtain ⟨w17, r18, O19, hs20⟩ := own_put (o := 0) (n := 1) O14 ty3 (.int .i64 0) [.int .i64 0] (cs' := #[.int .i64 0]) rfl rfl rfl (Nat.le_of_ble_eq_true rfl) rfl
  refine wl_none (fun ρ e => r18 ρ _ _ _ _ _ _ (e _ _ rfl) (e _ _ rfl)) rfl ?_
  refine wl_nil ?_
  refine xw_next K10 ?_
  refine cw_seq (fun FK21 K21 => ?_)
  refine cw_region ?_
  refine wl_val (v := .func (.func 51) #[] #[.pointer (some ⟨g11, 0, none⟩), .pointer (some ⟨g2, 0, none⟩)]) (fun ρ e => ex_func (us := []) (vs := [.pointer (some ⟨g11, 0, none⟩), .pointer (some ⟨g2, 0, none⟩)]) (e.list rfl) (e.list rfl)) rfl rfl ?_
  obtain ⟨g22, w23, r24, O25, hg26, hs27⟩ := own_alloc O19 68 ze68 rfl
  refine wl_val (v := .pointer (some ⟨g22, 0, none⟩)) (fun ρ e => r24 ρ _ _ _ _ _) rfl rfl ?_
  obtain ⟨w28, r29, O30, hs31⟩ := own_put (o := 0) (n := 1) O25 ty68 (.func (.func 51) #[] #[.pointer (some ⟨g11, 0, none⟩), .pointer (some ⟨g2, 0, none⟩)]) [.func (.func 51) #[] #[.pointer (some ⟨g11, 0, none⟩), .pointer (some ⟨g2, 0, none⟩)]] (cs' := #[.func (.func 51) #[] #[.pointer (some ⟨g11, 0, none⟩), .pointer (some ⟨g2, 0, none⟩)]]) rfl rfl rfl (Nat.le_of_ble_eq_true rfl) rfl
  refine wl_none (fun ρ e => r29 ρ _ _ _ _ _ _ (e _ _ rfl) (e _ _ rfl)) rfl ?_
  refine wl_nil ?_
  refine xw_next K21 ?_
  refine cw_seq (fun FK32 K32 => ?_)
  refine cw_region ?_
  refine wl_val (v := .int .i64 (n : Int)) (fun ρ e => ex_move (e _ _ rfl)) rfl rfl ?_
  obtain ⟨g33, w34, r35, O36, hg37, hs38⟩ := own_make1 O30 ap36 rfl n (by decide) (by omega) (cs := (intCs (numL n 0)).toArray) (by rw [numL_zero]; simp [intCs])
  refine wl_val (v := .slice (some ⟨g33, 0, none⟩) n n) (fun ρ e => r35 ρ _ _ _ _ _ _ _ (e _ _ rfl) (e _ _ rfl)) rfl rfl ?_
  refine wl_val (v := .slice (some ⟨g33, 0, none⟩) n n) (fun ρ e => ex_assign (e _ _ rfl)) rfl rfl ?_
  refine wl_nil ?_
  refine xw_next K32 ?_
  refine cw_seq (fun FK39 K39 => ?_)
  refine cw_seq (fun FK40 K40 => ?_)
  refine cw_region ?_
  refine wl_val (v := .slice (some ⟨g33, 0, none⟩) n n) (fun ρ e => ex_move (e _ _ rfl)) rfl rfl ?_
  refine wl_val (v := .int .i64 (n : Int)) (fun ρ e => ex_len el36 (e _ _ rfl)) rfl rfl ?_
  refine wl_val (v := .int .i64 0) (fun ρ e => ex_move (e _ _ rfl)) rfl rfl ?_
  refine wl_nil ?_
  refine xw_next K40 ?_
  refine cw_block ?_
  have O41 : Own Z0 W w34 [.blk g11 3 #[.int .i64 0], .blk g2 32 #[.slice A bs.length cl], .blk g22 68 #[.func (.func 51) #[] #[.pointer (some ⟨g11, 0, none⟩), .pointer (some ⟨g2, 0, none⟩)]], .blk g33 3 ((intCs (numL n 0)).toArray), .ro D (fun w => BytesD D w (.slice A bs.length cl) bs)] := (O36.re [2, 3, 1, 0, 4] rfl : Own Z0 W w34 [.blk g11 3 #[.int .i64 0], .blk g2 32 #[.slice A bs.length cl], .blk g22 68 #[.func (.func 51) #[] #[.pointer (some ⟨g11, 0, none⟩), .pointer (some ⟨g2, 0, none⟩)]], .blk g33 3 ((intCs (numL n 0)).toArray), .ro D (fun w => BytesD D w (.slice A bs.length cl) bs)])
  refine cw_loop (ι := Nat) (fun q => [(5, .int .i64 (n : Int)), (7, .pointer (some ⟨g22, 0, none⟩)), (8, .slice (some ⟨g33, 0, none⟩) n n), (22, .int .i64 (n : Int)), (23, .int .i64 (q : Int))]) (fun q X => (q ≤ n) ∧ Own Z0 W X [.blk g11 3 #[.int .i64 0], .blk g2 32 #[.slice A bs.length cl], .blk g22 68 #[.func (.func 51) #[] #[.pointer (some ⟨g11, 0, none⟩), .pointer (some ⟨g2, 0, none⟩)]], .blk g33 3 ((intCs (numL n q)).toArray), .ro D (fun w => BytesD D w (.slice A bs.length cl) bs)]) (fun q => n - q) 0 ⟨Nat.zero_le _, O41⟩ ⟨rfl, rfl, rfl, rfl, rfl, trivial⟩ (fun q w42 hJ F43 K44 => ?_)
  obtain ⟨i, rfl⟩ : ∃ x, x = q := ⟨_, rfl⟩
  obtain ⟨hi0, O45⟩ := hJ
  try dsimp only at hi0 O45 ⊢
  by_cases hi : i < n
  · skip
    refine cw_seq (fun FK46 K46 => ?_)
    refine cw_region ?_
    refine wl_val (v := .bool true) (fun ρ e => ex_cmp (u := (i : Int)) (v := (n : Int)) (e _ _ rfl) (e _ _ rfl) (lss1 (by omega))) rfl rfl ?_
    refine wl_nil ?_
    refine xw_next K46 ?_
    refine cw_seq (fun FK47 K47 => ?_)
    refine cw_true rfl ?_
    refine cw_skip ?_
    refine xw_next K47 ?_
    refine cw_seq (fun FK48 K48 => ?_)
    refine cw_block ?_
    refine cw_seq (fun FK49 K49 => ?_)
    refine cw_region ?_
    refine wl_val (v := .int .i64 (i : Int)) (fun ρ e => ex_move (e _ _ rfl)) rfl rfl ?_
    refine wl_val (v := .int .i64 (i : Int)) (fun ρ e => ex_assign (e _ _ rfl)) rfl rfl ?_
    refine wl_nil ?_
    refine xw_next K49 ?_
    refine cw_region ?_
    refine wl_val (v := .slice (some ⟨g33, 0, none⟩) n n) (fun ρ e => ex_move (e _ _ rfl)) rfl rfl ?_
    refine wl_val (v := .int .i64 (i : Int)) (fun ρ e => ex_move (e _ _ rfl)) rfl rfl ?_
    refine wl_val (v := .int .i64 (i : Int)) (fun ρ e => ex_move (e _ _ rfl)) rfl rfl ?_
    refine wl_val (v := .int .i64 ((i + 1 : Nat) : Int)) (fun ρ e => ex_arith (k := .i64) (u := (i : Int)) (v := 1) (e _ _ rfl) (e _ _ rfl) (congrArg some ((congrArg _ (show _ = ((i + 1 : Nat) : Int) by omega)).trans (wrap_in (by omega) (by omega))))) rfl rfl ?_
    refine wl_val (v := .pointer (some ⟨g33, i, none⟩)) (fun ρ e => ex_idx (q := i) (i := i) el36 (e _ _ rfl) (e _ _ rfl) (by omega) (by omega)) rfl rfl ?_
    obtain ⟨w50, r51, O52, hs53⟩ := own_put (o := i) (n := 1) (O45.re [3, 0, 1, 2, 4] rfl : Own Z0 W w42 [.blk g33 3 ((intCs (numL n i)).toArray), .blk g11 3 #[.int .i64 0], .blk g2 32 #[.slice A bs.length cl], .blk g22 68 #[.func (.func 51) #[] #[.pointer (some ⟨g11, 0, none⟩), .pointer (some ⟨g2, 0, none⟩)]], .ro D (fun w => BytesD D w (.slice A bs.length cl) bs)]) ty3 (.int .i64 ((i + 1 : Nat) : Int)) [.int .i64 ((i + 1 : Nat) : Int)] (cs' := (intCs ((numL n i).set i ((i + 1 : Nat) : Int))).toArray) rfl rfl rfl (by simp [intCs, numL_len] <;> omega) (setI _ i ((i + 1 : Nat) : Int))
    refine wl_none (fun ρ e => r51 ρ _ _ _ _ _ _ (e _ _ rfl) (e _ _ rfl)) rfl ?_
    refine wl_nil ?_
    refine xw_block ?_
    refine xw_next K48 ?_
    refine cw_region ?_
    refine wl_val (v := .int .i64 ((i + 1 : Nat) : Int)) (fun ρ e => ex_arith (k := .i64) (u := (i : Int)) (v := 1) (e _ _ rfl) (e _ _ rfl) (congrArg some ((congrArg _ (show _ = ((i + 1 : Nat) : Int) by omega)).trans (wrap_in (by omega) (by omega))))) rfl rfl ?_
    refine wl_val (v := .int .i64 ((i + 1 : Nat) : Int)) (fun ρ e => ex_move (e _ _ rfl)) rfl rfl ?_
    refine wl_nil ?_
    have O54 : Own Z0 W w50 [.blk g11 3 #[.int .i64 0], .blk g2 32 #[.slice A bs.length cl], .blk g22 68 #[.func (.func 51) #[] #[.pointer (some ⟨g11, 0, none⟩), .pointer (some ⟨g2, 0, none⟩)]], .blk g33 3 ((intCs (numL n (i + 1))).toArray), .ro D (fun w => BytesD D w (.slice A bs.length cl) bs)] := by rw [← numL_set hi]; exact (O52.re [1, 2, 3, 0, 4] rfl : Own Z0 W w50 [.blk g11 3 #[.int .i64 0], .blk g2 32 #[.slice A bs.length cl], .blk g22 68 #[.func (.func 51) #[] #[.pointer (some ⟨g11, 0, none⟩), .pointer (some ⟨g2, 0, none⟩)]], .blk g33 3 ((intCs ((numL n i).set i ((i + 1 : Nat) : Int))).toArray), .ro D (fun w => BytesD D w (.slice A bs.length cl) bs)])
    refine xw_round K44 (i + 1) (by show n - (i + 1) < n - i; omega) ⟨(by show i + 1 ≤ n; omega), O54⟩ ⟨rfl, rfl, rfl, rfl, rfl, trivial⟩
  · have hie : i = n := by omega
    rw [hie] at O45
    refine cw_seq (fun FK55 K55 => ?_)
    refine cw_region ?_
    refine wl_val (v := .bool false) (fun ρ e => ex_cmp (u := (i : Int)) (v := (n : Int)) (e _ _ rfl) (e _ _ rfl) (lss0 (by omega))) rfl rfl ?_
    refine wl_nil ?_
    refine xw_next K55 ?_
    refine cw_seq (fun FK56 K56 => ?_)
    refine cw_false rfl ?_
    refine cw_exit ?_
    refine xw_past (by intro h; cases h) ?_
    refine xw_past (by intro h; cases h) ?_
    refine xw_here ?_
    refine xw_next K39 ?_
    refine cw_seq (fun FK57 K57 => ?_)
    refine cw_seq (fun FK58 K58 => ?_)
    refine cw_region ?_
    refine wl_val (v := .slice (some ⟨g33, 0, none⟩) n n) (fun ρ e => ex_move (e _ _ rfl)) rfl rfl ?_
    refine wl_val (v := .int .i64 (n : Int)) (fun ρ e => ex_len el36 (e _ _ rfl)) rfl rfl ?_
    refine wl_val (v := .int .i64 0) (fun ρ e => ex_move (e _ _ rfl)) rfl rfl ?_
    refine wl_nil ?_
    refine xw_next K58 ?_
    refine cw_block ?_
    have O59 : Own Z0 W w42 [.blk g11 3 #[.int .i64 0], .blk g2 32 #[.slice A bs.length cl], .blk g22 68 #[.func (.func 51) #[] #[.pointer (some ⟨g11, 0, none⟩), .pointer (some ⟨g2, 0, none⟩)]], .blk g33 3 ((intCs (numL n n)).toArray), .ro D (fun w => BytesD D w (.slice A bs.length cl) bs)] := O45
    have hz0 : ((0 : Nat) : Int) = 0 := rfl
    refine cw_loop (ι := Nat × List Int) (fun q => [(5, .int .i64 (n : Int)), (7, .pointer (some ⟨g22, 0, none⟩)), (8, .slice (some ⟨g33, 0, none⟩) n n), (33, .int .i64 (n : Int)), (34, .int .i64 (q.1 : Int))]) (fun q X => (q.1 ≤ n) ∧ (q.2.Perm (numL n n)) ∧ Own Z0 W X [.blk g11 3 #[.int .i64 (q.1 : Int)], .blk g2 32 #[.slice A bs.length cl], .blk g22 68 #[.func (.func 51) #[] #[.pointer (some ⟨g11, 0, none⟩), .pointer (some ⟨g2, 0, none⟩)]], .blk g33 3 ((intCs q.2).toArray), .ro D (fun w => BytesD D w (.slice A bs.length cl) bs)]) (fun q => n - q.1) (0, (numL n n)) ⟨Nat.zero_le _, List.Perm.refl _, O59⟩ ⟨rfl, rfl, rfl, rfl, rfl, trivial⟩ (fun q w60 hJ F61 K62 => ?_)
    obtain ⟨i, vs⟩ := q
    obtain ⟨hi0, hp, O63⟩ := hJ
    dsimp only at hi0 hp O63 ⊢
    have hlen : vs.length = n := by rw [hp.length_eq, numL_len]
    by_cases hi : i < n
    · skip
      obtain ⟨xi, hxi⟩ : ∃ v, vs[i]? = some v := ⟨vs[i], List.getElem?_eq_getElem (by omega)⟩
      refine cw_seq (fun FK64 K64 => ?_)
      refine cw_region ?_
      refine wl_val (v := .bool true) (fun ρ e => ex_cmp (u := (i : Int)) (v := (n : Int)) (e _ _ rfl) (e _ _ rfl) (lss1 (by omega))) rfl rfl ?_
      refine wl_nil ?_
      refine xw_next K64 ?_
      refine cw_seq (fun FK65 K65 => ?_)
      refine cw_true rfl ?_
      refine cw_skip ?_
      refine xw_next K65 ?_
      refine cw_seq (fun FK66 K66 => ?_)
      refine cw_block ?_
      refine cw_seq (fun FK67 K67 => ?_)
      refine cw_region ?_
      refine wl_val (v := .int .i64 (i : Int)) (fun ρ e => ex_move (e _ _ rfl)) rfl rfl ?_
      refine wl_val (v := .int .i64 (i : Int)) (fun ρ e => ex_assign (e _ _ rfl)) rfl rfl ?_
      refine wl_nil ?_
      refine xw_next K67 ?_
      refine cw_seq (fun FK68 K68 => ?_)
      refine cw_region ?_
      refine wl_val (v := .func (.func 51) #[] #[.pointer (some ⟨g11, 0, none⟩), .pointer (some ⟨g2, 0, none⟩)]) (fun ρ e => ex_load1 ty68 (e _ _ rfl) (O63.cell 2 0 rfl rfl)) rfl rfl ?_
      refine wl_callv (args := []) (all := [.pointer (some ⟨g11, 0, none⟩), .pointer (some ⟨g2, 0, none⟩)]) in_51 rfl rfl rfl rfl rfl ?_
      have O73h := Own.hand (A := [.blk g11 3 #[.int .i64 (i : Int)], .blk g2 32 #[.slice A bs.length cl], .ro D (fun w => BytesD D w (.slice A bs.length cl) bs)]) (R := [.blk g22 68 #[.func (.func 51) #[] #[.pointer (some ⟨g11, 0, none⟩), .pointer (some ⟨g2, 0, none⟩)]], .blk g33 3 ((intCs vs).toArray)]) (O63.re [0, 1, 4, 2, 3] rfl : Own Z0 W w60 [.blk g11 3 #[.int .i64 (i : Int)], .blk g2 32 #[.slice A bs.length cl], .ro D (fun w => BytesD D w (.slice A bs.length cl) bs), .blk g22 68 #[.func (.func 51) #[] #[.pointer (some ⟨g11, 0, none⟩), .pointer (some ⟨g2, 0, none⟩)]], .blk g33 3 ((intCs vs).toArray)])
      refine (next_ (a := i) O73h (by omega) hbs).mono ?_
      rintro _ w71 ⟨r69, hr70, rfl, h72⟩
      have O73 : Own Z0 W w71 [.blk g11 3 #[.int .i64 ((i + 1 : Nat) : Int)], .blk g2 32 #[.slice A bs.length cl], .ro D (fun w => BytesD D w (.slice A bs.length cl) bs), .blk g22 68 #[.func (.func 51) #[] #[.pointer (some ⟨g11, 0, none⟩), .pointer (some ⟨g2, 0, none⟩)]], .blk g33 3 ((intCs vs).toArray)] := Own.frame (A := [.blk g11 3 #[.int .i64 (i : Int)], .blk g2 32 #[.slice A bs.length cl], .ro D (fun w => BytesD D w (.slice A bs.length cl) bs)]) (R := [.blk g22 68 #[.func (.func 51) #[] #[.pointer (some ⟨g11, 0, none⟩), .pointer (some ⟨g2, 0, none⟩)]], .blk g33 3 ((intCs vs).toArray)]) (O63.re [0, 1, 4, 2, 3] rfl : Own Z0 W w60 [.blk g11 3 #[.int .i64 (i : Int)], .blk g2 32 #[.slice A bs.length cl], .ro D (fun w => BytesD D w (.slice A bs.length cl) bs), .blk g22 68 #[.func (.func 51) #[] #[.pointer (some ⟨g11, 0, none⟩), .pointer (some ⟨g2, 0, none⟩)]], .blk g33 3 ((intCs vs).toArray)]) h72
      refine ⟨_, rfl, ?_⟩
      refine wl_val (v := .int .i64 (n : Int)) (fun ρ e => ex_move (e _ _ rfl)) rfl rfl ?_
      obtain ⟨k74, hk74, lk74⟩ : ∃ q, r69 % n = q ∧ q < n := ⟨_, rfl, Nat.mod_lt _ (by omega)⟩
      obtain ⟨xk, hxk⟩ : ∃ v, vs[k74]? = some v := ⟨vs[k74], List.getElem?_eq_getElem (by omega)⟩
      refine wl_val (v := .int .i64 (k74 : Int)) (fun ρ e => ex_remg (a := r69) (b := n) (e _ _ rfl) (e _ _ rfl) (by omega) hk74) rfl rfl ?_
      refine wl_val (v := .int .i64 (k74 : Int)) (fun ρ e => ex_assign (e _ _ rfl)) rfl rfl ?_
      refine wl_nil ?_
      refine xw_next K68 ?_
      refine cw_drawn (fun X => Own Z0 W X [.blk g11 3 #[.int .i64 ((i + 1 : Nat) : Int)], .blk g2 32 #[.slice A bs.length cl], .ro D (fun w => BytesD D w (.slice A bs.length cl) bs), .blk g22 68 #[.func (.func 51) #[] #[.pointer (some ⟨g11, 0, none⟩), .pointer (some ⟨g2, 0, none⟩)]], .blk g33 3 ((intCs vs).toArray)]) 13 [(0, 1), (1, 1), (2, 1), (3, 1), (4, 1), (5, 1), (6, 1), (7, 0), (8, 1), (9, 1), (10, 1), (11, 0), (12, 1), (13, 3), (14, 1), (15, 3)] (by kernel_rfl) (by kernel_rfl) (PQ.block (PQ.then_ (PQ.then_ (PQ.block (PQ.then_ PQ.body))))) (O73).drew ?_
      have O75 : Own Z0 W w71.drew [.blk g11 3 #[.int .i64 ((i + 1 : Nat) : Int)], .blk g2 32 #[.slice A bs.length cl], .ro D (fun w => BytesD D w (.slice A bs.length cl) bs), .blk g22 68 #[.func (.func 51) #[] #[.pointer (some ⟨g11, 0, none⟩), .pointer (some ⟨g2, 0, none⟩)]], .blk g33 3 ((intCs vs).toArray)] := O73.drew
      refine wt1 (v := .slice (some ⟨g33, 0, none⟩) n n) rfl (fun ρ e W => ex_move (e _ _ rfl)) rfl rfl ?_
      refine wt1 (v := .int .i64 (i : Int)) rfl (fun ρ e W => ex_move (e _ _ rfl)) rfl rfl ?_
      refine wt1 (v := .slice (some ⟨g33, 0, none⟩) n n) rfl (fun ρ e W => ex_move (e _ _ rfl)) rfl rfl ?_
      refine wt1 (v := .int .i64 (k74 : Int)) rfl (fun ρ e W => ex_move (e _ _ rfl)) rfl rfl ?_
      refine wt1 (v := .slice (some ⟨g33, 0, none⟩) n n) rfl (fun ρ e W => ex_move (e _ _ rfl)) rfl rfl ?_
      refine wt1 (v := .int .i64 (k74 : Int)) rfl (fun ρ e W => ex_move (e _ _ rfl)) rfl rfl ?_
      refine wt1 (v := .pointer (some ⟨g33, k74, none⟩)) rfl (fun ρ e W => ex_idx (q := k74) (i := k74) el36 (e _ _ rfl) (e _ _ rfl) (by omega) (by omega)) rfl rfl ?_
      refine wt0 (v := .int .i64 xk) rfl (fun ρ e W hW => ex_load1 ty3 (e _ _ rfl) (((hW.blk 4 rfl).cell _).trans (getI hxk))) rfl rfl ?_
      refine wt1 (v := .slice (some ⟨g33, 0, none⟩) n n) rfl (fun ρ e W => ex_move (e _ _ rfl)) rfl rfl ?_
      refine wt1 (v := .int .i64 (i : Int)) rfl (fun ρ e W => ex_move (e _ _ rfl)) rfl rfl ?_
      refine wt1 (v := .pointer (some ⟨g33, i, none⟩)) rfl (fun ρ e W => ex_idx (q := i) (i := i) el36 (e _ _ rfl) (e _ _ rfl) (by omega) (by omega)) rfl rfl ?_
      refine wt0 (v := .int .i64 xi) rfl (fun ρ e W hW => ex_load1 ty3 (e _ _ rfl) (((hW.blk 4 rfl).cell _).trans (getI hxi))) rfl rfl ?_
      refine wt1 (v := .pointer (some ⟨g33, i, none⟩)) rfl (fun ρ e W => ex_idx (q := i) (i := i) el36 (e _ _ rfl) (e _ _ rfl) (by omega) (by omega)) rfl rfl ?_
      obtain ⟨w76, r77, O78, hs79⟩ := own_put (o := i) (n := 1) (O75.re [4, 0, 1, 2, 3] rfl : Own Z0 W w71.drew [.blk g33 3 ((intCs vs).toArray), .blk g11 3 #[.int .i64 ((i + 1 : Nat) : Int)], .blk g2 32 #[.slice A bs.length cl], .ro D (fun w => BytesD D w (.slice A bs.length cl) bs), .blk g22 68 #[.func (.func 51) #[] #[.pointer (some ⟨g11, 0, none⟩), .pointer (some ⟨g2, 0, none⟩)]]]) ty3 (.int .i64 xk) [.int .i64 xk] (cs' := (intCs (vs.set i xk)).toArray) rfl rfl rfl (by simp [intCs, numL_len] <;> omega) (setI _ i xk)
      refine wt3_none rfl (fun ρ e => r77 ρ _ _ _ _ _ _ (e _ _ rfl) (e _ _ rfl)) rfl ?_
      refine wt1 (v := .pointer (some ⟨g33, k74, none⟩)) rfl (fun ρ e W => ex_idx (q := k74) (i := k74) el36 (e _ _ rfl) (e _ _ rfl) (by omega) (by omega)) rfl rfl ?_
      obtain ⟨w80, r81, O82, hs83⟩ := own_put (o := k74) (n := 1) O78 ty3 (.int .i64 xi) [.int .i64 xi] (cs' := (intCs ((vs.set i xk).set k74 xi)).toArray) rfl rfl rfl (by simp [intCs, numL_len] <;> omega) (setI _ k74 xi)
      refine wt3_none rfl (fun ρ e => r81 ρ _ _ _ _ _ _ (e _ _ rfl) (e _ _ rfl)) rfl ?_
      refine wt_nil ?_
      refine xw_block ?_
      refine xw_next K66 ?_
      refine cw_region ?_
      refine wl_val (v := .int .i64 ((i + 1 : Nat) : Int)) (fun ρ e => ex_arith (k := .i64) (u := (i : Int)) (v := 1) (e _ _ rfl) (e _ _ rfl) (congrArg some ((congrArg _ (show _ = ((i + 1 : Nat) : Int) by omega)).trans (wrap_in (by omega) (by omega))))) rfl rfl ?_
      refine wl_val (v := .int .i64 ((i + 1 : Nat) : Int)) (fun ρ e => ex_move (e _ _ rfl)) rfl rfl ?_
      refine wl_nil ?_
      refine xw_round K62 (i + 1, ((vs.set i xk).set k74 xi)) (by show n - (i + 1) < n - i; omega) ⟨(by show i + 1 ≤ n; omega), (swap_perm hxi hxk hp), (O82.re [1, 2, 4, 0, 3] rfl : Own Z0 W w80 [.blk g11 3 #[.int .i64 ((i + 1 : Nat) : Int)], .blk g2 32 #[.slice A bs.length cl], .blk g22 68 #[.func (.func 51) #[] #[.pointer (some ⟨g11, 0, none⟩), .pointer (some ⟨g2, 0, none⟩)]], .blk g33 3 ((intCs ((vs.set i xk).set k74 xi)).toArray), .ro D (fun w => BytesD D w (.slice A bs.length cl) bs)])⟩ ⟨rfl, rfl, rfl, rfl, rfl, trivial⟩
    · have hie : i = n := by omega
      refine cw_seq (fun FK84 K84 => ?_)
      refine cw_region ?_
      refine wl_val (v := .bool false) (fun ρ e => ex_cmp (u := (i : Int)) (v := (n : Int)) (e _ _ rfl) (e _ _ rfl) (lss0 (by omega))) rfl rfl ?_
      refine wl_nil ?_
      refine xw_next K84 ?_
      refine cw_seq (fun FK85 K85 => ?_)
      refine cw_false rfl ?_
      refine cw_exit ?_
      refine xw_past (by intro h; cases h) ?_
      refine xw_past (by intro h; cases h) ?_
      refine xw_here ?_
      refine xw_next K57 ?_
      refine cw_seq (fun FK86 K86 => ?_)
      refine cw_region ?_
      obtain ⟨g87, w88, r89, O90, hg91, hs92⟩ := own_alloc O63 23 ze23 rfl
      refine wl_val (v := .pointer (some ⟨g87, 0, none⟩)) (fun ρ e => r89 ρ _ _ _ _ _) rfl rfl ?_
      refine wl_nil ?_
      refine xw_next K86 ?_
      refine cw_seq (fun FK93 K93 => ?_)
      refine cw_region ?_
      obtain ⟨g94, w95, r96, O97, hg98, hs99⟩ := own_alloc O90 69 ze69 rfl
      refine wl_val (v := .pointer (some ⟨g94, 0, none⟩)) (fun ρ e => r96 ρ _ _ _ _ _) rfl rfl ?_
      refine wl_nil ?_
      refine xw_next K93 ?_
      refine cw_seq (fun FK100 K100 => ?_)
      refine cw_region ?_
      refine wl_val (v := .func (.func 52) #[] #[.pointer (some ⟨g22, 0, none⟩), .pointer (some ⟨g94, 0, none⟩), .pointer (some ⟨g87, 0, none⟩)]) (fun ρ e => ex_func (us := []) (vs := [.pointer (some ⟨g22, 0, none⟩), .pointer (some ⟨g94, 0, none⟩), .pointer (some ⟨g87, 0, none⟩)]) (e.list rfl) (e.list rfl)) rfl rfl ?_
      obtain ⟨w101, r102, O103, hs104⟩ := own_put (o := 0) (n := 1) O97 ty69 (.func (.func 52) #[] #[.pointer (some ⟨g22, 0, none⟩), .pointer (some ⟨g94, 0, none⟩), .pointer (some ⟨g87, 0, none⟩)]) [.func (.func 52) #[] #[.pointer (some ⟨g22, 0, none⟩), .pointer (some ⟨g94, 0, none⟩), .pointer (some ⟨g87, 0, none⟩)]] (cs' := #[.func (.func 52) #[] #[.pointer (some ⟨g22, 0, none⟩), .pointer (some ⟨g94, 0, none⟩), .pointer (some ⟨g87, 0, none⟩)]]) rfl rfl rfl (Nat.le_of_ble_eq_true rfl) rfl
      refine wl_none (fun ρ e => r102 ρ _ _ _ _ _ _ (e _ _ rfl) (e _ _ rfl)) rfl ?_
      refine wl_nil ?_
      refine xw_next K100 ?_
      refine cw_seq (fun FK105 K105 => ?_)
      refine cw_region ?_
      refine wl_val (v := .func (.func 52) #[] #[.pointer (some ⟨g22, 0, none⟩), .pointer (some ⟨g94, 0, none⟩), .pointer (some ⟨g87, 0, none⟩)]) (fun ρ e => ex_load1 ty69 (e _ _ rfl) (O103.cell 0 0 rfl rfl)) rfl rfl ?_
      refine wl_val (v := .slice (some ⟨g33, 0, none⟩) n n) (fun ρ e => ex_move (e _ _ rfl)) rfl rfl ?_
      refine wl_callv (args := [.slice (some ⟨g33, 0, none⟩) n n]) (all := [.slice (some ⟨g33, 0, none⟩) n n, .pointer (some ⟨g22, 0, none⟩), .pointer (some ⟨g94, 0, none⟩), .pointer (some ⟨g87, 0, none⟩)]) in_52 rfl rfl rfl rfl rfl ?_
      have O106 : Own Z0 W w101 [.row (.slice none 0 0) 38 3 0 (ncells []), .blk g94 69 #[.func (.func 52) #[] #[.pointer (some ⟨g22, 0, none⟩), .pointer (some ⟨g94, 0, none⟩), .pointer (some ⟨g87, 0, none⟩)]], .blk g87 23 #[.slice none 0 0], .blk g11 3 #[.int .i64 (i : Int)], .blk g2 32 #[.slice A bs.length cl], .blk g22 68 #[.func (.func 51) #[] #[.pointer (some ⟨g11, 0, none⟩), .pointer (some ⟨g2, 0, none⟩)]], .blk g33 3 ((intCs vs).toArray), .ro D (fun w => BytesD D w (.slice A bs.length cl) bs)] := O103.nilrow 38 3
      have hL : vs.length = n := hlen
      have O114h := Own.hand (A := [.blk g11 3 #[.int .i64 (i : Int)], .blk g2 32 #[.slice A bs.length cl], .blk g22 68 #[.func (.func 51) #[] #[.pointer (some ⟨g11, 0, none⟩), .pointer (some ⟨g2, 0, none⟩)]], .blk g94 69 #[.func (.func 52) #[] #[.pointer (some ⟨g22, 0, none⟩), .pointer (some ⟨g94, 0, none⟩), .pointer (some ⟨g87, 0, none⟩)]], .blk g87 23 #[.slice none 0 0], .row (.slice none 0 0) 38 3 0 (ncells []), .blk g33 3 ((intCs vs).toArray), .ro D (fun w => BytesD D w (.slice A bs.length cl) bs)]) (R := []) (O106.re [3, 4, 5, 1, 2, 0, 6, 7] rfl : Own Z0 W w101 [.blk g11 3 #[.int .i64 (i : Int)], .blk g2 32 #[.slice A bs.length cl], .blk g22 68 #[.func (.func 51) #[] #[.pointer (some ⟨g11, 0, none⟩), .pointer (some ⟨g2, 0, none⟩)]], .blk g94 69 #[.func (.func 52) #[] #[.pointer (some ⟨g22, 0, none⟩), .pointer (some ⟨g94, 0, none⟩), .pointer (some ⟨g87, 0, none⟩)]], .blk g87 23 #[.slice none 0 0], .row (.slice none 0 0) 38 3 0 (ncells []), .blk g33 3 ((intCs vs).toArray), .ro D (fun w => BytesD D w (.slice A bs.length cl) bs)])
      refine (gpart_ hbs n 0 n n (by rw [hL]; omega) (by omega) (by omega) (by omega) _ _ _ _ _ _ [] i O114h (by omega) (by omega)).mono ?_
      rintro _ w112 ⟨T107, A110, c111, hlv108, hsz109, rfl, h113⟩
      have O114 : Own Z0 W w112 [.blk g11 3 #[.int .i64 ((i + (n - 1) : Nat) : Int)], .blk g2 32 #[.slice A bs.length cl], .blk g22 68 #[.func (.func 51) #[] #[.pointer (some ⟨g11, 0, none⟩), .pointer (some ⟨g2, 0, none⟩)]], .blk g94 69 #[.func (.func 52) #[] #[.pointer (some ⟨g22, 0, none⟩), .pointer (some ⟨g94, 0, none⟩), .pointer (some ⟨g87, 0, none⟩)]], .blk g87 23 #[.slice A110 (0 + (2 * n - 1)) c111], .row (.slice A110 (0 + (2 * n - 1)) c111) 38 3 (0 + (2 * n - 1)) (ncells ([] ++ post T107 0)), .blk g33 3 ((intCs vs).toArray), .ro D (fun w => BytesD D w (.slice A bs.length cl) bs)] := Own.frame (A := [.blk g11 3 #[.int .i64 (i : Int)], .blk g2 32 #[.slice A bs.length cl], .blk g22 68 #[.func (.func 51) #[] #[.pointer (some ⟨g11, 0, none⟩), .pointer (some ⟨g2, 0, none⟩)]], .blk g94 69 #[.func (.func 52) #[] #[.pointer (some ⟨g22, 0, none⟩), .pointer (some ⟨g94, 0, none⟩), .pointer (some ⟨g87, 0, none⟩)]], .blk g87 23 #[.slice none 0 0], .row (.slice none 0 0) 38 3 0 (ncells []), .blk g33 3 ((intCs vs).toArray), .ro D (fun w => BytesD D w (.slice A bs.length cl) bs)]) (R := []) (O106.re [3, 4, 5, 1, 2, 0, 6, 7] rfl : Own Z0 W w101 [.blk g11 3 #[.int .i64 (i : Int)], .blk g2 32 #[.slice A bs.length cl], .blk g22 68 #[.func (.func 51) #[] #[.pointer (some ⟨g11, 0, none⟩), .pointer (some ⟨g2, 0, none⟩)]], .blk g94 69 #[.func (.func 52) #[] #[.pointer (some ⟨g22, 0, none⟩), .pointer (some ⟨g94, 0, none⟩), .pointer (some ⟨g87, 0, none⟩)]], .blk g87 23 #[.slice none 0 0], .row (.slice none 0 0) 38 3 0 (ncells []), .blk g33 3 ((intCs vs).toArray), .ro D (fun w => BytesD D w (.slice A bs.length cl) bs)]) h113
      refine ⟨_, rfl, ?_⟩
      refine wl_nil ?_
      refine xw_next K105 ?_
      refine cw_seq (fun FK115 K115 => ?_)
      refine cw_region ?_
      refine wl_val (v := .slice A110 (0 + (2 * n - 1)) c111) (fun ρ e => ex_load1 ty23 (e _ _ rfl) (O114.cell 4 0 rfl rfl)) rfl rfl ?_
      refine wl_val (v := .slice A110 (0 + (2 * n - 1)) c111) (fun ρ e => ex_assign (e _ _ rfl)) rfl rfl ?_
      refine wl_nil ?_
      refine xw_next K115 ?_
      refine cw_ret ?_
      refine xw_ret (v := .slice A110 (0 + (2 * n - 1)) c111) (fun T hT => res1 rfl T _ (hT 4 _ rfl)) ?_
      have hlv : T107.leaves = vs := by rw [hlv108, List.drop_zero]; exact List.take_of_length_le (by omega)
      have hO := (O114.re [5] rfl : Own Z0 W w112 [.row (.slice A110 (0 + (2 * n - 1)) c111) 38 3 (0 + (2 * n - 1)) (ncells ([] ++ post T107 0))])
      rw [Nat.zero_add, List.nil_append, ← hsz109] at hO
      exact ⟨T107, A110, c111, ⟨hlv ▸ (hp.nodup_iff.2 (numL_nodup n)), fun v hv => numL_in (by omega) (hp.mem_iff.1 (hlv ▸ hv))⟩, by rw [hlv, hlen, hn, ← hk9], by rw [Nat.zero_add, hsz109], hO⟩

end Go.Proofs.YtpeoodkepjhhiaaDoor
namespace Go.Proofs.YtpeoodkepjhhiaaDoor
open Go Go.ChangeShapes Go.WideShapes Go.ChangeAt Go.RowKit Go.Deep Go.Joins
section
variable {H : Type} {enc : TypeId × Value → H} {W : World} {held : Bool}
theorem open_bytesD {fuel : Nat} {cs : List Value} {x : DataW H × List MemPlace} (h : DataW.trod enc Tryd.prog W 0 (fun _ => true) held fuel 32 cs = some x) :
    ∃ v bs, cs = [v] ∧ BytesD (fun k => k < W.heap.size) W v bs := by
  rcases open_ints Tryd.underlying32 Tryd.underlying5 (by kernel_rfl) h with ⟨rfl, rfl⟩ | ⟨a, len, cap, zs, rfl, _, hl, hm, hz, rfl, hc, hw⟩
  · exact ⟨_, [], rfl, none, 0, rfl, by simp, by unfold maxLen; omega, fun h => by simp at h⟩
  · simp only [if_true] at hz
    have hlen : ((zs.take len).map Int.toNat).length = len := by rw [List.length_map, List.length_take]; omega
    refine ⟨_, (zs.take len).map Int.toNat, rfl, some a, cap, by rw [hlen], by rw [hlen]; exact hl, hm, fun hp => ?_⟩
    have h0 := hc 0 (by omega)
    have ha : a.add 0 = a := by simp [Addr.add]
    rw [ha] at h0
    have he := addr_eta h0
    refine ⟨a.block, a.off, block_lt h0, by rw [← he], fun i y hy => ?_⟩
    have hi : i < len := by
      have := (List.getElem?_eq_some_iff.1 hy).1
      omega
    have h1 := hc i (by omega)
    rw [he, addr_add] at h1
    rw [List.getElem?_map, List.getElem?_take_of_lt hi] at hy
    obtain ⟨z, hz2, rfl⟩ := Option.map_eq_some_iff.1 hy
    rw [List.getD_eq_getElem?_getD, hz2] at h1
    have hwz := hw z (List.mem_of_getElem? hz2)
    simp [Lit.wf] at hwz
    have e1 : IntKind.u8.min = 0 := rfl
    have e2 : IntKind.u8.max = 255 := rfl
    rw [e1, e2] at hwz
    have e3 : ((z.toNat : Nat) : Int) = z := by omega
    rw [e3]
    exact ⟨by simpa using h1, by omega⟩
set_option maxRecDepth 100000 in
theorem open_bl {r : Reach} {b0 : Nat} {v : Value} {d : DataW H} {p : List MemPlace} (hv : Value.okWide Tryd.prog W r b0 32 v) (h : DataW.Trod enc Tryd.prog W 0 (fun _ => true) held 32 v d p) : ∃ bs, BytesD (fun k => k < W.heap.size) W v bs := by
  obtain ⟨fuel, hf⟩ := h
  rw [slice_cells Tryd.underlying32 hv] at hf
  obtain ⟨v', bs, h1, h2⟩ := open_bytesD hf
  injection h1 with h1 _
  exact ⟨bs, h1 ▸ h2⟩
end
theorem byte_nat {x : Int} (h : (Lit.int .u8 x).wf = true) : ∃ n : Nat, n ≤ 255 ∧ x = (n : Int) := by
  simp [Lit.wf] at h
  have e1 : IntKind.u8.min = 0 := rfl
  have e2 : IntKind.u8.max = 255 := rfl
  rw [e1, e2] at h
  exact ⟨x.toNat, by omega, by omega⟩
end Go.Proofs.YtpeoodkepjhhiaaDoor
namespace Go.Proofs.YtpeoodkepjhhiaaDoor
open Go Go.RowKit
theorem lsame_ {W : World} {D D2 : Nat → Prop} {V V2 : Value} {ts : List VN} (hN : NodesD D W V ts) (hD : ∀ k, D k → k < W.heap.size) (hN2 : NodesD D2 W V2 ts) (hD2 : ∀ k, D2 k → k < W.heap.size) : Calls Tryd.prog 22 #[V, V2] W fun e w' => e = .returned (.bool true) ∧ Below W.heap.size W w' := by
  obtain ⟨A, c, rfl⟩ := hN.slice
  obtain ⟨A2, c2, rfl⟩ := hN2.slice
  have hmx : maxLen = 9223372036854775807 := rfl
  have hcap := hN.cap
  rcases Nat.eq_zero_or_pos ts.length with h0 | h0
  · skip
    have O0 : Own Z0 W W [] := Own.start W
    refine sx_enter (args := [.slice A ts.length c, .slice A2 ts.length c2]) Tryd.func22 rfl rfl (by simp) ?_
    refine cw_seq (fun FK1 K1 => ?_)
    refine cw_region ?_
    refine wl_val (v := .bool false) (fun ρ e => ex_assign (e _ _ rfl)) rfl rfl ?_
    refine wl_nil ?_
    refine xw_next K1 ?_
    refine cw_seq (fun FK2 K2 => ?_)
    refine cw_seq (fun FK3 K3 => ?_)
    refine cw_region ?_
    refine wl_val (v := .slice A ts.length c) (fun ρ e => ex_move (e _ _ rfl)) rfl rfl ?_
    refine wl_val (v := .int .i64 ((ts.length : Nat) : Int)) (fun ρ e => ex_len el23 (e _ _ rfl)) rfl rfl ?_
    refine wl_val (v := .slice A2 ts.length c2) (fun ρ e => ex_move (e _ _ rfl)) rfl rfl ?_
    refine wl_val (v := .int .i64 ((ts.length : Nat) : Int)) (fun ρ e => ex_len el23 (e _ _ rfl)) rfl rfl ?_
    refine wl_val (v := .bool false) (fun ρ e => ex_cmp (u := ((ts.length : Nat) : Int)) (v := ((ts.length : Nat) : Int)) (e _ _ rfl) (e _ _ rfl) (neq0 rfl)) rfl rfl ?_
    refine wl_nil ?_
    refine xw_next K3 ?_
    refine cw_false rfl ?_
    refine cw_skip ?_
    refine xw_next K2 ?_
    refine cw_seq (fun FK4 K4 => ?_)
    refine cw_seq (fun FK5 K5 => ?_)
    refine cw_region ?_
    refine wl_val (v := .slice A ts.length c) (fun ρ e => ex_move (e _ _ rfl)) rfl rfl ?_
    refine wl_val (v := .int .i64 ((ts.length : Nat) : Int)) (fun ρ e => ex_len el23 (e _ _ rfl)) rfl rfl ?_
    refine wl_val (v := .int .i64 0) (fun ρ e => ex_move (e _ _ rfl)) rfl rfl ?_
    refine wl_nil ?_
    refine xw_next K5 ?_
    refine cw_block ?_
    refine cw_loop (ι := Nat) (fun q => [(0, .slice A ts.length c), (1, .slice A2 ts.length c2), (12, .int .i64 ((ts.length : Nat) : Int)), (13, .int .i64 (q : Int))]) (fun q X => (q ≤ ts.length) ∧ Own Z0 W X []) (fun q => ts.length - q) 0 ⟨Nat.zero_le _, O0⟩ ⟨rfl, rfl, rfl, rfl, trivial⟩ (fun q w6 hJ F7 K8 => ?_)
    obtain ⟨i, rfl⟩ : ∃ x, x = q := ⟨_, rfl⟩
    obtain ⟨hi0, O9⟩ := hJ
    try dsimp only at hi0 O9 ⊢
    by_cases hi : i < ts.length
    · skip
      exact absurd hi (by omega)
    · skip
      refine cw_seq (fun FK10 K10 => ?_)
      refine cw_region ?_
      refine wl_val (v := .bool false) (fun ρ e => ex_cmp (u := (i : Int)) (v := ((ts.length : Nat) : Int)) (e _ _ rfl) (e _ _ rfl) (lss0 (by omega))) rfl rfl ?_
      refine wl_nil ?_
      refine xw_next K10 ?_
      refine cw_seq (fun FK11 K11 => ?_)
      refine cw_false rfl ?_
      refine cw_exit ?_
      refine xw_past (by intro h; cases h) ?_
      refine xw_past (by intro h; cases h) ?_
      refine xw_here ?_
      refine xw_next K4 ?_
      refine cw_seq (fun FK12 K12 => ?_)
      refine cw_region ?_
      refine wl_val (v := .bool true) (fun ρ e => ex_assign (e _ _ rfl)) rfl rfl ?_
      refine wl_nil ?_
      refine xw_next K12 ?_
      refine cw_ret ?_
      refine xw_ret (v := .bool true) (fun T hT => res1 rfl T _ (hT 4 _ rfl)) ?_
      exact ⟨rfl, O9.old⟩
  · obtain ⟨b, o, c', hv, hDb⟩ := hN.form h0
    injection hv with hA _ hc
    subst hA hc
    obtain ⟨b3, o3, c', hv, hDb2⟩ := hN2.form h0
    injection hv with hA _ hc
    subst hA hc
    have O0 : Own Z0 W W [.ro D (fun w => NodesD D w (.slice (some ⟨b, o, none⟩) ts.length c) ts), .ro D2 (fun w => NodesD D2 w (.slice (some ⟨b3, o3, none⟩) ts.length c2) ts)] := ((Own.start W).oldro (D := D2) (p := (fun w => NodesD D2 w (.slice (some ⟨b3, o3, none⟩) ts.length c2) ts)) (nodesE_holds hN2 hD2)).oldro (D := D) (p := (fun w => NodesD D w (.slice (some ⟨b, o, none⟩) ts.length c) ts)) (nodesE_holds hN hD)
    refine sx_enter (args := [.slice (some ⟨b, o, none⟩) ts.length c, .slice (some ⟨b3, o3, none⟩) ts.length c2]) Tryd.func22 rfl rfl (by simp) ?_
    refine cw_seq (fun FK13 K13 => ?_)
    refine cw_region ?_
    refine wl_val (v := .bool false) (fun ρ e => ex_assign (e _ _ rfl)) rfl rfl ?_
    refine wl_nil ?_
    refine xw_next K13 ?_
    refine cw_seq (fun FK14 K14 => ?_)
    refine cw_seq (fun FK15 K15 => ?_)
    refine cw_region ?_
    refine wl_val (v := .slice (some ⟨b, o, none⟩) ts.length c) (fun ρ e => ex_move (e _ _ rfl)) rfl rfl ?_
    refine wl_val (v := .int .i64 ((ts.length : Nat) : Int)) (fun ρ e => ex_len el23 (e _ _ rfl)) rfl rfl ?_
    refine wl_val (v := .slice (some ⟨b3, o3, none⟩) ts.length c2) (fun ρ e => ex_move (e _ _ rfl)) rfl rfl ?_
    refine wl_val (v := .int .i64 ((ts.length : Nat) : Int)) (fun ρ e => ex_len el23 (e _ _ rfl)) rfl rfl ?_
    refine wl_val (v := .bool false) (fun ρ e => ex_cmp (u := ((ts.length : Nat) : Int)) (v := ((ts.length : Nat) : Int)) (e _ _ rfl) (e _ _ rfl) (neq0 rfl)) rfl rfl ?_
    refine wl_nil ?_
    refine xw_next K15 ?_
    refine cw_false rfl ?_
    refine cw_skip ?_
    refine xw_next K14 ?_
    refine cw_seq (fun FK16 K16 => ?_)
    refine cw_seq (fun FK17 K17 => ?_)
    refine cw_region ?_
    refine wl_val (v := .slice (some ⟨b, o, none⟩) ts.length c) (fun ρ e => ex_move (e _ _ rfl)) rfl rfl ?_
    refine wl_val (v := .int .i64 ((ts.length : Nat) : Int)) (fun ρ e => ex_len el23 (e _ _ rfl)) rfl rfl ?_
    refine wl_val (v := .int .i64 0) (fun ρ e => ex_move (e _ _ rfl)) rfl rfl ?_
    refine wl_nil ?_
    refine xw_next K17 ?_
    refine cw_block ?_
    refine cw_loop (ι := Nat) (fun q => [(0, .slice (some ⟨b, o, none⟩) ts.length c), (1, .slice (some ⟨b3, o3, none⟩) ts.length c2), (12, .int .i64 ((ts.length : Nat) : Int)), (13, .int .i64 (q : Int))]) (fun q X => (q ≤ ts.length) ∧ Own Z0 W X [.ro D (fun w => NodesD D w (.slice (some ⟨b, o, none⟩) ts.length c) ts), .ro D2 (fun w => NodesD D2 w (.slice (some ⟨b3, o3, none⟩) ts.length c2) ts)]) (fun q => ts.length - q) 0 ⟨Nat.zero_le _, O0⟩ ⟨rfl, rfl, rfl, rfl, trivial⟩ (fun q w18 hJ F19 K20 => ?_)
    obtain ⟨i, rfl⟩ : ∃ x, x = q := ⟨_, rfl⟩
    obtain ⟨hi0, O21⟩ := hJ
    try dsimp only at hi0 O21 ⊢
    by_cases hi : i < ts.length
    · skip
      obtain ⟨⟨xl, xr, xv⟩, hx⟩ : ∃ x, ts[i]? = some x := ⟨ts[i], List.getElem?_eq_getElem hi⟩
      refine cw_seq (fun FK22 K22 => ?_)
      refine cw_region ?_
      refine wl_val (v := .bool true) (fun ρ e => ex_cmp (u := (i : Int)) (v := ((ts.length : Nat) : Int)) (e _ _ rfl) (e _ _ rfl) (lss1 (by omega))) rfl rfl ?_
      refine wl_nil ?_
      refine xw_next K22 ?_
      refine cw_seq (fun FK23 K23 => ?_)
      refine cw_true rfl ?_
      refine cw_skip ?_
      refine xw_next K23 ?_
      refine cw_seq (fun FK24 K24 => ?_)
      refine cw_block ?_
      refine cw_seq (fun FK25 K25 => ?_)
      refine cw_region ?_
      refine wl_val (v := .int .i64 (i : Int)) (fun ρ e => ex_move (e _ _ rfl)) rfl rfl ?_
      refine wl_val (v := .int .i64 (i : Int)) (fun ρ e => ex_assign (e _ _ rfl)) rfl rfl ?_
      refine wl_nil ?_
      refine xw_next K25 ?_
      refine cw_seq (fun FK26 K26 => ?_)
      refine cw_drawn (fun X => Own Z0 W X [.ro D (fun w => NodesD D w (.slice (some ⟨b, o, none⟩) ts.length c) ts), .ro D2 (fun w => NodesD D2 w (.slice (some ⟨b3, o3, none⟩) ts.length c2) ts)]) 9 [(0, 1), (1, 1), (2, 1), (3, 0), (4, 1), (5, 1), (6, 1), (7, 0), (8, 1)] (by kernel_rfl) (by kernel_rfl) (PQ.then_ (PQ.block (PQ.then_ (PQ.then_ (PQ.block (PQ.then_ PQ.body)))))) (O21).drew ?_
      have O27 : Own Z0 W w18.drew [.ro D (fun w => NodesD D w (.slice (some ⟨b, o, none⟩) ts.length c) ts), .ro D2 (fun w => NodesD D2 w (.slice (some ⟨b3, o3, none⟩) ts.length c2) ts)] := O21.drew
      refine wt1 (v := .slice (some ⟨b, o, none⟩) ts.length c) rfl (fun ρ e W => ex_move (e _ _ rfl)) rfl rfl ?_
      refine wt1 (v := .int .i64 (i : Int)) rfl (fun ρ e W => ex_move (e _ _ rfl)) rfl rfl ?_
      refine wt1 (v := .pointer (some ⟨b, o + i * 3, none⟩)) rfl (fun ρ e W => ex_idx (q := o + i * 3) (i := i) el23 (e _ _ rfl) (e _ _ rfl) (by omega) (by omega)) rfl rfl ?_
      refine wt0 (v := .agg #[.int .i64 xl, .int .i64 xr, .int .i64 xv]) rfl (fun ρ e W hW => ex_loadN (vs := [.int .i64 xl, .int .i64 xr, .int .i64 xv]) ty38 (e _ _ rfl) rfl (cells3 (NodesD.c0 ((hW.ro 0 rfl : (fun w => NodesD D w (.slice (some ⟨b, o, none⟩) ts.length c) ts) _) : NodesD _ _ _ _) hx) (NodesD.c1 ((hW.ro 0 rfl : (fun w => NodesD D w (.slice (some ⟨b, o, none⟩) ts.length c) ts) _) : NodesD _ _ _ _) hx) (NodesD.c2 ((hW.ro 0 rfl : (fun w => NodesD D w (.slice (some ⟨b, o, none⟩) ts.length c) ts) _) : NodesD _ _ _ _) hx))) rfl rfl ?_
      refine wt1 (v := .slice (some ⟨b3, o3, none⟩) ts.length c2) rfl (fun ρ e W => ex_move (e _ _ rfl)) rfl rfl ?_
      refine wt1 (v := .int .i64 (i : Int)) rfl (fun ρ e W => ex_move (e _ _ rfl)) rfl rfl ?_
      refine wt1 (v := .pointer (some ⟨b3, o3 + i * 3, none⟩)) rfl (fun ρ e W => ex_idx (q := o3 + i * 3) (i := i) el23 (e _ _ rfl) (e _ _ rfl) (by omega) (by omega)) rfl rfl ?_
      refine wt0 (v := .agg #[.int .i64 xl, .int .i64 xr, .int .i64 xv]) rfl (fun ρ e W hW => ex_loadN (vs := [.int .i64 xl, .int .i64 xr, .int .i64 xv]) ty38 (e _ _ rfl) rfl (cells3 (NodesD.c0 ((hW.ro 1 rfl : (fun w => NodesD D2 w (.slice (some ⟨b3, o3, none⟩) ts.length c2) ts) _) : NodesD _ _ _ _) hx) (NodesD.c1 ((hW.ro 1 rfl : (fun w => NodesD D2 w (.slice (some ⟨b3, o3, none⟩) ts.length c2) ts) _) : NodesD _ _ _ _) hx) (NodesD.c2 ((hW.ro 1 rfl : (fun w => NodesD D2 w (.slice (some ⟨b3, o3, none⟩) ts.length c2) ts) _) : NodesD _ _ _ _) hx))) rfl rfl ?_
      refine wt1 (v := .bool false) rfl (fun ρ e W => ex_neN (a := (VN.mk xl xr xv)) (b := (VN.mk xl xr xv)) (e _ _ rfl) (e _ _ rfl) (by rw [decide_eq_true rfl]; rfl)) rfl rfl ?_
      refine wt_nil ?_
      refine xw_next K26 ?_
      refine cw_false rfl ?_
      refine cw_skip ?_
      refine xw_block ?_
      refine xw_next K24 ?_
      refine cw_region ?_
      refine wl_val (v := .int .i64 ((i + 1 : Nat) : Int)) (fun ρ e => ex_arith (k := .i64) (u := (i : Int)) (v := 1) (e _ _ rfl) (e _ _ rfl) (congrArg some ((congrArg _ (by omega)).trans (wrap_in (u := ((i + 1 : Nat) : Int)) (by omega) (by omega))))) rfl rfl ?_
      refine wl_val (v := .int .i64 ((i + 1 : Nat) : Int)) (fun ρ e => ex_move (e _ _ rfl)) rfl rfl ?_
      refine wl_nil ?_
      refine xw_round K20 (i + 1) (by show ts.length - (i + 1) < ts.length - i; omega) ⟨(by show i + 1 ≤ ts.length; omega), O27⟩ ⟨rfl, rfl, rfl, rfl, trivial⟩
    · skip
      refine cw_seq (fun FK28 K28 => ?_)
      refine cw_region ?_
      refine wl_val (v := .bool false) (fun ρ e => ex_cmp (u := (i : Int)) (v := ((ts.length : Nat) : Int)) (e _ _ rfl) (e _ _ rfl) (lss0 (by omega))) rfl rfl ?_
      refine wl_nil ?_
      refine xw_next K28 ?_
      refine cw_seq (fun FK29 K29 => ?_)
      refine cw_false rfl ?_
      refine cw_exit ?_
      refine xw_past (by intro h; cases h) ?_
      refine xw_past (by intro h; cases h) ?_
      refine xw_here ?_
      refine xw_next K16 ?_
      refine cw_seq (fun FK30 K30 => ?_)
      refine cw_region ?_
      refine wl_val (v := .bool true) (fun ρ e => ex_assign (e _ _ rfl)) rfl rfl ?_
      refine wl_nil ?_
      refine xw_next K30 ?_
      refine cw_ret ?_
      refine xw_ret (v := .bool true) (fun T hT => res1 rfl T _ (hT 4 _ rfl)) ?_
      exact ⟨rfl, O21.old⟩
def leavesOf (ts : List VN) : List Int := (ts.map (·.v)).filter fun v => decide (v ≠ 0)
def lvT (ts : List VN) (i : Nat) : List Int := leavesOf (ts.take i)
end Go.Proofs.YtpeoodkepjhhiaaDoor
namespace Go.Proofs.YtpeoodkepjhhiaaDoor
open Go Go.RowKit
theorem vtreeBack_at {W : World} {D : Nat → Prop} {V : Value} {bs : List Nat} (hB : BytesD D W V bs) (hD : ∀ k, D k → k < W.heap.size) {x0 x2 : Int} (hx0 : (Lit.int .u8 x0).wf = true) (hx2 : (Lit.int .u8 x2).wf = true) (tab : Tab W) : Calls Tryd.prog 9 #[.int .u8 x0, V, .int .u8 x2] W fun e w' => e = .returned (.bool true) ∧ Below W.heap.size W w' := by
  obtain ⟨x, hx, rfl⟩ := byte_nat hx0
  obtain ⟨y, hy, rfl⟩ := byte_nat hx2
  obtain ⟨B, bc, rfl⟩ := hB.slice
  have O0 : Own Z0 W W [] := Own.start W
  refine sx_enter (args := [.int .u8 (x : Int), .slice B bs.length bc, .int .u8 (y : Int)]) Tryd.func9 rfl rfl (by simp) ?_
  refine cw_seq (fun FK1 K1 => ?_)
  refine cw_region ?_
  refine wl_val (v := .bool false) (fun ρ e => ex_assign (e _ _ rfl)) rfl rfl ?_
  refine wl_nil ?_
  refine xw_next K1 ?_
  refine cw_seq (fun FK2 K2 => ?_)
  refine cw_seq (fun FK3 K3 => ?_)
  refine cw_region ?_
  refine wl_val (v := .slice B bs.length bc) (fun ρ e => ex_move (e _ _ rfl)) rfl rfl ?_
  refine wl_val (v := .int .i64 ((bs.length : Nat) : Int)) (fun ρ e => ex_len el32 (e _ _ rfl)) rfl rfl ?_
  by_cases c4 : ((bs.length : Nat) : Int) > 200
  · skip
    refine wl_val (v := .bool true) (fun ρ e => ex_cmp (u := ((bs.length : Nat) : Int)) (v := 200) (e _ _ rfl) (e _ _ rfl) (gtr1 (by omega))) rfl rfl ?_
    refine wl_nil ?_
    refine xw_next K3 ?_
    refine cw_true rfl ?_
    refine cw_seq (fun FK5 K5 => ?_)
    refine cw_region ?_
    refine wl_call (args := []) in_14 rfl rfl rfl ?_
    refine (works_ (tab.below (Nat.le_refl _) O0.old)).mono ?_
    rintro _ w6 ⟨rfl, hb7⟩
    have O8 : Own Z0 W w6 [] := O0.below hb7
    refine ⟨_, rfl, ?_⟩
    refine wl_val (v := .bool true) (fun ρ e => ex_assign (e _ _ rfl)) rfl rfl ?_
    refine wl_nil ?_
    refine xw_next K5 ?_
    refine cw_ret ?_
    refine xw_past (by intro h; cases h) ?_
    refine xw_ret (v := .bool true) (fun T hT => res1 rfl T _ (hT 6 _ rfl)) ?_
    exact ⟨rfl, O8.old⟩
  · skip
    refine wl_val (v := .bool false) (fun ρ e => ex_cmp (u := ((bs.length : Nat) : Int)) (v := 200) (e _ _ rfl) (e _ _ rfl) (gtr0 (by omega))) rfl rfl ?_
    refine wl_nil ?_
    refine xw_next K3 ?_
    refine cw_false rfl ?_
    refine cw_skip ?_
    refine xw_next K2 ?_
    refine cw_seq (fun FK9 K9 => ?_)
    refine cw_region ?_
    refine wl_val (v := .int .u8 (x : Int)) (fun ρ e => ex_move (e _ _ rfl)) rfl rfl ?_
    refine wl_val (v := .slice B bs.length bc) (fun ρ e => ex_move (e _ _ rfl)) rfl rfl ?_
    refine wl_call (args := [.int .u8 (x : Int), .slice B bs.length bc]) in_20 rfl rfl rfl ?_
    refine (grown_ (hB.move (fun k hk => (O0.old).block k (hD k hk))) (fun k hk => Nat.lt_of_lt_of_le (hD k hk) (O0.old).size) (by omega) hx).mono ?_
    rintro _ w15 ⟨T10, A13, c14, hgd11, hl12, rfl, h16⟩
    have O17 := O0.join1 h16 trivial
    have hpos := T10.size_pos
    have hsm := GoodT.small hgd11
    obtain ⟨g18, hg18⟩ := rowaddr (O17.row 0 rfl) hpos
    subst hg18
    refine ⟨_, rfl, ?_⟩
    refine wl_val (v := .slice (some ⟨g18, 0, none⟩) T10.size c14) (fun ρ e => ex_assign (e _ _ rfl)) rfl rfl ?_
    refine wl_nil ?_
    refine xw_next K9 ?_
    refine cw_seq (fun FK19 K19 => ?_)
    refine cw_seq (fun FK20 K20 => ?_)
    refine cw_region ?_
    refine wl_val (v := .slice (some ⟨g18, 0, none⟩) T10.size c14) (fun ρ e => ex_move (e _ _ rfl)) rfl rfl ?_
    refine wl_val (v := .int .i64 ((T10.size : Nat) : Int)) (fun ρ e => ex_len el23 (e _ _ rfl)) rfl rfl ?_
    refine wl_val (v := .bool false) (fun ρ e => ex_cmp (u := ((T10.size : Nat) : Int)) (v := 0) (e _ _ rfl) (e _ _ rfl) (eql0 (by omega))) rfl rfl ?_
    refine wl_nil ?_
    refine xw_next K20 ?_
    refine cw_false rfl ?_
    refine cw_skip ?_
    refine xw_next K19 ?_
    refine cw_seq (fun FK21 K21 => ?_)
    refine cw_region ?_
    refine wl_val (v := .int .u8 (y : Int)) (fun ρ e => ex_move (e _ _ rfl)) rfl rfl ?_
    refine wl_val (v := .int .i64 (y : Int)) (fun ρ e => ex_conv8 (e _ _ rfl) (by omega)) rfl rfl ?_
    refine wl_val (v := .slice (some ⟨g18, 0, none⟩) T10.size c14) (fun ρ e => ex_move (e _ _ rfl)) rfl rfl ?_
    refine wl_val (v := .int .i64 ((T10.size : Nat) : Int)) (fun ρ e => ex_len el23 (e _ _ rfl)) rfl rfl ?_
    obtain ⟨i, hi, li⟩ : ∃ q, y % T10.size = q ∧ q < T10.size := ⟨_, rfl, Nat.mod_lt _ (by omega)⟩
    refine wl_val (v := .int .i64 (i : Int)) (fun ρ e => ex_remg (a := y) (b := T10.size) (e _ _ rfl) (e _ _ rfl) (by omega) hi) rfl rfl ?_
    refine wl_val (v := .int .i64 (i : Int)) (fun ρ e => ex_assign (e _ _ rfl)) rfl rfl ?_
    refine wl_nil ?_
    refine xw_next K21 ?_
    refine cw_seq (fun FK22 K22 => ?_)
    refine cw_seq (fun FK23 K23 => ?_)
    refine cw_region ?_
    refine wl_val (v := .slice (some ⟨g18, 0, none⟩) T10.size c14) (fun ρ e => ex_move (e _ _ rfl)) rfl rfl ?_
    refine wl_val (v := .int .i64 (i : Int)) (fun ρ e => ex_move (e _ _ rfl)) rfl rfl ?_
    by_cases c24 : (tAt 1 T10 0 i).isSome = true
    · skip
      obtain ⟨U1, hU1⟩ := Option.isSome_iff_exists.1 c24
      have gU1 := tAt_good hgd11 hU1
      have sU1 := tAt_size hU1
      refine wl_call (args := [.slice (some ⟨g18, 0, none⟩) T10.size c14, .int .i64 (i : Int)]) in_32 rfl rfl rfl ?_
      have hc30 := rotr_ (NodesD.of_row (O17.row 0 rfl)) (fun k hk => (World.ownsRow.lt (O17.row 0 rfl) k hk).2) (i : Int)
      rw [show movOf (post T10 0) 1 (i : Int) = ((post U1 0), 0) from mov_some hgd11 (by omega) li hU1] at hc30
      refine hc30.mono ?_
      rintro _ w27 ⟨A25, c26, rfl, h28⟩
      have O29 := O17.join1 h28 trivial
      refine ⟨_, rfl, ?_⟩
      refine wl_val (v := .tuple #[.slice A25 ((post U1 0).length) c26, .int .i64 0]) (fun ρ e => ex_move (e _ _ rfl)) rfl rfl ?_
      refine wl_val (v := .slice A25 ((post U1 0).length) c26) (fun ρ e => ex_extract (vs := #[.slice A25 ((post U1 0).length) c26, .int .i64 0]) (e _ _ rfl) rfl) rfl rfl ?_
      refine wl_val (v := .int .i64 0) (fun ρ e => ex_extract (vs := #[.slice A25 ((post U1 0).length) c26, .int .i64 0]) (e _ _ rfl) rfl) rfl rfl ?_
      refine wl_val (v := .slice A25 ((post U1 0).length) c26) (fun ρ e => ex_assign (e _ _ rfl)) rfl rfl ?_
      refine wl_val (v := .int .i64 0) (fun ρ e => ex_assign (e _ _ rfl)) rfl rfl ?_
      refine wl_nil ?_
      refine xw_next K23 ?_
      refine cw_seq (fun FK31 K31 => ?_)
      refine cw_region ?_
      refine wl_val (v := .int .i64 0) (fun ρ e => ex_move (e _ _ rfl)) rfl rfl ?_
      refine wl_val (v := .bool true) (fun ρ e => ex_cmp (u := 0) (v := 0) (e _ _ rfl) (e _ _ rfl) (eql1 (by omega))) rfl rfl ?_
      refine wl_nil ?_
      refine xw_next K31 ?_
      refine cw_true rfl ?_
      refine cw_seq (fun FK32 K32 => ?_)
      refine cw_region ?_
      refine wl_val (v := .slice A25 ((post U1 0).length) c26) (fun ρ e => ex_move (e _ _ rfl)) rfl rfl ?_
      refine wl_val (v := .int .i64 (i : Int)) (fun ρ e => ex_move (e _ _ rfl)) rfl rfl ?_
      refine wl_call (args := [.slice A25 ((post U1 0).length) c26, .int .i64 (i : Int)]) in_33 rfl rfl rfl ?_
      have hc38 := rotl_ (NodesD.of_row (O29.row 0 rfl)) (fun k hk => (World.ownsRow.lt (O29.row 0 rfl) k hk).2) (i : Int)
      rw [show movOf (post U1 0) 2 (i : Int) = ((post T10 0), 0) from mov_some gU1 (by omega) (by omega) (tAt_back hU1)] at hc38
      refine hc38.mono ?_
      rintro _ w35 ⟨A33, c34, rfl, h36⟩
      have O37 := O29.join1 h36 trivial
      refine ⟨_, rfl, ?_⟩
      refine wl_val (v := .tuple #[.slice A33 ((post T10 0).length) c34, .int .i64 0]) (fun ρ e => ex_move (e _ _ rfl)) rfl rfl ?_
      refine wl_val (v := .slice A33 ((post T10 0).length) c34) (fun ρ e => ex_extract (vs := #[.slice A33 ((post T10 0).length) c34, .int .i64 0]) (e _ _ rfl) rfl) rfl rfl ?_
      refine wl_val (v := .int .i64 0) (fun ρ e => ex_extract (vs := #[.slice A33 ((post T10 0).length) c34, .int .i64 0]) (e _ _ rfl) rfl) rfl rfl ?_
      refine wl_val (v := .slice A33 ((post T10 0).length) c34) (fun ρ e => ex_assign (e _ _ rfl)) rfl rfl ?_
      refine wl_val (v := .int .i64 0) (fun ρ e => ex_assign (e _ _ rfl)) rfl rfl ?_
      refine wl_nil ?_
      refine xw_next K32 ?_
      refine cw_seq (fun FK39 K39 => ?_)
      refine cw_region ?_
      refine wl_val (v := .int .i64 0) (fun ρ e => ex_move (e _ _ rfl)) rfl rfl ?_
      refine wl_val (v := .bool false) (fun ρ e => ex_cmp (u := 0) (v := 0) (e _ _ rfl) (e _ _ rfl) (neq0 (by omega))) rfl rfl ?_
      refine wl_val (v := .bool false) (fun ρ e => ex_move (e _ _ rfl)) rfl rfl ?_
      refine wl_val (v := .slice A33 ((post T10 0).length) c34) (fun ρ e => ex_move (e _ _ rfl)) rfl rfl ?_
      refine wl_val (v := .slice (some ⟨g18, 0, none⟩) T10.size c14) (fun ρ e => ex_move (e _ _ rfl)) rfl rfl ?_
      refine wl_call (args := [.slice A33 ((post T10 0).length) c34, .slice (some ⟨g18, 0, none⟩) T10.size c14]) in_22 rfl rfl rfl ?_
      refine (lsame_ (NodesD.of_row (O37.row 0 rfl)) (fun k hk => (World.ownsRow.lt (O37.row 0 rfl) k hk).2) (NodesD.of_row (O37.row 2 rfl)) (fun k hk => (World.ownsRow.lt (O37.row 2 rfl) k hk).2)).mono ?_
      rintro _ w40 ⟨rfl, hb41⟩
      have O42 : Own Z0 W w40 [.row (.slice A33 ((post T10 0).length) c34) 38 3 ((post T10 0).length) (ncells (post T10 0)), .row (.slice A25 ((post U1 0).length) c26) 38 3 ((post U1 0).length) (ncells (post U1 0)), .row (.slice (some ⟨g18, 0, none⟩) T10.size c14) 38 3 T10.size (ncells (post T10 0))] := O37.below hb41
      refine ⟨_, rfl, ?_⟩
      refine wl_val (v := .bool false) (fun ρ e => ex_lnot (b := true) (e _ _ rfl)) rfl rfl ?_
      refine wl_val (v := .bool false) (fun ρ e => ex_pick0 (e _ _ rfl) (e _ _ rfl)) rfl rfl ?_
      refine wl_nil ?_
      refine xw_next K39 ?_
      refine cw_false rfl ?_
      refine cw_skip ?_
      refine xw_next K22 ?_
      refine cw_seq (fun FK43 K43 => ?_)
      refine cw_seq (fun FK44 K44 => ?_)
      refine cw_region ?_
      refine wl_val (v := .slice (some ⟨g18, 0, none⟩) T10.size c14) (fun ρ e => ex_move (e _ _ rfl)) rfl rfl ?_
      refine wl_val (v := .int .i64 (i : Int)) (fun ρ e => ex_move (e _ _ rfl)) rfl rfl ?_
      by_cases c45 : (tAt 2 T10 0 i).isSome = true
      · skip
        obtain ⟨U2, hU2⟩ := Option.isSome_iff_exists.1 c45
        have gU2 := tAt_good hgd11 hU2
        have sU2 := tAt_size hU2
        refine wl_call (args := [.slice (some ⟨g18, 0, none⟩) T10.size c14, .int .i64 (i : Int)]) in_33 rfl rfl rfl ?_
        have hc51 := rotl_ (NodesD.of_row (O42.row 2 rfl)) (fun k hk => (World.ownsRow.lt (O42.row 2 rfl) k hk).2) (i : Int)
        rw [show movOf (post T10 0) 2 (i : Int) = ((post U2 0), 0) from mov_some hgd11 (by omega) li hU2] at hc51
        refine hc51.mono ?_
        rintro _ w48 ⟨A46, c47, rfl, h49⟩
        have O50 := O42.join1 h49 trivial
        refine ⟨_, rfl, ?_⟩
        refine wl_val (v := .tuple #[.slice A46 ((post U2 0).length) c47, .int .i64 0]) (fun ρ e => ex_move (e _ _ rfl)) rfl rfl ?_
        refine wl_val (v := .slice A46 ((post U2 0).length) c47) (fun ρ e => ex_extract (vs := #[.slice A46 ((post U2 0).length) c47, .int .i64 0]) (e _ _ rfl) rfl) rfl rfl ?_
        refine wl_val (v := .int .i64 0) (fun ρ e => ex_extract (vs := #[.slice A46 ((post U2 0).length) c47, .int .i64 0]) (e _ _ rfl) rfl) rfl rfl ?_
        refine wl_val (v := .slice A46 ((post U2 0).length) c47) (fun ρ e => ex_assign (e _ _ rfl)) rfl rfl ?_
        refine wl_val (v := .int .i64 0) (fun ρ e => ex_assign (e _ _ rfl)) rfl rfl ?_
        refine wl_nil ?_
        refine xw_next K44 ?_
        refine cw_seq (fun FK52 K52 => ?_)
        refine cw_region ?_
        refine wl_val (v := .int .i64 0) (fun ρ e => ex_move (e _ _ rfl)) rfl rfl ?_
        refine wl_val (v := .bool true) (fun ρ e => ex_cmp (u := 0) (v := 0) (e _ _ rfl) (e _ _ rfl) (eql1 (by omega))) rfl rfl ?_
        refine wl_nil ?_
        refine xw_next K52 ?_
        refine cw_true rfl ?_
        refine cw_seq (fun FK53 K53 => ?_)
        refine cw_region ?_
        refine wl_val (v := .slice A46 ((post U2 0).length) c47) (fun ρ e => ex_move (e _ _ rfl)) rfl rfl ?_
        refine wl_val (v := .int .i64 (i : Int)) (fun ρ e => ex_move (e _ _ rfl)) rfl rfl ?_
        refine wl_call (args := [.slice A46 ((post U2 0).length) c47, .int .i64 (i : Int)]) in_32 rfl rfl rfl ?_
        have hc59 := rotr_ (NodesD.of_row (O50.row 0 rfl)) (fun k hk => (World.ownsRow.lt (O50.row 0 rfl) k hk).2) (i : Int)
        rw [show movOf (post U2 0) 1 (i : Int) = ((post T10 0), 0) from mov_some gU2 (by omega) (by omega) (tAt_back hU2)] at hc59
        refine hc59.mono ?_
        rintro _ w56 ⟨A54, c55, rfl, h57⟩
        have O58 := O50.join1 h57 trivial
        refine ⟨_, rfl, ?_⟩
        refine wl_val (v := .tuple #[.slice A54 ((post T10 0).length) c55, .int .i64 0]) (fun ρ e => ex_move (e _ _ rfl)) rfl rfl ?_
        refine wl_val (v := .slice A54 ((post T10 0).length) c55) (fun ρ e => ex_extract (vs := #[.slice A54 ((post T10 0).length) c55, .int .i64 0]) (e _ _ rfl) rfl) rfl rfl ?_
        refine wl_val (v := .int .i64 0) (fun ρ e => ex_extract (vs := #[.slice A54 ((post T10 0).length) c55, .int .i64 0]) (e _ _ rfl) rfl) rfl rfl ?_
        refine wl_val (v := .slice A54 ((post T10 0).length) c55) (fun ρ e => ex_assign (e _ _ rfl)) rfl rfl ?_
        refine wl_val (v := .int .i64 0) (fun ρ e => ex_assign (e _ _ rfl)) rfl rfl ?_
        refine wl_nil ?_
        refine xw_next K53 ?_
        refine cw_seq (fun FK60 K60 => ?_)
        refine cw_region ?_
        refine wl_val (v := .int .i64 0) (fun ρ e => ex_move (e _ _ rfl)) rfl rfl ?_
        refine wl_val (v := .bool false) (fun ρ e => ex_cmp (u := 0) (v := 0) (e _ _ rfl) (e _ _ rfl) (neq0 (by omega))) rfl rfl ?_
        refine wl_val (v := .bool false) (fun ρ e => ex_move (e _ _ rfl)) rfl rfl ?_
        refine wl_val (v := .slice A54 ((post T10 0).length) c55) (fun ρ e => ex_move (e _ _ rfl)) rfl rfl ?_
        refine wl_val (v := .slice (some ⟨g18, 0, none⟩) T10.size c14) (fun ρ e => ex_move (e _ _ rfl)) rfl rfl ?_
        refine wl_call (args := [.slice A54 ((post T10 0).length) c55, .slice (some ⟨g18, 0, none⟩) T10.size c14]) in_22 rfl rfl rfl ?_
        refine (lsame_ (NodesD.of_row (O58.row 0 rfl)) (fun k hk => (World.ownsRow.lt (O58.row 0 rfl) k hk).2) (NodesD.of_row (O58.row 4 rfl)) (fun k hk => (World.ownsRow.lt (O58.row 4 rfl) k hk).2)).mono ?_
        rintro _ w61 ⟨rfl, hb62⟩
        have O63 : Own Z0 W w61 [.row (.slice A54 ((post T10 0).length) c55) 38 3 ((post T10 0).length) (ncells (post T10 0)), .row (.slice A46 ((post U2 0).length) c47) 38 3 ((post U2 0).length) (ncells (post U2 0)), .row (.slice A33 ((post T10 0).length) c34) 38 3 ((post T10 0).length) (ncells (post T10 0)), .row (.slice A25 ((post U1 0).length) c26) 38 3 ((post U1 0).length) (ncells (post U1 0)), .row (.slice (some ⟨g18, 0, none⟩) T10.size c14) 38 3 T10.size (ncells (post T10 0))] := O58.below hb62
        refine ⟨_, rfl, ?_⟩
        refine wl_val (v := .bool false) (fun ρ e => ex_lnot (b := true) (e _ _ rfl)) rfl rfl ?_
        refine wl_val (v := .bool false) (fun ρ e => ex_pick0 (e _ _ rfl) (e _ _ rfl)) rfl rfl ?_
        refine wl_nil ?_
        refine xw_next K60 ?_
        refine cw_false rfl ?_
        refine cw_skip ?_
        refine xw_next K43 ?_
        refine cw_seq (fun FK64 K64 => ?_)
        refine cw_seq (fun FK65 K65 => ?_)
        refine cw_region ?_
        refine wl_val (v := .slice (some ⟨g18, 0, none⟩) T10.size c14) (fun ρ e => ex_move (e _ _ rfl)) rfl rfl ?_
        refine wl_val (v := .int .i64 (i : Int)) (fun ρ e => ex_move (e _ _ rfl)) rfl rfl ?_
        by_cases c66 : (tAt 3 T10 0 i).isSome = true
        · skip
          obtain ⟨U3, hU3⟩ := Option.isSome_iff_exists.1 c66
          have gU3 := tAt_good hgd11 hU3
          have sU3 := tAt_size hU3
          refine wl_call (args := [.slice (some ⟨g18, 0, none⟩) T10.size c14, .int .i64 (i : Int)]) in_34 rfl rfl rfl ?_
          have hc72 := swap_ (NodesD.of_row (O63.row 4 rfl)) (fun k hk => (World.ownsRow.lt (O63.row 4 rfl) k hk).2) (i : Int)
          rw [show movOf (post T10 0) 3 (i : Int) = ((post U3 0), 0) from mov_some hgd11 (by omega) li hU3] at hc72
          refine hc72.mono ?_
          rintro _ w69 ⟨A67, c68, rfl, h70⟩
          have O71 := O63.join1 h70 trivial
          refine ⟨_, rfl, ?_⟩
          refine wl_val (v := .tuple #[.slice A67 ((post U3 0).length) c68, .int .i64 0]) (fun ρ e => ex_move (e _ _ rfl)) rfl rfl ?_
          refine wl_val (v := .slice A67 ((post U3 0).length) c68) (fun ρ e => ex_extract (vs := #[.slice A67 ((post U3 0).length) c68, .int .i64 0]) (e _ _ rfl) rfl) rfl rfl ?_
          refine wl_val (v := .int .i64 0) (fun ρ e => ex_extract (vs := #[.slice A67 ((post U3 0).length) c68, .int .i64 0]) (e _ _ rfl) rfl) rfl rfl ?_
          refine wl_val (v := .slice A67 ((post U3 0).length) c68) (fun ρ e => ex_assign (e _ _ rfl)) rfl rfl ?_
          refine wl_val (v := .int .i64 0) (fun ρ e => ex_assign (e _ _ rfl)) rfl rfl ?_
          refine wl_nil ?_
          refine xw_next K65 ?_
          refine cw_seq (fun FK73 K73 => ?_)
          refine cw_region ?_
          refine wl_val (v := .int .i64 0) (fun ρ e => ex_move (e _ _ rfl)) rfl rfl ?_
          refine wl_val (v := .bool true) (fun ρ e => ex_cmp (u := 0) (v := 0) (e _ _ rfl) (e _ _ rfl) (eql1 (by omega))) rfl rfl ?_
          refine wl_nil ?_
          refine xw_next K73 ?_
          refine cw_true rfl ?_
          refine cw_seq (fun FK74 K74 => ?_)
          refine cw_region ?_
          refine wl_val (v := .slice A67 ((post U3 0).length) c68) (fun ρ e => ex_move (e _ _ rfl)) rfl rfl ?_
          refine wl_val (v := .int .i64 (i : Int)) (fun ρ e => ex_move (e _ _ rfl)) rfl rfl ?_
          refine wl_call (args := [.slice A67 ((post U3 0).length) c68, .int .i64 (i : Int)]) in_34 rfl rfl rfl ?_
          have hc80 := swap_ (NodesD.of_row (O71.row 0 rfl)) (fun k hk => (World.ownsRow.lt (O71.row 0 rfl) k hk).2) (i : Int)
          rw [show movOf (post U3 0) 3 (i : Int) = ((post T10 0), 0) from mov_some gU3 (by omega) (by omega) (tAt_back hU3)] at hc80
          refine hc80.mono ?_
          rintro _ w77 ⟨A75, c76, rfl, h78⟩
          have O79 := O71.join1 h78 trivial
          refine ⟨_, rfl, ?_⟩
          refine wl_val (v := .tuple #[.slice A75 ((post T10 0).length) c76, .int .i64 0]) (fun ρ e => ex_move (e _ _ rfl)) rfl rfl ?_
          refine wl_val (v := .slice A75 ((post T10 0).length) c76) (fun ρ e => ex_extract (vs := #[.slice A75 ((post T10 0).length) c76, .int .i64 0]) (e _ _ rfl) rfl) rfl rfl ?_
          refine wl_val (v := .int .i64 0) (fun ρ e => ex_extract (vs := #[.slice A75 ((post T10 0).length) c76, .int .i64 0]) (e _ _ rfl) rfl) rfl rfl ?_
          refine wl_val (v := .slice A75 ((post T10 0).length) c76) (fun ρ e => ex_assign (e _ _ rfl)) rfl rfl ?_
          refine wl_val (v := .int .i64 0) (fun ρ e => ex_assign (e _ _ rfl)) rfl rfl ?_
          refine wl_nil ?_
          refine xw_next K74 ?_
          refine cw_seq (fun FK81 K81 => ?_)
          refine cw_region ?_
          refine wl_val (v := .int .i64 0) (fun ρ e => ex_move (e _ _ rfl)) rfl rfl ?_
          refine wl_val (v := .bool false) (fun ρ e => ex_cmp (u := 0) (v := 0) (e _ _ rfl) (e _ _ rfl) (neq0 (by omega))) rfl rfl ?_
          refine wl_val (v := .bool false) (fun ρ e => ex_move (e _ _ rfl)) rfl rfl ?_
          refine wl_val (v := .slice A75 ((post T10 0).length) c76) (fun ρ e => ex_move (e _ _ rfl)) rfl rfl ?_
          refine wl_val (v := .slice (some ⟨g18, 0, none⟩) T10.size c14) (fun ρ e => ex_move (e _ _ rfl)) rfl rfl ?_
          refine wl_call (args := [.slice A75 ((post T10 0).length) c76, .slice (some ⟨g18, 0, none⟩) T10.size c14]) in_22 rfl rfl rfl ?_
          refine (lsame_ (NodesD.of_row (O79.row 0 rfl)) (fun k hk => (World.ownsRow.lt (O79.row 0 rfl) k hk).2) (NodesD.of_row (O79.row 6 rfl)) (fun k hk => (World.ownsRow.lt (O79.row 6 rfl) k hk).2)).mono ?_
          rintro _ w82 ⟨rfl, hb83⟩
          have O84 : Own Z0 W w82 [.row (.slice A75 ((post T10 0).length) c76) 38 3 ((post T10 0).length) (ncells (post T10 0)), .row (.slice A67 ((post U3 0).length) c68) 38 3 ((post U3 0).length) (ncells (post U3 0)), .row (.slice A54 ((post T10 0).length) c55) 38 3 ((post T10 0).length) (ncells (post T10 0)), .row (.slice A46 ((post U2 0).length) c47) 38 3 ((post U2 0).length) (ncells (post U2 0)), .row (.slice A33 ((post T10 0).length) c34) 38 3 ((post T10 0).length) (ncells (post T10 0)), .row (.slice A25 ((post U1 0).length) c26) 38 3 ((post U1 0).length) (ncells (post U1 0)), .row (.slice (some ⟨g18, 0, none⟩) T10.size c14) 38 3 T10.size (ncells (post T10 0))] := O79.below hb83
          refine ⟨_, rfl, ?_⟩
          refine wl_val (v := .bool false) (fun ρ e => ex_lnot (b := true) (e _ _ rfl)) rfl rfl ?_
          refine wl_val (v := .bool false) (fun ρ e => ex_pick0 (e _ _ rfl) (e _ _ rfl)) rfl rfl ?_
          refine wl_nil ?_
          refine xw_next K81 ?_
          refine cw_false rfl ?_
          refine cw_skip ?_
          refine xw_next K64 ?_
          refine cw_seq (fun FK85 K85 => ?_)
          refine cw_region ?_
          refine wl_call (args := []) in_14 rfl rfl rfl ?_
          refine (works_ (tab.below (Nat.le_refl _) O84.old)).mono ?_
          rintro _ w86 ⟨rfl, hb87⟩
          have O88 : Own Z0 W w86 [.row (.slice A75 ((post T10 0).length) c76) 38 3 ((post T10 0).length) (ncells (post T10 0)), .row (.slice A67 ((post U3 0).length) c68) 38 3 ((post U3 0).length) (ncells (post U3 0)), .row (.slice A54 ((post T10 0).length) c55) 38 3 ((post T10 0).length) (ncells (post T10 0)), .row (.slice A46 ((post U2 0).length) c47) 38 3 ((post U2 0).length) (ncells (post U2 0)), .row (.slice A33 ((post T10 0).length) c34) 38 3 ((post T10 0).length) (ncells (post T10 0)), .row (.slice A25 ((post U1 0).length) c26) 38 3 ((post U1 0).length) (ncells (post U1 0)), .row (.slice (some ⟨g18, 0, none⟩) T10.size c14) 38 3 T10.size (ncells (post T10 0))] := O84.below hb87
          refine ⟨_, rfl, ?_⟩
          refine wl_val (v := .bool true) (fun ρ e => ex_assign (e _ _ rfl)) rfl rfl ?_
          refine wl_nil ?_
          refine xw_next K85 ?_
          refine cw_ret ?_
          refine xw_ret (v := .bool true) (fun T hT => res1 rfl T _ (hT 6 _ rfl)) ?_
          exact ⟨rfl, O88.old⟩
        · skip
          have hU3 : tAt 3 T10 0 i = none := by simpa using c66
          refine wl_call (args := [.slice (some ⟨g18, 0, none⟩) T10.size c14, .int .i64 (i : Int)]) in_34 rfl rfl rfl ?_
          have hc94 := swap_ (NodesD.of_row (O63.row 4 rfl)) (fun k hk => (World.ownsRow.lt (O63.row 4 rfl) k hk).2) (i : Int)
          rw [show movOf (post T10 0) 3 (i : Int) = (([] : List VN), 1) from mov_none hgd11 (by omega) li hU3] at hc94
          refine hc94.mono ?_
          rintro _ w91 ⟨A89, c90, rfl, h92⟩
          have O93 := O63.join1 h92 trivial
          refine ⟨_, rfl, ?_⟩
          refine wl_val (v := .tuple #[.slice A89 (([] : List VN).length) c90, .int .i64 1]) (fun ρ e => ex_move (e _ _ rfl)) rfl rfl ?_
          refine wl_val (v := .slice A89 (([] : List VN).length) c90) (fun ρ e => ex_extract (vs := #[.slice A89 (([] : List VN).length) c90, .int .i64 1]) (e _ _ rfl) rfl) rfl rfl ?_
          refine wl_val (v := .int .i64 1) (fun ρ e => ex_extract (vs := #[.slice A89 (([] : List VN).length) c90, .int .i64 1]) (e _ _ rfl) rfl) rfl rfl ?_
          refine wl_val (v := .slice A89 (([] : List VN).length) c90) (fun ρ e => ex_assign (e _ _ rfl)) rfl rfl ?_
          refine wl_val (v := .int .i64 1) (fun ρ e => ex_assign (e _ _ rfl)) rfl rfl ?_
          refine wl_nil ?_
          refine xw_next K65 ?_
          refine cw_seq (fun FK95 K95 => ?_)
          refine cw_region ?_
          refine wl_val (v := .int .i64 1) (fun ρ e => ex_move (e _ _ rfl)) rfl rfl ?_
          refine wl_val (v := .bool false) (fun ρ e => ex_cmp (u := 1) (v := 0) (e _ _ rfl) (e _ _ rfl) (eql0 (by omega))) rfl rfl ?_
          refine wl_nil ?_
          refine xw_next K95 ?_
          refine cw_false rfl ?_
          refine cw_seq (fun FK96 K96 => ?_)
          refine cw_region ?_
          refine wl_val (v := .slice (some ⟨g18, 0, none⟩) T10.size c14) (fun ρ e => ex_move (e _ _ rfl)) rfl rfl ?_
          refine wl_val (v := .int .i64 (i : Int)) (fun ρ e => ex_move (e _ _ rfl)) rfl rfl ?_
          obtain ⟨v, hv, hv1, hv2⟩ := tAt_three T10 0 i hgd11.2 (Lies.all _) (Nat.zero_le _) (by omega) hU3
          refine wl_val (v := .pointer (some ⟨g18, i * 3, none⟩)) (fun ρ e => ex_idx (q := i * 3) (i := i) el23 (e _ _ rfl) (e _ _ rfl) (by omega) (by omega)) rfl rfl ?_
          refine wl_val (v := .pointer (some ⟨g18, i * 3 + 2, none⟩)) (fun ρ e => ex_field (q := i * 3 + 2) fi38_2 (e _ _ rfl) rfl) rfl rfl ?_
          refine wl_val (v := .int .i64 v) (fun ρ e => ex_load1 ty3 (e _ _ rfl) (rowcell (O93.row 5 rfl) (ncells_get hv).2.2)) rfl rfl ?_
          refine wl_val (v := .bool false) (fun ρ e => ex_cmp (u := v) (v := 0) (e _ _ rfl) (e _ _ rfl) (eql0 (by omega))) rfl rfl ?_
          refine wl_nil ?_
          refine xw_next K96 ?_
          refine cw_false rfl ?_
          refine cw_skip ?_
          refine xw_next K64 ?_
          refine cw_seq (fun FK97 K97 => ?_)
          refine cw_region ?_
          refine wl_call (args := []) in_14 rfl rfl rfl ?_
          refine (works_ (tab.below (Nat.le_refl _) O93.old)).mono ?_
          rintro _ w98 ⟨rfl, hb99⟩
          have O100 : Own Z0 W w98 [.row (.slice A89 (([] : List VN).length) c90) 38 3 (([] : List VN).length) (ncells ([] : List VN)), .row (.slice A54 ((post T10 0).length) c55) 38 3 ((post T10 0).length) (ncells (post T10 0)), .row (.slice A46 ((post U2 0).length) c47) 38 3 ((post U2 0).length) (ncells (post U2 0)), .row (.slice A33 ((post T10 0).length) c34) 38 3 ((post T10 0).length) (ncells (post T10 0)), .row (.slice A25 ((post U1 0).length) c26) 38 3 ((post U1 0).length) (ncells (post U1 0)), .row (.slice (some ⟨g18, 0, none⟩) T10.size c14) 38 3 T10.size (ncells (post T10 0))] := O93.below hb99
          refine ⟨_, rfl, ?_⟩
          refine wl_val (v := .bool true) (fun ρ e => ex_assign (e _ _ rfl)) rfl rfl ?_
          refine wl_nil ?_
          refine xw_next K97 ?_
          refine cw_ret ?_
          refine xw_ret (v := .bool true) (fun T hT => res1 rfl T _ (hT 6 _ rfl)) ?_
          exact ⟨rfl, O100.old⟩
      · skip
        have hU2 : tAt 2 T10 0 i = none := by simpa using c45
        refine wl_call (args := [.slice (some ⟨g18, 0, none⟩) T10.size c14, .int .i64 (i : Int)]) in_33 rfl rfl rfl ?_
        have hc106 := rotl_ (NodesD.of_row (O42.row 2 rfl)) (fun k hk => (World.ownsRow.lt (O42.row 2 rfl) k hk).2) (i : Int)
        rw [show movOf (post T10 0) 2 (i : Int) = (([] : List VN), 1) from mov_none hgd11 (by omega) li hU2] at hc106
        refine hc106.mono ?_
        rintro _ w103 ⟨A101, c102, rfl, h104⟩
        have O105 := O42.join1 h104 trivial
        refine ⟨_, rfl, ?_⟩
        refine wl_val (v := .tuple #[.slice A101 (([] : List VN).length) c102, .int .i64 1]) (fun ρ e => ex_move (e _ _ rfl)) rfl rfl ?_
        refine wl_val (v := .slice A101 (([] : List VN).length) c102) (fun ρ e => ex_extract (vs := #[.slice A101 (([] : List VN).length) c102, .int .i64 1]) (e _ _ rfl) rfl) rfl rfl ?_
        refine wl_val (v := .int .i64 1) (fun ρ e => ex_extract (vs := #[.slice A101 (([] : List VN).length) c102, .int .i64 1]) (e _ _ rfl) rfl) rfl rfl ?_
        refine wl_val (v := .slice A101 (([] : List VN).length) c102) (fun ρ e => ex_assign (e _ _ rfl)) rfl rfl ?_
        refine wl_val (v := .int .i64 1) (fun ρ e => ex_assign (e _ _ rfl)) rfl rfl ?_
        refine wl_nil ?_
        refine xw_next K44 ?_
        refine cw_seq (fun FK107 K107 => ?_)
        refine cw_region ?_
        refine wl_val (v := .int .i64 1) (fun ρ e => ex_move (e _ _ rfl)) rfl rfl ?_
        refine wl_val (v := .bool false) (fun ρ e => ex_cmp (u := 1) (v := 0) (e _ _ rfl) (e _ _ rfl) (eql0 (by omega))) rfl rfl ?_
        refine wl_nil ?_
        refine xw_next K107 ?_
        refine cw_false rfl ?_
        refine cw_skip ?_
        refine xw_next K43 ?_
        refine cw_seq (fun FK108 K108 => ?_)
        refine cw_seq (fun FK109 K109 => ?_)
        refine cw_region ?_
        refine wl_val (v := .slice (some ⟨g18, 0, none⟩) T10.size c14) (fun ρ e => ex_move (e _ _ rfl)) rfl rfl ?_
        refine wl_val (v := .int .i64 (i : Int)) (fun ρ e => ex_move (e _ _ rfl)) rfl rfl ?_
        by_cases c110 : (tAt 3 T10 0 i).isSome = true
        · skip
          obtain ⟨U3, hU3⟩ := Option.isSome_iff_exists.1 c110
          have gU3 := tAt_good hgd11 hU3
          have sU3 := tAt_size hU3
          refine wl_call (args := [.slice (some ⟨g18, 0, none⟩) T10.size c14, .int .i64 (i : Int)]) in_34 rfl rfl rfl ?_
          have hc116 := swap_ (NodesD.of_row (O105.row 3 rfl)) (fun k hk => (World.ownsRow.lt (O105.row 3 rfl) k hk).2) (i : Int)
          rw [show movOf (post T10 0) 3 (i : Int) = ((post U3 0), 0) from mov_some hgd11 (by omega) li hU3] at hc116
          refine hc116.mono ?_
          rintro _ w113 ⟨A111, c112, rfl, h114⟩
          have O115 := O105.join1 h114 trivial
          refine ⟨_, rfl, ?_⟩
          refine wl_val (v := .tuple #[.slice A111 ((post U3 0).length) c112, .int .i64 0]) (fun ρ e => ex_move (e _ _ rfl)) rfl rfl ?_
          refine wl_val (v := .slice A111 ((post U3 0).length) c112) (fun ρ e => ex_extract (vs := #[.slice A111 ((post U3 0).length) c112, .int .i64 0]) (e _ _ rfl) rfl) rfl rfl ?_
          refine wl_val (v := .int .i64 0) (fun ρ e => ex_extract (vs := #[.slice A111 ((post U3 0).length) c112, .int .i64 0]) (e _ _ rfl) rfl) rfl rfl ?_
          refine wl_val (v := .slice A111 ((post U3 0).length) c112) (fun ρ e => ex_assign (e _ _ rfl)) rfl rfl ?_
          refine wl_val (v := .int .i64 0) (fun ρ e => ex_assign (e _ _ rfl)) rfl rfl ?_
          refine wl_nil ?_
          refine xw_next K109 ?_
          refine cw_seq (fun FK117 K117 => ?_)
          refine cw_region ?_
          refine wl_val (v := .int .i64 0) (fun ρ e => ex_move (e _ _ rfl)) rfl rfl ?_
          refine wl_val (v := .bool true) (fun ρ e => ex_cmp (u := 0) (v := 0) (e _ _ rfl) (e _ _ rfl) (eql1 (by omega))) rfl rfl ?_
          refine wl_nil ?_
          refine xw_next K117 ?_
          refine cw_true rfl ?_
          refine cw_seq (fun FK118 K118 => ?_)
          refine cw_region ?_
          refine wl_val (v := .slice A111 ((post U3 0).length) c112) (fun ρ e => ex_move (e _ _ rfl)) rfl rfl ?_
          refine wl_val (v := .int .i64 (i : Int)) (fun ρ e => ex_move (e _ _ rfl)) rfl rfl ?_
          refine wl_call (args := [.slice A111 ((post U3 0).length) c112, .int .i64 (i : Int)]) in_34 rfl rfl rfl ?_
          have hc124 := swap_ (NodesD.of_row (O115.row 0 rfl)) (fun k hk => (World.ownsRow.lt (O115.row 0 rfl) k hk).2) (i : Int)
          rw [show movOf (post U3 0) 3 (i : Int) = ((post T10 0), 0) from mov_some gU3 (by omega) (by omega) (tAt_back hU3)] at hc124
          refine hc124.mono ?_
          rintro _ w121 ⟨A119, c120, rfl, h122⟩
          have O123 := O115.join1 h122 trivial
          refine ⟨_, rfl, ?_⟩
          refine wl_val (v := .tuple #[.slice A119 ((post T10 0).length) c120, .int .i64 0]) (fun ρ e => ex_move (e _ _ rfl)) rfl rfl ?_
          refine wl_val (v := .slice A119 ((post T10 0).length) c120) (fun ρ e => ex_extract (vs := #[.slice A119 ((post T10 0).length) c120, .int .i64 0]) (e _ _ rfl) rfl) rfl rfl ?_
          refine wl_val (v := .int .i64 0) (fun ρ e => ex_extract (vs := #[.slice A119 ((post T10 0).length) c120, .int .i64 0]) (e _ _ rfl) rfl) rfl rfl ?_
          refine wl_val (v := .slice A119 ((post T10 0).length) c120) (fun ρ e => ex_assign (e _ _ rfl)) rfl rfl ?_
          refine wl_val (v := .int .i64 0) (fun ρ e => ex_assign (e _ _ rfl)) rfl rfl ?_
          refine wl_nil ?_
          refine xw_next K118 ?_
          refine cw_seq (fun FK125 K125 => ?_)
          refine cw_region ?_
          refine wl_val (v := .int .i64 0) (fun ρ e => ex_move (e _ _ rfl)) rfl rfl ?_
          refine wl_val (v := .bool false) (fun ρ e => ex_cmp (u := 0) (v := 0) (e _ _ rfl) (e _ _ rfl) (neq0 (by omega))) rfl rfl ?_
          refine wl_val (v := .bool false) (fun ρ e => ex_move (e _ _ rfl)) rfl rfl ?_
          refine wl_val (v := .slice A119 ((post T10 0).length) c120) (fun ρ e => ex_move (e _ _ rfl)) rfl rfl ?_
          refine wl_val (v := .slice (some ⟨g18, 0, none⟩) T10.size c14) (fun ρ e => ex_move (e _ _ rfl)) rfl rfl ?_
          refine wl_call (args := [.slice A119 ((post T10 0).length) c120, .slice (some ⟨g18, 0, none⟩) T10.size c14]) in_22 rfl rfl rfl ?_
          refine (lsame_ (NodesD.of_row (O123.row 0 rfl)) (fun k hk => (World.ownsRow.lt (O123.row 0 rfl) k hk).2) (NodesD.of_row (O123.row 5 rfl)) (fun k hk => (World.ownsRow.lt (O123.row 5 rfl) k hk).2)).mono ?_
          rintro _ w126 ⟨rfl, hb127⟩
          have O128 : Own Z0 W w126 [.row (.slice A119 ((post T10 0).length) c120) 38 3 ((post T10 0).length) (ncells (post T10 0)), .row (.slice A111 ((post U3 0).length) c112) 38 3 ((post U3 0).length) (ncells (post U3 0)), .row (.slice A101 (([] : List VN).length) c102) 38 3 (([] : List VN).length) (ncells ([] : List VN)), .row (.slice A33 ((post T10 0).length) c34) 38 3 ((post T10 0).length) (ncells (post T10 0)), .row (.slice A25 ((post U1 0).length) c26) 38 3 ((post U1 0).length) (ncells (post U1 0)), .row (.slice (some ⟨g18, 0, none⟩) T10.size c14) 38 3 T10.size (ncells (post T10 0))] := O123.below hb127
          refine ⟨_, rfl, ?_⟩
          refine wl_val (v := .bool false) (fun ρ e => ex_lnot (b := true) (e _ _ rfl)) rfl rfl ?_
          refine wl_val (v := .bool false) (fun ρ e => ex_pick0 (e _ _ rfl) (e _ _ rfl)) rfl rfl ?_
          refine wl_nil ?_
          refine xw_next K125 ?_
          refine cw_false rfl ?_
          refine cw_skip ?_
          refine xw_next K108 ?_
          refine cw_seq (fun FK129 K129 => ?_)
          refine cw_region ?_
          refine wl_call (args := []) in_14 rfl rfl rfl ?_
          refine (works_ (tab.below (Nat.le_refl _) O128.old)).mono ?_
          rintro _ w130 ⟨rfl, hb131⟩
          have O132 : Own Z0 W w130 [.row (.slice A119 ((post T10 0).length) c120) 38 3 ((post T10 0).length) (ncells (post T10 0)), .row (.slice A111 ((post U3 0).length) c112) 38 3 ((post U3 0).length) (ncells (post U3 0)), .row (.slice A101 (([] : List VN).length) c102) 38 3 (([] : List VN).length) (ncells ([] : List VN)), .row (.slice A33 ((post T10 0).length) c34) 38 3 ((post T10 0).length) (ncells (post T10 0)), .row (.slice A25 ((post U1 0).length) c26) 38 3 ((post U1 0).length) (ncells (post U1 0)), .row (.slice (some ⟨g18, 0, none⟩) T10.size c14) 38 3 T10.size (ncells (post T10 0))] := O128.below hb131
          refine ⟨_, rfl, ?_⟩
          refine wl_val (v := .bool true) (fun ρ e => ex_assign (e _ _ rfl)) rfl rfl ?_
          refine wl_nil ?_
          refine xw_next K129 ?_
          refine cw_ret ?_
          refine xw_ret (v := .bool true) (fun T hT => res1 rfl T _ (hT 6 _ rfl)) ?_
          exact ⟨rfl, O132.old⟩
        · skip
          have hU3 : tAt 3 T10 0 i = none := by simpa using c110
          refine wl_call (args := [.slice (some ⟨g18, 0, none⟩) T10.size c14, .int .i64 (i : Int)]) in_34 rfl rfl rfl ?_
          have hc138 := swap_ (NodesD.of_row (O105.row 3 rfl)) (fun k hk => (World.ownsRow.lt (O105.row 3 rfl) k hk).2) (i : Int)
          rw [show movOf (post T10 0) 3 (i : Int) = (([] : List VN), 1) from mov_none hgd11 (by omega) li hU3] at hc138
          refine hc138.mono ?_
          rintro _ w135 ⟨A133, c134, rfl, h136⟩
          have O137 := O105.join1 h136 trivial
          refine ⟨_, rfl, ?_⟩
          refine wl_val (v := .tuple #[.slice A133 (([] : List VN).length) c134, .int .i64 1]) (fun ρ e => ex_move (e _ _ rfl)) rfl rfl ?_
          refine wl_val (v := .slice A133 (([] : List VN).length) c134) (fun ρ e => ex_extract (vs := #[.slice A133 (([] : List VN).length) c134, .int .i64 1]) (e _ _ rfl) rfl) rfl rfl ?_
          refine wl_val (v := .int .i64 1) (fun ρ e => ex_extract (vs := #[.slice A133 (([] : List VN).length) c134, .int .i64 1]) (e _ _ rfl) rfl) rfl rfl ?_
          refine wl_val (v := .slice A133 (([] : List VN).length) c134) (fun ρ e => ex_assign (e _ _ rfl)) rfl rfl ?_
          refine wl_val (v := .int .i64 1) (fun ρ e => ex_assign (e _ _ rfl)) rfl rfl ?_
          refine wl_nil ?_
          refine xw_next K109 ?_
          refine cw_seq (fun FK139 K139 => ?_)
          refine cw_region ?_
          refine wl_val (v := .int .i64 1) (fun ρ e => ex_move (e _ _ rfl)) rfl rfl ?_
          refine wl_val (v := .bool false) (fun ρ e => ex_cmp (u := 1) (v := 0) (e _ _ rfl) (e _ _ rfl) (eql0 (by omega))) rfl rfl ?_
          refine wl_nil ?_
          refine xw_next K139 ?_
          refine cw_false rfl ?_
          refine cw_seq (fun FK140 K140 => ?_)
          refine cw_region ?_
          refine wl_val (v := .slice (some ⟨g18, 0, none⟩) T10.size c14) (fun ρ e => ex_move (e _ _ rfl)) rfl rfl ?_
          refine wl_val (v := .int .i64 (i : Int)) (fun ρ e => ex_move (e _ _ rfl)) rfl rfl ?_
          obtain ⟨v, hv, hv1, hv2⟩ := tAt_three T10 0 i hgd11.2 (Lies.all _) (Nat.zero_le _) (by omega) hU3
          refine wl_val (v := .pointer (some ⟨g18, i * 3, none⟩)) (fun ρ e => ex_idx (q := i * 3) (i := i) el23 (e _ _ rfl) (e _ _ rfl) (by omega) (by omega)) rfl rfl ?_
          refine wl_val (v := .pointer (some ⟨g18, i * 3 + 2, none⟩)) (fun ρ e => ex_field (q := i * 3 + 2) fi38_2 (e _ _ rfl) rfl) rfl rfl ?_
          refine wl_val (v := .int .i64 v) (fun ρ e => ex_load1 ty3 (e _ _ rfl) (rowcell (O137.row 4 rfl) (ncells_get hv).2.2)) rfl rfl ?_
          refine wl_val (v := .bool false) (fun ρ e => ex_cmp (u := v) (v := 0) (e _ _ rfl) (e _ _ rfl) (eql0 (by omega))) rfl rfl ?_
          refine wl_nil ?_
          refine xw_next K140 ?_
          refine cw_false rfl ?_
          refine cw_skip ?_
          refine xw_next K108 ?_
          refine cw_seq (fun FK141 K141 => ?_)
          refine cw_region ?_
          refine wl_call (args := []) in_14 rfl rfl rfl ?_
          refine (works_ (tab.below (Nat.le_refl _) O137.old)).mono ?_
          rintro _ w142 ⟨rfl, hb143⟩
          have O144 : Own Z0 W w142 [.row (.slice A133 (([] : List VN).length) c134) 38 3 (([] : List VN).length) (ncells ([] : List VN)), .row (.slice A101 (([] : List VN).length) c102) 38 3 (([] : List VN).length) (ncells ([] : List VN)), .row (.slice A33 ((post T10 0).length) c34) 38 3 ((post T10 0).length) (ncells (post T10 0)), .row (.slice A25 ((post U1 0).length) c26) 38 3 ((post U1 0).length) (ncells (post U1 0)), .row (.slice (some ⟨g18, 0, none⟩) T10.size c14) 38 3 T10.size (ncells (post T10 0))] := O137.below hb143
          refine ⟨_, rfl, ?_⟩
          refine wl_val (v := .bool true) (fun ρ e => ex_assign (e _ _ rfl)) rfl rfl ?_
          refine wl_nil ?_
          refine xw_next K141 ?_
          refine cw_ret ?_
          refine xw_ret (v := .bool true) (fun T hT => res1 rfl T _ (hT 6 _ rfl)) ?_
          exact ⟨rfl, O144.old⟩
    · skip
      have hU1 : tAt 1 T10 0 i = none := by simpa using c24
      refine wl_call (args := [.slice (some ⟨g18, 0, none⟩) T10.size c14, .int .i64 (i : Int)]) in_32 rfl rfl rfl ?_
      have hc150 := rotr_ (NodesD.of_row (O17.row 0 rfl)) (fun k hk => (World.ownsRow.lt (O17.row 0 rfl) k hk).2) (i : Int)
      rw [show movOf (post T10 0) 1 (i : Int) = (([] : List VN), 1) from mov_none hgd11 (by omega) li hU1] at hc150
      refine hc150.mono ?_
      rintro _ w147 ⟨A145, c146, rfl, h148⟩
      have O149 := O17.join1 h148 trivial
      refine ⟨_, rfl, ?_⟩
      refine wl_val (v := .tuple #[.slice A145 (([] : List VN).length) c146, .int .i64 1]) (fun ρ e => ex_move (e _ _ rfl)) rfl rfl ?_
      refine wl_val (v := .slice A145 (([] : List VN).length) c146) (fun ρ e => ex_extract (vs := #[.slice A145 (([] : List VN).length) c146, .int .i64 1]) (e _ _ rfl) rfl) rfl rfl ?_
      refine wl_val (v := .int .i64 1) (fun ρ e => ex_extract (vs := #[.slice A145 (([] : List VN).length) c146, .int .i64 1]) (e _ _ rfl) rfl) rfl rfl ?_
      refine wl_val (v := .slice A145 (([] : List VN).length) c146) (fun ρ e => ex_assign (e _ _ rfl)) rfl rfl ?_
      refine wl_val (v := .int .i64 1) (fun ρ e => ex_assign (e _ _ rfl)) rfl rfl ?_
      refine wl_nil ?_
      refine xw_next K23 ?_
      refine cw_seq (fun FK151 K151 => ?_)
      refine cw_region ?_
      refine wl_val (v := .int .i64 1) (fun ρ e => ex_move (e _ _ rfl)) rfl rfl ?_
      refine wl_val (v := .bool false) (fun ρ e => ex_cmp (u := 1) (v := 0) (e _ _ rfl) (e _ _ rfl) (eql0 (by omega))) rfl rfl ?_
      refine wl_nil ?_
      refine xw_next K151 ?_
      refine cw_false rfl ?_
      refine cw_skip ?_
      refine xw_next K22 ?_
      refine cw_seq (fun FK152 K152 => ?_)
      refine cw_seq (fun FK153 K153 => ?_)
      refine cw_region ?_
      refine wl_val (v := .slice (some ⟨g18, 0, none⟩) T10.size c14) (fun ρ e => ex_move (e _ _ rfl)) rfl rfl ?_
      refine wl_val (v := .int .i64 (i : Int)) (fun ρ e => ex_move (e _ _ rfl)) rfl rfl ?_
      by_cases c154 : (tAt 2 T10 0 i).isSome = true
      · skip
        obtain ⟨U2, hU2⟩ := Option.isSome_iff_exists.1 c154
        have gU2 := tAt_good hgd11 hU2
        have sU2 := tAt_size hU2
        refine wl_call (args := [.slice (some ⟨g18, 0, none⟩) T10.size c14, .int .i64 (i : Int)]) in_33 rfl rfl rfl ?_
        have hc160 := rotl_ (NodesD.of_row (O149.row 1 rfl)) (fun k hk => (World.ownsRow.lt (O149.row 1 rfl) k hk).2) (i : Int)
        rw [show movOf (post T10 0) 2 (i : Int) = ((post U2 0), 0) from mov_some hgd11 (by omega) li hU2] at hc160
        refine hc160.mono ?_
        rintro _ w157 ⟨A155, c156, rfl, h158⟩
        have O159 := O149.join1 h158 trivial
        refine ⟨_, rfl, ?_⟩
        refine wl_val (v := .tuple #[.slice A155 ((post U2 0).length) c156, .int .i64 0]) (fun ρ e => ex_move (e _ _ rfl)) rfl rfl ?_
        refine wl_val (v := .slice A155 ((post U2 0).length) c156) (fun ρ e => ex_extract (vs := #[.slice A155 ((post U2 0).length) c156, .int .i64 0]) (e _ _ rfl) rfl) rfl rfl ?_
        refine wl_val (v := .int .i64 0) (fun ρ e => ex_extract (vs := #[.slice A155 ((post U2 0).length) c156, .int .i64 0]) (e _ _ rfl) rfl) rfl rfl ?_
        refine wl_val (v := .slice A155 ((post U2 0).length) c156) (fun ρ e => ex_assign (e _ _ rfl)) rfl rfl ?_
        refine wl_val (v := .int .i64 0) (fun ρ e => ex_assign (e _ _ rfl)) rfl rfl ?_
        refine wl_nil ?_
        refine xw_next K153 ?_
        refine cw_seq (fun FK161 K161 => ?_)
        refine cw_region ?_
        refine wl_val (v := .int .i64 0) (fun ρ e => ex_move (e _ _ rfl)) rfl rfl ?_
        refine wl_val (v := .bool true) (fun ρ e => ex_cmp (u := 0) (v := 0) (e _ _ rfl) (e _ _ rfl) (eql1 (by omega))) rfl rfl ?_
        refine wl_nil ?_
        refine xw_next K161 ?_
        refine cw_true rfl ?_
        refine cw_seq (fun FK162 K162 => ?_)
        refine cw_region ?_
        refine wl_val (v := .slice A155 ((post U2 0).length) c156) (fun ρ e => ex_move (e _ _ rfl)) rfl rfl ?_
        refine wl_val (v := .int .i64 (i : Int)) (fun ρ e => ex_move (e _ _ rfl)) rfl rfl ?_
        refine wl_call (args := [.slice A155 ((post U2 0).length) c156, .int .i64 (i : Int)]) in_32 rfl rfl rfl ?_
        have hc168 := rotr_ (NodesD.of_row (O159.row 0 rfl)) (fun k hk => (World.ownsRow.lt (O159.row 0 rfl) k hk).2) (i : Int)
        rw [show movOf (post U2 0) 1 (i : Int) = ((post T10 0), 0) from mov_some gU2 (by omega) (by omega) (tAt_back hU2)] at hc168
        refine hc168.mono ?_
        rintro _ w165 ⟨A163, c164, rfl, h166⟩
        have O167 := O159.join1 h166 trivial
        refine ⟨_, rfl, ?_⟩
        refine wl_val (v := .tuple #[.slice A163 ((post T10 0).length) c164, .int .i64 0]) (fun ρ e => ex_move (e _ _ rfl)) rfl rfl ?_
        refine wl_val (v := .slice A163 ((post T10 0).length) c164) (fun ρ e => ex_extract (vs := #[.slice A163 ((post T10 0).length) c164, .int .i64 0]) (e _ _ rfl) rfl) rfl rfl ?_
        refine wl_val (v := .int .i64 0) (fun ρ e => ex_extract (vs := #[.slice A163 ((post T10 0).length) c164, .int .i64 0]) (e _ _ rfl) rfl) rfl rfl ?_
        refine wl_val (v := .slice A163 ((post T10 0).length) c164) (fun ρ e => ex_assign (e _ _ rfl)) rfl rfl ?_
        refine wl_val (v := .int .i64 0) (fun ρ e => ex_assign (e _ _ rfl)) rfl rfl ?_
        refine wl_nil ?_
        refine xw_next K162 ?_
        refine cw_seq (fun FK169 K169 => ?_)
        refine cw_region ?_
        refine wl_val (v := .int .i64 0) (fun ρ e => ex_move (e _ _ rfl)) rfl rfl ?_
        refine wl_val (v := .bool false) (fun ρ e => ex_cmp (u := 0) (v := 0) (e _ _ rfl) (e _ _ rfl) (neq0 (by omega))) rfl rfl ?_
        refine wl_val (v := .bool false) (fun ρ e => ex_move (e _ _ rfl)) rfl rfl ?_
        refine wl_val (v := .slice A163 ((post T10 0).length) c164) (fun ρ e => ex_move (e _ _ rfl)) rfl rfl ?_
        refine wl_val (v := .slice (some ⟨g18, 0, none⟩) T10.size c14) (fun ρ e => ex_move (e _ _ rfl)) rfl rfl ?_
        refine wl_call (args := [.slice A163 ((post T10 0).length) c164, .slice (some ⟨g18, 0, none⟩) T10.size c14]) in_22 rfl rfl rfl ?_
        refine (lsame_ (NodesD.of_row (O167.row 0 rfl)) (fun k hk => (World.ownsRow.lt (O167.row 0 rfl) k hk).2) (NodesD.of_row (O167.row 3 rfl)) (fun k hk => (World.ownsRow.lt (O167.row 3 rfl) k hk).2)).mono ?_
        rintro _ w170 ⟨rfl, hb171⟩
        have O172 : Own Z0 W w170 [.row (.slice A163 ((post T10 0).length) c164) 38 3 ((post T10 0).length) (ncells (post T10 0)), .row (.slice A155 ((post U2 0).length) c156) 38 3 ((post U2 0).length) (ncells (post U2 0)), .row (.slice A145 (([] : List VN).length) c146) 38 3 (([] : List VN).length) (ncells ([] : List VN)), .row (.slice (some ⟨g18, 0, none⟩) T10.size c14) 38 3 T10.size (ncells (post T10 0))] := O167.below hb171
        refine ⟨_, rfl, ?_⟩
        refine wl_val (v := .bool false) (fun ρ e => ex_lnot (b := true) (e _ _ rfl)) rfl rfl ?_
        refine wl_val (v := .bool false) (fun ρ e => ex_pick0 (e _ _ rfl) (e _ _ rfl)) rfl rfl ?_
        refine wl_nil ?_
        refine xw_next K169 ?_
        refine cw_false rfl ?_
        refine cw_skip ?_
        refine xw_next K152 ?_
        refine cw_seq (fun FK173 K173 => ?_)
        refine cw_seq (fun FK174 K174 => ?_)
        refine cw_region ?_
        refine wl_val (v := .slice (some ⟨g18, 0, none⟩) T10.size c14) (fun ρ e => ex_move (e _ _ rfl)) rfl rfl ?_
        refine wl_val (v := .int .i64 (i : Int)) (fun ρ e => ex_move (e _ _ rfl)) rfl rfl ?_
        by_cases c175 : (tAt 3 T10 0 i).isSome = true
        · skip
          obtain ⟨U3, hU3⟩ := Option.isSome_iff_exists.1 c175
          have gU3 := tAt_good hgd11 hU3
          have sU3 := tAt_size hU3
          refine wl_call (args := [.slice (some ⟨g18, 0, none⟩) T10.size c14, .int .i64 (i : Int)]) in_34 rfl rfl rfl ?_
          have hc181 := swap_ (NodesD.of_row (O172.row 3 rfl)) (fun k hk => (World.ownsRow.lt (O172.row 3 rfl) k hk).2) (i : Int)
          rw [show movOf (post T10 0) 3 (i : Int) = ((post U3 0), 0) from mov_some hgd11 (by omega) li hU3] at hc181
          refine hc181.mono ?_
          rintro _ w178 ⟨A176, c177, rfl, h179⟩
          have O180 := O172.join1 h179 trivial
          refine ⟨_, rfl, ?_⟩
          refine wl_val (v := .tuple #[.slice A176 ((post U3 0).length) c177, .int .i64 0]) (fun ρ e => ex_move (e _ _ rfl)) rfl rfl ?_
          refine wl_val (v := .slice A176 ((post U3 0).length) c177) (fun ρ e => ex_extract (vs := #[.slice A176 ((post U3 0).length) c177, .int .i64 0]) (e _ _ rfl) rfl) rfl rfl ?_
          refine wl_val (v := .int .i64 0) (fun ρ e => ex_extract (vs := #[.slice A176 ((post U3 0).length) c177, .int .i64 0]) (e _ _ rfl) rfl) rfl rfl ?_
          refine wl_val (v := .slice A176 ((post U3 0).length) c177) (fun ρ e => ex_assign (e _ _ rfl)) rfl rfl ?_
          refine wl_val (v := .int .i64 0) (fun ρ e => ex_assign (e _ _ rfl)) rfl rfl ?_
          refine wl_nil ?_
          refine xw_next K174 ?_
          refine cw_seq (fun FK182 K182 => ?_)
          refine cw_region ?_
          refine wl_val (v := .int .i64 0) (fun ρ e => ex_move (e _ _ rfl)) rfl rfl ?_
          refine wl_val (v := .bool true) (fun ρ e => ex_cmp (u := 0) (v := 0) (e _ _ rfl) (e _ _ rfl) (eql1 (by omega))) rfl rfl ?_
          refine wl_nil ?_
          refine xw_next K182 ?_
          refine cw_true rfl ?_
          refine cw_seq (fun FK183 K183 => ?_)
          refine cw_region ?_
          refine wl_val (v := .slice A176 ((post U3 0).length) c177) (fun ρ e => ex_move (e _ _ rfl)) rfl rfl ?_
          refine wl_val (v := .int .i64 (i : Int)) (fun ρ e => ex_move (e _ _ rfl)) rfl rfl ?_
          refine wl_call (args := [.slice A176 ((post U3 0).length) c177, .int .i64 (i : Int)]) in_34 rfl rfl rfl ?_
          have hc189 := swap_ (NodesD.of_row (O180.row 0 rfl)) (fun k hk => (World.ownsRow.lt (O180.row 0 rfl) k hk).2) (i : Int)
          rw [show movOf (post U3 0) 3 (i : Int) = ((post T10 0), 0) from mov_some gU3 (by omega) (by omega) (tAt_back hU3)] at hc189
          refine hc189.mono ?_
          rintro _ w186 ⟨A184, c185, rfl, h187⟩
          have O188 := O180.join1 h187 trivial
          refine ⟨_, rfl, ?_⟩
          refine wl_val (v := .tuple #[.slice A184 ((post T10 0).length) c185, .int .i64 0]) (fun ρ e => ex_move (e _ _ rfl)) rfl rfl ?_
          refine wl_val (v := .slice A184 ((post T10 0).length) c185) (fun ρ e => ex_extract (vs := #[.slice A184 ((post T10 0).length) c185, .int .i64 0]) (e _ _ rfl) rfl) rfl rfl ?_
          refine wl_val (v := .int .i64 0) (fun ρ e => ex_extract (vs := #[.slice A184 ((post T10 0).length) c185, .int .i64 0]) (e _ _ rfl) rfl) rfl rfl ?_
          refine wl_val (v := .slice A184 ((post T10 0).length) c185) (fun ρ e => ex_assign (e _ _ rfl)) rfl rfl ?_
          refine wl_val (v := .int .i64 0) (fun ρ e => ex_assign (e _ _ rfl)) rfl rfl ?_
          refine wl_nil ?_
          refine xw_next K183 ?_
          refine cw_seq (fun FK190 K190 => ?_)
          refine cw_region ?_
          refine wl_val (v := .int .i64 0) (fun ρ e => ex_move (e _ _ rfl)) rfl rfl ?_
          refine wl_val (v := .bool false) (fun ρ e => ex_cmp (u := 0) (v := 0) (e _ _ rfl) (e _ _ rfl) (neq0 (by omega))) rfl rfl ?_
          refine wl_val (v := .bool false) (fun ρ e => ex_move (e _ _ rfl)) rfl rfl ?_
          refine wl_val (v := .slice A184 ((post T10 0).length) c185) (fun ρ e => ex_move (e _ _ rfl)) rfl rfl ?_
          refine wl_val (v := .slice (some ⟨g18, 0, none⟩) T10.size c14) (fun ρ e => ex_move (e _ _ rfl)) rfl rfl ?_
          refine wl_call (args := [.slice A184 ((post T10 0).length) c185, .slice (some ⟨g18, 0, none⟩) T10.size c14]) in_22 rfl rfl rfl ?_
          refine (lsame_ (NodesD.of_row (O188.row 0 rfl)) (fun k hk => (World.ownsRow.lt (O188.row 0 rfl) k hk).2) (NodesD.of_row (O188.row 5 rfl)) (fun k hk => (World.ownsRow.lt (O188.row 5 rfl) k hk).2)).mono ?_
          rintro _ w191 ⟨rfl, hb192⟩
          have O193 : Own Z0 W w191 [.row (.slice A184 ((post T10 0).length) c185) 38 3 ((post T10 0).length) (ncells (post T10 0)), .row (.slice A176 ((post U3 0).length) c177) 38 3 ((post U3 0).length) (ncells (post U3 0)), .row (.slice A163 ((post T10 0).length) c164) 38 3 ((post T10 0).length) (ncells (post T10 0)), .row (.slice A155 ((post U2 0).length) c156) 38 3 ((post U2 0).length) (ncells (post U2 0)), .row (.slice A145 (([] : List VN).length) c146) 38 3 (([] : List VN).length) (ncells ([] : List VN)), .row (.slice (some ⟨g18, 0, none⟩) T10.size c14) 38 3 T10.size (ncells (post T10 0))] := O188.below hb192
          refine ⟨_, rfl, ?_⟩
          refine wl_val (v := .bool false) (fun ρ e => ex_lnot (b := true) (e _ _ rfl)) rfl rfl ?_
          refine wl_val (v := .bool false) (fun ρ e => ex_pick0 (e _ _ rfl) (e _ _ rfl)) rfl rfl ?_
          refine wl_nil ?_
          refine xw_next K190 ?_
          refine cw_false rfl ?_
          refine cw_skip ?_
          refine xw_next K173 ?_
          refine cw_seq (fun FK194 K194 => ?_)
          refine cw_region ?_
          refine wl_call (args := []) in_14 rfl rfl rfl ?_
          refine (works_ (tab.below (Nat.le_refl _) O193.old)).mono ?_
          rintro _ w195 ⟨rfl, hb196⟩
          have O197 : Own Z0 W w195 [.row (.slice A184 ((post T10 0).length) c185) 38 3 ((post T10 0).length) (ncells (post T10 0)), .row (.slice A176 ((post U3 0).length) c177) 38 3 ((post U3 0).length) (ncells (post U3 0)), .row (.slice A163 ((post T10 0).length) c164) 38 3 ((post T10 0).length) (ncells (post T10 0)), .row (.slice A155 ((post U2 0).length) c156) 38 3 ((post U2 0).length) (ncells (post U2 0)), .row (.slice A145 (([] : List VN).length) c146) 38 3 (([] : List VN).length) (ncells ([] : List VN)), .row (.slice (some ⟨g18, 0, none⟩) T10.size c14) 38 3 T10.size (ncells (post T10 0))] := O193.below hb196
          refine ⟨_, rfl, ?_⟩
          refine wl_val (v := .bool true) (fun ρ e => ex_assign (e _ _ rfl)) rfl rfl ?_
          refine wl_nil ?_
          refine xw_next K194 ?_
          refine cw_ret ?_
          refine xw_ret (v := .bool true) (fun T hT => res1 rfl T _ (hT 6 _ rfl)) ?_
          exact ⟨rfl, O197.old⟩
        · skip
          have hU3 : tAt 3 T10 0 i = none := by simpa using c175
          refine wl_call (args := [.slice (some ⟨g18, 0, none⟩) T10.size c14, .int .i64 (i : Int)]) in_34 rfl rfl rfl ?_
          have hc203 := swap_ (NodesD.of_row (O172.row 3 rfl)) (fun k hk => (World.ownsRow.lt (O172.row 3 rfl) k hk).2) (i : Int)
          rw [show movOf (post T10 0) 3 (i : Int) = (([] : List VN), 1) from mov_none hgd11 (by omega) li hU3] at hc203
          refine hc203.mono ?_
          rintro _ w200 ⟨A198, c199, rfl, h201⟩
          have O202 := O172.join1 h201 trivial
          refine ⟨_, rfl, ?_⟩
          refine wl_val (v := .tuple #[.slice A198 (([] : List VN).length) c199, .int .i64 1]) (fun ρ e => ex_move (e _ _ rfl)) rfl rfl ?_
          refine wl_val (v := .slice A198 (([] : List VN).length) c199) (fun ρ e => ex_extract (vs := #[.slice A198 (([] : List VN).length) c199, .int .i64 1]) (e _ _ rfl) rfl) rfl rfl ?_
          refine wl_val (v := .int .i64 1) (fun ρ e => ex_extract (vs := #[.slice A198 (([] : List VN).length) c199, .int .i64 1]) (e _ _ rfl) rfl) rfl rfl ?_
          refine wl_val (v := .slice A198 (([] : List VN).length) c199) (fun ρ e => ex_assign (e _ _ rfl)) rfl rfl ?_
          refine wl_val (v := .int .i64 1) (fun ρ e => ex_assign (e _ _ rfl)) rfl rfl ?_
          refine wl_nil ?_
          refine xw_next K174 ?_
          refine cw_seq (fun FK204 K204 => ?_)
          refine cw_region ?_
          refine wl_val (v := .int .i64 1) (fun ρ e => ex_move (e _ _ rfl)) rfl rfl ?_
          refine wl_val (v := .bool false) (fun ρ e => ex_cmp (u := 1) (v := 0) (e _ _ rfl) (e _ _ rfl) (eql0 (by omega))) rfl rfl ?_
          refine wl_nil ?_
          refine xw_next K204 ?_
          refine cw_false rfl ?_
          refine cw_seq (fun FK205 K205 => ?_)
          refine cw_region ?_
          refine wl_val (v := .slice (some ⟨g18, 0, none⟩) T10.size c14) (fun ρ e => ex_move (e _ _ rfl)) rfl rfl ?_
          refine wl_val (v := .int .i64 (i : Int)) (fun ρ e => ex_move (e _ _ rfl)) rfl rfl ?_
          obtain ⟨v, hv, hv1, hv2⟩ := tAt_three T10 0 i hgd11.2 (Lies.all _) (Nat.zero_le _) (by omega) hU3
          refine wl_val (v := .pointer (some ⟨g18, i * 3, none⟩)) (fun ρ e => ex_idx (q := i * 3) (i := i) el23 (e _ _ rfl) (e _ _ rfl) (by omega) (by omega)) rfl rfl ?_
          refine wl_val (v := .pointer (some ⟨g18, i * 3 + 2, none⟩)) (fun ρ e => ex_field (q := i * 3 + 2) fi38_2 (e _ _ rfl) rfl) rfl rfl ?_
          refine wl_val (v := .int .i64 v) (fun ρ e => ex_load1 ty3 (e _ _ rfl) (rowcell (O202.row 4 rfl) (ncells_get hv).2.2)) rfl rfl ?_
          refine wl_val (v := .bool false) (fun ρ e => ex_cmp (u := v) (v := 0) (e _ _ rfl) (e _ _ rfl) (eql0 (by omega))) rfl rfl ?_
          refine wl_nil ?_
          refine xw_next K205 ?_
          refine cw_false rfl ?_
          refine cw_skip ?_
          refine xw_next K173 ?_
          refine cw_seq (fun FK206 K206 => ?_)
          refine cw_region ?_
          refine wl_call (args := []) in_14 rfl rfl rfl ?_
          refine (works_ (tab.below (Nat.le_refl _) O202.old)).mono ?_
          rintro _ w207 ⟨rfl, hb208⟩
          have O209 : Own Z0 W w207 [.row (.slice A198 (([] : List VN).length) c199) 38 3 (([] : List VN).length) (ncells ([] : List VN)), .row (.slice A163 ((post T10 0).length) c164) 38 3 ((post T10 0).length) (ncells (post T10 0)), .row (.slice A155 ((post U2 0).length) c156) 38 3 ((post U2 0).length) (ncells (post U2 0)), .row (.slice A145 (([] : List VN).length) c146) 38 3 (([] : List VN).length) (ncells ([] : List VN)), .row (.slice (some ⟨g18, 0, none⟩) T10.size c14) 38 3 T10.size (ncells (post T10 0))] := O202.below hb208
          refine ⟨_, rfl, ?_⟩
          refine wl_val (v := .bool true) (fun ρ e => ex_assign (e _ _ rfl)) rfl rfl ?_
          refine wl_nil ?_
          refine xw_next K206 ?_
          refine cw_ret ?_
          refine xw_ret (v := .bool true) (fun T hT => res1 rfl T _ (hT 6 _ rfl)) ?_
          exact ⟨rfl, O209.old⟩
      · skip
        have hU2 : tAt 2 T10 0 i = none := by simpa using c154
        refine wl_call (args := [.slice (some ⟨g18, 0, none⟩) T10.size c14, .int .i64 (i : Int)]) in_33 rfl rfl rfl ?_
        have hc215 := rotl_ (NodesD.of_row (O149.row 1 rfl)) (fun k hk => (World.ownsRow.lt (O149.row 1 rfl) k hk).2) (i : Int)
        rw [show movOf (post T10 0) 2 (i : Int) = (([] : List VN), 1) from mov_none hgd11 (by omega) li hU2] at hc215
        refine hc215.mono ?_
        rintro _ w212 ⟨A210, c211, rfl, h213⟩
        have O214 := O149.join1 h213 trivial
        refine ⟨_, rfl, ?_⟩
        refine wl_val (v := .tuple #[.slice A210 (([] : List VN).length) c211, .int .i64 1]) (fun ρ e => ex_move (e _ _ rfl)) rfl rfl ?_
        refine wl_val (v := .slice A210 (([] : List VN).length) c211) (fun ρ e => ex_extract (vs := #[.slice A210 (([] : List VN).length) c211, .int .i64 1]) (e _ _ rfl) rfl) rfl rfl ?_
        refine wl_val (v := .int .i64 1) (fun ρ e => ex_extract (vs := #[.slice A210 (([] : List VN).length) c211, .int .i64 1]) (e _ _ rfl) rfl) rfl rfl ?_
        refine wl_val (v := .slice A210 (([] : List VN).length) c211) (fun ρ e => ex_assign (e _ _ rfl)) rfl rfl ?_
        refine wl_val (v := .int .i64 1) (fun ρ e => ex_assign (e _ _ rfl)) rfl rfl ?_
        refine wl_nil ?_
        refine xw_next K153 ?_
        refine cw_seq (fun FK216 K216 => ?_)
        refine cw_region ?_
        refine wl_val (v := .int .i64 1) (fun ρ e => ex_move (e _ _ rfl)) rfl rfl ?_
        refine wl_val (v := .bool false) (fun ρ e => ex_cmp (u := 1) (v := 0) (e _ _ rfl) (e _ _ rfl) (eql0 (by omega))) rfl rfl ?_
        refine wl_nil ?_
        refine xw_next K216 ?_
        refine cw_false rfl ?_
        refine cw_skip ?_
        refine xw_next K152 ?_
        refine cw_seq (fun FK217 K217 => ?_)
        refine cw_seq (fun FK218 K218 => ?_)
        refine cw_region ?_
        refine wl_val (v := .slice (some ⟨g18, 0, none⟩) T10.size c14) (fun ρ e => ex_move (e _ _ rfl)) rfl rfl ?_
        refine wl_val (v := .int .i64 (i : Int)) (fun ρ e => ex_move (e _ _ rfl)) rfl rfl ?_
        by_cases c219 : (tAt 3 T10 0 i).isSome = true
        · skip
          obtain ⟨U3, hU3⟩ := Option.isSome_iff_exists.1 c219
          have gU3 := tAt_good hgd11 hU3
          have sU3 := tAt_size hU3
          refine wl_call (args := [.slice (some ⟨g18, 0, none⟩) T10.size c14, .int .i64 (i : Int)]) in_34 rfl rfl rfl ?_
          have hc225 := swap_ (NodesD.of_row (O214.row 2 rfl)) (fun k hk => (World.ownsRow.lt (O214.row 2 rfl) k hk).2) (i : Int)
          rw [show movOf (post T10 0) 3 (i : Int) = ((post U3 0), 0) from mov_some hgd11 (by omega) li hU3] at hc225
          refine hc225.mono ?_
          rintro _ w222 ⟨A220, c221, rfl, h223⟩
          have O224 := O214.join1 h223 trivial
          refine ⟨_, rfl, ?_⟩
          refine wl_val (v := .tuple #[.slice A220 ((post U3 0).length) c221, .int .i64 0]) (fun ρ e => ex_move (e _ _ rfl)) rfl rfl ?_
          refine wl_val (v := .slice A220 ((post U3 0).length) c221) (fun ρ e => ex_extract (vs := #[.slice A220 ((post U3 0).length) c221, .int .i64 0]) (e _ _ rfl) rfl) rfl rfl ?_
          refine wl_val (v := .int .i64 0) (fun ρ e => ex_extract (vs := #[.slice A220 ((post U3 0).length) c221, .int .i64 0]) (e _ _ rfl) rfl) rfl rfl ?_
          refine wl_val (v := .slice A220 ((post U3 0).length) c221) (fun ρ e => ex_assign (e _ _ rfl)) rfl rfl ?_
          refine wl_val (v := .int .i64 0) (fun ρ e => ex_assign (e _ _ rfl)) rfl rfl ?_
          refine wl_nil ?_
          refine xw_next K218 ?_
          refine cw_seq (fun FK226 K226 => ?_)
          refine cw_region ?_
          refine wl_val (v := .int .i64 0) (fun ρ e => ex_move (e _ _ rfl)) rfl rfl ?_
          refine wl_val (v := .bool true) (fun ρ e => ex_cmp (u := 0) (v := 0) (e _ _ rfl) (e _ _ rfl) (eql1 (by omega))) rfl rfl ?_
          refine wl_nil ?_
          refine xw_next K226 ?_
          refine cw_true rfl ?_
          refine cw_seq (fun FK227 K227 => ?_)
          refine cw_region ?_
          refine wl_val (v := .slice A220 ((post U3 0).length) c221) (fun ρ e => ex_move (e _ _ rfl)) rfl rfl ?_
          refine wl_val (v := .int .i64 (i : Int)) (fun ρ e => ex_move (e _ _ rfl)) rfl rfl ?_
          refine wl_call (args := [.slice A220 ((post U3 0).length) c221, .int .i64 (i : Int)]) in_34 rfl rfl rfl ?_
          have hc233 := swap_ (NodesD.of_row (O224.row 0 rfl)) (fun k hk => (World.ownsRow.lt (O224.row 0 rfl) k hk).2) (i : Int)
          rw [show movOf (post U3 0) 3 (i : Int) = ((post T10 0), 0) from mov_some gU3 (by omega) (by omega) (tAt_back hU3)] at hc233
          refine hc233.mono ?_
          rintro _ w230 ⟨A228, c229, rfl, h231⟩
          have O232 := O224.join1 h231 trivial
          refine ⟨_, rfl, ?_⟩
          refine wl_val (v := .tuple #[.slice A228 ((post T10 0).length) c229, .int .i64 0]) (fun ρ e => ex_move (e _ _ rfl)) rfl rfl ?_
          refine wl_val (v := .slice A228 ((post T10 0).length) c229) (fun ρ e => ex_extract (vs := #[.slice A228 ((post T10 0).length) c229, .int .i64 0]) (e _ _ rfl) rfl) rfl rfl ?_
          refine wl_val (v := .int .i64 0) (fun ρ e => ex_extract (vs := #[.slice A228 ((post T10 0).length) c229, .int .i64 0]) (e _ _ rfl) rfl) rfl rfl ?_
          refine wl_val (v := .slice A228 ((post T10 0).length) c229) (fun ρ e => ex_assign (e _ _ rfl)) rfl rfl ?_
          refine wl_val (v := .int .i64 0) (fun ρ e => ex_assign (e _ _ rfl)) rfl rfl ?_
          refine wl_nil ?_
          refine xw_next K227 ?_
          refine cw_seq (fun FK234 K234 => ?_)
          refine cw_region ?_
          refine wl_val (v := .int .i64 0) (fun ρ e => ex_move (e _ _ rfl)) rfl rfl ?_
          refine wl_val (v := .bool false) (fun ρ e => ex_cmp (u := 0) (v := 0) (e _ _ rfl) (e _ _ rfl) (neq0 (by omega))) rfl rfl ?_
          refine wl_val (v := .bool false) (fun ρ e => ex_move (e _ _ rfl)) rfl rfl ?_
          refine wl_val (v := .slice A228 ((post T10 0).length) c229) (fun ρ e => ex_move (e _ _ rfl)) rfl rfl ?_
          refine wl_val (v := .slice (some ⟨g18, 0, none⟩) T10.size c14) (fun ρ e => ex_move (e _ _ rfl)) rfl rfl ?_
          refine wl_call (args := [.slice A228 ((post T10 0).length) c229, .slice (some ⟨g18, 0, none⟩) T10.size c14]) in_22 rfl rfl rfl ?_
          refine (lsame_ (NodesD.of_row (O232.row 0 rfl)) (fun k hk => (World.ownsRow.lt (O232.row 0 rfl) k hk).2) (NodesD.of_row (O232.row 4 rfl)) (fun k hk => (World.ownsRow.lt (O232.row 4 rfl) k hk).2)).mono ?_
          rintro _ w235 ⟨rfl, hb236⟩
          have O237 : Own Z0 W w235 [.row (.slice A228 ((post T10 0).length) c229) 38 3 ((post T10 0).length) (ncells (post T10 0)), .row (.slice A220 ((post U3 0).length) c221) 38 3 ((post U3 0).length) (ncells (post U3 0)), .row (.slice A210 (([] : List VN).length) c211) 38 3 (([] : List VN).length) (ncells ([] : List VN)), .row (.slice A145 (([] : List VN).length) c146) 38 3 (([] : List VN).length) (ncells ([] : List VN)), .row (.slice (some ⟨g18, 0, none⟩) T10.size c14) 38 3 T10.size (ncells (post T10 0))] := O232.below hb236
          refine ⟨_, rfl, ?_⟩
          refine wl_val (v := .bool false) (fun ρ e => ex_lnot (b := true) (e _ _ rfl)) rfl rfl ?_
          refine wl_val (v := .bool false) (fun ρ e => ex_pick0 (e _ _ rfl) (e _ _ rfl)) rfl rfl ?_
          refine wl_nil ?_
          refine xw_next K234 ?_
          refine cw_false rfl ?_
          refine cw_skip ?_
          refine xw_next K217 ?_
          refine cw_seq (fun FK238 K238 => ?_)
          refine cw_region ?_
          refine wl_call (args := []) in_14 rfl rfl rfl ?_
          refine (works_ (tab.below (Nat.le_refl _) O237.old)).mono ?_
          rintro _ w239 ⟨rfl, hb240⟩
          have O241 : Own Z0 W w239 [.row (.slice A228 ((post T10 0).length) c229) 38 3 ((post T10 0).length) (ncells (post T10 0)), .row (.slice A220 ((post U3 0).length) c221) 38 3 ((post U3 0).length) (ncells (post U3 0)), .row (.slice A210 (([] : List VN).length) c211) 38 3 (([] : List VN).length) (ncells ([] : List VN)), .row (.slice A145 (([] : List VN).length) c146) 38 3 (([] : List VN).length) (ncells ([] : List VN)), .row (.slice (some ⟨g18, 0, none⟩) T10.size c14) 38 3 T10.size (ncells (post T10 0))] := O237.below hb240
          refine ⟨_, rfl, ?_⟩
          refine wl_val (v := .bool true) (fun ρ e => ex_assign (e _ _ rfl)) rfl rfl ?_
          refine wl_nil ?_
          refine xw_next K238 ?_
          refine cw_ret ?_
          refine xw_ret (v := .bool true) (fun T hT => res1 rfl T _ (hT 6 _ rfl)) ?_
          exact ⟨rfl, O241.old⟩
        · skip
          have hU3 : tAt 3 T10 0 i = none := by simpa using c219
          refine wl_call (args := [.slice (some ⟨g18, 0, none⟩) T10.size c14, .int .i64 (i : Int)]) in_34 rfl rfl rfl ?_
          have hc247 := swap_ (NodesD.of_row (O214.row 2 rfl)) (fun k hk => (World.ownsRow.lt (O214.row 2 rfl) k hk).2) (i : Int)
          rw [show movOf (post T10 0) 3 (i : Int) = (([] : List VN), 1) from mov_none hgd11 (by omega) li hU3] at hc247
          refine hc247.mono ?_
          rintro _ w244 ⟨A242, c243, rfl, h245⟩
          have O246 := O214.join1 h245 trivial
          refine ⟨_, rfl, ?_⟩
          refine wl_val (v := .tuple #[.slice A242 (([] : List VN).length) c243, .int .i64 1]) (fun ρ e => ex_move (e _ _ rfl)) rfl rfl ?_
          refine wl_val (v := .slice A242 (([] : List VN).length) c243) (fun ρ e => ex_extract (vs := #[.slice A242 (([] : List VN).length) c243, .int .i64 1]) (e _ _ rfl) rfl) rfl rfl ?_
          refine wl_val (v := .int .i64 1) (fun ρ e => ex_extract (vs := #[.slice A242 (([] : List VN).length) c243, .int .i64 1]) (e _ _ rfl) rfl) rfl rfl ?_
          refine wl_val (v := .slice A242 (([] : List VN).length) c243) (fun ρ e => ex_assign (e _ _ rfl)) rfl rfl ?_
          refine wl_val (v := .int .i64 1) (fun ρ e => ex_assign (e _ _ rfl)) rfl rfl ?_
          refine wl_nil ?_
          refine xw_next K218 ?_
          refine cw_seq (fun FK248 K248 => ?_)
          refine cw_region ?_
          refine wl_val (v := .int .i64 1) (fun ρ e => ex_move (e _ _ rfl)) rfl rfl ?_
          refine wl_val (v := .bool false) (fun ρ e => ex_cmp (u := 1) (v := 0) (e _ _ rfl) (e _ _ rfl) (eql0 (by omega))) rfl rfl ?_
          refine wl_nil ?_
          refine xw_next K248 ?_
          refine cw_false rfl ?_
          refine cw_seq (fun FK249 K249 => ?_)
          refine cw_region ?_
          refine wl_val (v := .slice (some ⟨g18, 0, none⟩) T10.size c14) (fun ρ e => ex_move (e _ _ rfl)) rfl rfl ?_
          refine wl_val (v := .int .i64 (i : Int)) (fun ρ e => ex_move (e _ _ rfl)) rfl rfl ?_
          obtain ⟨v, hv, hv1, hv2⟩ := tAt_three T10 0 i hgd11.2 (Lies.all _) (Nat.zero_le _) (by omega) hU3
          refine wl_val (v := .pointer (some ⟨g18, i * 3, none⟩)) (fun ρ e => ex_idx (q := i * 3) (i := i) el23 (e _ _ rfl) (e _ _ rfl) (by omega) (by omega)) rfl rfl ?_
          refine wl_val (v := .pointer (some ⟨g18, i * 3 + 2, none⟩)) (fun ρ e => ex_field (q := i * 3 + 2) fi38_2 (e _ _ rfl) rfl) rfl rfl ?_
          refine wl_val (v := .int .i64 v) (fun ρ e => ex_load1 ty3 (e _ _ rfl) (rowcell (O246.row 3 rfl) (ncells_get hv).2.2)) rfl rfl ?_
          refine wl_val (v := .bool false) (fun ρ e => ex_cmp (u := v) (v := 0) (e _ _ rfl) (e _ _ rfl) (eql0 (by omega))) rfl rfl ?_
          refine wl_nil ?_
          refine xw_next K249 ?_
          refine cw_false rfl ?_
          refine cw_skip ?_
          refine xw_next K217 ?_
          refine cw_seq (fun FK250 K250 => ?_)
          refine cw_region ?_
          refine wl_call (args := []) in_14 rfl rfl rfl ?_
          refine (works_ (tab.below (Nat.le_refl _) O246.old)).mono ?_
          rintro _ w251 ⟨rfl, hb252⟩
          have O253 : Own Z0 W w251 [.row (.slice A242 (([] : List VN).length) c243) 38 3 (([] : List VN).length) (ncells ([] : List VN)), .row (.slice A210 (([] : List VN).length) c211) 38 3 (([] : List VN).length) (ncells ([] : List VN)), .row (.slice A145 (([] : List VN).length) c146) 38 3 (([] : List VN).length) (ncells ([] : List VN)), .row (.slice (some ⟨g18, 0, none⟩) T10.size c14) 38 3 T10.size (ncells (post T10 0))] := O246.below hb252
          refine ⟨_, rfl, ?_⟩
          refine wl_val (v := .bool true) (fun ρ e => ex_assign (e _ _ rfl)) rfl rfl ?_
          refine wl_nil ?_
          refine xw_next K250 ?_
          refine cw_ret ?_
          refine xw_ret (v := .bool true) (fun T hT => res1 rfl T _ (hT 6 _ rfl)) ?_
          exact ⟨rfl, O253.old⟩
theorem vtreeBack_ok {W : World} {V : Value} {bs : List Nat} (hB : BytesD (fun k => k < W.heap.size) W V bs) {x0 x2 : Int} (hx0 : (Lit.int .u8 x0).wf = true) (hx2 : (Lit.int .u8 x2).wf = true) (tab : Tab W) : Calls Tryd.prog 9 #[.int .u8 x0, V, .int .u8 x2] W fun e w' => e = .returned (.bool true) ∧ Below W.heap.size W w' := vtreeBack_at hB (fun _ h => h) hx0 hx2 tab

end Go.Proofs.YtpeoodkepjhhiaaDoor
