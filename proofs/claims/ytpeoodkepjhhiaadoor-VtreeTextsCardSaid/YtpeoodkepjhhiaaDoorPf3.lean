/-
  Lemmas and contracts, joined: Vparse Vpost Vmove Vmk.
-/
import Derived.Test.YtpeoodkepjhhiaaDoorPf2
import Derived.Test.YtpeoodkepjhhiaaDoorPf1
namespace Go.Proofs.YtpeoodkepjhhiaaDoor
open Go Go.RowKit
section
variable {ρ : Operand → Value} {d : Option Tmp} {x y z : Operand} {t T : TypeId} {pos0 : String} {aft : Array Edge} {gd : Option (Nat × Bool)} {w : World}
theorem ex_strIdx {s : ByteArray} {i : Nat} {c : UInt8} (hx : ρ x = .string s) (hy : ρ y = .int .i64 ((i : Nat) : Int)) (hc : s.data.toList[i]? = some c) : (execOp ρ ⟨d, .index 9 x y, t, pos0, aft, gd⟩).run Tryd.prog w = .ok (.value (.int .u8 (c.toNat : Int))) w := by
  have h : s[i]? = some c := by
    have h2 : s.data[i]? = some c := by simpa using hc
    obtain ⟨hl, h3⟩ := Array.getElem?_eq_some_iff.1 h2
    rw [getElem?_pos s i hl]
    exact congrArg some h3
  simp [execOp, Instr.index, asIntOf, run_underlying Tryd.underlying9, hx, hy, h]
theorem ex_conv21 {u : Int} (hx : ρ x = .int .i32 u) (h0 : -2147483648 ≤ u) (h1 : u ≤ 2147483647) : (execOp ρ ⟨d, .convert 21 3 x, t, pos0, aft, gd⟩).run Tryd.prog w = .ok (.value (.int .i64 u)) w := by
  have h : IntKind.i64.wrap u = u := wrap_in (by omega) (by omega)
  simp [go_sem, hx, h]
theorem wrap32 {u : Int} (h0 : -2147483648 ≤ u) (h1 : u ≤ 2147483647) : IntKind.i32.wrap u = u := by
  rw [IntKind.wrap_i32]; omega
theorem ex_slice3 {e sz n c h : Nat} {b o : Nat} (hT : ElB T e sz) (hx : ρ x = .slice (some ⟨b, o, none⟩) n c) (hy : ρ y = .int .i64 (h : Int)) (hz : ρ z = .int .i64 (h : Int)) (hh : h ≤ c) : (execOp ρ ⟨d, .slice T x none (some y) (some z), t, pos0, aft, gd⟩).run Tryd.prog w = .ok (.value (.slice (some ⟨b, o, none⟩) h h)) w := by
  simp [execOp, Instr.sliceAt, Instr.slice, run_underlying hT.elem, hx, hy, hz, Instr.sliceBounds, Instr.sliceBound, asIntOf, hh, run_size hT.size, addr_plus]
theorem ex_eqS {a b : ByteArray} {r : Bool} (hx : ρ x = .string a) (hy : ρ y = .string b) (hr : decide (a = b) = r) : (execOp ρ ⟨d, .binOp .eql 9 x y 9, t, pos0, aft, gd⟩).run Tryd.prog w = .ok (.value (.bool r)) w := by
  subst hr
  have e := (beq_toListBytes a b).symm.trans (ba_beq a b)
  simp [go_sem, hx, hy, e]
theorem ex_neS {a b : ByteArray} {r : Bool} (hx : ρ x = .string a) (hy : ρ y = .string b) (hr : (!decide (a = b)) = r) : (execOp ρ ⟨d, .binOp .neq 9 x y 9, t, pos0, aft, gd⟩).run Tryd.prog w = .ok (.value (.bool r)) w := by
  subst hr
  have e := (beq_toListBytes a b).symm.trans (ba_beq a b)
  simp [go_sem, hx, hy, e]
theorem ex_nextend {s : ByteArray} {g pos : Nat} (h : w.heap[g]? = some (.stringIter s pos)) (hp : ¬ pos < s.size) (hx : ρ x = .pointer (some ⟨g, 0, none⟩)) : (execOp ρ ⟨d, .next x true, t, pos0, aft, gd⟩).run Tryd.prog w = .ok (.value (.tuple #[.bool false])) w := by
  have := Lib.run_next_end_at (P := Tryd.prog) w g s pos t h hp
  simp only [execOp, hx, Sem.run_bind, this, Result.andThen_ok, Sem.run_pure]
end
section
variable {Z : Bool → Nat → Prop} {w0 w : World} {L : List En}
theorem own_range (hO : Own Z w0 w L) (s : ByteArray) : ∃ g w', (∀ (ρ : Operand → Value) x d t pos aft gd, ρ x = .string s → (execOp ρ ⟨d, .range 9 x, t, pos, aft, gd⟩).run Tryd.prog w = .ok (.value (.pointer (some ⟨g, 0, none⟩))) w') ∧ Own Z w0 w' (.iter g s 0 :: L) := by
  refine ⟨w.heap.size, w.alloc (.stringIter s 0), fun ρ x d t pos aft gd hx => ?_, hO.add ((Below.refl _ _).alloc (Nat.le_refl _) _) (e := .iter w.heap.size s 0) (heap_alloc_new w _) (fun k q => Nat.le_of_eq q.symm)⟩
  simp [execOp, Instr.range, run_underlying Tryd.underlying9, hx]
theorem own_nextN {s : ByteArray} {g pos : Nat} (hO : Own Z w0 w (.iter g s pos :: L)) (h : pos < s.size) : ∃ w', (∀ (ρ : Operand → Value) x d t p aft gd, ρ x = .pointer (some ⟨g, 0, none⟩) → (execOp ρ ⟨d, .next x true, t, p, aft, gd⟩).run Tryd.prog w = .ok (.value (.tuple #[.bool true, .int .i64 (pos : Int), .int .i32 ((Utf8.decode s pos).1 : Int)])) w') ∧ Own Z w0 w' (.iter g s (pos + (Utf8.decode s pos).2) :: L) := by
  have hk := hO.iter 0 rfl
  refine ⟨w.iterAt g s (pos + (Utf8.decode s pos).2), fun ρ x d t p aft gd hx => ?_, hO.one (T := fun k => k = g) (e := .iter g s pos) (e' := .iter g s (pos + (Utf8.decode s pos).2)) ⟨rfl, rfl, rfl, Nat.le_of_eq (Lib.iterAt_size _ _ _ _).symm, fun k _ hk' => Lib.iterAt_other _ _ _ _ _ hk'⟩ trivial (fun _ _ q => q) (Lib.iterAt_heap _ _ _ _ _ hk) (fun _ q => .inl q)⟩
  have := Lib.run_next_any_at (P := Tryd.prog) w g s pos t hk h
  simp only [execOp, hx, Sem.run_bind, this, Result.andThen_ok, Sem.run_pure]
theorem byte_at {s : ByteArray} {i : Nat} {c : UInt8} (hc : s.data.toList[i]? = some c) : ∃ h : i < s.size, s[i]'h = c := by
  have h2 : s.data[i]? = some c := by simpa using hc
  obtain ⟨hl, h3⟩ := Array.getElem?_eq_some_iff.1 h2
  exact ⟨hl, h3⟩
theorem own_next1 {s : ByteArray} {g pos : Nat} {c : UInt8} (hO : Own Z w0 w (.iter g s pos :: L)) (hc : s.data.toList[pos]? = some c) (ha : c.toNat < 128) : ∃ w', (∀ (ρ : Operand → Value) x d t p aft gd, ρ x = .pointer (some ⟨g, 0, none⟩) → (execOp ρ ⟨d, .next x true, t, p, aft, gd⟩).run Tryd.prog w = .ok (.value (.tuple #[.bool true, .int .i64 (pos : Int), .int .i32 (c.toNat : Int)])) w') ∧ Own Z w0 w' (.iter g s (pos + 1) :: L) := by
  obtain ⟨h, he⟩ := byte_at hc
  have hd := decode_ascii s pos h (by rw [he]; exact ha)
  obtain ⟨w', h1, h2⟩ := own_nextN hO h
  rw [hd] at h1 h2
  simp only [he] at h1
  exact ⟨w', h1, h2⟩
theorem decode_hi {s : ByteArray} {i : Nat} {c : UInt8} (hc : s.data.toList[i]? = some c) (h : 128 ≤ c.toNat) : 128 ≤ (Utf8.decode s i).1 ∧ (Utf8.decode s i).1 ≤ 2147483647 := by
  obtain ⟨hl, he⟩ := byte_at hc
  exact ⟨(decode_high s i hl (by rw [he]; exact h)).1, decode_le s i⟩
/-- Append to a slice that is cut to its length: a new row. -/
theorem own_appcut {g n c k gy : Nat} {l : List Int} {y : Int} (hO : Own Z w0 w (.row (.slice (some ⟨g, 0, none⟩) n c) 3 1 n (intCs l) :: .blk gy 3 #[.int .i64 y] :: L)) (hk : k ≤ l.length) (hk2 : k ≤ 1000000) :
    ∃ A c' w', (∀ (ρ : Operand → Value) x z d t pos aft gd, ρ x = .slice (some ⟨g, 0, none⟩) k k → ρ z = .slice (some ⟨gy, 0, none⟩) 1 1 → (execOp ρ ⟨d, .call ⟨.builtin .append, #[x, z], #[36, 36]⟩, t, pos, aft, gd⟩).run Tryd.prog w = .ok (.value (.slice A (k + 1) c')) w') ∧
      Own Z w0 w' (.row (.slice A (k + 1) c') 3 1 (k + 1) (intCs (l.take k ++ [y])) :: .blk gy 3 #[.int .i64 y] :: L) := by
  obtain ⟨i, hi, hz, hsz, hb⟩ := info_parts ap36.info
  have hr := hO.row 0 rfl
  have hy := hO.blk 1 rfl
  have run : ∀ ty, (Builtin.append_ #[36, 36] ty #[.slice (some ⟨g, 0, none⟩) k k, .slice (some ⟨gy, 0, none⟩) 1 1]).run Tryd.prog w = _ := fun ty => run_append_grow (P := Tryd.prog) (w := w) (ty := ty) 36 3 i (.int .i64 0) ap36.under hi hz ⟨g, 0, none⟩ k k (intCs (l.take k)) (by rw [hsz]; simp [intCs]; omega) (fun j u hu => by
      rw [addr_plus, Nat.zero_add]
      refine rowcell hr ?_
      simp only [intCs, List.getElem?_map] at hu ⊢
      by_cases hj : j < k
      · rw [List.getElem?_take_of_lt hj] at hu; exact hu
      · rw [List.getElem?_eq_none (by rw [List.length_take]; omega)] at hu; cases hu) ⟨gy, 0, none⟩ 1 1 [.int .i64 y] (by rw [hsz]; rfl) (fun j u hu => by
      rw [addr_plus, Nat.zero_add, hy.cell j]
      simpa using hu) (by omega) (by omega) (by rw [hb]; exact growslice_fits (by omega) (by omega))
  have hge := grownCap_ge w (k + 1) k 3
  have hcm : grownCap w (k + 1) k 3 ≤ maxLen := grownCap_le_maxLen w (k + 1) k 3 (by unfold maxLen; omega)
  have hl1 : (intCs (l.take k)).length = k := by simp [intCs]; omega
  have hlen : (intCs (l.take k ++ [y])).length = (k + 1) * 1 := by simp [intCs]; omega
  have he : intCs (l.take k ++ [y]) = intCs (l.take k) ++ [.int .i64 y] := by simp [intCs]
  refine ⟨_, _, _, fun ρ x z d t pos aft gd hx hz' => exec_append hx hz' (run t), ?_⟩
  have hbw : Below w.heap.size w (w.drew.alloc (.cells ((intCs (l.take k)).toArray ++ [Value.int .i64 y].toArray ++ Builtin.zeroCells (Value.int IntKind.i64 0).cells (grownCap w (k + 1) k 3 - (k + 1))) 3)) := ((Below.refl _ _).drew).alloc (Nat.le_refl _) _
  have hnew : (w.drew.alloc (.cells ((intCs (l.take k)).toArray ++ [Value.int .i64 y].toArray ++ Builtin.zeroCells (Value.int IntKind.i64 0).cells (grownCap w (k + 1) k 3 - (k + 1))) 3)).ownsRow 0 3 1 (.slice (some ⟨w.heap.size, 0, none⟩) (k + 1) (grownCap w (k + 1) k 3)) (k + 1) (intCs (l.take k ++ [y])) := by
    refine ⟨hlen, .inr ⟨w.heap.size, _, _, rfl, Nat.zero_le _, heap_alloc_new w.drew _, hge, hcm, ?_, ?_⟩⟩
    · have hz1 : (Value.int IntKind.i64 0).cells.size = 1 := rfl
      simp only [Array.size_append, List.size_toArray, size_zeroCells, hz1, hl1, List.length_cons, List.length_nil]
      omega
    · simp only [Array.toList_append]
      rw [← he, ← hlen]
      exact List.take_left
  refine Own.step (A := [.row (.slice (some ⟨g, 0, none⟩) n c) 3 1 n (intCs l), .blk gy 3 #[.int .i64 y]]) (A' := [.row (.slice (some ⟨w.heap.size, 0, none⟩) (k + 1) (grownCap w (k + 1) k 3)) 3 1 (k + 1) (intCs (l.take k ++ [y])), .blk gy 3 #[.int .i64 y]]) hO (Frame.of_below hbw) (fun _ _ hn => hn.elim) (fun e he2 => ?_) ?_ (fun e he2 k' hk' => ?_)
  · rcases List.mem_cons.1 he2 with rfl | he2
    · exact hnew
    · rw [List.mem_singleton.1 he2]
      exact hy.keep hbw
  · refine List.Pairwise.cons (fun b hb2 _ k' h1 h2 => ?_) (List.pairwise_singleton _ _)
    rw [List.mem_singleton.1 hb2] at h2
    have h1' : (some w.heap.size : Option Nat) = some k' := h1
    injection h1' with h1'
    have h2' : k' = gy := h2
    have := hy.lt
    omega
  · rcases List.mem_cons.1 he2 with rfl | he2
    · have h1' : (some w.heap.size : Option Nat) = some k' := hk'
      injection h1' with h1'
      exact .inr (Nat.le_of_eq h1')
    · rw [List.mem_singleton.1 he2] at hk' ⊢
      exact .inl ⟨_, List.Mem.tail _ (List.Mem.head _), hk', fun _ => ⟨_, List.Mem.tail _ (List.Mem.head _), trivial, hk'⟩⟩
end
theorem drop_get {α : Type} {l : List α} {i : Nat} {x : α} (h : l[i]? = some x) : l.drop i = x :: l.drop (i + 1) := by
  obtain ⟨hi, rfl⟩ := List.getElem?_eq_some_iff.1 h
  exact List.drop_eq_getElem_cons hi
theorem isD_no {c : UInt8} (h : c.toNat < 48 ∨ 57 < c.toNat) : isD c = false := by
  rw [Bool.eq_false_iff]; intro q
  simp only [isD, Bool.and_eq_true, decide_eq_true_eq] at q
  omega
theorem isD_yes {c : UInt8} (h1 : 48 ≤ c.toNat) (h2 : c.toNat ≤ 57) : isD c = true := by simp [isD, h1, h2]
theorem parse_long {l : List UInt8} (h : 1024 < l.length) : parseOf l = ([], 5) := by unfold parseOf; rw [if_pos h]
theorem parse_none {l : List UInt8} (h : scanP l [] [] 0 = none) : parseOf l = ([], 5) := by
  unfold parseOf
  split
  · rfl
  · rw [h]
theorem parse_out {l : List UInt8} {t : List VN} (h0 : ¬ 1024 < l.length) (h : scanP l [] [] 0 = some t) : parseOf l = if okT t && decide (printOf t = l) then (t, 0) else ([], 5) := by
  unfold parseOf
  rw [if_neg h0, h]
theorem ba_of {s : ByteArray} {l : List UInt8} (h : l = s.data.toList) : (⟨l.toArray⟩ : ByteArray) = s := by subst h; rfl
theorem ba_to {s : ByteArray} {l : List UInt8} (h : (⟨l.toArray⟩ : ByteArray) = s) : l = s.data.toList := by subst h; rfl
theorem parse_ {W : World} (s : ByteArray) (tab : Tab W) :
    Calls Tryd.prog 17 #[.string s] W fun e w' => ∃ A' c', e = .returned (.tuple #[.slice A' (parseOf s.data.toList).1.length c', .int .i64 (parseOf s.data.toList).2]) ∧ Own Z0 W w' [.row (.slice A' (parseOf s.data.toList).1.length c') 38 3 (parseOf s.data.toList).1.length (ncells (parseOf s.data.toList).1)] := by
  have hsl : s.data.toList.length = s.size := rfl
  have O0 : Own Z0 W W [] := Own.start W
  refine sx_enter (args := [.string s]) Tryd.func17 rfl rfl (by simp) ?_
  refine cw_seq (fun FK1 K1 => ?_)
  refine cw_region ?_
  refine wl_val (v := .slice none 0 0) (fun ρ e => ex_assign (e _ _ rfl)) rfl rfl ?_
  refine wl_val (v := .int .i64 0) (fun ρ e => ex_assign (e _ _ rfl)) rfl rfl ?_
  refine wl_nil ?_
  refine xw_next K1 ?_
  refine cw_seq (fun FK2 K2 => ?_)
  refine cw_seq (fun FK3 K3 => ?_)
  refine cw_region ?_
  refine wl_val (v := .string s) (fun ρ e => ex_move (e _ _ rfl)) rfl rfl ?_
  refine wl_val (v := .int .i64 ((s.size : Nat) : Int)) (fun ρ e => ex_lenstr (e _ _ rfl)) rfl rfl ?_
  by_cases c4 : ((s.size : Nat) : Int) > 1024
  · skip
    refine wl_val (v := .bool true) (fun ρ e => ex_cmp (u := ((s.size : Nat) : Int)) (v := 1024) (e _ _ rfl) (e _ _ rfl) (gtr1 (by omega))) rfl rfl ?_
    refine wl_nil ?_
    refine xw_next K3 ?_
    refine cw_true rfl ?_
    refine cw_seq (fun FK5 K5 => ?_)
    refine cw_region ?_
    refine wl_val (v := .slice none 0 0) (fun ρ e => ex_assign (e _ _ rfl)) rfl rfl ?_
    refine wl_val (v := .int .i64 5) (fun ρ e => ex_assign (e _ _ rfl)) rfl rfl ?_
    refine wl_nil ?_
    refine xw_next K5 ?_
    refine cw_ret ?_
    refine xw_past (by intro h; cases h) ?_
    refine xw_ret (v := .tuple #[.slice none 0 0, .int .i64 5]) (fun T hT => res2 rfl T _ (hT 2 _ rfl) (hT 3 _ rfl)) ?_
    have hp : parseOf s.data.toList = ([], 5) := parse_long (by rw [hsl]; omega)
    rw [hp]
    have O6 := O0.nilrow 38 3
    exact ⟨none, 0, rfl, O6.re [0] rfl⟩
  · skip
    refine wl_val (v := .bool false) (fun ρ e => ex_cmp (u := ((s.size : Nat) : Int)) (v := 1024) (e _ _ rfl) (e _ _ rfl) (gtr0 (by omega))) rfl rfl ?_
    refine wl_nil ?_
    refine xw_next K3 ?_
    refine cw_false rfl ?_
    refine cw_skip ?_
    refine xw_next K2 ?_
    refine cw_seq (fun FK7 K7 => ?_)
    refine cw_region ?_
    refine wl_val (v := .slice none 0 0) (fun ρ e => ex_assign (e _ _ rfl)) rfl rfl ?_
    refine wl_nil ?_
    refine xw_next K7 ?_
    refine cw_seq (fun FK8 K8 => ?_)
    refine cw_region ?_
    refine wl_val (v := .slice none 0 0) (fun ρ e => ex_assign (e _ _ rfl)) rfl rfl ?_
    refine wl_nil ?_
    refine xw_next K8 ?_
    refine cw_seq (fun FK9 K9 => ?_)
    refine cw_region ?_
    refine wl_val (v := .int .i64 0) (fun ρ e => ex_assign (e _ _ rfl)) rfl rfl ?_
    refine wl_nil ?_
    refine xw_next K9 ?_
    refine cw_seq (fun FK10 K10 => ?_)
    refine cw_seq (fun FK11 K11 => ?_)
    refine cw_region ?_
    refine wl_val (v := .string s) (fun ρ e => ex_move (e _ _ rfl)) rfl rfl ?_
    obtain ⟨g12, w13, r14, O15⟩ := own_range O0 s
    refine wl_val (v := .pointer (some ⟨g12, 0, none⟩)) (fun ρ e => r14 ρ _ _ _ _ _ _ (e _ _ rfl)) rfl rfl ?_
    refine wl_nil ?_
    refine xw_next K11 ?_
    refine cw_block ?_
    have O16 : Own Z0 W w13 [.row (.slice none 0 0) 3 1 0 (intCs []), .iter g12 s 0] := O15.nilrow 3 1
    have O17 : Own Z0 W w13 [.row (.slice none 0 0) 38 3 0 (ncells []), .row (.slice none 0 0) 3 1 0 (intCs []), .iter g12 s 0] := O16.nilrow 38 3
    have O18 : Own Z0 W w13 [.row (.slice none 0 0) 38 3 0 (ncells []), .row (.slice none 0 0) 3 1 0 (intCs []), .iter g12 s 0] := O17
    refine cw_loop (ι := Nat × Option Addr × Nat × Nat × List VN × Option Addr × Nat × Nat × List Int × Int) (fun q => [(0, .string s), (4, .slice q.2.1 q.2.2.2.1 q.2.2.1), (5, .slice q.2.2.2.2.2.1 q.2.2.2.2.2.2.2.1 q.2.2.2.2.2.2.1), (6, .int .i64 q.2.2.2.2.2.2.2.2.2), (16, .pointer (some ⟨g12, 0, none⟩))]) (fun q X => (q.1 ≤ s.size) ∧ (scanP s.data.toList [] [] 0 = scanP (s.data.toList.drop q.1) q.2.2.2.2.1 q.2.2.2.2.2.2.2.2.1 q.2.2.2.2.2.2.2.2.2) ∧ (0 ≤ q.2.2.2.2.2.2.2.2.2 ∧ q.2.2.2.2.2.2.2.2.2 ≤ 9999) ∧ (q.2.2.2.1 = q.2.2.2.2.1.length) ∧ (q.2.2.2.1 ≤ q.1) ∧ (q.2.2.2.2.2.2.2.1 = q.2.2.2.2.2.2.2.2.1.length) ∧ (q.2.2.2.2.2.2.2.1 ≤ q.1) ∧ Own Z0 W X [.row (.slice q.2.1 q.2.2.2.1 q.2.2.1) 38 3 q.2.2.2.1 (ncells q.2.2.2.2.1), .row (.slice q.2.2.2.2.2.1 q.2.2.2.2.2.2.2.1 q.2.2.2.2.2.2.1) 3 1 q.2.2.2.2.2.2.2.1 (intCs q.2.2.2.2.2.2.2.2.1), .iter g12 s q.1]) (fun q => s.size - q.1) (0, none, 0, 0, [], none, 0, 0, [], 0) ⟨Nat.zero_le _, rfl, ⟨Int.le_refl 0, by decide⟩, rfl, Nat.le_refl 0, rfl, Nat.le_refl 0, O18⟩ ⟨rfl, rfl, rfl, rfl, rfl, trivial⟩ (fun q w19 hJ F20 K21 => ?_)
    obtain ⟨i, At, ct, nt, t, Ao, co, no, o, n⟩ := q
    obtain ⟨hi0, hsc, hn0, hnt, hnti, hno, hnoi, O22⟩ := hJ
    dsimp only at hi0 hsc hn0 hnt hnti hno hnoi O22 ⊢
    by_cases hi : i < s.size
    · skip
      obtain ⟨c, hc⟩ : ∃ c, s.data.toList[i]? = some c := ⟨_, List.getElem?_eq_getElem (show i < s.data.toList.length by rw [hsl]; exact hi)⟩
      have hdr : s.data.toList.drop i = c :: s.data.toList.drop (i + 1) := drop_get hc
      rw [hdr] at hsc
      have hcb := c.toNat_lt
      by_cases ha : c.toNat < 128
      · skip
        refine cw_seq (fun FK23 K23 => ?_)
        refine cw_region ?_
        obtain ⟨w24, r25, O26⟩ := own_next1 (O22.re [2, 0, 1] rfl : Own Z0 W w19 [.iter g12 s i, .row (.slice At nt ct) 38 3 nt (ncells t), .row (.slice Ao no co) 3 1 no (intCs o)]) hc ha
        refine wl_val (v := .tuple #[.bool true, .int .i64 (i : Int), .int .i32 (c.toNat : Int)]) (fun ρ e => r25 ρ _ _ _ _ _ _ (e _ _ rfl)) rfl rfl ?_
        refine wl_val (v := .bool true) (fun ρ e => ex_extract (vs := #[.bool true, .int .i64 (i : Int), .int .i32 (c.toNat : Int)]) (e _ _ rfl) rfl) rfl rfl ?_
        refine wl_nil ?_
        refine xw_next K23 ?_
        refine cw_seq (fun FK27 K27 => ?_)
        refine cw_true rfl ?_
        refine cw_skip ?_
        refine xw_next K27 ?_
        refine cw_block ?_
        refine cw_seq (fun FK28 K28 => ?_)
        refine cw_region ?_
        refine wl_val (v := .int .i64 (i : Int)) (fun ρ e => ex_extract (vs := #[.bool true, .int .i64 (i : Int), .int .i32 (c.toNat : Int)]) (e _ _ rfl) rfl) rfl rfl ?_
        refine wl_val (v := .int .i32 (c.toNat : Int)) (fun ρ e => ex_extract (vs := #[.bool true, .int .i64 (i : Int), .int .i32 (c.toNat : Int)]) (e _ _ rfl) rfl) rfl rfl ?_
        refine wl_val (v := .int .i64 (i : Int)) (fun ρ e => ex_assign (e _ _ rfl)) rfl rfl ?_
        refine wl_val (v := .int .i32 (c.toNat : Int)) (fun ρ e => ex_assign (e _ _ rfl)) rfl rfl ?_
        refine wl_nil ?_
        refine xw_next K28 ?_
        refine cw_block ?_
        refine cw_seq (fun FK29 K29 => ?_)
        refine cw_region ?_
        refine wl_val (v := .int .i32 (c.toNat : Int)) (fun ρ e => ex_move (e _ _ rfl)) rfl rfl ?_
        by_cases c30 : (c.toNat : Int) ≥ 48
        · skip
          refine wl_val (v := .bool true) (fun ρ e => ex_cmp (u := (c.toNat : Int)) (v := 48) (e _ _ rfl) (e _ _ rfl) (geq1 (by omega))) rfl rfl ?_
          refine wl_val (v := .bool true) (fun ρ e => ex_move (e _ _ rfl)) rfl rfl ?_
          refine wl_val (v := .int .i32 (c.toNat : Int)) (fun ρ e => ex_move (e _ _ rfl)) rfl rfl ?_
          by_cases c31 : (c.toNat : Int) ≤ 57
          · skip
            refine wl_val (v := .bool true) (fun ρ e => ex_cmp (u := (c.toNat : Int)) (v := 57) (e _ _ rfl) (e _ _ rfl) (leq1 (by omega))) rfl rfl ?_
            refine wl_val (v := .bool true) (fun ρ e => ex_pick1 (e _ _ rfl) (e _ _ rfl)) rfl rfl ?_
            refine wl_val (v := .bool true) (fun ρ e => ex_move (e _ _ rfl)) rfl rfl ?_
            refine wl_val (v := .int .i64 n) (fun ρ e => ex_move (e _ _ rfl)) rfl rfl ?_
            by_cases c32 : n < 1000
            · skip
              refine wl_val (v := .bool true) (fun ρ e => ex_cmp (u := n) (v := 1000) (e _ _ rfl) (e _ _ rfl) (lss1 (by omega))) rfl rfl ?_
              refine wl_val (v := .bool true) (fun ρ e => ex_pick1 (e _ _ rfl) (e _ _ rfl)) rfl rfl ?_
              refine wl_val (v := .bool true) (fun ρ e => ex_assign (e _ _ rfl)) rfl rfl ?_
              refine wl_nil ?_
              refine xw_next K29 ?_
              refine cw_true rfl ?_
              refine cw_seq (fun FK33 K33 => ?_)
              refine cw_region ?_
              refine wl_val (v := .int .i64 n) (fun ρ e => ex_move (e _ _ rfl)) rfl rfl ?_
              refine wl_val (v := .int .i64 (10 * n)) (fun ρ e => ex_arith (k := .i64) (u := 10) (v := n) (e _ _ rfl) (e _ _ rfl) (congrArg some (wrap_in (by omega) (by omega)))) rfl rfl ?_
              refine wl_val (v := .int .i32 (c.toNat : Int)) (fun ρ e => ex_move (e _ _ rfl)) rfl rfl ?_
              refine wl_val (v := .int .i32 ((c.toNat : Int) - 48)) (fun ρ e => ex_arith (k := .i32) (u := (c.toNat : Int)) (v := 48) (e _ _ rfl) (e _ _ rfl) (congrArg some (wrap32 (by omega) (by omega)))) rfl rfl ?_
              refine wl_val (v := .int .i64 ((c.toNat : Int) - 48)) (fun ρ e => ex_conv21 (e _ _ rfl) (by omega) (by omega)) rfl rfl ?_
              refine wl_val (v := .int .i64 ((10 * n) + ((c.toNat : Int) - 48))) (fun ρ e => ex_arith (k := .i64) (u := (10 * n)) (v := ((c.toNat : Int) - 48)) (e _ _ rfl) (e _ _ rfl) (congrArg some (wrap_in (by omega) (by omega)))) rfl rfl ?_
              refine wl_val (v := .int .i64 ((10 * n) + ((c.toNat : Int) - 48))) (fun ρ e => ex_assign (e _ _ rfl)) rfl rfl ?_
              refine wl_nil ?_
              refine xw_next K33 ?_
              refine cw_seq (fun FK34 K34 => ?_)
              refine cw_region ?_
              refine wl_val (v := .int .i64 (i : Int)) (fun ρ e => ex_move (e _ _ rfl)) rfl rfl ?_
              refine wl_val (v := .int .i64 ((i + 1 : Nat) : Int)) (fun ρ e => ex_arith (k := .i64) (u := (i : Int)) (v := 1) (e _ _ rfl) (e _ _ rfl) (congrArg some ((congrArg _ (by omega)).trans (wrap_in (u := ((i + 1 : Nat) : Int)) (by omega) (by omega))))) rfl rfl ?_
              refine wl_val (v := .string s) (fun ρ e => ex_move (e _ _ rfl)) rfl rfl ?_
              refine wl_val (v := .int .i64 ((s.size : Nat) : Int)) (fun ρ e => ex_lenstr (e _ _ rfl)) rfl rfl ?_
              by_cases c35 : ((i + 1 : Nat) : Int) = ((s.size : Nat) : Int)
              · skip
                have hed : endD (s.data.toList.drop (i + 1)) = true := by rw [List.drop_eq_nil_of_le (by rw [hsl]; omega)]; rfl
                refine wl_val (v := .bool true) (fun ρ e => ex_cmp (u := ((i + 1 : Nat) : Int)) (v := ((s.size : Nat) : Int)) (e _ _ rfl) (e _ _ rfl) (eql1 (by omega))) rfl rfl ?_
                refine wl_val (v := .bool true) (fun ρ e => ex_move (e _ _ rfl)) rfl rfl ?_
                refine wl_skip rfl rfl ?_
                refine wl_skip rfl rfl ?_
                refine wl_skip rfl rfl ?_
                refine wl_skip rfl rfl ?_
                refine wl_skip rfl rfl ?_
                refine wl_val (v := .bool true) (fun ρ e => ex_pick1 (e _ _ rfl) (e _ _ rfl)) rfl rfl ?_
                refine wl_val (v := .bool true) (fun ρ e => ex_move (e _ _ rfl)) rfl rfl ?_
                refine wl_skip rfl rfl ?_
                refine wl_skip rfl rfl ?_
                refine wl_skip rfl rfl ?_
                refine wl_skip rfl rfl ?_
                refine wl_skip rfl rfl ?_
                refine wl_val (v := .bool true) (fun ρ e => ex_pick1 (e _ _ rfl) (e _ _ rfl)) rfl rfl ?_
                refine wl_nil ?_
                refine xw_next K34 ?_
                refine cw_true rfl ?_
                refine cw_seq (fun FK36 K36 => ?_)
                refine cw_region ?_
                refine wl_val (v := .slice Ao no co) (fun ρ e => ex_move (e _ _ rfl)) rfl rfl ?_
                refine wl_val (v := .slice At nt ct) (fun ρ e => ex_move (e _ _ rfl)) rfl rfl ?_
                refine wl_val (v := .int .i64 (nt : Int)) (fun ρ e => ex_len el23 (e _ _ rfl)) rfl rfl ?_
                obtain ⟨g37, w38, r39, O40, hg41, hs42⟩ := own_slice O26 el36 ze3 1 [(0, .int .i64 (nt : Int))] (cs := #[.int .i64 (nt : Int)]) (by decide) (by kernel_rfl)
                refine wl_val (v := .slice (some ⟨g37, 0, none⟩) 1 1) (fun ρ e => r39 ρ _ _ _ _ _ _ (e.parts rfl)) rfl rfl ?_
                obtain ⟨A43, c44, w45, r46, O47, hz48, hc49⟩ := own_app1 (O40.re [3, 0, 1, 2] rfl : Own Z0 W w38 [.row (.slice Ao no co) 3 1 no (intCs o), .blk g37 3 #[.int .i64 (nt : Int)], .iter g12 s (i + 1), .row (.slice At nt ct) 38 3 nt (ncells t)]) ap36 ((O40.re [3, 0, 1, 2] rfl : Own Z0 W w38 [.row (.slice Ao no co) 3 1 no (intCs o), .blk g37 3 #[.int .i64 (nt : Int)], .iter g12 s (i + 1), .row (.slice At nt ct) 38 3 nt (ncells t)]).blk 1 rfl) (cells := [.int .i64 (nt : Int)]) rfl rfl (by omega) (by omega) (ys := (intCs (o ++ [(nt : Int)]))) (by simp [intCs])
                refine wl_val (v := .slice A43 (no + 1) c44) (fun ρ e => r46 ρ _ _ _ _ _ _ _ (e _ _ rfl) (e _ _ rfl)) rfl rfl ?_
                refine wl_val (v := .slice A43 (no + 1) c44) (fun ρ e => ex_assign (e _ _ rfl)) rfl rfl ?_
                refine wl_nil ?_
                refine xw_next K36 ?_
                refine cw_seq (fun FK50 K50 => ?_)
                refine cw_region ?_
                refine wl_val (v := .slice At nt ct) (fun ρ e => ex_move (e _ _ rfl)) rfl rfl ?_
                refine wl_val (v := .int .i64 ((10 * n) + ((c.toNat : Int) - 48))) (fun ρ e => ex_move (e _ _ rfl)) rfl rfl ?_
                refine wl_call (args := [.int .i64 ((10 * n) + ((c.toNat : Int) - 48))]) in_50 rfl rfl rfl ?_
                refine (leafof_ ((10 * n) + ((c.toNat : Int) - 48)) (W := w45)).mono ?_
                rintro _ w51 ⟨rfl, hb52⟩
                have O53 : Own Z0 W w51 [.row (.slice A43 (no + 1) c44) 3 1 (no + 1) (intCs (o ++ [(nt : Int)])), .blk g37 3 #[.int .i64 (nt : Int)], .iter g12 s (i + 1), .row (.slice At nt ct) 38 3 nt (ncells t)] := O47.below hb52
                refine ⟨_, rfl, ?_⟩
                obtain ⟨g54, w55, r56, O57, hg58, hs59⟩ := own_slice O53 el23 ze38 1 [(0, .agg #[.int .i64 (-1), .int .i64 (-1), .int .i64 ((10 * n) + ((c.toNat : Int) - 48))])] (cs := #[.int .i64 (-1), .int .i64 (-1), .int .i64 ((10 * n) + ((c.toNat : Int) - 48))]) (by decide) (by kernel_rfl)
                refine wl_val (v := .slice (some ⟨g54, 0, none⟩) 1 1) (fun ρ e => r56 ρ _ _ _ _ _ _ (e.parts rfl)) rfl rfl ?_
                obtain ⟨A60, c61, w62, r63, O64, hz65, hc66⟩ := own_app1 (O57.re [4, 0, 1, 2, 3] rfl : Own Z0 W w55 [.row (.slice At nt ct) 38 3 nt (ncells t), .blk g54 38 #[.int .i64 (-1), .int .i64 (-1), .int .i64 ((10 * n) + ((c.toNat : Int) - 48))], .row (.slice A43 (no + 1) c44) 3 1 (no + 1) (intCs (o ++ [(nt : Int)])), .blk g37 3 #[.int .i64 (nt : Int)], .iter g12 s (i + 1)]) ap23 ((O57.re [4, 0, 1, 2, 3] rfl : Own Z0 W w55 [.row (.slice At nt ct) 38 3 nt (ncells t), .blk g54 38 #[.int .i64 (-1), .int .i64 (-1), .int .i64 ((10 * n) + ((c.toNat : Int) - 48))], .row (.slice A43 (no + 1) c44) 3 1 (no + 1) (intCs (o ++ [(nt : Int)])), .blk g37 3 #[.int .i64 (nt : Int)], .iter g12 s (i + 1)]).blk 1 rfl) (cells := [.int .i64 (-1), .int .i64 (-1), .int .i64 ((10 * n) + ((c.toNat : Int) - 48))]) rfl rfl (by omega) (by omega) (ys := (ncells (t ++ [(VN.mk (-1) (-1) ((10 * n) + ((c.toNat : Int) - 48)))]))) (ncells_snoc t (VN.mk (-1) (-1) ((10 * n) + ((c.toNat : Int) - 48))))
                refine wl_val (v := .slice A60 (nt + 1) c61) (fun ρ e => r63 ρ _ _ _ _ _ _ _ (e _ _ rfl) (e _ _ rfl)) rfl rfl ?_
                refine wl_val (v := .slice A60 (nt + 1) c61) (fun ρ e => ex_assign (e _ _ rfl)) rfl rfl ?_
                refine wl_nil ?_
                refine xw_next K50 ?_
                refine cw_region ?_
                refine wl_val (v := .int .i64 0) (fun ρ e => ex_assign (e _ _ rfl)) rfl rfl ?_
                refine wl_nil ?_
                refine xw_block ?_
                refine xw_block ?_
                refine xw_round K21 (i + 1, A60, c61, nt + 1, (t ++ [VN.mk (-1) (-1) (10 * n + ((c.toNat : Int) - 48))]), A43, c44, no + 1, (o ++ [(nt : Int)]), 0) (by show s.size - (i + 1) < s.size - i; omega) ⟨(by show i + 1 ≤ s.size; omega), (by show scanP _ [] [] 0 = scanP _ _ _ 0; rw [hnt, hsc, scan_dig (by omega) (by omega) (by omega), if_pos hed]), (by show (0 : Int) ≤ 0 ∧ (0 : Int) ≤ 9999; omega), (by show nt + 1 = (t ++ [_]).length; simp [hnt]), (by show nt + 1 ≤ i + 1; omega), (by show no + 1 = (o ++ [_]).length; simp [hno]), (by show no + 1 ≤ i + 1; omega), (O64.re [0, 2, 4] rfl : Own Z0 W w62 [.row (.slice A60 (nt + 1) c61) 38 3 (nt + 1) (ncells (t ++ [(VN.mk (-1) (-1) ((10 * n) + ((c.toNat : Int) - 48)))])), .row (.slice A43 (no + 1) c44) 3 1 (no + 1) (intCs (o ++ [(nt : Int)])), .iter g12 s (i + 1)])⟩ ⟨rfl, rfl, rfl, rfl, rfl, trivial⟩
              · skip
                obtain ⟨c2, hc2⟩ : ∃ c2, s.data.toList[i + 1]? = some c2 := ⟨_, List.getElem?_eq_getElem (show i + 1 < s.data.toList.length by rw [hsl]; omega)⟩
                have hdr2 : s.data.toList.drop (i + 1) = c2 :: s.data.toList.drop (i + 2) := drop_get hc2
                refine wl_val (v := .bool false) (fun ρ e => ex_cmp (u := ((i + 1 : Nat) : Int)) (v := ((s.size : Nat) : Int)) (e _ _ rfl) (e _ _ rfl) (eql0 (by omega))) rfl rfl ?_
                refine wl_val (v := .bool false) (fun ρ e => ex_move (e _ _ rfl)) rfl rfl ?_
                refine wl_val (v := .string s) (fun ρ e => ex_move (e _ _ rfl)) rfl rfl ?_
                refine wl_val (v := .int .i64 (i : Int)) (fun ρ e => ex_move (e _ _ rfl)) rfl rfl ?_
                refine wl_val (v := .int .i64 ((i + 1 : Nat) : Int)) (fun ρ e => ex_arith (k := .i64) (u := (i : Int)) (v := 1) (e _ _ rfl) (e _ _ rfl) (congrArg some ((congrArg _ (by omega)).trans (wrap_in (u := ((i + 1 : Nat) : Int)) (by omega) (by omega))))) rfl rfl ?_
                refine wl_val (v := .int .u8 (c2.toNat : Int)) (fun ρ e => ex_strIdx (i := i + 1) (c := c2) (e _ _ rfl) (e _ _ rfl) hc2) rfl rfl ?_
                by_cases c67 : (c2.toNat : Int) < 48
                · skip
                  have hed : endD (s.data.toList.drop (i + 1)) = true := by rw [hdr2]; show (!isD c2) = true; rw [isD_no (by omega)]; rfl
                  refine wl_val (v := .bool true) (fun ρ e => ex_cmp (u := (c2.toNat : Int)) (v := 48) (e _ _ rfl) (e _ _ rfl) (lss1 (by omega))) rfl rfl ?_
                  refine wl_val (v := .bool true) (fun ρ e => ex_pick0 (e _ _ rfl) (e _ _ rfl)) rfl rfl ?_
                  refine wl_val (v := .bool true) (fun ρ e => ex_move (e _ _ rfl)) rfl rfl ?_
                  refine wl_skip rfl rfl ?_
                  refine wl_skip rfl rfl ?_
                  refine wl_skip rfl rfl ?_
                  refine wl_skip rfl rfl ?_
                  refine wl_skip rfl rfl ?_
                  refine wl_val (v := .bool true) (fun ρ e => ex_pick1 (e _ _ rfl) (e _ _ rfl)) rfl rfl ?_
                  refine wl_nil ?_
                  refine xw_next K34 ?_
                  refine cw_true rfl ?_
                  refine cw_seq (fun FK68 K68 => ?_)
                  refine cw_region ?_
                  refine wl_val (v := .slice Ao no co) (fun ρ e => ex_move (e _ _ rfl)) rfl rfl ?_
                  refine wl_val (v := .slice At nt ct) (fun ρ e => ex_move (e _ _ rfl)) rfl rfl ?_
                  refine wl_val (v := .int .i64 (nt : Int)) (fun ρ e => ex_len el23 (e _ _ rfl)) rfl rfl ?_
                  obtain ⟨g69, w70, r71, O72, hg73, hs74⟩ := own_slice O26 el36 ze3 1 [(0, .int .i64 (nt : Int))] (cs := #[.int .i64 (nt : Int)]) (by decide) (by kernel_rfl)
                  refine wl_val (v := .slice (some ⟨g69, 0, none⟩) 1 1) (fun ρ e => r71 ρ _ _ _ _ _ _ (e.parts rfl)) rfl rfl ?_
                  obtain ⟨A75, c76, w77, r78, O79, hz80, hc81⟩ := own_app1 (O72.re [3, 0, 1, 2] rfl : Own Z0 W w70 [.row (.slice Ao no co) 3 1 no (intCs o), .blk g69 3 #[.int .i64 (nt : Int)], .iter g12 s (i + 1), .row (.slice At nt ct) 38 3 nt (ncells t)]) ap36 ((O72.re [3, 0, 1, 2] rfl : Own Z0 W w70 [.row (.slice Ao no co) 3 1 no (intCs o), .blk g69 3 #[.int .i64 (nt : Int)], .iter g12 s (i + 1), .row (.slice At nt ct) 38 3 nt (ncells t)]).blk 1 rfl) (cells := [.int .i64 (nt : Int)]) rfl rfl (by omega) (by omega) (ys := (intCs (o ++ [(nt : Int)]))) (by simp [intCs])
                  refine wl_val (v := .slice A75 (no + 1) c76) (fun ρ e => r78 ρ _ _ _ _ _ _ _ (e _ _ rfl) (e _ _ rfl)) rfl rfl ?_
                  refine wl_val (v := .slice A75 (no + 1) c76) (fun ρ e => ex_assign (e _ _ rfl)) rfl rfl ?_
                  refine wl_nil ?_
                  refine xw_next K68 ?_
                  refine cw_seq (fun FK82 K82 => ?_)
                  refine cw_region ?_
                  refine wl_val (v := .slice At nt ct) (fun ρ e => ex_move (e _ _ rfl)) rfl rfl ?_
                  refine wl_val (v := .int .i64 ((10 * n) + ((c.toNat : Int) - 48))) (fun ρ e => ex_move (e _ _ rfl)) rfl rfl ?_
                  refine wl_call (args := [.int .i64 ((10 * n) + ((c.toNat : Int) - 48))]) in_50 rfl rfl rfl ?_
                  refine (leafof_ ((10 * n) + ((c.toNat : Int) - 48)) (W := w77)).mono ?_
                  rintro _ w83 ⟨rfl, hb84⟩
                  have O85 : Own Z0 W w83 [.row (.slice A75 (no + 1) c76) 3 1 (no + 1) (intCs (o ++ [(nt : Int)])), .blk g69 3 #[.int .i64 (nt : Int)], .iter g12 s (i + 1), .row (.slice At nt ct) 38 3 nt (ncells t)] := O79.below hb84
                  refine ⟨_, rfl, ?_⟩
                  obtain ⟨g86, w87, r88, O89, hg90, hs91⟩ := own_slice O85 el23 ze38 1 [(0, .agg #[.int .i64 (-1), .int .i64 (-1), .int .i64 ((10 * n) + ((c.toNat : Int) - 48))])] (cs := #[.int .i64 (-1), .int .i64 (-1), .int .i64 ((10 * n) + ((c.toNat : Int) - 48))]) (by decide) (by kernel_rfl)
                  refine wl_val (v := .slice (some ⟨g86, 0, none⟩) 1 1) (fun ρ e => r88 ρ _ _ _ _ _ _ (e.parts rfl)) rfl rfl ?_
                  obtain ⟨A92, c93, w94, r95, O96, hz97, hc98⟩ := own_app1 (O89.re [4, 0, 1, 2, 3] rfl : Own Z0 W w87 [.row (.slice At nt ct) 38 3 nt (ncells t), .blk g86 38 #[.int .i64 (-1), .int .i64 (-1), .int .i64 ((10 * n) + ((c.toNat : Int) - 48))], .row (.slice A75 (no + 1) c76) 3 1 (no + 1) (intCs (o ++ [(nt : Int)])), .blk g69 3 #[.int .i64 (nt : Int)], .iter g12 s (i + 1)]) ap23 ((O89.re [4, 0, 1, 2, 3] rfl : Own Z0 W w87 [.row (.slice At nt ct) 38 3 nt (ncells t), .blk g86 38 #[.int .i64 (-1), .int .i64 (-1), .int .i64 ((10 * n) + ((c.toNat : Int) - 48))], .row (.slice A75 (no + 1) c76) 3 1 (no + 1) (intCs (o ++ [(nt : Int)])), .blk g69 3 #[.int .i64 (nt : Int)], .iter g12 s (i + 1)]).blk 1 rfl) (cells := [.int .i64 (-1), .int .i64 (-1), .int .i64 ((10 * n) + ((c.toNat : Int) - 48))]) rfl rfl (by omega) (by omega) (ys := (ncells (t ++ [(VN.mk (-1) (-1) ((10 * n) + ((c.toNat : Int) - 48)))]))) (ncells_snoc t (VN.mk (-1) (-1) ((10 * n) + ((c.toNat : Int) - 48))))
                  refine wl_val (v := .slice A92 (nt + 1) c93) (fun ρ e => r95 ρ _ _ _ _ _ _ _ (e _ _ rfl) (e _ _ rfl)) rfl rfl ?_
                  refine wl_val (v := .slice A92 (nt + 1) c93) (fun ρ e => ex_assign (e _ _ rfl)) rfl rfl ?_
                  refine wl_nil ?_
                  refine xw_next K82 ?_
                  refine cw_region ?_
                  refine wl_val (v := .int .i64 0) (fun ρ e => ex_assign (e _ _ rfl)) rfl rfl ?_
                  refine wl_nil ?_
                  refine xw_block ?_
                  refine xw_block ?_
                  refine xw_round K21 (i + 1, A92, c93, nt + 1, (t ++ [VN.mk (-1) (-1) (10 * n + ((c.toNat : Int) - 48))]), A75, c76, no + 1, (o ++ [(nt : Int)]), 0) (by show s.size - (i + 1) < s.size - i; omega) ⟨(by show i + 1 ≤ s.size; omega), (by show scanP _ [] [] 0 = scanP _ _ _ 0; rw [hnt, hsc, scan_dig (by omega) (by omega) (by omega), if_pos hed]), (by show (0 : Int) ≤ 0 ∧ (0 : Int) ≤ 9999; omega), (by show nt + 1 = (t ++ [_]).length; simp [hnt]), (by show nt + 1 ≤ i + 1; omega), (by show no + 1 = (o ++ [_]).length; simp [hno]), (by show no + 1 ≤ i + 1; omega), (O96.re [0, 2, 4] rfl : Own Z0 W w94 [.row (.slice A92 (nt + 1) c93) 38 3 (nt + 1) (ncells (t ++ [(VN.mk (-1) (-1) ((10 * n) + ((c.toNat : Int) - 48)))])), .row (.slice A75 (no + 1) c76) 3 1 (no + 1) (intCs (o ++ [(nt : Int)])), .iter g12 s (i + 1)])⟩ ⟨rfl, rfl, rfl, rfl, rfl, trivial⟩
                · skip
                  refine wl_val (v := .bool false) (fun ρ e => ex_cmp (u := (c2.toNat : Int)) (v := 48) (e _ _ rfl) (e _ _ rfl) (lss0 (by omega))) rfl rfl ?_
                  refine wl_val (v := .bool false) (fun ρ e => ex_pick0 (e _ _ rfl) (e _ _ rfl)) rfl rfl ?_
                  refine wl_val (v := .bool false) (fun ρ e => ex_move (e _ _ rfl)) rfl rfl ?_
                  refine wl_val (v := .string s) (fun ρ e => ex_move (e _ _ rfl)) rfl rfl ?_
                  refine wl_val (v := .int .i64 (i : Int)) (fun ρ e => ex_move (e _ _ rfl)) rfl rfl ?_
                  refine wl_val (v := .int .i64 ((i + 1 : Nat) : Int)) (fun ρ e => ex_arith (k := .i64) (u := (i : Int)) (v := 1) (e _ _ rfl) (e _ _ rfl) (congrArg some ((congrArg _ (by omega)).trans (wrap_in (u := ((i + 1 : Nat) : Int)) (by omega) (by omega))))) rfl rfl ?_
                  refine wl_val (v := .int .u8 (c2.toNat : Int)) (fun ρ e => ex_strIdx (i := i + 1) (c := c2) (e _ _ rfl) (e _ _ rfl) hc2) rfl rfl ?_
                  by_cases c99 : (c2.toNat : Int) > 57
                  · skip
                    have hed : endD (s.data.toList.drop (i + 1)) = true := by rw [hdr2]; show (!isD c2) = true; rw [isD_no (by omega)]; rfl
                    refine wl_val (v := .bool true) (fun ρ e => ex_cmp (u := (c2.toNat : Int)) (v := 57) (e _ _ rfl) (e _ _ rfl) (gtr1 (by omega))) rfl rfl ?_
                    refine wl_val (v := .bool true) (fun ρ e => ex_pick0 (e _ _ rfl) (e _ _ rfl)) rfl rfl ?_
                    refine wl_nil ?_
                    refine xw_next K34 ?_
                    refine cw_true rfl ?_
                    refine cw_seq (fun FK100 K100 => ?_)
                    refine cw_region ?_
                    refine wl_val (v := .slice Ao no co) (fun ρ e => ex_move (e _ _ rfl)) rfl rfl ?_
                    refine wl_val (v := .slice At nt ct) (fun ρ e => ex_move (e _ _ rfl)) rfl rfl ?_
                    refine wl_val (v := .int .i64 (nt : Int)) (fun ρ e => ex_len el23 (e _ _ rfl)) rfl rfl ?_
                    obtain ⟨g101, w102, r103, O104, hg105, hs106⟩ := own_slice O26 el36 ze3 1 [(0, .int .i64 (nt : Int))] (cs := #[.int .i64 (nt : Int)]) (by decide) (by kernel_rfl)
                    refine wl_val (v := .slice (some ⟨g101, 0, none⟩) 1 1) (fun ρ e => r103 ρ _ _ _ _ _ _ (e.parts rfl)) rfl rfl ?_
                    obtain ⟨A107, c108, w109, r110, O111, hz112, hc113⟩ := own_app1 (O104.re [3, 0, 1, 2] rfl : Own Z0 W w102 [.row (.slice Ao no co) 3 1 no (intCs o), .blk g101 3 #[.int .i64 (nt : Int)], .iter g12 s (i + 1), .row (.slice At nt ct) 38 3 nt (ncells t)]) ap36 ((O104.re [3, 0, 1, 2] rfl : Own Z0 W w102 [.row (.slice Ao no co) 3 1 no (intCs o), .blk g101 3 #[.int .i64 (nt : Int)], .iter g12 s (i + 1), .row (.slice At nt ct) 38 3 nt (ncells t)]).blk 1 rfl) (cells := [.int .i64 (nt : Int)]) rfl rfl (by omega) (by omega) (ys := (intCs (o ++ [(nt : Int)]))) (by simp [intCs])
                    refine wl_val (v := .slice A107 (no + 1) c108) (fun ρ e => r110 ρ _ _ _ _ _ _ _ (e _ _ rfl) (e _ _ rfl)) rfl rfl ?_
                    refine wl_val (v := .slice A107 (no + 1) c108) (fun ρ e => ex_assign (e _ _ rfl)) rfl rfl ?_
                    refine wl_nil ?_
                    refine xw_next K100 ?_
                    refine cw_seq (fun FK114 K114 => ?_)
                    refine cw_region ?_
                    refine wl_val (v := .slice At nt ct) (fun ρ e => ex_move (e _ _ rfl)) rfl rfl ?_
                    refine wl_val (v := .int .i64 ((10 * n) + ((c.toNat : Int) - 48))) (fun ρ e => ex_move (e _ _ rfl)) rfl rfl ?_
                    refine wl_call (args := [.int .i64 ((10 * n) + ((c.toNat : Int) - 48))]) in_50 rfl rfl rfl ?_
                    refine (leafof_ ((10 * n) + ((c.toNat : Int) - 48)) (W := w109)).mono ?_
                    rintro _ w115 ⟨rfl, hb116⟩
                    have O117 : Own Z0 W w115 [.row (.slice A107 (no + 1) c108) 3 1 (no + 1) (intCs (o ++ [(nt : Int)])), .blk g101 3 #[.int .i64 (nt : Int)], .iter g12 s (i + 1), .row (.slice At nt ct) 38 3 nt (ncells t)] := O111.below hb116
                    refine ⟨_, rfl, ?_⟩
                    obtain ⟨g118, w119, r120, O121, hg122, hs123⟩ := own_slice O117 el23 ze38 1 [(0, .agg #[.int .i64 (-1), .int .i64 (-1), .int .i64 ((10 * n) + ((c.toNat : Int) - 48))])] (cs := #[.int .i64 (-1), .int .i64 (-1), .int .i64 ((10 * n) + ((c.toNat : Int) - 48))]) (by decide) (by kernel_rfl)
                    refine wl_val (v := .slice (some ⟨g118, 0, none⟩) 1 1) (fun ρ e => r120 ρ _ _ _ _ _ _ (e.parts rfl)) rfl rfl ?_
                    obtain ⟨A124, c125, w126, r127, O128, hz129, hc130⟩ := own_app1 (O121.re [4, 0, 1, 2, 3] rfl : Own Z0 W w119 [.row (.slice At nt ct) 38 3 nt (ncells t), .blk g118 38 #[.int .i64 (-1), .int .i64 (-1), .int .i64 ((10 * n) + ((c.toNat : Int) - 48))], .row (.slice A107 (no + 1) c108) 3 1 (no + 1) (intCs (o ++ [(nt : Int)])), .blk g101 3 #[.int .i64 (nt : Int)], .iter g12 s (i + 1)]) ap23 ((O121.re [4, 0, 1, 2, 3] rfl : Own Z0 W w119 [.row (.slice At nt ct) 38 3 nt (ncells t), .blk g118 38 #[.int .i64 (-1), .int .i64 (-1), .int .i64 ((10 * n) + ((c.toNat : Int) - 48))], .row (.slice A107 (no + 1) c108) 3 1 (no + 1) (intCs (o ++ [(nt : Int)])), .blk g101 3 #[.int .i64 (nt : Int)], .iter g12 s (i + 1)]).blk 1 rfl) (cells := [.int .i64 (-1), .int .i64 (-1), .int .i64 ((10 * n) + ((c.toNat : Int) - 48))]) rfl rfl (by omega) (by omega) (ys := (ncells (t ++ [(VN.mk (-1) (-1) ((10 * n) + ((c.toNat : Int) - 48)))]))) (ncells_snoc t (VN.mk (-1) (-1) ((10 * n) + ((c.toNat : Int) - 48))))
                    refine wl_val (v := .slice A124 (nt + 1) c125) (fun ρ e => r127 ρ _ _ _ _ _ _ _ (e _ _ rfl) (e _ _ rfl)) rfl rfl ?_
                    refine wl_val (v := .slice A124 (nt + 1) c125) (fun ρ e => ex_assign (e _ _ rfl)) rfl rfl ?_
                    refine wl_nil ?_
                    refine xw_next K114 ?_
                    refine cw_region ?_
                    refine wl_val (v := .int .i64 0) (fun ρ e => ex_assign (e _ _ rfl)) rfl rfl ?_
                    refine wl_nil ?_
                    refine xw_block ?_
                    refine xw_block ?_
                    refine xw_round K21 (i + 1, A124, c125, nt + 1, (t ++ [VN.mk (-1) (-1) (10 * n + ((c.toNat : Int) - 48))]), A107, c108, no + 1, (o ++ [(nt : Int)]), 0) (by show s.size - (i + 1) < s.size - i; omega) ⟨(by show i + 1 ≤ s.size; omega), (by show scanP _ [] [] 0 = scanP _ _ _ 0; rw [hnt, hsc, scan_dig (by omega) (by omega) (by omega), if_pos hed]), (by show (0 : Int) ≤ 0 ∧ (0 : Int) ≤ 9999; omega), (by show nt + 1 = (t ++ [_]).length; simp [hnt]), (by show nt + 1 ≤ i + 1; omega), (by show no + 1 = (o ++ [_]).length; simp [hno]), (by show no + 1 ≤ i + 1; omega), (O128.re [0, 2, 4] rfl : Own Z0 W w126 [.row (.slice A124 (nt + 1) c125) 38 3 (nt + 1) (ncells (t ++ [(VN.mk (-1) (-1) ((10 * n) + ((c.toNat : Int) - 48)))])), .row (.slice A107 (no + 1) c108) 3 1 (no + 1) (intCs (o ++ [(nt : Int)])), .iter g12 s (i + 1)])⟩ ⟨rfl, rfl, rfl, rfl, rfl, trivial⟩
                  · skip
                    have hed : endD (s.data.toList.drop (i + 1)) = false := by rw [hdr2]; show (!isD c2) = false; rw [isD_yes (by omega) (by omega)]; rfl
                    refine wl_val (v := .bool false) (fun ρ e => ex_cmp (u := (c2.toNat : Int)) (v := 57) (e _ _ rfl) (e _ _ rfl) (gtr0 (by omega))) rfl rfl ?_
                    refine wl_val (v := .bool false) (fun ρ e => ex_pick0 (e _ _ rfl) (e _ _ rfl)) rfl rfl ?_
                    refine wl_nil ?_
                    refine xw_next K34 ?_
                    refine cw_false rfl ?_
                    refine cw_skip ?_
                    refine xw_block ?_
                    refine xw_block ?_
                    refine xw_round K21 (i + 1, At, ct, nt, t, Ao, co, no, o, (10 * n + ((c.toNat : Int) - 48))) (by show s.size - (i + 1) < s.size - i; omega) ⟨(by show i + 1 ≤ s.size; omega), (by show scanP _ [] [] 0 = scanP _ _ _ _; rw [hsc, scan_dig (by omega) (by omega) (by omega), hed]; rfl), (by show (0 : Int) ≤ (10 * n + ((c.toNat : Int) - 48)) ∧ (10 * n + ((c.toNat : Int) - 48)) ≤ 9999; omega), hnt, (by show nt ≤ i + 1; omega), hno, (by show no ≤ i + 1; omega), (O26.re [1, 2, 0] rfl : Own Z0 W w24 [.row (.slice At nt ct) 38 3 nt (ncells t), .row (.slice Ao no co) 3 1 no (intCs o), .iter g12 s (i + 1)])⟩ ⟨rfl, rfl, rfl, rfl, rfl, trivial⟩
            · skip
              refine wl_val (v := .bool false) (fun ρ e => ex_cmp (u := n) (v := 1000) (e _ _ rfl) (e _ _ rfl) (lss0 (by omega))) rfl rfl ?_
              refine wl_val (v := .bool false) (fun ρ e => ex_pick1 (e _ _ rfl) (e _ _ rfl)) rfl rfl ?_
              refine wl_val (v := .bool false) (fun ρ e => ex_assign (e _ _ rfl)) rfl rfl ?_
              refine wl_nil ?_
              refine xw_next K29 ?_
              refine cw_false rfl ?_
              refine cw_seq (fun FK131 K131 => ?_)
              refine cw_region ?_
              refine wl_val (v := .int .i32 (c.toNat : Int)) (fun ρ e => ex_move (e _ _ rfl)) rfl rfl ?_
              refine wl_val (v := .bool false) (fun ρ e => ex_cmp (u := (c.toNat : Int)) (v := 41) (e _ _ rfl) (e _ _ rfl) (eql0 (by omega))) rfl rfl ?_
              refine wl_val (v := .bool false) (fun ρ e => ex_assign (e _ _ rfl)) rfl rfl ?_
              refine wl_nil ?_
              refine xw_next K131 ?_
              refine cw_false rfl ?_
              refine cw_seq (fun FK132 K132 => ?_)
              refine cw_region ?_
              refine wl_val (v := .int .i32 (c.toNat : Int)) (fun ρ e => ex_move (e _ _ rfl)) rfl rfl ?_
              refine wl_val (v := .bool true) (fun ρ e => ex_cmp (u := (c.toNat : Int)) (v := 40) (e _ _ rfl) (e _ _ rfl) (neq1 (by omega))) rfl rfl ?_
              refine wl_val (v := .bool true) (fun ρ e => ex_move (e _ _ rfl)) rfl rfl ?_
              refine wl_val (v := .int .i32 (c.toNat : Int)) (fun ρ e => ex_move (e _ _ rfl)) rfl rfl ?_
              refine wl_val (v := .bool true) (fun ρ e => ex_cmp (u := (c.toNat : Int)) (v := 32) (e _ _ rfl) (e _ _ rfl) (neq1 (by omega))) rfl rfl ?_
              refine wl_val (v := .bool true) (fun ρ e => ex_pick1 (e _ _ rfl) (e _ _ rfl)) rfl rfl ?_
              refine wl_val (v := .bool true) (fun ρ e => ex_assign (e _ _ rfl)) rfl rfl ?_
              refine wl_nil ?_
              refine xw_next K132 ?_
              refine cw_true rfl ?_
              refine cw_seq (fun FK133 K133 => ?_)
              refine cw_region ?_
              refine wl_val (v := .slice none 0 0) (fun ρ e => ex_assign (e _ _ rfl)) rfl rfl ?_
              refine wl_val (v := .int .i64 5) (fun ρ e => ex_assign (e _ _ rfl)) rfl rfl ?_
              refine wl_nil ?_
              refine xw_next K133 ?_
              refine cw_ret ?_
              refine xw_blockret ?_
              refine xw_blockret ?_
              refine xw_past (by intro h; cases h) ?_
              refine xw_blockret ?_
              refine xw_past (by intro h; cases h) ?_
              refine xw_ret (v := .tuple #[.slice none 0 0, .int .i64 5]) (fun T hT => res2 rfl T _ (hT 2 _ rfl) (hT 3 _ rfl)) ?_
              have hp : parseOf s.data.toList = ([], 5) := parse_none (hsc.trans (scan_bad (by omega) (by omega) (by omega) (by omega)))
              rw [hp]
              have O134 := O26.nilrow 38 3
              exact ⟨none, 0, rfl, O134.re [0] rfl⟩
          · skip
            refine wl_val (v := .bool false) (fun ρ e => ex_cmp (u := (c.toNat : Int)) (v := 57) (e _ _ rfl) (e _ _ rfl) (leq0 (by omega))) rfl rfl ?_
            refine wl_val (v := .bool false) (fun ρ e => ex_pick1 (e _ _ rfl) (e _ _ rfl)) rfl rfl ?_
            refine wl_val (v := .bool false) (fun ρ e => ex_move (e _ _ rfl)) rfl rfl ?_
            refine wl_skip rfl rfl ?_
            refine wl_skip rfl rfl ?_
            refine wl_val (v := .bool false) (fun ρ e => ex_pick0 (e _ _ rfl) (e _ _ rfl)) rfl rfl ?_
            refine wl_val (v := .bool false) (fun ρ e => ex_assign (e _ _ rfl)) rfl rfl ?_
            refine wl_nil ?_
            refine xw_next K29 ?_
            refine cw_false rfl ?_
            refine cw_seq (fun FK135 K135 => ?_)
            refine cw_region ?_
            refine wl_val (v := .int .i32 (c.toNat : Int)) (fun ρ e => ex_move (e _ _ rfl)) rfl rfl ?_
            refine wl_val (v := .bool false) (fun ρ e => ex_cmp (u := (c.toNat : Int)) (v := 41) (e _ _ rfl) (e _ _ rfl) (eql0 (by omega))) rfl rfl ?_
            refine wl_val (v := .bool false) (fun ρ e => ex_assign (e _ _ rfl)) rfl rfl ?_
            refine wl_nil ?_
            refine xw_next K135 ?_
            refine cw_false rfl ?_
            refine cw_seq (fun FK136 K136 => ?_)
            refine cw_region ?_
            refine wl_val (v := .int .i32 (c.toNat : Int)) (fun ρ e => ex_move (e _ _ rfl)) rfl rfl ?_
            refine wl_val (v := .bool true) (fun ρ e => ex_cmp (u := (c.toNat : Int)) (v := 40) (e _ _ rfl) (e _ _ rfl) (neq1 (by omega))) rfl rfl ?_
            refine wl_val (v := .bool true) (fun ρ e => ex_move (e _ _ rfl)) rfl rfl ?_
            refine wl_val (v := .int .i32 (c.toNat : Int)) (fun ρ e => ex_move (e _ _ rfl)) rfl rfl ?_
            refine wl_val (v := .bool true) (fun ρ e => ex_cmp (u := (c.toNat : Int)) (v := 32) (e _ _ rfl) (e _ _ rfl) (neq1 (by omega))) rfl rfl ?_
            refine wl_val (v := .bool true) (fun ρ e => ex_pick1 (e _ _ rfl) (e _ _ rfl)) rfl rfl ?_
            refine wl_val (v := .bool true) (fun ρ e => ex_assign (e _ _ rfl)) rfl rfl ?_
            refine wl_nil ?_
            refine xw_next K136 ?_
            refine cw_true rfl ?_
            refine cw_seq (fun FK137 K137 => ?_)
            refine cw_region ?_
            refine wl_val (v := .slice none 0 0) (fun ρ e => ex_assign (e _ _ rfl)) rfl rfl ?_
            refine wl_val (v := .int .i64 5) (fun ρ e => ex_assign (e _ _ rfl)) rfl rfl ?_
            refine wl_nil ?_
            refine xw_next K137 ?_
            refine cw_ret ?_
            refine xw_blockret ?_
            refine xw_blockret ?_
            refine xw_past (by intro h; cases h) ?_
            refine xw_blockret ?_
            refine xw_past (by intro h; cases h) ?_
            refine xw_ret (v := .tuple #[.slice none 0 0, .int .i64 5]) (fun T hT => res2 rfl T _ (hT 2 _ rfl) (hT 3 _ rfl)) ?_
            have hp : parseOf s.data.toList = ([], 5) := parse_none (hsc.trans (scan_bad (by omega) (by omega) (by omega) (by omega)))
            rw [hp]
            have O138 := O26.nilrow 38 3
            exact ⟨none, 0, rfl, O138.re [0] rfl⟩
        · skip
          refine wl_val (v := .bool false) (fun ρ e => ex_cmp (u := (c.toNat : Int)) (v := 48) (e _ _ rfl) (e _ _ rfl) (geq0 (by omega))) rfl rfl ?_
          refine wl_val (v := .bool false) (fun ρ e => ex_move (e _ _ rfl)) rfl rfl ?_
          refine wl_skip rfl rfl ?_
          refine wl_skip rfl rfl ?_
          refine wl_val (v := .bool false) (fun ρ e => ex_pick0 (e _ _ rfl) (e _ _ rfl)) rfl rfl ?_
          refine wl_val (v := .bool false) (fun ρ e => ex_move (e _ _ rfl)) rfl rfl ?_
          refine wl_skip rfl rfl ?_
          refine wl_skip rfl rfl ?_
          refine wl_val (v := .bool false) (fun ρ e => ex_pick0 (e _ _ rfl) (e _ _ rfl)) rfl rfl ?_
          refine wl_val (v := .bool false) (fun ρ e => ex_assign (e _ _ rfl)) rfl rfl ?_
          refine wl_nil ?_
          refine xw_next K29 ?_
          refine cw_false rfl ?_
          refine cw_seq (fun FK139 K139 => ?_)
          refine cw_region ?_
          refine wl_val (v := .int .i32 (c.toNat : Int)) (fun ρ e => ex_move (e _ _ rfl)) rfl rfl ?_
          by_cases c140 : (c.toNat : Int) = 41
          · skip
            refine wl_val (v := .bool true) (fun ρ e => ex_cmp (u := (c.toNat : Int)) (v := 41) (e _ _ rfl) (e _ _ rfl) (eql1 (by omega))) rfl rfl ?_
            refine wl_val (v := .bool true) (fun ρ e => ex_assign (e _ _ rfl)) rfl rfl ?_
            refine wl_nil ?_
            refine xw_next K139 ?_
            refine cw_true rfl ?_
            refine cw_seq (fun FK141 K141 => ?_)
            refine cw_region ?_
            refine wl_val (v := .slice Ao no co) (fun ρ e => ex_move (e _ _ rfl)) rfl rfl ?_
            refine wl_val (v := .int .i64 (no : Int)) (fun ρ e => ex_len el36 (e _ _ rfl)) rfl rfl ?_
            refine wl_val (v := .int .i64 (no : Int)) (fun ρ e => ex_assign (e _ _ rfl)) rfl rfl ?_
            refine wl_nil ?_
            refine xw_next K141 ?_
            refine cw_seq (fun FK142 K142 => ?_)
            refine cw_seq (fun FK143 K143 => ?_)
            refine cw_region ?_
            refine wl_val (v := .int .i64 (no : Int)) (fun ρ e => ex_move (e _ _ rfl)) rfl rfl ?_
            by_cases c144 : (no : Int) < 2
            · skip
              refine wl_val (v := .bool true) (fun ρ e => ex_cmp (u := (no : Int)) (v := 2) (e _ _ rfl) (e _ _ rfl) (lss1 (by omega))) rfl rfl ?_
              refine wl_nil ?_
              refine xw_next K143 ?_
              refine cw_true rfl ?_
              refine cw_seq (fun FK145 K145 => ?_)
              refine cw_region ?_
              refine wl_val (v := .slice none 0 0) (fun ρ e => ex_assign (e _ _ rfl)) rfl rfl ?_
              refine wl_val (v := .int .i64 5) (fun ρ e => ex_assign (e _ _ rfl)) rfl rfl ?_
              refine wl_nil ?_
              refine xw_next K145 ?_
              refine cw_ret ?_
              refine xw_past (by intro h; cases h) ?_
              refine xw_blockret ?_
              refine xw_blockret ?_
              refine xw_past (by intro h; cases h) ?_
              refine xw_blockret ?_
              refine xw_past (by intro h; cases h) ?_
              refine xw_ret (v := .tuple #[.slice none 0 0, .int .i64 5]) (fun T hT => res2 rfl T _ (hT 2 _ rfl) (hT 3 _ rfl)) ?_
              have hp : parseOf s.data.toList = ([], 5) := parse_none (hsc.trans (scan_few (by omega) (by omega) (by omega)))
              rw [hp]
              have O146 := O26.nilrow 38 3
              exact ⟨none, 0, rfl, O146.re [0] rfl⟩
            · skip
              have hnco := row_cap (O26.row 2 rfl)
              obtain ⟨go, hgo⟩ := rowaddr (O26.row 2 rfl) (show 0 < no by omega)
              subst hgo
              obtain ⟨u1, hu1⟩ : ∃ u, o[no - 2]? = some u := ⟨_, List.getElem?_eq_getElem (show no - 2 < o.length by omega)⟩
              obtain ⟨u2, hu2⟩ : ∃ u, o[no - 1]? = some u := ⟨_, List.getElem?_eq_getElem (show no - 1 < o.length by omega)⟩
              refine wl_val (v := .bool false) (fun ρ e => ex_cmp (u := (no : Int)) (v := 2) (e _ _ rfl) (e _ _ rfl) (lss0 (by omega))) rfl rfl ?_
              refine wl_nil ?_
              refine xw_next K143 ?_
              refine cw_false rfl ?_
              refine cw_skip ?_
              refine xw_next K142 ?_
              refine cw_seq (fun FK147 K147 => ?_)
              refine cw_drawn (fun X => Own Z0 W X [.row (.slice (some ⟨go, 0, none⟩) no co) 3 1 no (intCs o)]) 14 [(0, 1), (1, 1), (2, 1), (3, 1), (4, 1), (5, 0), (6, 1), (7, 1), (8, 1), (9, 1), (10, 0), (11, 1), (12, 2), (13, 2), (14, 3)] (by kernel_rfl) (by kernel_rfl) (PQ.then_ (PQ.block (PQ.block (PQ.then_ (PQ.block (PQ.then_ PQ.body)))))) ((O26.re [2] rfl : Own Z0 W w24 [.row (.slice (some ⟨go, 0, none⟩) no co) 3 1 no (intCs o)])).drew ?_
              have O148 : Own Z0 W w24.drew [.iter g12 s (i + 1), .row (.slice At nt ct) 38 3 nt (ncells t), .row (.slice (some ⟨go, 0, none⟩) no co) 3 1 no (intCs o)] := O26.drew
              refine wt1 (v := .slice At nt ct) rfl (fun ρ e W => ex_move (e _ _ rfl)) rfl rfl ?_
              refine wt1 (v := .slice (some ⟨go, 0, none⟩) no co) rfl (fun ρ e W => ex_move (e _ _ rfl)) rfl rfl ?_
              refine wt1 (v := .int .i64 (no : Int)) rfl (fun ρ e W => ex_move (e _ _ rfl)) rfl rfl ?_
              refine wt1 (v := .int .i64 ((no - 2 : Nat) : Int)) rfl (fun ρ e W => ex_arith (k := .i64) (u := (no : Int)) (v := 2) (e _ _ rfl) (e _ _ rfl) (congrArg some ((congrArg _ (show _ = ((no - 2 : Nat) : Int) by omega)).trans (wrap_in (by omega) (by omega))))) rfl rfl ?_
              refine wt1 (v := .pointer (some ⟨go, (no - 2), none⟩)) rfl (fun ρ e W => ex_idx (q := (no - 2)) (i := no - 2) el36 (e _ _ rfl) (e _ _ rfl) (by omega) (by omega)) rfl rfl ?_
              refine wt0 (v := .int .i64 u1) rfl (fun ρ e W hW => ex_load1 ty3 (e _ _ rfl) (rowcell (hW.row 0 rfl) (intCs_get hu1))) rfl rfl ?_
              refine wt1 (v := .slice (some ⟨go, 0, none⟩) no co) rfl (fun ρ e W => ex_move (e _ _ rfl)) rfl rfl ?_
              refine wt1 (v := .int .i64 (no : Int)) rfl (fun ρ e W => ex_move (e _ _ rfl)) rfl rfl ?_
              refine wt1 (v := .int .i64 ((no - 1 : Nat) : Int)) rfl (fun ρ e W => ex_arith (k := .i64) (u := (no : Int)) (v := 1) (e _ _ rfl) (e _ _ rfl) (congrArg some ((congrArg _ (show _ = ((no - 1 : Nat) : Int) by omega)).trans (wrap_in (by omega) (by omega))))) rfl rfl ?_
              refine wt1 (v := .pointer (some ⟨go, (no - 1), none⟩)) rfl (fun ρ e W => ex_idx (q := (no - 1)) (i := no - 1) el36 (e _ _ rfl) (e _ _ rfl) (by omega) (by omega)) rfl rfl ?_
              refine wt0 (v := .int .i64 u2) rfl (fun ρ e W hW => ex_load1 ty3 (e _ _ rfl) (rowcell (hW.row 0 rfl) (intCs_get hu2))) rfl rfl ?_
              refine wt1 (v := .agg #[.int .i64 u1, .int .i64 u2, .int .i64 0]) rfl (fun ρ e W => ex_build (cells := #[.int .i64 u1, .int .i64 u2, .int .i64 0]) st38 (e.parts rfl) rfl) rfl rfl ?_
              obtain ⟨g149, w150, r151, O152, hg153, hs154⟩ := own_slice O148 el23 ze38 1 [(0, .agg #[.int .i64 u1, .int .i64 u2, .int .i64 0])] (cs := #[.int .i64 u1, .int .i64 u2, .int .i64 0]) (by decide) (by kernel_rfl)
              refine wt2 (v := .slice (some ⟨g149, 0, none⟩) 1 1) rfl (fun ρ e => r151 ρ _ _ _ _ _ _ (e.parts rfl)) rfl rfl (O152.re [3] rfl : Own Z0 W w150 [.row (.slice (some ⟨go, 0, none⟩) no co) 3 1 no (intCs o)]) ?_
              obtain ⟨A155, c156, w157, r158, O159, hz160, hc161⟩ := own_app1 (O152.re [2, 0, 1, 3] rfl : Own Z0 W w150 [.row (.slice At nt ct) 38 3 nt (ncells t), .blk g149 38 #[.int .i64 u1, .int .i64 u2, .int .i64 0], .iter g12 s (i + 1), .row (.slice (some ⟨go, 0, none⟩) no co) 3 1 no (intCs o)]) ap23 ((O152.re [2, 0, 1, 3] rfl : Own Z0 W w150 [.row (.slice At nt ct) 38 3 nt (ncells t), .blk g149 38 #[.int .i64 u1, .int .i64 u2, .int .i64 0], .iter g12 s (i + 1), .row (.slice (some ⟨go, 0, none⟩) no co) 3 1 no (intCs o)]).blk 1 rfl) (cells := [.int .i64 u1, .int .i64 u2, .int .i64 0]) rfl rfl (by omega) (by omega) (ys := (ncells (t ++ [(VN.mk u1 u2 0)]))) (ncells_snoc t (VN.mk u1 u2 0))
              refine wt2 (v := .slice A155 (nt + 1) c156) rfl (fun ρ e => r158 ρ _ _ _ _ _ _ _ (e _ _ rfl) (e _ _ rfl)) rfl rfl (O159.re [3] rfl : Own Z0 W w157 [.row (.slice (some ⟨go, 0, none⟩) no co) 3 1 no (intCs o)]) ?_
              refine wt3 (v := .slice A155 (nt + 1) c156) rfl (fun ρ e => ex_assign (e _ _ rfl)) rfl rfl ?_
              refine wt_nil ?_
              refine xw_next K147 ?_
              refine cw_region ?_
              refine wl_val (v := .slice (some ⟨go, 0, none⟩) no co) (fun ρ e => ex_move (e _ _ rfl)) rfl rfl ?_
              refine wl_val (v := .int .i64 (no : Int)) (fun ρ e => ex_move (e _ _ rfl)) rfl rfl ?_
              refine wl_val (v := .int .i64 ((no - 2 : Nat) : Int)) (fun ρ e => ex_arith (k := .i64) (u := (no : Int)) (v := 2) (e _ _ rfl) (e _ _ rfl) (congrArg some ((congrArg _ (show _ = ((no - 2 : Nat) : Int) by omega)).trans (wrap_in (by omega) (by omega))))) rfl rfl ?_
              refine wl_val (v := .int .i64 (no : Int)) (fun ρ e => ex_move (e _ _ rfl)) rfl rfl ?_
              refine wl_val (v := .int .i64 ((no - 2 : Nat) : Int)) (fun ρ e => ex_arith (k := .i64) (u := (no : Int)) (v := 2) (e _ _ rfl) (e _ _ rfl) (congrArg some ((congrArg _ (show _ = ((no - 2 : Nat) : Int) by omega)).trans (wrap_in (by omega) (by omega))))) rfl rfl ?_
              refine wl_val (v := .slice (some ⟨go, 0, none⟩) (no - 2) (no - 2)) (fun ρ e => ex_slice3 (h := no - 2) el36 (e _ _ rfl) (e _ _ rfl) (e _ _ rfl) (by omega)) rfl rfl ?_
              refine wl_val (v := .slice A155 (nt + 1) c156) (fun ρ e => ex_move (e _ _ rfl)) rfl rfl ?_
              refine wl_val (v := .int .i64 ((nt + 1 : Nat) : Int)) (fun ρ e => ex_len el23 (e _ _ rfl)) rfl rfl ?_
              refine wl_val (v := .int .i64 (nt : Int)) (fun ρ e => ex_arith (k := .i64) (u := ((nt + 1 : Nat) : Int)) (v := 1) (e _ _ rfl) (e _ _ rfl) (congrArg some ((congrArg _ (show _ = (nt : Int) by omega)).trans (wrap_in (by omega) (by omega))))) rfl rfl ?_
              obtain ⟨g162, w163, r164, O165, hg166, hs167⟩ := own_slice O159 el36 ze3 1 [(0, .int .i64 (nt : Int))] (cs := #[.int .i64 (nt : Int)]) (by decide) (by kernel_rfl)
              refine wl_val (v := .slice (some ⟨g162, 0, none⟩) 1 1) (fun ρ e => r164 ρ _ _ _ _ _ _ (e.parts rfl)) rfl rfl ?_
              obtain ⟨A168, c169, w170, r171, O172⟩ := own_appcut (l := o) (k := no - 2) (O165.re [4, 0, 1, 2, 3] rfl : Own Z0 W w163 [.row (.slice (some ⟨go, 0, none⟩) no co) 3 1 no (intCs o), .blk g162 3 #[.int .i64 (nt : Int)], .row (.slice A155 (nt + 1) c156) 38 3 (nt + 1) (ncells (t ++ [(VN.mk u1 u2 0)])), .blk g149 38 #[.int .i64 u1, .int .i64 u2, .int .i64 0], .iter g12 s (i + 1)]) (by omega) (by omega)
              refine wl_val (v := .slice A168 (no - 2 + 1) c169) (fun ρ e => r171 ρ _ _ _ _ _ _ _ (e _ _ rfl) (e _ _ rfl)) rfl rfl ?_
              refine wl_val (v := .slice A168 (no - 2 + 1) c169) (fun ρ e => ex_assign (e _ _ rfl)) rfl rfl ?_
              refine wl_nil ?_
              refine xw_block ?_
              refine xw_block ?_
              refine xw_round K21 (i + 1, A155, c156, nt + 1, (t ++ [VN.mk u1 u2 0]), A168, c169, (no - 2 + 1), (o.take (no - 2) ++ [(nt : Int)]), n) (by show s.size - (i + 1) < s.size - i; omega) ⟨(by show i + 1 ≤ s.size; omega), (by show scanP _ [] [] 0 = scanP _ (t ++ [_]) _ n; rw [hnt, hno, hsc]; exact scan_close (by omega) (by omega) (by omega) (hno ▸ hu1) (hno ▸ hu2)), hn0, (by show nt + 1 = (t ++ [_]).length; simp [hnt]), (by show nt + 1 ≤ i + 1; omega), (by show no - 2 + 1 = (o.take _ ++ [_]).length; simp [List.length_take]; omega), (by show no - 2 + 1 ≤ i + 1; omega), (O172.re [2, 0, 4] rfl : Own Z0 W w170 [.row (.slice A155 (nt + 1) c156) 38 3 (nt + 1) (ncells (t ++ [(VN.mk u1 u2 0)])), .row (.slice A168 (no - 2 + 1) c169) 3 1 (no - 2 + 1) (intCs (o.take (no - 2) ++ [(nt : Int)])), .iter g12 s (i + 1)])⟩ ⟨rfl, rfl, rfl, rfl, rfl, trivial⟩
          · skip
            refine wl_val (v := .bool false) (fun ρ e => ex_cmp (u := (c.toNat : Int)) (v := 41) (e _ _ rfl) (e _ _ rfl) (eql0 (by omega))) rfl rfl ?_
            refine wl_val (v := .bool false) (fun ρ e => ex_assign (e _ _ rfl)) rfl rfl ?_
            refine wl_nil ?_
            refine xw_next K139 ?_
            refine cw_false rfl ?_
            refine cw_seq (fun FK173 K173 => ?_)
            refine cw_region ?_
            refine wl_val (v := .int .i32 (c.toNat : Int)) (fun ρ e => ex_move (e _ _ rfl)) rfl rfl ?_
            by_cases c174 : (c.toNat : Int) ≠ 40
            · skip
              refine wl_val (v := .bool true) (fun ρ e => ex_cmp (u := (c.toNat : Int)) (v := 40) (e _ _ rfl) (e _ _ rfl) (neq1 (by omega))) rfl rfl ?_
              refine wl_val (v := .bool true) (fun ρ e => ex_move (e _ _ rfl)) rfl rfl ?_
              refine wl_val (v := .int .i32 (c.toNat : Int)) (fun ρ e => ex_move (e _ _ rfl)) rfl rfl ?_
              by_cases c175 : (c.toNat : Int) ≠ 32
              · skip
                refine wl_val (v := .bool true) (fun ρ e => ex_cmp (u := (c.toNat : Int)) (v := 32) (e _ _ rfl) (e _ _ rfl) (neq1 (by omega))) rfl rfl ?_
                refine wl_val (v := .bool true) (fun ρ e => ex_pick1 (e _ _ rfl) (e _ _ rfl)) rfl rfl ?_
                refine wl_val (v := .bool true) (fun ρ e => ex_assign (e _ _ rfl)) rfl rfl ?_
                refine wl_nil ?_
                refine xw_next K173 ?_
                refine cw_true rfl ?_
                refine cw_seq (fun FK176 K176 => ?_)
                refine cw_region ?_
                refine wl_val (v := .slice none 0 0) (fun ρ e => ex_assign (e _ _ rfl)) rfl rfl ?_
                refine wl_val (v := .int .i64 5) (fun ρ e => ex_assign (e _ _ rfl)) rfl rfl ?_
                refine wl_nil ?_
                refine xw_next K176 ?_
                refine cw_ret ?_
                refine xw_blockret ?_
                refine xw_blockret ?_
                refine xw_past (by intro h; cases h) ?_
                refine xw_blockret ?_
                refine xw_past (by intro h; cases h) ?_
                refine xw_ret (v := .tuple #[.slice none 0 0, .int .i64 5]) (fun T hT => res2 rfl T _ (hT 2 _ rfl) (hT 3 _ rfl)) ?_
                have hp : parseOf s.data.toList = ([], 5) := parse_none (hsc.trans (scan_bad (by omega) (by omega) (by omega) (by omega)))
                rw [hp]
                have O177 := O26.nilrow 38 3
                exact ⟨none, 0, rfl, O177.re [0] rfl⟩
              · skip
                refine wl_val (v := .bool false) (fun ρ e => ex_cmp (u := (c.toNat : Int)) (v := 32) (e _ _ rfl) (e _ _ rfl) (neq0 (by omega))) rfl rfl ?_
                refine wl_val (v := .bool false) (fun ρ e => ex_pick1 (e _ _ rfl) (e _ _ rfl)) rfl rfl ?_
                refine wl_val (v := .bool false) (fun ρ e => ex_assign (e _ _ rfl)) rfl rfl ?_
                refine wl_nil ?_
                refine xw_next K173 ?_
                refine cw_false rfl ?_
                refine cw_skip ?_
                refine xw_block ?_
                refine xw_block ?_
                refine xw_round K21 (i + 1, At, ct, nt, t, Ao, co, no, o, n) (by show s.size - (i + 1) < s.size - i; omega) ⟨(by show i + 1 ≤ s.size; omega), (by show scanP _ [] [] 0 = scanP _ _ _ _; rw [hsc]; exact scan_skip (by omega) (by omega)), (by show (0 : Int) ≤ n ∧ n ≤ 9999; omega), hnt, (by show nt ≤ i + 1; omega), hno, (by show no ≤ i + 1; omega), (O26.re [1, 2, 0] rfl : Own Z0 W w24 [.row (.slice At nt ct) 38 3 nt (ncells t), .row (.slice Ao no co) 3 1 no (intCs o), .iter g12 s (i + 1)])⟩ ⟨rfl, rfl, rfl, rfl, rfl, trivial⟩
            · skip
              refine wl_val (v := .bool false) (fun ρ e => ex_cmp (u := (c.toNat : Int)) (v := 40) (e _ _ rfl) (e _ _ rfl) (neq0 (by omega))) rfl rfl ?_
              refine wl_val (v := .bool false) (fun ρ e => ex_move (e _ _ rfl)) rfl rfl ?_
              refine wl_skip rfl rfl ?_
              refine wl_skip rfl rfl ?_
              refine wl_val (v := .bool false) (fun ρ e => ex_pick0 (e _ _ rfl) (e _ _ rfl)) rfl rfl ?_
              refine wl_val (v := .bool false) (fun ρ e => ex_assign (e _ _ rfl)) rfl rfl ?_
              refine wl_nil ?_
              refine xw_next K173 ?_
              refine cw_false rfl ?_
              refine cw_skip ?_
              refine xw_block ?_
              refine xw_block ?_
              refine xw_round K21 (i + 1, At, ct, nt, t, Ao, co, no, o, n) (by show s.size - (i + 1) < s.size - i; omega) ⟨(by show i + 1 ≤ s.size; omega), (by show scanP _ [] [] 0 = scanP _ _ _ _; rw [hsc]; exact scan_skip (by omega) (by omega)), (by show (0 : Int) ≤ n ∧ n ≤ 9999; omega), hnt, (by show nt ≤ i + 1; omega), hno, (by show no ≤ i + 1; omega), (O26.re [1, 2, 0] rfl : Own Z0 W w24 [.row (.slice At nt ct) 38 3 nt (ncells t), .row (.slice Ao no co) 3 1 no (intCs o), .iter g12 s (i + 1)])⟩ ⟨rfl, rfl, rfl, rfl, rfl, trivial⟩
      · skip
        obtain ⟨hr1, hr2⟩ := decode_hi hc (by omega)
        have hbad := hsc.trans (scan_bad (.inr (.inl (by omega))) (by omega) (by omega) (by omega))
        refine cw_seq (fun FK178 K178 => ?_)
        refine cw_region ?_
        obtain ⟨w179, r180, O181⟩ := own_nextN (O22.re [2, 0, 1] rfl : Own Z0 W w19 [.iter g12 s i, .row (.slice At nt ct) 38 3 nt (ncells t), .row (.slice Ao no co) 3 1 no (intCs o)]) hi
        refine wl_val (v := .tuple #[.bool true, .int .i64 (i : Int), .int .i32 ((Utf8.decode s i).1 : Int)]) (fun ρ e => r180 ρ _ _ _ _ _ _ (e _ _ rfl)) rfl rfl ?_
        refine wl_val (v := .bool true) (fun ρ e => ex_extract (vs := #[.bool true, .int .i64 (i : Int), .int .i32 ((Utf8.decode s i).1 : Int)]) (e _ _ rfl) rfl) rfl rfl ?_
        refine wl_nil ?_
        refine xw_next K178 ?_
        refine cw_seq (fun FK182 K182 => ?_)
        refine cw_true rfl ?_
        refine cw_skip ?_
        refine xw_next K182 ?_
        refine cw_block ?_
        refine cw_seq (fun FK183 K183 => ?_)
        refine cw_region ?_
        refine wl_val (v := .int .i64 (i : Int)) (fun ρ e => ex_extract (vs := #[.bool true, .int .i64 (i : Int), .int .i32 ((Utf8.decode s i).1 : Int)]) (e _ _ rfl) rfl) rfl rfl ?_
        refine wl_val (v := .int .i32 ((Utf8.decode s i).1 : Int)) (fun ρ e => ex_extract (vs := #[.bool true, .int .i64 (i : Int), .int .i32 ((Utf8.decode s i).1 : Int)]) (e _ _ rfl) rfl) rfl rfl ?_
        refine wl_val (v := .int .i64 (i : Int)) (fun ρ e => ex_assign (e _ _ rfl)) rfl rfl ?_
        refine wl_val (v := .int .i32 ((Utf8.decode s i).1 : Int)) (fun ρ e => ex_assign (e _ _ rfl)) rfl rfl ?_
        refine wl_nil ?_
        refine xw_next K183 ?_
        refine cw_block ?_
        refine cw_seq (fun FK184 K184 => ?_)
        refine cw_region ?_
        refine wl_val (v := .int .i32 ((Utf8.decode s i).1 : Int)) (fun ρ e => ex_move (e _ _ rfl)) rfl rfl ?_
        refine wl_val (v := .bool true) (fun ρ e => ex_cmp (u := ((Utf8.decode s i).1 : Int)) (v := 48) (e _ _ rfl) (e _ _ rfl) (geq1 (by omega))) rfl rfl ?_
        refine wl_val (v := .bool true) (fun ρ e => ex_move (e _ _ rfl)) rfl rfl ?_
        refine wl_val (v := .int .i32 ((Utf8.decode s i).1 : Int)) (fun ρ e => ex_move (e _ _ rfl)) rfl rfl ?_
        refine wl_val (v := .bool false) (fun ρ e => ex_cmp (u := ((Utf8.decode s i).1 : Int)) (v := 57) (e _ _ rfl) (e _ _ rfl) (leq0 (by omega))) rfl rfl ?_
        refine wl_val (v := .bool false) (fun ρ e => ex_pick1 (e _ _ rfl) (e _ _ rfl)) rfl rfl ?_
        refine wl_val (v := .bool false) (fun ρ e => ex_move (e _ _ rfl)) rfl rfl ?_
        refine wl_skip rfl rfl ?_
        refine wl_skip rfl rfl ?_
        refine wl_val (v := .bool false) (fun ρ e => ex_pick0 (e _ _ rfl) (e _ _ rfl)) rfl rfl ?_
        refine wl_val (v := .bool false) (fun ρ e => ex_assign (e _ _ rfl)) rfl rfl ?_
        refine wl_nil ?_
        refine xw_next K184 ?_
        refine cw_false rfl ?_
        refine cw_seq (fun FK185 K185 => ?_)
        refine cw_region ?_
        refine wl_val (v := .int .i32 ((Utf8.decode s i).1 : Int)) (fun ρ e => ex_move (e _ _ rfl)) rfl rfl ?_
        refine wl_val (v := .bool false) (fun ρ e => ex_cmp (u := ((Utf8.decode s i).1 : Int)) (v := 41) (e _ _ rfl) (e _ _ rfl) (eql0 (by omega))) rfl rfl ?_
        refine wl_val (v := .bool false) (fun ρ e => ex_assign (e _ _ rfl)) rfl rfl ?_
        refine wl_nil ?_
        refine xw_next K185 ?_
        refine cw_false rfl ?_
        refine cw_seq (fun FK186 K186 => ?_)
        refine cw_region ?_
        refine wl_val (v := .int .i32 ((Utf8.decode s i).1 : Int)) (fun ρ e => ex_move (e _ _ rfl)) rfl rfl ?_
        refine wl_val (v := .bool true) (fun ρ e => ex_cmp (u := ((Utf8.decode s i).1 : Int)) (v := 40) (e _ _ rfl) (e _ _ rfl) (neq1 (by omega))) rfl rfl ?_
        refine wl_val (v := .bool true) (fun ρ e => ex_move (e _ _ rfl)) rfl rfl ?_
        refine wl_val (v := .int .i32 ((Utf8.decode s i).1 : Int)) (fun ρ e => ex_move (e _ _ rfl)) rfl rfl ?_
        refine wl_val (v := .bool true) (fun ρ e => ex_cmp (u := ((Utf8.decode s i).1 : Int)) (v := 32) (e _ _ rfl) (e _ _ rfl) (neq1 (by omega))) rfl rfl ?_
        refine wl_val (v := .bool true) (fun ρ e => ex_pick1 (e _ _ rfl) (e _ _ rfl)) rfl rfl ?_
        refine wl_val (v := .bool true) (fun ρ e => ex_assign (e _ _ rfl)) rfl rfl ?_
        refine wl_nil ?_
        refine xw_next K186 ?_
        refine cw_true rfl ?_
        refine cw_seq (fun FK187 K187 => ?_)
        refine cw_region ?_
        refine wl_val (v := .slice none 0 0) (fun ρ e => ex_assign (e _ _ rfl)) rfl rfl ?_
        refine wl_val (v := .int .i64 5) (fun ρ e => ex_assign (e _ _ rfl)) rfl rfl ?_
        refine wl_nil ?_
        refine xw_next K187 ?_
        refine cw_ret ?_
        refine xw_blockret ?_
        refine xw_blockret ?_
        refine xw_past (by intro h; cases h) ?_
        refine xw_blockret ?_
        refine xw_past (by intro h; cases h) ?_
        refine xw_ret (v := .tuple #[.slice none 0 0, .int .i64 5]) (fun T hT => res2 rfl T _ (hT 2 _ rfl) (hT 3 _ rfl)) ?_
        have hp : parseOf s.data.toList = ([], 5) := parse_none hbad
        rw [hp]
        have O188 := O181.nilrow 38 3
        exact ⟨none, 0, rfl, O188.re [0] rfl⟩
    · have hie : i = s.size := by omega
      rw [List.drop_eq_nil_of_le (show s.data.toList.length ≤ i by rw [hsl]; omega)] at hsc
      have hsc2 : scanP s.data.toList [] [] 0 = some t := hsc
      refine cw_seq (fun FK189 K189 => ?_)
      refine cw_region ?_
      refine wl_val (v := .tuple #[.bool false]) (fun ρ e => ex_nextend (s := s) (pos := i) (O22.iter 2 rfl) hi (e _ _ rfl)) rfl rfl ?_
      refine wl_val (v := .bool false) (fun ρ e => ex_extract (vs := #[.bool false]) (e _ _ rfl) rfl) rfl rfl ?_
      refine wl_nil ?_
      refine xw_next K189 ?_
      refine cw_seq (fun FK193 K193 => ?_)
      refine cw_false rfl ?_
      refine cw_exit ?_
      refine xw_past (by intro h; cases h) ?_
      refine xw_past (by intro h; cases h) ?_
      refine xw_here ?_
      refine xw_next K10 ?_
      refine cw_seq (fun FK194 K194 => ?_)
      refine cw_seq (fun FK195 K195 => ?_)
      refine cw_region ?_
      refine wl_val (v := .slice At nt ct) (fun ρ e => ex_move (e _ _ rfl)) rfl rfl ?_
      refine wl_call (args := [.slice At nt ct]) in_39 rfl rfl rfl ?_
      refine (print_ (NodesD.of_row (O22.row 0 rfl)) (fun k hk => (World.ownsRow.lt (O22.row 0 rfl) k hk).2) (tab.below (Nat.le_refl _) O22.old)).mono ?_
      rintro _ w196 ⟨rfl, hb197⟩
      have O198 : Own Z0 W w196 [.row (.slice At nt ct) 38 3 nt (ncells t), .row (.slice Ao no co) 3 1 no (intCs o), .iter g12 s i] := O22.below hb197
      refine ⟨_, rfl, ?_⟩
      refine wl_val (v := .tuple #[.string (⟨(printOf t).toArray⟩), .int .i64 (chkV t)]) (fun ρ e => ex_move (e _ _ rfl)) rfl rfl ?_
      refine wl_val (v := .string (⟨(printOf t).toArray⟩)) (fun ρ e => ex_extract (vs := #[.string (⟨(printOf t).toArray⟩), .int .i64 (chkV t)]) (e _ _ rfl) rfl) rfl rfl ?_
      refine wl_val (v := .int .i64 (chkV t)) (fun ρ e => ex_extract (vs := #[.string (⟨(printOf t).toArray⟩), .int .i64 (chkV t)]) (e _ _ rfl) rfl) rfl rfl ?_
      refine wl_val (v := .string (⟨(printOf t).toArray⟩)) (fun ρ e => ex_assign (e _ _ rfl)) rfl rfl ?_
      refine wl_val (v := .int .i64 (chkV t)) (fun ρ e => ex_assign (e _ _ rfl)) rfl rfl ?_
      refine wl_nil ?_
      refine xw_next K195 ?_
      refine cw_seq (fun FK199 K199 => ?_)
      refine cw_region ?_
      refine wl_val (v := .int .i64 (chkV t)) (fun ρ e => ex_move (e _ _ rfl)) rfl rfl ?_
      by_cases c200 : (chkV t) ≠ 0
      · skip
        refine wl_val (v := .bool true) (fun ρ e => ex_cmp (u := (chkV t)) (v := 0) (e _ _ rfl) (e _ _ rfl) (neq1 (by omega))) rfl rfl ?_
        refine wl_val (v := .bool true) (fun ρ e => ex_move (e _ _ rfl)) rfl rfl ?_
        refine wl_skip rfl rfl ?_
        refine wl_skip rfl rfl ?_
        refine wl_skip rfl rfl ?_
        refine wl_val (v := .bool true) (fun ρ e => ex_pick1 (e _ _ rfl) (e _ _ rfl)) rfl rfl ?_
        refine wl_nil ?_
        refine xw_next K199 ?_
        refine cw_true rfl ?_
        refine cw_seq (fun FK201 K201 => ?_)
        refine cw_region ?_
        refine wl_val (v := .slice none 0 0) (fun ρ e => ex_assign (e _ _ rfl)) rfl rfl ?_
        refine wl_val (v := .int .i64 5) (fun ρ e => ex_assign (e _ _ rfl)) rfl rfl ?_
        refine wl_nil ?_
        refine xw_next K201 ?_
        refine cw_ret ?_
        refine xw_past (by intro h; cases h) ?_
        refine xw_ret (v := .tuple #[.slice none 0 0, .int .i64 5]) (fun T hT => res2 rfl T _ (hT 2 _ rfl) (hT 3 _ rfl)) ?_
        have hp : parseOf s.data.toList = ([], 5) := (parse_out (by rw [hsl]; omega) hsc2).trans (by rw [chk_no (by omega)]; rfl)
        rw [hp]
        have O202 := O198.nilrow 38 3
        exact ⟨none, 0, rfl, O202.re [0] rfl⟩
      · skip
        refine wl_val (v := .bool false) (fun ρ e => ex_cmp (u := (chkV t)) (v := 0) (e _ _ rfl) (e _ _ rfl) (neq0 (by omega))) rfl rfl ?_
        refine wl_val (v := .bool false) (fun ρ e => ex_move (e _ _ rfl)) rfl rfl ?_
        refine wl_val (v := .string (⟨(printOf t).toArray⟩)) (fun ρ e => ex_move (e _ _ rfl)) rfl rfl ?_
        refine wl_val (v := .string s) (fun ρ e => ex_move (e _ _ rfl)) rfl rfl ?_
        by_cases c203 : ⟨(printOf t).toArray⟩ = s
        · skip
          refine wl_val (v := .bool false) (fun ρ e => ex_neS (a := ⟨(printOf t).toArray⟩) (b := s) (e _ _ rfl) (e _ _ rfl) (by rw [decide_eq_true c203]; rfl)) rfl rfl ?_
          refine wl_val (v := .bool false) (fun ρ e => ex_pick0 (e _ _ rfl) (e _ _ rfl)) rfl rfl ?_
          refine wl_nil ?_
          refine xw_next K199 ?_
          refine cw_false rfl ?_
          refine cw_skip ?_
          refine xw_next K194 ?_
          refine cw_seq (fun FK204 K204 => ?_)
          refine cw_region ?_
          refine wl_val (v := .slice At nt ct) (fun ρ e => ex_move (e _ _ rfl)) rfl rfl ?_
          refine wl_val (v := .slice At nt ct) (fun ρ e => ex_assign (e _ _ rfl)) rfl rfl ?_
          refine wl_val (v := .int .i64 0) (fun ρ e => ex_assign (e _ _ rfl)) rfl rfl ?_
          refine wl_nil ?_
          refine xw_next K204 ?_
          refine cw_ret ?_
          refine xw_ret (v := .tuple #[.slice At nt ct, .int .i64 0]) (fun T hT => res2 rfl T _ (hT 2 _ rfl) (hT 3 _ rfl)) ?_
          have hp : parseOf s.data.toList = (t, 0) := (parse_out (by rw [hsl]; omega) hsc2).trans (by rw [if_pos (by simp only [Bool.and_eq_true, decide_eq_true_eq]; exact ⟨chk_ok (by omega), ba_to c203⟩)])
          rw [hp]
          have hO := (O198.re [0] rfl : Own Z0 W w196 [.row (.slice At nt ct) 38 3 nt (ncells t)])
          rw [hnt] at hO
          exact ⟨At, ct, by rw [hnt], hO⟩
        · skip
          refine wl_val (v := .bool true) (fun ρ e => ex_neS (a := ⟨(printOf t).toArray⟩) (b := s) (e _ _ rfl) (e _ _ rfl) (by rw [decide_eq_false c203]; rfl)) rfl rfl ?_
          refine wl_val (v := .bool true) (fun ρ e => ex_pick0 (e _ _ rfl) (e _ _ rfl)) rfl rfl ?_
          refine wl_nil ?_
          refine xw_next K199 ?_
          refine cw_true rfl ?_
          refine cw_seq (fun FK206 K206 => ?_)
          refine cw_region ?_
          refine wl_val (v := .slice none 0 0) (fun ρ e => ex_assign (e _ _ rfl)) rfl rfl ?_
          refine wl_val (v := .int .i64 5) (fun ρ e => ex_assign (e _ _ rfl)) rfl rfl ?_
          refine wl_nil ?_
          refine xw_next K206 ?_
          refine cw_ret ?_
          refine xw_past (by intro h; cases h) ?_
          refine xw_ret (v := .tuple #[.slice none 0 0, .int .i64 5]) (fun T hT => res2 rfl T _ (hT 2 _ rfl) (hT 3 _ rfl)) ?_
          have hp : parseOf s.data.toList = ([], 5) := (parse_out (by rw [hsl]; omega) hsc2).trans (by rw [if_neg (by simp only [Bool.and_eq_true, decide_eq_true_eq]; rintro ⟨_, q⟩; exact c203 (ba_of q))])
          rw [hp]
          have O207 := O198.nilrow 38 3
          exact ⟨none, 0, rfl, O207.re [0] rfl⟩
end Go.Proofs.YtpeoodkepjhhiaaDoor
namespace Go.Proofs.YtpeoodkepjhhiaaDoor
open Go Go.RowKit
theorem visit_ {ts : List VN} {f : Nat → Nat → Nat → Nat × Nat} {D DX : Nat → Prop} {PX : World → Prop} {tc chc vc oc b o c0 : Nat} {fch : FuncId} {caps : List Value} (hin : Enters Tryd.prog fch) (HC : ∀ (i a b a' b' : Nat), ts[i]? = some ⟨(a : Int), (b : Int), 0⟩ → f i a b = (a', b') → ∀ W, PX W → Calls Tryd.prog fch (([.int .i64 (i : Int), .agg #[.int .i64 (a : Int), .int .i64 (b : Int), .int .i64 0]] : List Value) ++ caps).toArray W fun e w' => e = .returned (.agg #[.int .i64 (a' : Int), .int .i64 (b' : Int), .int .i64 0]) ∧ Below W.heap.size W w') :
    ∀ {i : Nat} {T : Tr} {vs : List Nat}, At ts f i T vs → ∀ {Z : Bool → Nat → Prop} {w0 W : World} {A : Option Addr} {n c : Nat} {l : List VN}, Own Z w0 W [.blk tc 23 #[.slice (some ⟨b, o, none⟩) ts.length c0], .blk chc 78 #[.func (.func fch) #[] caps.toArray], .blk vc 75 #[.func (.func 79) #[] #[.pointer (some ⟨tc, 0, none⟩), .pointer (some ⟨chc, 0, none⟩), .pointer (some ⟨vc, 0, none⟩), .pointer (some ⟨oc, 0, none⟩)]], .blk oc 23 #[.slice A n c], .row (.slice A n c) 38 3 n (ncells l), .ro D (fun w => NodesD D w (.slice (some ⟨b, o, none⟩) ts.length c0) ts), .ro DX PX] → n + T.size ≤ 1000000 →
    Calls Tryd.prog 79 #[.int .i64 (i : Int), .pointer (some ⟨tc, 0, none⟩), .pointer (some ⟨chc, 0, none⟩), .pointer (some ⟨vc, 0, none⟩), .pointer (some ⟨oc, 0, none⟩)] W fun e w' => ∃ A' c', e = .returned (.int .i64 ((n + T.size - 1 : Nat) : Int)) ∧ Own Z w0 w' [.blk tc 23 #[.slice (some ⟨b, o, none⟩) ts.length c0], .blk chc 78 #[.func (.func fch) #[] caps.toArray], .blk vc 75 #[.func (.func 79) #[] #[.pointer (some ⟨tc, 0, none⟩), .pointer (some ⟨chc, 0, none⟩), .pointer (some ⟨vc, 0, none⟩), .pointer (some ⟨oc, 0, none⟩)]], .blk oc 23 #[.slice A' (n + T.size) c'], .row (.slice A' (n + T.size) c') 38 3 (n + T.size) (ncells (l ++ post T n)), .ro D (fun w => NodesD D w (.slice (some ⟨b, o, none⟩) ts.length c0) ts), .ro DX PX] := by
  intro i T vs hAt
  induction hAt with
  | @leaf i v hx h1 h2 =>
    intro Z w0 W A n c l O0 hlim
    have hi : i < ts.length := (List.getElem?_eq_some_iff.1 hx).1
    have hlf : (!(lf (VN.mk (-1) (-1) v))) = false := by rw [lf_leaf h1 h2]; rfl
    simp only [Tr.size] at hlim
    refine sx_enter (args := [.int .i64 (i : Int), .pointer (some ⟨tc, 0, none⟩), .pointer (some ⟨chc, 0, none⟩), .pointer (some ⟨vc, 0, none⟩), .pointer (some ⟨oc, 0, none⟩)]) Tryd.func79 rfl rfl (by simp) ?_
    refine cw_seq (fun FK1 K1 => ?_)
    refine cw_region ?_
    refine wl_val (v := .int .i64 0) (fun ρ e => ex_assign (e _ _ rfl)) rfl rfl ?_
    refine wl_nil ?_
    refine xw_next K1 ?_
    refine cw_seq (fun FK2 K2 => ?_)
    refine cw_region ?_
    refine wl_val (v := .slice (some ⟨b, o, none⟩) ts.length c0) (fun ρ e => ex_load1 ty23 (e _ _ rfl) (O0.cell 0 0 rfl rfl)) rfl rfl ?_
    refine wl_val (v := .int .i64 (i : Int)) (fun ρ e => ex_move (e _ _ rfl)) rfl rfl ?_
    refine wl_val (v := .pointer (some ⟨b, o + i * 3, none⟩)) (fun ρ e => ex_idx (q := o + i * 3) (i := i) el23 (e _ _ rfl) (e _ _ rfl) (by omega) (by omega)) rfl rfl ?_
    refine wl_val (v := .agg #[.int .i64 (-1), .int .i64 (-1), .int .i64 v]) (fun ρ e => ex_loadN (vs := [.int .i64 (-1), .int .i64 (-1), .int .i64 v]) ty38 (e _ _ rfl) rfl (cells3 (NodesD.c0 ((O0.ro 5 rfl : (fun w => NodesD D w (.slice (some ⟨b, o, none⟩) ts.length c0) ts) _) : NodesD _ _ _ _) hx) (NodesD.c1 ((O0.ro 5 rfl : (fun w => NodesD D w (.slice (some ⟨b, o, none⟩) ts.length c0) ts) _) : NodesD _ _ _ _) hx) (NodesD.c2 ((O0.ro 5 rfl : (fun w => NodesD D w (.slice (some ⟨b, o, none⟩) ts.length c0) ts) _) : NodesD _ _ _ _) hx))) rfl rfl ?_
    obtain ⟨g3, w4, r5, O6, hg7, hs8⟩ := own_alloc O0 38 ze38 rfl
    refine wl_val (v := .pointer (some ⟨g3, 0, none⟩)) (fun ρ e => r5 ρ _ _ _ _ _) rfl rfl ?_
    obtain ⟨w9, r10, O11, hs12⟩ := own_put (o := 0) (n := 3) O6 ty38 (.agg #[.int .i64 (-1), .int .i64 (-1), .int .i64 v]) [.int .i64 (-1), .int .i64 (-1), .int .i64 v] (cs' := #[.int .i64 (-1), .int .i64 (-1), .int .i64 v]) rfl rfl rfl (Nat.le_of_ble_eq_true rfl) rfl
    refine wl_none (fun ρ e => r10 ρ _ _ _ _ _ _ (e _ _ rfl) (e _ _ rfl)) rfl ?_
    refine wl_nil ?_
    refine xw_next K2 ?_
    refine cw_seq (fun FK13 K13 => ?_)
    refine cw_seq (fun FK14 K14 => ?_)
    refine cw_region ?_
    refine wl_val (v := .agg #[.int .i64 (-1), .int .i64 (-1), .int .i64 v]) (fun ρ e => ex_loadN (vs := [.int .i64 (-1), .int .i64 (-1), .int .i64 v]) ty38 (e _ _ rfl) rfl (O11.cells 0 0 rfl rfl)) rfl rfl ?_
    refine wl_call (args := [.agg #[.int .i64 (-1), .int .i64 (-1), .int .i64 v]]) in_53 rfl rfl rfl ?_
    refine (isleaf_ (VN.mk (-1) (-1) v) (W := w9)).mono ?_
    rintro _ w15 ⟨rfl, hb16⟩
    have O17 : Own Z w0 w15 [.blk g3 38 #[.int .i64 (-1), .int .i64 (-1), .int .i64 v], .blk tc 23 #[.slice (some ⟨b, o, none⟩) ts.length c0], .blk chc 78 #[.func (.func fch) #[] caps.toArray], .blk vc 75 #[.func (.func 79) #[] #[.pointer (some ⟨tc, 0, none⟩), .pointer (some ⟨chc, 0, none⟩), .pointer (some ⟨vc, 0, none⟩), .pointer (some ⟨oc, 0, none⟩)]], .blk oc 23 #[.slice A n c], .row (.slice A n c) 38 3 n (ncells l), .ro D (fun w => NodesD D w (.slice (some ⟨b, o, none⟩) ts.length c0) ts), .ro DX PX] := O11.below hb16
    refine ⟨_, rfl, ?_⟩
    refine wl_val (v := .bool (!(lf (VN.mk (-1) (-1) v)))) (fun ρ e => ex_lnot (b := (lf (VN.mk (-1) (-1) v))) (e _ _ rfl)) rfl rfl ?_
    refine wl_nil ?_
    refine xw_next K14 ?_
    refine cw_false (congrArg (fun b => some (Value.bool b)) hlf) ?_
    refine cw_skip ?_
    refine xw_next K13 ?_
    refine cw_seq (fun FK18 K18 => ?_)
    refine cw_region ?_
    refine wl_val (v := .slice A n c) (fun ρ e => ex_load1 ty23 (e _ _ rfl) (O17.cell 4 0 rfl rfl)) rfl rfl ?_
    refine wl_val (v := .agg #[.int .i64 (-1), .int .i64 (-1), .int .i64 v]) (fun ρ e => ex_loadN (vs := [.int .i64 (-1), .int .i64 (-1), .int .i64 v]) ty38 (e _ _ rfl) rfl (O17.cells 0 0 rfl rfl)) rfl rfl ?_
    obtain ⟨g19, w20, r21, O22, hg23, hs24⟩ := own_slice O17 el23 ze38 1 [(0, .agg #[.int .i64 (-1), .int .i64 (-1), .int .i64 v])] (cs := #[.int .i64 (-1), .int .i64 (-1), .int .i64 v]) (by decide) (by kernel_rfl)
    refine wl_val (v := .slice (some ⟨g19, 0, none⟩) 1 1) (fun ρ e => r21 ρ _ _ _ _ _ _ (e.parts rfl)) rfl rfl ?_
    obtain ⟨A25, c26, w27, r28, O29, hz30, hc31⟩ := own_app1 (O22.re [6, 0, 1, 2, 3, 4, 5, 7, 8] rfl : Own Z w0 w20 [.row (.slice A n c) 38 3 n (ncells l), .blk g19 38 #[.int .i64 (-1), .int .i64 (-1), .int .i64 v], .blk g3 38 #[.int .i64 (-1), .int .i64 (-1), .int .i64 v], .blk tc 23 #[.slice (some ⟨b, o, none⟩) ts.length c0], .blk chc 78 #[.func (.func fch) #[] caps.toArray], .blk vc 75 #[.func (.func 79) #[] #[.pointer (some ⟨tc, 0, none⟩), .pointer (some ⟨chc, 0, none⟩), .pointer (some ⟨vc, 0, none⟩), .pointer (some ⟨oc, 0, none⟩)]], .blk oc 23 #[.slice A n c], .ro D (fun w => NodesD D w (.slice (some ⟨b, o, none⟩) ts.length c0) ts), .ro DX PX]) ap23 ((O22.re [6, 0, 1, 2, 3, 4, 5, 7, 8] rfl : Own Z w0 w20 [.row (.slice A n c) 38 3 n (ncells l), .blk g19 38 #[.int .i64 (-1), .int .i64 (-1), .int .i64 v], .blk g3 38 #[.int .i64 (-1), .int .i64 (-1), .int .i64 v], .blk tc 23 #[.slice (some ⟨b, o, none⟩) ts.length c0], .blk chc 78 #[.func (.func fch) #[] caps.toArray], .blk vc 75 #[.func (.func 79) #[] #[.pointer (some ⟨tc, 0, none⟩), .pointer (some ⟨chc, 0, none⟩), .pointer (some ⟨vc, 0, none⟩), .pointer (some ⟨oc, 0, none⟩)]], .blk oc 23 #[.slice A n c], .ro D (fun w => NodesD D w (.slice (some ⟨b, o, none⟩) ts.length c0) ts), .ro DX PX]).blk 1 rfl) (cells := [.int .i64 (-1), .int .i64 (-1), .int .i64 v]) rfl rfl (by omega) (by omega) (ys := (ncells (l ++ [(VN.mk (-1) (-1) v)]))) (ncells_snoc l (VN.mk (-1) (-1) v))
    refine wl_val (v := .slice A25 (n + 1) c26) (fun ρ e => r28 ρ _ _ _ _ _ _ _ (e _ _ rfl) (e _ _ rfl)) rfl rfl ?_
    obtain ⟨w32, r33, O34, hs35⟩ := own_put (o := 0) (n := 1) (O29.re [6, 0, 1, 2, 3, 4, 5, 7, 8] rfl : Own Z w0 w27 [.blk oc 23 #[.slice A n c], .row (.slice A25 (n + 1) c26) 38 3 (n + 1) (ncells (l ++ [(VN.mk (-1) (-1) v)])), .blk g19 38 #[.int .i64 (-1), .int .i64 (-1), .int .i64 v], .blk g3 38 #[.int .i64 (-1), .int .i64 (-1), .int .i64 v], .blk tc 23 #[.slice (some ⟨b, o, none⟩) ts.length c0], .blk chc 78 #[.func (.func fch) #[] caps.toArray], .blk vc 75 #[.func (.func 79) #[] #[.pointer (some ⟨tc, 0, none⟩), .pointer (some ⟨chc, 0, none⟩), .pointer (some ⟨vc, 0, none⟩), .pointer (some ⟨oc, 0, none⟩)]], .ro D (fun w => NodesD D w (.slice (some ⟨b, o, none⟩) ts.length c0) ts), .ro DX PX]) ty23 (.slice A25 (n + 1) c26) [.slice A25 (n + 1) c26] (cs' := #[.slice A25 (n + 1) c26]) rfl rfl rfl (Nat.le_of_ble_eq_true rfl) rfl
    refine wl_none (fun ρ e => r33 ρ _ _ _ _ _ _ (e _ _ rfl) (e _ _ rfl)) rfl ?_
    refine wl_nil ?_
    refine xw_next K18 ?_
    refine cw_seq (fun FK36 K36 => ?_)
    refine cw_region ?_
    refine wl_val (v := .slice A25 (n + 1) c26) (fun ρ e => ex_load1 ty23 (e _ _ rfl) (O34.cell 0 0 rfl rfl)) rfl rfl ?_
    refine wl_val (v := .int .i64 ((n + 1 : Nat) : Int)) (fun ρ e => ex_len el23 (e _ _ rfl)) rfl rfl ?_
    refine wl_val (v := .int .i64 ((n + 1 - 1 : Nat) : Int)) (fun ρ e => ex_arith (k := .i64) (u := ((n + 1 : Nat) : Int)) (v := 1) (e _ _ rfl) (e _ _ rfl) (congrArg some ((congrArg _ (show _ = ((n + 1 - 1 : Nat) : Int) by omega)).trans (wrap_in (by omega) (by omega))))) rfl rfl ?_
    refine wl_val (v := .int .i64 ((n + 1 - 1 : Nat) : Int)) (fun ρ e => ex_assign (e _ _ rfl)) rfl rfl ?_
    refine wl_nil ?_
    refine xw_next K36 ?_
    refine cw_ret ?_
    refine xw_ret (v := .int .i64 ((n + 1 - 1 : Nat) : Int)) (fun T hT => res1 rfl T _ (hT 6 _ rfl)) ?_
    have hn : n + 1 = n + Tr.size (.leaf v) := by simp only [Tr.size] <;> omega
    have hl : (l ++ [(VN.mk (-1) (-1) v)]) = l ++ post (.leaf v) n := by simp [post]
    have hO := (O34.re [4, 5, 6, 0, 1, 7, 8] rfl : Own Z w0 w32 [.blk tc 23 #[.slice (some ⟨b, o, none⟩) ts.length c0], .blk chc 78 #[.func (.func fch) #[] caps.toArray], .blk vc 75 #[.func (.func 79) #[] #[.pointer (some ⟨tc, 0, none⟩), .pointer (some ⟨chc, 0, none⟩), .pointer (some ⟨vc, 0, none⟩), .pointer (some ⟨oc, 0, none⟩)]], .blk oc 23 #[.slice A25 (n + 1) c26], .row (.slice A25 (n + 1) c26) 38 3 (n + 1) (ncells (l ++ [(VN.mk (-1) (-1) v)])), .ro D (fun w => NodesD D w (.slice (some ⟨b, o, none⟩) ts.length c0) ts), .ro DX PX])
    rw [hn, hl] at hO
    exact ⟨A25, c26, congrArg (fun z : Nat => Ending.returned (.int .i64 (z : Int))) (show n + 1 - 1 = n + Tr.size (.leaf v) - 1 by simp only [Tr.size] <;> omega), hO⟩
  | @node i a b2 a' b' A1 B1 va vb hx hf hA hB ihA ihB =>
    intro Z w0 W A n c l O0 hlim
    have hi : i < ts.length := (List.getElem?_eq_some_iff.1 hx).1
    have hlf : (!(lf (VN.mk (a : Int) (b2 : Int) 0))) = true := by rw [lf_inner a b2]; rfl
    simp only [Tr.size] at hlim
    have hsa := A1.size_pos
    have hsb := B1.size_pos
    refine sx_enter (args := [.int .i64 (i : Int), .pointer (some ⟨tc, 0, none⟩), .pointer (some ⟨chc, 0, none⟩), .pointer (some ⟨vc, 0, none⟩), .pointer (some ⟨oc, 0, none⟩)]) Tryd.func79 rfl rfl (by simp) ?_
    refine cw_seq (fun FK1 K1 => ?_)
    refine cw_region ?_
    refine wl_val (v := .int .i64 0) (fun ρ e => ex_assign (e _ _ rfl)) rfl rfl ?_
    refine wl_nil ?_
    refine xw_next K1 ?_
    refine cw_seq (fun FK2 K2 => ?_)
    refine cw_region ?_
    refine wl_val (v := .slice (some ⟨b, o, none⟩) ts.length c0) (fun ρ e => ex_load1 ty23 (e _ _ rfl) (O0.cell 0 0 rfl rfl)) rfl rfl ?_
    refine wl_val (v := .int .i64 (i : Int)) (fun ρ e => ex_move (e _ _ rfl)) rfl rfl ?_
    refine wl_val (v := .pointer (some ⟨b, o + i * 3, none⟩)) (fun ρ e => ex_idx (q := o + i * 3) (i := i) el23 (e _ _ rfl) (e _ _ rfl) (by omega) (by omega)) rfl rfl ?_
    refine wl_val (v := .agg #[.int .i64 (a : Int), .int .i64 (b2 : Int), .int .i64 0]) (fun ρ e => ex_loadN (vs := [.int .i64 (a : Int), .int .i64 (b2 : Int), .int .i64 0]) ty38 (e _ _ rfl) rfl (cells3 (NodesD.c0 ((O0.ro 5 rfl : (fun w => NodesD D w (.slice (some ⟨b, o, none⟩) ts.length c0) ts) _) : NodesD _ _ _ _) hx) (NodesD.c1 ((O0.ro 5 rfl : (fun w => NodesD D w (.slice (some ⟨b, o, none⟩) ts.length c0) ts) _) : NodesD _ _ _ _) hx) (NodesD.c2 ((O0.ro 5 rfl : (fun w => NodesD D w (.slice (some ⟨b, o, none⟩) ts.length c0) ts) _) : NodesD _ _ _ _) hx))) rfl rfl ?_
    obtain ⟨g3, w4, r5, O6, hg7, hs8⟩ := own_alloc O0 38 ze38 rfl
    refine wl_val (v := .pointer (some ⟨g3, 0, none⟩)) (fun ρ e => r5 ρ _ _ _ _ _) rfl rfl ?_
    obtain ⟨w9, r10, O11, hs12⟩ := own_put (o := 0) (n := 3) O6 ty38 (.agg #[.int .i64 (a : Int), .int .i64 (b2 : Int), .int .i64 0]) [.int .i64 (a : Int), .int .i64 (b2 : Int), .int .i64 0] (cs' := #[.int .i64 (a : Int), .int .i64 (b2 : Int), .int .i64 0]) rfl rfl rfl (Nat.le_of_ble_eq_true rfl) rfl
    refine wl_none (fun ρ e => r10 ρ _ _ _ _ _ _ (e _ _ rfl) (e _ _ rfl)) rfl ?_
    refine wl_nil ?_
    refine xw_next K2 ?_
    refine cw_seq (fun FK13 K13 => ?_)
    refine cw_seq (fun FK14 K14 => ?_)
    refine cw_region ?_
    refine wl_val (v := .agg #[.int .i64 (a : Int), .int .i64 (b2 : Int), .int .i64 0]) (fun ρ e => ex_loadN (vs := [.int .i64 (a : Int), .int .i64 (b2 : Int), .int .i64 0]) ty38 (e _ _ rfl) rfl (O11.cells 0 0 rfl rfl)) rfl rfl ?_
    refine wl_call (args := [.agg #[.int .i64 (a : Int), .int .i64 (b2 : Int), .int .i64 0]]) in_53 rfl rfl rfl ?_
    refine (isleaf_ (VN.mk (a : Int) (b2 : Int) 0) (W := w9)).mono ?_
    rintro _ w15 ⟨rfl, hb16⟩
    have O17 : Own Z w0 w15 [.blk g3 38 #[.int .i64 (a : Int), .int .i64 (b2 : Int), .int .i64 0], .blk tc 23 #[.slice (some ⟨b, o, none⟩) ts.length c0], .blk chc 78 #[.func (.func fch) #[] caps.toArray], .blk vc 75 #[.func (.func 79) #[] #[.pointer (some ⟨tc, 0, none⟩), .pointer (some ⟨chc, 0, none⟩), .pointer (some ⟨vc, 0, none⟩), .pointer (some ⟨oc, 0, none⟩)]], .blk oc 23 #[.slice A n c], .row (.slice A n c) 38 3 n (ncells l), .ro D (fun w => NodesD D w (.slice (some ⟨b, o, none⟩) ts.length c0) ts), .ro DX PX] := O11.below hb16
    refine ⟨_, rfl, ?_⟩
    refine wl_val (v := .bool (!(lf (VN.mk (a : Int) (b2 : Int) 0)))) (fun ρ e => ex_lnot (b := (lf (VN.mk (a : Int) (b2 : Int) 0))) (e _ _ rfl)) rfl rfl ?_
    refine wl_nil ?_
    refine xw_next K14 ?_
    refine cw_true (congrArg (fun b => some (Value.bool b)) hlf) ?_
    refine cw_seq (fun FK18 K18 => ?_)
    refine cw_region ?_
    refine wl_val (v := .func (.func fch) #[] caps.toArray) (fun ρ e => ex_load1 ty78 (e _ _ rfl) (O17.cell 2 0 rfl rfl)) rfl rfl ?_
    refine wl_val (v := .int .i64 (i : Int)) (fun ρ e => ex_move (e _ _ rfl)) rfl rfl ?_
    refine wl_val (v := .agg #[.int .i64 (a : Int), .int .i64 (b2 : Int), .int .i64 0]) (fun ρ e => ex_loadN (vs := [.int .i64 (a : Int), .int .i64 (b2 : Int), .int .i64 0]) ty38 (e _ _ rfl) rfl (O17.cells 0 0 rfl rfl)) rfl rfl ?_
    refine wl_callv (args := [.int .i64 (i : Int), .agg #[.int .i64 (a : Int), .int .i64 (b2 : Int), .int .i64 0]]) (all := [.int .i64 (i : Int), .agg #[.int .i64 (a : Int), .int .i64 (b2 : Int), .int .i64 0]] ++ caps) hin rfl rfl (by simp) rfl rfl ?_
    refine (HC i a b2 a' b' hx hf _ (O17.ro 7 rfl)).mono ?_
    rintro _ w19 ⟨rfl, hb20⟩
    have O21 : Own Z w0 w19 [.blk g3 38 #[.int .i64 (a : Int), .int .i64 (b2 : Int), .int .i64 0], .blk tc 23 #[.slice (some ⟨b, o, none⟩) ts.length c0], .blk chc 78 #[.func (.func fch) #[] caps.toArray], .blk vc 75 #[.func (.func 79) #[] #[.pointer (some ⟨tc, 0, none⟩), .pointer (some ⟨chc, 0, none⟩), .pointer (some ⟨vc, 0, none⟩), .pointer (some ⟨oc, 0, none⟩)]], .blk oc 23 #[.slice A n c], .row (.slice A n c) 38 3 n (ncells l), .ro D (fun w => NodesD D w (.slice (some ⟨b, o, none⟩) ts.length c0) ts), .ro DX PX] := O17.below hb20
    refine ⟨_, rfl, ?_⟩
    obtain ⟨w22, r23, O24, hs25⟩ := own_put (o := 0) (n := 3) O21 ty38 (.agg #[.int .i64 (a' : Int), .int .i64 (b' : Int), .int .i64 0]) [.int .i64 (a' : Int), .int .i64 (b' : Int), .int .i64 0] (cs' := #[.int .i64 (a' : Int), .int .i64 (b' : Int), .int .i64 0]) rfl rfl rfl (Nat.le_of_ble_eq_true rfl) rfl
    refine wl_none (fun ρ e => r23 ρ _ _ _ _ _ _ (e _ _ rfl) (e _ _ rfl)) rfl ?_
    refine wl_nil ?_
    refine xw_next K18 ?_
    refine cw_seq (fun FK26 K26 => ?_)
    refine cw_region ?_
    refine wl_val (v := .func (.func 79) #[] #[.pointer (some ⟨tc, 0, none⟩), .pointer (some ⟨chc, 0, none⟩), .pointer (some ⟨vc, 0, none⟩), .pointer (some ⟨oc, 0, none⟩)]) (fun ρ e => ex_load1 ty75 (e _ _ rfl) (O24.cell 3 0 rfl rfl)) rfl rfl ?_
    refine wl_val (v := .pointer (some ⟨g3, 0, none⟩)) (fun ρ e => ex_field (q := 0) fi38_0 (e _ _ rfl) rfl) rfl rfl ?_
    refine wl_val (v := .int .i64 (a' : Int)) (fun ρ e => ex_load1 ty3 (e _ _ rfl) (O24.cell 0 0 rfl rfl)) rfl rfl ?_
    refine wl_callv (args := [.int .i64 (a' : Int)]) (all := [.int .i64 (a' : Int), .pointer (some ⟨tc, 0, none⟩), .pointer (some ⟨chc, 0, none⟩), .pointer (some ⟨vc, 0, none⟩), .pointer (some ⟨oc, 0, none⟩)]) in_79 rfl rfl rfl rfl rfl ?_
    have O31h := Own.hand (A := [.blk tc 23 #[.slice (some ⟨b, o, none⟩) ts.length c0], .blk chc 78 #[.func (.func fch) #[] caps.toArray], .blk vc 75 #[.func (.func 79) #[] #[.pointer (some ⟨tc, 0, none⟩), .pointer (some ⟨chc, 0, none⟩), .pointer (some ⟨vc, 0, none⟩), .pointer (some ⟨oc, 0, none⟩)]], .blk oc 23 #[.slice A n c], .row (.slice A n c) 38 3 n (ncells l), .ro D (fun w => NodesD D w (.slice (some ⟨b, o, none⟩) ts.length c0) ts), .ro DX PX]) (R := [.blk g3 38 #[.int .i64 (a' : Int), .int .i64 (b' : Int), .int .i64 0]]) (O24.re [1, 2, 3, 4, 5, 6, 7, 0] rfl : Own Z w0 w22 [.blk tc 23 #[.slice (some ⟨b, o, none⟩) ts.length c0], .blk chc 78 #[.func (.func fch) #[] caps.toArray], .blk vc 75 #[.func (.func 79) #[] #[.pointer (some ⟨tc, 0, none⟩), .pointer (some ⟨chc, 0, none⟩), .pointer (some ⟨vc, 0, none⟩), .pointer (some ⟨oc, 0, none⟩)]], .blk oc 23 #[.slice A n c], .row (.slice A n c) 38 3 n (ncells l), .ro D (fun w => NodesD D w (.slice (some ⟨b, o, none⟩) ts.length c0) ts), .ro DX PX, .blk g3 38 #[.int .i64 (a' : Int), .int .i64 (b' : Int), .int .i64 0]])
    refine (ihA (l := l) O31h (by omega)).mono ?_
    rintro _ w29 ⟨A27, c28, rfl, h30⟩
    have O31 : Own Z w0 w29 [.blk tc 23 #[.slice (some ⟨b, o, none⟩) ts.length c0], .blk chc 78 #[.func (.func fch) #[] caps.toArray], .blk vc 75 #[.func (.func 79) #[] #[.pointer (some ⟨tc, 0, none⟩), .pointer (some ⟨chc, 0, none⟩), .pointer (some ⟨vc, 0, none⟩), .pointer (some ⟨oc, 0, none⟩)]], .blk oc 23 #[.slice A27 (n + Tr.size A1) c28], .row (.slice A27 (n + Tr.size A1) c28) 38 3 (n + Tr.size A1) (ncells (l ++ post A1 n)), .ro D (fun w => NodesD D w (.slice (some ⟨b, o, none⟩) ts.length c0) ts), .ro DX PX, .blk g3 38 #[.int .i64 (a' : Int), .int .i64 (b' : Int), .int .i64 0]] := Own.frame (A := [.blk tc 23 #[.slice (some ⟨b, o, none⟩) ts.length c0], .blk chc 78 #[.func (.func fch) #[] caps.toArray], .blk vc 75 #[.func (.func 79) #[] #[.pointer (some ⟨tc, 0, none⟩), .pointer (some ⟨chc, 0, none⟩), .pointer (some ⟨vc, 0, none⟩), .pointer (some ⟨oc, 0, none⟩)]], .blk oc 23 #[.slice A n c], .row (.slice A n c) 38 3 n (ncells l), .ro D (fun w => NodesD D w (.slice (some ⟨b, o, none⟩) ts.length c0) ts), .ro DX PX]) (R := [.blk g3 38 #[.int .i64 (a' : Int), .int .i64 (b' : Int), .int .i64 0]]) (O24.re [1, 2, 3, 4, 5, 6, 7, 0] rfl : Own Z w0 w22 [.blk tc 23 #[.slice (some ⟨b, o, none⟩) ts.length c0], .blk chc 78 #[.func (.func fch) #[] caps.toArray], .blk vc 75 #[.func (.func 79) #[] #[.pointer (some ⟨tc, 0, none⟩), .pointer (some ⟨chc, 0, none⟩), .pointer (some ⟨vc, 0, none⟩), .pointer (some ⟨oc, 0, none⟩)]], .blk oc 23 #[.slice A n c], .row (.slice A n c) 38 3 n (ncells l), .ro D (fun w => NodesD D w (.slice (some ⟨b, o, none⟩) ts.length c0) ts), .ro DX PX, .blk g3 38 #[.int .i64 (a' : Int), .int .i64 (b' : Int), .int .i64 0]]) h30
    refine ⟨_, rfl, ?_⟩
    refine wl_val (v := .int .i64 ((n + Tr.size A1 - 1 : Nat) : Int)) (fun ρ e => ex_assign (e _ _ rfl)) rfl rfl ?_
    refine wl_nil ?_
    refine xw_next K26 ?_
    refine cw_region ?_
    refine wl_val (v := .int .i64 ((n + Tr.size A1 - 1 : Nat) : Int)) (fun ρ e => ex_move (e _ _ rfl)) rfl rfl ?_
    refine wl_val (v := .func (.func 79) #[] #[.pointer (some ⟨tc, 0, none⟩), .pointer (some ⟨chc, 0, none⟩), .pointer (some ⟨vc, 0, none⟩), .pointer (some ⟨oc, 0, none⟩)]) (fun ρ e => ex_load1 ty75 (e _ _ rfl) (O31.cell 2 0 rfl rfl)) rfl rfl ?_
    refine wl_val (v := .pointer (some ⟨g3, 1, none⟩)) (fun ρ e => ex_field (q := 1) fi38_1 (e _ _ rfl) rfl) rfl rfl ?_
    refine wl_val (v := .int .i64 (b' : Int)) (fun ρ e => ex_load1 ty3 (e _ _ rfl) (O31.cell 7 1 rfl rfl)) rfl rfl ?_
    refine wl_callv (args := [.int .i64 (b' : Int)]) (all := [.int .i64 (b' : Int), .pointer (some ⟨tc, 0, none⟩), .pointer (some ⟨chc, 0, none⟩), .pointer (some ⟨vc, 0, none⟩), .pointer (some ⟨oc, 0, none⟩)]) in_79 rfl rfl rfl rfl rfl ?_
    have O36h := Own.hand (A := [.blk tc 23 #[.slice (some ⟨b, o, none⟩) ts.length c0], .blk chc 78 #[.func (.func fch) #[] caps.toArray], .blk vc 75 #[.func (.func 79) #[] #[.pointer (some ⟨tc, 0, none⟩), .pointer (some ⟨chc, 0, none⟩), .pointer (some ⟨vc, 0, none⟩), .pointer (some ⟨oc, 0, none⟩)]], .blk oc 23 #[.slice A27 (n + Tr.size A1) c28], .row (.slice A27 (n + Tr.size A1) c28) 38 3 (n + Tr.size A1) (ncells (l ++ post A1 n)), .ro D (fun w => NodesD D w (.slice (some ⟨b, o, none⟩) ts.length c0) ts), .ro DX PX]) (R := [.blk g3 38 #[.int .i64 (a' : Int), .int .i64 (b' : Int), .int .i64 0]]) O31
    refine (ihB (l := (l ++ post A1 n)) O36h (by omega)).mono ?_
    rintro _ w34 ⟨A32, c33, rfl, h35⟩
    have O36 : Own Z w0 w34 [.blk tc 23 #[.slice (some ⟨b, o, none⟩) ts.length c0], .blk chc 78 #[.func (.func fch) #[] caps.toArray], .blk vc 75 #[.func (.func 79) #[] #[.pointer (some ⟨tc, 0, none⟩), .pointer (some ⟨chc, 0, none⟩), .pointer (some ⟨vc, 0, none⟩), .pointer (some ⟨oc, 0, none⟩)]], .blk oc 23 #[.slice A32 ((n + Tr.size A1) + Tr.size B1) c33], .row (.slice A32 ((n + Tr.size A1) + Tr.size B1) c33) 38 3 ((n + Tr.size A1) + Tr.size B1) (ncells ((l ++ post A1 n) ++ post B1 (n + Tr.size A1))), .ro D (fun w => NodesD D w (.slice (some ⟨b, o, none⟩) ts.length c0) ts), .ro DX PX, .blk g3 38 #[.int .i64 (a' : Int), .int .i64 (b' : Int), .int .i64 0]] := Own.frame (A := [.blk tc 23 #[.slice (some ⟨b, o, none⟩) ts.length c0], .blk chc 78 #[.func (.func fch) #[] caps.toArray], .blk vc 75 #[.func (.func 79) #[] #[.pointer (some ⟨tc, 0, none⟩), .pointer (some ⟨chc, 0, none⟩), .pointer (some ⟨vc, 0, none⟩), .pointer (some ⟨oc, 0, none⟩)]], .blk oc 23 #[.slice A27 (n + Tr.size A1) c28], .row (.slice A27 (n + Tr.size A1) c28) 38 3 (n + Tr.size A1) (ncells (l ++ post A1 n)), .ro D (fun w => NodesD D w (.slice (some ⟨b, o, none⟩) ts.length c0) ts), .ro DX PX]) (R := [.blk g3 38 #[.int .i64 (a' : Int), .int .i64 (b' : Int), .int .i64 0]]) O31 h35
    refine ⟨_, rfl, ?_⟩
    refine wl_val (v := .agg #[.int .i64 ((n + Tr.size A1 - 1 : Nat) : Int), .int .i64 (((n + Tr.size A1) + Tr.size B1 - 1 : Nat) : Int), .int .i64 0]) (fun ρ e => ex_build (cells := #[.int .i64 ((n + Tr.size A1 - 1 : Nat) : Int), .int .i64 (((n + Tr.size A1) + Tr.size B1 - 1 : Nat) : Int), .int .i64 0]) st38 (e.parts rfl) rfl) rfl rfl ?_
    obtain ⟨w37, r38, O39, hs40⟩ := own_put (o := 0) (n := 3) (O36.re [7, 0, 1, 2, 3, 4, 5, 6] rfl : Own Z w0 w34 [.blk g3 38 #[.int .i64 (a' : Int), .int .i64 (b' : Int), .int .i64 0], .blk tc 23 #[.slice (some ⟨b, o, none⟩) ts.length c0], .blk chc 78 #[.func (.func fch) #[] caps.toArray], .blk vc 75 #[.func (.func 79) #[] #[.pointer (some ⟨tc, 0, none⟩), .pointer (some ⟨chc, 0, none⟩), .pointer (some ⟨vc, 0, none⟩), .pointer (some ⟨oc, 0, none⟩)]], .blk oc 23 #[.slice A32 ((n + Tr.size A1) + Tr.size B1) c33], .row (.slice A32 ((n + Tr.size A1) + Tr.size B1) c33) 38 3 ((n + Tr.size A1) + Tr.size B1) (ncells ((l ++ post A1 n) ++ post B1 (n + Tr.size A1))), .ro D (fun w => NodesD D w (.slice (some ⟨b, o, none⟩) ts.length c0) ts), .ro DX PX]) ty38 (.agg #[.int .i64 ((n + Tr.size A1 - 1 : Nat) : Int), .int .i64 (((n + Tr.size A1) + Tr.size B1 - 1 : Nat) : Int), .int .i64 0]) [.int .i64 ((n + Tr.size A1 - 1 : Nat) : Int), .int .i64 (((n + Tr.size A1) + Tr.size B1 - 1 : Nat) : Int), .int .i64 0] (cs' := #[.int .i64 ((n + Tr.size A1 - 1 : Nat) : Int), .int .i64 (((n + Tr.size A1) + Tr.size B1 - 1 : Nat) : Int), .int .i64 0]) rfl rfl rfl (Nat.le_of_ble_eq_true rfl) rfl
    refine wl_none (fun ρ e => r38 ρ _ _ _ _ _ _ (e _ _ rfl) (e _ _ rfl)) rfl ?_
    refine wl_nil ?_
    refine xw_next K13 ?_
    refine cw_seq (fun FK41 K41 => ?_)
    refine cw_region ?_
    refine wl_val (v := .slice A32 ((n + Tr.size A1) + Tr.size B1) c33) (fun ρ e => ex_load1 ty23 (e _ _ rfl) (O39.cell 4 0 rfl rfl)) rfl rfl ?_
    refine wl_val (v := .agg #[.int .i64 ((n + Tr.size A1 - 1 : Nat) : Int), .int .i64 (((n + Tr.size A1) + Tr.size B1 - 1 : Nat) : Int), .int .i64 0]) (fun ρ e => ex_loadN (vs := [.int .i64 ((n + Tr.size A1 - 1 : Nat) : Int), .int .i64 (((n + Tr.size A1) + Tr.size B1 - 1 : Nat) : Int), .int .i64 0]) ty38 (e _ _ rfl) rfl (O39.cells 0 0 rfl rfl)) rfl rfl ?_
    obtain ⟨g42, w43, r44, O45, hg46, hs47⟩ := own_slice O39 el23 ze38 1 [(0, .agg #[.int .i64 ((n + Tr.size A1 - 1 : Nat) : Int), .int .i64 (((n + Tr.size A1) + Tr.size B1 - 1 : Nat) : Int), .int .i64 0])] (cs := #[.int .i64 ((n + Tr.size A1 - 1 : Nat) : Int), .int .i64 (((n + Tr.size A1) + Tr.size B1 - 1 : Nat) : Int), .int .i64 0]) (by decide) (by kernel_rfl)
    refine wl_val (v := .slice (some ⟨g42, 0, none⟩) 1 1) (fun ρ e => r44 ρ _ _ _ _ _ _ (e.parts rfl)) rfl rfl ?_
    obtain ⟨A48, c49, w50, r51, O52, hz53, hc54⟩ := own_app1 (O45.re [6, 0, 1, 2, 3, 4, 5, 7, 8] rfl : Own Z w0 w43 [.row (.slice A32 ((n + Tr.size A1) + Tr.size B1) c33) 38 3 ((n + Tr.size A1) + Tr.size B1) (ncells ((l ++ post A1 n) ++ post B1 (n + Tr.size A1))), .blk g42 38 #[.int .i64 ((n + Tr.size A1 - 1 : Nat) : Int), .int .i64 (((n + Tr.size A1) + Tr.size B1 - 1 : Nat) : Int), .int .i64 0], .blk g3 38 #[.int .i64 ((n + Tr.size A1 - 1 : Nat) : Int), .int .i64 (((n + Tr.size A1) + Tr.size B1 - 1 : Nat) : Int), .int .i64 0], .blk tc 23 #[.slice (some ⟨b, o, none⟩) ts.length c0], .blk chc 78 #[.func (.func fch) #[] caps.toArray], .blk vc 75 #[.func (.func 79) #[] #[.pointer (some ⟨tc, 0, none⟩), .pointer (some ⟨chc, 0, none⟩), .pointer (some ⟨vc, 0, none⟩), .pointer (some ⟨oc, 0, none⟩)]], .blk oc 23 #[.slice A32 ((n + Tr.size A1) + Tr.size B1) c33], .ro D (fun w => NodesD D w (.slice (some ⟨b, o, none⟩) ts.length c0) ts), .ro DX PX]) ap23 ((O45.re [6, 0, 1, 2, 3, 4, 5, 7, 8] rfl : Own Z w0 w43 [.row (.slice A32 ((n + Tr.size A1) + Tr.size B1) c33) 38 3 ((n + Tr.size A1) + Tr.size B1) (ncells ((l ++ post A1 n) ++ post B1 (n + Tr.size A1))), .blk g42 38 #[.int .i64 ((n + Tr.size A1 - 1 : Nat) : Int), .int .i64 (((n + Tr.size A1) + Tr.size B1 - 1 : Nat) : Int), .int .i64 0], .blk g3 38 #[.int .i64 ((n + Tr.size A1 - 1 : Nat) : Int), .int .i64 (((n + Tr.size A1) + Tr.size B1 - 1 : Nat) : Int), .int .i64 0], .blk tc 23 #[.slice (some ⟨b, o, none⟩) ts.length c0], .blk chc 78 #[.func (.func fch) #[] caps.toArray], .blk vc 75 #[.func (.func 79) #[] #[.pointer (some ⟨tc, 0, none⟩), .pointer (some ⟨chc, 0, none⟩), .pointer (some ⟨vc, 0, none⟩), .pointer (some ⟨oc, 0, none⟩)]], .blk oc 23 #[.slice A32 ((n + Tr.size A1) + Tr.size B1) c33], .ro D (fun w => NodesD D w (.slice (some ⟨b, o, none⟩) ts.length c0) ts), .ro DX PX]).blk 1 rfl) (cells := [.int .i64 ((n + Tr.size A1 - 1 : Nat) : Int), .int .i64 (((n + Tr.size A1) + Tr.size B1 - 1 : Nat) : Int), .int .i64 0]) rfl rfl (by omega) (by omega) (ys := (ncells (((l ++ post A1 n) ++ post B1 (n + Tr.size A1)) ++ [(VN.mk ((n + Tr.size A1 - 1 : Nat) : Int) (((n + Tr.size A1) + Tr.size B1 - 1 : Nat) : Int) 0)]))) (ncells_snoc ((l ++ post A1 n) ++ post B1 (n + Tr.size A1)) (VN.mk ((n + Tr.size A1 - 1 : Nat) : Int) (((n + Tr.size A1) + Tr.size B1 - 1 : Nat) : Int) 0))
    refine wl_val (v := .slice A48 (((n + Tr.size A1) + Tr.size B1) + 1) c49) (fun ρ e => r51 ρ _ _ _ _ _ _ _ (e _ _ rfl) (e _ _ rfl)) rfl rfl ?_
    obtain ⟨w55, r56, O57, hs58⟩ := own_put (o := 0) (n := 1) (O52.re [6, 0, 1, 2, 3, 4, 5, 7, 8] rfl : Own Z w0 w50 [.blk oc 23 #[.slice A32 ((n + Tr.size A1) + Tr.size B1) c33], .row (.slice A48 (((n + Tr.size A1) + Tr.size B1) + 1) c49) 38 3 (((n + Tr.size A1) + Tr.size B1) + 1) (ncells (((l ++ post A1 n) ++ post B1 (n + Tr.size A1)) ++ [(VN.mk ((n + Tr.size A1 - 1 : Nat) : Int) (((n + Tr.size A1) + Tr.size B1 - 1 : Nat) : Int) 0)])), .blk g42 38 #[.int .i64 ((n + Tr.size A1 - 1 : Nat) : Int), .int .i64 (((n + Tr.size A1) + Tr.size B1 - 1 : Nat) : Int), .int .i64 0], .blk g3 38 #[.int .i64 ((n + Tr.size A1 - 1 : Nat) : Int), .int .i64 (((n + Tr.size A1) + Tr.size B1 - 1 : Nat) : Int), .int .i64 0], .blk tc 23 #[.slice (some ⟨b, o, none⟩) ts.length c0], .blk chc 78 #[.func (.func fch) #[] caps.toArray], .blk vc 75 #[.func (.func 79) #[] #[.pointer (some ⟨tc, 0, none⟩), .pointer (some ⟨chc, 0, none⟩), .pointer (some ⟨vc, 0, none⟩), .pointer (some ⟨oc, 0, none⟩)]], .ro D (fun w => NodesD D w (.slice (some ⟨b, o, none⟩) ts.length c0) ts), .ro DX PX]) ty23 (.slice A48 (((n + Tr.size A1) + Tr.size B1) + 1) c49) [.slice A48 (((n + Tr.size A1) + Tr.size B1) + 1) c49] (cs' := #[.slice A48 (((n + Tr.size A1) + Tr.size B1) + 1) c49]) rfl rfl rfl (Nat.le_of_ble_eq_true rfl) rfl
    refine wl_none (fun ρ e => r56 ρ _ _ _ _ _ _ (e _ _ rfl) (e _ _ rfl)) rfl ?_
    refine wl_nil ?_
    refine xw_next K41 ?_
    refine cw_seq (fun FK59 K59 => ?_)
    refine cw_region ?_
    refine wl_val (v := .slice A48 (((n + Tr.size A1) + Tr.size B1) + 1) c49) (fun ρ e => ex_load1 ty23 (e _ _ rfl) (O57.cell 0 0 rfl rfl)) rfl rfl ?_
    refine wl_val (v := .int .i64 ((((n + Tr.size A1) + Tr.size B1) + 1 : Nat) : Int)) (fun ρ e => ex_len el23 (e _ _ rfl)) rfl rfl ?_
    refine wl_val (v := .int .i64 ((((n + Tr.size A1) + Tr.size B1) + 1 - 1 : Nat) : Int)) (fun ρ e => ex_arith (k := .i64) (u := ((((n + Tr.size A1) + Tr.size B1) + 1 : Nat) : Int)) (v := 1) (e _ _ rfl) (e _ _ rfl) (congrArg some ((congrArg _ (show _ = ((((n + Tr.size A1) + Tr.size B1) + 1 - 1 : Nat) : Int) by omega)).trans (wrap_in (by omega) (by omega))))) rfl rfl ?_
    refine wl_val (v := .int .i64 ((((n + Tr.size A1) + Tr.size B1) + 1 - 1 : Nat) : Int)) (fun ρ e => ex_assign (e _ _ rfl)) rfl rfl ?_
    refine wl_nil ?_
    refine xw_next K59 ?_
    refine cw_ret ?_
    refine xw_ret (v := .int .i64 ((((n + Tr.size A1) + Tr.size B1) + 1 - 1 : Nat) : Int)) (fun T hT => res1 rfl T _ (hT 6 _ rfl)) ?_
    have hn : ((n + Tr.size A1) + Tr.size B1) + 1 = n + Tr.size (.node A1 B1) := by simp only [Tr.size] <;> omega
    have hl : (((l ++ post A1 n) ++ post B1 (n + Tr.size A1)) ++ [(VN.mk ((n + Tr.size A1 - 1 : Nat) : Int) (((n + Tr.size A1) + Tr.size B1 - 1 : Nat) : Int) 0)]) = l ++ post (.node A1 B1) n := by simp [post]
    have hO := (O57.re [4, 5, 6, 0, 1, 7, 8] rfl : Own Z w0 w55 [.blk tc 23 #[.slice (some ⟨b, o, none⟩) ts.length c0], .blk chc 78 #[.func (.func fch) #[] caps.toArray], .blk vc 75 #[.func (.func 79) #[] #[.pointer (some ⟨tc, 0, none⟩), .pointer (some ⟨chc, 0, none⟩), .pointer (some ⟨vc, 0, none⟩), .pointer (some ⟨oc, 0, none⟩)]], .blk oc 23 #[.slice A48 (((n + Tr.size A1) + Tr.size B1) + 1) c49], .row (.slice A48 (((n + Tr.size A1) + Tr.size B1) + 1) c49) 38 3 (((n + Tr.size A1) + Tr.size B1) + 1) (ncells (((l ++ post A1 n) ++ post B1 (n + Tr.size A1)) ++ [(VN.mk ((n + Tr.size A1 - 1 : Nat) : Int) (((n + Tr.size A1) + Tr.size B1 - 1 : Nat) : Int) 0)])), .ro D (fun w => NodesD D w (.slice (some ⟨b, o, none⟩) ts.length c0) ts), .ro DX PX])
    rw [hn, hl] at hO
    exact ⟨A48, c49, congrArg (fun z : Nat => Ending.returned (.int .i64 (z : Int))) (show ((n + Tr.size A1) + Tr.size B1) + 1 - 1 = n + Tr.size (.node A1 B1) - 1 by simp only [Tr.size] <;> omega), hO⟩
theorem postorder_ {ts : List VN} {f : Nat → Nat → Nat → Nat × Nat} {D DX : Nat → Prop} {PX : World → Prop} {b o c0 : Nat} {fch : FuncId} {caps : List Value} {W : World} (hin : Enters Tryd.prog fch) (HC : ∀ (i a b a' b' : Nat), ts[i]? = some ⟨(a : Int), (b : Int), 0⟩ → f i a b = (a', b') → ∀ W, PX W → Calls Tryd.prog fch (([.int .i64 (i : Int), .agg #[.int .i64 (a : Int), .int .i64 (b : Int), .int .i64 0]] : List Value) ++ caps).toArray W fun e w' => e = .returned (.agg #[.int .i64 (a' : Int), .int .i64 (b' : Int), .int .i64 0]) ∧ Below W.heap.size W w') {TT : Tr} {vs : List Nat} (hAt : At ts f (ts.length - 1) TT vs) (hsz : TT.size ≤ 1000000)
    (hpos : 0 < ts.length) (hle : ts.length ≤ 255) (hN : NodesD D W (.slice (some ⟨b, o, none⟩) ts.length c0) ts) (hD : ∀ k, D k → k < W.heap.size) (hPX : (En.ro DX PX).holds W) :
    Calls Tryd.prog 60 #[.slice (some ⟨b, o, none⟩) ts.length c0, .func (.func fch) #[] caps.toArray] W fun e w' => ∃ A' c', e = .returned (.slice A' TT.size c') ∧ Own Z0 W w' [.row (.slice A' TT.size c') 38 3 TT.size (ncells (post TT 0))] := by
  have O0 : Own Z0 W W [.ro D (fun w => NodesD D w (.slice (some ⟨b, o, none⟩) ts.length c0) ts), .ro DX PX] := ((Own.start W).oldro (D := DX) (p := PX) hPX).oldro (D := D) (p := (fun w => NodesD D w (.slice (some ⟨b, o, none⟩) ts.length c0) ts)) (nodesE_holds hN hD)
  refine sx_enter (args := [.slice (some ⟨b, o, none⟩) ts.length c0, .func (.func fch) #[] caps.toArray]) Tryd.func60 rfl rfl (by simp) ?_
  refine cw_seq (fun FK1 K1 => ?_)
  refine cw_region ?_
  obtain ⟨g2, w3, r4, O5, hg6, hs7⟩ := own_box O0 23 (.slice (some ⟨b, o, none⟩) ts.length c0) rfl
  refine wl_val (v := .pointer (some ⟨g2, 0, none⟩)) (fun ρ e => r4 ρ _ _ _ _ _ _ (e _ _ rfl)) rfl rfl ?_
  obtain ⟨g8, w9, r10, O11, hg12, hs13⟩ := own_box O5 78 (.func (.func fch) #[] caps.toArray) rfl
  refine wl_val (v := .pointer (some ⟨g8, 0, none⟩)) (fun ρ e => r10 ρ _ _ _ _ _ _ (e _ _ rfl)) rfl rfl ?_
  refine wl_val (v := .slice none 0 0) (fun ρ e => ex_assign (e _ _ rfl)) rfl rfl ?_
  refine wl_nil ?_
  refine xw_next K1 ?_
  refine cw_seq (fun FK14 K14 => ?_)
  refine cw_region ?_
  obtain ⟨g15, w16, r17, O18, hg19, hs20⟩ := own_alloc O11 23 ze23 rfl
  refine wl_val (v := .pointer (some ⟨g15, 0, none⟩)) (fun ρ e => r17 ρ _ _ _ _ _) rfl rfl ?_
  refine wl_nil ?_
  refine xw_next K14 ?_
  refine cw_seq (fun FK21 K21 => ?_)
  refine cw_region ?_
  obtain ⟨g22, w23, r24, O25, hg26, hs27⟩ := own_alloc O18 75 ze75 rfl
  refine wl_val (v := .pointer (some ⟨g22, 0, none⟩)) (fun ρ e => r24 ρ _ _ _ _ _) rfl rfl ?_
  refine wl_nil ?_
  refine xw_next K21 ?_
  refine cw_seq (fun FK28 K28 => ?_)
  refine cw_region ?_
  refine wl_val (v := .func (.func 79) #[] #[.pointer (some ⟨g2, 0, none⟩), .pointer (some ⟨g8, 0, none⟩), .pointer (some ⟨g22, 0, none⟩), .pointer (some ⟨g15, 0, none⟩)]) (fun ρ e => ex_func (us := []) (vs := [.pointer (some ⟨g2, 0, none⟩), .pointer (some ⟨g8, 0, none⟩), .pointer (some ⟨g22, 0, none⟩), .pointer (some ⟨g15, 0, none⟩)]) (e.list rfl) (e.list rfl)) rfl rfl ?_
  obtain ⟨w29, r30, O31, hs32⟩ := own_put (o := 0) (n := 1) O25 ty75 (.func (.func 79) #[] #[.pointer (some ⟨g2, 0, none⟩), .pointer (some ⟨g8, 0, none⟩), .pointer (some ⟨g22, 0, none⟩), .pointer (some ⟨g15, 0, none⟩)]) [.func (.func 79) #[] #[.pointer (some ⟨g2, 0, none⟩), .pointer (some ⟨g8, 0, none⟩), .pointer (some ⟨g22, 0, none⟩), .pointer (some ⟨g15, 0, none⟩)]] (cs' := #[.func (.func 79) #[] #[.pointer (some ⟨g2, 0, none⟩), .pointer (some ⟨g8, 0, none⟩), .pointer (some ⟨g22, 0, none⟩), .pointer (some ⟨g15, 0, none⟩)]]) rfl rfl rfl (Nat.le_of_ble_eq_true rfl) rfl
  refine wl_none (fun ρ e => r30 ρ _ _ _ _ _ _ (e _ _ rfl) (e _ _ rfl)) rfl ?_
  refine wl_nil ?_
  refine xw_next K28 ?_
  refine cw_seq (fun FK33 K33 => ?_)
  refine cw_region ?_
  refine wl_val (v := .func (.func 79) #[] #[.pointer (some ⟨g2, 0, none⟩), .pointer (some ⟨g8, 0, none⟩), .pointer (some ⟨g22, 0, none⟩), .pointer (some ⟨g15, 0, none⟩)]) (fun ρ e => ex_load1 ty75 (e _ _ rfl) (O31.cell 0 0 rfl rfl)) rfl rfl ?_
  refine wl_val (v := .slice (some ⟨b, o, none⟩) ts.length c0) (fun ρ e => ex_load1 ty23 (e _ _ rfl) (O31.cell 3 0 rfl rfl)) rfl rfl ?_
  refine wl_val (v := .int .i64 ((ts.length : Nat) : Int)) (fun ρ e => ex_len el23 (e _ _ rfl)) rfl rfl ?_
  refine wl_val (v := .int .i64 ((ts.length - 1 : Nat) : Int)) (fun ρ e => ex_arith (k := .i64) (u := ((ts.length : Nat) : Int)) (v := 1) (e _ _ rfl) (e _ _ rfl) (congrArg some ((congrArg _ (show _ = ((ts.length - 1 : Nat) : Int) by omega)).trans (wrap_in (by omega) (by omega))))) rfl rfl ?_
  refine wl_callv (args := [.int .i64 ((ts.length - 1 : Nat) : Int)]) (all := [.int .i64 ((ts.length - 1 : Nat) : Int), .pointer (some ⟨g2, 0, none⟩), .pointer (some ⟨g8, 0, none⟩), .pointer (some ⟨g22, 0, none⟩), .pointer (some ⟨g15, 0, none⟩)]) in_79 rfl rfl rfl rfl rfl ?_
  have O34 : Own Z0 W w29 [.row (.slice none 0 0) 38 3 0 (ncells []), .blk g22 75 #[.func (.func 79) #[] #[.pointer (some ⟨g2, 0, none⟩), .pointer (some ⟨g8, 0, none⟩), .pointer (some ⟨g22, 0, none⟩), .pointer (some ⟨g15, 0, none⟩)]], .blk g15 23 #[.slice none 0 0], .blk g8 78 #[.func (.func fch) #[] caps.toArray], .blk g2 23 #[.slice (some ⟨b, o, none⟩) ts.length c0], .ro D (fun w => NodesD D w (.slice (some ⟨b, o, none⟩) ts.length c0) ts), .ro DX PX] := O31.nilrow 38 3
  have O39h := Own.hand (A := [.blk g2 23 #[.slice (some ⟨b, o, none⟩) ts.length c0], .blk g8 78 #[.func (.func fch) #[] caps.toArray], .blk g22 75 #[.func (.func 79) #[] #[.pointer (some ⟨g2, 0, none⟩), .pointer (some ⟨g8, 0, none⟩), .pointer (some ⟨g22, 0, none⟩), .pointer (some ⟨g15, 0, none⟩)]], .blk g15 23 #[.slice none 0 0], .row (.slice none 0 0) 38 3 0 (ncells []), .ro D (fun w => NodesD D w (.slice (some ⟨b, o, none⟩) ts.length c0) ts), .ro DX PX]) (R := []) (O34.re [4, 3, 1, 2, 0, 5, 6] rfl : Own Z0 W w29 [.blk g2 23 #[.slice (some ⟨b, o, none⟩) ts.length c0], .blk g8 78 #[.func (.func fch) #[] caps.toArray], .blk g22 75 #[.func (.func 79) #[] #[.pointer (some ⟨g2, 0, none⟩), .pointer (some ⟨g8, 0, none⟩), .pointer (some ⟨g22, 0, none⟩), .pointer (some ⟨g15, 0, none⟩)]], .blk g15 23 #[.slice none 0 0], .row (.slice none 0 0) 38 3 0 (ncells []), .ro D (fun w => NodesD D w (.slice (some ⟨b, o, none⟩) ts.length c0) ts), .ro DX PX])
  refine (visit_ hin HC hAt (l := []) O39h (by omega)).mono ?_
  rintro _ w37 ⟨A35, c36, rfl, h38⟩
  have O39 : Own Z0 W w37 [.blk g2 23 #[.slice (some ⟨b, o, none⟩) ts.length c0], .blk g8 78 #[.func (.func fch) #[] caps.toArray], .blk g22 75 #[.func (.func 79) #[] #[.pointer (some ⟨g2, 0, none⟩), .pointer (some ⟨g8, 0, none⟩), .pointer (some ⟨g22, 0, none⟩), .pointer (some ⟨g15, 0, none⟩)]], .blk g15 23 #[.slice A35 (0 + Tr.size TT) c36], .row (.slice A35 (0 + Tr.size TT) c36) 38 3 (0 + Tr.size TT) (ncells ([] ++ post TT 0)), .ro D (fun w => NodesD D w (.slice (some ⟨b, o, none⟩) ts.length c0) ts), .ro DX PX] := Own.frame (A := [.blk g2 23 #[.slice (some ⟨b, o, none⟩) ts.length c0], .blk g8 78 #[.func (.func fch) #[] caps.toArray], .blk g22 75 #[.func (.func 79) #[] #[.pointer (some ⟨g2, 0, none⟩), .pointer (some ⟨g8, 0, none⟩), .pointer (some ⟨g22, 0, none⟩), .pointer (some ⟨g15, 0, none⟩)]], .blk g15 23 #[.slice none 0 0], .row (.slice none 0 0) 38 3 0 (ncells []), .ro D (fun w => NodesD D w (.slice (some ⟨b, o, none⟩) ts.length c0) ts), .ro DX PX]) (R := []) (O34.re [4, 3, 1, 2, 0, 5, 6] rfl : Own Z0 W w29 [.blk g2 23 #[.slice (some ⟨b, o, none⟩) ts.length c0], .blk g8 78 #[.func (.func fch) #[] caps.toArray], .blk g22 75 #[.func (.func 79) #[] #[.pointer (some ⟨g2, 0, none⟩), .pointer (some ⟨g8, 0, none⟩), .pointer (some ⟨g22, 0, none⟩), .pointer (some ⟨g15, 0, none⟩)]], .blk g15 23 #[.slice none 0 0], .row (.slice none 0 0) 38 3 0 (ncells []), .ro D (fun w => NodesD D w (.slice (some ⟨b, o, none⟩) ts.length c0) ts), .ro DX PX]) h38
  refine ⟨_, rfl, ?_⟩
  refine wl_nil ?_
  refine xw_next K33 ?_
  refine cw_seq (fun FK40 K40 => ?_)
  refine cw_region ?_
  refine wl_val (v := .slice A35 (0 + Tr.size TT) c36) (fun ρ e => ex_load1 ty23 (e _ _ rfl) (O39.cell 3 0 rfl rfl)) rfl rfl ?_
  refine wl_val (v := .slice A35 (0 + Tr.size TT) c36) (fun ρ e => ex_assign (e _ _ rfl)) rfl rfl ?_
  refine wl_nil ?_
  refine xw_next K40 ?_
  refine cw_ret ?_
  refine xw_ret (v := .slice A35 (0 + Tr.size TT) c36) (fun T hT => res1 rfl T _ (hT 4 _ rfl)) ?_
  have hO := (O39.re [4] rfl : Own Z0 W w37 [.row (.slice A35 (0 + Tr.size TT) c36) 38 3 (0 + Tr.size TT) (ncells ([] ++ post TT 0))])
  rw [Nat.zero_add, List.nil_append] at hO
  exact ⟨A35, c36, by rw [Nat.zero_add], hO⟩
theorem inner_ {W : World} {D : Nat → Prop} {V : Value} {ts : List VN} (hN : NodesD D W V ts) (hD : ∀ k, D k → k < W.heap.size) (i : Int) :
    Calls Tryd.prog 59 #[V, .int .i64 i] W fun e w' => e = .returned (.bool (innerB ts i)) ∧ Below W.heap.size W w' := by
  obtain ⟨A, c, rfl⟩ := hN.slice
  have O0 : Own Z0 W W [] := Own.start W
  refine sx_enter (args := [.slice A ts.length c, .int .i64 i]) Tryd.func59 rfl rfl (by simp) ?_
  refine cw_seq (fun FK1 K1 => ?_)
  refine cw_region ?_
  refine wl_val (v := .bool false) (fun ρ e => ex_assign (e _ _ rfl)) rfl rfl ?_
  refine wl_nil ?_
  refine xw_next K1 ?_
  refine cw_seq (fun FK2 K2 => ?_)
  refine cw_region ?_
  refine wl_val (v := .int .i64 i) (fun ρ e => ex_move (e _ _ rfl)) rfl rfl ?_
  by_cases c3 : i ≥ 0
  · skip
    obtain ⟨k, rfl⟩ : ∃ n : Nat, i = n := ⟨i.toNat, by omega⟩
    refine wl_val (v := .bool true) (fun ρ e => ex_cmp (u := (k : Int)) (v := 0) (e _ _ rfl) (e _ _ rfl) (geq1 (by omega))) rfl rfl ?_
    refine wl_val (v := .bool true) (fun ρ e => ex_move (e _ _ rfl)) rfl rfl ?_
    refine wl_val (v := .int .i64 (k : Int)) (fun ρ e => ex_move (e _ _ rfl)) rfl rfl ?_
    refine wl_val (v := .slice A ts.length c) (fun ρ e => ex_move (e _ _ rfl)) rfl rfl ?_
    refine wl_val (v := .int .i64 ((ts.length : Nat) : Int)) (fun ρ e => ex_len el23 (e _ _ rfl)) rfl rfl ?_
    by_cases c4 : (k : Int) < ((ts.length : Nat) : Int)
    · skip
      obtain ⟨b, o, c', hv, hDb⟩ := hN.form (by omega)
      injection hv with hA _ hc
      subst hA hc
      obtain ⟨⟨xl, xr, xv⟩, hx⟩ : ∃ x, ts[k]? = some x := ⟨ts[k], List.getElem?_eq_getElem (by omega)⟩
      have O5 := O0.oldro (D := D) (p := (fun w => NodesD D w (.slice (some ⟨b, o, none⟩) ts.length c) ts)) (nodesE_holds hN hD)
      refine wl_val (v := .bool true) (fun ρ e => ex_cmp (u := (k : Int)) (v := ((ts.length : Nat) : Int)) (e _ _ rfl) (e _ _ rfl) (lss1 (by omega))) rfl rfl ?_
      refine wl_val (v := .bool true) (fun ρ e => ex_pick1 (e _ _ rfl) (e _ _ rfl)) rfl rfl ?_
      refine wl_val (v := .bool true) (fun ρ e => ex_move (e _ _ rfl)) rfl rfl ?_
      refine wl_val (v := .slice (some ⟨b, o, none⟩) ts.length c) (fun ρ e => ex_move (e _ _ rfl)) rfl rfl ?_
      refine wl_val (v := .int .i64 (k : Int)) (fun ρ e => ex_move (e _ _ rfl)) rfl rfl ?_
      refine wl_val (v := .pointer (some ⟨b, o + k * 3, none⟩)) (fun ρ e => ex_idx (q := o + k * 3) (i := k) el23 (e _ _ rfl) (e _ _ rfl) (by omega) (by omega)) rfl rfl ?_
      refine wl_val (v := .agg #[.int .i64 xl, .int .i64 xr, .int .i64 xv]) (fun ρ e => ex_loadN (vs := [.int .i64 xl, .int .i64 xr, .int .i64 xv]) ty38 (e _ _ rfl) rfl (cells3 (NodesD.c0 ((O5.ro 0 rfl : (fun w => NodesD D w (.slice (some ⟨b, o, none⟩) ts.length c) ts) _) : NodesD _ _ _ _) hx) (NodesD.c1 ((O5.ro 0 rfl : (fun w => NodesD D w (.slice (some ⟨b, o, none⟩) ts.length c) ts) _) : NodesD _ _ _ _) hx) (NodesD.c2 ((O5.ro 0 rfl : (fun w => NodesD D w (.slice (some ⟨b, o, none⟩) ts.length c) ts) _) : NodesD _ _ _ _) hx))) rfl rfl ?_
      refine wl_call (args := [.agg #[.int .i64 xl, .int .i64 xr, .int .i64 xv]]) in_53 rfl rfl rfl ?_
      refine (isleaf_ (VN.mk xl xr xv) (W := W)).mono ?_
      rintro _ w6 ⟨rfl, hb7⟩
      have O8 : Own Z0 W w6 [.ro D (fun w => NodesD D w (.slice (some ⟨b, o, none⟩) ts.length c) ts)] := O5.below hb7
      refine ⟨_, rfl, ?_⟩
      refine wl_val (v := .bool (!(lf (VN.mk xl xr xv)))) (fun ρ e => ex_lnot (b := (lf (VN.mk xl xr xv))) (e _ _ rfl)) rfl rfl ?_
      refine wl_val (v := .bool (!(lf (VN.mk xl xr xv)))) (fun ρ e => ex_pick1 (e _ _ rfl) (e _ _ rfl)) rfl rfl ?_
      refine wl_val (v := .bool (!(lf (VN.mk xl xr xv)))) (fun ρ e => ex_assign (e _ _ rfl)) rfl rfl ?_
      refine wl_nil ?_
      refine xw_next K2 ?_
      refine cw_ret ?_
      refine xw_ret (v := .bool (!(lf (VN.mk xl xr xv)))) (fun T hT => res1 rfl T _ (hT 4 _ rfl)) ?_
      exact ⟨by simp [innerB, hx], O8.old⟩
    · skip
      refine wl_val (v := .bool false) (fun ρ e => ex_cmp (u := (k : Int)) (v := ((ts.length : Nat) : Int)) (e _ _ rfl) (e _ _ rfl) (lss0 (by omega))) rfl rfl ?_
      refine wl_val (v := .bool false) (fun ρ e => ex_pick1 (e _ _ rfl) (e _ _ rfl)) rfl rfl ?_
      refine wl_val (v := .bool false) (fun ρ e => ex_move (e _ _ rfl)) rfl rfl ?_
      refine wl_skip rfl rfl ?_
      refine wl_skip rfl rfl ?_
      refine wl_skip rfl rfl ?_
      refine wl_skip rfl rfl ?_
      refine wl_skip rfl rfl ?_
      refine wl_skip rfl rfl ?_
      refine wl_val (v := .bool false) (fun ρ e => ex_pick0 (e _ _ rfl) (e _ _ rfl)) rfl rfl ?_
      refine wl_val (v := .bool false) (fun ρ e => ex_assign (e _ _ rfl)) rfl rfl ?_
      refine wl_nil ?_
      refine xw_next K2 ?_
      refine cw_ret ?_
      refine xw_ret (v := .bool false) (fun T hT => res1 rfl T _ (hT 4 _ rfl)) ?_
      have hg : ts[k]? = none := List.getElem?_eq_none (by omega)
      exact ⟨by simp [innerB, hg], O0.old⟩
  · skip
    refine wl_val (v := .bool false) (fun ρ e => ex_cmp (u := i) (v := 0) (e _ _ rfl) (e _ _ rfl) (geq0 (by omega))) rfl rfl ?_
    refine wl_val (v := .bool false) (fun ρ e => ex_move (e _ _ rfl)) rfl rfl ?_
    refine wl_skip rfl rfl ?_
    refine wl_skip rfl rfl ?_
    refine wl_skip rfl rfl ?_
    refine wl_skip rfl rfl ?_
    refine wl_val (v := .bool false) (fun ρ e => ex_pick0 (e _ _ rfl) (e _ _ rfl)) rfl rfl ?_
    refine wl_val (v := .bool false) (fun ρ e => ex_move (e _ _ rfl)) rfl rfl ?_
    refine wl_skip rfl rfl ?_
    refine wl_skip rfl rfl ?_
    refine wl_skip rfl rfl ?_
    refine wl_skip rfl rfl ?_
    refine wl_skip rfl rfl ?_
    refine wl_skip rfl rfl ?_
    refine wl_val (v := .bool false) (fun ρ e => ex_pick0 (e _ _ rfl) (e _ _ rfl)) rfl rfl ?_
    refine wl_val (v := .bool false) (fun ρ e => ex_assign (e _ _ rfl)) rfl rfl ?_
    refine wl_nil ?_
    refine xw_next K2 ?_
    refine cw_ret ?_
    refine xw_ret (v := .bool false) (fun T hT => res1 rfl T _ (hT 4 _ rfl)) ?_
    exact ⟨by simp only [innerB]; rw [decide_eq_false (by omega)]; rfl, O0.old⟩
end Go.Proofs.YtpeoodkepjhhiaaDoor
namespace Go.Proofs.YtpeoodkepjhhiaaDoor
open Go Go.RowKit
theorem chr_ {W : World} {ts : List VN} {D : Nat → Prop} {i a b2 a' b' at_ low p q cc ac tc lc xc b o c0 : Nat} (hf : fR at_ low p q cc i a b2 = (a', b')) (hlow : ts[low]? = some ⟨(p : Int), (q : Int), 0⟩) (hN : NodesD D W (.slice (some ⟨b, o, none⟩) ts.length c0) ts) (hD : ∀ k, D k → k < W.heap.size) (hac : Blk W ac 3 #[.int .i64 (at_ : Int)]) (htc : Blk W tc 23 #[.slice (some ⟨b, o, none⟩) ts.length c0]) (hlc : Blk W lc 3 #[.int .i64 (low : Int)]) (hxc : Blk W xc 38 #[.int .i64 (low : Int), .int .i64 (cc : Int), .int .i64 0]) :
    Calls Tryd.prog 61 #[.int .i64 (i : Int), .agg #[.int .i64 (a : Int), .int .i64 (b2 : Int), .int .i64 0], .pointer (some ⟨ac, 0, none⟩), .pointer (some ⟨tc, 0, none⟩), .pointer (some ⟨lc, 0, none⟩), .pointer (some ⟨xc, 0, none⟩)] W fun e w' => e = .returned (.agg #[.int .i64 (a' : Int), .int .i64 (b' : Int), .int .i64 0]) ∧ Below W.heap.size W w' := by
  have O0 : Own Z0 W W [.ro (fun k => k = ac) (fun w => Blk w ac 3 #[.int .i64 (at_ : Int)]), .ro (fun k => k = tc) (fun w => Blk w tc 23 #[.slice (some ⟨b, o, none⟩) ts.length c0]), .ro (fun k => k = lc) (fun w => Blk w lc 3 #[.int .i64 (low : Int)]), .ro (fun k => k = xc) (fun w => Blk w xc 38 #[.int .i64 (low : Int), .int .i64 (cc : Int), .int .i64 0]), .ro D (fun w => NodesD D w (.slice (some ⟨b, o, none⟩) ts.length c0) ts)] := (((((Own.start W).oldro (D := D) (p := (fun w => NodesD D w (.slice (some ⟨b, o, none⟩) ts.length c0) ts)) (nodesE_holds hN hD)).oldro (D := (fun k => k = xc)) (p := (fun w => Blk w xc 38 #[.int .i64 (low : Int), .int .i64 (cc : Int), .int .i64 0])) ⟨hxc, fun k hk => hk ▸ hxc.lt, fun _ _ _ hk h => (hk _ rfl).trans h⟩).oldro (D := (fun k => k = lc)) (p := (fun w => Blk w lc 3 #[.int .i64 (low : Int)])) ⟨hlc, fun k hk => hk ▸ hlc.lt, fun _ _ _ hk h => (hk _ rfl).trans h⟩).oldro (D := (fun k => k = tc)) (p := (fun w => Blk w tc 23 #[.slice (some ⟨b, o, none⟩) ts.length c0])) ⟨htc, fun k hk => hk ▸ htc.lt, fun _ _ _ hk h => (hk _ rfl).trans h⟩).oldro (D := (fun k => k = ac)) (p := (fun w => Blk w ac 3 #[.int .i64 (at_ : Int)])) ⟨hac, fun k hk => hk ▸ hac.lt, fun _ _ _ hk h => (hk _ rfl).trans h⟩
  have hll : low < ts.length := (List.getElem?_eq_some_iff.1 hlow).1
  refine sx_enter (args := [.int .i64 (i : Int), .agg #[.int .i64 (a : Int), .int .i64 (b2 : Int), .int .i64 0], .pointer (some ⟨ac, 0, none⟩), .pointer (some ⟨tc, 0, none⟩), .pointer (some ⟨lc, 0, none⟩), .pointer (some ⟨xc, 0, none⟩)]) Tryd.func61 rfl rfl (by simp) ?_
  refine cw_seq (fun FK1 K1 => ?_)
  refine cw_region ?_
  obtain ⟨g2, w3, r4, O5, hg6, hs7⟩ := own_box O0 38 (.agg #[.int .i64 (a : Int), .int .i64 (b2 : Int), .int .i64 0]) rfl
  refine wl_val (v := .pointer (some ⟨g2, 0, none⟩)) (fun ρ e => r4 ρ _ _ _ _ _ _ (e _ _ rfl)) rfl rfl ?_
  obtain ⟨g8, w9, r10, O11, hg12, hs13⟩ := own_alloc O5 38 ze38 rfl
  refine wl_val (v := .pointer (some ⟨g8, 0, none⟩)) (fun ρ e => r10 ρ _ _ _ _ _) rfl rfl ?_
  refine wl_nil ?_
  refine xw_next K1 ?_
  refine cw_seq (fun FK14 K14 => ?_)
  refine cw_seq (fun FK15 K15 => ?_)
  refine cw_region ?_
  refine wl_val (v := .int .i64 (i : Int)) (fun ρ e => ex_move (e _ _ rfl)) rfl rfl ?_
  refine wl_nil ?_
  refine xw_next K15 ?_
  refine cw_block ?_
  refine cw_seq (fun FK16 K16 => ?_)
  refine cw_region ?_
  refine wl_val (v := .int .i64 (at_ : Int)) (fun ρ e => ex_load1 ty3 (e _ _ rfl) (((O11.ro 2 rfl : Blk _ ac _ _).cell 0).trans rfl)) rfl rfl ?_
  by_cases c17 : (i : Int) = (at_ : Int)
  · skip
    refine wl_val (v := .bool true) (fun ρ e => ex_cmp (u := (i : Int)) (v := (at_ : Int)) (e _ _ rfl) (e _ _ rfl) (eql1 (by omega))) rfl rfl ?_
    refine wl_val (v := .bool true) (fun ρ e => ex_assign (e _ _ rfl)) rfl rfl ?_
    refine wl_nil ?_
    refine xw_next K16 ?_
    refine cw_true rfl ?_
    refine cw_seq (fun FK18 K18 => ?_)
    refine cw_drawn (fun X => Own Z0 W X [.blk g8 38 #[.int .i64 0, .int .i64 0, .int .i64 0], .blk g2 38 #[.int .i64 (a : Int), .int .i64 (b2 : Int), .int .i64 0], .ro (fun k => k = ac) (fun w => Blk w ac 3 #[.int .i64 (at_ : Int)]), .ro (fun k => k = tc) (fun w => Blk w tc 23 #[.slice (some ⟨b, o, none⟩) ts.length c0]), .ro (fun k => k = lc) (fun w => Blk w lc 3 #[.int .i64 (low : Int)]), .ro (fun k => k = xc) (fun w => Blk w xc 38 #[.int .i64 (low : Int), .int .i64 (cc : Int), .int .i64 0]), .ro D (fun w => NodesD D w (.slice (some ⟨b, o, none⟩) ts.length c0) ts)]) 7 [(0, 0), (1, 0), (2, 1), (3, 1), (4, 0), (5, 0), (6, 1), (7, 3)] (by kernel_rfl) (by kernel_rfl) (PQ.then_ (PQ.block (PQ.then_ PQ.body))) (O11).drew ?_
    have O19 : Own Z0 W w9.drew [.blk g8 38 #[.int .i64 0, .int .i64 0, .int .i64 0], .blk g2 38 #[.int .i64 (a : Int), .int .i64 (b2 : Int), .int .i64 0], .ro (fun k => k = ac) (fun w => Blk w ac 3 #[.int .i64 (at_ : Int)]), .ro (fun k => k = tc) (fun w => Blk w tc 23 #[.slice (some ⟨b, o, none⟩) ts.length c0]), .ro (fun k => k = lc) (fun w => Blk w lc 3 #[.int .i64 (low : Int)]), .ro (fun k => k = xc) (fun w => Blk w xc 38 #[.int .i64 (low : Int), .int .i64 (cc : Int), .int .i64 0]), .ro D (fun w => NodesD D w (.slice (some ⟨b, o, none⟩) ts.length c0) ts)] := O11.drew
    refine wt0 (v := .slice (some ⟨b, o, none⟩) ts.length c0) rfl (fun ρ e W hW => ex_load1 ty23 (e _ _ rfl) (((hW.ro 3 rfl : Blk _ tc _ _).cell 0).trans rfl)) rfl rfl ?_
    refine wt0 (v := .int .i64 (low : Int)) rfl (fun ρ e W hW => ex_load1 ty3 (e _ _ rfl) (((hW.ro 4 rfl : Blk _ lc _ _).cell 0).trans rfl)) rfl rfl ?_
    refine wt1 (v := .pointer (some ⟨b, o + low * 3, none⟩)) rfl (fun ρ e W => ex_idx (q := o + low * 3) (i := low) el23 (e _ _ rfl) (e _ _ rfl) (by omega) (by omega)) rfl rfl ?_
    refine wt1 (v := .pointer (some ⟨b, o + low * 3, none⟩)) rfl (fun ρ e W => ex_field (q := o + low * 3) fi38_0 (e _ _ rfl) rfl) rfl rfl ?_
    refine wt0 (v := .int .i64 (p : Int)) rfl (fun ρ e W hW => ex_load1 ty3 (e _ _ rfl) (NodesD.c0 ((hW.ro 6 rfl : (fun w => NodesD D w (.slice (some ⟨b, o, none⟩) ts.length c0) ts) _) : NodesD _ _ _ _) hlow)) rfl rfl ?_
    refine wt0 (v := .int .i64 (low : Int)) rfl (fun ρ e W hW => ex_load1 ty3 (e _ _ rfl) (((hW.ro 4 rfl : Blk _ lc _ _).cell 0).trans rfl)) rfl rfl ?_
    refine wt1 (v := .agg #[.int .i64 (p : Int), .int .i64 (low : Int), .int .i64 0]) rfl (fun ρ e W => ex_build (cells := #[.int .i64 (p : Int), .int .i64 (low : Int), .int .i64 0]) st38 (e.parts rfl) rfl) rfl rfl ?_
    obtain ⟨w20, r21, O22, hs23⟩ := own_put (o := 0) (n := 3) O19 ty38 (.agg #[.int .i64 (p : Int), .int .i64 (low : Int), .int .i64 0]) [.int .i64 (p : Int), .int .i64 (low : Int), .int .i64 0] (cs' := #[.int .i64 (p : Int), .int .i64 (low : Int), .int .i64 0]) rfl rfl rfl (Nat.le_of_ble_eq_true rfl) rfl
    refine wt3_none rfl (fun ρ e => r21 ρ _ _ _ _ _ _ (e _ _ rfl) (e _ _ rfl)) rfl ?_
    refine wt_nil ?_
    refine xw_next K18 ?_
    refine cw_ret ?_
    refine xw_blockret ?_
    refine xw_past (by intro h; cases h) ?_
    refine xw_ret (v := .agg #[.int .i64 (p : Int), .int .i64 (low : Int), .int .i64 0]) (fun T hT => res1c rfl T _ (hT 8 _ rfl) (run_loadN (vs := [.int .i64 (p : Int), .int .i64 (low : Int), .int .i64 0]) ty38 rfl (O22.cells 0 0 rfl rfl))) ?_
    obtain rfl : i = at_ := by omega
    have hf2 := hf
    simp only [fR, if_true] at hf2
    injection hf2 with e1 e2
    subst e1 e2
    exact ⟨rfl, O22.old⟩
  · skip
    refine wl_val (v := .bool false) (fun ρ e => ex_cmp (u := (i : Int)) (v := (at_ : Int)) (e _ _ rfl) (e _ _ rfl) (eql0 (by omega))) rfl rfl ?_
    refine wl_val (v := .bool false) (fun ρ e => ex_assign (e _ _ rfl)) rfl rfl ?_
    refine wl_nil ?_
    refine xw_next K16 ?_
    refine cw_false rfl ?_
    refine cw_seq (fun FK24 K24 => ?_)
    refine cw_region ?_
    refine wl_val (v := .int .i64 (low : Int)) (fun ρ e => ex_load1 ty3 (e _ _ rfl) (((O11.ro 4 rfl : Blk _ lc _ _).cell 0).trans rfl)) rfl rfl ?_
    by_cases c25 : (i : Int) = (low : Int)
    · skip
      refine wl_val (v := .bool true) (fun ρ e => ex_cmp (u := (i : Int)) (v := (low : Int)) (e _ _ rfl) (e _ _ rfl) (eql1 (by omega))) rfl rfl ?_
      refine wl_val (v := .bool true) (fun ρ e => ex_assign (e _ _ rfl)) rfl rfl ?_
      refine wl_nil ?_
      refine xw_next K24 ?_
      refine cw_true rfl ?_
      refine cw_seq (fun FK26 K26 => ?_)
      refine cw_drawn (fun X => Own Z0 W X [.blk g8 38 #[.int .i64 0, .int .i64 0, .int .i64 0], .blk g2 38 #[.int .i64 (a : Int), .int .i64 (b2 : Int), .int .i64 0], .ro (fun k => k = ac) (fun w => Blk w ac 3 #[.int .i64 (at_ : Int)]), .ro (fun k => k = tc) (fun w => Blk w tc 23 #[.slice (some ⟨b, o, none⟩) ts.length c0]), .ro (fun k => k = lc) (fun w => Blk w lc 3 #[.int .i64 (low : Int)]), .ro (fun k => k = xc) (fun w => Blk w xc 38 #[.int .i64 (low : Int), .int .i64 (cc : Int), .int .i64 0]), .ro D (fun w => NodesD D w (.slice (some ⟨b, o, none⟩) ts.length c0) ts)]) 8 [(0, 0), (1, 0), (2, 1), (3, 1), (4, 0), (5, 1), (6, 0), (7, 1), (8, 3)] (by kernel_rfl) (by kernel_rfl) (PQ.then_ (PQ.block (PQ.then_ PQ.body))) (O11).drew ?_
      have O27 : Own Z0 W w9.drew [.blk g8 38 #[.int .i64 0, .int .i64 0, .int .i64 0], .blk g2 38 #[.int .i64 (a : Int), .int .i64 (b2 : Int), .int .i64 0], .ro (fun k => k = ac) (fun w => Blk w ac 3 #[.int .i64 (at_ : Int)]), .ro (fun k => k = tc) (fun w => Blk w tc 23 #[.slice (some ⟨b, o, none⟩) ts.length c0]), .ro (fun k => k = lc) (fun w => Blk w lc 3 #[.int .i64 (low : Int)]), .ro (fun k => k = xc) (fun w => Blk w xc 38 #[.int .i64 (low : Int), .int .i64 (cc : Int), .int .i64 0]), .ro D (fun w => NodesD D w (.slice (some ⟨b, o, none⟩) ts.length c0) ts)] := O11.drew
      refine wt0 (v := .slice (some ⟨b, o, none⟩) ts.length c0) rfl (fun ρ e W hW => ex_load1 ty23 (e _ _ rfl) (((hW.ro 3 rfl : Blk _ tc _ _).cell 0).trans rfl)) rfl rfl ?_
      refine wt0 (v := .int .i64 (low : Int)) rfl (fun ρ e W hW => ex_load1 ty3 (e _ _ rfl) (((hW.ro 4 rfl : Blk _ lc _ _).cell 0).trans rfl)) rfl rfl ?_
      refine wt1 (v := .pointer (some ⟨b, o + low * 3, none⟩)) rfl (fun ρ e W => ex_idx (q := o + low * 3) (i := low) el23 (e _ _ rfl) (e _ _ rfl) (by omega) (by omega)) rfl rfl ?_
      refine wt1 (v := .pointer (some ⟨b, o + low * 3 + 1, none⟩)) rfl (fun ρ e W => ex_field (q := o + low * 3 + 1) fi38_1 (e _ _ rfl) rfl) rfl rfl ?_
      refine wt0 (v := .int .i64 (q : Int)) rfl (fun ρ e W hW => ex_load1 ty3 (e _ _ rfl) (NodesD.c1 ((hW.ro 6 rfl : (fun w => NodesD D w (.slice (some ⟨b, o, none⟩) ts.length c0) ts) _) : NodesD _ _ _ _) hlow)) rfl rfl ?_
      refine wt1 (v := .pointer (some ⟨xc, 1, none⟩)) rfl (fun ρ e W => ex_field (q := 1) fi38_1 (e _ _ rfl) rfl) rfl rfl ?_
      refine wt0 (v := .int .i64 (cc : Int)) rfl (fun ρ e W hW => ex_load1 ty3 (e _ _ rfl) (((hW.ro 5 rfl : Blk _ xc _ _).cell 1).trans rfl)) rfl rfl ?_
      refine wt1 (v := .agg #[.int .i64 (q : Int), .int .i64 (cc : Int), .int .i64 0]) rfl (fun ρ e W => ex_build (cells := #[.int .i64 (q : Int), .int .i64 (cc : Int), .int .i64 0]) st38 (e.parts rfl) rfl) rfl rfl ?_
      obtain ⟨w28, r29, O30, hs31⟩ := own_put (o := 0) (n := 3) O27 ty38 (.agg #[.int .i64 (q : Int), .int .i64 (cc : Int), .int .i64 0]) [.int .i64 (q : Int), .int .i64 (cc : Int), .int .i64 0] (cs' := #[.int .i64 (q : Int), .int .i64 (cc : Int), .int .i64 0]) rfl rfl rfl (Nat.le_of_ble_eq_true rfl) rfl
      refine wt3_none rfl (fun ρ e => r29 ρ _ _ _ _ _ _ (e _ _ rfl) (e _ _ rfl)) rfl ?_
      refine wt_nil ?_
      refine xw_next K26 ?_
      refine cw_ret ?_
      refine xw_blockret ?_
      refine xw_past (by intro h; cases h) ?_
      refine xw_ret (v := .agg #[.int .i64 (q : Int), .int .i64 (cc : Int), .int .i64 0]) (fun T hT => res1c rfl T _ (hT 8 _ rfl) (run_loadN (vs := [.int .i64 (q : Int), .int .i64 (cc : Int), .int .i64 0]) ty38 rfl (O30.cells 0 0 rfl rfl))) ?_
      obtain rfl : i = low := by omega
      have hf2 := hf
      rw [fR, if_neg (by omega), if_pos rfl] at hf2
      injection hf2 with e1 e2
      subst e1 e2
      exact ⟨rfl, O30.old⟩
    · skip
      refine wl_val (v := .bool false) (fun ρ e => ex_cmp (u := (i : Int)) (v := (low : Int)) (e _ _ rfl) (e _ _ rfl) (eql0 (by omega))) rfl rfl ?_
      refine wl_val (v := .bool false) (fun ρ e => ex_assign (e _ _ rfl)) rfl rfl ?_
      refine wl_nil ?_
      refine xw_next K24 ?_
      refine cw_false rfl ?_
      refine cw_skip ?_
      refine xw_block ?_
      refine xw_next K14 ?_
      refine cw_seq (fun FK32 K32 => ?_)
      refine cw_region ?_
      refine wl_val (v := .agg #[.int .i64 (a : Int), .int .i64 (b2 : Int), .int .i64 0]) (fun ρ e => ex_loadN (vs := [.int .i64 (a : Int), .int .i64 (b2 : Int), .int .i64 0]) ty38 (e _ _ rfl) rfl (O11.cells 1 0 rfl rfl)) rfl rfl ?_
      obtain ⟨w33, r34, O35, hs36⟩ := own_put (o := 0) (n := 3) O11 ty38 (.agg #[.int .i64 (a : Int), .int .i64 (b2 : Int), .int .i64 0]) [.int .i64 (a : Int), .int .i64 (b2 : Int), .int .i64 0] (cs' := #[.int .i64 (a : Int), .int .i64 (b2 : Int), .int .i64 0]) rfl rfl rfl (Nat.le_of_ble_eq_true rfl) rfl
      refine wl_none (fun ρ e => r34 ρ _ _ _ _ _ _ (e _ _ rfl) (e _ _ rfl)) rfl ?_
      refine wl_nil ?_
      refine xw_next K32 ?_
      refine cw_ret ?_
      refine xw_ret (v := .agg #[.int .i64 (a : Int), .int .i64 (b2 : Int), .int .i64 0]) (fun T hT => res1c rfl T _ (hT 8 _ rfl) (run_loadN (vs := [.int .i64 (a : Int), .int .i64 (b2 : Int), .int .i64 0]) ty38 rfl (O35.cells 0 0 rfl rfl))) ?_
      have hf2 := hf
      rw [fR, if_neg (by omega), if_neg (by omega)] at hf2
      injection hf2 with e1 e2
      subst e1 e2
      exact ⟨rfl, O35.old⟩
theorem chs_ {W : World} {i a b2 a' b' at_ ac : Nat} (hf : fS at_ i a b2 = (a', b')) (hac : Blk W ac 3 #[.int .i64 (at_ : Int)]) :
    Calls Tryd.prog 63 #[.int .i64 (i : Int), .agg #[.int .i64 (a : Int), .int .i64 (b2 : Int), .int .i64 0], .pointer (some ⟨ac, 0, none⟩)] W fun e w' => e = .returned (.agg #[.int .i64 (a' : Int), .int .i64 (b' : Int), .int .i64 0]) ∧ Below W.heap.size W w' := by
  have O0 : Own Z0 W W [.ro (fun k => k = ac) (fun w => Blk w ac 3 #[.int .i64 (at_ : Int)])] := (Own.start W).oldro (D := (fun k => k = ac)) (p := (fun w => Blk w ac 3 #[.int .i64 (at_ : Int)])) ⟨hac, fun k hk => hk ▸ hac.lt, fun _ _ _ hk h => (hk _ rfl).trans h⟩
  refine sx_enter (args := [.int .i64 (i : Int), .agg #[.int .i64 (a : Int), .int .i64 (b2 : Int), .int .i64 0], .pointer (some ⟨ac, 0, none⟩)]) Tryd.func63 rfl rfl (by simp) ?_
  refine cw_seq (fun FK1 K1 => ?_)
  refine cw_region ?_
  obtain ⟨g2, w3, r4, O5, hg6, hs7⟩ := own_box O0 38 (.agg #[.int .i64 (a : Int), .int .i64 (b2 : Int), .int .i64 0]) rfl
  refine wl_val (v := .pointer (some ⟨g2, 0, none⟩)) (fun ρ e => r4 ρ _ _ _ _ _ _ (e _ _ rfl)) rfl rfl ?_
  obtain ⟨g8, w9, r10, O11, hg12, hs13⟩ := own_alloc O5 38 ze38 rfl
  refine wl_val (v := .pointer (some ⟨g8, 0, none⟩)) (fun ρ e => r10 ρ _ _ _ _ _) rfl rfl ?_
  refine wl_nil ?_
  refine xw_next K1 ?_
  refine cw_seq (fun FK14 K14 => ?_)
  refine cw_seq (fun FK15 K15 => ?_)
  refine cw_region ?_
  refine wl_val (v := .int .i64 (i : Int)) (fun ρ e => ex_move (e _ _ rfl)) rfl rfl ?_
  refine wl_val (v := .int .i64 (at_ : Int)) (fun ρ e => ex_load1 ty3 (e _ _ rfl) (((O11.ro 2 rfl : Blk _ ac _ _).cell 0).trans rfl)) rfl rfl ?_
  by_cases c16 : (i : Int) = (at_ : Int)
  · skip
    refine wl_val (v := .bool true) (fun ρ e => ex_cmp (u := (i : Int)) (v := (at_ : Int)) (e _ _ rfl) (e _ _ rfl) (eql1 (by omega))) rfl rfl ?_
    refine wl_nil ?_
    refine xw_next K15 ?_
    refine cw_true rfl ?_
    refine cw_region ?_
    refine wl_val (v := .pointer (some ⟨g2, 1, none⟩)) (fun ρ e => ex_field (q := 1) fi38_1 (e _ _ rfl) rfl) rfl rfl ?_
    refine wl_val (v := .int .i64 (b2 : Int)) (fun ρ e => ex_load1 ty3 (e _ _ rfl) (O11.cell 1 1 rfl rfl)) rfl rfl ?_
    refine wl_val (v := .pointer (some ⟨g2, 0, none⟩)) (fun ρ e => ex_field (q := 0) fi38_0 (e _ _ rfl) rfl) rfl rfl ?_
    refine wl_val (v := .int .i64 (a : Int)) (fun ρ e => ex_load1 ty3 (e _ _ rfl) (O11.cell 1 0 rfl rfl)) rfl rfl ?_
    refine wl_val (v := .pointer (some ⟨g2, 0, none⟩)) (fun ρ e => ex_field (q := 0) fi38_0 (e _ _ rfl) rfl) rfl rfl ?_
    obtain ⟨w17, r18, O19, hs20⟩ := own_put (o := 0) (n := 1) (O11.re [1, 0, 2] rfl : Own Z0 W w9 [.blk g2 38 #[.int .i64 (a : Int), .int .i64 (b2 : Int), .int .i64 0], .blk g8 38 #[.int .i64 0, .int .i64 0, .int .i64 0], .ro (fun k => k = ac) (fun w => Blk w ac 3 #[.int .i64 (at_ : Int)])]) ty3 (.int .i64 (b2 : Int)) [.int .i64 (b2 : Int)] (cs' := #[.int .i64 (b2 : Int), .int .i64 (b2 : Int), .int .i64 0]) rfl rfl rfl (Nat.le_of_ble_eq_true rfl) rfl
    refine wl_none (fun ρ e => r18 ρ _ _ _ _ _ _ (e _ _ rfl) (e _ _ rfl)) rfl ?_
    refine wl_val (v := .pointer (some ⟨g2, 1, none⟩)) (fun ρ e => ex_field (q := 1) fi38_1 (e _ _ rfl) rfl) rfl rfl ?_
    obtain ⟨w21, r22, O23, hs24⟩ := own_put (o := 1) (n := 1) O19 ty3 (.int .i64 (a : Int)) [.int .i64 (a : Int)] (cs' := #[.int .i64 (b2 : Int), .int .i64 (a : Int), .int .i64 0]) rfl rfl rfl (Nat.le_of_ble_eq_true rfl) rfl
    refine wl_none (fun ρ e => r22 ρ _ _ _ _ _ _ (e _ _ rfl) (e _ _ rfl)) rfl ?_
    refine wl_nil ?_
    refine xw_next K14 ?_
    refine cw_seq (fun FK25 K25 => ?_)
    refine cw_region ?_
    refine wl_val (v := .agg #[.int .i64 (b2 : Int), .int .i64 (a : Int), .int .i64 0]) (fun ρ e => ex_loadN (vs := [.int .i64 (b2 : Int), .int .i64 (a : Int), .int .i64 0]) ty38 (e _ _ rfl) rfl (O23.cells 0 0 rfl rfl)) rfl rfl ?_
    obtain ⟨w26, r27, O28, hs29⟩ := own_put (o := 0) (n := 3) (O23.re [1, 0, 2] rfl : Own Z0 W w21 [.blk g8 38 #[.int .i64 0, .int .i64 0, .int .i64 0], .blk g2 38 #[.int .i64 (b2 : Int), .int .i64 (a : Int), .int .i64 0], .ro (fun k => k = ac) (fun w => Blk w ac 3 #[.int .i64 (at_ : Int)])]) ty38 (.agg #[.int .i64 (b2 : Int), .int .i64 (a : Int), .int .i64 0]) [.int .i64 (b2 : Int), .int .i64 (a : Int), .int .i64 0] (cs' := #[.int .i64 (b2 : Int), .int .i64 (a : Int), .int .i64 0]) rfl rfl rfl (Nat.le_of_ble_eq_true rfl) rfl
    refine wl_none (fun ρ e => r27 ρ _ _ _ _ _ _ (e _ _ rfl) (e _ _ rfl)) rfl ?_
    refine wl_nil ?_
    refine xw_next K25 ?_
    refine cw_ret ?_
    refine xw_ret (v := .agg #[.int .i64 (b2 : Int), .int .i64 (a : Int), .int .i64 0]) (fun T hT => res1c rfl T _ (hT 5 _ rfl) (run_loadN (vs := [.int .i64 (b2 : Int), .int .i64 (a : Int), .int .i64 0]) ty38 rfl (O28.cells 0 0 rfl rfl))) ?_
    obtain rfl : i = at_ := by omega
    have hf2 := hf
    simp only [fS, if_true] at hf2
    injection hf2 with e1 e2
    subst e1 e2
    exact ⟨rfl, O28.old⟩
  · skip
    refine wl_val (v := .bool false) (fun ρ e => ex_cmp (u := (i : Int)) (v := (at_ : Int)) (e _ _ rfl) (e _ _ rfl) (eql0 (by omega))) rfl rfl ?_
    refine wl_nil ?_
    refine xw_next K15 ?_
    refine cw_false rfl ?_
    refine cw_skip ?_
    refine xw_next K14 ?_
    refine cw_seq (fun FK30 K30 => ?_)
    refine cw_region ?_
    refine wl_val (v := .agg #[.int .i64 (a : Int), .int .i64 (b2 : Int), .int .i64 0]) (fun ρ e => ex_loadN (vs := [.int .i64 (a : Int), .int .i64 (b2 : Int), .int .i64 0]) ty38 (e _ _ rfl) rfl (O11.cells 1 0 rfl rfl)) rfl rfl ?_
    obtain ⟨w31, r32, O33, hs34⟩ := own_put (o := 0) (n := 3) O11 ty38 (.agg #[.int .i64 (a : Int), .int .i64 (b2 : Int), .int .i64 0]) [.int .i64 (a : Int), .int .i64 (b2 : Int), .int .i64 0] (cs' := #[.int .i64 (a : Int), .int .i64 (b2 : Int), .int .i64 0]) rfl rfl rfl (Nat.le_of_ble_eq_true rfl) rfl
    refine wl_none (fun ρ e => r32 ρ _ _ _ _ _ _ (e _ _ rfl) (e _ _ rfl)) rfl ?_
    refine wl_nil ?_
    refine xw_next K30 ?_
    refine cw_ret ?_
    refine xw_ret (v := .agg #[.int .i64 (a : Int), .int .i64 (b2 : Int), .int .i64 0]) (fun T hT => res1c rfl T _ (hT 5 _ rfl) (run_loadN (vs := [.int .i64 (a : Int), .int .i64 (b2 : Int), .int .i64 0]) ty38 rfl (O33.cells 0 0 rfl rfl))) ?_
    have hf2 := hf
    rw [fS, if_neg (by omega)] at hf2
    injection hf2 with e1 e2
    subst e1 e2
    exact ⟨rfl, O33.old⟩
def DXr (D : Nat → Prop) (ac tc lc xc : Nat) : Nat → Prop := fun k => k = ac ∨ k = tc ∨ k = lc ∨ k = xc ∨ D k
def PXr (D : Nat → Prop) (ts : List VN) (ac tc lc xc : Nat) (at_ low : Int) (V : Value) (top : Array Value) : World → Prop := fun w => Blk w ac 3 #[.int .i64 at_] ∧ Blk w tc 23 #[V] ∧ Blk w lc 3 #[.int .i64 low] ∧ Blk w xc 38 top ∧ NodesD D w V ts
theorem pxr_holds {W : World} {D : Nat → Prop} {ts : List VN} {ac tc lc xc : Nat} {at_ low : Int} {V : Value} {top : Array Value} (h1 : Blk W ac 3 #[.int .i64 at_]) (h2 : Blk W tc 23 #[V]) (h3 : Blk W lc 3 #[.int .i64 low]) (h4 : Blk W xc 38 top) (h5 : NodesD D W V ts) (hD : ∀ k, D k → k < W.heap.size) : (En.ro (fun k => DXr D ac tc lc xc k) (fun w => PXr D ts ac tc lc xc at_ low V top w ∧ ∀ k, D k → k < w.heap.size)).holds W := by
  refine ⟨⟨⟨h1, h2, h3, h4, h5⟩, hD⟩, fun k hk => ?_, fun w1 w2 hs hk h => ?_⟩
  · rcases hk with rfl | rfl | rfl | rfl | hk
    · exact h1.lt
    · exact h2.lt
    · exact h3.lt
    · exact h4.lt
    · exact hD k hk
  · obtain ⟨⟨q1, q2, q3, q4, q5⟩, q6⟩ := h
    exact ⟨⟨(hk _ (.inl rfl)).trans q1, (hk _ (.inr (.inl rfl))).trans q2, (hk _ (.inr (.inr (.inl rfl)))).trans q3, (hk _ (.inr (.inr (.inr (.inl rfl))))).trans q4, q5.move (fun k hk' => hk k (.inr (.inr (.inr (.inr hk')))))⟩, fun k hk' => Nat.lt_of_lt_of_le (q6 k hk') hs⟩
theorem innerb_ {W : World} {D : Nat → Prop} {V : Value} {ts : List VN} (hN : NodesD D W V ts) (hD : ∀ k, D k → k < W.heap.size) {i : Int} {r : Bool} (h : innerB ts i = r) :
    Calls Tryd.prog 59 #[V, .int .i64 i] W fun e w' => e = .returned (.bool r) ∧ Below W.heap.size W w' := h ▸ inner_ hN hD i
theorem rotr_ {W : World} {D : Nat → Prop} {V : Value} {ts : List VN} (hN : NodesD D W V ts) (hD : ∀ k, D k → k < W.heap.size) (at_ : Int) :
    Calls Tryd.prog 32 #[V, .int .i64 at_] W fun e w' => ∃ A' c', e = .returned (.tuple #[.slice A' (movOf ts 1 at_).1.length c', .int .i64 (movOf ts 1 at_).2]) ∧ Own Z0 W w' [.row (.slice A' (movOf ts 1 at_).1.length c') 38 3 (movOf ts 1 at_).1.length (ncells (movOf ts 1 at_).1)] := by
  obtain ⟨A, c0, rfl⟩ := hN.slice
  have O0 : Own Z0 W W [] := Own.start W
  refine sx_enter (args := [.slice A ts.length c0, .int .i64 at_]) Tryd.func32 rfl rfl (by simp) ?_
  refine cw_seq (fun FK1 K1 => ?_)
  refine cw_region ?_
  obtain ⟨g2, w3, r4, O5, hg6, hs7⟩ := own_box O0 23 (.slice A ts.length c0) rfl
  refine wl_val (v := .pointer (some ⟨g2, 0, none⟩)) (fun ρ e => r4 ρ _ _ _ _ _ _ (e _ _ rfl)) rfl rfl ?_
  obtain ⟨g8, w9, r10, O11, hg12, hs13⟩ := own_box O5 3 (.int .i64 at_) rfl
  refine wl_val (v := .pointer (some ⟨g8, 0, none⟩)) (fun ρ e => r10 ρ _ _ _ _ _ _ (e _ _ rfl)) rfl rfl ?_
  refine wl_val (v := .slice none 0 0) (fun ρ e => ex_assign (e _ _ rfl)) rfl rfl ?_
  refine wl_val (v := .int .i64 0) (fun ρ e => ex_assign (e _ _ rfl)) rfl rfl ?_
  refine wl_nil ?_
  refine xw_next K1 ?_
  refine cw_seq (fun FK14 K14 => ?_)
  refine cw_seq (fun FK15 K15 => ?_)
  refine cw_drawn (fun X => Own Z0 W X [.blk g8 3 #[.int .i64 at_], .blk g2 23 #[.slice A ts.length c0]]) 19 [(0, 0), (1, 2), (2, 1), (3, 1), (4, 0), (5, 0), (6, 2), (7, 1), (8, 1), (9, 1), (10, 0), (11, 0), (12, 0), (13, 1), (14, 1), (15, 0), (16, 2), (17, 1), (18, 1)] (by kernel_rfl) (by kernel_rfl) (PQ.then_ (PQ.then_ PQ.body)) (O11).drew ?_
  have O16 : Own Z0 W w9.drew [.blk g8 3 #[.int .i64 at_], .blk g2 23 #[.slice A ts.length c0]] := O11.drew
  refine wt0 (v := .slice A ts.length c0) rfl (fun ρ e W hW => ex_load1 ty23 (e _ _ rfl) (hW.cell 1 0 rfl rfl)) rfl rfl ?_
  refine wt2_call (args := [.slice A ts.length c0]) rfl in_23 rfl rfl rfl ?_
  refine (check_ (hN.move (fun k hk => (O16.old).block k (hD k hk))) (fun k hk => Nat.lt_of_lt_of_le (hD k hk) (O16.old).size)).mono ?_
  rintro _ w17 ⟨rfl, hb18⟩
  have O19 : Own Z0 W w17 [.blk g8 3 #[.int .i64 at_], .blk g2 23 #[.slice A ts.length c0]] := O16.below hb18
  refine ⟨_, rfl, O19, ?_⟩
  by_cases c20 : (chkV ts) ≠ 0
  · skip
    refine wt1 (v := .bool true) rfl (fun ρ e W => ex_cmp (u := (chkV ts)) (v := 0) (e _ _ rfl) (e _ _ rfl) (neq1 (by omega))) rfl rfl ?_
    refine wt1 (v := .bool true) rfl (fun ρ e W => ex_move (e _ _ rfl)) rfl rfl ?_
    refine wt0_skip rfl rfl rfl ?_
    refine wt0_skip rfl rfl rfl ?_
    refine wt2_skip rfl rfl rfl O19 ?_
    refine wt1_skip rfl rfl rfl ?_
    refine wt1 (v := .bool true) rfl (fun ρ e W => ex_pick1 (e _ _ rfl) (e _ _ rfl)) rfl rfl ?_
    refine wt1 (v := .bool true) rfl (fun ρ e W => ex_move (e _ _ rfl)) rfl rfl ?_
    refine wt0_skip rfl rfl rfl ?_
    refine wt0_skip rfl rfl rfl ?_
    refine wt0_skip rfl rfl rfl ?_
    refine wt1_skip rfl rfl rfl ?_
    refine wt1_skip rfl rfl rfl ?_
    refine wt0_skip rfl rfl rfl ?_
    refine wt2_skip rfl rfl rfl O19 ?_
    refine wt1_skip rfl rfl rfl ?_
    refine wt1 (v := .bool true) rfl (fun ρ e W => ex_pick1 (e _ _ rfl) (e _ _ rfl)) rfl rfl ?_
    refine wt_nil ?_
    refine xw_next K15 ?_
    refine cw_true rfl ?_
    refine cw_seq (fun FK21 K21 => ?_)
    refine cw_region ?_
    refine wl_val (v := .slice none 0 0) (fun ρ e => ex_assign (e _ _ rfl)) rfl rfl ?_
    refine wl_val (v := .int .i64 1) (fun ρ e => ex_assign (e _ _ rfl)) rfl rfl ?_
    refine wl_nil ?_
    refine xw_next K21 ?_
    refine cw_ret ?_
    refine xw_past (by intro h; cases h) ?_
    refine xw_ret (v := .tuple #[.slice none 0 0, .int .i64 1]) (fun T hT => res2 rfl T _ (hT 4 _ rfl) (hT 5 _ rfl)) ?_
    have hcan : canB ts 1 at_ = false := by unfold canB; rw [chk_no c20]; rfl
    rw [mov_no hcan]
    have O22 := O19.nilrow 38 3
    exact ⟨none, 0, rfl, O22.re [0] rfl⟩
  · skip
    have hok : okT ts = true := chk_ok (by omega)
    have hV := okT_val hok
    have hpos := hV.pos
    have hle := hV.le
    obtain ⟨b, o, c', hv, hDb⟩ := hN.form hpos
    injection hv with hA _ hc
    subst hA hc
    refine wt1 (v := .bool false) rfl (fun ρ e W => ex_cmp (u := (chkV ts)) (v := 0) (e _ _ rfl) (e _ _ rfl) (neq0 (by omega))) rfl rfl ?_
    refine wt1 (v := .bool false) rfl (fun ρ e W => ex_move (e _ _ rfl)) rfl rfl ?_
    refine wt0 (v := .slice (some ⟨b, o, none⟩) ts.length c0) rfl (fun ρ e W hW => ex_load1 ty23 (e _ _ rfl) (hW.cell 1 0 rfl rfl)) rfl rfl ?_
    refine wt0 (v := .int .i64 at_) rfl (fun ρ e W hW => ex_load1 ty3 (e _ _ rfl) (hW.cell 0 0 rfl rfl)) rfl rfl ?_
    by_cases c23 : (innerB ts at_) = true
    · skip
      obtain ⟨k, a, b2, rfl, hx⟩ := inner_get hV c23
      have hkl := hV.in_ hx
      refine wt2_call (args := [.slice (some ⟨b, o, none⟩) ts.length c0, .int .i64 (k : Int)]) rfl in_59 rfl rfl rfl ?_
      refine (innerb_ (hN.move (fun k hk => (O19.old).block k (hD k hk))) (fun k hk => Nat.lt_of_lt_of_le (hD k hk) (O19.old).size) (show innerB ts (k : Int) = true from c23)).mono ?_
      rintro _ w24 ⟨rfl, hb25⟩
      have O26 : Own Z0 W w24 [.blk g8 3 #[.int .i64 (k : Int)], .blk g2 23 #[.slice (some ⟨b, o, none⟩) ts.length c0]] := O19.below hb25
      refine ⟨_, rfl, O26, ?_⟩
      refine wt1 (v := .bool false) rfl (fun ρ e W => ex_lnot (b := true) (e _ _ rfl)) rfl rfl ?_
      refine wt1 (v := .bool false) rfl (fun ρ e W => ex_pick0 (e _ _ rfl) (e _ _ rfl)) rfl rfl ?_
      refine wt1 (v := .bool false) rfl (fun ρ e W => ex_move (e _ _ rfl)) rfl rfl ?_
      refine wt0 (v := .slice (some ⟨b, o, none⟩) ts.length c0) rfl (fun ρ e W hW => ex_load1 ty23 (e _ _ rfl) (hW.cell 1 0 rfl rfl)) rfl rfl ?_
      refine wt0 (v := .slice (some ⟨b, o, none⟩) ts.length c0) rfl (fun ρ e W hW => ex_load1 ty23 (e _ _ rfl) (hW.cell 1 0 rfl rfl)) rfl rfl ?_
      refine wt0 (v := .int .i64 (k : Int)) rfl (fun ρ e W hW => ex_load1 ty3 (e _ _ rfl) (hW.cell 0 0 rfl rfl)) rfl rfl ?_
      refine wt1 (v := .pointer (some ⟨b, o + k * 3, none⟩)) rfl (fun ρ e W => ex_idx (q := o + k * 3) (i := k) el23 (e _ _ rfl) (e _ _ rfl) (by omega) (by omega)) rfl rfl ?_
      refine wt1 (v := .pointer (some ⟨b, o + k * 3, none⟩)) rfl (fun ρ e W => ex_field (q := o + k * 3) fi38_0 (e _ _ rfl) rfl) rfl rfl ?_
      refine wt0 (v := .int .i64 (a : Int)) rfl (fun ρ e W hW => ex_load1 ty3 (e _ _ rfl) (NodesD.c0 (hN.move (fun k hk => (hW.old).block k (hD k hk))) hx)) rfl rfl ?_
      by_cases c27 : (innerB ts (a : Int)) = true
      · skip
        obtain ⟨p, q, hlow⟩ := inner_nat hV c27
        refine wt2_call (args := [.slice (some ⟨b, o, none⟩) ts.length c0, .int .i64 (a : Int)]) rfl in_59 rfl rfl rfl ?_
        refine (innerb_ (hN.move (fun k hk => (O26.old).block k (hD k hk))) (fun k hk => Nat.lt_of_lt_of_le (hD k hk) (O26.old).size) (show innerB ts (a : Int) = true from c27)).mono ?_
        rintro _ w28 ⟨rfl, hb29⟩
        have O30 : Own Z0 W w28 [.blk g8 3 #[.int .i64 (k : Int)], .blk g2 23 #[.slice (some ⟨b, o, none⟩) ts.length c0]] := O26.below hb29
        refine ⟨_, rfl, O30, ?_⟩
        refine wt1 (v := .bool false) rfl (fun ρ e W => ex_lnot (b := true) (e _ _ rfl)) rfl rfl ?_
        refine wt1 (v := .bool false) rfl (fun ρ e W => ex_pick0 (e _ _ rfl) (e _ _ rfl)) rfl rfl ?_
        refine wt_nil ?_
        refine xw_next K15 ?_
        refine cw_false rfl ?_
        refine cw_skip ?_
        refine xw_next K14 ?_
        refine cw_seq (fun FK31 K31 => ?_)
        refine cw_region ?_
        refine wl_val (v := .slice (some ⟨b, o, none⟩) ts.length c0) (fun ρ e => ex_load1 ty23 (e _ _ rfl) (O30.cell 1 0 rfl rfl)) rfl rfl ?_
        refine wl_val (v := .int .i64 (k : Int)) (fun ρ e => ex_load1 ty3 (e _ _ rfl) (O30.cell 0 0 rfl rfl)) rfl rfl ?_
        refine wl_val (v := .pointer (some ⟨b, o + k * 3, none⟩)) (fun ρ e => ex_idx (q := o + k * 3) (i := k) el23 (e _ _ rfl) (e _ _ rfl) (by omega) (by omega)) rfl rfl ?_
        refine wl_val (v := .pointer (some ⟨b, o + k * 3, none⟩)) (fun ρ e => ex_field (q := o + k * 3) fi38_0 (e _ _ rfl) rfl) rfl rfl ?_
        refine wl_val (v := .int .i64 (a : Int)) (fun ρ e => ex_load1 ty3 (e _ _ rfl) (NodesD.c0 (hN.move (fun k hk => (O30.old).block k (hD k hk))) hx)) rfl rfl ?_
        obtain ⟨g32, w33, r34, O35, hg36, hs37⟩ := own_alloc O30 3 ze3 rfl
        refine wl_val (v := .pointer (some ⟨g32, 0, none⟩)) (fun ρ e => r34 ρ _ _ _ _ _) rfl rfl ?_
        obtain ⟨w38, r39, O40, hs41⟩ := own_put (o := 0) (n := 1) O35 ty3 (.int .i64 (a : Int)) [.int .i64 (a : Int)] (cs' := #[.int .i64 (a : Int)]) rfl rfl rfl (Nat.le_of_ble_eq_true rfl) rfl
        refine wl_none (fun ρ e => r39 ρ _ _ _ _ _ _ (e _ _ rfl) (e _ _ rfl)) rfl ?_
        refine wl_nil ?_
        refine xw_next K31 ?_
        refine cw_seq (fun FK42 K42 => ?_)
        refine cw_region ?_
        refine wl_val (v := .slice (some ⟨b, o, none⟩) ts.length c0) (fun ρ e => ex_load1 ty23 (e _ _ rfl) (O40.cell 2 0 rfl rfl)) rfl rfl ?_
        refine wl_val (v := .int .i64 (k : Int)) (fun ρ e => ex_load1 ty3 (e _ _ rfl) (O40.cell 1 0 rfl rfl)) rfl rfl ?_
        refine wl_val (v := .pointer (some ⟨b, o + k * 3, none⟩)) (fun ρ e => ex_idx (q := o + k * 3) (i := k) el23 (e _ _ rfl) (e _ _ rfl) (by omega) (by omega)) rfl rfl ?_
        refine wl_val (v := .agg #[.int .i64 (a : Int), .int .i64 (b2 : Int), .int .i64 0]) (fun ρ e => ex_loadN (vs := [.int .i64 (a : Int), .int .i64 (b2 : Int), .int .i64 0]) ty38 (e _ _ rfl) rfl (cells3 (NodesD.c0 (hN.move (fun k hk => (O40.old).block k (hD k hk))) hx) (NodesD.c1 (hN.move (fun k hk => (O40.old).block k (hD k hk))) hx) (NodesD.c2 (hN.move (fun k hk => (O40.old).block k (hD k hk))) hx))) rfl rfl ?_
        obtain ⟨g43, w44, r45, O46, hg47, hs48⟩ := own_alloc O40 38 ze38 rfl
        refine wl_val (v := .pointer (some ⟨g43, 0, none⟩)) (fun ρ e => r45 ρ _ _ _ _ _) rfl rfl ?_
        obtain ⟨w49, r50, O51, hs52⟩ := own_put (o := 0) (n := 3) O46 ty38 (.agg #[.int .i64 (a : Int), .int .i64 (b2 : Int), .int .i64 0]) [.int .i64 (a : Int), .int .i64 (b2 : Int), .int .i64 0] (cs' := #[.int .i64 (a : Int), .int .i64 (b2 : Int), .int .i64 0]) rfl rfl rfl (Nat.le_of_ble_eq_true rfl) rfl
        refine wl_none (fun ρ e => r50 ρ _ _ _ _ _ _ (e _ _ rfl) (e _ _ rfl)) rfl ?_
        refine wl_nil ?_
        refine xw_next K42 ?_
        refine cw_seq (fun FK53 K53 => ?_)
        refine cw_region ?_
        refine wl_val (v := .slice (some ⟨b, o, none⟩) ts.length c0) (fun ρ e => ex_load1 ty23 (e _ _ rfl) (O51.cell 3 0 rfl rfl)) rfl rfl ?_
        refine wl_val (v := .func (.func 61) #[] #[.pointer (some ⟨g8, 0, none⟩), .pointer (some ⟨g2, 0, none⟩), .pointer (some ⟨g32, 0, none⟩), .pointer (some ⟨g43, 0, none⟩)]) (fun ρ e => ex_func (us := []) (vs := [.pointer (some ⟨g8, 0, none⟩), .pointer (some ⟨g2, 0, none⟩), .pointer (some ⟨g32, 0, none⟩), .pointer (some ⟨g43, 0, none⟩)]) (e.list rfl) (e.list rfl)) rfl rfl ?_
        refine wl_call (args := [.slice (some ⟨b, o, none⟩) ts.length c0, .func (.func 61) #[] #[.pointer (some ⟨g8, 0, none⟩), .pointer (some ⟨g2, 0, none⟩), .pointer (some ⟨g32, 0, none⟩), .pointer (some ⟨g43, 0, none⟩)]]) in_60 rfl rfl rfl ?_
        have hpx := pxr_holds (ac := g8) (tc := g2) (lc := g32) (xc := g43) (O51.blk 2 rfl) (O51.blk 3 rfl) (O51.blk 1 rfl) (O51.blk 0 rfl) (hN.move (fun k hk => (O51.old).block k (hD k hk))) (fun k hk => Nat.lt_of_lt_of_le (hD k hk) (O51.old).size)
        obtain ⟨⟨vs, hAt⟩, hsz⟩ := mvR hV hx hlow
        refine (postorder_ (f := fR k a p q b2) (caps := [.pointer (some ⟨g8, 0, none⟩), .pointer (some ⟨g2, 0, none⟩), .pointer (some ⟨g32, 0, none⟩), .pointer (some ⟨g43, 0, none⟩)]) in_61 (fun i a b a' b' _ hf W hW => chr_ hf hlow hW.1.2.2.2.2 hW.2 hW.1.1 hW.1.2.1 hW.1.2.2.1 hW.1.2.2.2.1) hAt (by omega) hpos hle (hN.move (fun k hk => (O51.old).block k (hD k hk))) (fun k hk => Nat.lt_of_lt_of_le (hD k hk) (O51.old).size) hpx).mono ?_
        rintro _ w56 ⟨A54, c55, rfl, h57⟩
        have O58 := O51.join1 h57 trivial
        refine ⟨_, rfl, ?_⟩
        refine wl_val (v := .slice A54 (Tr.size (chT ts 1 k ts.length (ts.length - 1))) c55) (fun ρ e => ex_assign (e _ _ rfl)) rfl rfl ?_
        refine wl_val (v := .int .i64 0) (fun ρ e => ex_assign (e _ _ rfl)) rfl rfl ?_
        refine wl_nil ?_
        refine xw_next K53 ?_
        refine cw_ret ?_
        refine xw_ret (v := .tuple #[.slice A54 (Tr.size (chT ts 1 k ts.length (ts.length - 1))) c55, .int .i64 0]) (fun T hT => res2 rfl T _ (hT 4 _ rfl) (hT 5 _ rfl)) ?_
        have hcan : canB ts 1 (k : Int) = true := by unfold canB; rw [hok, c23, child_at hx]; simpa using c27
        rw [mov_yes hcan]
        simp only [post_len]
        exact ⟨A54, c55, rfl, (O58.re [0] rfl : Own Z0 W w56 [.row (.slice A54 (Tr.size (chT ts 1 k ts.length (ts.length - 1))) c55) 38 3 (Tr.size (chT ts 1 k ts.length (ts.length - 1))) (ncells (post (chT ts 1 k ts.length (ts.length - 1)) 0))])⟩
      · skip
        refine wt2_call (args := [.slice (some ⟨b, o, none⟩) ts.length c0, .int .i64 (a : Int)]) rfl in_59 rfl rfl rfl ?_
        refine (innerb_ (hN.move (fun k hk => (O26.old).block k (hD k hk))) (fun k hk => Nat.lt_of_lt_of_le (hD k hk) (O26.old).size) (show innerB ts (a : Int) = false from Bool.eq_false_iff.2 c27)).mono ?_
        rintro _ w59 ⟨rfl, hb60⟩
        have O61 : Own Z0 W w59 [.blk g8 3 #[.int .i64 (k : Int)], .blk g2 23 #[.slice (some ⟨b, o, none⟩) ts.length c0]] := O26.below hb60
        refine ⟨_, rfl, O61, ?_⟩
        refine wt1 (v := .bool true) rfl (fun ρ e W => ex_lnot (b := false) (e _ _ rfl)) rfl rfl ?_
        refine wt1 (v := .bool true) rfl (fun ρ e W => ex_pick0 (e _ _ rfl) (e _ _ rfl)) rfl rfl ?_
        refine wt_nil ?_
        refine xw_next K15 ?_
        refine cw_true rfl ?_
        refine cw_seq (fun FK62 K62 => ?_)
        refine cw_region ?_
        refine wl_val (v := .slice none 0 0) (fun ρ e => ex_assign (e _ _ rfl)) rfl rfl ?_
        refine wl_val (v := .int .i64 1) (fun ρ e => ex_assign (e _ _ rfl)) rfl rfl ?_
        refine wl_nil ?_
        refine xw_next K62 ?_
        refine cw_ret ?_
        refine xw_past (by intro h; cases h) ?_
        refine xw_ret (v := .tuple #[.slice none 0 0, .int .i64 1]) (fun T hT => res2 rfl T _ (hT 4 _ rfl) (hT 5 _ rfl)) ?_
        have hcan : canB ts 1 (k : Int) = false := by unfold canB; rw [child_at hx, Bool.and_eq_false_iff]; right; simpa using c27
        rw [mov_no hcan]
        have O63 := O61.nilrow 38 3
        exact ⟨none, 0, rfl, O63.re [0] rfl⟩
    · skip
      refine wt2_call (args := [.slice (some ⟨b, o, none⟩) ts.length c0, .int .i64 at_]) rfl in_59 rfl rfl rfl ?_
      refine (innerb_ (hN.move (fun k hk => (O19.old).block k (hD k hk))) (fun k hk => Nat.lt_of_lt_of_le (hD k hk) (O19.old).size) (show innerB ts at_ = false from Bool.eq_false_iff.2 c23)).mono ?_
      rintro _ w64 ⟨rfl, hb65⟩
      have O66 : Own Z0 W w64 [.blk g8 3 #[.int .i64 at_], .blk g2 23 #[.slice (some ⟨b, o, none⟩) ts.length c0]] := O19.below hb65
      refine ⟨_, rfl, O66, ?_⟩
      refine wt1 (v := .bool true) rfl (fun ρ e W => ex_lnot (b := false) (e _ _ rfl)) rfl rfl ?_
      refine wt1 (v := .bool true) rfl (fun ρ e W => ex_pick0 (e _ _ rfl) (e _ _ rfl)) rfl rfl ?_
      refine wt1 (v := .bool true) rfl (fun ρ e W => ex_move (e _ _ rfl)) rfl rfl ?_
      refine wt0_skip rfl rfl rfl ?_
      refine wt0_skip rfl rfl rfl ?_
      refine wt0_skip rfl rfl rfl ?_
      refine wt1_skip rfl rfl rfl ?_
      refine wt1_skip rfl rfl rfl ?_
      refine wt0_skip rfl rfl rfl ?_
      refine wt2_skip rfl rfl rfl O66 ?_
      refine wt1_skip rfl rfl rfl ?_
      refine wt1 (v := .bool true) rfl (fun ρ e W => ex_pick1 (e _ _ rfl) (e _ _ rfl)) rfl rfl ?_
      refine wt_nil ?_
      refine xw_next K15 ?_
      refine cw_true rfl ?_
      refine cw_seq (fun FK67 K67 => ?_)
      refine cw_region ?_
      refine wl_val (v := .slice none 0 0) (fun ρ e => ex_assign (e _ _ rfl)) rfl rfl ?_
      refine wl_val (v := .int .i64 1) (fun ρ e => ex_assign (e _ _ rfl)) rfl rfl ?_
      refine wl_nil ?_
      refine xw_next K67 ?_
      refine cw_ret ?_
      refine xw_past (by intro h; cases h) ?_
      refine xw_ret (v := .tuple #[.slice none 0 0, .int .i64 1]) (fun T hT => res2 rfl T _ (hT 4 _ rfl) (hT 5 _ rfl)) ?_
      have hcan : canB ts 1 at_ = false := by unfold canB; rw [Bool.eq_false_iff.2 c23]; simp
      rw [mov_no hcan]
      have O68 := O66.nilrow 38 3
      exact ⟨none, 0, rfl, O68.re [0] rfl⟩
theorem swap_ {W : World} {D : Nat → Prop} {V : Value} {ts : List VN} (hN : NodesD D W V ts) (hD : ∀ k, D k → k < W.heap.size) (at_ : Int) :
    Calls Tryd.prog 34 #[V, .int .i64 at_] W fun e w' => ∃ A' c', e = .returned (.tuple #[.slice A' (movOf ts 3 at_).1.length c', .int .i64 (movOf ts 3 at_).2]) ∧ Own Z0 W w' [.row (.slice A' (movOf ts 3 at_).1.length c') 38 3 (movOf ts 3 at_).1.length (ncells (movOf ts 3 at_).1)] := by
  obtain ⟨A, c0, rfl⟩ := hN.slice
  have O0 : Own Z0 W W [] := Own.start W
  refine sx_enter (args := [.slice A ts.length c0, .int .i64 at_]) Tryd.func34 rfl rfl (by simp) ?_
  refine cw_seq (fun FK1 K1 => ?_)
  refine cw_region ?_
  obtain ⟨g2, w3, r4, O5, hg6, hs7⟩ := own_box O0 3 (.int .i64 at_) rfl
  refine wl_val (v := .pointer (some ⟨g2, 0, none⟩)) (fun ρ e => r4 ρ _ _ _ _ _ _ (e _ _ rfl)) rfl rfl ?_
  refine wl_val (v := .slice none 0 0) (fun ρ e => ex_assign (e _ _ rfl)) rfl rfl ?_
  refine wl_val (v := .int .i64 0) (fun ρ e => ex_assign (e _ _ rfl)) rfl rfl ?_
  refine wl_nil ?_
  refine xw_next K1 ?_
  refine cw_seq (fun FK8 K8 => ?_)
  refine cw_seq (fun FK9 K9 => ?_)
  refine cw_region ?_
  refine wl_val (v := .slice A ts.length c0) (fun ρ e => ex_move (e _ _ rfl)) rfl rfl ?_
  refine wl_call (args := [.slice A ts.length c0]) in_23 rfl rfl rfl ?_
  refine (check_ (hN.move (fun k hk => (O5.old).block k (hD k hk))) (fun k hk => Nat.lt_of_lt_of_le (hD k hk) (O5.old).size)).mono ?_
  rintro _ w10 ⟨rfl, hb11⟩
  have O12 : Own Z0 W w10 [.blk g2 3 #[.int .i64 at_]] := O5.below hb11
  refine ⟨_, rfl, ?_⟩
  by_cases c13 : (chkV ts) ≠ 0
  · skip
    refine wl_val (v := .bool true) (fun ρ e => ex_cmp (u := (chkV ts)) (v := 0) (e _ _ rfl) (e _ _ rfl) (neq1 (by omega))) rfl rfl ?_
    refine wl_val (v := .bool true) (fun ρ e => ex_move (e _ _ rfl)) rfl rfl ?_
    refine wl_skip rfl rfl ?_
    refine wl_skip rfl rfl ?_
    refine wl_skip rfl rfl ?_
    refine wl_skip rfl rfl ?_
    refine wl_val (v := .bool true) (fun ρ e => ex_pick1 (e _ _ rfl) (e _ _ rfl)) rfl rfl ?_
    refine wl_nil ?_
    refine xw_next K9 ?_
    refine cw_true rfl ?_
    refine cw_seq (fun FK14 K14 => ?_)
    refine cw_region ?_
    refine wl_val (v := .slice none 0 0) (fun ρ e => ex_assign (e _ _ rfl)) rfl rfl ?_
    refine wl_val (v := .int .i64 1) (fun ρ e => ex_assign (e _ _ rfl)) rfl rfl ?_
    refine wl_nil ?_
    refine xw_next K14 ?_
    refine cw_ret ?_
    refine xw_past (by intro h; cases h) ?_
    refine xw_ret (v := .tuple #[.slice none 0 0, .int .i64 1]) (fun T hT => res2 rfl T _ (hT 4 _ rfl) (hT 5 _ rfl)) ?_
    have hcan : canB ts 3 at_ = false := by unfold canB; rw [chk_no c13]; rfl
    rw [mov_no hcan]
    have O15 := O12.nilrow 38 3
    exact ⟨none, 0, rfl, O15.re [0] rfl⟩
  · skip
    have hok : okT ts = true := chk_ok (by omega)
    have hV := okT_val hok
    have hpos := hV.pos
    have hle := hV.le
    obtain ⟨b, o, c', hv, hDb⟩ := hN.form hpos
    injection hv with hA _ hc
    subst hA hc
    refine wl_val (v := .bool false) (fun ρ e => ex_cmp (u := (chkV ts)) (v := 0) (e _ _ rfl) (e _ _ rfl) (neq0 (by omega))) rfl rfl ?_
    refine wl_val (v := .bool false) (fun ρ e => ex_move (e _ _ rfl)) rfl rfl ?_
    refine wl_val (v := .slice (some ⟨b, o, none⟩) ts.length c0) (fun ρ e => ex_move (e _ _ rfl)) rfl rfl ?_
    refine wl_val (v := .int .i64 at_) (fun ρ e => ex_load1 ty3 (e _ _ rfl) (O12.cell 0 0 rfl rfl)) rfl rfl ?_
    by_cases c16 : (innerB ts at_) = true
    · skip
      obtain ⟨k, a, b2, rfl, hx⟩ := inner_get hV c16
      have hkl := hV.in_ hx
      refine wl_call (args := [.slice (some ⟨b, o, none⟩) ts.length c0, .int .i64 (k : Int)]) in_59 rfl rfl rfl ?_
      refine (innerb_ (hN.move (fun k hk => (O12.old).block k (hD k hk))) (fun k hk => Nat.lt_of_lt_of_le (hD k hk) (O12.old).size) (show innerB ts (k : Int) = true from c16)).mono ?_
      rintro _ w17 ⟨rfl, hb18⟩
      have O19 : Own Z0 W w17 [.blk g2 3 #[.int .i64 (k : Int)]] := O12.below hb18
      refine ⟨_, rfl, ?_⟩
      refine wl_val (v := .bool false) (fun ρ e => ex_lnot (b := true) (e _ _ rfl)) rfl rfl ?_
      refine wl_val (v := .bool false) (fun ρ e => ex_pick0 (e _ _ rfl) (e _ _ rfl)) rfl rfl ?_
      refine wl_nil ?_
      refine xw_next K9 ?_
      refine cw_false rfl ?_
      refine cw_skip ?_
      refine xw_next K8 ?_
      refine cw_seq (fun FK20 K20 => ?_)
      refine cw_region ?_
      refine wl_val (v := .slice (some ⟨b, o, none⟩) ts.length c0) (fun ρ e => ex_move (e _ _ rfl)) rfl rfl ?_
      refine wl_val (v := .func (.func 63) #[] #[.pointer (some ⟨g2, 0, none⟩)]) (fun ρ e => ex_func (us := []) (vs := [.pointer (some ⟨g2, 0, none⟩)]) (e.list rfl) (e.list rfl)) rfl rfl ?_
      refine wl_call (args := [.slice (some ⟨b, o, none⟩) ts.length c0, .func (.func 63) #[] #[.pointer (some ⟨g2, 0, none⟩)]]) in_60 rfl rfl rfl ?_
      have hpx : (En.ro (fun k => k = g2) (fun w => Blk w g2 3 #[.int .i64 (k : Int)])).holds w17 := ⟨(O19.blk 0 rfl), fun j hj => hj ▸ (O19.blk 0 rfl).lt, fun _ _ _ hk h => (hk _ rfl).trans h⟩
      obtain ⟨⟨vs, hAt⟩, hsz⟩ := mvS hV hx
      refine (postorder_ (f := fS k) (caps := [.pointer (some ⟨g2, 0, none⟩)]) in_63 (fun i a b a' b' _ hf W hW => chs_ hf hW) hAt (by omega) hpos hle (hN.move (fun k hk => (O19.old).block k (hD k hk))) (fun k hk => Nat.lt_of_lt_of_le (hD k hk) (O19.old).size) hpx).mono ?_
      rintro _ w23 ⟨A21, c22, rfl, h24⟩
      have O25 := O19.join1 h24 trivial
      refine ⟨_, rfl, ?_⟩
      refine wl_val (v := .slice A21 (Tr.size (chT ts 3 k ts.length (ts.length - 1))) c22) (fun ρ e => ex_assign (e _ _ rfl)) rfl rfl ?_
      refine wl_val (v := .int .i64 0) (fun ρ e => ex_assign (e _ _ rfl)) rfl rfl ?_
      refine wl_nil ?_
      refine xw_next K20 ?_
      refine cw_ret ?_
      refine xw_ret (v := .tuple #[.slice A21 (Tr.size (chT ts 3 k ts.length (ts.length - 1))) c22, .int .i64 0]) (fun T hT => res2 rfl T _ (hT 4 _ rfl) (hT 5 _ rfl)) ?_
      have hcan : canB ts 3 (k : Int) = true := by unfold canB; rw [hok, c16]; rfl
      rw [mov_yes hcan]
      simp only [post_len]
      exact ⟨A21, c22, rfl, (O25.re [0] rfl : Own Z0 W w23 [.row (.slice A21 (Tr.size (chT ts 3 k ts.length (ts.length - 1))) c22) 38 3 (Tr.size (chT ts 3 k ts.length (ts.length - 1))) (ncells (post (chT ts 3 k ts.length (ts.length - 1)) 0))])⟩
    · skip
      refine wl_call (args := [.slice (some ⟨b, o, none⟩) ts.length c0, .int .i64 at_]) in_59 rfl rfl rfl ?_
      refine (innerb_ (hN.move (fun k hk => (O12.old).block k (hD k hk))) (fun k hk => Nat.lt_of_lt_of_le (hD k hk) (O12.old).size) (show innerB ts at_ = false from Bool.eq_false_iff.2 c16)).mono ?_
      rintro _ w26 ⟨rfl, hb27⟩
      have O28 : Own Z0 W w26 [.blk g2 3 #[.int .i64 at_]] := O12.below hb27
      refine ⟨_, rfl, ?_⟩
      refine wl_val (v := .bool true) (fun ρ e => ex_lnot (b := false) (e _ _ rfl)) rfl rfl ?_
      refine wl_val (v := .bool true) (fun ρ e => ex_pick0 (e _ _ rfl) (e _ _ rfl)) rfl rfl ?_
      refine wl_nil ?_
      refine xw_next K9 ?_
      refine cw_true rfl ?_
      refine cw_seq (fun FK29 K29 => ?_)
      refine cw_region ?_
      refine wl_val (v := .slice none 0 0) (fun ρ e => ex_assign (e _ _ rfl)) rfl rfl ?_
      refine wl_val (v := .int .i64 1) (fun ρ e => ex_assign (e _ _ rfl)) rfl rfl ?_
      refine wl_nil ?_
      refine xw_next K29 ?_
      refine cw_ret ?_
      refine xw_past (by intro h; cases h) ?_
      refine xw_ret (v := .tuple #[.slice none 0 0, .int .i64 1]) (fun T hT => res2 rfl T _ (hT 4 _ rfl) (hT 5 _ rfl)) ?_
      have hcan : canB ts 3 at_ = false := by unfold canB; rw [Bool.eq_false_iff.2 c16]; simp
      rw [mov_no hcan]
      have O30 := O28.nilrow 38 3
      exact ⟨none, 0, rfl, O30.re [0] rfl⟩

end Go.Proofs.YtpeoodkepjhhiaaDoor
namespace Go.Proofs.YtpeoodkepjhhiaaDoor

def ordB (l : List Int) : Bool := decide (0 < l.length) && (l.all fun v => decide (1 ≤ v) && decide (v ≤ 128)) && decide l.Nodup
def opreB (l : List Int) : Bool := (l.all fun v => decide (1 ≤ v) && decide (v ≤ 128)) && decide l.Nodup
theorem ordB_iff {l : List Int} : ordB l = true ↔ 0 < l.length ∧ opreB l = true := by
  unfold ordB opreB
  simp only [Bool.and_eq_true, decide_eq_true_eq, and_assoc]
theorem opreB_iff {l : List Int} : opreB l = true ↔ (∀ v ∈ l, 1 ≤ v ∧ v ≤ 128) ∧ l.Nodup := by
  unfold opreB
  simp only [Bool.and_eq_true, decide_eq_true_eq, List.all_eq_true]
theorem opre_snoc {l : List Int} {v : Int} (h : opreB l = true) : opreB (l ++ [v]) = true ↔ 1 ≤ v ∧ v ≤ 128 ∧ v ∉ l := by
  rw [opreB_iff] at h ⊢
  rw [nodup_snoc]
  constructor
  · rintro ⟨h1, h2, h3⟩
    have := h1 v (by simp)
    exact ⟨this.1, this.2, h3⟩
  · rintro ⟨h1, h2, h3⟩
    refine ⟨fun u hu => ?_, h.2, h3⟩
    rcases List.mem_append.1 hu with hu | hu
    · exact h.1 u hu
    · rw [List.mem_singleton.1 hu]; exact ⟨h1, h2⟩
theorem opre_take {l : List Int} (h : opreB l = true) (k : Nat) : opreB (l.take k) = true := by
  rw [opreB_iff] at h ⊢
  exact ⟨fun v hv => h.1 v (List.mem_of_mem_take hv), h.2.sublist (List.take_sublist _ _)⟩
/-- The tree of variables, of which g says how many are below a node's left child. -/
def mkT (g : Nat → Nat) : Nat → List Int → Tr
  | 0, _ => .leaf 0
  | n + 1, l => if l.length ≤ 1 then .leaf (l.getD 0 0) else .node (mkT g n (l.take (g l.length))) (mkT g n (l.drop (g l.length)))
def gOf (kind : Nat) : Nat → Nat := if kind = 1 then fun _ => 1 else if kind = 2 then fun k => k - 1 else fun k => (k + 1) / 2
def makeOf (kind : Nat) (l : List Int) : List VN × Int := if ordB l then (post (mkT (gOf kind) l.length l) 0, 0) else ([], 1)
theorem gOf_good (kind m : Nat) (h : 2 ≤ m) : 1 ≤ gOf kind m ∧ gOf kind m < m := by
  unfold gOf
  split
  · dsimp only; omega
  · split
    · dsimp only; omega
    · dsimp only; omega
theorem mkT_one {g : Nat → Nat} {n : Nat} {l : List Int} {v : Int} (h : l.length = 1) (hv : l[0]? = some v) : mkT g (n + 1) l = .leaf v := by
  unfold mkT
  rw [if_pos (by omega), List.getD_eq_getElem?_getD, hv]
  rfl
theorem mkT_more {g : Nat → Nat} {n : Nat} {l : List Int} (h : 2 ≤ l.length) : mkT g (n + 1) l = .node (mkT g n (l.take (g l.length))) (mkT g n (l.drop (g l.length))) := by
  conv => lhs; unfold mkT
  rw [if_neg (by omega)]
theorem mkT_leaves {g : Nat → Nat} (hg : ∀ m, 2 ≤ m → 1 ≤ g m ∧ g m < m) : ∀ (n : Nat) (l : List Int), 0 < l.length → l.length ≤ n → (mkT g n l).leaves = l ∧ (mkT g n l).size = 2 * l.length - 1
  | 0, l, h1, h2 => by omega
  | n + 1, l, h1, h2 => by
    by_cases h : l.length ≤ 1
    · match l, h1, h with
      | [v], _, _ => exact ⟨rfl, rfl⟩
    · have hk := hg l.length (by omega)
      rw [mkT_more (by omega)]
      obtain ⟨q1, q2⟩ := mkT_leaves hg n (l.take (g l.length)) (by rw [List.length_take]; omega) (by rw [List.length_take]; omega)
      obtain ⟨q3, q4⟩ := mkT_leaves hg n (l.drop (g l.length)) (by rw [List.length_drop]; omega) (by rw [List.length_drop]; omega)
      refine ⟨by simp only [Tr.leaves, q1, q3, List.take_append_drop], ?_⟩
      simp only [Tr.size, q2, q4, List.length_take, List.length_drop]
      omega
end Go.Proofs.YtpeoodkepjhhiaaDoor
