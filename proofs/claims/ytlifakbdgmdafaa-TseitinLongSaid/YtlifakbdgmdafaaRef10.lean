/-
  The states of censusref10: what they hold; what its methods may change; add. censusref10: holds, fresh. censusref10: what a method's world holds between its statements; sum. censusref10's gates, kind by kind: plain equations. censusref10: what the loads of a drawn region read. censusref10: sum. censusref10's exclusive or of one input: a plain equation.
-/
import Derived.Test.YtlifakbdgmdafaaWEncode
import Derived.Test.YtlifakbdgmdafaaOwn2
import Derived.Test.YtlifakbdgmdafaaExtend
import Derived.Test.YtlifakbdgmdafaaWSets5
import Derived.Test.YtlifakbdgmdafaaSx
import Derived.Test.YtlifakbdgmdafaaSem
import Derived.Deep.DeepCutAuto
import Derived.Test.YtlifakbdgmdafaaEx
namespace Go.Proofs.Ytlifakbdgmdafaa
open Go Go.RowKit

structure RS where
  n : Int
  L : List (List Int)
  a : VS
  closed : Bool
def RS.add (s : RS) (l : List Int) : RS := ⟨s.n, s.L ++ [l], s.a, s.closed⟩
def RS.adds (s : RS) (r : List (List Int)) : RS := ⟨s.n, s.L ++ r, s.a, s.closed⟩
def RS.fresh (s : RS) (is : Bool) : RS := ⟨s.n + 1, s.L, if is then s.a.with_ (s.n + 1) else s.a, if 128 < s.n + 1 then true else s.closed⟩
def RS.var (s : RS) : Int := if 128 < s.n + 1 then 1 else s.n + 1
theorem RS.adds_cons (s : RS) (l : List Int) (r : List (List Int)) : s.adds (l :: r) = (s.add l).adds r := by simp [RS.adds, RS.add]
theorem RS.adds_nil (s : RS) : s.adds [] = s := by simp [RS.adds]

/-- Blocks to come are all right for rows. -/
def AvOk (Av : Nat → Prop) (w : World) : Prop := ∀ k, w.heap.size ≤ k → Av k
theorem AvOk.le {Av : Nat → Prop} {w W : World} (h : AvOk Av w) (hs : w.heap.size ≤ W.heap.size) : AvOk Av W := fun k hk => h k (Nat.le_trans hs hk)
/-- Only rows of slices from base on may have changed. -/
structure FrR (base : Nat) (w w' : World) : Prop where
  os : w'.os = w.os
  tape : w'.tape = w.tape
  output : w'.output = w.output
  size : w.heap.size ≤ w'.heap.size
  keep : ∀ k o, w.heap[k]? = some o → ((∀ cs fz, o ≠ .cells cs 30 fz) ∨ k < base) → w'.heap[k]? = some o
theorem FrR.refl (base : Nat) (w : World) : FrR base w w := ⟨rfl, rfl, rfl, Nat.le_refl _, fun _ _ h _ => h⟩
theorem FrR.trans {base : Nat} {a b c : World} (h : FrR base a b) (k : FrR base b c) : FrR base a c :=
  ⟨k.os.trans h.os, k.tape.trans h.tape, k.output.trans h.output, Nat.le_trans h.size k.size, fun i o ho ht => k.keep i o (h.keep i o ho ht) ht⟩
theorem FrR.of_below {base : Nat} {a b : World} (h : Below a.heap.size a b) : FrR base a b :=
  ⟨h.os, h.tape, h.output, h.size, fun k o ho _ => by rw [h.block k (Array.getElem?_eq_some_iff.1 ho).1]; exact ho⟩
theorem FrR.grown {base : Nat} {w w' : World} {v : Value} {n : Nat} {xs : List Value} (h : w.ownsRow base 30 1 v n xs) (hg : w.grownBy w' v.ownBlock) : FrR base w w' :=
  ⟨hg.os, hg.tape, hg.output, hg.size, fun k o ho ht => by
    by_cases e : some k = v.ownBlock
    · exfalso
      have hk := own_ge h e.symm
      rcases h.2 with ⟨rfl, _⟩ | ⟨g, cap, cur, rfl, _, hh, _⟩
      · simp [Value.ownBlock] at e
      · have : k = g := by simpa [Value.ownBlock] using e
        subst this
        rw [hh] at ho
        injection ho with ho
        rcases ht with ht | ht
        · exact ht _ _ ho.symm
        · omega
    · rw [hg.block k (Array.getElem?_eq_some_iff.1 ho).1 e]; exact ho⟩
theorem FrR.below {base : Nat} {w w' : World} (h : FrR base w w') (hb : base ≤ w.heap.size) : Below base w w' :=
  ⟨h.os, h.tape, h.output, h.size, fun k hk => by
    have hlt : k < w.heap.size := by omega
    rw [Array.getElem?_eq_getElem hlt]
    exact h.keep k _ (Array.getElem?_eq_getElem hlt) (.inr hk)⟩
theorem FrR.blk {base : Nat} {w w' : World} {g : Nat} {t : TypeId} {cs : Array Value} (h : FrR base w w') (hb : Blk w g t cs) (ht : t ≠ 30 ∨ g < base) : Blk w' g t cs :=
  h.keep g _ hb (ht.imp (fun h cs' fz e => by injection e with _ e _; exact h e) id)
theorem FrR.ints {base : Nat} {w w' : World} {b : Nat} {v : Value} {l : List Int} (h : FrR base w w') (ho : OwnInts w b v l) : OwnInts w' b v l := by
  refine ⟨ho.1, ?_⟩
  rcases ho.2 with hn | ⟨g, cap, cur, rfl, hbg, hg, rest⟩
  · exact .inl hn
  · refine .inr ⟨g, cap, cur, rfl, hbg, ?_, rest⟩
    exact h.keep g _ hg (.inl (by intro cs' fz e; injection e with _ e _; revert e; decide))
/-- A block of the call's own, of another type than rows, was written. -/
theorem FrR.setCell_new {base : Nat} {w w' : World} {p : Addr} (h : FrR base w w') (hp : w.heap.size ≤ p.block) (u : Value) : FrR base w (w'.setCell p u) :=
  ⟨h.os, h.tape, h.output, by simpa [World.setCell] using h.size, fun k o ho ht => by
    have hk : k < w.heap.size := (Array.getElem?_eq_some_iff.1 ho).1
    rw [Below.heap_setCell _ _ _ _ (by omega)]
    exact h.keep k o ho ht⟩

theorem append_row (w0 : World) {ops : Array Oper} {rest : List Oper} {o : Oper} {a : Act} {Q : Exit → Act → World → Prop} (hgd : o.guard = none) (s x : Operand)
    (ho : o.op = .call { callee := .builtin .append, args := #[s, x], argTypes := #[27, 27] }) (base : Nat) (v : Value) (n : Nat) (rvs : List Value) (hs : a.eval s = v) (hown : w0.ownsRow base 30 1 v n rvs)
    (rv : Value) (h1 : rv.oneCell' = true) (hx : a.eval x = .slice (some ⟨w0.heap.size, 0, none⟩) 1 1) (hlen : n ≤ 1099511627776) (hbase : base ≤ w0.heap.size)
    (h : ∀ A c w', w'.ownsRow base 30 1 (.slice A (n + 1) c) (n + 1) (rvs ++ [rv]) → w0.grownBy w' v.ownBlock → wpList Try.prog ops Q rest (a.put o.dst (.slice A (n + 1) c)) w') :
    wpList Try.prog ops Q (o :: rest) a (w0.alloc (.cells #[rv] 30)) := by
  have hinfo : (Try.prog.info? 30).map (fun i => (i.zero, i.size, i.bytes)) = some (some (.slice none 0 0), 1, 24) := by kernel_rfl
  obtain ⟨i, hi, hz, hsz, hb⟩ := info_parts hinfo
  exact wpList_append_new w0 hgd s x 27 ho base 30 i _ 1 24 Try.underlying27 hi hz hsz hb rfl (by decide) v n rvs hs hown [rv] hx rfl (by intro u hu; simp at hu; subst hu; exact h1) (by omega) (by unfold maxLen; omega) hbase
    (fun v' w' ho hg => by
      obtain ⟨A, c, rfl⟩ := own_form ho
      exact h A c w' ho hg)
/-- All numbers and rows stay as they are. -/
def Keeps (w w' : World) : Prop := ∀ (k : Nat) (cs : Array Value) (t : TypeId) (fz : Nat × Nat), w.heap[k]? = some (Obj.cells cs t fz) → (t = 3 ∨ t = 30) → w'.heap[k]? = some (Obj.cells cs t fz)
/-- Block g holds a state. -/
def TyAt (w : World) (g : Nat) : Prop := ∃ cs fz, w.heap[g]? = some (.cells cs 63 fz)
theorem Keeps.refl (w : World) : Keeps w w := fun _ _ _ _ h _ => h
theorem Keeps.trans {a b c : World} (h : Keeps a b) (k : Keeps b c) : Keeps a c := fun i cs t fz hi ht => k i cs t fz (h i cs t fz hi ht) ht
theorem TyAt.of {w : World} {g : Nat} {cs : Array Value} (h : Blk w g 63 cs) : TyAt w g := ⟨cs, _, h⟩
theorem TyAt.put {w : World} {g : Nat} (h : TyAt w g) (p : Addr) (u : Value) : TyAt (w.setCell p u) g := by
  obtain ⟨cs, fz, h⟩ := h
  by_cases e : g = p.block
  · subst e
    by_cases hs : p.spot.isSome = true
    · exact ⟨cs, fz, by simp [World.setCell, Array.getElem?_modify, h, hs]⟩
    · exact ⟨cs.setIfInBounds p.off u, fz, by simp [World.setCell, Array.getElem?_modify, h, hs]⟩
  · exact ⟨cs, fz, (Below.heap_setCell w p u g e).trans h⟩
theorem Keeps.set {a w : World} (h : Keeps a w) (p : Addr) (u : Value) (ht : TyAt w p.block) : Keeps a (w.setCell p u) := by
  obtain ⟨cs', fz', ht⟩ := ht
  intro k cs t fz hk htt
  have h1 := h k cs t fz hk htt
  by_cases e : k = p.block
  · subst e
    rw [ht] at h1
    injection h1 with h1
    injection h1 with _ h2 _
    exfalso
    rcases htt with htt | htt <;> (rw [htt] at h2; revert h2; decide)
  · exact (Below.heap_setCell w p u k e).trans h1
theorem Keeps.own {a w : World} {base : Nat} {e : TypeId} {size : Nat} {v : Value} {n : Nat} {xs : List Value} (h : Keeps a w) (he : e = 3 ∨ e = 30) (ho : a.ownsRow base e size v n xs) : w.ownsRow base e size v n xs := by
  refine ⟨ho.1, ?_⟩
  rcases ho.2 with hn | ⟨g, cap, cur, rfl, hbg, hg, rest⟩
  · exact .inl hn
  · exact .inr ⟨g, cap, cur, rfl, hbg, h _ _ _ _ hg he, rest⟩
theorem Keeps.rows {a w : World} {Av : Nat → Prop} {base : Nat} {v : Value} {L : List (List Int)} (h : Keeps a w) (ho : OwnRows a Av base v L) : OwnRows w Av base v L := by
  obtain ⟨rvs, h1, h2⟩ := ho
  exact ⟨rvs, h.own (.inr rfl) h1, fun i c hc => by
    obtain ⟨rv, h3, h4, h5⟩ := h2 i c hc
    exact ⟨rv, h3, h.own (.inl rfl) h4, h5⟩⟩
theorem own_lit (W : World) (base : Nat) (l : List Int) (hb : base ≤ W.heap.size) (hl : l.length ≤ maxLen) : OwnInts (W.alloc (.cells (intCells l) 3)) base (.slice (some ⟨W.heap.size, 0, none⟩) l.length l.length) l := by
  refine ⟨by simp, .inr ⟨W.heap.size, l.length, intCells l, rfl, hb, Blk.new _ _ _, Nat.le_refl _, hl, by simp [intCells], by simp [intCells]; rw [List.take_of_length_le (by simp)]⟩⟩

set_option maxRecDepth 100000 in
set_option maxHeartbeats 3200000 in
theorem ref10_add (w : World) {Av : Nat → Prop} (base : Nat) (hbase : base ≤ w.heap.size) (A : Option Addr) (c : Nat) (AG : Option Addr) (nG cG : Nat) (s s' : RS) (l : List Int) (hs' : s' = s.add l) (Al : Option Addr) (nl cl : Nat) (hown : OwnRows w Av base (.slice A s.L.length c) s.L) (hl : OwnInts w base (.slice Al nl cl) l) (hal : ∀ k, (Value.slice Al nl cl).ownBlock = some k → Av k) (hL : s.L.length ≤ 1000000) :
    Calls Try.prog 67 #[(.agg #[.int .i64 s.n, .slice A s.L.length c, .slice AG nG cG, .int .u64 (s.a.a.toNat : Int), .int .u64 (s.a.b.toNat : Int), .slice none 0 0, .bool s.closed]), .slice Al nl cl] w fun e w' => (∃ A' c', e = .returned (.agg #[.int .i64 s'.n, .slice A' s'.L.length c', .slice AG nG cG, .int .u64 (s'.a.a.toNat : Int), .int .u64 (s'.a.b.toNat : Int), .slice none 0 0, .bool s'.closed]) ∧ OwnRows w' Av base (.slice A' s'.L.length c') s'.L) ∧ FrR base w w' := by
  subst hs'
  obtain ⟨n, L, a, cl'⟩ := s
  simp only at hown hL ⊢
  obtain ⟨rvs, h3, h4⟩ := hown
  have H3 := Lib.hid h3
  have H4 := Lib.hid h4
  have HLI := Lib.hid hl
  have HAL := Lib.hid hal
  clear h3 h4 hl hal
  go_enter Try.func67, Try.ntmps67
  have hw0 : Below w.heap.size w ((w.alloc (.cells #[.int .i64 n, .slice A L.length c, .slice AG nG cG, .int .u64 (a.a.toNat : Int), .int .u64 (a.b.toNat : Int), .slice none 0 0, .bool cl'] 63)).alloc (.cells #[.int .i64 0, .slice none 0 0, .slice none 0 0, .int .u64 0, .int .u64 0, .slice none 0 0, .bool false] 63)) := by go_grown
  have hs0 : Blk ((w.alloc (.cells #[.int .i64 n, .slice A L.length c, .slice AG nG cG, .int .u64 (a.a.toNat : Int), .int .u64 (a.b.toNat : Int), .slice none 0 0, .bool cl'] 63)).alloc (.cells #[.int .i64 0, .slice none 0 0, .slice none 0 0, .int .u64 0, .int .u64 0, .slice none 0 0, .bool false] 63)) w.heap.size 63 #[.int .i64 n, .slice A L.length c, .slice AG nG cG, .int .u64 (a.a.toNat : Int), .int .u64 (a.b.toNat : Int), .slice none 0 0, .bool cl'] := (Blk.new w _ _).alloc _
  have hr0 : Blk ((w.alloc (.cells #[.int .i64 n, .slice A L.length c, .slice AG nG cG, .int .u64 (a.a.toNat : Int), .int .u64 (a.b.toNat : Int), .slice none 0 0, .bool cl'] 63)).alloc (.cells #[.int .i64 0, .slice none 0 0, .slice none 0 0, .int .u64 0, .int .u64 0, .slice none 0 0, .bool false] 63)) (w.heap.size + 1) 63 #[.int .i64 0, .slice none 0 0, .slice none 0 0, .int .u64 0, .int .u64 0, .slice none 0 0, .bool false] := Blk.new_ (by simp)
  have HW0 := Lib.hid hw0
  have HS0 := Lib.hid hs0
  have HR0 := Lib.hid hr0
  clear hw0 hs0 hr0
  go_wp2_with (at_builtin; go_loud (refine append_row ((w.alloc (.cells #[.int .i64 n, .slice A L.length c, .slice AG nG cG, .int .u64 (a.a.toNat : Int), .int .u64 (a.b.toNat : Int), .slice none 0 0, .bool cl'] 63)).alloc (.cells #[.int .i64 0, .slice none 0 0, .slice none 0 0, .int .u64 0, .int .u64 0, .slice none 0 0, .bool false] 63)) rfl (.tmp 7) (.tmp 9) rfl base _ L.length rvs rfl (own_below H3.out HW0.out) (.slice Al nl cl) rfl (by show Value.slice (some ⟨w.heap.size + 1 + 1, 0, none⟩) 1 1 = _; simp) (by omega) (Nat.le_trans hbase HW0.out.size) ?_); intro A3 c3 w3 hown3 hg3; have hs3 := HS0.out.grown hg3 (by exact (own_blk_ne (own_below H3.out HW0.out) HS0.out (by decide)).symm); have hr3 := HR0.out.grown hg3 (by exact (own_blk_ne (own_below H3.out HW0.out) HR0.out (by decide)).symm); have q0 := hs3.cell 0; have q1 := hs3.cell 1; have q2 := hs3.cell 2; have q3 := hs3.cell 3; have q4 := hs3.cell 4; have q5 := hs3.cell 5; have q6 := hs3.cell 6; have f1 := hs3.free 1; simp at q0 q1 q2 q3 q4 q5 q6; have r0 := hr3.cell 0; have r1 := hr3.cell 1; have r2 := hr3.cell 2; have r3 := hr3.cell 3; have r4 := hr3.cell 4; have r5 := hr3.cell 5; have r6 := hr3.cell 6; have g0 := hr3.free 0; have g1 := hr3.free 1; have g2 := hr3.free 2; have g3 := hr3.free 3; have g4 := hr3.free 4; have g5 := hr3.free 5; have g6 := hr3.free 6; simp at r0 r1 r2 r3 r4 r5 r6)
  refine bodyPost_ret (v := .agg #[.int .i64 n, .slice A3 (L.length + 1) c3, .slice AG nG cG, .int .u64 (a.a.toNat : Int), .int .u64 (a.b.toNat : Int), .slice none 0 0, .bool cl']) (by simp [results, Try.results67, go_sem, r0, r1, r2, r3, r4, r5, r6]) rfl ?_
  have t1 := TyAt.of hs3
  have t2 := TyAt.of hr3
  have hrows := OwnRows.snoc H3.out H4.out HW0.out (own_below HLI.out HW0.out) HAL.out hown3 hg3
  have hfr : FrR base w w3 := (FrR.of_below HW0.out).trans (FrR.grown (own_below H3.out HW0.out) hg3)
  refine ⟨⟨A3, c3, by simp [RS.add], ?_⟩, ?_⟩
  · simp only [RS.add, List.length_append, List.length_cons, List.length_nil]
    refine Keeps.rows ?_ hrows
    repeat' (first | with_reducible exact Keeps.refl _ | with_reducible exact t1 | with_reducible exact t2 | with_reducible apply TyAt.put | with_reducible apply Keeps.set)
  · iterate 8 (refine FrR.setCell_new ?_ (by simp) _)
    exact hfr
end Go.Proofs.Ytlifakbdgmdafaa

namespace Go.Proofs.Ytlifakbdgmdafaa
open Go Go.RowKit

set_option maxHeartbeats 1600000 in
theorem ref10_holds (w : World) (A : Option Addr) (c : Nat) (AG : Option Addr) (nG cG : Nat) (s : RS) (l : Int) (h0 : -1000000 ≤ l) (h1 : l ≤ 1000000) :
    Calls Try.prog 81 #[(.agg #[.int .i64 s.n, .slice A s.L.length c, .slice AG nG cG, .int .u64 (s.a.a.toNat : Int), .int .u64 (s.a.b.toNat : Int), .slice none 0 0, .bool s.closed]), .int .i64 l] w fun e w' => e = .returned (.bool (holdsL s.a l)) ∧ Below w.heap.size w w' := by
  have kw := fun w => ref03_has s.a.a s.a.b (max l (-l)) w
  have kw' : ∀ w, Calls Try.prog 25 #[.agg #[.int .u64 (s.a.a.toNat : Int), .int .u64 (s.a.b.toNat : Int)], .int .i64 (max l (-l))] w fun e w' => e = .returned (.bool (VS.has s.a (max l (-l)))) ∧ Below w.heap.size w w' := kw
  have KW := Lib.hid kw'
  unfold holdsL
  generalize VS.has s.a (max l (-l)) = y at KW ⊢
  clear kw kw'
  by_cases hl : 0 < l
  · have e : max l (-l) = l := by omega
    rw [e] at KW
    clear e
    go_enter Try.func81, Try.ntmps81
    go_wp2_with fail
    refine (KW.out _).mono ?_
    rintro e w1 ⟨rfl, hb⟩
    go_wp2
    go_ret
    exact ⟨ret_bool (by simp [hl]), Below.trans (by go_grown) (hb.mono (by simp))⟩
  · have e : max l (-l) = -l := by omega
    rw [e] at KW
    clear e
    rcases (show l < 0 ∨ l = 0 from by omega) with h9 | h9
    · have hd : decide (0 < l) = false := by simp; omega
      go_enter Try.func81, Try.ntmps81
      go_wp2_with fail
      refine (KW.out _).mono ?_
      rintro e w1 ⟨rfl, hb⟩
      go_wp2
      go_ret
      exact ⟨ret_bool (by simp [hd]), Below.trans (by go_grown) (hb.mono (by simp))⟩
    · subst h9
      go_enter Try.func81, Try.ntmps81
      go_wp2_with fail
      refine (KW.out _).mono ?_
      rintro e w1 ⟨rfl, hb⟩
      go_wp2
      go_ret
      exact ⟨ret_bool (by simp), Below.trans (by go_grown) (hb.mono (by simp))⟩

set_option maxRecDepth 100000 in
set_option maxHeartbeats 3200000 in
theorem ref10_fresh (w : World) (A : Option Addr) (c : Nat) (AG : Option Addr) (nG cG : Nat) (s s' : RS) (v : Int) (is : Bool) (hs' : s' = s.fresh is) (hv : v = s.var) (h0 : 0 ≤ s.n) (h1 : s.n ≤ 1000000) :
    Calls Try.prog 80 #[(.agg #[.int .i64 s.n, .slice A s.L.length c, .slice AG nG cG, .int .u64 (s.a.a.toNat : Int), .int .u64 (s.a.b.toNat : Int), .slice none 0 0, .bool s.closed]), .bool is] w fun e w' => e = .returned (.tuple #[(.agg #[.int .i64 s'.n, .slice A s'.L.length c, .slice AG nG cG, .int .u64 (s'.a.a.toNat : Int), .int .u64 (s'.a.b.toNat : Int), .slice none 0 0, .bool s'.closed]), .int .i64 v]) ∧ Below w.heap.size w w' := by
  subst hs' hv
  obtain ⟨n, L, a, cl⟩ := s
  simp only at h0 h1
  have hn : (n + 1) = n + 1 := rfl
  cases is
  · by_cases hn : 128 < n + 1
    · have e1 : RS.fresh ⟨n, L, a, cl⟩ false = ⟨n + 1, L, a, true⟩ := by simp only [RS.fresh, if_pos hn]; rfl
      have e2 : RS.var ⟨n, L, a, cl⟩ = 1 := by simp only [RS.var, if_pos hn]
      rw [e1, e2]
      clear e1 e2
      go_enter Try.func80, Try.ntmps80
      go_wp2
      refine bodyPost_ret (v := .tuple #[.agg #[.int .i64 (n + 1), .slice A L.length c, .slice AG nG cG, .int .u64 (a.a.toNat : Int), .int .u64 (a.b.toNat : Int), .slice none 0 0, .bool true], .int .i64 1]) (by simp [results, Try.results80, go_sem]) rfl ?_
      exact ⟨rfl, by go_grown⟩
    · have e1 : RS.fresh ⟨n, L, a, cl⟩ false = ⟨n + 1, L, a, cl⟩ := by simp only [RS.fresh, if_neg hn]; rfl
      have e2 : RS.var ⟨n, L, a, cl⟩ = n + 1 := by simp only [RS.var, if_neg hn]
      rw [e1, e2]
      clear e1 e2
      go_enter Try.func80, Try.ntmps80
      go_wp2
      go_region
      all_goals
        go_wp2
        refine bodyPost_ret (v := .tuple #[.agg #[.int .i64 (n + 1), .slice A L.length c, .slice AG nG cG, .int .u64 (a.a.toNat : Int), .int .u64 (a.b.toNat : Int), .slice none 0 0, .bool cl], .int .i64 (n + 1)]) (by simp [results, Try.results80, go_sem]) rfl ?_
        exact ⟨rfl, by go_grown⟩
  · have kw := fun w => ref03_with a.a a.b (n + 1) w
    have kw' : ∀ w, Calls Try.prog 42 #[.agg #[.int .u64 (a.a.toNat : Int), .int .u64 (a.b.toNat : Int)], .int .i64 (n + 1)] w fun e w' => e = .returned (.agg #[.int .u64 ((a.with_ (n + 1)).a.toNat : Int), .int .u64 ((a.with_ (n + 1)).b.toNat : Int)]) ∧ Below w.heap.size w w' := kw
    have KW := Lib.hid kw'
    clear kw kw'
    have ef : RS.fresh ⟨n, L, a, cl⟩ true = ⟨n + 1, L, a.with_ (n + 1), if 128 < n + 1 then true else cl⟩ := rfl
    rw [ef]
    clear ef
    generalize VS.with_ a (n + 1) = a2 at KW ⊢
    have hb0 := (Blk.new w 63 #[.int .i64 (n + 1), .slice A L.length c, .slice AG nG cG, .int .u64 (a.a.toNat : Int), .int .u64 (a.b.toNat : Int), .slice none 0 0, .bool cl]).alloc (.cells #[.int .i64 0, .slice none 0 0, .slice none 0 0, .int .u64 0, .int .u64 0, .slice none 0 0, .bool false] 63)
    have hb1 := Blk.new_ (w := w.alloc (.cells #[.int .i64 (n + 1), .slice A L.length c, .slice AG nG cG, .int .u64 (a.a.toNat : Int), .int .u64 (a.b.toNat : Int), .slice none 0 0, .bool cl] 63)) (g := w.heap.size + 1) (t := 63) (cs := #[.int .i64 0, .slice none 0 0, .slice none 0 0, .int .u64 0, .int .u64 0, .slice none 0 0, .bool false]) (by simp)
    have HB0 := Lib.hid hb0
    have HB1 := Lib.hid hb1
    clear hb0 hb1
    by_cases hn : 128 < n + 1
    · simp only [if_pos hn, RS.var]
      go_enter Try.func80, Try.ntmps80
      go_wp2_with fail
      refine (KW.out _).mono ?_
      rintro e w1 ⟨rfl, hb⟩
      have b0 := HB0.out.keep hb
      have b1 := HB1.out.keep hb
      have hbw : Below w.heap.size w w1 := Below.trans (by go_grown) (hb.mono (by simp <;> omega))
      have q0 := b0.cell 0
      have q1 := b0.cell 1
      have q2 := b0.cell 2
      have q3 := b0.cell 3
      have q4 := b0.cell 4
      have q5 := b0.cell 5
      have q6 := b0.cell 6
      have f0 := b0.free 0
      have f1 := b0.free 1
      have f2 := b0.free 2
      have f3 := b0.free 3
      have f4 := b0.free 4
      have f5 := b0.free 5
      have f6 := b0.free 6
      simp at q0 q1 q2 q3 q4 q5 q6
      have r0 := b1.cell 0
      have r1 := b1.cell 1
      have r2 := b1.cell 2
      have r3 := b1.cell 3
      have r4 := b1.cell 4
      have r5 := b1.cell 5
      have r6 := b1.cell 6
      have g0 := b1.free 0
      have g1 := b1.free 1
      have g2 := b1.free 2
      have g3 := b1.free 3
      have g4 := b1.free 4
      have g5 := b1.free 5
      have g6 := b1.free 6
      simp at r0 r1 r2 r3 r4 r5 r6
      have lt0 := b0.lt
      have lt1 := b1.lt
      go_wp2
      refine bodyPost_ret (v := .tuple #[.agg #[.int .i64 (n + 1), .slice A L.length c, .slice AG nG cG, .int .u64 (a2.a.toNat : Int), .int .u64 (a2.b.toNat : Int), .slice none 0 0, .bool true], .int .i64 1]) (by simp [results, Try.results80, go_sem, r0, r1, r2, r3, r4, r5, r6]) rfl ?_
      exact ⟨rfl, by repeat (first | with_reducible exact hbw | (with_reducible refine Below.setCell ?_ ?_ _; rotate_left; (simp <;> omega)) | with_reducible apply Below.drew)⟩
    · simp only [if_neg hn, RS.var]
      go_enter Try.func80, Try.ntmps80
      go_wp2_with fail
      refine (KW.out _).mono ?_
      rintro e w1 ⟨rfl, hb⟩
      have b0 := HB0.out.keep hb
      have b1 := HB1.out.keep hb
      have hbw : Below w.heap.size w w1 := Below.trans (by go_grown) (hb.mono (by simp <;> omega))
      have q0 := b0.cell 0
      have q1 := b0.cell 1
      have q2 := b0.cell 2
      have q3 := b0.cell 3
      have q4 := b0.cell 4
      have q5 := b0.cell 5
      have q6 := b0.cell 6
      have f0 := b0.free 0
      have f1 := b0.free 1
      have f2 := b0.free 2
      have f3 := b0.free 3
      have f4 := b0.free 4
      have f5 := b0.free 5
      have f6 := b0.free 6
      simp at q0 q1 q2 q3 q4 q5 q6
      have r0 := b1.cell 0
      have r1 := b1.cell 1
      have r2 := b1.cell 2
      have r3 := b1.cell 3
      have r4 := b1.cell 4
      have r5 := b1.cell 5
      have r6 := b1.cell 6
      have g0 := b1.free 0
      have g1 := b1.free 1
      have g2 := b1.free 2
      have g3 := b1.free 3
      have g4 := b1.free 4
      have g5 := b1.free 5
      have g6 := b1.free 6
      simp at r0 r1 r2 r3 r4 r5 r6
      have lt0 := b0.lt
      have lt1 := b1.lt
      go_wp2
      go_region
      all_goals
        go_wp2
        refine bodyPost_ret (v := .tuple #[.agg #[.int .i64 (n + 1), .slice A L.length c, .slice AG nG cG, .int .u64 (a2.a.toNat : Int), .int .u64 (a2.b.toNat : Int), .slice none 0 0, .bool cl], .int .i64 (n + 1)]) (by simp [results, Try.results80, go_sem, r0, r1, r2, r3, r4, r5, r6]) rfl ?_
        exact ⟨rfl, by repeat (first | with_reducible exact hbw | (with_reducible refine Below.setCell ?_ ?_ _; rotate_left; (simp <;> omega)) | with_reducible apply Below.drew)⟩
end Go.Proofs.Ytlifakbdgmdafaa

namespace Go.Proofs.Ytlifakbdgmdafaa
open Go Go.RowKit

def RS.xorGo (s : RS) (last : Int) : List Int → RS × Int
  | [] => (s, last)
  | a :: r => if s.closed then (s, last) else ((s.fresh (holdsL s.a last != holdsL s.a a)).adds (sumRows s.var last a)).xorGo s.var r
def RS.gate (s : RS) (kind lit : Int) (l : List Int) : RS × Int :=
  if kind = 2 then (s, lit) else if kind = 6 ∧ 1 < l.length then s.xorGo (l.getD 0 0) l.tail else ((s.fresh (kindVal kind (l.map (holdsL s.a)))).adds (kindRows kind s.var l), s.var)
theorem RS.fresh_L (s : RS) (b : Bool) : (s.fresh b).L = s.L := rfl
/-- The state in block g, its theory's rows, the inputs; the result's block g6 untouched yet. -/
def GSt (Av : Nat → Prop) (base : Nat) (w : World) (g g6 : Nat) (AG : Option Addr) (nG cG : Nat) (bi : Nat) (IV : Value) (l : List Int) (s : RS) (A : Option Addr) (c : Nat) (W : World) : Prop :=
  Blk W g 63 #[.int .i64 s.n, .slice A s.L.length c, .slice AG nG cG, .int .u64 (s.a.a.toNat : Int), .int .u64 (s.a.b.toNat : Int), .slice none 0 0, .bool s.closed] ∧ Blk W g6 63 #[.int .i64 0, .slice none 0 0, .slice none 0 0, .int .u64 0, .int .u64 0, .slice none 0 0, .bool false] ∧ OwnRows W Av base (.slice A s.L.length c) s.L ∧ OwnInts W bi IV l ∧ FrR base w W
section
variable {Av : Nat → Prop} {base g g6 nG cG bi c : Nat} {w W W' : World} {AG A : Option Addr} {IV : Value} {l : List Int} {s : RS}
theorem GSt.below (h : GSt Av base w g g6 AG nG cG bi IV l s A c W) (hb : Below W.heap.size W W') : GSt Av base w g g6 AG nG cG bi IV l s A c W' :=
  ⟨h.1.keep hb, h.2.1.keep hb, h.2.2.1.below hb, h.2.2.2.1.below hb, h.2.2.2.2.trans (FrR.of_below hb)⟩
theorem GSt.drew (h : GSt Av base w g g6 AG nG cG bi IV l s A c W) : GSt Av base w g g6 AG nG cG bi IV l s A c W.drew := h.below (Below.refl _ _).drew
theorem GSt.alloc (h : GSt Av base w g g6 AG nG cG bi IV l s A c W) (o : Obj) : GSt Av base w g g6 AG nG cG bi IV l s A c (W.alloc o) := h.below ((Below.refl _ _).alloc (Nat.le_refl _) _)
/-- Behind a call that may change rows: the same state in the block, another theory's rows beside it. -/
def GMid (Av : Nat → Prop) (base : Nat) (w : World) (g g6 : Nat) (AG : Option Addr) (nG cG : Nat) (bi : Nat) (IV : Value) (l : List Int) (s : RS) (A : Option Addr) (c : Nat) (s' : RS) (A' : Option Addr) (c' : Nat) (W : World) : Prop :=
  Blk W g 63 #[.int .i64 s.n, .slice A s.L.length c, .slice AG nG cG, .int .u64 (s.a.a.toNat : Int), .int .u64 (s.a.b.toNat : Int), .slice none 0 0, .bool s.closed] ∧ Blk W g6 63 #[.int .i64 0, .slice none 0 0, .slice none 0 0, .int .u64 0, .int .u64 0, .slice none 0 0, .bool false] ∧ OwnRows W Av base (.slice A' s'.L.length c') s'.L ∧ OwnInts W bi IV l ∧ FrR base w W
theorem GSt.mid (h : GSt Av base w g g6 AG nG cG bi IV l s A c W) (hf : FrR base W W') {s' : RS} {A' : Option Addr} {c' : Nat} (ho : OwnRows W' Av base (.slice A' s'.L.length c') s'.L) : GMid Av base w g g6 AG nG cG bi IV l s A c s' A' c' W' :=
  ⟨hf.blk h.1 (.inl (by decide)), hf.blk h.2.1 (.inl (by decide)), ho, hf.ints h.2.2.2.1, h.2.2.2.2.trans hf⟩
/-- The seven cells of a state stored. -/
def put7 (W : World) (g : Nat) (AG : Option Addr) (nG cG : Nat) (s : RS) (A : Option Addr) (c : Nat) : World :=
  ((((((W.setCell ⟨g, 0, none⟩ (.int .i64 s.n)).setCell ⟨g, 1, none⟩ (.slice A s.L.length c)).setCell ⟨g, 2, none⟩ (.slice AG nG cG)).setCell ⟨g, 3, none⟩ (.int .u64 (s.a.a.toNat : Int))).setCell ⟨g, 4, none⟩ (.int .u64 (s.a.b.toNat : Int))).setCell ⟨g, 5, none⟩ (.slice none 0 0)).setCell ⟨g, 6, none⟩ (.bool s.closed)
theorem set7 (a0 a1 a2 a3 a4 a5 a6 x0 x1 x2 x3 x4 x5 x6 : Value) : ((((((((#[a0, a1, a2, a3, a4, a5, a6] : Array Value).setIfInBounds 0 x0).setIfInBounds 1 x1).setIfInBounds 2 x2).setIfInBounds 3 x3).setIfInBounds 4 x4).setIfInBounds 5 x5).setIfInBounds 6 x6) = #[x0, x1, x2, x3, x4, x5, x6] := by
  simp only [List.setIfInBounds_toArray, List.set_cons_zero, List.set_cons_succ]
theorem put7_blk {x0 x1 x2 x3 x4 x5 x6 : Value} (hb : Blk W g 63 #[x0, x1, x2, x3, x4, x5, x6]) : Blk (put7 W g AG nG cG s A c) g 63 #[.int .i64 s.n, .slice A s.L.length c, .slice AG nG cG, .int .u64 (s.a.a.toNat : Int), .int .u64 (s.a.b.toNat : Int), .slice none 0 0, .bool s.closed] := by
  have h := ((((((hb.put 0 (.int .i64 s.n)).put 1 (.slice A s.L.length c)).put 2 (.slice AG nG cG)).put 3 (.int .u64 (s.a.a.toNat : Int))).put 4 (.int .u64 (s.a.b.toNat : Int))).put 5 (.slice none 0 0)).put 6 (.bool s.closed)
  rw [set7] at h
  exact h
theorem put7_far {h : Nat} {t : TypeId} {cs : Array Value} (hb : Blk W h t cs) (hne : h ≠ g) : Blk (put7 W g AG nG cG s A c) h t cs :=
  ((((((hb.far hne _).far hne _).far hne _).far hne _).far hne _).far hne _).far hne _
theorem put7_keeps (ht : TyAt W g) : Keeps W (put7 W g AG nG cG s A c) := by
  unfold put7
  repeat' (first | with_reducible exact Keeps.refl _ | with_reducible exact ht | with_reducible apply TyAt.put | with_reducible apply Keeps.set)
theorem put7_fr {b : Nat} {a : World} (h : FrR b a W) (hg : a.heap.size ≤ g) : FrR b a (put7 W g AG nG cG s A c) := by
  unfold put7
  iterate 7 (refine FrR.setCell_new ?_ hg _)
  exact h
theorem Keeps.ints {bi : Nat} (h : Keeps W W') (ho : OwnInts W bi IV l) : OwnInts W' bi IV l := h.own (.inl rfl) ho
theorem GMid.put {s' : RS} {A' : Option Addr} {c' : Nat} (h : GMid Av base w g g6 AG nG cG bi IV l s A c s' A' c' W) (hne : g6 ≠ g) (hg : w.heap.size ≤ g) : GSt Av base w g g6 AG nG cG bi IV l s' A' c' (put7 W g AG nG cG s' A' c') :=
  ⟨put7_blk h.1, put7_far h.2.1 hne, (put7_keeps (TyAt.of h.1)).rows h.2.2.1, (put7_keeps (TyAt.of h.1)).ints h.2.2.2.1, put7_fr h.2.2.2.2 hg⟩
/-- The result's seven cells stored: what the method gives back. -/
def GEnd (Av : Nat → Prop) (base : Nat) (w : World) (g6 : Nat) (AG : Option Addr) (nG cG : Nat) (s : RS) (A : Option Addr) (c : Nat) (W : World) : Prop :=
  Blk W g6 63 #[.int .i64 s.n, .slice A s.L.length c, .slice AG nG cG, .int .u64 (s.a.a.toNat : Int), .int .u64 (s.a.b.toNat : Int), .slice none 0 0, .bool s.closed] ∧ OwnRows W Av base (.slice A s.L.length c) s.L ∧ FrR base w W
theorem GMid.fin {s' : RS} {A' : Option Addr} {c' : Nat} (h : GMid Av base w g g6 AG nG cG bi IV l s A c s' A' c' W) (hg : w.heap.size ≤ g6) : GEnd Av base w g6 AG nG cG s' A' c' (put7 W g6 AG nG cG s' A' c') :=
  ⟨put7_blk h.2.1, (put7_keeps (TyAt.of h.2.1)).rows h.2.2.1, put7_fr h.2.2.2.2 hg⟩
theorem GSt.fin (h : GSt Av base w g g6 AG nG cG bi IV l s A c W) (hg : w.heap.size ≤ g6) : GEnd Av base w g6 AG nG cG s A c (put7 W g6 AG nG cG s A c) :=
  ⟨put7_blk h.2.1, (put7_keeps (TyAt.of h.2.1)).rows h.2.2.1, put7_fr h.2.2.2.2 hg⟩
/-- At the start. -/
theorem GSt.start (w W : World) (hw : Below w.heap.size w W) (hs : Blk W g 63 #[.int .i64 s.n, .slice A s.L.length c, .slice AG nG cG, .int .u64 (s.a.a.toNat : Int), .int .u64 (s.a.b.toNat : Int), .slice none 0 0, .bool s.closed]) (hr : Blk W g6 63 #[.int .i64 0, .slice none 0 0, .slice none 0 0, .int .u64 0, .int .u64 0, .slice none 0 0, .bool false]) (ho : OwnRows w Av base (.slice A s.L.length c) s.L) (hi : OwnInts w bi IV l) : GSt Av base w g g6 AG nG cG bi IV l s A c W :=
  ⟨hs, hr, ho.below hw, hi.below hw, FrR.of_below hw⟩

theorem GSt.freshmid (h : GSt Av base w g g6 AG nG cG bi IV l s A c W) {s' : RS} (hL : s'.L = s.L) : GMid Av base w g g6 AG nG cG bi IV l s A c s' A c W :=
  ⟨h.1, h.2.1, by rw [hL]; exact h.2.2.1, h.2.2.2.1, h.2.2.2.2⟩
theorem ints_cell {b gi n cI : Nat} (h : OwnInts W b (.slice (some ⟨gi, 0, none⟩) n cI) l) : ∀ (j : Nat) (x : Int), l[j]? = some x → W.cell? ⟨gi, j, none⟩ = some (.int .i64 x) := by
  intro j x hx
  have hV := h.V
  obtain ⟨A', c', e, _, _, h3⟩ := hV
  injection e with e _ _
  subst e
  have hj := (List.getElem?_eq_some_iff.1 hx).1
  obtain ⟨b', o', _, e2, hc⟩ := h3 (by omega)
  injection e2 with e2
  injection e2 with e2 e3 _
  subst e2 e3
  have := hc j x hx
  simpa [IntAt] using this
theorem ref10_add_lit (W : World) (n0 : Nat) (hn0 : W.heap.size = n0) (base : Nat) (hbase : base ≤ W.heap.size) (hAv : AvOk Av W) (A : Option Addr) (c : Nat) (AG : Option Addr) (nG cG : Nat) (s s' : RS) (l : List Int) (cs : Array Value) (n : Nat) (hcs : cs = intCells l) (hn : n = l.length) (hs' : s' = s.add l) (hll : l.length ≤ 1000000)
    (hown : OwnRows W Av base (.slice A s.L.length c) s.L) (hL : s.L.length ≤ 1000000) :
    Calls Try.prog 67 #[(.agg #[.int .i64 s.n, .slice A s.L.length c, .slice AG nG cG, .int .u64 (s.a.a.toNat : Int), .int .u64 (s.a.b.toNat : Int), .slice none 0 0, .bool s.closed]), .slice (some ⟨n0, 0, none⟩) n n] (W.alloc (.cells cs 3)) fun e w' => (∃ A' c', e = .returned (.agg #[.int .i64 s'.n, .slice A' s'.L.length c', .slice AG nG cG, .int .u64 (s'.a.a.toNat : Int), .int .u64 (s'.a.b.toNat : Int), .slice none 0 0, .bool s'.closed]) ∧ OwnRows w' Av base (.slice A' s'.L.length c') s'.L) ∧ FrR base W w' := by
  subst hcs hn hn0
  have hb : Below W.heap.size W (W.alloc (.cells (intCells l) 3)) := (Below.refl _ _).alloc (Nat.le_refl _) _
  refine (ref10_add (W.alloc (.cells (intCells l) 3)) base (by simp; omega) A c AG nG cG s s' l hs' _ _ _ (hown.below hb) (own_lit W base l hbase (by unfold maxLen; omega)) (fun k hk => by simp [Value.ownBlock] at hk; subst hk; exact hAv _ (Nat.le_refl _)) hL).mono ?_
  rintro e w' ⟨⟨A', c', rfl, h1⟩, h2⟩
  exact ⟨⟨A', c', rfl, h1⟩, (FrR.of_below hb).trans h2⟩
end
end Go.Proofs.Ytlifakbdgmdafaa

namespace Go.Proofs.Ytlifakbdgmdafaa
open Go Go.RowKit

theorem RS.gate_iff (s : RS) (gl x y : Int) : s.gate 7 gl [x, y] = ((s.fresh (holdsL s.a x == holdsL s.a y)).adds [[-s.var, -x, y], [-s.var, x, -y], [s.var, x, y], [s.var, -x, -y]], s.var) := by
  have e : kindVal 7 [holdsL s.a x, holdsL s.a y] = (holdsL s.a x == holdsL s.a y) := by
    cases holdsL s.a x <;> cases holdsL s.a y <;> rfl
  unfold RS.gate
  rw [if_neg (by omega), if_neg (by omega)]
  simp only [List.map_cons, List.map_nil, e]
  rfl
theorem RS.gate_if (s : RS) (gl x y z : Int) : s.gate 8 gl [x, y, z] = ((s.fresh (if holdsL s.a x then holdsL s.a y else holdsL s.a z)).adds [[-s.var, -x, y], [-s.var, x, z], [s.var, -x, -y], [s.var, x, -z]], s.var) := by
  have e : kindVal 8 [holdsL s.a x, holdsL s.a y, holdsL s.a z] = (if holdsL s.a x then holdsL s.a y else holdsL s.a z) := by
    cases holdsL s.a x <;> cases holdsL s.a y <;> cases holdsL s.a z <;> rfl
  unfold RS.gate
  rw [if_neg (by omega), if_neg (by omega)]
  simp only [List.map_cons, List.map_nil, e]
  rfl
end Go.Proofs.Ytlifakbdgmdafaa

namespace Go.Proofs.Ytlifakbdgmdafaa
open Go Go.RowKit
/-- The state's block and the inputs. -/
def Rd (g : Nat) (AG : Option Addr) (nG cG : Nat) (A : Option Addr) (c : Nat) (s : RS) (bi : Nat) (IV : Value) (l : List Int) (W : World) : Prop := Blk W g 63 #[.int .i64 s.n, .slice A s.L.length c, .slice AG nG cG, .int .u64 (s.a.a.toNat : Int), .int .u64 (s.a.b.toNat : Int), .slice none 0 0, .bool s.closed] ∧ OwnInts W bi IV l
section
variable {Av : Nat → Prop} {base g g6 nG cG bi c : Nat} {w W W' : World} {AG A : Option Addr} {IV : Value} {l : List Int} {s : RS}
theorem GSt.rd (h : GSt Av base w g g6 AG nG cG bi IV l s A c W) : Rd g AG nG cG A c s bi IV l W := ⟨h.1, h.2.2.2.1⟩
theorem GMid.rd {s' : RS} {A' : Option Addr} {c' : Nat} (h : GMid Av base w g g6 AG nG cG bi IV l s A c s' A' c' W) : Rd g AG nG cG A c s bi IV l W := ⟨h.1, h.2.2.2.1⟩
end
end Go.Proofs.Ytlifakbdgmdafaa

namespace Go.Proofs.Ytlifakbdgmdafaa
open Go Go.RowKit

set_option maxRecDepth 100000 in
set_option maxHeartbeats 6400000 in
theorem ref10_sum (w : World) {Av : Nat → Prop} (hAv : AvOk Av w) (base : Nat) (hbase : base ≤ w.heap.size) (A : Option Addr) (c : Nat) (AG : Option Addr) (nG cG : Nat) (s s' : RS) (p x y : Int) (hs' : s' = s.adds (sumRows p x y)) (hp0 : -1000000 ≤ p) (hp1 : p ≤ 1000000) (hx0 : -1000000 ≤ x) (hx1 : x ≤ 1000000) (hy0 : -1000000 ≤ y) (hy1 : y ≤ 1000000)
    (hown : OwnRows w Av base (.slice A s.L.length c) s.L) (hL : s.L.length ≤ 900000) :
    Calls Try.prog 85 #[(.agg #[.int .i64 s.n, .slice A s.L.length c, .slice AG nG cG, .int .u64 (s.a.a.toNat : Int), .int .u64 (s.a.b.toNat : Int), .slice none 0 0, .bool s.closed]), .int .i64 p, .int .i64 x, .int .i64 y] w fun e w' => (∃ A' c', e = .returned (.agg #[.int .i64 s'.n, .slice A' s'.L.length c', .slice AG nG cG, .int .u64 (s'.a.a.toNat : Int), .int .u64 (s'.a.b.toNat : Int), .slice none 0 0, .bool s'.closed]) ∧ OwnRows w' Av base (.slice A' s'.L.length c') s'.L) ∧ FrR base w w' := by
  obtain ⟨s1, hs1⟩ : ∃ z, z = s.add [-p, x, y] := ⟨_, rfl⟩
  obtain ⟨s2, hs2⟩ : ∃ z, z = s1.add [-p, -x, -y] := ⟨_, rfl⟩
  obtain ⟨s3, hs3⟩ : ∃ z, z = s2.add [p, -x, y] := ⟨_, rfl⟩
  have hs4 : s' = s3.add [p, x, -y] := by rw [hs', hs3, hs2, hs1]; simp [RS.adds, RS.add, sumRows]
  have l1 : s1.L.length ≤ 900001 := by rw [hs1]; simp [RS.add]; omega
  have l2 : s2.L.length ≤ 900002 := by rw [hs2]; simp [RS.add]; omega
  have l3 : s3.L.length ≤ 900003 := by rw [hs3]; simp [RS.add]; omega
  have HS1 := Lib.hid hs1
  have HS2 := Lib.hid hs2
  have HS3 := Lib.hid hs3
  have HS4 := Lib.hid hs4
  clear hs1 hs2 hs3 hs4 hs'
  go_enter Try.func85, Try.ntmps85
  go_upto_region 1 with fail
  have hw : Below w.heap.size w ((w.alloc (.cells #[.int .i64 s.n, .slice A s.L.length c, .slice AG nG cG, .int .u64 (s.a.a.toNat : Int), .int .u64 (s.a.b.toNat : Int), .slice none 0 0, .bool s.closed] 63)).alloc (.cells #[.int .i64 0, .slice none 0 0, .slice none 0 0, .int .u64 0, .int .u64 0, .slice none 0 0, .bool false] 63)) := by go_grown
  have gs : GSt Av base w w.heap.size (w.heap.size + 1) AG nG cG 0 (.slice none 0 0) [] s A c ((w.alloc (.cells #[.int .i64 s.n, .slice A s.L.length c, .slice AG nG cG, .int .u64 (s.a.a.toNat : Int), .int .u64 (s.a.b.toNat : Int), .slice none 0 0, .bool s.closed] 63)).alloc (.cells #[.int .i64 0, .slice none 0 0, .slice none 0 0, .int .u64 0, .int .u64 0, .slice none 0 0, .bool false] 63)) := GSt.start w _ hw ((Blk.new w _ _).alloc _) (Blk.new_ (by simp)) hown (OwnInts.nil _ _)
  generalize (w.alloc (.cells #[.int .i64 s.n, .slice A s.L.length c, .slice AG nG cG, .int .u64 (s.a.a.toNat : Int), .int .u64 (s.a.b.toNat : Int), .slice none 0 0, .bool s.closed] 63)).alloc (.cells #[.int .i64 0, .slice none 0 0, .slice none 0 0, .int .u64 0, .int .u64 0, .slice none 0 0, .bool false] 63) = wc at gs ⊢
  clear hw hown
  go_cut [] from 9 (fun wx => ∃ A' c', GSt Av base w w.heap.size (w.heap.size + 1) AG nG cG 0 (.slice none 0 0) [] s1 A' c' wx)
  case first =>
    have H := Lib.hid gs
    have q0 := gs.1.cell 0
    have q1 := gs.1.cell 1
    have q2 := gs.1.cell 2
    have q3 := gs.1.cell 3
    have q4 := gs.1.cell 4
    have q5 := gs.1.cell 5
    have q6 := gs.1.cell 6
    have f0 := gs.1.free 0
    have f1 := gs.1.free 1
    have f2 := gs.1.free 2
    have f3 := gs.1.free 3
    have f4 := gs.1.free 4
    have f5 := gs.1.free 5
    have f6 := gs.1.free 6
    simp at q0 q1 q2 q3 q4 q5 q6
    have lt0 := gs.1.lt
    have lt1 := gs.2.1.lt
    have lw := gs.2.2.2.2.size
    clear gs
    go_wp2_with fail
    refine (ref10_add_lit _ _ (by first | rfl | simp) base (Nat.le_trans hbase lw) (hAv.le lw) A c AG nG cG s s1 [-p, x, y] _ _ rfl rfl HS1.out (by simp) H.out.2.2.1 (by omega)).mono ?_
    rintro e w5 ⟨⟨A5, c5, rfl, o5⟩, fr5⟩
    have m5 := H.out.mid fr5 o5
    clear q0 f0 q1 f1 q2 f2 q3 f3 q4 f4 q5 f5 q6 f6
    have q0 := m5.1.cell 0
    have q1 := m5.1.cell 1
    have q2 := m5.1.cell 2
    have q3 := m5.1.cell 3
    have q4 := m5.1.cell 4
    have q5 := m5.1.cell 5
    have q6 := m5.1.cell 6
    have f0 := m5.1.free 0
    have f1 := m5.1.free 1
    have f2 := m5.1.free 2
    have f3 := m5.1.free 3
    have f4 := m5.1.free 4
    have f5 := m5.1.free 5
    have f6 := m5.1.free 6
    simp at q0 q1 q2 q3 q4 q5 q6
    have M := Lib.hid m5
    clear m5
    go_wp2_with fail
    go_meet
    exact ⟨A5, c5, M.out.put (by omega) (Nat.le_refl _)⟩
  case rest =>
    obtain ⟨A, c, gs⟩ := hcut
    go_upto_region 2 with fail
    go_cut [] from 9 (fun wx => ∃ A' c', GSt Av base w w.heap.size (w.heap.size + 1) AG nG cG 0 (.slice none 0 0) [] s2 A' c' wx)
    case first =>
      have H := Lib.hid gs
      have q0 := gs.1.cell 0
      have q1 := gs.1.cell 1
      have q2 := gs.1.cell 2
      have q3 := gs.1.cell 3
      have q4 := gs.1.cell 4
      have q5 := gs.1.cell 5
      have q6 := gs.1.cell 6
      have f0 := gs.1.free 0
      have f1 := gs.1.free 1
      have f2 := gs.1.free 2
      have f3 := gs.1.free 3
      have f4 := gs.1.free 4
      have f5 := gs.1.free 5
      have f6 := gs.1.free 6
      simp at q0 q1 q2 q3 q4 q5 q6
      have lt0 := gs.1.lt
      have lt1 := gs.2.1.lt
      have lw := gs.2.2.2.2.size
      clear gs
      go_wp2_with fail
      refine (ref10_add_lit _ _ (by first | rfl | simp) base (Nat.le_trans hbase lw) (hAv.le lw) A c AG nG cG s1 s2 [-p, -x, -y] _ _ rfl rfl HS2.out (by simp) H.out.2.2.1 (by omega)).mono ?_
      rintro e w5 ⟨⟨A5, c5, rfl, o5⟩, fr5⟩
      have m5 := H.out.mid fr5 o5
      clear q0 f0 q1 f1 q2 f2 q3 f3 q4 f4 q5 f5 q6 f6
      have q0 := m5.1.cell 0
      have q1 := m5.1.cell 1
      have q2 := m5.1.cell 2
      have q3 := m5.1.cell 3
      have q4 := m5.1.cell 4
      have q5 := m5.1.cell 5
      have q6 := m5.1.cell 6
      have f0 := m5.1.free 0
      have f1 := m5.1.free 1
      have f2 := m5.1.free 2
      have f3 := m5.1.free 3
      have f4 := m5.1.free 4
      have f5 := m5.1.free 5
      have f6 := m5.1.free 6
      simp at q0 q1 q2 q3 q4 q5 q6
      have M := Lib.hid m5
      clear m5
      go_wp2_with fail
      go_meet
      exact ⟨A5, c5, M.out.put (by omega) (Nat.le_refl _)⟩
    case rest =>
      obtain ⟨A, c, gs⟩ := hcut
      go_upto_region 3 with fail
      go_cut [] from 9 (fun wx => ∃ A' c', GSt Av base w w.heap.size (w.heap.size + 1) AG nG cG 0 (.slice none 0 0) [] s3 A' c' wx)
      case first =>
        have H := Lib.hid gs
        have q0 := gs.1.cell 0
        have q1 := gs.1.cell 1
        have q2 := gs.1.cell 2
        have q3 := gs.1.cell 3
        have q4 := gs.1.cell 4
        have q5 := gs.1.cell 5
        have q6 := gs.1.cell 6
        have f0 := gs.1.free 0
        have f1 := gs.1.free 1
        have f2 := gs.1.free 2
        have f3 := gs.1.free 3
        have f4 := gs.1.free 4
        have f5 := gs.1.free 5
        have f6 := gs.1.free 6
        simp at q0 q1 q2 q3 q4 q5 q6
        have lt0 := gs.1.lt
        have lt1 := gs.2.1.lt
        have lw := gs.2.2.2.2.size
        clear gs
        go_wp2_with fail
        refine (ref10_add_lit _ _ (by first | rfl | simp) base (Nat.le_trans hbase lw) (hAv.le lw) A c AG nG cG s2 s3 [p, -x, y] _ _ rfl rfl HS3.out (by simp) H.out.2.2.1 (by omega)).mono ?_
        rintro e w5 ⟨⟨A5, c5, rfl, o5⟩, fr5⟩
        have m5 := H.out.mid fr5 o5
        clear q0 f0 q1 f1 q2 f2 q3 f3 q4 f4 q5 f5 q6 f6
        have q0 := m5.1.cell 0
        have q1 := m5.1.cell 1
        have q2 := m5.1.cell 2
        have q3 := m5.1.cell 3
        have q4 := m5.1.cell 4
        have q5 := m5.1.cell 5
        have q6 := m5.1.cell 6
        have f0 := m5.1.free 0
        have f1 := m5.1.free 1
        have f2 := m5.1.free 2
        have f3 := m5.1.free 3
        have f4 := m5.1.free 4
        have f5 := m5.1.free 5
        have f6 := m5.1.free 6
        simp at q0 q1 q2 q3 q4 q5 q6
        have M := Lib.hid m5
        clear m5
        go_wp2_with fail
        go_meet
        exact ⟨A5, c5, M.out.put (by omega) (Nat.le_refl _)⟩
      case rest =>
        obtain ⟨A, c, gs⟩ := hcut
        go_upto_region 4 with fail
        have H := Lib.hid gs
        have q0 := gs.1.cell 0
        have q1 := gs.1.cell 1
        have q2 := gs.1.cell 2
        have q3 := gs.1.cell 3
        have q4 := gs.1.cell 4
        have q5 := gs.1.cell 5
        have q6 := gs.1.cell 6
        have f0 := gs.1.free 0
        have f1 := gs.1.free 1
        have f2 := gs.1.free 2
        have f3 := gs.1.free 3
        have f4 := gs.1.free 4
        have f5 := gs.1.free 5
        have f6 := gs.1.free 6
        simp at q0 q1 q2 q3 q4 q5 q6
        have lt0 := gs.1.lt
        have lt1 := gs.2.1.lt
        have lw := gs.2.2.2.2.size
        have r0 := gs.2.1.cell 0
        have r1 := gs.2.1.cell 1
        have r2 := gs.2.1.cell 2
        have r3 := gs.2.1.cell 3
        have r4 := gs.2.1.cell 4
        have r5 := gs.2.1.cell 5
        have r6 := gs.2.1.cell 6
        have g0 := gs.2.1.free 0
        have g1 := gs.2.1.free 1
        have g2 := gs.2.1.free 2
        have g3 := gs.2.1.free 3
        have g4 := gs.2.1.free 4
        have g5 := gs.2.1.free 5
        have g6 := gs.2.1.free 6
        simp at r0 r1 r2 r3 r4 r5 r6
        clear gs
        go_wp2_with fail
        refine (ref10_add_lit _ _ (by first | rfl | simp) base (Nat.le_trans hbase lw) (hAv.le lw) A c AG nG cG s3 s' [p, x, -y] _ _ rfl rfl HS4.out (by simp) H.out.2.2.1 (by omega)).mono ?_
        rintro e w5 ⟨⟨A5, c5, rfl, o5⟩, fr5⟩
        have m5 := H.out.mid fr5 o5
        clear r0 g0 r1 g1 r2 g2 r3 g3 r4 g4 r5 g5 r6 g6
        have r0 := m5.2.1.cell 0
        have r1 := m5.2.1.cell 1
        have r2 := m5.2.1.cell 2
        have r3 := m5.2.1.cell 3
        have r4 := m5.2.1.cell 4
        have r5 := m5.2.1.cell 5
        have r6 := m5.2.1.cell 6
        have g0 := m5.2.1.free 0
        have g1 := m5.2.1.free 1
        have g2 := m5.2.1.free 2
        have g3 := m5.2.1.free 3
        have g4 := m5.2.1.free 4
        have g5 := m5.2.1.free 5
        have g6 := m5.2.1.free 6
        simp at r0 r1 r2 r3 r4 r5 r6
        have M := Lib.hid m5
        clear m5
        go_wp2
        have e5 := M.out.fin (by omega)
        have E := Lib.hid e5
        clear e5
        refine bodyPost_ret (v := (.agg #[.int .i64 s'.n, .slice A5 s'.L.length c5, .slice AG nG cG, .int .u64 (s'.a.a.toNat : Int), .int .u64 (s'.a.b.toNat : Int), .slice none 0 0, .bool s'.closed])) (by simp [results, Try.results85, go_sem, r0, r1, r2, r3, r4, r5, r6]) rfl ?_
        exact ⟨⟨A5, c5, rfl, E.out.2.1⟩, E.out.2.2⟩
end Go.Proofs.Ytlifakbdgmdafaa

namespace Go.Proofs.Ytlifakbdgmdafaa
open Go Go.RowKit

theorem RS.gate_xor1 (s : RS) (gl x : Int) : s.gate 6 gl [x] = ((s.fresh (holdsL s.a x)).adds [[-s.var, x], [s.var, -x]], s.var) := by
  have e : kindVal 6 [holdsL s.a x] = holdsL s.a x := by cases holdsL s.a x <;> rfl
  unfold RS.gate
  rw [if_neg (by omega), if_neg (by simp)]
  simp only [List.map_cons, List.map_nil, e]
  rfl
end Go.Proofs.Ytlifakbdgmdafaa
