/-
  The encoder of tseitin in memory: its block, the rows of its theory; what its methods may change.
-/
import Derived.Test.YtlifakbdgmdafaaWSame
namespace Go.Proofs.Ytlifakbdgmdafaa
open Go Go.RowKit

/-- What the encoder holds. -/
structure ES where
  n : Int
  L : List (List Int)
  full : Bool
def ES.add (s : ES) (l : List Int) : ES := if 4096 < s.L.length then ⟨s.n, s.L, true⟩ else ⟨s.n, s.L ++ [l], s.full⟩
def ES.fresh (s : ES) : ES := if s.n = 128 then ⟨s.n, s.L, true⟩ else ⟨s.n + 1, s.L, s.full⟩
def ES.var (s : ES) : Int := if s.n = 128 then 1 else s.n + 1

/-- The rows of a slice of slices that the call itself made. -/
def OwnRows (w : World) (Av : Nat → Prop) (base : Nat) (v : Value) (L : List (List Int)) : Prop :=
  ∃ rvs : List Value, w.ownsRow base 30 1 v L.length rvs ∧ ∀ (i : Nat) (c : List Int), L[i]? = some c → ∃ rv, rvs[i]? = some rv ∧ OwnInts w base rv c ∧ ∀ k, rv.ownBlock = some k → Av k
/-- (Av: what is known of the blocks in which the rows lie.) -/
def Enc (w : World) (Av : Nat → Prop) (base ge : Nat) (s : ES) : Prop :=
  base ≤ ge ∧ ∃ A c, Blk w ge 57 #[.int .i64 s.n, .slice A s.L.length c, .bool s.full] ∧ OwnRows w Av base (.slice A s.L.length c) s.L

/-- Only block ge, and rows of slices from base on, may have changed. -/
structure Fr (base ge : Nat) (w w' : World) : Prop where
  os : w'.os = w.os
  tape : w'.tape = w.tape
  output : w'.output = w.output
  size : w.heap.size ≤ w'.heap.size
  keep : ∀ k o, w.heap[k]? = some o → k ≠ ge → ((∀ cs fz, o ≠ .cells cs 30 fz) ∨ k < base) → w'.heap[k]? = some o
theorem Fr.refl (base ge : Nat) (w : World) : Fr base ge w w := ⟨rfl, rfl, rfl, Nat.le_refl _, fun _ _ h _ _ => h⟩
theorem Fr.trans {base ge : Nat} {a b c : World} (h : Fr base ge a b) (k : Fr base ge b c) : Fr base ge a c :=
  ⟨k.os.trans h.os, k.tape.trans h.tape, k.output.trans h.output, Nat.le_trans h.size k.size, fun i o ho hne ht => k.keep i o (h.keep i o ho hne ht) hne ht⟩
theorem Fr.of_below {base ge : Nat} {a b : World} (h : Below a.heap.size a b) : Fr base ge a b :=
  ⟨h.os, h.tape, h.output, h.size, fun k o ho _ _ => by rw [h.block k (Array.getElem?_eq_some_iff.1 ho).1]; exact ho⟩
theorem Fr.setCell {base ge : Nat} (w : World) {p : Addr} (hp : p.block = ge) (u : Value) : Fr base ge w (w.setCell p u) :=
  ⟨rfl, rfl, rfl, by simp [World.setCell], fun k o ho hne _ => by rw [Below.heap_setCell _ _ _ _ (by omega)]; exact ho⟩
theorem Fr.grown {base ge : Nat} {w w' : World} {v : Value} {n : Nat} {xs : List Value} (h : w.ownsRow base 30 1 v n xs) (hg : w.grownBy w' v.ownBlock) : Fr base ge w w' :=
  ⟨hg.os, hg.tape, hg.output, hg.size, fun k o ho _ ht => by
    by_cases e : some k = v.ownBlock
    · exfalso
      have hk := own_ge h e.symm
      rcases h.2 with ⟨rfl, _⟩ | ⟨g, cap, cur, rfl, _, hh, _⟩
      · simp [Value.ownBlock] at e
      · have : k = g := by simpa [Value.ownBlock] using e
        subst this
        rw [hh] at ho
        injection ho with ho
        rcases ht with ht | ht
        · exact ht _ _ ho.symm
        · omega
    · rw [hg.block k (Array.getElem?_eq_some_iff.1 ho).1 e]; exact ho⟩
theorem Fr.below {base ge : Nat} {w w' : World} (h : Fr base ge w w') (hge : base ≤ ge) (hb : base ≤ w.heap.size) : Below base w w' :=
  ⟨h.os, h.tape, h.output, h.size, fun k hk => by
    have hlt : k < w.heap.size := by omega
    rw [Array.getElem?_eq_getElem hlt]
    exact h.keep k _ (Array.getElem?_eq_getElem hlt) (by omega) (.inr hk)⟩
theorem Fr.blk {base ge : Nat} {w w' : World} {g : Nat} {t : TypeId} {cs : Array Value} (h : Fr base ge w w') (hb : Blk w g t cs) (hg : g ≠ ge) (ht : t ≠ 30 ∨ g < base) : Blk w' g t cs :=
  h.keep g _ hb hg (ht.imp (fun h cs' fz e => by injection e with _ e _; exact h e) id)
theorem Fr.ints {base ge : Nat} {w w' : World} {b : Nat} {v : Value} {l : List Int} (h : Fr base ge w w') (ho : OwnInts w b v l) (hne : v.ownBlock ≠ some ge) : OwnInts w' b v l := by
  refine ⟨ho.1, ?_⟩
  rcases ho.2 with hn | ⟨g, cap, cur, rfl, hbg, hg, rest⟩
  · exact .inl hn
  · refine .inr ⟨g, cap, cur, rfl, hbg, ?_, rest⟩
    exact h.keep g _ hg (by intro e; exact hne (by simp [Value.ownBlock, e])) (.inl (by intro cs' fz e; injection e with _ e _; revert e; decide))
theorem Enc.below {w w' : World} {Av : Nat → Prop} {base ge : Nat} {s : ES} (h : Enc w Av base ge s) (hb : Below w.heap.size w w') : Enc w' Av base ge s := by
  obtain ⟨h1, A, c, h2, rvs, h3, h4⟩ := h
  exact ⟨h1, A, c, h2.keep hb, rvs, own_below h3 hb, fun i c hc => by
    obtain ⟨rv, h5, h6, h7⟩ := h4 i c hc
    exact ⟨rv, h5, h6.below hb, h7⟩⟩
theorem Enc.mono {w : World} {Av Av' : Nat → Prop} {base ge : Nat} {s : ES} (h : Enc w Av base ge s) (hA : ∀ k, k < w.heap.size → Av k → Av' k) : Enc w Av' base ge s := by
  obtain ⟨h1, A, c, h2, rvs, h3, h4⟩ := h
  exact ⟨h1, A, c, h2, rvs, h3, fun i c hc => by
    obtain ⟨rv, h5, h6, h7⟩ := h4 i c hc
    exact ⟨rv, h5, h6, fun k hk => hA k (own_ge h6 hk).2 (h7 k hk)⟩⟩
theorem Enc.lt {w : World} {Av : Nat → Prop} {base ge : Nat} {s : ES} (h : Enc w Av base ge s) : ge < w.heap.size := by
  obtain ⟨_, _, _, h2, _⟩ := h
  exact h2.lt

/-- An owned slice, its value written out. -/
theorem own_form {w : World} {base : Nat} {e : TypeId} {size : Nat} {v : Value} {n : Nat} {xs : List Value} (h : w.ownsRow base e size v n xs) : ∃ A c, v = .slice A n c := by
  rcases h.2 with ⟨rfl, rfl⟩ | ⟨g, cap, cur, rfl, _⟩
  · exact ⟨none, 0, rfl⟩
  · exact ⟨_, _, rfl⟩

theorem Fr.grown_new {base ge : Nat} {a b c : World} {row : Option Nat} (h : Fr base ge a b) (hg : b.grownBy c row) (hr : ∀ k, row = some k → a.heap.size ≤ k) : Fr base ge a c :=
  ⟨hg.os.trans h.os, hg.tape.trans h.tape, hg.output.trans h.output, Nat.le_trans h.size hg.size, fun k o ho hne ht => by
    have hk : k < a.heap.size := (Array.getElem?_eq_some_iff.1 ho).1
    rw [hg.block k (Nat.lt_of_lt_of_le hk h.size) (fun e => by have := hr k e.symm; omega)]
    exact h.keep k o ho hne ht⟩
/-- The encoder stays as it is where another slice of numbers is written. -/
theorem Enc.grown {w w' : World} {Av : Nat → Prop} {base ge n : Nat} {s : ES} {v : Value} {xs : List Value} (h : Enc w Av base ge s) (hv : w.ownsRow n 3 1 v xs.length xs) (hg : w.grownBy w' v.ownBlock) (hA : ∀ k, v.ownBlock = some k → ¬ Av k) : Enc w' Av base ge s := by
  obtain ⟨h1, A, c, h2, rvs, h3, h4⟩ := h
  refine ⟨h1, A, c, h2.grown hg (by exact (own_blk_ne hv h2 (by decide)).symm), rvs, World.ownsRow.kept h3 hg ?_, fun i c hc => ?_⟩
  · by_cases e : Value.ownBlock (.slice A s.L.length c) = none
    · exact .inl e
    · right
      intro e2
      rcases h3.2 with ⟨h, _⟩ | ⟨g, cap, cur, h, _, hh, _⟩
      · rw [h] at e; exact e rfl
      · exact own_blk_ne hv (t := 30) (cs := cur) (g := g) hh (by decide) (by rw [← e2, h]; rfl)
  · obtain ⟨rv, h5, h6, h7⟩ := h4 i c hc
    refine ⟨rv, h5, World.ownsRow.kept h6 hg ?_, h7⟩
    by_cases e : rv.ownBlock = none
    · exact .inl e
    · right
      intro e2
      obtain ⟨k, hk⟩ := Option.ne_none_iff_exists'.1 e
      exact hA k (by rw [← e2]; exact hk) (h7 k hk)
section
variable {P : Program}
theorem run_append_of_nil (w : World) (base : Nat) (t ty e : TypeId) (i : TypeInfo) (size : Nat) (ht : P.underlying t = some (.slice e)) (hi : P.info? e = some i)
    (v : Value) (n : Nat) (xs : List Value) (hown : w.ownsRow base e size v n xs) (c : Nat) : (Builtin.append_ #[t, t] ty #[v, .slice none 0 c]).run P w = .ok v w := by
  rcases hown.2 with ⟨rfl, rfl⟩ | ⟨g, cap, cur, rfl, _, _, hnc, _⟩
  · simp [Builtin.append_, run_underlying ht, Go.sizeOf, typeInfo, hi, Builtin.lenOf, Builtin.firstCells]
  · simp [Builtin.append_, run_underlying ht, Go.sizeOf, typeInfo, hi, Builtin.lenOf, Builtin.firstCells, hnc, storeCells]
theorem grownBy_refl (w : World) (row : Option Nat) : w.grownBy w row := ⟨rfl, rfl, rfl, Nat.le_refl _, fun _ _ _ => rfl⟩
end

/-- 'append(out, l...)' on the call's own []int, whatever l. -/
theorem run_append_ints (w : World) (base B : Nat) (ty : TypeId) (v V : Value) (l l2 : List Int) (hown : OwnInts w base v l) (hV : IntsV w B V l2) (hlen : l.length + l2.length ≤ 1099511627776) (hbase : base ≤ w.heap.size) :
    ∃ v' w', (Builtin.append_ #[30, 30] ty #[v, V]).run Try.prog w = .ok v' w' ∧ OwnInts w' base v' (l ++ l2) ∧ w.grownBy w' v.ownBlock := by
  obtain ⟨i, hi, hz, hs, hb⟩ := info_parts info_int
  obtain ⟨A, c, rfl, hlc, hcm, hcell⟩ := hV
  cases A with
  | none =>
    have h0 : l2.length = 0 := by
      rcases Nat.eq_zero_or_pos l2.length with h | h
      · exact h
      · obtain ⟨_, _, _, h, _⟩ := hcell h
        cases h
    have : l2 = [] := List.eq_nil_of_length_eq_zero h0
    subst this
    exact ⟨v, w, run_append_of_nil w base _ ty 3 i 1 Try.underlying30 hi v _ _ hown c, by simpa using hown, grownBy_refl w _⟩
  | some ad =>
    have hn : ∀ j u, (l2.map (Value.int .i64))[j]? = some u → w.cell? (ad.add j) = some u := fun j u hu => by
      rw [List.getElem?_map] at hu
      obtain ⟨x, hx, rfl⟩ := Option.map_eq_some_iff.1 hu
      have hj : j < l2.length := (List.getElem?_eq_some_iff.1 hx).1
      obtain ⟨b, o, _, hA, hc⟩ := hcell (by omega)
      injection hA with hA
      subst hA
      have := hc j x hx
      have e : (⟨b, o, none⟩ : Addr).add j = ⟨b, o + j * 1, none⟩ := by unfold Addr.add; split <;> simp_all
      rw [e]
      exact this
    obtain ⟨v', w', hrun, h2, h3, _⟩ := run_append_own (P := Try.prog) w base 30 ty 3 i _ 1 8 Try.underlying30 hi hz hs hb rfl (by decide) v _ _ hown ad l2.length c (l2.map (Value.int .i64)) (by simp) hn
      (by intro u hu; obtain ⟨x, _, rfl⟩ := List.mem_map.1 hu; rfl) (by unfold maxLen; omega) (by omega) hbase
    exact ⟨v', w', hrun, by unfold OwnInts; rw [List.length_append, List.map_append]; exact h2, h3⟩

/-- The same as a step of a region that draws its order. -/
theorem step_append_ints (w : World) {ops : Array Oper} {o : Oper} {a : Act} {K : Act → World → Prop} {Q : Exit → Act → World → Prop} {E : Prop} (hgd : o.guard = none) (s x : Operand)
    (ho : o.op = .call { callee := .builtin .append, args := #[s, x], argTypes := #[30, 30] }) (base B : Nat) (v V : Value) (l l2 : List Int) (hs : a.eval s = v) (hown : OwnInts w base v l)
    (hx : a.eval x = V) (hV : IntsV w B V l2) (hlen : l.length + l2.length ≤ 1099511627776) (hbase : base ≤ w.heap.size)
    (h : ∀ A c w', OwnInts w' base (.slice A (l ++ l2).length c) (l ++ l2) → w.grownBy w' v.ownBlock → K (a.put o.dst (.slice A (l ++ l2).length c)) w') :
    if Region.wanted o (yielded ops a.tmps) = true then Oper.wp Try.prog o a w K Q else E := by
  rw [if_pos (by simp [Region.wanted, hgd])]
  obtain ⟨v', w', hrun, h2, h3⟩ := run_append_ints w base B o.type v V l l2 hown hV hlen hbase
  obtain ⟨A, c, rfl⟩ := own_form h2
  unfold Oper.wp execOp
  simp only [ho, resolve, invoke, builtin, Sem.run_bind, Sem.run_pure, Result.andThen_ok, List.map_toArray, List.map_cons, List.map_nil, hs, hx, hrun]
  exact h A c w' h2 h3
/-- 'rows = append(rows, row)' as a step of a region that draws its order. -/
theorem step_append_row (w0 : World) {ops : Array Oper} {o : Oper} {a : Act} {K : Act → World → Prop} {Q : Exit → Act → World → Prop} {E : Prop} (hgd : o.guard = none) (s x : Operand)
    (ho : o.op = .call { callee := .builtin .append, args := #[s, x], argTypes := #[27, 27] }) (base : Nat) (v : Value) (n : Nat) (rvs : List Value) (hs : a.eval s = v) (hown : w0.ownsRow base 30 1 v n rvs)
    (rv : Value) (h1 : rv.oneCell' = true) (hx : a.eval x = .slice (some ⟨w0.heap.size, 0, none⟩) 1 1) (hlen : n ≤ 1099511627776) (hbase : base ≤ w0.heap.size)
    (h : ∀ A c w', w'.ownsRow base 30 1 (.slice A (n + 1) c) (n + 1) (rvs ++ [rv]) → w0.grownBy w' v.ownBlock → K (a.put o.dst (.slice A (n + 1) c)) w') :
    if Region.wanted o (yielded ops a.tmps) = true then Oper.wp Try.prog o a (w0.alloc (.cells #[rv] 30)) K Q else E := by
  rw [if_pos (by simp [Region.wanted, hgd])]
  have hinfo : (Try.prog.info? 30).map (fun i => (i.zero, i.size, i.bytes)) = some (some (.slice none 0 0), 1, 24) := by kernel_rfl
  obtain ⟨i, hi, hz, hsz, hb⟩ := info_parts hinfo
  obtain ⟨v', w', hrun, h2, h3, _⟩ := run_append_own (P := Try.prog) (w0.alloc (.cells #[rv] 30)) base 27 o.type 30 i _ 1 24 Try.underlying27 hi hz hsz hb rfl (by decide) v n rvs (hown.alloc _) ⟨w0.heap.size, 0, none⟩ 1 1 [rv] rfl
    (fun j u hu => by
      have hadd : (⟨w0.heap.size, 0, none⟩ : Addr).add j = ⟨w0.heap.size, j, none⟩ := by unfold Addr.add; split <;> simp_all
      rw [hadd, (Blk.new w0 30 #[rv]).cell j]
      simpa using hu)
    (by intro u hu; simp at hu; subst hu; exact h1) (by unfold maxLen; omega) (by omega) (by simp; omega)
  obtain ⟨A, c, rfl⟩ := own_form h2
  unfold Oper.wp execOp
  simp only [ho, resolve, invoke, builtin, Sem.run_bind, Sem.run_pure, Result.andThen_ok, List.map_toArray, List.map_cons, List.map_nil, hs, hx, hrun]
  exact h A c w' h2 ⟨h3.os, h3.tape, h3.output, Nat.le_trans (by simp) h3.size, fun k hk hne => (h3.block k (by simp; omega) hne).trans (Below.heap_alloc _ _ _ hk)⟩
end Go.Proofs.Ytlifakbdgmdafaa
