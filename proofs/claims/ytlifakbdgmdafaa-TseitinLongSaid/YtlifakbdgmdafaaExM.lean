/-
  censusref10 by single steps: states stored, rows made, entries. censusref10: rows beside a slice of numbers that grows; the last row written anew. censusref10's many, by single steps: what the world holds.
-/
import Derived.Test.YtlifakbdgmdafaaEx
import Derived.Test.YtlifakbdgmdafaaRef10
import Derived.Test.YtlifakbdgmdafaaWEnc3
namespace Go.Proofs.Ytlifakbdgmdafaa
open Go Go.RowKit
theorem in_holds : Enters Try.prog 81 := enters_of Try.func81 (by kernel_rfl) rfl
theorem in_fresh : Enters Try.prog 80 := enters_of Try.func80 (by kernel_rfl) rfl
theorem in_add : Enters Try.prog 67 := enters_of Try.func67 (by kernel_rfl) rfl
theorem in_sum : Enters Try.prog 85 := enters_of Try.func85 (by kernel_rfl) rfl
theorem in_many : Enters Try.prog 82 := enters_of Try.func82 (by kernel_rfl) rfl
theorem in_xor : Enters Try.prog 83 := enters_of Try.func83 (by kernel_rfl) rfl
theorem in_gateOf : Enters Try.prog 66 := enters_of Try.func66 (by kernel_rfl) rfl
section
variable {P : Program} {ops : Array Oper} {Q : Exit → Act → World → Prop} {S : World → Prop} {r : List (Nat × Nat)} {n : Nat} {m : List (Nat × Value)} {w : World} {i d : Nat} {op : Op} {t T : TypeId} {pos : String} {aft : Array Edge} {gd : Option (Nat × Bool)} {cs : Array Value}
theorem wt2_newslice {k c : Nat} (ho : ops[i]? = some ⟨some d, op, t, pos, aft, gd⟩) (hr : ∀ ρ, Reads m ρ → (execOp ρ ⟨some d, op, t, pos, aft, gd⟩).run P w = .ok (.value (.slice (some ⟨w.heap.size, 0, none⟩) k c)) (w.alloc (.cells cs T))) (hg : wantedM ops m gd = some true) (hd : Nat.blt d n = true)
    (h : ∀ g w', Below w.heap.size w w' → Blk w' g T cs → w.heap.size = g → w'.heap.size = g + 1 → S w' ∧ wt P ops Q S r n ((d, .slice (some ⟨g, 0, none⟩) k c) :: m) w') : wt P ops Q S ((i, 2) :: r) n m w := by
  obtain ⟨h1, h2⟩ := h _ _ ((Below.refl _ _).alloc (Nat.le_refl _) _) (Blk.new _ _ _) rfl (by simp)
  exact wt2 ho hr hg hd h1 h2
end
section
variable {ρ : Operand → Value} {d : Option Tmp} {x y : Operand} {t : TypeId} {pos : String} {aft : Array Edge} {gd : Option (Nat × Bool)} {w : World}
theorem ex_storeState {g : Nat} {u0 u1 u2 u3 u4 u5 u6 : Value} {AG A : Option Addr} {nG cG c : Nat} {s : RS} (hx : ρ x = .pointer (some ⟨g, 0, none⟩)) (hy : ρ y = (.agg #[.int .i64 s.n, .slice A s.L.length c, .slice AG nG cG, .int .u64 (s.a.a.toNat : Int), .int .u64 (s.a.b.toNat : Int), .slice none 0 0, .bool s.closed])) (h : Blk w g 63 #[u0, u1, u2, u3, u4, u5, u6]) :
    (execOp ρ ⟨d, .store 63 x y, t, pos, aft, gd⟩).run Try.prog w = .ok .skip (put7 w g AG nG cG s A c) := ex_store hx hy h
end
theorem own_of_blk {w : World} {base g : Nat} {l : List Int} (h : Blk w g 3 (intCells l)) (hb : base ≤ g) (hl : l.length ≤ maxLen) : OwnInts w base (.slice (some ⟨g, 0, none⟩) l.length l.length) l :=
  ⟨by simp, .inr ⟨g, l.length, intCells l, rfl, hb, h, Nat.le_refl _, hl, by simp [intCells], by simp [intCells]; rw [List.take_of_length_le (by simp)]⟩⟩
section
variable {Av : Nat → Prop} {base g g6 nG cG bi c : Nat} {w W W' : World} {AG A : Option Addr} {IV : Value} {l : List Int} {s : RS}
/-- add, of a row that was just made. -/
theorem ref10_add_new (hAv : AvOk Av w) (hbase : base ≤ w.heap.size) {gn k : Nat} {row : List Int} {s' : RS} (hs' : s' = s.add row) (hg : w.heap.size ≤ gn) (hgs : GSt Av base w g g6 AG nG cG bi IV l s A c W) (hk : Blk W gn 3 (intCells row)) (hn : k = row.length) (hl : row.length ≤ 1000000) (hL : s.L.length ≤ 1000000) :
    Calls Try.prog 67 #[(.agg #[.int .i64 s.n, .slice A s.L.length c, .slice AG nG cG, .int .u64 (s.a.a.toNat : Int), .int .u64 (s.a.b.toNat : Int), .slice none 0 0, .bool s.closed]), .slice (some ⟨gn, 0, none⟩) k k] W fun e w' => (∃ A' c', e = .returned (.agg #[.int .i64 s'.n, .slice A' s'.L.length c', .slice AG nG cG, .int .u64 (s'.a.a.toNat : Int), .int .u64 (s'.a.b.toNat : Int), .slice none 0 0, .bool s'.closed]) ∧ OwnRows w' Av base (.slice A' s'.L.length c') s'.L) ∧ FrR base W w' := by
  subst hn
  refine ref10_add W base (Nat.le_trans hbase hgs.2.2.2.2.size) A c AG nG cG s s' row hs' _ _ _ hgs.2.2.1 (own_of_blk hk (Nat.le_trans hbase hg) (by unfold maxLen; omega)) (fun k hk => ?_) hL
  simp only [Value.ownBlock, Option.some.injEq] at hk
  subst hk
  exact hAv _ hg
end
end Go.Proofs.Ytlifakbdgmdafaa

namespace Go.Proofs.Ytlifakbdgmdafaa
open Go Go.RowKit

theorem OwnRows.mono {w : World} {Av Av' : Nat → Prop} {base : Nat} {v : Value} {L : List (List Int)} (h : OwnRows w Av base v L) (hA : ∀ k, k < w.heap.size → Av k → Av' k) : OwnRows w Av' base v L := by
  obtain ⟨rvs, h3, h4⟩ := h
  exact ⟨rvs, h3, fun i c hc => by
    obtain ⟨rv, h5, h6, h7⟩ := h4 i c hc
    exact ⟨rv, h5, h6, fun k hk => hA k (own_ge h6 hk).2 (h7 k hk)⟩⟩
theorem OwnRows.beside {w w' : World} {Av : Nat → Prop} {base n : Nat} {v V : Value} {L : List (List Int)} {l : List Int} (h : OwnRows w Av base V L) (hv : OwnInts w n v l) (hg : w.grownBy w' v.ownBlock) (hA : ∀ k, v.ownBlock = some k → ¬ Av k) : OwnRows w' Av base V L := by
  obtain ⟨rvs, h3, h4⟩ := h
  refine ⟨rvs, World.ownsRow.kept h3 hg ?_, fun i c hc => ?_⟩
  · by_cases e : Value.ownBlock V = none
    · exact .inl e
    · right
      intro e2
      rcases h3.2 with ⟨h, _⟩ | ⟨g, cap, cur, h, _, hh, _⟩
      · rw [h] at e; exact e rfl
      · exact own_blk_ne hv (t := 30) (cs := cur) (g := g) hh (by decide) (by rw [← e2, h]; rfl)
  · obtain ⟨rv, h5, h6, h7⟩ := h4 i c hc
    refine ⟨rv, h5, World.ownsRow.kept h6 hg ?_, h7⟩
    by_cases e : rv.ownBlock = none
    · exact .inl e
    · right
      intro e2
      obtain ⟨k, hk⟩ := Option.ne_none_iff_exists'.1 e
      exact hA k (by rw [← e2]; exact hk) (h7 k hk)
theorem FrR.grown_new {base : Nat} {a b c : World} {row : Option Nat} (h : FrR base a b) (hg : b.grownBy c row) (hr : ∀ k, row = some k → a.heap.size ≤ k) : FrR base a c :=
  ⟨hg.os.trans h.os, hg.tape.trans h.tape, hg.output.trans h.output, Nat.le_trans h.size hg.size, fun k o ho ht => by
    have hk : k < a.heap.size := (Array.getElem?_eq_some_iff.1 ho).1
    rw [hg.block k (Nat.lt_of_lt_of_le hk h.size) (fun e => by have := hr k e.symm; omega)]
    exact h.keep k o ho ht⟩
theorem own_addr {w : World} {b n c : Nat} {A : Option Addr} {l : List Int} (h : OwnInts w b (.slice A n c) l) (hl : 0 < l.length) : ∃ g, A = some ⟨g, 0, none⟩ ∧ g < w.heap.size := by
  rcases h.2 with ⟨_, h2⟩ | ⟨g, cap, cur, e, _, hg, _⟩
  · omega
  · injection e with e _ _
    exact ⟨g, e, (Array.getElem?_eq_some_iff.1 hg).1⟩
theorem ownInts_low {W : World} {b b' : Nat} {v : Value} {l : List Int} (h : OwnInts W b v l) (hb : b' ≤ b) : OwnInts W b' v l := by
  refine ⟨h.1, ?_⟩
  rcases h.2 with hn | ⟨g, cap, cur, e, hbg, rest⟩
  · exact .inl hn
  · exact .inr ⟨g, cap, cur, e, Nat.le_trans hb hbg, rest⟩
/-- The last row is another one. -/
theorem OwnRows.setLast {w : World} {Av : Nat → Prop} {base c n : Nat} {A : Option Addr} {L : List (List Int)} {x y : List Int} {rv : Value} (hn : n = (L ++ [x]).length) (h : OwnRows w Av base (.slice A n c) (L ++ [x])) (hrv : OwnInts w base rv y) (hA : ∀ k, rv.ownBlock = some k → Av k) :
    ∃ g, A = some ⟨g, 0, none⟩ ∧ base ≤ g ∧ g < w.heap.size ∧ (∃ u, w.cell? ⟨g, L.length, none⟩ = some u) ∧ w.frozen? ⟨g, L.length, none⟩ = false ∧ (∃ cs, w.heap[g]? = some (.cells cs 30 (0, 0))) ∧
      OwnRows (w.setCell ⟨g, L.length, none⟩ rv) Av base (.slice A n c) (L ++ [y]) := by
  subst hn
  obtain ⟨rvs, h3, h4⟩ := h
  have hlen : rvs.length = L.length + 1 := by have := h3.1; simpa using this
  obtain ⟨h31, h32⟩ := h3
  rcases h32 with ⟨_, h2⟩ | ⟨g, cap, cur, e, hbg, hg, hnc, hcm, hsz, htake⟩
  · simp at h2
  injection e with e _ e3
  subst e; subst e3
  have hlt : g < w.heap.size := (Array.getElem?_eq_some_iff.1 hg).1
  have hcur : L.length < cur.size := by
    have := congrArg List.length htake
    rw [List.length_take, hlen] at this
    simp at this
    omega
  have hcell : w.cell? ⟨g, L.length, none⟩ = cur[L.length]? := cell_of_row w g L.length cur 30 (0, 0) hg
  refine ⟨g, rfl, hbg, hlt, ⟨cur[L.length], by rw [hcell, Array.getElem?_eq_getElem hcur]⟩, by simp [World.frozen?, hg], ⟨cur, hg⟩, ?_⟩
  have hset : (w.setCell ⟨g, L.length, none⟩ rv).heap[g]? = some (.cells (cur.setIfInBounds L.length rv) 30 (0, 0)) := by
    simp [World.setCell, Array.getElem?_modify, hg]
  have keep : ∀ {v : Value} {l : List Int}, OwnInts w base v l → OwnInts (w.setCell ⟨g, L.length, none⟩ rv) base v l := fun {v l} hv => own_setCell hv (p := ⟨g, L.length, none⟩) (by
    intro e
    rcases hv.2 with ⟨rfl, _⟩ | ⟨g2, cap2, cur2, rfl, _, hh, _⟩
    · simp [Value.ownBlock] at e
    · have : g2 = g := by simpa [Value.ownBlock] using e
      subst this
      rw [hg] at hh
      injection hh with hh
      injection hh with _ hh _
      revert hh; decide) rv
  refine ⟨rvs.set L.length rv, ⟨by simp [hlen], .inr ⟨g, c, cur.setIfInBounds L.length rv, by simp, hbg, hset, by simpa using hnc, hcm, by simpa using hsz, ?_⟩⟩, fun i d hd => ?_⟩
  · rw [Array.toList_setIfInBounds]
    have e : (L ++ [x]).length = (L ++ [y]).length := by simp
    rw [← e, List.take_set, htake]
  · by_cases hi : i < L.length
    · rw [List.getElem?_append_left hi] at hd
      obtain ⟨rv', h5, h6, h7⟩ := h4 i d (by rw [List.getElem?_append_left hi]; exact hd)
      exact ⟨rv', by rw [List.getElem?_set_ne (by omega)]; exact h5, keep h6, h7⟩
    · rw [List.getElem?_append_right (by omega)] at hd
      have e2 : i - L.length = 0 := by
        have := (List.getElem?_eq_some_iff.1 hd).1
        simp at this; omega
      have e3 : i = L.length := by omega
      rw [e2] at hd
      injection hd with hd
      subst hd
      subst e3
      exact ⟨rv, by rw [List.getElem?_set_self (by omega)], keep hrv, hA⟩
theorem FrR.setRows {base : Nat} {a b : World} {g j : Nat} (h : FrR base a b) (hb : base ≤ g) (hg : ∃ cs, b.heap[g]? = some (.cells cs 30 (0, 0))) (u : Value) : FrR base a (b.setCell ⟨g, j, none⟩ u) := by
  obtain ⟨cs, hg⟩ := hg
  refine ⟨h.os, h.tape, h.output, by simpa [World.setCell] using h.size, fun k o ho ht => ?_⟩
  have h1 := h.keep k o ho ht
  by_cases e : k = g
  · subst e
    exfalso
    rcases ht with ht | ht
    · rw [hg] at h1
      injection h1 with h1
      exact ht _ _ h1.symm
    · omega
  · exact (Below.heap_setCell b ⟨g, j, none⟩ u k e).trans h1
/-- Beside the state a slice of numbers of the call's own. -/
def GE (Av : Nat → Prop) (base : Nat) (w : World) (g g6 : Nat) (AG : Option Addr) (nG cG : Nat) (bi : Nat) (IV : Value) (l : List Int) (s : RS) (A : Option Addr) (c : Nat) (ev : Value) (el : List Int) (W : World) : Prop :=
  GSt (fun k => Av k ∧ ev.ownBlock ≠ some k) base w g g6 AG nG cG bi IV l s A c W ∧ OwnInts W w.heap.size ev el
section
variable {Av Av' : Nat → Prop} {base g g6 nG cG bi c : Nat} {w W W' : World} {AG A : Option Addr} {IV ev : Value} {l el : List Int} {s : RS}
theorem GSt.mono (h : GSt Av base w g g6 AG nG cG bi IV l s A c W) (hA : ∀ k, k < W.heap.size → Av k → Av' k) : GSt Av' base w g g6 AG nG cG bi IV l s A c W :=
  ⟨h.1, h.2.1, h.2.2.1.mono hA, h.2.2.2⟩
theorem GE.start (h : GSt Av base w g g6 AG nG cG bi IV l s A c W) (y : Int) : GE Av base w g g6 AG nG cG bi IV l s A c (.slice (some ⟨W.heap.size, 0, none⟩) 1 1) [y] (W.alloc (.cells #[.int .i64 y] 3)) :=
  ⟨(h.mono (fun k hk hAv => ⟨hAv, by simp [Value.ownBlock]; omega⟩)).alloc _, own_one (Blk.new W 3 #[.int .i64 y]) h.2.2.2.2.size⟩
theorem GE.ok (h : GE Av base w g g6 AG nG cG bi IV l s A c ev el W) (hAv : AvOk Av w) : AvOk (fun k => Av k ∧ ev.ownBlock ≠ some k) W := fun k hk =>
  ⟨hAv k (Nat.le_trans h.1.2.2.2.2.size hk), fun e => by have := (own_ge h.2 e).2; omega⟩
theorem GE.append {v' : Value} {y : Int} (h : GE Av base w g g6 AG nG cG bi IV l s A c ev el W) (hin : OwnInts w bi IV l) (hv : OwnInts W' w.heap.size v' (el ++ [y])) (hg : W.grownBy W' ev.ownBlock) (hw : v'.ownBlock = ev.ownBlock ∨ v'.ownBlock = some (W.heap.size + 1)) : GE Av base w g g6 AG nG cG bi IV l s A c v' (el ++ [y]) W' := by
  obtain ⟨⟨h1, h2, h3, h4, h5⟩, h6⟩ := h
  have hfr := h5.grown_new hg (fun k hk => (own_ge h6 hk).1)
  have hblk : ∀ {gg : Nat} {cs : Array Value}, Blk W gg 63 cs → Blk W' gg 63 cs := fun {gg cs} hb => hb.grown hg (by exact (own_blk_ne h6 hb (by decide)).symm)
  refine ⟨⟨hblk h1, hblk h2, ?_, hfr.ints hin, hfr⟩, hv⟩
  · refine OwnRows.mono ((h3.mono (Av' := fun k => (Av k ∧ ev.ownBlock ≠ some k) ∧ k < W.heap.size) (fun k hk h => ⟨h, hk⟩)).beside h6 hg (fun k hk h => h.1.2 hk)) (fun k _ h => ⟨h.1.1, fun e => ?_⟩)
    rcases hw with hw | hw
    · exact h.1.2 (by rw [← e]; exact hw.symm)
    · have h9 := h.2
      rw [hw] at e
      injection e with e
      omega
end
end Go.Proofs.Ytlifakbdgmdafaa

namespace Go.Proofs.Ytlifakbdgmdafaa
open Go Go.RowKit
section
variable {ρ : Operand → Value} {d : Option Tmp} {x y : Operand} {t : TypeId} {pos : String} {aft : Array Edge} {gd : Option (Nat × Bool)} {w : World}
theorem ex_dec {n k : Nat} (hx : ρ x = .int .i64 (n : Int)) (hy : ρ y = .int .i64 1) (h : n = k + 1) (hk : k < 4611686018427387904) : (execOp ρ ⟨d, .binOp .sub 3 x y 3, t, pos, aft, gd⟩).run Try.prog w = .ok (.value (.int .i64 (k : Int))) w := by
  subst h
  rw [ex_sub hx hy (wrap_in (by omega) (by omega))]
  congr 3
  omega
end
section
variable {Av : Nat → Prop} {base g g6 nG cG bi c : Nat} {w W W' : World} {AG A : Option Addr} {IV ev : Value} {l el : List Int} {s : RS}
theorem GE.below (h : GE Av base w g g6 AG nG cG bi IV l s A c ev el W) (hb : Below W.heap.size W W') : GE Av base w g g6 AG nG cG bi IV l s A c ev el W' := ⟨h.1.below hb, h.2.below hb⟩
theorem GE.drew (h : GE Av base w g g6 AG nG cG bi IV l s A c ev el W) : GE Av base w g g6 AG nG cG bi IV l s A c ev el W.drew := h.below (Below.refl _ _).drew
theorem GE.new {gn : Nat} {y : Int} (h : GSt Av base w g g6 AG nG cG bi IV l s A c W) (hb : Below W.heap.size W W') (hk : Blk W' gn 3 (intCells [y])) (hg : W.heap.size = gn) : GE Av base w g g6 AG nG cG bi IV l s A c (.slice (some ⟨gn, 0, none⟩) 1 1) [y] W' :=
  ⟨(h.mono (fun k hk hAv => ⟨hAv, by simp [Value.ownBlock]; omega⟩)).below hb, own_one hk (by have := h.2.2.2.2.size; omega)⟩
theorem GE.append0 {v' : Value} {y : Int} (h : GE Av base w g g6 AG nG cG bi IV l s A c ev el W) (hin : OwnInts w bi IV l) (hv : OwnInts W' w.heap.size v' (el ++ [y])) (hg : W.grownBy W' ev.ownBlock) (hw : v'.ownBlock = ev.ownBlock ∨ v'.ownBlock = some W.heap.size) : GE Av base w g g6 AG nG cG bi IV l s A c v' (el ++ [y]) W' := by
  obtain ⟨⟨h1, h2, h3, h4, h5⟩, h6⟩ := h
  have hfr := h5.grown_new hg (fun k hk => (own_ge h6 hk).1)
  have hblk : ∀ {gg : Nat} {cs : Array Value}, Blk W gg 63 cs → Blk W' gg 63 cs := fun {gg cs} hb => hb.grown hg (by exact (own_blk_ne h6 hb (by decide)).symm)
  refine ⟨⟨hblk h1, hblk h2, ?_, hfr.ints hin, hfr⟩, hv⟩
  refine OwnRows.mono ((h3.mono (Av' := fun k => (Av k ∧ ev.ownBlock ≠ some k) ∧ k < W.heap.size) (fun k hk h => ⟨h, hk⟩)).beside h6 hg (fun k hk h => h.1.2 hk)) (fun k _ h => ⟨h.1.1, fun e => ?_⟩)
  rcases hw with hw | hw
  · exact h.1.2 (by rw [← e]; exact hw.symm)
  · have h9 := h.2
    rw [hw] at e
    injection e with e
    omega
/-- add, of a row just made, beside a slice of numbers. -/
theorem ref10_add_ge {Wp : World} (hAv : AvOk Av w) (hbase : base ≤ w.heap.size) {gn k : Nat} {row : List Int} {s' : RS} (hs' : s' = s.add row) (hw : Wp.heap.size = gn) (hge : GE Av base w g g6 AG nG cG bi IV l s A c ev el Wp) (hb : Below Wp.heap.size Wp W) (hk : Blk W gn 3 (intCells row)) (hn : k = row.length) (hl : row.length ≤ 1000000) (hL : s.L.length ≤ 1000000) :
    Calls Try.prog 67 #[(.agg #[.int .i64 s.n, .slice A s.L.length c, .slice AG nG cG, .int .u64 (s.a.a.toNat : Int), .int .u64 (s.a.b.toNat : Int), .slice none 0 0, .bool s.closed]), .slice (some ⟨gn, 0, none⟩) k k] W fun e w' => (∃ A' c', e = .returned (.agg #[.int .i64 s'.n, .slice A' s'.L.length c', .slice AG nG cG, .int .u64 (s'.a.a.toNat : Int), .int .u64 (s'.a.b.toNat : Int), .slice none 0 0, .bool s'.closed]) ∧ OwnRows w' (fun k => Av k ∧ ev.ownBlock ≠ some k) base (.slice A' s'.L.length c') s'.L) ∧ FrR base W w' := by
  subst hn
  have hsz := hge.1.2.2.2.2.size
  have hge' := hge.below hb
  refine ref10_add W base (Nat.le_trans hbase (Nat.le_trans hsz hb.size)) A c AG nG cG s s' row hs' _ _ _ hge'.1.2.2.1 (own_of_blk hk (by omega) (by unfold maxLen; omega)) (fun k hk => ?_) hL
  simp only [Value.ownBlock, Option.some.injEq] at hk
  subst hk
  refine ⟨hAv _ (by omega), fun e => ?_⟩
  have := (own_ge hge.2 e).2
  omega
theorem rows_addr {W : World} {n c : Nat} {L : List (List Int)} (h : OwnRows W Av base (.slice A n c) L) (hl : 0 < L.length) : ∃ gr, A = some ⟨gr, 0, none⟩ := by
  obtain ⟨rvs, h3, _⟩ := h
  rcases h3.2 with ⟨_, h2⟩ | ⟨g, cap, cur, e, _⟩
  · omega
  · injection e with e _ _
    exact ⟨g, e⟩
theorem GE.setLast {gr gn k : Nat} {s2 s3 : RS} {x y : List Int} (h2 : s2 = s.add x) (h3 : s3 = s.add y) (h : GE Av base w g g6 AG nG cG bi IV l s2 (some ⟨gr, 0, none⟩) c ev el W) (hrow : OwnInts W base (.slice (some ⟨gn, 0, none⟩) k k) y) (hA : Av gn ∧ ev.ownBlock ≠ some gn) :
    (∃ u, W.cell? ⟨gr, s.L.length, none⟩ = some u) ∧ W.frozen? ⟨gr, s.L.length, none⟩ = false ∧ GE Av base w g g6 AG nG cG bi IV l s3 (some ⟨gr, 0, none⟩) c ev el (W.setCell ⟨gr, s.L.length, none⟩ (.slice (some ⟨gn, 0, none⟩) k k)) := by
  subst h2 h3
  obtain ⟨⟨a1, a2, a3, a4, a5⟩, a6⟩ := h
  obtain ⟨g', e, b1, b2, b3, b4, ⟨cs, b5⟩, b6⟩ := OwnRows.setLast rfl a3 hrow (fun k hk => by simp only [Value.ownBlock, Option.some.injEq] at hk; subst hk; exact hA)
  injection e with e
  injection e with e
  subst e
  have far : ∀ {gg : Nat} {cs' : Array Value}, Blk W gg 63 cs' → Blk (W.setCell ⟨gr, s.L.length, none⟩ (.slice (some ⟨gn, 0, none⟩) k k)) gg 63 cs' := fun {gg cs'} hb => hb.far (by exact Blk.apart hb (t' := 30) (cs' := cs) b5 (by decide)) _
  have ints : ∀ {b : Nat} {v : Value} {l : List Int}, OwnInts W b v l → OwnInts (W.setCell ⟨gr, s.L.length, none⟩ (.slice (some ⟨gn, 0, none⟩) k k)) b v l := fun {b v l} hv => own_setCell hv (p := ⟨gr, s.L.length, none⟩) (by
    intro e
    exact own_blk_ne hv (t := 30) (cs := cs) (g := gr) b5 (by decide) e) _
  refine ⟨b3, b4, ⟨?_, far a2, ?_, ints a4, a5.setRows b1 ⟨cs, b5⟩ _⟩, ints a6⟩
  · have := far a1
    simpa [RS.add] using this
  · have e : (s.add y).L.length = (s.L ++ [x]).length := by simp [RS.add]
    rw [e]
    exact b6
end
end Go.Proofs.Ytlifakbdgmdafaa
