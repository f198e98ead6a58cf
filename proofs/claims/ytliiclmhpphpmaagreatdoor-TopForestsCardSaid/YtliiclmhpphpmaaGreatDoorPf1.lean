/-
  Lemmas and contracts, joined: Circ Mem Sets WSets WCirc WCheck WSets2 Eval WEval WSets3 WEval2 Own Sx Own2 Ex Fr Heap Ops Fr2 Ops2 TysTp Tsh Tg.
-/
import Derived.WalkKit
import Derived.WalkSpells
import Derived.WalkLawsBesides
import Derived.Handy
import Derived.Deep.LoopGhost
import Derived.Deep.Draws
import Derived.Deep.OwnRows
import Derived.Deep.AppendLies
import Derived.Deep.RegionHeld3
import Derived.Deep.RegionLaw
import Derived.Deep.RegionWith
import Derived.Deep.QuietTactic
import Derived.Deep.Cut
import Derived.Deep.CutRange
import Derived.Deep.DeepCutAuto
import Derived.Deep.DeepFit
import Derived.Deep.DeepMust
import Derived.Deep.Light
import Derived.BigQuiet
import Derived.Laws.CopyOwn
import Derived.Laws.AppendOwnNone
import Derived.Lib.Hide
import Derived.Maps.AppendAt
import Derived.Test.YtliiclmhpphpmaaGreatDoorProg
import Derived.Deep.RegionHeld
import Derived.Deep.RegionHeldLaw
import Derived.MapKept
import Derived.Test.YtliiclmhpphpmaaGreatDoorRows
import Derived.Lib.ItoaLen
namespace Go.Proofs.YtliiclmhpphpmaaGreatDoor

structure Gate where
 kind : Int
 lit : Int
 inp : List Int

def allowedB (kind n : Int) : Bool :=
 if kind = 0 ∨ kind = 1 ∨ kind = 2 then n == 0 else if kind = 3 then n == 1 else if kind = 7 then n == 2 else if kind = 8 then n == 3
 else kind == 4 || kind == 5 || kind == 6
def litVar (l : Int) : Int := if 1 ≤ l ∧ l ≤ 128 then l else if -128 ≤ l ∧ l ≤ -1 then -l else 0
def litOk (l n : Int) : Bool := decide (litVar l ≠ 0 ∧ litVar l ≤ n)
def inOk (i : Int) (k : Int) : Bool := decide (0 ≤ k ∧ k < i)
def litGood (n : Int) (g : Gate) : Bool := if g.kind = 2 then litOk g.lit n else decide (g.lit = 0)
def goodGate (n i : Int) (g : Gate) : Bool := allowedB g.kind g.inp.length && litGood n g && g.inp.all (inOk i)
def sizeTo (gs : List Gate) (k : Nat) : Nat := ((gs.take k).map fun g => g.inp.length).sum
def sizeOf (gs : List Gate) : Nat := sizeTo gs gs.length
def goodAt (n : Int) (gs : List Gate) (i : Nat) : Bool := match gs[i]? with
 | some g => goodGate n i g
 | none => false
def goodTo (n : Int) (gs : List Gate) (k : Nat) : Bool := (List.range k).all (goodAt n gs)
def checkOf (n : Int) (gs : List Gate) : Int :=
 if n < 0 ∨ 128 < n then 6 else if 4096 < gs.length ∨ 65536 < sizeOf gs then 2 else if gs.length = 0 then 1 else if goodTo n gs gs.length then 0 else 1

theorem zD2 (gs : List Gate) (k : Nat) (h : k < gs.length) : sizeTo gs (k + 1) = sizeTo gs k + gs[k].inp.length := by
 unfold sizeTo
 rw [List.take_succ_eq_append_getElem h, List.map_append, List.sum_append_nat]
 simp only [List.map_cons, List.map_nil, List.sum_cons, List.sum_nil, Nat.add_zero]
theorem sizeTo_le (gs : List Gate) (k : Nat) : sizeTo gs k ≤ sizeOf gs := by
 unfold sizeOf sizeTo
 rw [List.take_length]
 conv => rhs; rw [← List.take_append_drop k gs]
 rw [List.map_append, List.sum_append_nat]; omega
theorem zE6 (gs : List Gate) : sizeTo gs 0 = 0 := by simp [sizeTo]
theorem zEj (n : Int) (gs : List Gate) (i : Nat) (h : i < gs.length) : goodAt n gs i = goodGate n i gs[i] := by
 unfold goodAt; rw [List.getElem?_eq_getElem h]
theorem goodTo_succ (n : Int) (gs : List Gate) (k : Nat) : goodTo n gs (k + 1) = (goodTo n gs k && goodAt n gs k) := by
 unfold goodTo; rw [List.range_succ]; simp
theorem zE0 (n : Int) (gs : List Gate) (k : Nat) : goodTo n gs k = true ↔ ∀ i, i < k → goodAt n gs i = true := by
 unfold goodTo; simp
theorem goodTo_false (n : Int) (gs : List Gate) (i k : Nat) (h : i < k) (hg : goodAt n gs i = false) : goodTo n gs k = false := by
 cases e : goodTo n gs k with
 | false => rfl
 | true =>
  have := (zE0 n gs k).1 e i h
  rw [hg] at this; cases this
theorem zDk (l : Int) : 0 ≤ litVar l ∧ litVar l ≤ 128 := by unfold litVar; split <;> (try split) <;> omega
end Go.Proofs.YtliiclmhpphpmaaGreatDoor
namespace Go.Proofs.YtliiclmhpphpmaaGreatDoor
open Go Go.RowKit

theorem bcell {w w' : World} {B : Nat} (h : Below B w w') : (∀ b o, b < B → w'.cell? ⟨b, o, none⟩ = w.cell? ⟨b, o, none⟩) ∧ (∀ b o, b < B → w'.frozen? ⟨b, o, none⟩ = w.frozen? ⟨b, o, none⟩) :=
 ⟨fun b o hb => h.cell (p := ⟨b, o, none⟩) hb, fun b o hb => h.frozen (p := ⟨b, o, none⟩) hb⟩

def SliceV {α : Type} (sz : Nat) (R : World → Addr → α → Prop) (w : World) (B : Nat) (v : Value) (xs : List α) : Prop :=
 ∃ A c, v = .slice A xs.length c ∧ xs.length ≤ c ∧ c ≤ maxLen ∧ (0 < xs.length → ∃ b o, b < B ∧ A = some ⟨b, o, none⟩ ∧ ∀ i x, xs[i]? = some x → R w ⟨b, o + i * sz, none⟩ x)

def Stays {α : Type} (B : Nat) (R : World → Addr → α → Prop) : Prop := ∀ w w' a x, Below B w w' → a.block < B → R w a x → R w' a x

theorem SliceV.below {α : Type} {sz : Nat} {R : World → Addr → α → Prop} {w w' : World} {B : Nat} {v : Value} {xs : List α} (hR : Stays B R)
  (h : SliceV sz R w B v xs) (hb : Below B w w') : SliceV sz R w' B v xs := by
 obtain ⟨A, c, hv, h1, h2, h3⟩ := h
 refine ⟨A, c, hv, h1, h2, fun hn => ?_⟩
 obtain ⟨b, o, hB, hA, hc⟩ := h3 hn
 exact ⟨b, o, hB, hA, fun i x hx => hR _ _ _ _ hb hB (hc i x hx)⟩

def IntAt (w : World) (a : Addr) (x : Int) : Prop := w.cell? a = some (.int .i64 x)
def BoolAt (w : World) (a : Addr) (x : Bool) : Prop := w.cell? a = some (.bool x)
abbrev IntsV := SliceV 1 IntAt
abbrev BoolsV := SliceV 1 BoolAt
def RowAt (B : Nat) (w : World) (a : Addr) (xs : List Int) : Prop := ∃ v, w.cell? a = some v ∧ IntsV w B v xs
def RowsV (w : World) (B : Nat) := SliceV 1 (RowAt B) w B

theorem IntAt.stays (B : Nat) : Stays B IntAt := fun _ _ _ _ hb hB h => (hb.cell hB).trans h
theorem BoolAt.stays (B : Nat) : Stays B BoolAt := fun _ _ _ _ hb hB h => (hb.cell hB).trans h
theorem IntsV.below {w w' : World} {B : Nat} {v : Value} {xs : List Int} (h : IntsV w B v xs) (hb : Below B w w') : IntsV w' B v xs := SliceV.below (IntAt.stays B) h hb
theorem BoolsV.below {w w' : World} {B : Nat} {v : Value} {xs : List Bool} (h : BoolsV w B v xs) (hb : Below B w w') : BoolsV w' B v xs := SliceV.below (BoolAt.stays B) h hb
theorem SliceV.more {α : Type} {sz : Nat} {R : World → Addr → α → Prop} {w : World} {B B' : Nat} {v : Value} {xs : List α}
  (h : SliceV sz R w B v xs) (hB : B ≤ B') : SliceV sz R w B' v xs := by
 obtain ⟨A, c, hv, h1, h2, h3⟩ := h
 refine ⟨A, c, hv, h1, h2, fun hn => ?_⟩
 obtain ⟨b, o, hb, hA, hc⟩ := h3 hn
 exact ⟨b, o, by omega, hA, hc⟩
def GateAt (B : Nat) (w : World) (a : Addr) (g : Gate) : Prop :=
 w.cell? a = some (.int .i64 g.kind) ∧ w.cell? ⟨a.block, a.off + 1, none⟩ = some (.int .i64 g.lit) ∧ ∃ v, w.cell? ⟨a.block, a.off + 2, none⟩ = some v ∧ IntsV w B v g.inp
def GatesV (w : World) (B : Nat) := SliceV 3 (GateAt B) w B
theorem GateAt.stays (B : Nat) : Stays B (GateAt B) := fun _ _ _ _ hb hB ⟨h1, h2, v, h3, h4⟩ =>
 ⟨(hb.cell hB).trans h1, (hb.cell (by exact hB)).trans h2, v, (hb.cell (by exact hB)).trans h3, h4.below hb⟩
theorem GatesV.below {w w' : World} {B : Nat} {v : Value} {xs : List Gate} (h : GatesV w B v xs) (hb : Below B w w') : GatesV w' B v xs := SliceV.below (GateAt.stays B) h hb
theorem GateAt.more {B B' : Nat} (hB : B ≤ B') {w : World} {a : Addr} {g : Gate} (h : GateAt B w a g) : GateAt B' w a g := by
 obtain ⟨h1, h2, v, h3, h4⟩ := h
 exact ⟨h1, h2, v, h3, SliceV.more h4 hB⟩
theorem GatesV.more {w : World} {B B' : Nat} {v : Value} {xs : List Gate} (h : GatesV w B v xs) (hB : B ≤ B') : GatesV w B' v xs := by
 obtain ⟨A, c, hv, h1, h2, h3⟩ := h
 refine ⟨A, c, hv, h1, h2, fun hn => ?_⟩
 obtain ⟨b, o, hb, hA, hc⟩ := h3 hn
 exact ⟨b, o, by omega, hA, fun i x hx => (hc i x hx).more hB⟩

theorem IntsV.at_ {w w' : World} {B : Nat} {A : Option Addr} {n c k : Nat} {xs : List Int} (h : IntsV w B (.slice A n c) xs) (hb : Below B w w') (hk : k < xs.length) :
  ∃ b o, A = some ⟨b, o, none⟩ ∧ b < B ∧ w'.cell? ⟨b, o + k, none⟩ = some (.int .i64 xs[k]) := by
 obtain ⟨A', c', hv, _, _, h3⟩ := h
 injection hv with hA _ _
 subst hA
 obtain ⟨b, o, hB, rfl, hc⟩ := h3 (by omega)
 refine ⟨b, o, rfl, hB, (hb.cell (by exact hB)).trans ?_⟩
 simpa [IntAt, BoolAt] using hc k _ (List.getElem?_eq_getElem hk)
theorem BoolsV.at_ {w w' : World} {B : Nat} {A : Option Addr} {n c k : Nat} {xs : List Bool} (h : BoolsV w B (.slice A n c) xs) (hb : Below B w w') (hk : k < xs.length) :
  ∃ b o, A = some ⟨b, o, none⟩ ∧ b < B ∧ w'.cell? ⟨b, o + k, none⟩ = some (.bool xs[k]) := by
 obtain ⟨A', c', hv, _, _, h3⟩ := h
 injection hv with hA _ _
 subst hA
 obtain ⟨b, o, hB, rfl, hc⟩ := h3 (by omega)
 refine ⟨b, o, rfl, hB, (hb.cell (by exact hB)).trans ?_⟩
 simpa [IntAt, BoolAt] using hc k _ (List.getElem?_eq_getElem hk)
theorem GatesV.at_ {w w' : World} {B : Nat} {A : Option Addr} {n c k : Nat} {xs : List Gate} (h : GatesV w B (.slice A n c) xs) (hb : Below B w w') (hk : k < xs.length) :
  ∃ b o A' c', A = some ⟨b, o, none⟩ ∧ b < B ∧ w'.cell? ⟨b, o + k * 3, none⟩ = some (.int .i64 xs[k].kind) ∧ w'.cell? ⟨b, o + k * 3 + 1, none⟩ = some (.int .i64 xs[k].lit) ∧
   w'.cell? ⟨b, o + k * 3 + 2, none⟩ = some (.slice A' xs[k].inp.length c') ∧ IntsV w' B (.slice A' xs[k].inp.length c') xs[k].inp ∧ xs[k].inp.length ≤ c' ∧ c' ≤ maxLen := by
 obtain ⟨A', c', hv, _, _, h3⟩ := h
 injection hv with hA _ _
 subst hA
 obtain ⟨b, o, hB, rfl, hc⟩ := h3 (by omega)
 obtain ⟨h1, h2, v, h4, hI⟩ := hc k _ (List.getElem?_eq_getElem hk)
 have hI' := hI.below hb
 obtain ⟨A'', c'', rfl, h5, h6, _⟩ := hI
 exact ⟨b, o, A'', c'', rfl, hB, (hb.cell (by exact hB)).trans h1, (hb.cell (by exact hB)).trans h2, (hb.cell (by exact hB)).trans h4, hI', h5, h6⟩

def Blk (w : World) (g : Nat) (t : TypeId) (cs : Array Value) : Prop := w.heap[g]? = some (.cells cs t (0, 0))
section
variable {w w' : World} {g : Nat} {t : TypeId} {cs : Array Value}
theorem Blk.lt (h : Blk w g t cs) : g < w.heap.size := (Array.getElem?_eq_some_iff.1 h).1
theorem Blk.cell (h : Blk w g t cs) (i : Nat) : w.cell? ⟨g, i, none⟩ = cs[i]? := cell_of_row w g i cs t (0, 0) h
theorem Blk.free (h : Blk w g t cs) (i : Nat) : w.frozen? ⟨g, i, none⟩ = false := by
 unfold Blk at h
 simp [World.frozen?, h]
theorem Blk.new (w : World) (t : TypeId) (cs : Array Value) : Blk (w.alloc (.cells cs t)) w.heap.size t cs := heap_alloc_new w _
theorem Blk.new_ {cs : Array Value} (hg : g = w.heap.size) : Blk (w.alloc (.cells cs t)) g t cs := by subst hg; exact Blk.new w t cs
theorem Blk.alloc (h : Blk w g t cs) (o : Obj) : Blk (w.alloc o) g t cs := (Below.heap_alloc w o g h.lt).trans h
theorem Blk.put (h : Blk w g t cs) (i : Nat) (u : Value) : Blk (w.setCell ⟨g, i, none⟩ u) g t (cs.setIfInBounds i u) := by
 unfold Blk at h ⊢
 simp [World.setCell, Array.getElem?_modify, h]
theorem Blk.far (h : Blk w g t cs) {p : Addr} (hp : g ≠ p.block) (u : Value) : Blk (w.setCell p u) g t cs := (Below.heap_setCell w p u g hp).trans h
theorem Blk.below {B : Nat} (h : Blk w g t cs) (hb : Below B w w') (hg : g < B) : Blk w' g t cs := (hb.block g hg).trans h
theorem Blk.keep (h : Blk w g t cs) (hb : Below w.heap.size w w') : Blk w' g t cs := h.below hb h.lt
end
theorem kept {P : Program} {f : FuncId} {args : Array Value} {W w1 : World} {v : Value} (h : Calls P f args W fun e w' => e = .returned v ∧ Below W.heap.size W w') (hW : Below w1.heap.size w1 W) :
  Calls P f args W fun e w' => e = .returned v ∧ Below w1.heap.size w1 w' := h.mono fun _ _ ⟨he, hb⟩ => ⟨he, hW.trans (hb.mono hW.size)⟩
theorem below_drewN {B : Nat} {a w : World} (h : Below B a w) (n : Nat) : Below B a (w.drewN n) := ⟨h.os, h.tape, h.output, h.size, h.block⟩
theorem Blk.later {w : World} {g : Nat} {t : TypeId} {cs : Array Value} (h : Blk w g t cs) (i : Nat) (v : Value) (hi : cs[i]? = some v) : ∀ w', Below w.heap.size w w' → w'.cell? ⟨g, i, none⟩ = some v :=
 fun _ hb => (hb.cell (p := ⟨g, i, none⟩) h.lt).trans ((h.cell i).trans hi)
end Go.Proofs.YtliiclmhpphpmaaGreatDoor
namespace Go.Proofs.YtliiclmhpphpmaaGreatDoor

structure VS where
 a : BitVec 64
 b : BitVec 64

theorem VS.eta (s : VS) : (⟨s.a, s.b⟩ : VS) = s := rfl
def VS.empty : VS := ⟨0#64, 0#64⟩
def VS.has (s : VS) (v : Int) : Bool :=
 if 1 ≤ v ∧ v ≤ 64 then s.a.getLsbD (v.toNat - 1) else if 65 ≤ v ∧ v ≤ 128 then s.b.getLsbD (v.toNat - 65) else false
def wordOf (f : Nat → Bool) : Nat → BitVec 64
 | 0 => 0#64
 | n + 1 => if f n then wordOf f n ||| (1#64 <<< n) else wordOf f n
def VS.of (f : Int → Bool) : VS := ⟨wordOf (fun i => f (i + 1)) 64, wordOf (fun i => f (i + 65)) 64⟩
def VS.bit (v : Int) : VS :=
 if 1 ≤ v ∧ v ≤ 64 then ⟨1#64 <<< (v.toNat - 1), 0#64⟩ else if 65 ≤ v ∧ v ≤ 128 then ⟨0#64, 1#64 <<< (v.toNat - 65)⟩ else .empty
def VS.with_ (s : VS) (v : Int) : VS := ⟨s.a ||| (VS.bit v).a, s.b ||| (VS.bit v).b⟩
def VS.cut (s t : VS) : VS := ⟨s.a &&& t.a, s.b &&& t.b⟩
def VS.union (s t : VS) : VS := ⟨s.a ||| t.a, s.b ||| t.b⟩
def VS.minus (s t : VS) : VS := ⟨s.a &&& ~~~t.a, s.b &&& ~~~t.b⟩
def VS.xor (s t : VS) : VS := ⟨s.a ^^^ t.a, s.b ^^^ t.b⟩
def VS.all (n : Int) : VS := VS.of fun v => decide (v ≤ n)
def VS.sub (s t : VS) : Bool := (s.minus t).a == 0#64 && (s.minus t).b == 0#64

theorem wordOf_bit (f : Nat → Bool) (n : Nat) (hn : n ≤ 64) (i : Nat) : (wordOf f n).getLsbD i = (decide (i < n) && f i) := by
 induction n with
 | zero => simp [wordOf]
 | succ n ih =>
  have ih := ih (by omega)
  unfold wordOf
  by_cases hf : f n
  ·rw [if_pos hf, BitVec.getLsbD_or, ih, BitVec.getLsbD_shiftLeft]
   by_cases h1 : i < n
   ·simp [h1, show i < n + 1 from by omega]
   ·by_cases h2 : i = n
    ·subst h2; simp [hf]; omega
    ·simp [show ¬ i < n + 1 from by omega, h1]
     intro h3 h4
     omega
  ·rw [if_neg hf, ih]
   by_cases h1 : i < n
   ·simp [h1, show i < n + 1 from by omega]
   ·by_cases h2 : i = n
    ·subst h2; simp [hf]
    ·simp [show ¬ i < n + 1 from by omega, h1]

theorem VS.has_of (f : Int → Bool) (v : Int) : (VS.of f).has v = (decide (1 ≤ v ∧ v ≤ 128) && f v) := by
 unfold VS.has VS.of
 by_cases h1 : 1 ≤ v ∧ v ≤ 64
 ·rw [if_pos h1]
  simp only []
  rw [wordOf_bit _ _ (Nat.le_refl _)]
  have e : ((v.toNat - 1 : Nat) : Int) + 1 = v := by omega
  rw [e]
  simp [show v.toNat - 1 < 64 from by omega, h1.1, show v ≤ 128 from by omega]
 ·rw [if_neg h1]
  by_cases h2 : 65 ≤ v ∧ v ≤ 128
  ·rw [if_pos h2]
   simp only []
   rw [wordOf_bit _ _ (Nat.le_refl _)]
   have e : ((v.toNat - 65 : Nat) : Int) + 65 = v := by omega
   rw [e]
   simp [show v.toNat - 65 < 64 from by omega, h2.2, show 1 ≤ v from by omega]
  ·rw [if_neg h2]
   have : ¬ (1 ≤ v ∧ v ≤ 128) := by omega
   simp [this]

theorem VS.ext_has {s t : VS} (h : ∀ v : Int, 1 ≤ v → v ≤ 128 → s.has v = t.has v) : s = t := by
 obtain ⟨a, b⟩ := s
 obtain ⟨c, d⟩ := t
 have ha : a = c := by
  apply BitVec.eq_of_getLsbD_eq
  intro i hi
  have := h (i + 1) (by omega) (by omega)
  unfold VS.has at this
  rw [if_pos (by omega), if_pos (by omega)] at this
  simpa [show ((i : Int) + 1).toNat = i + 1 from by omega] using this
 have hb : b = d := by
  apply BitVec.eq_of_getLsbD_eq
  intro i hi
  have := h (i + 65) (by omega) (by omega)
  unfold VS.has at this
  rw [if_neg (by omega), if_pos (by omega), if_neg (by omega), if_pos (by omega)] at this
  simpa [show ((i : Int) + 65).toNat = i + 65 from by omega] using this
 rw [ha, hb]

theorem VS.has_out (s : VS) {v : Int} (h : v < 1 ∨ 128 < v) : s.has v = false := by
 unfold VS.has
 rw [if_neg (by omega), if_neg (by omega)]
theorem VS.has_in {s : VS} {v : Int} (h : s.has v = true) : 1 ≤ v ∧ v ≤ 128 := by
 rcases Classical.em (v < 1 ∨ 128 < v) with h1 | h1
 ·rw [VS.has_out s h1] at h; cases h
 ·omega

theorem VS.has_empty (v : Int) : VS.empty.has v = false := by
 unfold VS.has VS.empty
 split
 ·simp
 ·split <;> simp
theorem VS.has_bit (u v : Int) : (VS.bit u).has v = (decide (1 ≤ u ∧ u ≤ 128) && decide (v = u)) := by
 unfold VS.has VS.bit
 by_cases h1 : 1 ≤ u ∧ u ≤ 64
 ·rw [if_pos h1]
  by_cases h2 : 1 ≤ v ∧ v ≤ 64
  ·rw [if_pos h2]
   simp only [BitVec.getLsbD_shiftLeft, BitVec.getLsbD_one]
   by_cases e : v = u
   ·subst e; simp [show v.toNat - 1 < 64 from by omega, h1.1, show v ≤ 128 from by omega]
   ·have : ¬ (v.toNat - 1 - (u.toNat - 1) = 0 ∧ ¬ v.toNat - 1 < u.toNat - 1) := by omega
    simp [e]; omega
  ·rw [if_neg h2]
   split
   ·simp; omega
   ·simp; omega
 ·rw [if_neg h1]
  by_cases h3 : 65 ≤ u ∧ u ≤ 128
  ·rw [if_pos h3]
   by_cases h2 : 1 ≤ v ∧ v ≤ 64
   ·rw [if_pos h2]; simp; omega
   ·rw [if_neg h2]
    by_cases h4 : 65 ≤ v ∧ v ≤ 128
    ·rw [if_pos h4]
     simp only [BitVec.getLsbD_shiftLeft, BitVec.getLsbD_one]
     by_cases e : v = u
     ·subst e; simp [show v.toNat - 65 < 64 from by omega, h3.2, show 1 ≤ v from by omega]
     ·simp [e]; omega
    ·rw [if_neg h4]; simp; omega
  ·rw [if_neg h3]
   have := VS.has_empty v
   unfold VS.has at this
   rw [this]
   have : ¬ (1 ≤ u ∧ u ≤ 128) := by omega
   simp [this]

theorem VS.has_union (s t : VS) (v : Int) : (s.union t).has v = (s.has v || t.has v) := by
 unfold VS.has VS.union
 split
 ·simp
 ·split <;> simp
theorem VS.has_cut (s t : VS) (v : Int) : (s.cut t).has v = (s.has v && t.has v) := by
 unfold VS.has VS.cut
 split
 ·simp
 ·split <;> simp
theorem VS.has_minus (s t : VS) (v : Int) : (s.minus t).has v = (s.has v && !t.has v) := by
 unfold VS.has VS.minus
 split
 ·simp [show v.toNat - 1 < 64 from by omega]
 ·split
  ·simp [show v.toNat - 65 < 64 from by omega]
  ·rfl
theorem VS.has_with (s : VS) (u v : Int) : (s.with_ u).has v = (s.has v || (decide (1 ≤ u ∧ u ≤ 128) && decide (v = u))) := by
 rw [← VS.has_bit, ← VS.has_union]; rfl
theorem VS.has_all (n v : Int) : (VS.all n).has v = (decide (1 ≤ v ∧ v ≤ 128) && decide (v ≤ n)) := by
 unfold VS.all; rw [VS.has_of]
def VS.list (s : VS) (n : Nat) : List Int := ((List.range n).map fun i : Nat => (i : Int) + 1).filter s.has
def VS.ofList : List Int → VS
 | [] => .empty
 | v :: l => (VS.ofList l).with_ v
end Go.Proofs.YtliiclmhpphpmaaGreatDoor
namespace Go.Proofs.YtliiclmhpphpmaaGreatDoor
open Go Go.RowKit

theorem zEx (a : BitVec 64) : BitVec.ofInt 64 (a.toNat : Int) = a := by
 rw [BitVec.ofInt_natCast]; simp
theorem zD1 (a : BitVec 64) : IntKind.u64.wrap (a.toNat : Int) = (a.toNat : Int) := by
 have := a.isLt
 rw [IntKind.wrap_u64]; omega
theorem bits_or_bv (a b : BitVec 64) : bits .or .u64 (a.toNat : Int) (b.toNat : Int) = ((a ||| b).toNat : Int) := by
 show IntKind.u64.wrap ((BitVec.ofInt 64 (a.toNat : Int) ||| BitVec.ofInt 64 (b.toNat : Int)).toNat : Int) = _
 rw [zEx, zEx, zD1]
theorem zFe (a b : BitVec 64) : bits .and .u64 (a.toNat : Int) (b.toNat : Int) = ((a &&& b).toNat : Int) := by
 show IntKind.u64.wrap ((BitVec.ofInt 64 (a.toNat : Int) &&& BitVec.ofInt 64 (b.toNat : Int)).toNat : Int) = _
 rw [zEx, zEx, zD1]
theorem bits_andNot_bv (a b : BitVec 64) : bits .andNot .u64 (a.toNat : Int) (b.toNat : Int) = ((a &&& ~~~b).toNat : Int) := by
 show IntKind.u64.wrap ((BitVec.ofInt 64 (a.toNat : Int) &&& ~~~(BitVec.ofInt 64 (b.toNat : Int))).toNat : Int) = _
 rw [zEx, zEx, zD1]
theorem pow_bv (k : Nat) (hk : k < 64) : IntKind.u64.wrap (2 ^ k) = ((1#64 <<< k).toNat : Int) := by
 have h : ((1#64 <<< k).toNat : Int) = (2 : Int) ^ k := by
  have : (1#64 <<< k).toNat = 2 ^ k := by
   rw [BitVec.toNat_shiftLeft]
   simp only [BitVec.toNat_ofNat, Nat.shiftLeft_eq]
   rw [Nat.mod_eq_of_lt (show 1 < 2 ^ 64 by decide), Nat.one_mul]
   exact Nat.mod_eq_of_lt (Nat.pow_lt_pow_right (by decide) hk)
  rw [this]; simp
 rw [← h, zD1]
theorem bit_bv (a : BitVec 64) (k : Nat) (hk : k < 64) : (bits .and .u64 (a.toNat : Int) (IntKind.u64.wrap (2 ^ k)) != 0) = a.getLsbD k := by
 rw [pow_bv k hk, zFe]
 by_cases h : a.getLsbD k
 ·rw [h, bne_iff_ne]
  intro e
  have e2 : a &&& 1#64 <<< k = 0#64 := by
   apply BitVec.eq_of_toNat_eq
   simpa using e
  have := congrArg (fun x => x.getLsbD k) e2
  simp [hk] at this
  rw [BitVec.getLsbD_eq_getElem hk, this] at h
  cases h
 ·have h' : a.getLsbD k = false := by simpa using h
  rw [h']
  have e2 : a &&& 1#64 <<< k = 0#64 := by
   apply BitVec.eq_of_getLsbD_eq
   intro i hi
   rw [BitVec.getLsbD_and, BitVec.getLsbD_shiftLeft]
   by_cases e : i = k
   ·subst e; rw [h']; simp
   ·simp; omega
  rw [e2]; rfl
theorem tn_beq (a b : BitVec 64) : (((a.toNat : Int)) == (b.toNat : Int)) = (a == b) := by
 by_cases h : a = b
 ·subst h; simp
 ·have : ¬ a.toNat = b.toNat := fun e => h (BitVec.eq_of_toNat_eq e)
  rw [show (a == b) = false from by simp [h], beq_eq_false_iff_ne]
  omega

theorem zFh {x y x' y' : Int} (h1 : x = x') (h2 : y = y') : Ending.returned (.agg #[.int .u64 x, .int .u64 y]) = .returned (.agg #[.int .u64 x', .int .u64 y']) := by rw [h1, h2]
theorem zBk {x y : Bool} (h : x = y) : Ending.returned (.bool x) = .returned (.bool y) := by rw [h]
theorem eqIn_u64 (w : World) (a c : Int) : (Op.equalIn 9999 23 (.int .u64 a) (.int .u64 c)).run Tryz.prog w = .ok (a == c) w := run_equalIn_int w 9998 23 .u64 .u64 a c Tryz.underlying23
theorem eq_sets (w : World) (a b c d : Int) : (binOp .eql 25 (.agg #[.int .u64 a, .int .u64 b]) (.agg #[.int .u64 c, .int .u64 d])).run Tryz.prog w = .ok (.bool (a == c && b == d)) w := by
 simp only [binOp]
 simp [Op.equal, Op.maxDepth]
 unfold Op.equalIn
 simp
 go_simp
 simp [show List.range' 0 2 = [0,1] from rfl, eqIn_u64, go_sem]
 by_cases h : a = c
 ·subst h; simp [go_sem]
  by_cases h : b = d
  ·subst h; simp
  ·simp [h]
 ·simp [h]


theorem has_lo (s : VS) (v : Int) (h : 1 ≤ v) (h2 : v ≤ 64) : s.has v = s.a.getLsbD (v.toNat - 1) := by unfold VS.has; rw [if_pos ⟨h, h2⟩]
theorem has_hi (s : VS) (v : Int) (h : 65 ≤ v) (h2 : v ≤ 128) : s.has v = s.b.getLsbD (v.toNat - 65) := by unfold VS.has; rw [if_neg (by omega), if_pos ⟨h, h2⟩]
theorem bit_lo (v : Int) (h : 1 ≤ v) (h2 : v ≤ 64) : VS.bit v = ⟨1#64 <<< (v.toNat - 1), 0#64⟩ := by unfold VS.bit; rw [if_pos ⟨h, h2⟩]
theorem bit_hi (v : Int) (h : 65 ≤ v) (h2 : v ≤ 128) : VS.bit v = ⟨0#64, 1#64 <<< (v.toNat - 65)⟩ := by unfold VS.bit; rw [if_neg (by omega), if_pos ⟨h, h2⟩]
theorem bit_out (v : Int) (h : v < 1 ∨ 128 < v) : VS.bit v = ⟨0#64, 0#64⟩ := by unfold VS.bit; rw [if_neg (by omega), if_neg (by omega)]; rfl

set_option maxHeartbeats 400000 in
theorem zC2 (a b : BitVec 64) (v : Int) (w : World) :
  Calls Tryz.prog 18 #[(.agg #[.int .u64 ((a).toNat : Int), .int .u64 ((b).toNat : Int)]), (.int .i64 (v))] w fun e w' => e = .returned (.bool (VS.has ⟨a, b⟩ v)) ∧ Below w.heap.size w w' := by
 by_cases h : v < 1 ∨ 128 < v
 ·rw [VS.has_out _ h]
  rcases h with h | h
  all_goals
   go_enter Tryz.func18, Tryz.ntmps18
   go_wp2
   go_ret
   exact ⟨rfl, (Below.refl _ _).alloc (Nat.le_refl _) _⟩
 ·by_cases h2 : v ≤ 64
  ·have h1 : 1 ≤ v := by omega
   rw [has_lo _ v h1 h2]
   have hb := bit_bv a (v.toNat - 1) (by omega)
   clear h
   have hq : (v-1)/64 = 0 := by omega
   have hr : (v-1)%64 = v-1 := by omega
   have HB := Lib.hid hb
   clear hb
   go_enter Tryz.func18, Tryz.ntmps18
   go_wp2
   go_ret
   exact ⟨zBk (by simpa using HB.out), (Below.refl _ _).alloc (Nat.le_refl _) _⟩
  ·have h1 : 65 ≤ v := by omega
   have h3 : v ≤ 128 := by omega
   rw [has_hi _ v h1 h3]
   have hb := bit_bv b (v.toNat - 65) (by omega)
   clear h h2
   have hq : (v-1)/64 = 1 := by omega
   have hr : (v-1)%64 = v-65 := by omega
   have HB := Lib.hid hb
   clear hb
   go_enter Tryz.func18, Tryz.ntmps18
   go_wp2
   go_ret
   have e : (v - 65).toNat = v.toNat - 65 := by omega
   exact ⟨zBk (by rw [← e] at HB; simpa [e] using HB.out), (Below.refl _ _).alloc (Nat.le_refl _) _⟩

set_option maxHeartbeats 400000 in
theorem zDq (a b : BitVec 64) (v : Int) (w : World) :
  Calls Tryz.prog 19 #[(.agg #[.int .u64 ((a).toNat : Int), .int .u64 ((b).toNat : Int)]), (.int .i64 (v))] w fun e w' => e = .returned (.agg #[.int .u64 ((VS.with_ ⟨a, b⟩ v).a.toNat : Int), .int .u64 ((VS.with_ ⟨a, b⟩ v).b.toNat : Int)]) ∧ Below w.heap.size w w' := by
 by_cases h : v < 1 ∨ 128 < v
 ·unfold VS.with_
  rw [bit_out v h]
  rcases h with h | h
  all_goals
   go_enter Tryz.func19, Tryz.ntmps19
   go_wp2
   go_returns
   exact ⟨zFh (by simp) (by simp), by go_grown⟩
 ·unfold VS.with_
  by_cases h2 : v ≤ 64
  ·have h1 : 1 ≤ v := by omega
   rw [bit_lo v h1 h2]
   clear h
   have hq : (v-1)/64 = 0 := by omega
   have hr : (v-1)%64 = v-1 := by omega
   go_enter Tryz.func19, Tryz.ntmps19
   go_wp2
   go_returns
   exact ⟨zFh (by rw [pow_bv _ (by omega), bits_or_bv]) (by simp), by go_grown⟩
  ·have h1 : 65 ≤ v := by omega
   have h3 : v ≤ 128 := by omega
   rw [bit_hi v h1 h3]
   clear h h2
   have hq : (v-1)/64 = 1 := by omega
   have hr : (v-1)%64 = v-65 := by omega
   have e : (v - 65).toNat = v.toNat - 65 := by omega
   have HE := Lib.hid e
   clear e
   go_enter Tryz.func19, Tryz.ntmps19
   go_wp2
   go_returns
   exact ⟨zFh (by simp) (by rw [HE.out, pow_bv _ (by omega), bits_or_bv]), by go_grown⟩

theorem vars_cut (a b c d : BitVec 64) (w : World) :
  Calls Tryz.prog 80 #[(.agg #[.int .u64 ((a).toNat : Int), .int .u64 ((b).toNat : Int)]), (.agg #[.int .u64 ((c).toNat : Int), .int .u64 ((d).toNat : Int)])] w fun e w' => e = .returned (.agg #[.int .u64 ((VS.cut ⟨a, b⟩ ⟨c, d⟩).a.toNat : Int), .int .u64 ((VS.cut ⟨a, b⟩ ⟨c, d⟩).b.toNat : Int)]) ∧ Below w.heap.size w w' := by
 go_enter Tryz.func80, Tryz.ntmps80
 go_wp2
 go_returns
 exact ⟨zFh (zFe _ _) (zFe _ _), by go_grown⟩
theorem zEt (a b c d : BitVec 64) (w : World) :
  Calls Tryz.prog 59 #[(.agg #[.int .u64 ((a).toNat : Int), .int .u64 ((b).toNat : Int)]), (.agg #[.int .u64 ((c).toNat : Int), .int .u64 ((d).toNat : Int)])] w fun e w' => e = .returned (.agg #[.int .u64 ((VS.minus ⟨a, b⟩ ⟨c, d⟩).a.toNat : Int), .int .u64 ((VS.minus ⟨a, b⟩ ⟨c, d⟩).b.toNat : Int)]) ∧ Below w.heap.size w w' := by
 go_enter Tryz.func59, Tryz.ntmps59
 go_wp2
 go_returns
 exact ⟨zFh (bits_andNot_bv _ _) (bits_andNot_bv _ _), by go_grown⟩
theorem vars_sub (a b c d : BitVec 64) (w : World) :
  Calls Tryz.prog 44 #[(.agg #[.int .u64 ((a).toNat : Int), .int .u64 ((b).toNat : Int)]), (.agg #[.int .u64 ((c).toNat : Int), .int .u64 ((d).toNat : Int)])] w fun e w' => e = .returned (.bool (VS.sub ⟨a, b⟩ ⟨c, d⟩)) ∧ Below w.heap.size w w' := by
 have he := fun w' => eq_sets w' ((VS.minus ⟨a, b⟩ ⟨c, d⟩).a.toNat : Int) ((VS.minus ⟨a, b⟩ ⟨c, d⟩).b.toNat : Int) 0 0
 have e : VS.sub ⟨a, b⟩ ⟨c, d⟩ = ((((VS.minus ⟨a, b⟩ ⟨c, d⟩).a.toNat : Int) == 0) && (((VS.minus ⟨a, b⟩ ⟨c, d⟩).b.toNat : Int) == 0)) := by
  unfold VS.sub
  rw [← tn_beq, ← tn_beq]
  rfl
 rw [e]
 clear e
 go_enter Tryz.func44, Tryz.ntmps44
 go_wp2_with (go_at_call 59; refine (zEt _ _ _ _ _).mono ?_; rintro e w' ⟨rfl, hb⟩)
 go_ret
 exact ⟨rfl, Below.trans (by go_grown) (hb.mono (by simp; omega))⟩
end Go.Proofs.YtliiclmhpphpmaaGreatDoor
namespace Go.Proofs.YtliiclmhpphpmaaGreatDoor
open Go Go.RowKit

set_option maxHeartbeats 400000 in
theorem circ_size (N : Int) (V : Value) (gs : List Gate) (w : World) (B : Nat) (hB : B ≤ w.heap.size) (hg : GatesV w B V gs) (hs : sizeOf gs ≤ 4611686018427387904) :
  Calls Tryz.prog 70 #[.agg #[.int .i64 N, V]] w fun e w' => e = .returned (.int .i64 ((sizeOf gs : Nat) : Int)) ∧ Below w.heap.size w w' := by
 obtain ⟨A, c, rfl, hlc, hcm, _⟩ := id hg
 unfold maxLen at hcm
 go_enter Tryz.func70, Tryz.ntmps70
 go_wp2
 go_loopw [3, 9] (fun s i wr => ∃ k : Nat, k ≤ gs.length ∧ i = .int .i64 k ∧ s = .int .i64 ((sizeTo gs k : Nat) : Int) ∧ Below w.heap.size w wr) (fun _ i _ => gs.length - (intOf i).toNat)
 case atStart => exact ⟨0, Nat.zero_le _, rfl, by rw [zE6]; rfl, (Below.refl _ _).alloc (Nat.le_refl _) _⟩
 case round =>
  obtain ⟨k, hk, rfl, rfl, hb⟩ := hrel
  by_cases hlt : k < gs.length
  ·obtain ⟨b, o, A', c', rfl, hbB, h0, h1, h2, hI, hnc, hcm'⟩ := hg.at_ (hb.mono hB) hlt
   have hsz := Lib.hid (zD2 gs k hlt)
   have hle1 := sizeTo_le gs (k + 1)
   have hle2 := zD2 gs k hlt
   have hle : sizeTo gs k + gs[k].inp.length ≤ 4611686018427387904 := by omega
   clear hle1 hle2
   go_wp2
   go_roundw
   case rel => exact ⟨k + 1, by omega, by go_num, by rw [hsz.out]; simp, hb.alloc hb.size _⟩
   case measure => simp [intOf]; omega
  ·go_wp2
   go_ret
   have : k = gs.length := by omega
   subst this
   exact ⟨rfl, hb⟩

set_option maxHeartbeats 800000 in
theorem circ_inputs (k n : Int) (w : World) :
  Calls Tryz.prog 89 #[(.int .i64 (k)), (.int .i64 (n))] w fun e w' => e = .returned (.bool (allowedB k n)) ∧ w = w' := by
 by_cases h0 : k = 0
 ·subst h0
  go_enter Tryz.func89, Tryz.ntmps89
  go_wp2
  go_ret
  exact ⟨zBk (by simp [allowedB]), rfl⟩
 by_cases h1 : k = 1
 ·subst h1
  go_enter Tryz.func89, Tryz.ntmps89
  go_wp2
  go_ret
  exact ⟨zBk (by simp [allowedB]), rfl⟩
 by_cases h2 : k = 2
 ·subst h2
  go_enter Tryz.func89, Tryz.ntmps89
  go_wp2
  go_ret
  exact ⟨zBk (by simp [allowedB]), rfl⟩
 by_cases h3 : k = 3
 ·subst h3
  go_enter Tryz.func89, Tryz.ntmps89
  go_wp2
  go_ret
  exact ⟨zBk (by simp [allowedB]), rfl⟩
 by_cases h4 : k = 4
 ·subst h4
  go_enter Tryz.func89, Tryz.ntmps89
  go_wp2
  go_ret
  exact ⟨zBk (by simp [allowedB]), rfl⟩
 by_cases h5 : k = 5
 ·subst h5
  go_enter Tryz.func89, Tryz.ntmps89
  go_wp2
  go_ret
  exact ⟨zBk (by simp [allowedB]), rfl⟩
 by_cases h7 : k = 7
 ·subst h7
  go_enter Tryz.func89, Tryz.ntmps89
  go_wp2
  go_ret
  exact ⟨zBk (by simp [allowedB]), rfl⟩
 by_cases h8 : k = 8
 ·subst h8
  go_enter Tryz.func89, Tryz.ntmps89
  go_wp2
  go_ret
  exact ⟨zBk (by simp [allowedB]), rfl⟩
 go_enter Tryz.func89, Tryz.ntmps89
 go_wp2
 go_ret
 exact ⟨zBk (by simp [allowedB, h0, h1, h2, h3, h7, h8]), rfl⟩

theorem zI1 (l : Int) (w : World) :
  Calls Tryz.prog 68 #[(.int .i64 (l))] w fun e w' => e = .returned (.int .i64 (litVar l)) ∧ w = w' := by
 by_cases h : 1 ≤ l ∧ l ≤ 128
 ·have e : litVar l = l := by unfold litVar; rw [if_pos h]
  rw [e]
  obtain ⟨h1, h2⟩ := h
  clear e
  go_enter Tryz.func68, Tryz.ntmps68
  go_wp2
  go_ret
  exact ⟨rfl, rfl⟩
 ·by_cases h' : -128 ≤ l ∧ l ≤ -1
  ·have e : litVar l = -l := by unfold litVar; rw [if_neg h, if_pos h']
   rw [e]
   obtain ⟨h1, h2⟩ := h'
   clear e h
   have h3 : ¬ 1 ≤ l := by omega
   go_enter Tryz.func68, Tryz.ntmps68
   go_wp2
   go_ret
   exact ⟨rfl, rfl⟩
  ·have e : litVar l = 0 := by unfold litVar; rw [if_neg h, if_neg h']
   rw [e]
   clear e
   rcases (show 128 < l ∨ l = 0 ∨ l < -128 from by omega) with h3 | h3 | h3
   ·have h4 : 1 ≤ l := by omega
    clear h h'
    go_enter Tryz.func68, Tryz.ntmps68
    go_wp2
    go_ret
    exact ⟨rfl, rfl⟩
   ·subst h3
    clear h h'
    go_enter Tryz.func68, Tryz.ntmps68
    go_wp2
    go_ret
    exact ⟨rfl, rfl⟩
   ·have h4 : l ≤ -1 := by omega
    clear h h'
    go_enter Tryz.func68, Tryz.ntmps68
    go_wp2
    go_ret
    exact ⟨rfl, rfl⟩

theorem lit_Valid (l n : Int) (w : World) :
  Calls Tryz.prog 75 #[(.int .i64 (l)), (.int .i64 (n))] w fun e w' => e = .returned (.bool (litOk l n)) ∧ w = w' := by
 have hr := zDk l
 have e : litOk l n = (decide (litVar l ≠ 0) && decide (litVar l ≤ n)) := by unfold litOk; simp
 rw [e]
 clear e
 have k1 : ∀ w, Calls Tryz.prog 68 #[(.int .i64 (l))] w fun e w' => e = .returned (.int .i64 (litVar l)) ∧ w = w' := zI1 l
 generalize litVar l = x at k1 hr
 have K1 := Lib.hid k1
 clear k1
 by_cases h : x = 0
 ·subst h
  go_enter Tryz.func75, Tryz.ntmps75
  go_wp2_with (go_at_call 68; refine (K1.out _).mono ?_; rintro e w' ⟨rfl, rfl⟩)
  go_ret
  exact ⟨rfl, rfl⟩
 ·have h1 : (x != 0) = true := by simp [h]
  have h2 : decide (x ≠ 0) = true := by simp [h]
  rw [h2]
  clear h h2
  go_enter Tryz.func75, Tryz.ntmps75
  go_wp2_with (go_at_call 68; refine (K1.out _).mono ?_; rintro e w' ⟨rfl, rfl⟩)
  go_ret
  exact ⟨zBk (by simp), rfl⟩

set_option maxHeartbeats 800000 in
theorem index_func (F : FuncId) (C : Value) (p : Int → Bool) (w : World) (B : Nat) (V : Value) (xs : List Int) (hB : B ≤ w.heap.size) (hx : IntsV w B V xs)
  (hF : ∀ (args : Array Value) (w : World), (callFunc F args).run Tryz.prog w = .ok (.enter F args) w)
  (hf : ∀ (i : Nat) (x : Int) (w' : World), xs[i]? = some x → Below w.heap.size w w' → Calls Tryz.prog F #[.int .i64 x, C] w' fun e w'' => e = .returned (.bool (p x)) ∧ Below w'.heap.size w' w'') :
  Calls Tryz.prog 69 #[V, .func (.func F) #[] #[C]] w fun e w' => (∃ r : Int, e = .returned (.int .i64 r) ∧ decide (0 ≤ r) = xs.any p) ∧ Below w.heap.size w w' := by
 obtain ⟨A, c, rfl, hlc, hcm, _⟩ := id hx
 unfold maxLen at hcm
 have HF := Lib.hid hf
 clear hf
 go_enter Tryz.func69, Tryz.ntmps69
 go_wp2
 go_loopw [8] (fun i wr => ∃ k : Nat, k ≤ xs.length ∧ i = .int .i64 k ∧ (xs.take k).any p = false ∧ Below w.heap.size w wr) (fun i _ => xs.length - (intOf i).toNat)
 case atStart => exact ⟨0, Nat.zero_le _, rfl, rfl, Below.refl _ _⟩
 case round =>
  obtain ⟨k, hk, rfl, hno, hb⟩ := hrel
  have HNO := Lib.hid hno
  clear hno
  by_cases hlt : k < xs.length
  ·obtain ⟨b, o, rfl, hbB, hcell⟩ := hx.at_ (hb.mono hB) hlt
   have h1 := HF.out k xs[k] wr (List.getElem?_eq_getElem hlt) hb
   have htk := Lib.hid (List.take_succ_eq_append_getElem hlt)
   have hany : p xs[k] = true → xs.any p = true := fun h => List.any_eq_true.2 ⟨_, List.getElem_mem hlt, h⟩
   have HANY := Lib.hid hany
   clear hany
   generalize xs[k] = x at h1 hcell htk HANY
   have H1 := Lib.hid h1
   clear h1
   cases hp : p x
   ·rw [hp] at H1
    have HP := Lib.hid hp
    clear hp
    go_wp2_with fail
    refine H1.out.mono ?_
    rintro e w' ⟨rfl, hbb⟩
    go_wp2
    go_roundw
    case rel => exact ⟨k + 1, by omega, by go_num, by rw [htk.out, List.any_append, HNO.out]; simp [HP.out], hb.trans (hbb.mono hb.size)⟩
    case measure => simp [intOf]; omega
   ·rw [hp] at H1
    have HA := Lib.hid (HANY.out hp)
    clear hp
    go_wp2_with fail
    refine H1.out.mono ?_
    rintro e w' ⟨rfl, hbb⟩
    go_wp2
    go_ret
    exact ⟨⟨_, rfl, by rw [HA.out]; simp⟩, hb.trans (hbb.mono hb.size)⟩
  ·go_wp2
   go_ret
   have e : k = xs.length := by omega
   subst e
   rw [List.take_length] at HNO
   exact ⟨⟨_, rfl, by rw [HNO.out]; rfl⟩, hb⟩

theorem contains_func (F : FuncId) (C : Value) (p : Int → Bool) (w : World) (B : Nat) (V : Value) (xs : List Int) (hB : B ≤ w.heap.size) (hx : IntsV w B V xs)
  (hF : ∀ (args : Array Value) (w : World), (callFunc F args).run Tryz.prog w = .ok (.enter F args) w)
  (hf : ∀ (i : Nat) (x : Int) (w' : World), xs[i]? = some x → Below w.heap.size w w' → Calls Tryz.prog F #[.int .i64 x, C] w' fun e w'' => e = .returned (.bool (p x)) ∧ Below w'.heap.size w' w'') :
  Calls Tryz.prog 39 #[V, .func (.func F) #[] #[C]] w fun e w' => e = .returned (.bool (xs.any p)) ∧ Below w.heap.size w w' := by
 have H := Lib.hid (index_func F C p w B V xs hB hx hF hf)
 clear hf
 go_enter Tryz.func39, Tryz.ntmps39
 go_wp2_with fail
 refine H.out.mono ?_
 rintro e w' ⟨⟨r, rfl, hr⟩, hbb⟩
 have HR := Lib.hid hr
 clear hr
 go_wp2
 go_ret
 exact ⟨zBk HR.out, hbb⟩
end Go.Proofs.YtliiclmhpphpmaaGreatDoor
namespace Go.Proofs.YtliiclmhpphpmaaGreatDoor
open Go Go.RowKit

theorem good_in (k i : Int) (a : Addr) (w : World) (h : w.cell? a = some (.int .i64 i)) :
  Calls Tryz.prog 90 #[.int .i64 k, .pointer (some a)] w fun e w' => e = .returned (.bool (!inOk i k)) ∧ Below w.heap.size w w' := by
 have e : (!inOk i k) = (decide (k < 0) || decide (i ≤ k)) := by
  unfold inOk; rw [Bool.eq_iff_iff]; simp
 rw [e]
 clear e
 by_cases h1 : k < 0
 ·go_enter Tryz.func90, Tryz.ntmps90
  go_wp2
  go_ret
  exact ⟨zBk (by simp [h1]), Below.refl _ _⟩
 ·go_enter Tryz.func90, Tryz.ntmps90
  go_wp2
  go_ret
  exact ⟨zBk (by rw [show decide (k < 0) = false from by simp; omega]; simp), Below.refl _ _⟩

theorem call_good_in (args : Array Value) (w : World) : (callFunc 90 args).run Tryz.prog w = .ok (.enter 90 args) w := by kernel_rfl

set_option maxRecDepth 100000 in
set_option maxHeartbeats 1600000 in
theorem circ_good (N : Int) (V : Value) (gs : List Gate) (k : Nat) (w : World) (B : Nat) (hB : B ≤ w.heap.size) (hg : GatesV w B V gs) (hk : k < gs.length) :
  Calls Tryz.prog 71 #[.agg #[.int .i64 N, V], .int .i64 (k : Int)] w fun e w' => e = .returned (.bool (goodGate N k gs[k])) ∧ Below w.heap.size w w' := by
 obtain ⟨A, c, rfl, hlc, hcm, _⟩ := id hg
 unfold maxLen at hcm
 obtain ⟨b, o, A', c', rfl, hbB, h0, h1, h2, hI, hnc, hcm'⟩ := hg.at_ (Below.refl _ _) hk
 have hbl : b < w.heap.size := by omega
 generalize gs[k] = g at *
 obtain ⟨gk, gl, gi⟩ := g
 simp only at h0 h1 h2 hI hnc
 have hz : gi.length ≤ 9223372036854775807 := by unfold maxLen at hcm'; omega
 have e : goodGate N k ⟨gk, gl, gi⟩ = (allowedB gk gi.length && (if gk = 2 then litOk gl N else decide (gl = 0)) && !(gi.any fun x => !inOk k x)) := by
  unfold goodGate litGood
  simp only
  congr 1
  rw [List.all_eq_not_any_not]
 rw [e]
 clear e
 have a1 : ∀ w, Calls Tryz.prog 89 #[(.int .i64 (gk)), .int .i64 (gi.length : Int)] w fun e w' => e = .returned (.bool (allowedB gk gi.length)) ∧ w = w' := circ_inputs gk gi.length
 have a2 : ∀ w, Calls Tryz.prog 75 #[(.int .i64 (gl)), (.int .i64 (N))] w fun e w' => e = .returned (.bool (litOk gl N)) ∧ w = w' := lit_Valid gl N
 have a3 : ∀ (w1 : World) (a : Addr) (ha : w1.cell? a = some (.int .i64 (k : Int))) (halt : a.block < w1.heap.size) (hab : a.spot = none) (hb : Below w.heap.size w w1),
   Calls Tryz.prog 39 #[.slice A' gi.length c', .func (.func 90) #[] #[.pointer (some a)]] w1 fun e w' => e = .returned (.bool (gi.any fun x => !inOk k x)) ∧ Below w1.heap.size w1 w' :=
  fun w1 a ha halt hab hb => contains_func _ _ _ w1 B _ gi (Nat.le_trans hB hb.size) (hI.below (hb.mono hB)) call_good_in (fun i x w' _ hb' => good_in x k a w' ((hb'.cell halt).trans ha))
 generalize allowedB gk gi.length = y1 at a1
 generalize litOk gl N = y2 at a2
 generalize (gi.any fun x => !inOk k x) = y3 at a3
 have A1 := Lib.hid a1
 have A2 := Lib.hid a2
 have A3 := Lib.hid a3
 clear a1 a2 a3
 cases y1
 ·simp only [Bool.false_and]
  go_enter Tryz.func71, Tryz.ntmps71
  go_wp2_with (go_at_call 89; refine (A1.out _).mono ?_; rintro e w' ⟨rfl, rfl⟩)
  go_ret
  exact ⟨rfl, by go_grown⟩
 ·by_cases hk2 : gk = 2
  ·subst hk2
   cases y2
   ·go_enter Tryz.func71, Tryz.ntmps71
    go_wp2_with (first | (go_at_call 89; refine (A1.out _).mono ?_; rintro e w' ⟨rfl, rfl⟩) | (go_at_call 75; refine (A2.out _).mono ?_; rintro e w' ⟨rfl, rfl⟩))
    go_ret
    exact ⟨rfl, by go_grown⟩
   ·go_enter Tryz.func71, Tryz.ntmps71
    go_wp2_with (first | (go_at_call 89; refine (A1.out _).mono ?_; rintro e w' ⟨rfl, rfl⟩) | (go_at_call 75; refine (A2.out _).mono ?_; rintro e w' ⟨rfl, rfl⟩) | (go_at_call 39; refine (A3.out _ _ (by go_simp) (by simp) rfl (by go_grown)).mono ?_; rintro e w' ⟨rfl, hbb⟩))
    go_ret
    exact ⟨zBk (by simp), Below.trans (by go_grown) (hbb.mono (by simp; omega))⟩
  ·have hk2' : (gk == 2) = false := by simp [hk2]
   have hk3 : (gk != 2) = true := by simp [hk2]
   rw [if_neg hk2]
   by_cases hl : gl = 0
   ·have hl' : (gl != 0) = false := by simp [hl]
    have hl2 : decide (gl = 0) = true := by simp [hl]
    rw [hl2]
    clear hl2 hk2 hl
    go_enter Tryz.func71, Tryz.ntmps71
    go_wp2_with (first | (go_at_call 89; refine (A1.out _).mono ?_; rintro e w' ⟨rfl, rfl⟩) | (go_at_call 39; refine (A3.out _ _ (by go_simp) (by simp) rfl (by go_grown)).mono ?_; rintro e w' ⟨rfl, hbb⟩))
    go_ret
    exact ⟨zBk (by simp), Below.trans (by go_grown) (hbb.mono (by simp; omega))⟩
   ·have hl' : (gl != 0) = true := by simp [hl]
    have hl2 : decide (gl = 0) = false := by simp [hl]
    rw [hl2]
    clear hl2 hk2 hl
    go_enter Tryz.func71, Tryz.ntmps71
    go_wp2_with (go_at_call 89; refine (A1.out _).mono ?_; rintro e w' ⟨rfl, rfl⟩)
    all_goals (go_ret; exact ⟨rfl, by go_grown⟩)

set_option maxRecDepth 100000 in
set_option maxHeartbeats 1600000 in
theorem circ_check (N : Int) (V : Value) (gs : List Gate) (w : World) (B : Nat) (hB : B ≤ w.heap.size) (hg : GatesV w B V gs) (hs : sizeOf gs ≤ 4611686018427387904) :
  Calls Tryz.prog 43 #[.agg #[.int .i64 N, V]] w fun e w' => e = .returned (.int .i64 (checkOf N gs)) ∧ Below w.heap.size w w' := by
 obtain ⟨A, c, rfl, hlc, hcm, _⟩ := id hg
 unfold maxLen at hcm
 by_cases hN : N < 0 ∨ 128 < N
 ·have e : checkOf N gs = 6 := by unfold checkOf; rw [if_pos hN]
  rw [e]
  clear e
  rcases hN with hN | hN
  all_goals
   go_enter Tryz.func43, Tryz.ntmps43
   go_wp2
   go_ret
   exact ⟨rfl, by go_grown⟩
 ·have hN0 : 0 ≤ N := by omega
  have hN1 : N ≤ 128 := by omega
  have a1 : ∀ (w1 : World), Below w.heap.size w w1 → Calls Tryz.prog 70 #[.agg #[.int .i64 N, .slice A gs.length c]] w1 fun e w' => e = .returned (.int .i64 ((sizeOf gs : Nat) : Int)) ∧ Below w1.heap.size w1 w' :=
   fun w1 hb => circ_size N _ gs w1 B (Nat.le_trans hB hb.size) (hg.below (hb.mono hB)) hs
  by_cases hlen : 4096 < gs.length
  ·have e : checkOf N gs = 2 := by unfold checkOf; rw [if_neg hN, if_pos (.inl hlen)]
   rw [e]
   clear e hN
   go_enter Tryz.func43, Tryz.ntmps43
   go_wp2
   go_ret
   exact ⟨rfl, by go_grown⟩
  ·by_cases hsz : 65536 < sizeOf gs
   ·have e : checkOf N gs = 2 := by unfold checkOf; rw [if_neg hN, if_pos (.inr hsz)]
    rw [e]
    generalize sizeOf gs = sz at *
    have A1 := Lib.hid a1
    clear e hN a1
    go_enter Tryz.func43, Tryz.ntmps43
    go_wp2_with (go_at_call 70; refine (A1.out _ (by go_grown)).mono ?_; rintro e w' ⟨rfl, hbb⟩)
    go_ret
    exact ⟨rfl, Below.trans (by go_grown) (hbb.mono (by simp))⟩
   ·by_cases h0 : gs.length = 0
    ·have e : checkOf N gs = 1 := by unfold checkOf; rw [if_neg hN, if_neg (by omega), if_pos h0]
     rw [e]
     have h0' : ((gs.length : Int) == 0) = true := by simp [h0]
     generalize sizeOf gs = sz at *
     have A1 := Lib.hid a1
     clear e hN a1
     have h9 : gs.length ≤ 0 := by omega
     clear h0
     go_enter Tryz.func43, Tryz.ntmps43
     go_wp2_with (go_at_call 70; refine (A1.out _ (by go_grown)).mono ?_; rintro e w' ⟨rfl, hbb⟩; obtain ⟨hc, hf⟩ := bcell hbb)
     go_ret
     exact ⟨rfl, Below.trans (by go_grown) (hbb.mono (by simp))⟩
    ·have e : checkOf N gs = if goodTo N gs gs.length then 0 else 1 := by unfold checkOf; rw [if_neg hN, if_neg (by omega), if_neg h0]
     rw [e]
     obtain ⟨r, hr⟩ : ∃ r, r = if goodTo N gs gs.length then (0 : Int) else 1 := ⟨_, rfl⟩
     rw [← hr]
     have HR := Lib.hid hr
     clear hr
     have h0' : ((gs.length : Int) == 0) = false := by simp [h0]
     have h9 : 0 < gs.length := by omega
     generalize sizeOf gs = sz at *
     have A1 := Lib.hid a1
     clear e hN a1 h0
     go_enter Tryz.func43, Tryz.ntmps43
     go_wp2_with (go_at_call 70; refine (A1.out _ (by go_grown)).mono ?_; rintro e w' ⟨rfl, hbb⟩; obtain ⟨hc, hf⟩ := bcell hbb; have hsz' := hbb.size)
     go_loopw [31] (fun i wr => ∃ k : Nat, k ≤ gs.length ∧ i = .int .i64 k ∧ goodTo N gs k = true ∧ Blk wr w.heap.size 33 #[.int .i64 N, .slice A gs.length c] ∧ Below w.heap.size w wr) (fun i _ => gs.length - (intOf i).toNat)
     case atStart => exact ⟨0, Nat.zero_le _, rfl, rfl, (Blk.new _ _ _).keep hbb, Below.trans (by go_grown) (hbb.mono (by simp))⟩
     case round =>
      obtain ⟨k, hk, rfl, hgo, hblk, hb⟩ := hrel
      have HGO := Lib.hid hgo
      clear hgo hc hf hsz'
      have c0 := hblk.cell 0
      have c1 := hblk.cell 1
      simp at c0 c1
      by_cases hlt : k < gs.length
      ·have gd := circ_good N _ gs k wr B (Nat.le_trans hB hb.size) (hg.below (hb.mono hB)) hlt
       have g1 := goodTo_succ N gs k
       rw [HGO.out, zEj N gs k hlt] at g1
       have hfalse := fun h => goodTo_false N gs k gs.length hlt ((zEj N gs k hlt).trans h)
       generalize goodGate N k gs[k] = y at gd g1 hfalse
       have GD := Lib.hid gd
       have G1 := Lib.hid g1
       have HFL := Lib.hid hfalse
       clear gd g1 hfalse
       cases y
       ·go_wp2_with (go_at_call 71; refine GD.out.mono ?_; rintro e w' ⟨rfl, hbb'⟩)
        go_ret
        exact ⟨by rw [HR.out, HFL.out (by simp)]; rfl, hb.trans (hbb'.mono hb.size)⟩
       ·go_wp2_with (go_at_call 71; refine GD.out.mono ?_; rintro e w' ⟨rfl, hbb'⟩)
        go_roundw
        case rel => exact ⟨k + 1, by omega, by go_num, by rw [G1.out]; rfl, hblk.keep hbb', hb.trans (hbb'.mono hb.size)⟩
        case measure => simp [intOf]; omega
      ·have e : k = gs.length := by omega
       subst e
       go_wp2
       go_ret
       exact ⟨by rw [HR.out, HGO.out]; rfl, hb⟩
end Go.Proofs.YtliiclmhpphpmaaGreatDoor
namespace Go.Proofs.YtliiclmhpphpmaaGreatDoor
open Go Go.RowKit

theorem zIo (n : Int) (h : n ≤ 0) : VS.all n = VS.empty := by
 apply VS.ext_has
 intro v h1 h2
 rw [VS.has_all, VS.has_empty]
 simp; omega
theorem all_top (n : Int) (h : 128 ≤ n) : VS.all n = VS.all 128 := by
 apply VS.ext_has
 intro v h1 h2
 rw [VS.has_all, VS.has_all]
 simp; omega
theorem all_succ (k : Nat) (h : k < 128) : VS.with_ (VS.all k) (k + 1) = VS.all ((k + 1 : Nat) : Int) := by
 apply VS.ext_has
 intro v h1 h2
 rw [VS.has_with, VS.has_all, VS.has_all, Bool.eq_iff_iff]
 simp; omega

set_option maxRecDepth 100000 in
set_option maxHeartbeats 800000 in
theorem zHx (n : Int) (w : World) (hn : n ≤ 9223372036854775807) (hn0 : -9223372036854775808 ≤ n) :
  Calls Tryz.prog 45 #[(.int .i64 (n))] w fun e w' => e = .returned (.agg #[.int .u64 ((VS.all n).a.toNat : Int), .int .u64 ((VS.all n).b.toNat : Int)]) ∧ Below w.heap.size w w' := by
 go_enter Tryz.func45, Tryz.ntmps45
 go_wp2
 go_loopw [4] (fun i wr => ∃ k : Nat, k ≤ 128 ∧ (k : Int) ≤ max n 0 ∧ i = .int .i64 (k + 1) ∧ Blk wr w.heap.size 25 #[.int .u64 0, .int .u64 0] ∧
   Blk wr (w.heap.size + 1) 25 #[.int .u64 ((VS.all k).a.toNat : Int), .int .u64 ((VS.all k).b.toNat : Int)] ∧ Below w.heap.size w wr) (fun i _ => 129 - (intOf i).toNat)
 case atStart =>
  refine ⟨0, by omega, by omega, rfl, (Blk.new _ _ _).alloc _, ?_, by go_grown⟩
  rw [show ((0 : Nat) : Int) = 0 from rfl, zIo 0 (by omega)]
  exact Blk.new_ (cs := #[.int .u64 0, .int .u64 0]) (by simp)
 case round =>
  obtain ⟨k, hk, hkn, rfl, hb0, hb1, hb⟩ := hrel
  have c0 := hb1.cell 0
  have c1 := hb1.cell 1
  have d0 := hb0.cell 0
  have d1 := hb0.cell 1
  have f0 := hb1.free 0
  have f1 := hb1.free 1
  have e0 := hb0.free 0
  have e1 := hb0.free 1
  simp at c0 c1 d0 d1
  have lt1 := hb1.lt
  have lt0 := hb0.lt
  by_cases hlt : k < 128 ∧ (k : Int) < n
  ·obtain ⟨hl1, hl2⟩ := hlt
   go_wp2_with (go_at_call 19; refine (zDq _ _ _ _).mono ?_; rintro e w' ⟨rfl, hbb⟩; obtain ⟨hc, hf⟩ := bcell hbb)
   go_roundw
   case rel =>
    refine ⟨k + 1, by omega, by omega, by go_num, (hb0.keep hbb).far (by simp) _ |>.far (by simp) _, ?_, (((hb.trans (hbb.mono hb.size)).setCell (by simp) _).setCell (by simp) _)⟩
    have := ((hb1.keep hbb).put 0 (.int .u64 ((VS.with_ (VS.all k) (k + 1)).a.toNat : Int))).put 1 (.int .u64 ((VS.with_ (VS.all k) (k + 1)).b.toNat : Int))
    rw [← all_succ k hl1]
    simpa using this
   case measure => simp [intOf]; omega
  ·by_cases hm : n ≤ 128
   all_goals
   go_wp2
   refine bodyPost_ret (v := (.agg #[.int .u64 ((VS.all k).a.toNat : Int), .int .u64 ((VS.all k).b.toNat : Int)])) (by simp [results, Tryz.results45, go_sem, d0, d1]) rfl ?_
   have e : VS.all n = VS.all k := by
    by_cases h : n ≤ 0
    ·rw [zIo n h, zIo k (by omega)]
    ·by_cases h' : 128 ≤ n
     ·rw [all_top n h', all_top k (by omega)]
     ·rw [show n = k from by omega]
   rw [e]
   exact ⟨rfl, (hb.setCell (by simp) _).setCell (by simp) _⟩
def markTo (l : List Bool) (k : Nat) : VS := VS.of fun u => decide (u < k) && l.getD u.toNat false
end Go.Proofs.YtliiclmhpphpmaaGreatDoor
namespace Go.Proofs.YtliiclmhpphpmaaGreatDoor

def inVals (g : Gate) (v : List Bool) : List Bool := g.inp.map fun k => v.getD k.toNat false
def onesOf (l : List Bool) : Nat := l.countP fun b => b
def litHolds (s : VS) (l : Int) : Bool := decide (litVar l ≠ 0) && (s.has (litVar l) == decide (0 < l))
def pickVal (v : List Bool) (l : List Int) : Bool := if v.getD (l.getD 0 0).toNat false then v.getD (l.getD 1 0).toNat false else v.getD (l.getD 2 0).toNat false
def valueOf (g : Gate) (s : VS) (v : List Bool) : Bool :=
  if g.kind = 1 then true else if g.kind = 2 then litHolds s g.lit else if g.kind = 3 then decide (onesOf (inVals g v) = 0)
  else if g.kind = 4 then decide (onesOf (inVals g v) = g.inp.length) else if g.kind = 5 then decide (0 < onesOf (inVals g v))
  else if g.kind = 6 then decide (onesOf (inVals g v) % 2 = 1) else if g.kind = 7 then decide (onesOf (inVals g v) ≠ 1)
  else if g.kind = 8 then pickVal v g.inp else false
def valsTo (gs : List Gate) (s : VS) : Nat → List Bool
  | 0 => []
  | k + 1 => valsTo gs s k ++ [match gs[k]? with | some g => valueOf g s (valsTo gs s k) | none => false]
def valOf (gs : List Gate) (s : VS) (i : Nat) : Bool := (valsTo gs s gs.length).getD i false
def evalOf (n : Int) (gs : List Gate) (s : VS) : Bool :=
  decide (checkOf n gs = 0) && s.sub (VS.all n) && valOf gs s (gs.length - 1)

theorem zC3 (gs : List Gate) (s : VS) (k : Nat) : (valsTo gs s k).length = k := by
  induction k with
  | zero => rfl
  | succ k ih => unfold valsTo; simp [ih]
theorem valsTo_take (gs : List Gate) (s : VS) (j k : Nat) (h : j ≤ k) : (valsTo gs s k).take j = valsTo gs s j := by
  induction k with
  | zero => have : j = 0 := by omega
            subst this; rfl
  | succ k ih =>
    by_cases e : j = k + 1
    · subst e; rw [List.take_of_length_le]; rw [zC3]; omega
    · have := ih (by omega)
      rw [← this]
      conv => lhs; unfold valsTo
      rw [List.take_append_of_le_length (by rw [zC3]; omega)]
theorem valsTo_getD (gs : List Gate) (s : VS) (i j k : Nat) (hj : i < j) (hk : j ≤ k) : (valsTo gs s k).getD i false = (valsTo gs s j).getD i false := by
  rw [← valsTo_take gs s j k hk, List.getD_eq_getElem?_getD, List.getD_eq_getElem?_getD, List.getElem?_take_of_lt hj]
theorem valsTo_last (gs : List Gate) (s : VS) (k : Nat) (h : k < gs.length) : (valsTo gs s (k + 1)).getD k false = valueOf gs[k] s (valsTo gs s k) := by
  conv => lhs; unfold valsTo
  rw [List.getD_eq_getElem?_getD, List.getElem?_append_right (by rw [zC3]; omega), zC3]
  simp [h]
theorem valsTo_succ (gs : List Gate) (s : VS) (k : Nat) (h : k < gs.length) : valsTo gs s (k + 1) = valsTo gs s k ++ [valueOf gs[k] s (valsTo gs s k)] := by
  conv => lhs; unfold valsTo
  simp [h]
theorem onesOf_nil : onesOf [] = 0 := rfl
theorem onesOf_snoc (l : List Bool) (b : Bool) : onesOf (l ++ [b]) = onesOf l + (if b then 1 else 0) := by
  unfold onesOf; rw [List.countP_append]; cases b <;> simp
theorem onesOf_le (l : List Bool) : onesOf l ≤ l.length := List.countP_le_length
theorem check_gate {n : Int} {gs : List Gate} (h : checkOf n gs = 0) (k : Nat) (hk : k < gs.length) : goodGate n k gs[k] = true := by
  unfold checkOf at h
  split at h
  · omega
  · split at h
    · omega
    · split at h
      · omega
      · split at h
        · rename_i hg
          rw [← zEj n gs k hk]
          exact (zE0 _ _ _).1 hg k hk
        · omega
theorem zEq {n : Int} {gs : List Gate} (h : checkOf n gs = 0) : 0 ≤ n ∧ n ≤ 128 ∧ 0 < gs.length ∧ gs.length ≤ 4096 ∧ sizeOf gs ≤ 65536 := by
  unfold checkOf at h
  split at h
  · omega
  · split at h
    · omega
    · split at h <;> omega
theorem good_in' {n i : Int} {g : Gate} (h : goodGate n i g = true) (j : Nat) (x : Int) (hx : g.inp[j]? = some x) : 0 ≤ x ∧ x < i := by
  unfold goodGate at h
  simp only [Bool.and_eq_true, List.all_eq_true] at h
  have := h.2 x (List.mem_of_getElem? hx)
  unfold inOk at this
  simpa using this
theorem good_len {n i : Int} {g : Gate} (h : goodGate n i g = true) : (g.kind = 0 ∨ g.kind = 1 ∨ g.kind = 2 → g.inp.length = 0) ∧ (g.kind = 3 → g.inp.length = 1) ∧ (g.kind = 7 → g.inp.length = 2) ∧ (g.kind = 8 → g.inp.length = 3) ∧ 0 ≤ g.kind ∧ g.kind ≤ 8 := by
  unfold goodGate at h
  simp only [Bool.and_eq_true] at h
  have h := h.1.1
  unfold allowedB at h
  split at h
  · simp at h; simp [h]; omega
  · split at h
    · simp at h; omega
    · split at h
      · simp at h; omega
      · split at h
        · simp at h; omega
        · simp at h; omega
theorem getD_take (m : List Bool) (k i : Nat) (h : i < k) : m.getD i false = (m.take k).getD i false := by
  rw [List.getD_eq_getElem?_getD, List.getD_eq_getElem?_getD, List.getElem?_take_of_lt h]
theorem valueOf_take {g : Gate} (s : VS) (m : List Bool) (k : Nat) (hin : ∀ (j : Nat) (x : Int), g.inp[j]? = some x → 0 ≤ x ∧ x < k) (h8 : g.kind = 8 → g.inp.length = 3) : valueOf g s m = valueOf g s (m.take k) := by
  have h1 : inVals g m = inVals g (m.take k) := by
    unfold inVals
    apply List.map_congr_left
    intro x hx
    obtain ⟨j, hj⟩ := List.getElem?_of_mem hx
    have := hin j x hj
    exact getD_take m k _ (by omega)
  have h2 : g.kind = 8 → pickVal m g.inp = pickVal (m.take k) g.inp := by
    intro h
    have h3 := h8 h
    have el : ∀ j, j < 3 → m.getD (g.inp.getD j 0).toNat false = (m.take k).getD (g.inp.getD j 0).toNat false := by
      intro j hj
      have hj' : j < g.inp.length := by omega
      have := hin j _ (List.getElem?_eq_getElem hj')
      rw [List.getD_eq_getElem?_getD (l := g.inp), List.getElem?_eq_getElem hj', Option.getD_some]
      exact getD_take m k _ (by omega)
    unfold pickVal
    rw [← el 0 (by omega), ← el 1 (by omega), ← el 2 (by omega)]
  unfold valueOf
  rw [h1]
  by_cases h : g.kind = 8
  · rw [h2 h]
  · simp only [if_neg h]
theorem evalOf_bad {n : Int} {gs : List Gate} (s : VS) (h : checkOf n gs ≠ 0) : evalOf n gs s = false := by
  unfold evalOf; simp [h]
theorem checkOf_cases (n : Int) (gs : List Gate) : checkOf n gs = 0 ∨ checkOf n gs = 1 ∨ checkOf n gs = 2 ∨ checkOf n gs = 6 := by
  unfold checkOf
  split
  · simp
  · split
    · simp
    · split
      · simp
      · split <;> simp
end Go.Proofs.YtliiclmhpphpmaaGreatDoor
namespace Go.Proofs.YtliiclmhpphpmaaGreatDoor
open Go Go.RowKit

set_option maxRecDepth 100000 in
set_option maxHeartbeats 1600000 in
theorem lit_Holds (a b : BitVec 64) (l : Int) (w : World) :
    Calls Tryz.prog 38 #[(.agg #[.int .u64 ((a).toNat : Int), .int .u64 ((b).toNat : Int)]), (.int .i64 (l))] w fun e w' => e = .returned (.bool (litHolds ⟨a, b⟩ l)) ∧ Below w.heap.size w w' := by
  unfold litHolds
  have hr := zDk l
  have k1 : ∀ w, Calls Tryz.prog 68 #[(.int .i64 (l))] w fun e w' => e = .returned (.int .i64 (litVar l)) ∧ w = w' := zI1 l
  have k2 : ∀ w, Calls Tryz.prog 18 #[(.agg #[.int .u64 ((a).toNat : Int), .int .u64 ((b).toNat : Int)]), (.int .i64 (litVar l))] w fun e w' => e = .returned (.bool (VS.has ⟨a, b⟩ (litVar l))) ∧ Below w.heap.size w w' := zC2 a b _
  generalize VS.has ⟨a, b⟩ (litVar l) = y at k2 ⊢
  generalize litVar l = x at k1 k2 hr ⊢
  have K1 := Lib.hid k1
  have K2 := Lib.hid k2
  clear k1 k2
  by_cases h : x = 0
  · subst h
    simp only [ne_eq, not_true_eq_false, decide_false, Bool.false_and]
    go_enter Tryz.func38, Tryz.ntmps38
    go_wp2
    go_quiet ((go_at_call 68; exact Calls.quiet_of_same ((K1.out _).mono fun _ _ h => ⟨h.1, h.2.symm⟩)))
    go_wp2
    go_ret
    exact ⟨rfl, below_drewN (by go_grown) _⟩
  · have h1 : (x != 0) = true := by simp [h]
    have h2 : decide (x ≠ 0) = true := by simp [h]
    rw [h2, Bool.true_and]
    clear h h2
    go_enter Tryz.func38, Tryz.ntmps38
    go_wp2
    have blk := Blk.new w 25 #[.int .u64 (a.toNat : Int), .int .u64 (b.toNat : Int)]
    have hw : Below w.heap.size w (w.alloc (.cells #[.int .u64 (a.toNat : Int), .int .u64 (b.toNat : Int)] 25)) := by go_grown
    generalize w.alloc (.cells #[.int .u64 (a.toNat : Int), .int .u64 (b.toNat : Int)] 25) = w1 at *
    have C0 := blk.later 0 _ rfl
    have C1 := blk.later 1 _ rfl
    have hb0 : Below w1.heap.size w1 w1.drew := (Below.refl _ _).drew
    go_region_held3 (fun w' => w'.cell? ⟨w.heap.size, 0, none⟩ = some (.int .u64 (a.toNat : Int)) ∧ w'.cell? ⟨w.heap.size, 1, none⟩ = some (.int .u64 (b.toNat : Int)) ∧ Below w1.heap.size w1 w') (go_keep)
      (first | (go_at_call 68; refine (K1.out _).mono ?_; rintro e w' ⟨rfl, rfl⟩) | (go_at_call 18; refine (kept (w1 := w1) (K2.out _) (by simp [*])).mono ?_; rintro e w' ⟨rfl, hB⟩))
    go_wp2
    go_ret
    exact ⟨rfl, hw.trans (Below.mono (by assumption) hw.size)⟩

end Go.Proofs.YtliiclmhpphpmaaGreatDoor
namespace Go.Proofs.YtliiclmhpphpmaaGreatDoor
open Go Go.RowKit

def boolCells (m : List Bool) : Array Value := (m.map Value.bool).toArray
theorem zD7 (m : List Bool) (i : Nat) (h : i < m.length) : (boolCells m)[i]? = some (.bool m[i]) := by
  unfold boolCells; simp [h]
theorem boolCells_set (m : List Bool) (i : Nat) (b : Bool) : (boolCells m).setIfInBounds i (.bool b) = boolCells (m.set i b) := by
  unfold boolCells; rw [List.setIfInBounds_toArray, List.map_set]
theorem boolCells_V {w : World} {g : Nat} {m : List Bool} (h : Blk w g 4 (boolCells m)) (hm : m.length ≤ maxLen) : BoolsV w w.heap.size (.slice (some ⟨g, 0, none⟩) m.length m.length) m := by
  refine ⟨_, _, rfl, Nat.le_refl _, hm, fun _ => ⟨g, 0, h.lt, rfl, fun i x hx => ?_⟩⟩
  obtain ⟨hi, rfl⟩ := List.getElem?_eq_some_iff.1 hx
  show w.cell? _ = _
  rw [show (0 + i * 1) = i from by omega, h.cell i, zD7 m i hi]

end Go.Proofs.YtliiclmhpphpmaaGreatDoor
namespace Go.Proofs.YtliiclmhpphpmaaGreatDoor
open Go Go.RowKit

theorem made_one (v : Value) (n : Nat) : madeCells #[v] (n * 1) = (List.replicate n v).toArray := by
 unfold madeCells
 apply Array.ext
 ·simp
 ·intro i h1 h2
  simp [Nat.mod_one]
theorem info_bool : (Tryz.prog.info? 4).map (fun i => (i.zero, i.size, i.bytes)) = some (some (.bool false), 1, 1) := by kernel_rfl
theorem mk_bools (n : Nat) (h : n ≤ 1099511627776) (w : World) : (Instr.makeSlice 89 (.int .i64 (n : Int)) (.int .i64 (n : Int))).run Tryz.prog w =
  .ok (.slice (some ⟨w.heap.size, 0, none⟩) n n) (w.alloc (.cells (boolCells (List.replicate n false)) 4)) := by
 obtain ⟨i, hi, hz, hs, hb⟩ := info_parts info_bool
 have := run_make (P := Tryz.prog) w 89 4 i _ Tryz.underlying89 hi hz .i64 .i64 n n (by omega) (by omega) (by rw [hb]; omega) (by omega)
 rw [this, hs, show Value.cells (.bool false) = #[.bool false] from rfl, Int.toNat_natCast, made_one]
 unfold boolCells
 rw [List.map_replicate]
def intCells (m : List Int) : Array Value := (m.map (Value.int .i64)).toArray
theorem inVals_take (g : Gate) (v : List Bool) (k : Nat) (hk : k < g.inp.length) : (inVals g v).take (k + 1) = (inVals g v).take k ++ [v.getD g.inp[k].toNat false] := by
 unfold inVals
 rw [List.take_succ_eq_append_getElem (by simpa using hk)]
 simp

set_option maxRecDepth 100000 in
set_option maxHeartbeats 3200000 in
theorem circ_value (g : Gate) (IV : Value) (a b : BitVec 64) (VV : Value) (v : List Bool) (w : World) (B B2 : Nat) (hB : B ≤ w.heap.size) (hB2 : B2 ≤ w.heap.size) (hi : IntsV w B IV g.inp) (hv : BoolsV w B2 VV v)
  (hin : ∀ (i : Nat) (x : Int), g.inp[i]? = some x → 0 ≤ x ∧ x < v.length) (h8 : g.kind = 8 → g.inp.length = 3) :
  Calls Tryz.prog 46 #[.agg #[.int .i64 g.kind, .int .i64 g.lit, IV], (.agg #[.int .u64 ((a).toNat : Int), .int .u64 ((b).toNat : Int)]), VV] w fun e w' => e = .returned (.bool (valueOf g ⟨a, b⟩ v)) ∧ Below w.heap.size w w' := by
 obtain ⟨gk, gl, gi⟩ := g
 simp only at hi hin h8 ⊢
 obtain ⟨A, c, rfl, hlc, hcm, _⟩ := id hi
 obtain ⟨A2, c2, rfl, hlc2, hcm2, _⟩ := id hv
 unfold maxLen at hcm hcm2
 have HIN := Lib.hid hin
 have H8 := Lib.hid h8
 clear hin h8
 obtain ⟨r, hr⟩ : ∃ r, r = valueOf ⟨gk, gl, gi⟩ ⟨a, b⟩ v := ⟨_, rfl⟩
 rw [← hr]
 have HR := Lib.hid hr
 clear hr
 have hlen : (inVals ⟨gk, gl, gi⟩ v).length = gi.length := by simp [inVals]
 have HLEN := Lib.hid hlen
 clear hlen
 have KH := Lib.hid (lit_Holds a b gl)
 go_enter Tryz.func46, Tryz.ntmps46
 go_wp2
 go_loopw [7, 13] (fun o i wr => ∃ k : Nat, k ≤ gi.length ∧ i = .int .i64 k ∧ o = .int .i64 ((onesOf ((inVals ⟨gk, gl, gi⟩ v).take k) : Nat) : Int) ∧ Blk wr w.heap.size 65 #[.int .i64 gk, .int .i64 gl, .slice A gi.length c] ∧
   Blk wr (w.heap.size + 1) 25 #[.int .u64 (a.toNat : Int), .int .u64 (b.toNat : Int)] ∧ Below w.heap.size w wr) (fun _ i _ => gi.length - (intOf i).toNat)
 case atStart => exact ⟨0, by omega, rfl, by simp [onesOf_nil], (Blk.new _ _ _).alloc _, Blk.new_ (by simp), by go_grown⟩
 case round =>
  obtain ⟨k, hk, rfl, rfl, hb0, hb1, hb⟩ := hrel
  have c0 := hb0.cell 0
  have c1 := hb0.cell 1
  have c2 := hb0.cell 2
  have d0 := hb1.cell 0
  have d1 := hb1.cell 1
  simp at c0 c1 c2 d0 d1
  have lt0 := hb0.lt
  have lt1 := hb1.lt
  have hones : onesOf ((inVals ⟨gk, gl, gi⟩ v).take k) ≤ k := Nat.le_trans (onesOf_le _) (List.length_take_le _ _)
  by_cases hlt : k < gi.length
  ·obtain ⟨b', o', rfl, hbB, hcell⟩ := hi.at_ (hb.mono hB) hlt
   have hx := HIN.out k _ (List.getElem?_eq_getElem hlt)
   have htk := inVals_take ⟨gk, gl, gi⟩ v k hlt
   simp only at htk
   generalize gi[k] = x at hcell hx htk
   obtain ⟨hx0, hx1⟩ := hx
   obtain ⟨n, rfl⟩ := Int.eq_ofNat_of_zero_le hx0
   have hn : n < v.length := by omega
   obtain ⟨b2, o2, rfl, hbB2, hcell2⟩ := hv.at_ (hb.mono hB2) hn
   rw [Int.toNat_natCast, List.getD_eq_getElem?_getD, List.getElem?_eq_getElem hn, Option.getD_some] at htk
   generalize v[n] = y at hcell2 htk
   have hon := onesOf_snoc ((inVals ⟨gk, gl, gi⟩ v).take k) y
   rw [← htk] at hon
   have HON := Lib.hid hon
   clear hon htk
   cases y
   all_goals
    go_wp2
    go_roundw
    case rel => exact ⟨k + 1, by omega, by go_num, by rw [HON.out]; simp, hb0, hb1, hb⟩
    case measure => simp [intOf]; omega
  ·have e : k = gi.length := by omega
   subst e
   have ht : (inVals ⟨gk, gl, gi⟩ v).take gi.length = inVals ⟨gk, gl, gi⟩ v := List.take_of_length_le (by rw [HLEN.out]; exact Nat.le_refl _)
   rw [ht] at hones ⊢
   clear ht
   generalize hon : onesOf (inVals ⟨gk, gl, gi⟩ v) = on at hones ⊢
   have HON := Lib.hid hon
   clear hon
   by_cases k1 : gk = 1
   ·subst k1
    go_wp2
    go_ret
    exact ⟨zBk (by rw [HR.out]; simp [valueOf]), hb⟩
   by_cases k2 : gk = 2
   ·subst k2
    go_wp2_with (go_at_call 38; refine (KH.out _).mono ?_; rintro e w' ⟨rfl, hbb⟩)
    go_ret
    exact ⟨zBk (by rw [HR.out]; simp [valueOf]), hb.trans (hbb.mono hb.size)⟩
   by_cases k3 : gk = 3
   ·subst k3
    go_wp2
    go_ret
    exact ⟨zBk (by rw [HR.out]; simp [valueOf, HON.out] <;> (rw [Bool.eq_iff_iff]; simp <;> omega)), hb⟩
   by_cases k4 : gk = 4
   ·subst k4
    go_wp2
    go_ret
    exact ⟨zBk (by rw [HR.out]; simp [valueOf, HON.out] <;> (rw [Bool.eq_iff_iff]; simp <;> omega)), hb⟩
   by_cases k5 : gk = 5
   ·subst k5
    go_wp2
    go_ret
    exact ⟨zBk (by rw [HR.out]; simp [valueOf, HON.out] <;> (rw [Bool.eq_iff_iff]; simp <;> omega)), hb⟩
   by_cases k6 : gk = 6
   ·subst k6
    go_wp2
    go_ret
    exact ⟨zBk (by rw [HR.out]; simp [valueOf, HON.out] <;> (rw [Bool.eq_iff_iff]; simp <;> omega)), hb⟩
   by_cases k7 : gk = 7
   ·subst k7
    go_wp2
    go_ret
    exact ⟨zBk (by rw [HR.out]; simp [valueOf, HON.out] <;> (rw [Bool.eq_iff_iff]; simp <;> omega)), hb⟩
   by_cases k8 : gk = 8
   ·subst k8
    have h3 : gi.length = 3 := H8.out rfl
    have el : ∀ j : Nat, j < 3 → ∃ n : Nat, gi[j]? = some (n : Int) ∧ n < v.length := fun j hj => by
     have hj' : j < gi.length := by omega
     have hx := HIN.out j _ (List.getElem?_eq_getElem hj')
     refine ⟨gi[j].toNat, ?_, by omega⟩
     rw [List.getElem?_eq_getElem hj', Int.toNat_of_nonneg hx.1]
    obtain ⟨n0, e0, l0⟩ := el 0 (by omega)
    obtain ⟨n1, e1, l1⟩ := el 1 (by omega)
    obtain ⟨n2, e2, l2⟩ := el 2 (by omega)
    obtain ⟨b', o', rfl, hbB, q0⟩ := hi.at_ (k := 0) (hb.mono hB) (by omega)
    obtain ⟨_, _, ee, _, q1⟩ := hi.at_ (k := 1) (hb.mono hB) (by omega)
    injection ee with ee; injection ee with ee1 ee2; subst ee1 ee2
    obtain ⟨_, _, ee, _, q2⟩ := hi.at_ (k := 2) (hb.mono hB) (by omega)
    injection ee with ee; injection ee with ee1 ee2; subst ee1 ee2
    obtain ⟨b2, o2, rfl, hbB2, r0⟩ := hv.at_ (hb.mono hB2) l0
    obtain ⟨_, _, ee, _, r1⟩ := hv.at_ (hb.mono hB2) l1
    injection ee with ee; injection ee with ee1 ee2; subst ee1 ee2
    obtain ⟨_, _, ee, _, r2⟩ := hv.at_ (hb.mono hB2) l2
    injection ee with ee; injection ee with ee1 ee2; subst ee1 ee2
    have f0 : gi[0] = (n0 : Int) := by rw [List.getElem?_eq_getElem (by omega)] at e0; injection e0
    have f1 : gi[1] = (n1 : Int) := by rw [List.getElem?_eq_getElem (by omega)] at e1; injection e1
    have f2 : gi[2] = (n2 : Int) := by rw [List.getElem?_eq_getElem (by omega)] at e2; injection e2
    rw [f0] at q0
    rw [f1] at q1
    rw [f2] at q2
    simp only [Nat.add_zero] at q0
    have hval : valueOf ⟨8, gl, gi⟩ ⟨a, b⟩ v = if v[n0] then v[n1] else v[n2] := by
     simp only [valueOf, pickVal, List.getD_eq_getElem?_getD, e0, e1, e2, Option.getD_some, Int.toNat_natCast, List.getElem?_eq_getElem l0, List.getElem?_eq_getElem l1, List.getElem?_eq_getElem l2]
     rfl
    rw [hval] at HR
    have h3' : 3 ≤ gi.length := by omega
    clear hval e0 e1 e2 f0 f1 f2 el h3
    generalize v[n0] = y0 at *
    generalize v[n1] = y1 at *
    generalize v[n2] = y2 at *
    cases y0
    all_goals
     go_wp2
     go_ret
     exact ⟨zBk (by rw [HR.out]; rfl), hb⟩
   ·go_wp2
    go_ret
    exact ⟨zBk (by rw [HR.out]; simp [valueOf, k1, k2, k3, k4, k5, k6, k7, k8]), hb⟩

set_option maxRecDepth 100000 in
set_option maxHeartbeats 3200000 in
theorem circ_eval (N : Int) (V : Value) (gs : List Gate) (a b : BitVec 64) (w : World) (B : Nat) (hB : B ≤ w.heap.size) (hg : GatesV w B V gs) (hs : sizeOf gs ≤ 4611686018427387904) (hN : -9223372036854775808 ≤ N) (hN' : N ≤ 9223372036854775807) :
  Calls Tryz.prog 14 #[.agg #[.int .i64 N, V], (.agg #[.int .u64 ((a).toNat : Int), .int .u64 ((b).toNat : Int)])] w fun e w' => e = .returned (.bool (evalOf N gs ⟨a, b⟩)) ∧ Below w.heap.size w w' := by
 obtain ⟨A, c, rfl, hlc, hcm, _⟩ := id hg
 unfold maxLen at hcm
 obtain ⟨r, hr⟩ : ∃ r, r = evalOf N gs ⟨a, b⟩ := ⟨_, rfl⟩
 rw [← hr]
 have HR := Lib.hid hr
 clear hr
 have k1 : ∀ W, Below w.heap.size w W → Calls Tryz.prog 43 #[.agg #[.int .i64 N, .slice A gs.length c]] W fun e w' => e = .returned (.int .i64 (checkOf N gs)) ∧ Below W.heap.size W w' :=
  fun W hW => circ_check N _ gs W B (Nat.le_trans hB hW.size) (hg.below (hW.mono hB)) hs
 obtain ⟨ck, hck⟩ : ∃ ck, ck = checkOf N gs := ⟨_, rfl⟩
 rw [← hck] at k1
 have HCK := Lib.hid hck
 have K1 := Lib.hid k1
 clear hck k1
 have K2 := Lib.hid (fun W => zHx N W hN' hN)
 have k3 : ∀ W, Calls Tryz.prog 44 #[(.agg #[.int .u64 ((a).toNat : Int), .int .u64 ((b).toNat : Int)]), (.agg #[.int .u64 ((VS.all N).a.toNat : Int), .int .u64 ((VS.all N).b.toNat : Int)])] W fun e w' => e = .returned (.bool (VS.sub ⟨a, b⟩ (VS.all N))) ∧ Below W.heap.size W w' := fun W => vars_sub a b _ _ W
 obtain ⟨sb, hsb⟩ : ∃ sb, sb = VS.sub ⟨a, b⟩ (VS.all N) := ⟨_, rfl⟩
 rw [← hsb] at k3
 have HSB := Lib.hid hsb
 have K3 := Lib.hid k3
 clear hsb k3
 by_cases h0 : ck = 0
 ·subst h0
  go_enter Tryz.func14, Tryz.ntmps14
  go_wp2
  have blk0 : Blk ((w.alloc (.cells #[.int .i64 N, .slice A gs.length c] 33)).alloc (.cells #[.int .u64 (a.toNat : Int), .int .u64 (b.toNat : Int)] 25)) w.heap.size 33 #[.int .i64 N, .slice A gs.length c] := (Blk.new w _ _).alloc _
  have blk1 : Blk ((w.alloc (.cells #[.int .i64 N, .slice A gs.length c] 33)).alloc (.cells #[.int .u64 (a.toNat : Int), .int .u64 (b.toNat : Int)] 25)) (w.heap.size + 1) 25 #[.int .u64 (a.toNat : Int), .int .u64 (b.toNat : Int)] := Blk.new_ (by simp)
  have hw : Below w.heap.size w ((w.alloc (.cells #[.int .i64 N, .slice A gs.length c] 33)).alloc (.cells #[.int .u64 (a.toNat : Int), .int .u64 (b.toNat : Int)] 25)) := by go_grown
  generalize (w.alloc (.cells #[.int .i64 N, .slice A gs.length c] 33)).alloc (.cells #[.int .u64 (a.toNat : Int), .int .u64 (b.toNat : Int)] 25) = w1 at *
  have C0 := blk0.later 0 _ rfl
  have C1 := blk0.later 1 _ rfl
  have D0 := blk1.later 0 _ rfl
  have D1 := blk1.later 1 _ rfl
  have hb0 : Below w1.heap.size w1 w1.drew := (Below.refl _ _).drew
  have k1' : ∀ W, Below w1.heap.size w1 W → Calls Tryz.prog 43 #[.agg #[.int .i64 N, .slice A gs.length c]] W fun e w' => e = .returned (.int .i64 0) ∧ Below w1.heap.size w1 w' :=
   fun W hW => kept (K1.out W (hw.trans (hW.mono hw.size))) hW
  have K1' := Lib.hid k1'
  clear k1' K1
  go_region_held3 (fun w' => w'.cell? ⟨w.heap.size, 0, none⟩ = some (.int .i64 N) ∧ w'.cell? ⟨w.heap.size, 1, none⟩ = some (.slice A gs.length c) ∧ w'.cell? ⟨w.heap.size + 1, 0, none⟩ = some (.int .u64 (a.toNat : Int)) ∧ w'.cell? ⟨w.heap.size + 1, 1, none⟩ = some (.int .u64 (b.toNat : Int)) ∧ Below w1.heap.size w1 w') (go_keep)
   (first | (go_at_call 43; refine (K1'.out _ (by simp [*])).mono ?_; rintro e w' ⟨rfl, hB'⟩) | (go_at_call 45; refine (kept (w1 := w1) (K2.out _) (by simp [*])).mono ?_; rintro e w' ⟨rfl, hB'⟩) | (go_at_call 44; refine (kept (w1 := w1) (K3.out _) (by simp [*])).mono ?_; rintro e w' ⟨rfl, hB'⟩))
  cases sb
  ·go_wp2
   go_ret
   exact ⟨zBk (by rw [HR.out]; unfold evalOf; rw [← HSB.out]; simp), hw.trans (hB'.mono hw.size)⟩
  ·have b0 := blk0.keep hB'
   have b1 := blk1.keep hB'
   have hB2 := hw.trans (hB'.mono hw.size)
   have hlen : gs.length ≤ 4096 := (zEq HCK.out.symm).2.2.2.1
   have hpos : 0 < gs.length := (zEq HCK.out.symm).2.2.1
   have hmk := mk_bools gs.length (by omega)
   have s0 := C0 _ hB'
   have s1 := C1 _ hB'
   have s2 := D0 _ hB'
   have s3 := D1 _ hB'
   clear C0 C1 D0 D1 hb0 blk0 blk1
   generalize w' = w2 at *
   have l0 := b0.lt
   have l1 := b1.lt
   go_wp2
   go_loopw [26] (fun i wr => ∃ (k : Nat) (m : List Bool), k ≤ gs.length ∧ i = .int .i64 k ∧ Blk wr w.heap.size 33 #[.int .i64 N, .slice A gs.length c] ∧ Blk wr (w.heap.size + 1) 25 #[.int .u64 (a.toNat : Int), .int .u64 (b.toNat : Int)] ∧
     Blk wr w2.heap.size 4 (boolCells m) ∧ m.length = gs.length ∧ m.take k = valsTo gs ⟨a, b⟩ k ∧ Below w.heap.size w wr) (fun i _ => gs.length - (intOf i).toNat)
   case atStart =>
    exact ⟨0, List.replicate gs.length false, by omega, rfl, b0.alloc _, b1.alloc _, Blk.new _ _ _, by simp, by simp [valsTo], hB2.alloc (by omega) _⟩
   case round =>
    obtain ⟨k, m, hk, rfl, hb0, hb1, hbm, hm, hmk', hb⟩ := hrel
    have HM := Lib.hid hm
    have hm1 : m.length ≤ gs.length := by omega
    have hm2 : gs.length ≤ m.length := by omega
    have HK := Lib.hid hmk'
    clear hm hmk' s0 s1 s2 s3 b0 b1 hB'
    have d0 := hb1.cell 0
    have d1 := hb1.cell 1
    simp at d0 d1
    have lt0 := hb0.lt
    have lt1 := hb1.lt
    have ltm := hbm.lt
    by_cases hlt : k < gs.length
    ·have hgood := check_gate HCK.out.symm k hlt
     obtain ⟨bb, oo, A', c', rfl, hbB, h0, h1, h2, hI, hnc, hcm'⟩ := hg.at_ (hb.mono hB) hlt
     have hbl : bb < wr.heap.size := by have := hb.size; omega
     have hV := boolCells_V hbm (by unfold maxLen; omega)
     have hsucc := valsTo_succ gs ⟨a, b⟩ k hlt
     have hval := valueOf_take ⟨a, b⟩ m k (good_in' hgood) (good_len hgood).2.2.2.1
     rw [HK.out] at hval
     have kv : ∀ W, Below wr.heap.size wr W → Calls Tryz.prog 46 #[.agg #[.int .i64 gs[k].kind, .int .i64 gs[k].lit, .slice A' gs[k].inp.length c'], (.agg #[.int .u64 ((a).toNat : Int), .int .u64 ((b).toNat : Int)]), .slice (some ⟨w2.heap.size, 0, none⟩) gs.length gs.length] W fun e w' => e = .returned (.bool (valueOf gs[k] ⟨a, b⟩ m)) ∧ Below W.heap.size W w' :=
      fun W hW => circ_value gs[k] _ a b _ m W B wr.heap.size (by have := hb.size; have := hW.size; omega) hW.size (hI.below (hW.mono (by have := hb.size; omega))) (by rw [HM.out] at hV; exact hV.below hW)
       (fun j x hx => by have := good_in' hgood j x hx; omega) (good_len hgood).2.2.2.1
     rw [hval] at kv
     generalize valueOf gs[k] ⟨a, b⟩ (valsTo gs ⟨a, b⟩ k) = y at kv hsucc
     generalize gs[k] = g at h0 h1 h2 kv
     have KV := Lib.hid kv
     have HSU := Lib.hid hsucc
     clear kv hsucc hval hgood hI hV
     have hkm : k < m.length := by omega
     have cx := hbm.cell k
     have fx := hbm.free k
     rw [zD7 m k hkm] at cx
     go_wp2_with (go_at_call 46; refine (KV.out _ (by go_grown)).mono ?_; rintro e w' ⟨rfl, hbb⟩; obtain ⟨hc, hf⟩ := bcell hbb; have hsz := hbb.size)
     go_roundw
     case rel =>
      have hbb' : Below wr.heap.size wr w' := Below.trans (by go_grown) (hbb.mono (by simp))
      refine ⟨_, _, _, _, _, _, _, _, _, _, _, _, _, _, _, ⟨k + 1, m.set k y, by omega, by go_num, (hb0.keep hbb').far (by simp <;> omega) _, (hb1.keep hbb').far (by simp <;> omega) _, by rw [← boolCells_set]; exact (hbm.keep hbb').put _ _, by simp; exact HM.out, ?_, (hb.trans (hbb'.mono hb.size)).setCell (by simp <;> omega) _⟩, rfl⟩
      rw [HSU.out, ← HK.out, List.take_succ_eq_append_getElem (by simp; omega), List.take_set_of_le (Nat.le_refl _)]
      simp
     case measure => simp [intOf]; omega
    ·have e : k = gs.length := by omega
     subst e
     have hkm : gs.length - 1 < m.length := by omega
     have cx := hbm.cell (gs.length - 1)
     rw [zD7 m _ hkm] at cx
     have hres : r = m[gs.length - 1] := by
      rw [HR.out]
      unfold evalOf valOf
      rw [← HCK.out, ← HSB.out, ← HK.out, List.take_of_length_le (by omega), List.getD_eq_getElem?_getD, List.getElem?_eq_getElem hkm]
      simp
     have HRES := Lib.hid hres
     clear hres
     generalize m[gs.length - 1] = y at cx HRES
     have hix : ((gs.length : Int) - 1).toNat = gs.length - 1 := by omega
     go_wp2
     go_ret
     exact ⟨zBk HRES.out.symm, hb⟩
 ·have HF := Lib.hid (evalOf_bad ⟨a, b⟩ (by rw [← HCK.out]; exact h0))
  have hc := checkOf_cases N gs
  rw [← HCK.out] at hc
  clear HCK
  rcases hc with hc | hc | hc | hc
  ·exact absurd hc h0
  all_goals
   subst hc
   clear h0
   go_enter Tryz.func14, Tryz.ntmps14
   go_wp2
   first | go_region_with (go_at_call 43; refine (K1.out _ (by go_grown)).mono ?_; rintro e w' ⟨rfl, hB'⟩) | fail
   all_goals
    go_wp2
    go_ret
    exact ⟨zBk (by rw [HR.out, HF.out]), Below.trans (by go_grown) (hB'.mono (by simp <;> omega))⟩
end Go.Proofs.YtliiclmhpphpmaaGreatDoor
namespace Go.Proofs.YtliiclmhpphpmaaGreatDoor
open Go Go.RowKit

theorem zGp {w : World} {base : Nat} {e : TypeId} {size : Nat} {v : Value} {n : Nat} {xs : List Value} (h : w.ownsRow base e size v n xs) : ∃ A c, v = .slice A n c := by
 rcases h.2 with ⟨rfl, rfl⟩ | ⟨g, cap, cur, rfl, _⟩
 ·exact ⟨none, 0, rfl⟩
 ·exact ⟨_, _, rfl⟩
section
variable {P : Program}
end

def OwnInts (w : World) (base : Nat) (v : Value) (l : List Int) : Prop := w.ownsRow base 3 1 v l.length (l.map (Value.int .i64))
end Go.Proofs.YtliiclmhpphpmaaGreatDoor
namespace Go.Proofs.YtliiclmhpphpmaaGreatDoor
open Go
section
variable {P : Program} {ops : Array Oper} {Q : Exit → Act → World → Prop} {md : Region.Mode} {S : World → Prop} {k : Nat}

def AnyT (P : Program) (md : Region.Mode) (ops : Array Oper) (Q : Exit → Act → World → Prop) (S : World → Prop) (k : Nat) : Nat → Array Bool → Act → World → Prop
 | 0, listed, a, w => Region.ready md ops listed = [] ∧ Q .normal a w
 | fuel + 1, listed, a, w => (Region.ready md ops listed = [] → Q .normal a w) ∧ ∀ i ∈ Region.ready md ops listed, wpOp P ops Q i (fun a' w' => ((listed.setIfInBounds i true).getD k false = false → S w') ∧ AnyT P md ops Q S k fuel (listed.setIfInBounds i true) a' w') a w
theorem AnyT.any : ∀ (fuel : Nat) (listed : Array Bool) (a : Act) (w : World), AnyT P md ops Q S k fuel listed a w → wpAny P md ops Q fuel listed a w
 | 0, _, _, _, h => h
 | fuel + 1, _, _, _, h => ⟨h.1, fun i hi => wpOp_mono (fun a' w' h' => AnyT.any fuel _ a' w' h'.2) (h.2 i hi)⟩
def waitB (md : Region.Mode) (ops : Array Oper) (k i : Nat) : Bool := match ops[k]? with | some o => o.after.toList.any (fun e => Region.binds md e && e.on == i) | none => true
theorem waitB_spec {i j : Nat} {o : Oper} (h : waitB md ops k i = true) (hj : ops[j]? = some o) (hno : ∀ e ∈ o.after, Region.binds md e = true → e.on ≠ i) : j ≠ k := by
 rintro rfl
 unfold waitB at h
 rw [hj] at h
 simp only [List.any_eq_true, Bool.and_eq_true, beq_iff_eq] at h
 obtain ⟨e, he, h2, h3⟩ := h
 exact hno e (by simpa using he) h2 h3
theorem zDm {listed : Array Bool} {i : Nat} (h : i ≠ k) : (listed.setIfInBounds i true).getD k false = listed.getD k false := getD_set_ne false h
theorem getD_set_open {listed : Array Bool} {i : Nat} (h : (listed.setIfInBounds i true).getD k false = false) : listed.getD k false = false := by
 by_cases e : i = k
 ·subst e
  simp only [Array.getD_eq_getD_getElem?, Array.getElem?_setIfInBounds] at h ⊢
  by_cases hi : i < listed.size
  ·simp [hi] at h
  ·simp [hi]
 ·rwa [zDm e] at h
theorem AnyT.first {i : Nat} {oi : Oper} {v : Value} {S' : World → Prop} (hi : ops[i]? = some oi) (hsel : ∀ (j : Nat) (o : Oper) cs b, ops[j]? = some o → o.op ≠ .select cs b) (hQ : ∀ c a w, Q (.panic c) (a.put oi.dst v) w → Q (.panic c) a w)
  (hik : i ≠ k) :
  ∀ (fuel : Nat) (listed : Array Bool) (a : Act) (w : World), (∀ j oj, ops[j]? = some oj → j ≠ i → listed.getD j true = false → (∀ e ∈ oj.after, Region.binds md e = true → e.on ≠ i) → oi.apart ops oj = true) →
   i ∈ Region.ready md ops listed → YieldsIf P ops S' oi v a → (listed.getD k false = false → S w) → (S' = fun _ => True) ∨ (waitB md ops k i = true ∧ S' = S ∧ listed.getD k false = false) →
   AnyT P md ops Q S k fuel (listed.setIfInBounds i true) (a.put oi.dst v) w → AnyT P md ops Q S k (fuel + 1) listed a w
 | fuel, listed, a, w, hfree, hr, hy, hS, hop, H => by
  have hSw : S' w := by
   rcases hop with h | h
   ·rw [h]; trivial
   ·rw [h.2.1]; exact hS h.2.2
  refine ⟨fun h => (by rw [h] at hr; cases hr), fun j hj => ?_⟩
  by_cases hji : j = i
  ·subst hji; exact hy.wpOp hi hSw ⟨fun ho => hS (getD_set_open ho), H⟩
  ·obtain ⟨hjun, oj, hoj, hall⟩ := mem_ready.1 hj
   have hnot : ∀ e ∈ oj.after, Region.binds md e = true → e.on ≠ i := fun e he hb heq => by
    have h1 := hall e he hb
    have h0 := (mem_ready.1 hr).1
    rw [heq] at h1
    rcases Nat.lt_or_ge i listed.size with h' | h'
    ·simp [h'] at h0 h1; rw [h0] at h1; cases h1
    ·simp [Array.getElem?_eq_none h'] at h1
   cases fuel with
   | zero =>
    have := ready_mono hj hji
    rw [H.1] at this
    cases this
   | succ fuel =>
    have h1 := H.2 j (ready_mono hj hji)
    have h2 := wpOp_putIf hoj (hfree j oj hoj hji hjun hnot) (fun cs b => hsel i oi cs b hi) (fun cs b => hsel j oj cs b hoj) hQ hy h1
    refine wpOp_mono (fun a' w' h3 => ?_) h2
    have hcomm : (listed.setIfInBounds i true).setIfInBounds j true = (listed.setIfInBounds j true).setIfInBounds i true := Array.setIfInBounds_comm _ _ (Ne.symm hji)
    have hSj : (listed.setIfInBounds j true).getD k false = false → S w' := fun ho => h3.2.1 (by rw [hcomm, zDm hik]; exact ho)
    refine ⟨hSj, AnyT.first hi hsel hQ hik fuel (listed.setIfInBounds j true) a' w' (fun n on hn hni hun hno => ?_) (ready_mono hr (Ne.symm hji)) h3.1 hSj ?_ ?_⟩
    ·refine hfree n on hn hni ?_ hno
     by_cases hjn : j = n
     ·subst hjn; exact hjun
     ·rw [getD_set_ne true hjn] at hun; exact hun
    ·rcases hop with h | h
     ·exact .inl h
     ·exact .inr ⟨h.1, h.2.1, by rw [zDm (waitB_spec h.1 hoj hnot)]; exact h.2.2⟩
    ·rw [← hcomm]
     exact h3.2.2
theorem anyT_take {i : Nat} {oi : Oper} {v : Value} {fuel : Nat} {listed : Array Bool} {a : Act} {w : World} (hi : ops[i]? = some oi) (hs : Region.noSelect ops = true) (hf : Region.free md ops listed i = true) (hr : (Region.ready md ops listed).contains i = true)
  (hw : (waitB md ops k i && !(listed.getD k false) && (i != k)) = true) (hQ : ∀ c a w, Q (.panic c) (a.put oi.dst v) w → Q (.panic c) a w) (hy : YieldsIf P ops S oi v a) (hS : S w) (h : AnyT P md ops Q S k fuel (listed.setIfInBounds i true) (a.put oi.dst v) w) : AnyT P md ops Q S k (fuel + 1) listed a w := by
 simp only [Bool.and_eq_true, Bool.not_eq_true', bne_iff_ne] at hw
 exact AnyT.first hi (Region.noSelect_spec hs) hQ hw.2 fuel listed a w (Region.free_spec hi hf) (by simpa using hr) hy (fun _ => hS) (.inr ⟨hw.1.1, rfl, hw.1.2⟩) h
theorem anyT_takeY {i : Nat} {oi : Oper} {v : Value} {fuel : Nat} {listed : Array Bool} {a : Act} {w : World} (hi : ops[i]? = some oi) (hs : Region.noSelect ops = true) (hf : Region.free md ops listed i = true) (hr : (Region.ready md ops listed).contains i = true)
  (hw : (i != k) = true) (hQ : ∀ c a w, Q (.panic c) (a.put oi.dst v) w → Q (.panic c) a w) (hy : YieldsIf P ops (fun _ => True) oi v a) (hS : listed.getD k false = false → S w) (h : AnyT P md ops Q S k fuel (listed.setIfInBounds i true) (a.put oi.dst v) w) : AnyT P md ops Q S k (fuel + 1) listed a w := by
 exact AnyT.first hi (Region.noSelect_spec hs) hQ (by simpa using hw) fuel listed a w (Region.free_spec hi hf) (by simpa using hr) hy hS (.inl rfl) h
theorem anyT_one {i : Nat} {o : Oper} {fuel : Nat} {listed : Array Bool} {a : Act} {w : World} (hr : Region.ready md ops listed = [i]) (ho : ops[i]? = some o)
  (h : ∀ K' : Act → World → Prop, Shut (∀ a w, ((listed.setIfInBounds i true).getD k false = false → S w) → (((listed.setIfInBounds i true).getD k false = false → S w) → AnyT P md ops Q S k fuel (listed.setIfInBounds i true) a w) → K' a w) → if Region.wanted o (yielded ops a.tmps) = true then Oper.wp P o a w K' Q else K' (a.put o.dst undef) w) :
  AnyT P md ops Q S k (fuel + 1) listed a w :=
 ⟨fun h0 => (by rw [hr] at h0; cases h0), fun j hj => by
  rw [hr] at hj
  obtain rfl : j = i := by simpa using hj
  exact wpOp_step ho (fun K' hK => h K' (fun a w hS hW => hK a w ⟨hS, hW hS⟩))⟩
theorem anyT_done {listed : Array Bool} {a : Act} {w : World} (hr : Region.ready md ops listed = []) (h : Q .normal a w) : ∀ fuel, AnyT P md ops Q S k fuel listed a w
 | 0 => ⟨hr, h⟩
 | _ + 1 => ⟨fun _ => h, by rw [hr]; simp⟩
theorem region_T {id : Nat} {a : Act} {w : World} (hm : P.follows .mixedOrders = true) (S : World → Prop) (k : Nat) (hS : S w.drew) (h : S w.drew → AnyT P .any ops Q S k ops.size (Array.replicate ops.size false) a w.drew) : (Code.region id ops true).wp P Q a w :=
 wp_region_any hm (AnyT.any _ _ _ _ (h hS))
end
end Go.Proofs.YtliiclmhpphpmaaGreatDoor

namespace Go.Proofs.YtliiclmhpphpmaaGreatDoor
open Go
section
variable {P : Program} {ops : Array Oper} {Q : Exit → Act → World → Prop} {md : Region.Mode} {S : World → Prop} {k : Nat}

def lexT (md : Region.Mode) (ops : Array Oper) (k : Nat) : List (Nat × Nat) → Array Bool → Bool
 | [], listed => (Region.ready md ops listed).isEmpty
 | (i, 0) :: r, listed => (Region.ready md ops listed).contains i && Region.free md ops listed i && (waitB md ops k i && !(listed.getD k false) && (i != k)) && lexT md ops k r (listed.setIfInBounds i true)
 | (i, 1) :: r, listed => (Region.ready md ops listed).contains i && Region.free md ops listed i && (i != k) && lexT md ops k r (listed.setIfInBounds i true)
 | (i, 2) :: r, listed => (Region.ready md ops listed == [i]) && !((listed.setIfInBounds i true).getD k false) && lexT md ops k r (listed.setIfInBounds i true)
 | (i, _) :: r, listed => (Region.ready md ops listed == [i]) && (listed.setIfInBounds i true).getD k false && lexT md ops k r (listed.setIfInBounds i true)
def wpT (P : Program) (ops : Array Oper) (Q : Exit → Act → World → Prop) (S : World → Prop) : List (Nat × Nat) → Act → World → Prop
 | [], a, w => Q .normal a w
 | (i, 0) :: r, a, w => ∃ o v, ops[i]? = some o ∧ YieldsIf P ops S o v a ∧ wpT P ops Q S r (a.put o.dst v) w
 | (i, 1) :: r, a, w => ∃ o v, ops[i]? = some o ∧ YieldsIf P ops (fun _ => True) o v a ∧ wpT P ops Q S r (a.put o.dst v) w
 | (i, 2) :: r, a, w => ∃ o, ops[i]? = some o ∧ ∀ K : Act → World → Prop, Shut (∀ a w, S w → (S w → wpT P ops Q S r a w) → K a w) → if Region.wanted o (yielded ops a.tmps) = true then Oper.wp P o a w K Q else K (a.put o.dst undef) w
 | (i, _) :: r, a, w => ∃ o, ops[i]? = some o ∧ ∀ K : Act → World → Prop, Shut (∀ a w, wpT P ops Q S r a w → K a w) → if Region.wanted o (yielded ops a.tmps) = true then Oper.wp P o a w K Q else K (a.put o.dst undef) w
theorem zDg (hs : Region.noSelect ops = true) (hQ : ∀ c a t v w, Q (.panic c) (a.put t v) w → Q (.panic c) a w) :
  ∀ (r : List (Nat × Nat)) (listed : Array Bool) (a : Act) (w : World), lexT md ops k r listed = true → (listed.getD k false = false → S w) → wpT P ops Q S r a w → AnyT P md ops Q S k r.length listed a w
 | [], listed, a, w, hl, _, h => ⟨by simpa [lexT] using hl, h⟩
 | (i, 0) :: r, listed, a, w, hl, hS, h => by
  simp only [lexT, Bool.and_eq_true] at hl
  obtain ⟨⟨⟨h1, h2⟩, h3⟩, h4⟩ := hl
  obtain ⟨o, v, ho, hy, h⟩ := h
  have hk : listed.getD k false = false := by simpa using h3.1.2
  exact anyT_take ho hs h2 h1 (by simp only [Bool.and_eq_true]; exact h3) (fun c a w => hQ c a _ _ w) hy (hS hk)
   (zDg hs hQ r _ _ _ h4 (fun _ => hS hk) h)
 | (i, 1) :: r, listed, a, w, hl, hS, h => by
  simp only [lexT, Bool.and_eq_true] at hl
  obtain ⟨⟨⟨h1, h2⟩, h3⟩, h4⟩ := hl
  obtain ⟨o, v, ho, hy, h⟩ := h
  exact anyT_takeY ho hs h2 h1 h3 (fun c a w => hQ c a _ _ w) hy hS
   (zDg hs hQ r _ _ _ h4 (fun h => hS (getD_set_open h)) h)
 | (i, 2) :: r, listed, a, w, hl, hS, h => by
  simp only [lexT, Bool.and_eq_true] at hl
  obtain ⟨⟨h1, h2⟩, h4⟩ := hl
  obtain ⟨o, ho, h⟩ := h
  have hk : (listed.setIfInBounds i true).getD k false = false := by simpa using h2
  refine anyT_one (by simpa using h1) ho (fun K hK => ?_)
  exact h K (fun a w hSw hW => hK a w (fun _ => hSw) (fun _ => zDg hs hQ r _ _ _ h4 (fun _ => hSw) (hW hSw)))
 | (i, n + 3) :: r, listed, a, w, hl, hS, h => by
  simp only [lexT, Bool.and_eq_true] at hl
  obtain ⟨⟨h1, h2⟩, h4⟩ := hl
  obtain ⟨o, ho, h⟩ := h
  have hk : ¬ (listed.setIfInBounds i true).getD k false = false := by simp [h2]
  refine anyT_one (by simpa using h1) ho (fun K hK => ?_)
  exact h K (fun a w hW => hK a w (fun h => absurd h hk) (fun _ => zDg hs hQ r _ _ _ h4 (fun h => absurd h hk) hW))
theorem region_L {id : Nat} {a : Act} {w : World} (S : World → Prop) (k : Nat) (r : List (Nat × Nat)) (hm : P.follows .mixedOrders = true) (hs : (Region.noSelect ops && (r.length == ops.size) && lexT .any ops k r (Array.replicate ops.size false)) = true)
  (hQ : ∀ c a t v w, Q (.panic c) (a.put t v) w → Q (.panic c) a w) (hS : S w.drew) (h : S w.drew → wpT P ops Q S r a w.drew) : (Code.region id ops true).wp P Q a w := by
 simp only [Bool.and_eq_true, beq_iff_eq] at hs
 obtain ⟨⟨h1, h2⟩, h3⟩ := hs
 refine region_T hm S k hS (fun hS => ?_)
 rw [← h2]
 have := zDg h1 hQ r _ a _ h3 (fun _ => hS) (h hS)
 rwa [h2] at this ⊢
def lexU (md : Region.Mode) (ops : Array Oper) (k : Nat) (fin : Array Bool → Bool) : List (Nat × Nat) → Array Bool → Bool
 | [], listed => fin listed
 | (i, 0) :: r, listed => (Region.ready md ops listed).contains i && Region.free md ops listed i && (waitB md ops k i && !(listed.getD k false) && (i != k)) && lexU md ops k fin r (listed.setIfInBounds i true)
 | (i, 1) :: r, listed => (Region.ready md ops listed).contains i && Region.free md ops listed i && (i != k) && lexU md ops k fin r (listed.setIfInBounds i true)
 | (i, 2) :: r, listed => (Region.ready md ops listed == [i]) && !((listed.setIfInBounds i true).getD k false) && lexU md ops k fin r (listed.setIfInBounds i true)
 | (i, _) :: r, listed => (Region.ready md ops listed == [i]) && (listed.setIfInBounds i true).getD k false && lexU md ops k fin r (listed.setIfInBounds i true)
def forkB (md : Region.Mode) (ops : Array Oper) (k : Nat) (i j : Nat) (r s : List (Nat × Nat)) (listed : Array Bool) : Bool :=
 (Region.ready md ops listed == [i, j]) && (i != j) && !((listed.setIfInBounds i true).getD k false) && !((listed.setIfInBounds j true).getD k false) && (s.length == r.length) && lexT md ops k r (listed.setIfInBounds i true) && lexT md ops k s (listed.setIfInBounds j true)
section
variable {i : Nat} {r : List (Nat × Nat)} {a : Act} {w : World} {o : Oper} {v : Value}
theorem t0 (ho : ops[i]? = some o) (hy : YieldsIf P ops S o v a) (h : wpT P ops Q S r (a.put o.dst v) w) : wpT P ops Q S ((i, 0) :: r) a w := ⟨o, v, ho, hy, h⟩
theorem t1 (ho : ops[i]? = some o) (hy : YieldsIf P ops (fun _ => True) o v a) (h : wpT P ops Q S r (a.put o.dst v) w) : wpT P ops Q S ((i, 1) :: r) a w := ⟨o, v, ho, hy, h⟩
theorem t2 (ho : ops[i]? = some o) (h : ∀ K : Act → World → Prop, Shut (∀ a w, S w → (S w → wpT P ops Q S r a w) → K a w) → if Region.wanted o (yielded ops a.tmps) = true then Oper.wp P o a w K Q else K (a.put o.dst undef) w) : wpT P ops Q S ((i, 2) :: r) a w := ⟨o, ho, h⟩
theorem t3 (ho : ops[i]? = some o) (h : ∀ K : Act → World → Prop, Shut (∀ a w, wpT P ops Q S r a w → K a w) → if Region.wanted o (yielded ops a.tmps) = true then Oper.wp P o a w K Q else K (a.put o.dst undef) w) : wpT P ops Q S ((i, 3) :: r) a w := ⟨o, ho, h⟩
end
end
end Go.Proofs.YtliiclmhpphpmaaGreatDoor

namespace Go.Proofs.YtliiclmhpphpmaaGreatDoor
open Go Go.RowKit

def lk : List (Nat × Value) → Nat → Option Value
 | [], _ => none
 | (j, v) :: r, k => match Nat.beq j k with
  | true => some v
  | false => lk r k
structure Fm (n : Nat) (m : List (Nat × Value)) (a : Act) : Prop where
 size : a.tmps.size = n
 defers : a.defers = []
 has : ∀ k v, lk m k = some v → a.tmps[k]? = some v
def ev (m : List (Nat × Value)) : Operand → Option Value
 | .tmp t => lk m t
 | .const v => some v
 | .global g => some (.pointer (some ⟨g, 0, none⟩))
 | .func f => some (.func (.func f) #[] #[])
def evs (m : List (Nat × Value)) : List Operand → Option (List Value)
 | [] => some []
 | x :: l => match ev m x, evs m l with
  | some v, some r => some (v :: r)
  | _, _ => none
theorem Fm.ev {n : Nat} {m : List (Nat × Value)} {a : Act} (h : Fm n m a) {x : Operand} {v : Value} (hx : ev m x = some v) : a.eval x = v := by
 cases x with
 | tmp t =>
  have := h.has t v hx
  show a.tmps.getD t undef = v
  simp [Array.getD_eq_getD_getElem?, this]
 | const u => exact Option.some.inj hx
 | global g => exact Option.some.inj hx
 | func f => exact Option.some.inj hx
theorem Fm.evs {n : Nat} {m : List (Nat × Value)} {a : Act} (h : Fm n m a) : ∀ {l : List Operand} {vs : List Value}, evs m l = some vs → l.map a.eval = vs
 | [], vs, hx => by simp only [YtliiclmhpphpmaaGreatDoor.evs, Option.some.injEq] at hx; subst hx; rfl
 | x :: l, vs, hx => by
  simp only [YtliiclmhpphpmaaGreatDoor.evs] at hx
  split at hx
  ·rename_i v r hv hr
   injection hx with hx
   subst hx
   simp only [List.map_cons, h.ev hv, h.evs hr]
  ·cases hx
theorem Fm.put {n : Nat} {m : List (Nat × Value)} {a : Act} (h : Fm n m a) {d : Nat} (hd : d < n) (v : Value) : Fm n ((d, v) :: m) (a.put (some d) v) := by
 refine ⟨by simp [Act.put, h.size], h.defers, ?_⟩
 intro k u hk
 simp only [lk] at hk
 by_cases e : d = k
 ·subst e
  simp only [show Nat.beq d d = true from Nat.beq_refl d] at hk
  injection hk with hk
  subst hk
  simp [Act.put, h.size, hd]
 ·rw [show Nat.beq d k = false from Bool.eq_false_iff.2 (fun h => e (Nat.eq_of_beq_eq_true h))] at hk
  have := h.has k u hk
  simp [Act.put, e, this]
def Sub : List (Nat × Value) → List (Nat × Value) → Prop
 | [], _ => True
 | (k, v) :: r, m => lk m k = some v ∧ Sub r m
theorem Sub.lk : ∀ {r m : List (Nat × Value)}, Sub r m → ∀ k v, lk r k = some v → lk m k = some v
 | [], _, _, _, _, h => by cases h
 | (j, u) :: r, m, hs, k, v, h => by
  simp only [YtliiclmhpphpmaaGreatDoor.lk] at h
  split at h
  ·rename_i e
   have : j = k := Nat.eq_of_beq_eq_true e
   subst this
   injection h with h
   subst h
   exact hs.1
  ·exact Sub.lk hs.2 k v h
theorem Fm.sub {n : Nat} {m r : List (Nat × Value)} {a : Act} (h : Fm n m a) (hs : Sub r m) : Fm n r a := ⟨h.size, h.defers, fun k v hk => h.has k v (hs.lk k v hk)⟩
def yv : Value → Option Bool
 | .bool b => some b
 | _ => none
def wantedM (ops : Array Oper) (m : List (Nat × Value)) : Option (Nat × Bool) → Option Bool
 | none => some true
 | some (j, want) => match (ops[j]?).bind (·.dst) with
  | none => some false
  | some d => match lk m d with
   | some v => some (yv v == some want)
   | none => none
theorem Fm.wanted {n : Nat} {m : List (Nat × Value)} {a : Act} (h : Fm n m a) {ops : Array Oper} {o : Oper} {b : Bool} (hw : wantedM ops m o.guard = some b) : Region.wanted o (yielded ops a.tmps) = b := by
 unfold wantedM at hw
 unfold Region.wanted
 split at hw
 ·rename_i hg
  rw [hg]
  exact Option.some.inj hw
 ·rename_i j want hg
  rw [hg]
  simp only
  unfold yielded
  split at hw
  ·rename_i hd
   rw [hd]
   injection hw
  ·rename_i d hd
   rw [hd]
   split at hw
   ·rename_i v hl
    have := h.has d _ hl
    injection hw with hw
    subst hw
    simp only [Option.bind_some, this]
    cases v <;> rfl
   ·cases hw
section
variable {P : Program}

def wl (P : Program) (ops : Array Oper) (Q : Exit → Act → World → Prop) (l : List Oper) (n : Nat) (m : List (Nat × Value)) (w : World) : Prop := ∀ a, Fm n m a → wpList P ops Q l a w
def cw (P : Program) (c : Code) (Q : Exit → Act → World → Prop) (n : Nat) (m : List (Nat × Value)) (w : World) : Prop := ∀ a, Fm n m a → c.wp P Q a w
def xw (Q : Exit → Act → World → Prop) (e : Exit) (n : Nat) (m : List (Nat × Value)) (w : World) : Prop := ∀ a, Fm n m a → Q e a w
def Reads (m : List (Nat × Value)) (ρ : Operand → Value) : Prop := ∀ x v, ev m x = some v → ρ x = v
section
variable {ops : Array Oper} {Q : Exit → Act → World → Prop} {rest : List Oper} {n : Nat} {m : List (Nat × Value)} {w w' : World} {d : Nat} {op : Op} {t : TypeId} {pos : String} {aft : Array Edge} {gd : Option (Nat × Bool)} {v : Value}
theorem Fm.reads {a : Act} (h : Fm n m a) : Reads m a.eval := fun _ _ hx => h.ev hx
theorem zAe (hr : ∀ ρ, Reads m ρ → (execOp ρ ⟨some d, op, t, pos, aft, gd⟩).run P w = .ok (.value v) w') (hg : wantedM ops m gd = some true) (hd : Nat.blt d n = true) (h : wl P ops Q rest n ((d, v) :: m) w') :
  wl P ops Q (⟨some d, op, t, pos, aft, gd⟩ :: rest) n m w := fun a ha => by
 unfold wpList
 rw [if_pos (ha.wanted hg)]
 left
 unfold Oper.wp
 rw [hr _ ha.reads]
 exact h _ (ha.put (by simpa [Nat.blt_eq] using hd) v)
theorem zAq (hg : wantedM ops m gd = some false) (hd : Nat.blt d n = true) (h : wl P ops Q rest n ((d, undef) :: m) w) : wl P ops Q (⟨some d, op, t, pos, aft, gd⟩ :: rest) n m w := fun a ha => by
 unfold wpList
 rw [if_neg (by rw [ha.wanted hg]; simp)]
 exact h _ (ha.put (by simpa [Nat.blt_eq] using hd) _)
theorem zAv (hr : ∀ ρ, Reads m ρ → (execOp ρ ⟨none, op, t, pos, aft, gd⟩).run P w = .ok .skip w') (hg : wantedM ops m gd = some true) (h : wl P ops Q rest n m w') :
  wl P ops Q (⟨none, op, t, pos, aft, gd⟩ :: rest) n m w := fun a ha => by
 unfold wpList
 rw [if_pos (ha.wanted hg)]
 left
 unfold Oper.wp
 rw [hr _ ha.reads]
 exact h _ ha
def Enters (P : Program) (f : FuncId) : Prop := ∀ args w, (callFunc f args).run P w = .ok (.enter f args) w
theorem zAr {f : FuncId} {fn : Func} {c : Code} (hf : P.funcs[f]? = some fn) (hname : (fn.name == "runtime.NumGoroutine") = false) (hb : fn.body = some c) : Enters P f := fun args w => by
 have h1 : fn.name ≠ "runtime.NumGoroutine" := by simpa using hname
 simp [callFunc, hf, h1, hb]
theorem exec_call {ρ : Operand → Value} {d : Option Tmp} {f : FuncId} {xs : Array Operand} {ts : Array TypeId} {args : Array Value} (he : Enters P f) (hf : ρ (.func f) = .func (.func f) #[] #[]) (h : xs.map ρ = args) : (execOp ρ ⟨d, .call ⟨.value (.func f), xs, ts⟩, t, pos, aft, gd⟩).run P w = .ok (.enter f args) w := by
 subst h
 simp [go_sem, hf, he _ _]
theorem zAs {f : FuncId} {xs : List Operand} {ts : Array TypeId} {args : List Value} (he : Enters P f) (hargs : evs m xs = some args) (hg : wantedM ops m gd = some true) (hd : Nat.blt d n = true)
  (h : Calls P f args.toArray w fun e w' => ∃ v, e = .returned v ∧ wl P ops Q rest n ((d, v) :: m) w') :
  wl P ops Q (⟨some d, .call ⟨.value (.func f), xs.toArray, ts⟩, t, pos, aft, gd⟩ :: rest) n m w := fun a ha => by
 unfold wpList
 rw [if_pos (ha.wanted hg)]
 left
 unfold Oper.wp
 rw [exec_call he rfl (args := args.toArray) (by rw [List.map_toArray, ha.evs hargs])]
 refine h.mono ?_
 rintro e w' ⟨v, rfl, hh⟩
 exact hh _ (ha.put (by simpa [Nat.blt_eq] using hd) v)
theorem zAd (h : xw Q .normal n m w) : wl P ops Q [] n m w := fun a ha => h a ha
theorem zAa {id : Nat} {l : List Oper} (h : wl P l.toArray Q l n m w) : cw P (.region id l.toArray false) Q n m w := fun a ha => wp_region_lit (h a ha)
theorem zAc {x y : Code} (h : ∀ K : Act → World → Prop, Shut (∀ n m w, cw P y Q n m w → ∀ a, Fm n m a → K a w) → cw P x (Exit.then K Q) n m w) : cw P (.seq x y) Q n m w := fun a ha =>
 wp_seq_k (fun K hK => h K (fun _ _ _ hy a ha => hK _ _ (hy a ha)) a ha)
theorem zAb {K : Act → World → Prop} {y : Code} (hK : Shut (∀ n m w, cw P y Q n m w → ∀ a, Fm n m a → K a w)) (h : cw P y Q n m w) : xw (Exit.then K Q) .normal n m w := fun a ha => hK.out _ _ _ h a ha
theorem zAg {K : Act → World → Prop} {e : Exit} (he : e ≠ .normal) (h : xw Q e n m w) : xw (Exit.then K Q) e n m w := fun a ha => by
 cases e <;> first | exact absurd rfl he | exact h a ha
theorem zAl {c : Operand} {x y : Code} (hc : ev m c = some (.bool true)) (h : cw P x Q n m w) : cw P (.cond c x y) Q n m w := fun a ha => wp_cond_true (ha.ev hc) (h a ha)
theorem zAf {c : Operand} {x y : Code} (hc : ev m c = some (.bool false)) (h : cw P y Q n m w) : cw P (.cond c x y) Q n m w := fun a ha => wp_cond_false (ha.ev hc) (h a ha)
theorem cw_cond {c : Operand} {x y : Code} {b : Bool} (hc : ev m c = some (.bool b)) (h1 : b = true → cw P x Q n m w) (h2 : b = false → cw P y Q n m w) : cw P (.cond c x y) Q n m w := fun a ha => wp_cond_split (ha.ev hc) (fun h => h1 h a ha) (fun h => h2 h a ha)
theorem zAj (h : xw Q .normal n m w) : cw P .skip Q n m w := fun a ha => wp_skip (h a ha)
theorem zA6 {id : Nat} (h : xw Q (.exit id) n m w) : cw P (.exit id) Q n m w := fun a ha => wp_exit (h a ha)
theorem zAz (h : xw Q .ret n m w) : cw P .ret Q n m w := fun a ha => wp_ret (h a ha)
theorem zAh {id : Nat} {c : Code} (h : cw P c (Exit.inBlock id Q) n m w) : cw P (.block id c) Q n m w := fun a ha => wp_block (h a ha)
theorem zAn {id : Nat} (h : xw Q .normal n m w) : xw (Exit.inBlock id Q) .normal n m w := fun a ha => h a ha
theorem zA4 {id : Nat} (h : xw Q .normal n m w) : xw (Exit.inBlock id Q) (.exit id) n m w := fun a ha => by
 show (if id = id then _ else _)
 rw [if_pos rfl]
 exact h a ha
theorem zA3 {id : Nat} (h : xw Q .ret n m w) : xw (Exit.inBlock id Q) .ret n m w := fun a ha => h a ha
theorem least {p : Nat → Prop} (h : ∃ k, p k) : ∃ k, p k ∧ ∀ j, p j → k ≤ j := by
 obtain ⟨k, hk⟩ := h
 induction k using Nat.strongRecOn with
 | _ k ih =>
  by_cases he : ∃ j, j < k ∧ p j
  ·obtain ⟨j, h1, h2⟩ := he
   exact ih j h1 h2
  ·exact ⟨k, hk, fun j hj => Nat.le_of_not_lt (fun h => he ⟨j, h, hj⟩)⟩
theorem zA8 {c : Code} {ι : Type} (M : ι → List (Nat × Value)) (J : ι → World → Prop) (μ : ι → Nat) (i0 : ι) (h0 : J i0 w) (hs : Sub (M i0) m)
  (round : ∀ i w, J i w → ∀ K : Act → World → Prop, Shut (∀ j m' w', μ j < μ i → J j w' → Sub (M j) m' → ∀ a, Fm n m' a → K a w') → cw P c (Exit.then K Q) n (M i) w) : cw P (.loop c) Q n m w := fun a ha => by
 classical
 let p : Act → World → Nat → Prop := fun a w k => ∃ i, μ i = k ∧ Fm n (M i) a ∧ J i w
 refine wp_loop (fun a w => ∃ k, p a w k) (fun a w => if h : ∃ k, p a w k then Classical.choose (least h) else 0) ⟨_, i0, rfl, ha.sub hs, h0⟩ ?_
 intro a w hI
 have hspec := Classical.choose_spec (least hI)
 obtain ⟨⟨i, hi, hfr, hJ⟩, hmin⟩ := hspec
 refine round i w hJ _ ?_ a hfr
 intro j m' w' hlt hJ' hs' a' ha'
 have hI' : ∃ k, p a' w' k := ⟨_, j, rfl, ha'.sub hs', hJ'⟩
 refine ⟨hI', ?_⟩
 simp only [dif_pos hI, dif_pos hI']
 have := (Classical.choose_spec (least hI')).2 (μ j) ⟨j, rfl, ha'.sub hs', hJ'⟩
 omega
theorem zAt {ι : Type} {M : ι → List (Nat × Value)} {J : ι → World → Prop} {μ : ι → Nat} {i : ι} {K : Act → World → Prop} (hK : Shut (∀ j m' w', μ j < μ i → J j w' → Sub (M j) m' → ∀ a, Fm n m' a → K a w')) (j : ι) (hlt : μ j < μ i) (hJ : J j w) (hs : Sub (M j) m) : xw (Exit.then K Q) .normal n m w := fun a ha => hK.out j m w hlt hJ hs a ha
end
end
end Go.Proofs.YtliiclmhpphpmaaGreatDoor

namespace Go.Proofs.YtliiclmhpphpmaaGreatDoor
open Go
section
variable {P : Program} {ops : Array Oper} {C : World → Prop} {Q : Act → Prop} {a : Act} {o : Oper} {rest : List Oper}
end
end Go.Proofs.YtliiclmhpphpmaaGreatDoor

namespace Go.Proofs.YtliiclmhpphpmaaGreatDoor
open Go Go.RowKit
section
variable {P : Program} {ops : Array Oper} {Q : Exit → Act → World → Prop} {S C : World → Prop} {r : List (Nat × Nat)} {rest : List Oper} {n : Nat} {m : List (Nat × Value)} {w w' : World} {i d : Nat} {op : Op} {t : TypeId} {pos : String} {aft : Array Edge} {gd : Option (Nat × Bool)} {v : Value}
def wt (P : Program) (ops : Array Oper) (Q : Exit → Act → World → Prop) (S : World → Prop) (r : List (Nat × Nat)) (n : Nat) (m : List (Nat × Value)) (w : World) : Prop := ∀ a, Fm n m a → wpT P ops Q S r a w
theorem wt0 (ho : ops[i]? = some ⟨some d, op, t, pos, aft, gd⟩) (hr : ∀ ρ, Reads m ρ → ∀ W, S W → (execOp ρ ⟨some d, op, t, pos, aft, gd⟩).run P W = .ok (.value v) W) (hg : wantedM ops m gd = some true) (hd : Nat.blt d n = true)
  (h : wt P ops Q S r n ((d, v) :: m) w) : wt P ops Q S ((i, 0) :: r) n m w := fun a ha =>
 ⟨_, v, ho, .inl ⟨ha.wanted hg, hr _ ha.reads⟩, h _ (ha.put (by simpa [Nat.blt_eq] using hd) v)⟩
theorem wt1 (ho : ops[i]? = some ⟨some d, op, t, pos, aft, gd⟩) (hr : ∀ ρ, Reads m ρ → ∀ W, (execOp ρ ⟨some d, op, t, pos, aft, gd⟩).run P W = .ok (.value v) W) (hg : wantedM ops m gd = some true) (hd : Nat.blt d n = true)
  (h : wt P ops Q S r n ((d, v) :: m) w) : wt P ops Q S ((i, 1) :: r) n m w := fun a ha =>
 ⟨_, v, ho, .inl ⟨ha.wanted hg, fun W _ => hr _ ha.reads W⟩, h _ (ha.put (by simpa [Nat.blt_eq] using hd) v)⟩
theorem zA0 (ho : ops[i]? = some ⟨some d, op, t, pos, aft, gd⟩) (hg : wantedM ops m gd = some false) (hd : Nat.blt d n = true)
  (h : wt P ops Q S r n ((d, undef) :: m) w) : wt P ops Q S ((i, 1) :: r) n m w := fun a ha =>
 ⟨_, undef, ho, .inr ⟨ha.wanted hg, rfl⟩, h _ (ha.put (by simpa [Nat.blt_eq] using hd) undef)⟩
theorem zBm (ho : ops[i]? = some ⟨some d, op, t, pos, aft, gd⟩) (hg : wantedM ops m gd = some false) (hd : Nat.blt d n = true)
  (h : wt P ops Q S r n ((d, undef) :: m) w) : wt P ops Q S ((i, 0) :: r) n m w := fun a ha =>
 ⟨_, undef, ho, .inr ⟨ha.wanted hg, rfl⟩, h _ (ha.put (by simpa [Nat.blt_eq] using hd) undef)⟩
theorem wt2 (ho : ops[i]? = some ⟨some d, op, t, pos, aft, gd⟩) (hr : ∀ ρ, Reads m ρ → (execOp ρ ⟨some d, op, t, pos, aft, gd⟩).run P w = .ok (.value v) w') (hg : wantedM ops m gd = some true) (hd : Nat.blt d n = true) (hS : S w')
  (h : wt P ops Q S r n ((d, v) :: m) w') : wt P ops Q S ((i, 2) :: r) n m w := fun a ha =>
 ⟨_, ho, fun K hK => by
  rw [if_pos (ha.wanted hg)]
  unfold Oper.wp
  rw [hr _ ha.reads]
  exact hK.out _ _ hS (fun _ => h _ (ha.put (by simpa [Nat.blt_eq] using hd) v))⟩
theorem zA7 {f : FuncId} {xs : List Operand} {ts : Array TypeId} {args : List Value} (ho : ops[i]? = some ⟨some d, .call ⟨.value (.func f), xs.toArray, ts⟩, t, pos, aft, gd⟩) (he : Enters P f) (hargs : evs m xs = some args) (hg : wantedM ops m gd = some true) (hd : Nat.blt d n = true)
  (h : Calls P f args.toArray w fun e w' => ∃ v, e = .returned v ∧ S w' ∧ wt P ops Q S r n ((d, v) :: m) w') : wt P ops Q S ((i, 2) :: r) n m w := fun a ha =>
 ⟨_, ho, fun K hK => by
  rw [if_pos (ha.wanted hg)]
  unfold Oper.wp
  rw [exec_call he rfl (args := args.toArray) (by rw [List.map_toArray, ha.evs hargs])]
  refine h.mono ?_
  rintro e w' ⟨v, rfl, hS, hh⟩
  exact hK.out _ _ hS (fun _ => hh _ (ha.put (by simpa [Nat.blt_eq] using hd) v))⟩
theorem wt3 (ho : ops[i]? = some ⟨some d, op, t, pos, aft, gd⟩) (hr : ∀ ρ, Reads m ρ → (execOp ρ ⟨some d, op, t, pos, aft, gd⟩).run P w = .ok (.value v) w') (hg : wantedM ops m gd = some true) (hd : Nat.blt d n = true)
  (h : wt P ops Q S r n ((d, v) :: m) w') : wt P ops Q S ((i, 3) :: r) n m w := fun a ha =>
 ⟨_, ho, fun K hK => by
  rw [if_pos (ha.wanted hg)]
  unfold Oper.wp
  rw [hr _ ha.reads]
  exact hK.out _ _ (h _ (ha.put (by simpa [Nat.blt_eq] using hd) v))⟩
theorem zBf (ho : ops[i]? = some ⟨none, op, t, pos, aft, gd⟩) (hr : ∀ ρ, Reads m ρ → (execOp ρ ⟨none, op, t, pos, aft, gd⟩).run P w = .ok .skip w') (hg : wantedM ops m gd = some true)
  (h : wt P ops Q S r n m w') : wt P ops Q S ((i, 3) :: r) n m w := fun a ha =>
 ⟨_, ho, fun K hK => by
  rw [if_pos (ha.wanted hg)]
  unfold Oper.wp
  rw [hr _ ha.reads]
  exact hK.out _ _ (h _ ha)⟩
theorem zBc (h : xw Q .normal n m w) : wt P ops Q S [] n m w := fun a ha => h a ha
def PQ (Q : Exit → Act → World → Prop) : Prop := ∀ c a t v w, Q (.panic c) (a.put t v) w → Q (.panic c) a w
theorem PQ.body {fn : Func} {R : Ending → World → Prop} : PQ (bodyPost P fn R) := fun _ _ t _ _ h => by cases t <;> exact h
theorem PQ.then_ {K : Act → World → Prop} (h : PQ Q) : PQ (Exit.then K Q) := fun c a t v w hh => h c a t v w hh
theorem PQ.block {id : Nat} (h : PQ Q) : PQ (Exit.inBlock id Q) := fun c a t v w hh => h c a t v w hh
theorem zA1 {id : Nat} {l : List Oper} (S : World → Prop) (k : Nat) (r : List (Nat × Nat)) (hm : P.follows .mixedOrders = true) (hs : (Region.noSelect l.toArray && (r.length == l.toArray.size) && lexT .any l.toArray k r (Array.replicate l.toArray.size false)) = true)
  (hQ : PQ Q) (hS : S w.drew) (h : wt P l.toArray Q S r n m w.drew) : cw P (.region id l.toArray true) Q n m w := fun a ha => region_L S k r hm hs hQ hS (fun _ => h a ha)

def wq (P : Program) (ops : Array Oper) (C : World → Prop) (Q : Exit → Act → World → Prop) (l : List Oper) (n : Nat) (m : List (Nat × Value)) : Prop := ∀ a, Fm n m a → wpQuiet P ops C (fun a' => ∀ w', C w' → Q .normal a' w') l a
def argSlots : Nat → List Value → List (Nat × Value)
 | _, [] => []
 | k, v :: l => (k, v) :: argSlots (k + 1) l
theorem argSlots_lk : ∀ (l : List Value) (k j : Nat) (v : Value), lk (argSlots k l) j = some v → k ≤ j ∧ l[j - k]? = some v
 | [], _, _, _, h => by cases h
 | u :: l, k, j, v, h => by
  simp only [argSlots, lk] at h
  split at h
  ·rename_i e
   have : k = j := Nat.eq_of_beq_eq_true e
   subst this
   injection h with h
   subst h
   simp
  ·obtain ⟨h1, h2⟩ := argSlots_lk l (k + 1) j v h
   refine ⟨by omega, ?_⟩
   have : j - k = (j - (k + 1)) + 1 := by omega
   rw [this, List.getElem?_cons_succ]
   exact h2
theorem zAu {f : FuncId} {fn : Func} {c : Code} {n : Nat} {args : List Value} {w : World} {R : Ending → World → Prop} (hf : P.funcs[f]? = some fn) (hb : fn.body = some c) (hn : fn.ntmps = n) (hle : args.length ≤ n)
  (h : cw P c (bodyPost P fn R) n (argSlots 0 args) w) : Calls P f args.toArray w R := by
 refine calls_of_wp hf hb (h _ ⟨?_, rfl, ?_⟩)
 ·simp only [Array.size_append, List.size_toArray, Array.size_replicate, hn]
  omega
 ·intro k v hk
  obtain ⟨_, h2⟩ := argSlots_lk _ _ _ _ hk
  have hlt : k < args.length := (List.getElem?_eq_some_iff.1 h2).1
  rw [Array.getElem?_append_left (by simpa using hlt)]
  simpa using h2
theorem zAy {fn : Func} {R : Ending → World → Prop} {w : World} (hr : ∀ T : Array Value, (∀ k v, lk m k = some v → T[k]? = some v) → (results fn T).run P w = .ok v w) (hR : R (.returned v) w) : xw (bodyPost P fn R) .ret n m w := fun _ ha =>
 bodyPost_ret (hr _ ha.has) ha.defers hR
theorem zDh {fn : Func} {R : Ending → World → Prop} {w : World} (hr : ∀ T : Array Value, (∀ k v, lk m k = some v → T[k]? = some v) → (results fn T).run P w = .ok v w) (hR : R (.returned v) w) : xw (bodyPost P fn R) .normal n m w := fun _ ha =>
 bodyPost_end (hr _ ha.has) ha.defers hR
theorem res1 {fn : Func} {a : Nat} (h : fn.results = #[.tmp a]) (T : Array Value) (w : World) (h1 : T[a]? = some v) : (results fn T).run P w = .ok v w := by
 simp [results, h, Array.getD_eq_getD_getElem?, h1]
theorem res2 {fn : Func} {a b : Nat} {u : Value} (h : fn.results = #[.tmp a, .tmp b]) (T : Array Value) (w : World) (h1 : T[a]? = some v) (h2 : T[b]? = some u) : (results fn T).run P w = .ok (.tuple #[v, u]) w := by
 simp [results, h, Array.getD_eq_getD_getElem?, h1, h2]
theorem res3 {fn : Func} {a b c : Nat} {u x : Value} (h : fn.results = #[.tmp a, .tmp b, .tmp c]) (T : Array Value) (w : World) (h1 : T[a]? = some v) (h2 : T[b]? = some u) (h3 : T[c]? = some x) : (results fn T).run P w = .ok (.tuple #[v, u, x]) w := by
 simp [results, h, Array.getD_eq_getD_getElem?, h1, h2, h3]
end
end Go.Proofs.YtliiclmhpphpmaaGreatDoor
namespace Go.Proofs.YtliiclmhpphpmaaGreatDoor
open Go Go.RowKit

def OwnBools (w : World) (base : Nat) (v : Value) (l : List Bool) : Prop := w.ownsRow base 4 1 v l.length (l.map Value.bool)
end Go.Proofs.YtliiclmhpphpmaaGreatDoor
namespace Go.Proofs.YtliiclmhpphpmaaGreatDoor
open Go Go.RowKit
def Ent (f : FuncId) : Prop := ∀ args w, (callFunc f args).run Tryz.prog w = .ok (.enter f args) w
section
variable {ρ : Operand → Value} {d : Option Tmp} {x y z : Operand} {t : TypeId} {pos : String} {aft : Array Edge} {gd : Option (Nat × Bool)} {w : World}
theorem zGf {v : Value} (hx : ρ x = v) : (execOp ρ ⟨d, .move x, t, pos, aft, gd⟩).run Tryz.prog w = .ok (.value v) w := by
 simp [go_sem, hx]
theorem zBb {v : Value} (hx : ρ x = v) : (execOp ρ ⟨d, .assign x, t, pos, aft, gd⟩).run Tryz.prog w = .ok (.value v) w := by
 simp [go_sem, hx]
theorem ex_extract {vs : Array Value} {v : Value} {i : Nat} (hx : ρ x = .tuple vs) (hi : vs[i]? = some v) : (execOp ρ ⟨d, .extract x i, t, pos, aft, gd⟩).run Tryz.prog w = .ok (.value v) w := by
 simp [go_sem, hx, hi]
end
section
variable {ops : Array Oper} {Q : Exit → Act → World → Prop} {S : World → Prop} {i : Nat} {r : List (Nat × Nat)} {a : Act} {w w' : World} {d : Option Tmp} {op : Op} {t : TypeId} {pos : String} {aft : Array Edge} {v : Value}
end
end Go.Proofs.YtliiclmhpphpmaaGreatDoor

namespace Go.Proofs.YtliiclmhpphpmaaGreatDoor
open Go Go.RowKit
section
variable {ρ : Operand → Value} {d : Option Tmp} {x y z : Operand} {t : TypeId} {pos : String} {aft : Array Edge} {gd : Option (Nat × Bool)} {w : World}
theorem zBa {u : Value} (hx : ρ x = .bool true) (hy : ρ y = u) : (execOp ρ ⟨d, .pick x y z, t, pos, aft, gd⟩).run Tryz.prog w = .ok (.value u) w := by
 simp [go_sem, hx, hy]
theorem zA2 {v : Value} (hx : ρ x = .bool false) (hz : ρ z = v) : (execOp ρ ⟨d, .pick x y z, t, pos, aft, gd⟩).run Tryz.prog w = .ok (.value v) w := by
 simp [go_sem, hx, hz]
end
section
variable {ops : Array Oper} {C : World → Prop} {Q : Act → Prop} {a : Act} {o : Oper} {rest : List Oper} {d : Option Tmp} {t : TypeId} {pos : String} {aft : Array Edge} {gd : Option (Nat × Bool)} {v : Value}
end
end Go.Proofs.YtliiclmhpphpmaaGreatDoor

namespace Go.Proofs.YtliiclmhpphpmaaGreatDoor
open Go Go.RowKit
section
variable {P : Program} {ops : Array Oper} {Q : Exit → Act → World → Prop} {S : World → Prop} {r : List (Nat × Nat)} {rest : List Oper} {n : Nat} {m : List (Nat × Value)} {w w' : World} {i d : Nat} {op : Op} {t T : TypeId} {pos : String} {aft : Array Edge} {gd : Option (Nat × Bool)} {v : Value} {cs : Array Value}
end
section
variable {ρ : Operand → Value} {d : Option Tmp} {x y z : Operand} {t : TypeId} {pos : String} {aft : Array Edge} {gd : Option (Nat × Bool)} {w : World}
theorem zAo {u : Int} (h0 : -9223372036854775808 ≤ u) (h1 : u ≤ 9223372036854775807) : IntKind.i64.wrap u = u := by rw [IntKind.wrap_i64]; omega
end
end Go.Proofs.YtliiclmhpphpmaaGreatDoor

namespace Go.Proofs.YtliiclmhpphpmaaGreatDoor
open Go Go.RowKit
section
variable {ops : Array Oper} {Q : Exit → Act → World → Prop} {S : World → Prop} {r : List (Nat × Nat)} {rest : List Oper} {n : Nat} {m : List (Nat × Value)} {w : World} {i d : Nat} {t : TypeId} {pos : String} {aft : Array Edge} {gd : Option (Nat × Bool)}
end
section
variable {ρ : Operand → Value} {d : Option Tmp} {x y : Operand} {t : TypeId} {pos : String} {aft : Array Edge} {gd : Option (Nat × Bool)} {w : World}
end
end Go.Proofs.YtliiclmhpphpmaaGreatDoor
namespace Go.Proofs.YtliiclmhpphpmaaGreatDoor
open Go Go.RowKit

structure Frame (S : Nat → Prop) (w w' : World) : Prop where
 os : w'.os = w.os
 tape : w'.tape = w.tape
 output : w'.output = w.output
 size : w.heap.size ≤ w'.heap.size
 block : ∀ k, k < w.heap.size → ¬ S k → w'.heap[k]? = w.heap[k]?
def NoB : Nat → Prop := fun _ => False
theorem Frame.refl (S : Nat → Prop) (w : World) : Frame S w w := ⟨rfl, rfl, rfl, Nat.le_refl _, fun _ _ _ => rfl⟩
theorem Frame.trans {S T : Nat → Prop} {a b c : World} (h : Frame S a b) (k : Frame T b c) (hT : ∀ k, k < a.heap.size → T k → S k) : Frame S a c :=
 ⟨k.os.trans h.os, k.tape.trans h.tape, k.output.trans h.output, Nat.le_trans h.size k.size, fun i hi hs => (k.block i (Nat.lt_of_lt_of_le hi h.size) (fun ht => hs (hT i hi ht))).trans (h.block i hi hs)⟩
theorem Frame.of_below {w w' : World} (h : Below w.heap.size w w') : Frame NoB w w' := ⟨h.os, h.tape, h.output, h.size, fun k hk _ => h.block k hk⟩
theorem Frame.grown {w w' : World} {row : Option Nat} (h : w.grownBy w' row) : Frame (fun k => some k = row) w w' := ⟨h.os, h.tape, h.output, h.size, fun k hk hs => h.block k hk hs⟩
theorem Frame.put (w : World) (g i : Nat) (u : Value) : Frame (fun k => k = g) w (w.setCell ⟨g, i, none⟩ u) :=
 ⟨rfl, rfl, rfl, Nat.le_of_eq (by simp [World.setCell]), fun k _ hs => Below.heap_setCell w _ u k hs⟩
theorem Frame.below {S : Nat → Prop} {w w' : World} {B : Nat} (h : Frame S w w') (hB : B ≤ w.heap.size) (hS : ∀ k, k < w.heap.size → S k → B ≤ k) : Below B w w' :=
 ⟨h.os, h.tape, h.output, h.size, fun k hk => h.block k (by omega) (fun hs => by have := hS k (by omega) hs; omega)⟩
def MapB (w : World) (m : Nat) (l : List (Value × Value)) : Prop := ∃ (es : Array MapEntry) (clock : Nat), w.heap[m]? = some (.map es clock) ∧ es.toList.map (fun e => (e.key, e.val)) = l
theorem MapB.lt {w : World} {m : Nat} {l : List (Value × Value)} (h : MapB w m l) : m < w.heap.size := by
 obtain ⟨es, clock, h, _⟩ := h
 exact (Array.getElem?_eq_some_iff.1 h).1
def look {κ : Type} [DecidableEq κ] (k : κ) : List (κ × Value) → Nat → Option (Nat × Value)
 | [], _ => none
 | (a, v) :: l, i => if k = a then some (i, v) else look k l (i + 1)
def encL {κ : Type} (enc : κ → Value) (l : List (κ × Value)) : List (Value × Value) := l.map fun p => (enc p.1, p.2)
theorem zFb {κ : Type} [DecidableEq κ] (enc : κ → Value) (kind : TypeDesc) (hs : ∀ a b, Instr.sameNow kind (enc a) (enc b) = some (decide (a = b))) (k : κ) :
  ∀ (l : List (κ × Value)) (es : List MapEntry) (i : Nat), es.map (fun e => (e.key, e.val)) = encL enc l → Instr.findNow kind (enc k) es i = some (look k l i)
 | [], es, i, h => by
  cases es with
  | nil => rfl
  | cons e es => cases h
 | (a, v) :: l, es, i, h => by
  cases es with
  | nil => cases h
  | cons e es =>
   simp only [List.map_cons, encL, List.cons.injEq, Prod.mk.injEq] at h
   obtain ⟨⟨h1, h2⟩, h3⟩ := h
   unfold Instr.findNow look
   rw [h1, hs]
   by_cases hk : k = a
   ·simp [hk, h2]
   ·simp only [hk, decide_false, if_false]
    exact zFb enc kind hs k l es (i + 1) h3

def aput {κ : Type} [DecidableEq κ] (k : κ) (v : Value) : List (κ × Value) → List (κ × Value)
 | [] => [(k, v)]
 | (a, u) :: l => if k = a then (a, v) :: l else (a, u) :: aput k v l
structure Key {κ : Type} [DecidableEq κ] (enc : κ → Value) (kind : TypeDesc) : Prop where
 same : ∀ a b, Instr.sameNow kind (enc a) (enc b) = some (decide (a = b))
 isKey : ∀ a, MapKept.IsKey kind (enc a)
section
variable {P : Program} {κ : Type} [DecidableEq κ] {enc : κ → Value} {kind : TypeDesc} {t kt e : TypeId} {w : World} {m : Nat} {l : List (κ × Value)}
theorem run_look (K : Key enc kind) (ht : P.underlying t = some (.map kt e)) (hk : P.underlying kt = some kind) (h : MapB w m (encL enc l)) (k : κ) {r : Option (Nat × Value)} (hr : look k l 0 = r) {z : Value} (hz : (zeroValue e).run P w = .ok z w) (ok : Bool) :
  (Instr.lookup t (.map (some m)) (enc k) ok).run P w = .ok (if ok then .tuple #[(match r with | some (_, v) => v | none => z), .bool r.isSome] else (match r with | some (_, v) => v | none => z)) w := by
 obtain ⟨es, clock, hb, hl⟩ := h
 have h1 := zFb enc kind K.same k l es.toList 0 hl
 rw [hr] at h1
 cases r with
 | none => cases ok <;> simp [Instr.lookup, run_underlying ht, MapKept.run_getObj_map hb, MapKept.run_checkKey hk (K.isKey k), MapKept.run_findKey hk h1, hz, Result.andThen]
 | some p => cases ok <;> simp [Instr.lookup, run_underlying ht, MapKept.run_getObj_map hb, MapKept.run_checkKey hk (K.isKey k), MapKept.run_findKey hk h1, Result.andThen]
theorem zF4 (k : κ) : ∀ (l : List (κ × Value)) (i : Nat) (j : Nat) (v : Value), look k l i = some (j, v) → i ≤ j ∧ ∃ a, a = k ∧ l[j - i]? = some (a, v)
 | [], _, _, _, h => by cases h
 | (a, u) :: l, i, j, v, h => by
  unfold look at h
  by_cases hk : k = a
  ·rw [if_pos hk] at h
   injection h with h
   injection h with h1 h2
   subst h1; subst h2
   exact ⟨Nat.le_refl _, a, hk.symm, by simp⟩
  ·rw [if_neg hk] at h
   obtain ⟨h1, b, hb, h2⟩ := zF4 k l (i + 1) j v h
   refine ⟨by omega, b, hb, ?_⟩
   rw [show j - i = (j - (i + 1)) + 1 from by omega, List.getElem?_cons_succ]
   exact h2
theorem zHo (k : κ) (v : Value) : ∀ (l : List (κ × Value)) (i : Nat), look k l i = none → aput k v l = l ++ [(k, v)]
 | [], _, _ => rfl
 | (a, u) :: l, i, h => by
  unfold look at h
  by_cases hk : k = a
  ·rw [if_pos hk] at h; cases h
  ·rw [if_neg hk] at h
   unfold aput
   rw [if_neg hk, zHo k v l (i + 1) h]; rfl
theorem aput_some (k : κ) (v : Value) : ∀ (l : List (κ × Value)) (i j : Nat) (u : Value), look k l i = some (j, u) → aput k v l = l.modify (j - i) (fun p => (p.1, v))
 | [], _, _, _, h => by cases h
 | (a, u) :: l, i, j, u', h => by
  have hh := h
  unfold look at h
  unfold aput
  by_cases hk : k = a
  ·rw [if_pos hk] at h ⊢
   injection h with h
   injection h with h1 _
   subst h1
   simp
  ·rw [if_neg hk] at h ⊢
   have := (zF4 k l (i + 1) j u' h).1
   rw [aput_some k v l (i + 1) j u' h, show j - i = (j - (i + 1)) + 1 from by omega, List.modify_succ_cons]
theorem run_put (K : Key enc kind) (ht : P.underlying t = some (.map kt e)) (hk : P.underlying kt = some kind) (h : MapB w m (encL enc l)) (k : κ) (v : Value) :
  ∃ w', (Instr.mapUpdate t (.map (some m)) (enc k) v).run P w = .ok () w' ∧ MapB w' m (encL enc (aput k v l)) ∧ Frame (fun j => j = m) w w' ∧ w'.heap.size = w.heap.size := by
 obtain ⟨es, clock, hb, hl⟩ := h
 have h1 := zFb enc kind K.same k l es.toList 0 hl
 have fr : ∀ o, Frame (fun j => j = m) w { w with heap := w.heap.setIfInBounds m o } := fun o => ⟨rfl, rfl, rfl, by simp, fun j _ hj => (MapKept.heap_set (o' := o) hb).2 j hj⟩
 cases hr : look k l 0 with
 | none =>
  rw [hr] at h1
  refine ⟨_, by simp only [Instr.mapUpdate, Sem.run_bind, run_underlying ht, MapKept.run_getObj_map hb, MapKept.run_checkKey hk (K.isKey k), MapKept.run_findKey hk h1, MapKept.run_setObj_map _ hb, Result.andThen]; rfl, ?_, fr _, by simp⟩
  refine ⟨_, _, (MapKept.heap_set hb).1, ?_⟩
  rw [zHo k v l 0 hr]
  simp [encL, hl]
 | some p =>
  obtain ⟨j, u⟩ := p
  rw [hr] at h1
  obtain ⟨_, a, ha, h3⟩ := zF4 k l 0 j u hr
  have hj : ∃ x, es[j]? = some x ∧ x.key = enc k := by
   have h4 : (es.toList.map fun e => (e.key, e.val))[j]? = some (enc a, u) := by rw [hl]; unfold encL; rw [List.getElem?_map]; rw [Nat.sub_zero] at h3; rw [h3]; rfl
   rw [List.getElem?_map] at h4
   cases h5 : es.toList[j]? with
   | none => rw [h5] at h4; cases h4
   | some x =>
    rw [h5] at h4
    injection h4 with h4
    injection h4 with h6 _
    exact ⟨x, by simpa using h5, by rw [h6, ha]⟩
  obtain ⟨x, hx, hxk⟩ := hj
  refine ⟨_, by simp only [Instr.mapUpdate, Sem.run_bind, run_underlying ht, MapKept.run_getObj_map hb, MapKept.run_checkKey hk (K.isKey k), MapKept.run_findKey hk h1, hx, Option.map_some, Option.getD_some, hxk, MapKept.run_keyThatStays (K.isKey k), MapKept.run_setObj_map _ hb, Result.andThen]; rfl, ?_, fr _, by simp⟩
  refine ⟨_, _, (MapKept.heap_set hb).1, ?_⟩
  rw [aput_some k v l 0 j u hr]
  have e1 : (es.modify j fun e => { e with key := enc k, val := v }).toList = es.toList.modify j fun e => { e with key := enc k, val := v } := by simp
  rw [e1]
  apply List.ext_getElem?
  intro q
  have hq : (es.toList.map fun e => (e.key, e.val))[q]? = (encL enc l)[q]? := by rw [hl]
  unfold encL at hq ⊢
  simp only [List.getElem?_map, List.getElem?_modify, Nat.sub_zero] at hq ⊢
  by_cases hqj : j = q
  ·subst hqj
   rw [Nat.sub_zero] at h3
   simp [h3, hx, ha]
  ·simp only [hqj, if_false]
   simpa using hq
end
end Go.Proofs.YtliiclmhpphpmaaGreatDoor
namespace Go.Proofs.YtliiclmhpphpmaaGreatDoor
open Go Go.RowKit

inductive En where
 | blk (g : Nat) (T : TypeId) (cs : Array Value)
 | row (v : Value) (T : TypeId) (sz n : Nat) (xs : List Value)
 | map (g : Nat) (l : List (Value × Value))
 | iter (g : Nat) (s : ByteArray) (pos : Nat)
 | ro (D : Nat → Prop) (p : World → Prop)
def En.dom : En → Nat → Prop
 | .blk g _ _, k => k = g
 | .row v _ _ _ _, k => v.ownBlock = some k
 | .map g _, k => k = g
 | .iter g _ _, k => k = g
 | .ro D _, k => D k
def En.own : En → Prop
 | .ro _ _ => False
 | _ => True
def En.holds (w : World) : En → Prop
 | .blk g T cs => Blk w g T cs
 | .row v T sz n xs => w.ownsRow 0 T sz v n xs
 | .map g l => MapB w g l
 | .iter g s pos => w.heap[g]? = some (.stringIter s pos)
 | .ro D p => p w ∧ (∀ k, D k → k < w.heap.size) ∧ ∀ w1 w2 : World, w1.heap.size ≤ w2.heap.size → (∀ k, D k → w2.heap[k]? = w1.heap[k]?) → p w1 → p w2
theorem En.lt {e : En} {w : World} (h : e.holds w) {k : Nat} (hk : e.dom k) : k < w.heap.size := by
 cases e with
 | blk g T cs => cases hk; exact Blk.lt h
 | row v T sz n xs => exact (World.ownsRow.lt h k hk).2
 | map g l => cases hk; exact MapB.lt h
 | iter g s pos => cases hk; exact (Array.getElem?_eq_some_iff.1 h).1
 | ro D p => exact h.2.1 k hk
theorem zEg {w w' : World} {base : Nat} {T : TypeId} {sz n : Nat} {v : Value} {xs : List Value} (h : w.ownsRow base T sz v n xs) (hk : ∀ k, v.ownBlock = some k → w'.heap[k]? = w.heap[k]?) : w'.ownsRow base T sz v n xs := by
 refine ⟨h.1, ?_⟩
 rcases h.2 with h1 | ⟨g, cap, cur, rfl, h1, h2, h3⟩
 ·exact .inl h1
 ·exact .inr ⟨g, cap, cur, rfl, h1, (hk g rfl).trans h2, h3⟩
theorem En.move {e : En} {w w' : World} (h : e.holds w) (hs : w.heap.size ≤ w'.heap.size) (hk : ∀ k, e.dom k → w'.heap[k]? = w.heap[k]?) : e.holds w' := by
 cases e with
 | blk g T cs => exact (hk g rfl).trans h
 | row v T sz n xs => exact zEg h hk
 | map g l =>
  obtain ⟨es, clock, h1, h2⟩ := h
  exact ⟨es, clock, (hk g rfl).trans h1, h2⟩
 | iter g s pos => exact (hk g rfl).trans h
 | ro D p => exact ⟨h.2.2 w w' hs hk h.1, fun k q => Nat.lt_of_lt_of_le (h.2.1 k q) hs, h.2.2⟩
def Apart (a b : En) : Prop := (a.own ∨ b.own) → ∀ k, a.dom k → b.dom k → False
theorem Apart.symm {a b : En} (h : Apart a b) : Apart b a := fun ho k h1 h2 => h ho.symm k h2 h1
structure Own (Z : Bool → Nat → Prop) (w0 W : World) (L : List En) : Prop where
 fr : Frame (Z true) w0 W
 has : ∀ e ∈ L, e.holds W
 dist : L.Pairwise Apart
 free : ∀ e ∈ L, ∀ k, e.dom k → (Z false k ∧ (e.own → Z true k)) ∨ w0.heap.size ≤ k
def Z0 : Bool → Nat → Prop := fun b _ => b = false
def zone (A : List En) : Bool → Nat → Prop
 | true, k => ∃ e ∈ A, e.own ∧ e.dom k
 | false, k => ∃ e ∈ A, e.dom k
section
variable {Z : Bool → Nat → Prop} {w0 W W' : World} {L A R : List En}
theorem Own.start (w : World) : Own Z w w [] := ⟨Frame.refl _ _, fun _ he => (List.not_mem_nil he).elim, List.Pairwise.nil, fun _ he => (List.not_mem_nil he).elim⟩
theorem Own.enter (hh : ∀ e ∈ A, e.holds W) (hd : A.Pairwise Apart) : Own (zone A) W W A :=
 ⟨Frame.refl _ _, hh, hd, fun e he _ hk => .inl ⟨⟨e, he, hk⟩, fun ho => ⟨e, he, ho, hk⟩⟩⟩
theorem Own.step {T : Nat → Prop} {A' : List En} (h : Own Z w0 W (A ++ R)) (fr : Frame T W W') (hT : ∀ k, k < W.heap.size → T k → ∃ e ∈ A, e.own ∧ e.dom k) (hh : ∀ e ∈ A', e.holds W') (hd : A'.Pairwise Apart)
  (hdom : ∀ e ∈ A', ∀ k, e.dom k → (∃ a ∈ A, a.dom k ∧ (e.own → ∃ a ∈ A, a.own ∧ a.dom k)) ∨ W.heap.size ≤ k) : Own Z w0 W' (A' ++ R) := by
 have hp := List.pairwise_append.1 h.dist
 have hsz := h.fr.size
 refine ⟨h.fr.trans fr ?_, ?_, ?_, ?_⟩
 ·intro k hk hT'
  obtain ⟨e, he, ho, hek⟩ := hT k (Nat.lt_of_lt_of_le hk hsz) hT'
  rcases h.free e (List.mem_append_left _ he) k hek with h1 | h1
  ·exact h1.2 ho
  ·omega
 ·intro e he
  rcases List.mem_append.1 he with he | he
  ·exact hh e he
  ·refine En.move (h.has e (List.mem_append_right _ he)) fr.size (fun k hk => fr.block k (En.lt (h.has e (List.mem_append_right _ he)) hk) (fun hT' => ?_))
   obtain ⟨a, ha, ho, hak⟩ := hT k (En.lt (h.has e (List.mem_append_right _ he)) hk) hT'
   exact hp.2.2 a ha e he (.inl ho) k hak hk
 ·refine List.pairwise_append.2 ⟨hd, hp.2.1, fun a' ha' r hr ho k h1 h2 => ?_⟩
  rcases hdom a' ha' k h1 with ⟨a, ha, hak, hown⟩ | hk
  ·rcases ho with ho | ho
   ·obtain ⟨b, hb, hbo, hbk⟩ := hown ho
    exact hp.2.2 b hb r hr (.inl hbo) k hbk h2
   ·exact hp.2.2 a ha r hr (.inr ho) k hak h2
  ·have := En.lt (h.has r (List.mem_append_right _ hr)) h2
   omega
 ·intro e he k hk
  rcases List.mem_append.1 he with he | he
  ·rcases hdom e he k hk with ⟨a, ha, hak, hown⟩ | hk
   ·rcases h.free a (List.mem_append_left _ ha) k hak with h1 | h1
    ·by_cases ho : e.own
     ·obtain ⟨b, hb, hbo, hbk⟩ := hown ho
      rcases h.free b (List.mem_append_left _ hb) k hbk with h3 | h3
      ·exact .inl ⟨h1.1, fun _ => h3.2 hbo⟩
      ·exact .inr h3
     ·exact .inl ⟨h1.1, fun ho' => absurd ho' ho⟩
    ·exact .inr h1
   ·exact .inr (by omega)
  ·exact h.free e (List.mem_append_right _ he) k hk
def pickL (L : List En) : List Nat → List En
 | [] => []
 | i :: r => match L[i]? with
  | some e => e :: pickL L r
  | none => pickL L r
def freshB : List Nat → Bool
 | [] => true
 | i :: r => !(r.contains i) && freshB r
theorem zEf {L : List En} : ∀ {is : List Nat} {e : En}, e ∈ pickL L is → ∃ i ∈ is, L[i]? = some e
 | [], e, h => by cases h
 | i :: r, e, h => by
  unfold pickL at h
  split at h
  ·rename_i e' he
   rcases List.mem_cons.1 h with rfl | h
   ·exact ⟨i, by simp, he⟩
   ·obtain ⟨j, hj, h2⟩ := zEf h
    exact ⟨j, by simp [hj], h2⟩
  ·obtain ⟨j, hj, h2⟩ := zEf h
   exact ⟨j, by simp [hj], h2⟩
theorem pw_get {L : List En} (h : L.Pairwise Apart) {i j : Nat} {a b : En} (hi : L[i]? = some a) (hj : L[j]? = some b) (hne : i ≠ j) : Apart a b := by
 obtain ⟨h1, rfl⟩ := List.getElem?_eq_some_iff.1 hi
 obtain ⟨h2, rfl⟩ := List.getElem?_eq_some_iff.1 hj
 rcases Nat.lt_or_gt_of_ne hne with h3 | h3
 ·exact List.pairwise_iff_getElem.1 h i j h1 h2 h3
 ·exact (List.pairwise_iff_getElem.1 h j i h2 h1 h3).symm
theorem zH4 (h : L.Pairwise Apart) : ∀ {is : List Nat}, freshB is = true → (pickL L is).Pairwise Apart
 | [], _ => List.Pairwise.nil
 | i :: r, hf => by
  simp only [freshB, Bool.and_eq_true, Bool.not_eq_true', List.contains_eq_mem, decide_eq_false_iff_not] at hf
  unfold pickL
  split
  ·rename_i e he
   refine List.Pairwise.cons (fun b hb => ?_) (zH4 h hf.2)
   obtain ⟨j, hj, h2⟩ := zEf hb
   exact pw_get h he h2 (fun e => hf.1 (e ▸ hj))
  ·exact zH4 h hf.2
theorem Own.re (h : Own Z w0 W L) (is : List Nat) (hf : freshB is = true) : Own Z w0 W (pickL L is) :=
 ⟨h.fr, fun e he => by obtain ⟨i, _, h2⟩ := zEf he; exact h.has e (List.mem_of_getElem? h2), zH4 h.dist hf,
  fun e he => by obtain ⟨i, _, h2⟩ := zEf he; exact h.free e (List.mem_of_getElem? h2)⟩
theorem Own.get (h : Own Z w0 W L) (i : Nat) {e : En} (hi : L[i]? = some e) : e.holds W := h.has e (List.mem_of_getElem? hi)
theorem Own.blk (h : Own Z w0 W L) (i : Nat) {g : Nat} {T : TypeId} {cs : Array Value} (hi : L[i]? = some (.blk g T cs)) : Blk W g T cs := h.get i hi
theorem Own.row (h : Own Z w0 W L) (i : Nat) {v : Value} {T : TypeId} {sz n : Nat} {xs : List Value} (hi : L[i]? = some (.row v T sz n xs)) : W.ownsRow 0 T sz v n xs := h.get i hi
theorem Own.map (h : Own Z w0 W L) (i : Nat) {g : Nat} {l : List (Value × Value)} (hi : L[i]? = some (.map g l)) : MapB W g l := h.get i hi
theorem Own.ro (h : Own Z w0 W L) (i : Nat) {D : Nat → Prop} {p : World → Prop} (hi : L[i]? = some (.ro D p)) : p W := (h.get i hi).1
theorem Own.cell (h : Own Z w0 W L) (i j : Nat) {g : Nat} {T : TypeId} {cs : Array Value} {v : Value} (hi : L[i]? = some (.blk g T cs)) (hj : cs[j]? = some v) : W.cell? ⟨g, j, none⟩ = some v := ((h.blk i hi).cell j).trans hj
theorem Own.below (h : Own Z w0 W L) (hb : Below W.heap.size W W') : Own Z w0 W' L :=
 h.step (A := []) (A' := []) (Frame.of_below hb) (fun _ _ hn => hn.elim) (fun e he => by cases he) List.Pairwise.nil (fun e he => by cases he)
theorem Own.drew (h : Own Z w0 W L) : Own Z w0 W.drew L := h.below (Below.refl _ _).drew
theorem Own.add (h : Own Z w0 W L) (hb : Below W.heap.size W W') {e : En} (he : e.holds W') (hd : ∀ k, e.dom k → W.heap.size ≤ k) : Own Z w0 W' (e :: L) :=
 h.step (A := []) (A' := [e]) (Frame.of_below hb) (fun _ _ hn => hn.elim) (fun e' he' => by rw [List.mem_singleton.1 he']; exact he) (List.pairwise_singleton _ _)
  (fun e' he' k hk => .inr (hd k (by rw [← List.mem_singleton.1 he']; exact hk)))
theorem Own.newb (h : Own Z w0 W L) (hb : Below W.heap.size W W') {g : Nat} {T : TypeId} {cs : Array Value} (hk : Blk W' g T cs) (hg : W.heap.size = g) : Own Z w0 W' (.blk g T cs :: L) :=
 h.add hb (e := .blk g T cs) hk (fun k q => by cases q; omega)
theorem Own.nilrow (h : Own Z w0 W L) (T : TypeId) (sz : Nat) : Own Z w0 W (.row (.slice none 0 0) T sz 0 [] :: L) :=
 h.add (Below.refl _ _) (e := .row (.slice none 0 0) T sz 0 []) (World.ownsRow_nil W 0 T sz) (fun k q => by cases q)
theorem Own.one {T : Nat → Prop} {e e' : En} (h : Own Z w0 W (e :: L)) (fr : Frame T W W') (ho : e.own) (hT : ∀ k, k < W.heap.size → T k → e.dom k) (hh : e'.holds W') (hd : ∀ k, e'.dom k → e.dom k ∨ W.heap.size ≤ k) : Own Z w0 W' (e' :: L) :=
 Own.step (A := [e]) (A' := [e']) h fr (fun k hk q => ⟨e, by simp, ho, hT k hk q⟩) (fun x hx => by rw [List.mem_singleton.1 hx]; exact hh) (List.pairwise_singleton _ _)
  (fun x hx k hk => by
   rw [List.mem_singleton.1 hx] at hk
   rcases hd k hk with h1 | h1
   ·exact .inl ⟨e, by simp, h1, fun _ => ⟨e, by simp, ho, h1⟩⟩
   ·exact .inr h1)
theorem Own.put {g : Nat} {T : TypeId} {cs : Array Value} (h : Own Z w0 W (.blk g T cs :: L)) (i : Nat) (u : Value) : Own Z w0 (W.setCell ⟨g, i, none⟩ u) (.blk g T (cs.setIfInBounds i u) :: L) :=
 h.one (Frame.put W g i u) trivial (fun _ _ q => q) ((h.blk 0 rfl).put i u) (fun _ q => .inl q)
theorem Own.app {T : TypeId} {sz n m : Nat} {v v' : Value} {xs ys : List Value} (h : Own Z w0 W (.row v T sz n xs :: L)) (hr : W'.ownsRow 0 T sz v' m ys) (fr : Frame (fun k => some k = v.ownBlock) W W') (hv : v'.ownBlock = v.ownBlock ∨ v'.ownBlock = some W.heap.size) :
  Own Z w0 W' (.row v' T sz m ys :: L) :=
 h.one fr trivial (fun _ _ q => q.symm) hr (fun k q => by
  rcases hv with e | e
  ·exact .inl (show v.ownBlock = some k from e ▸ q)
  ·have q' : v'.ownBlock = some k := q
   rw [e] at q'
   injection q' with q'
   exact .inr (Nat.le_of_eq q'))
theorem Own.mapput {g : Nat} {l l' : List (Value × Value)} (h : Own Z w0 W (.map g l :: L)) (hm : MapB W' g l') (fr : Frame (fun k => k = g) W W') : Own Z w0 W' (.map g l' :: L) :=
 h.one fr trivial (fun _ _ q => q) hm (fun _ q => .inl q)
theorem Own.frame {A' : List En} (h : Own Z w0 W (A ++ R)) (h' : Own (zone A) W W' A') : Own Z w0 W' (A' ++ R) :=
 h.step h'.fr (fun _ _ q => q) h'.has h'.dist (fun e he k hk => by
  rcases h'.free e he k hk with ⟨⟨a, ha, hak⟩, h2⟩ | h1
  ·exact .inl ⟨a, ha, hak, h2⟩
  ·exact .inr h1)
theorem Own.hand (h : Own Z w0 W (A ++ R)) : Own (zone A) W W A :=
 Own.enter (fun e he => h.has e (List.mem_append_left _ he)) (List.pairwise_append.1 h.dist).1
theorem Own.old (h : Own Z0 w0 W L) : Below w0.heap.size w0 W := h.fr.below (Nat.le_refl _) (fun k _ q => by cases q)
theorem Own.as {e e' : En} (h : Own Z w0 W (e :: L)) (hh : e'.holds W) (hd : ∀ k, e'.dom k → e.dom k) (ho : e'.own → e.own) : Own Z w0 W (e' :: L) :=
 Own.step (A := [e]) (A' := [e']) h (Frame.refl NoB _) (fun _ _ hn => hn.elim) (fun x hx => by rw [List.mem_singleton.1 hx]; exact hh) (List.pairwise_singleton _ _)
  (fun x hx k hk => by
   rw [List.mem_singleton.1 hx] at hk
   refine .inl ⟨e, by simp, hd k hk, fun hx' => ⟨e, by simp, ho ?_, hd k hk⟩⟩
   rw [← List.mem_singleton.1 hx]; exact hx')
end
end Go.Proofs.YtliiclmhpphpmaaGreatDoor
namespace Go.Proofs.YtliiclmhpphpmaaGreatDoor
open Go Go.RowKit

def isAggD : TypeDesc → Bool
 | .struct _ => true
 | .array _ _ => true
 | _ => false
structure TyB (T : TypeId) (n : Nat) (b : Bool) : Prop where
 size : (Tryz.prog.info? T).map (·.size) = some n
 agg : (Tryz.prog.underlying T).map isAggD = some b
def ZeroB (T : TypeId) (z : Value) : Prop := (Tryz.prog.info? T).map (·.zero) = some (some z)
structure ElB (T e : TypeId) (n : Nat) : Prop where
 elem : Tryz.prog.underlying T = some (.slice e)
 size : (Tryz.prog.info? e).map (·.size) = some n
structure FieldB (T : TypeId) (f off : Nat) : Prop where
 at_ : ∃ fs F, Tryz.prog.underlying T = some (.struct fs) ∧ fs[f]? = some F ∧ F.offset = off ∧ ∃ n, (Tryz.prog.info? F.type).map (·.size) = some (n + 1)
theorem map_size {o : Option TypeInfo} {n : Nat} (h : o.map (·.size) = some n) : ∃ i, o = some i ∧ i.size = n := by
 cases o with
 | none => cases h
 | some i => exact ⟨i, rfl, Option.some.inj h⟩
section
variable {w : World} {T : TypeId} {n : Nat} {b : Bool}
theorem zG4 (h : TyB T n b) : (isAgg T).run Tryz.prog w = .ok b w := by
 have h2 := h.agg
 cases hd : Tryz.prog.underlying T with
 | none => rw [hd] at h2; cases h2
 | some d =>
  rw [hd] at h2
  have h3 : isAggD d = b := Option.some.inj h2
  clear h2
  unfold isAgg
  simp only [Sem.run_bind, run_underlying hd, Result.andThen_ok]
  rw [← h3]
  cases d <;> rfl
theorem zCc (h : (Tryz.prog.info? T).map (·.size) = some n) : (Go.sizeOf T).run Tryz.prog w = .ok n w := by
 obtain ⟨i, hi, rfl⟩ := map_size h
 simp [Go.sizeOf, typeInfo, hi]
theorem zEd {z : Value} (h : ZeroB T z) : (zeroValue T).run Tryz.prog w = .ok z w := by
 unfold ZeroB at h
 cases hi : Tryz.prog.info? T with
 | none => rw [hi] at h; cases h
 | some i =>
  rw [hi] at h
  simp at h
  simp [zeroValue, typeInfo, hi, h]
theorem zCj (g o i : Nat) : (⟨g, o, none⟩ : Addr).add i = ⟨g, o + i, none⟩ := by unfold Addr.add; split <;> simp_all
theorem zEe (g o : Nat) (vs : List Value) (h : ∀ j v, vs[j]? = some v → w.cell? ⟨g, o + j, none⟩ = some v) : ∀ (n i : Nat) (acc : Array Value), i + n = vs.length → (loadCellsFrom ⟨g, o, none⟩ i n acc).run Tryz.prog w = .ok (acc ++ (vs.drop i).toArray) w
 | 0, i, acc, hn => by
  rw [List.drop_eq_nil_of_le (by omega)]
  simp [loadCellsFrom]
 | n + 1, i, acc, hn => by
  have hi : i < vs.length := by omega
  have hc := h i vs[i] (List.getElem?_eq_getElem hi)
  unfold loadCellsFrom
  simp only [Sem.run_bind, zCj, run_load, hc, Result.andThen_ok]
  rw [zEe g o vs h n (i + 1) _ (by omega), List.drop_eq_getElem_cons hi]
  simp
end
def cmpB (op : BinOp) (u v : Int) : Option Bool := match op with
 | .eql => some (u == v)
 | .neq => some (u != v)
 | .lss => some (decide (u < v))
 | .leq => some (decide (u ≤ v))
 | .gtr => some (decide (v < u))
 | .geq => some (decide (v ≤ u))
 | _ => none
section
variable {u v : Int}
theorem eql1 (h : u = v) : cmpB .eql u v = some true := by simp [cmpB, h]
theorem eql0 (h : u ≠ v) : cmpB .eql u v = some false := by simp [cmpB, h]
theorem neq1 (h : u ≠ v) : cmpB .neq u v = some true := by simp [cmpB, h]
theorem neq0 (h : u = v) : cmpB .neq u v = some false := by simp [cmpB, h]
theorem lss1 (h : u < v) : cmpB .lss u v = some true := by simp [cmpB, h]
theorem lss0 (h : v ≤ u) : cmpB .lss u v = some false := by simp [cmpB]; omega
theorem leq1 (h : u ≤ v) : cmpB .leq u v = some true := by simp [cmpB, h]
theorem leq0 (h : v < u) : cmpB .leq u v = some false := by simp [cmpB]; omega
theorem gtr1 (h : v < u) : cmpB .gtr u v = some true := by simp [cmpB, h]
theorem gtr0 (h : u ≤ v) : cmpB .gtr u v = some false := by simp [cmpB]; omega
theorem geq1 (h : v ≤ u) : cmpB .geq u v = some true := by simp [cmpB, h]
theorem geq0 (h : u < v) : cmpB .geq u v = some false := by simp [cmpB]; omega
end
def putN (w : World) (g o : Nat) : List Value → World
 | [] => w
 | v :: r => putN (w.setCell ⟨g, o, none⟩ v) g (o + 1) r
def setN (cs : Array Value) (o : Nat) : List Value → Array Value
 | [] => cs
 | v :: r => setN (cs.setIfInBounds o v) (o + 1) r
theorem run_storeFrom (g o : Nat) (T : TypeId) : ∀ (vs : List Value) (w : World) (cs : Array Value) (i : Nat), Blk w g T cs → o + i + vs.length ≤ cs.size → (∀ v ∈ vs, v.oneCell' = true) → (storeCells ⟨g, o, none⟩ vs i).run Tryz.prog w = .ok () (putN w g (o + i) vs)
 | [], w, cs, i, _, _, _ => by simp [storeCells, putN]
 | v :: r, w, cs, i, hk, hn, h1 => by
  have hi : o + i < cs.size := by simp at hn; omega
  unfold storeCells putN
  have hc := hk.cell (o + i)
  rw [Array.getElem?_eq_getElem hi] at hc
  simp only [Sem.run_bind, zCj, run_store _ _ _ _ _ (h1 v (by simp)), hc, hk.free, Bool.false_eq_true, if_false, Result.andThen_ok]
  have := run_storeFrom g o T r (w.setCell ⟨g, o + i, none⟩ v) (cs.setIfInBounds (o + i) v) (i + 1) (hk.put _ _) (by simp at hn ⊢; omega) (fun u hu => h1 u (by simp [hu]))
  rw [this, Nat.add_assoc]
section
variable {ρ : Operand → Value} {d : Option Tmp} {x y z : Operand} {t T : TypeId} {pos : String} {aft : Array Edge} {gd : Option (Nat × Bool)} {w : World} {n : Nat} {b : Bool}
theorem zAm {p : Addr} {v : Value} (hT : TyB T 1 false) (hx : ρ x = .pointer (some p)) (h : w.cell? p = some v) : (execOp ρ ⟨d, .load T x, t, pos, aft, gd⟩).run Tryz.prog w = .ok (.value v) w := by
 simp [execOp, Instr.loadAt, Instr.sureAddr, loadVar, hx, zG4 hT, h]
theorem zAk {g o : Nat} {vs : List Value} (hT : TyB T n true) (hx : ρ x = .pointer (some ⟨g, o, none⟩)) (hn : vs.length = n) (h : ∀ j v, vs[j]? = some v → w.cell? ⟨g, o + j, none⟩ = some v) : (execOp ρ ⟨d, .load T x, t, pos, aft, gd⟩).run Tryz.prog w = .ok (.value (.agg vs.toArray)) w := by
 have := zEe g o vs h n 0 #[] (by omega)
 simp [execOp, Instr.loadAt, Instr.sureAddr, loadVar, hx, zG4 hT, zCc hT.size, loadCells, this]
theorem cells2 {g o : Nat} {a b : Value} (h0 : w.cell? ⟨g, o, none⟩ = some a) (h1 : w.cell? ⟨g, o + 1, none⟩ = some b) : ∀ j v, [a, b][j]? = some v → w.cell? ⟨g, o + j, none⟩ = some v := by
 intro j v hj
 match j, hj with
 | 0, hj => injection hj with hj; subst hj; exact h0
 | 1, hj => injection hj with hj; subst hj; exact h1
theorem cells3 {g o : Nat} {a b c : Value} (h0 : w.cell? ⟨g, o, none⟩ = some a) (h1 : w.cell? ⟨g, o + 1, none⟩ = some b) (h2 : w.cell? ⟨g, o + 2, none⟩ = some c) : ∀ j v, [a, b, c][j]? = some v → w.cell? ⟨g, o + j, none⟩ = some v := by
 intro j v hj
 match j, hj with
 | 0, hj => injection hj with hj; subst hj; exact h0
 | 1, hj => injection hj with hj; subst hj; exact h1
 | 2, hj => injection hj with hj; subst hj; exact h2
theorem zA9 {g o q m c i e sz : Nat} (hT : ElB T e sz) (hx : ρ x = .slice (some ⟨g, o, none⟩) m c) (hy : ρ y = .int .i64 (i : Int)) (h1 : i < m) (hq : o + i * sz = q) : (execOp ρ ⟨d, .indexAddr T x y, t, pos, aft, gd⟩).run Tryz.prog w = .ok (.value (.pointer (some ⟨g, q, none⟩))) w := by
 subst hq
 simp [execOp, Instr.indexAt, hx, hy, asIntOf, run_underlying hT.elem, h1, zCc hT.size, zCj]
theorem zBd {g o q f off : Nat} (hT : FieldB T f off) (hx : ρ x = .pointer (some ⟨g, o, none⟩)) (hq : o + off = q) : (execOp ρ ⟨d, .fieldAddr T x f, t, pos, aft, gd⟩).run Tryz.prog w = .ok (.value (.pointer (some ⟨g, q, none⟩))) w := by
 obtain ⟨fs, F, hu, hf, rfl, k, hk⟩ := hT.at_
 subst hq
 simp [execOp, Instr.fieldAt, Instr.sureAddr, hx, run_underlying hu, hf, fieldPlace, zCc hk, zCj]
theorem ex_nil {g o : Nat} (hx : ρ x = .pointer (some ⟨g, o, none⟩)) : (execOp ρ ⟨d, .nilCheck x, t, pos, aft, gd⟩).run Tryz.prog w = .ok (.value (.pointer (some ⟨g, o, none⟩))) w := by
 simp [execOp, hx]
theorem zGn {A : Option Addr} {k c e sz : Nat} (hT : ElB T e sz) (hx : ρ x = .slice A k c) : (execOp ρ ⟨d, .call ⟨.builtin .len, #[x], #[T]⟩, t, pos, aft, gd⟩).run Tryz.prog w = .ok (.value (.int .i64 (k : Int))) w := by
 simp [go_sem, hx, hT.elem]
theorem zCx {op : BinOp} {k : IntKind} {u v : Int} {r : Bool} {T1 : TypeId} (hx : ρ x = .int k u) (hy : ρ y = .int k v) (h : cmpB op u v = some r) :
  (execOp ρ ⟨d, .binOp op T x y T1, t, pos, aft, gd⟩).run Tryz.prog w = .ok (.value (.bool r)) w := by
 cases op <;> first | (cases h; done) | skip
 all_goals injection h with h
 all_goals subst h
 all_goals simp [execOp, hx, hy, eqGuard, binOp, Op.intCmp]
end
end Go.Proofs.YtliiclmhpphpmaaGreatDoor
namespace Go.Proofs.YtliiclmhpphpmaaGreatDoor
open Go Go.RowKit

structure El (te e : TypeId) (size bytes : Nat) (z : Value) : Prop where
 under : Tryz.prog.underlying te = some (.slice e)
 info : (Tryz.prog.info? e).map (fun i => (i.zero, i.size, i.bytes)) = some (some z, size, bytes)
 cells : z.cells.size = size
 pos : 0 < size
section
variable {te e : TypeId} {size bytes : Nat} {z : Value}
theorem exec_append {ρ : Operand → Value} {d : Option Tmp} {x y : Operand} {t : TypeId} {pos : String} {aft : Array Edge} {gd : Option (Nat × Bool)} {w w' : World} {v u V : Value} (hx : ρ x = v) (hy : ρ y = u) (h : (Builtin.append_ #[te, te] t #[v, u]).run Tryz.prog w = .ok V w') :
  (execOp ρ ⟨d, .call ⟨.builtin .append, #[x, y], #[te, te]⟩, t, pos, aft, gd⟩).run Tryz.prog w = .ok (.value V) w' := by
 unfold execOp
 simp only [resolve, invoke, builtin, Sem.run_bind, Sem.run_pure, Result.andThen_ok, List.map_toArray, List.map_cons, List.map_nil, hx, hy, h]
end
section
variable {te e : TypeId} {size bytes : Nat} {z : Value} {ops : Array Oper} {Q : Exit → Act → World → Prop} {S : World → Prop} {r : List (Nat × Nat)} {rest : List Oper} {n : Nat} {m : List (Nat × Value)} {w : World} {i d : Nat} {t : TypeId} {pos : String} {aft : Array Edge} {gd : Option (Nat × Bool)}
variable {x y : Operand} {v : Value} {k g base : Nat} {xs cells : List Value}
end
end Go.Proofs.YtliiclmhpphpmaaGreatDoor
namespace Go.Proofs.YtliiclmhpphpmaaGreatDoor
open Go Go.RowKit

def evp (m : List (Nat × Value)) : List (Nat × Operand) → Option (List (Nat × Value))
 | [] => some []
 | (i, x) :: l => match ev m x, evp m l with
  | some v, some r => some ((i, v) :: r)
  | _, _ => none
theorem Reads.parts {m : List (Nat × Value)} {ρ : Operand → Value} (h : Reads m ρ) : ∀ {l : List (Nat × Operand)} {vs : List (Nat × Value)}, evp m l = some vs → l.map (fun p => (p.1, ρ p.2)) = vs
 | [], vs, hx => by simp only [evp, Option.some.injEq] at hx; subst hx; rfl
 | (i, x) :: l, vs, hx => by
  simp only [evp] at hx
  split at hx
  ·rename_i v r hv hr
   injection hx with hx
   subst hx
   simp only [List.map_cons, h x v hv, h.parts hr]
  ·cases hx
structure StB (T : TypeId) (places : Array (Nat × Nat)) (zero : Array Value) : Prop where
 z : ∃ zv, ZeroB T zv ∧ zv.cells = zero
 st : ∃ fs, Tryz.prog.underlying T = some (.struct fs) ∧ ∀ w, (fs.mapM fun f => do pure (f.offset, ← Go.sizeOf f.type) : Sem (Array (Nat × Nat))).run Tryz.prog w = .ok places w
def lookV (r : Option (Nat × Value)) (z : Value) : Value := match r with
 | some p => p.2
 | none => z
def rowFill (n sz : Nat) (z : Value) (ps : List (Nat × Value)) : Option (Array Value) :=
 Instr.fill (fun i => some (i * sz, sz)) ((Array.range (n * sz)).map ((if n * sz = 0 then #[] else z.cells)[· % (if n * sz = 0 then #[] else z.cells).size]!)) ps
section
variable {Z : Bool → Nat → Prop} {w0 w : World} {L : List En}
theorem zBe {ρ : Operand → Value} {d : Option Tmp} {t T : TypeId} {pos : String} {aft : Array Edge} {gd : Option (Nat × Bool)} {places : Array (Nat × Nat)} {zero cells : Array Value} {xs : List (Nat × Operand)} {ps : List (Nat × Value)} (hS : StB T places zero) (hx : xs.map (fun p => (p.1, ρ p.2)) = ps) (hf : Instr.fill (places[·]?) zero ps = some cells) :
  (execOp ρ ⟨d, .build T xs.toArray, t, pos, aft, gd⟩).run Tryz.prog w = .ok (.value (.agg cells)) w := by
 obtain ⟨⟨zv, hz, rfl⟩, fs, hu, hp⟩ := hS
 subst hx
 simp only [execOp, Instr.build, Sem.run_bind, zEd hz, run_underlying hu, hp, Result.andThen_ok, List.map_toArray]
 rw [hf]
 rfl
structure ArB (T : TypeId) (sz : Nat) (zero : Array Value) : Prop where
 z : ∃ zv, ZeroB T zv ∧ zv.cells = zero
 st : ∃ n e, Tryz.prog.underlying T = some (.array n e) ∧ (Tryz.prog.info? e).map (·.size) = some sz
theorem zBl {ρ : Operand → Value} {d : Option Tmp} {t T sz : TypeId} {pos : String} {aft : Array Edge} {gd : Option (Nat × Bool)} {zero cells : Array Value} {xs : List (Nat × Operand)} {ps : List (Nat × Value)} (hS : ArB T sz zero) (hx : xs.map (fun p => (p.1, ρ p.2)) = ps) (hf : Instr.fill (fun i => some (i * sz, sz)) zero ps = some cells) :
  (execOp ρ ⟨d, .build T xs.toArray, t, pos, aft, gd⟩).run Tryz.prog w = .ok (.value (.agg cells)) w := by
 obtain ⟨⟨zv, hz, rfl⟩, n, e, hu, hp⟩ := hS
 subst hx
 simp only [execOp, Instr.build, Sem.run_bind, zEd hz, run_underlying hu, zCc hp, Result.andThen_ok, List.map_toArray]
 rw [hf]
 rfl
theorem zA5 (hO : Own Z w0 w L) (T : TypeId) (v : Value) {cs : Array Value} (hc : v.cells = cs) :
  ∃ g w', (∀ (ρ : Operand → Value) x d t pos aft gd, ρ x = v → (execOp ρ ⟨d, .box T x, t, pos, aft, gd⟩).run Tryz.prog w = .ok (.value (.pointer (some ⟨g, 0, none⟩))) w') ∧ Own Z w0 w' (.blk g T cs :: L) ∧ w.heap.size = g ∧ w'.heap.size = g + 1 := by
 subst hc
 refine ⟨w.heap.size, w.alloc (.cells v.cells T), fun ρ x d t pos aft gd hx => ?_, hO.newb ((Below.refl _ _).alloc (Nat.le_refl _) _) (Blk.new _ _ _) rfl, rfl, by simp⟩
 simp [execOp, Instr.box, newVar, newRow, hx]
theorem zAw (hO : Own Z w0 w L) (T : TypeId) {z : Value} (hz : ZeroB T z) {cs : Array Value} (hc : z.cells = cs) :
  ∃ g w', (∀ (ρ : Operand → Value) d t pos aft gd, (execOp ρ ⟨d, .alloc T, t, pos, aft, gd⟩).run Tryz.prog w = .ok (.value (.pointer (some ⟨g, 0, none⟩))) w') ∧ Own Z w0 w' (.blk g T cs :: L) ∧ w.heap.size = g ∧ w'.heap.size = g + 1 := by
 subst hc
 refine ⟨w.heap.size, w.alloc (.cells z.cells T), fun ρ d t pos aft gd => ?_, hO.newb ((Below.refl _ _).alloc (Nat.le_refl _) _) (Blk.new _ _ _) rfl, rfl, by simp⟩
 simp [execOp, Instr.alloc, newVar, newRow, zEd hz]
theorem zBg (hO : Own Z w0 w L) {T e sz : Nat} (hT : ElB T e sz) {z : Value} (hz : ZeroB e z) (n : Nat) (ps : List (Nat × Value)) {cs : Array Value} (hn : n * sz ≤ 16777216) (hc : rowFill n sz z ps = some cs) :
  ∃ g w', (∀ (ρ : Operand → Value) (xs : List (Nat × Operand)) d t pos aft gd, xs.map (fun p => (p.1, ρ p.2)) = ps → (execOp ρ ⟨d, .buildSlice T n xs.toArray, t, pos, aft, gd⟩).run Tryz.prog w = .ok (.value (.slice (some ⟨g, 0, none⟩) n n)) w') ∧ Own Z w0 w' (.blk g e cs :: L) ∧ w.heap.size = g ∧ w'.heap.size = g + 1 := by
 refine ⟨w.heap.size, w.alloc (.cells cs e), fun ρ xs d t pos aft gd hx => ?_, hO.newb ((Below.refl _ _).alloc (Nat.le_refl _) _) (Blk.new _ _ _) rfl, rfl, by simp⟩
 subst hx
 unfold rowFill at hc
 by_cases h0 : n * sz = 0
 ·simp only [if_pos h0] at hc
  simp only [execOp, Instr.buildSlice, Sem.run_bind, run_underlying hT.elem, zCc hT.size, Result.andThen_ok, List.map_toArray, if_neg (show ¬ (n * sz > 2 ^ 24) by omega), if_pos h0, Sem.run_pure]
  rw [hc]
  simp [newRow]
 ·simp only [if_neg h0] at hc
  simp only [execOp, Instr.buildSlice, Sem.run_bind, run_underlying hT.elem, zCc hT.size, Result.andThen_ok, List.map_toArray, if_neg (show ¬ (n * sz > 2 ^ 24) by omega), if_neg h0, zEd hz, Sem.run_pure]
  rw [hc]
  simp [newRow]
theorem blk_putN {g : Nat} {T : TypeId} : ∀ (vs : List Value) {w : World} {cs : Array Value} {o : Nat}, Own Z w0 w (.blk g T cs :: L) → Own Z w0 (putN w g o vs) (.blk g T (setN cs o vs) :: L)
 | [], _, _, _, h => h
 | v :: r, _, _, o, h => blk_putN r (h.put o v)
theorem putN_size (g : Nat) : ∀ (vs : List Value) (w : World) (o : Nat), (putN w g o vs).heap.size = w.heap.size
 | [], _, _ => rfl
 | v :: r, w, o => by unfold putN; rw [putN_size g r]; simp [World.setCell]
theorem zAp {g o n : Nat} {b : Bool} {T T' : TypeId} {cs cs' : Array Value} (hO : Own Z w0 w (.blk g T' cs :: L)) (hT : TyB T n b) (v : Value) (vs : List Value) (hv : v.cells.toList = vs) (h1 : vs.all (·.oneCell') = true) (hn : vs.length = n) (hc : o + n ≤ cs.size) (hcs : setN cs o vs = cs') :
  ∃ w', (∀ (ρ : Operand → Value) x y t pos aft gd, ρ x = .pointer (some ⟨g, o, none⟩) → ρ y = v → (execOp ρ ⟨none, .store T x y, t, pos, aft, gd⟩).run Tryz.prog w = .ok .skip w') ∧ Own Z w0 w' (.blk g T' cs' :: L) ∧ w'.heap.size = w.heap.size := by
 subst hcs
 refine ⟨putN w g o vs, fun ρ x y t pos aft gd hx hy => ?_, blk_putN vs hO, putN_size g vs w o⟩
 have h2 := run_storeFrom g o T' vs w cs 0 (hO.blk 0 rfl) (by omega) (fun u hu => by simpa using List.all_eq_true.1 h1 u hu)
 have h3 : v.cells.size = n := by rw [← hn, ← hv]; simp
 simp only [execOp, Instr.storeAt, Instr.sureAddr, hx, hy, storeVar, Sem.run_bind, Sem.run_pure, Result.andThen_ok, zCc hT.size, h3, ne_eq, not_true, if_false, hv, h2, Nat.add_zero]
theorem zC5 {te e : TypeId} {size bytes : Nat} {z v : Value} {k g : Nat} {xs cells : List Value} (hO : Own Z w0 w (.row v e size k xs :: L)) (E : El te e size bytes z) (hk : Blk w g e cells.toArray) (hl : cells.length = size) (h1 : cells.all (·.oneCell') = true) (hlen : (k + 1) * bytes ≤ 140737488355328) (hn : k ≤ 1099511627776) {ys : List Value} (hy : xs ++ cells = ys) :
  ∃ A c w', (∀ (ρ : Operand → Value) x y d t pos aft gd, ρ x = v → ρ y = .slice (some ⟨g, 0, none⟩) 1 1 → (execOp ρ ⟨d, .call ⟨.builtin .append, #[x, y], #[te, te]⟩, t, pos, aft, gd⟩).run Tryz.prog w = .ok (.value (.slice A (k + 1) c)) w') ∧
   Own Z w0 w' (.row (.slice A (k + 1) c) e size (k + 1) ys :: L) ∧ w.heap.size ≤ w'.heap.size ∧ k + 1 ≤ c := by
 subst hy
 obtain ⟨i, hi, hz, hsz, hb⟩ := info_parts E.info
 have hown := hO.row 0 rfl
 obtain ⟨v', w', hrun, h2, h3, _, h5⟩ := run_append_own_at (P := Tryz.prog) (w := w) 0 te 0 e i _ size bytes E.under hi hz hsz hb E.cells E.pos v _ _ hown ⟨g, 0, none⟩ 1 1 cells (by omega)
  (fun j u hu => by
   rw [zCj, Nat.zero_add, hk.cell j]
   simpa using hu)
  (fun u hu => by simpa using List.all_eq_true.1 h1 u hu) (by unfold maxLen; omega) hlen (Nat.zero_le _)
 obtain ⟨A, c, rfl⟩ := zGp h2
 have hcap : k + 1 ≤ c := by
  rcases h2.2 with ⟨_, h6⟩ | ⟨g', cap, cur, h6, _, _, h7, _⟩
  ·omega
  ·injection h6 with _ _ h6
   omega
 refine ⟨A, c, w', fun ρ x y d t pos aft gd hx hy => ?_, hO.app h2 (.grown h3) h5, h3.size, hcap⟩
 exact exec_append hx hy (by
  have : ∀ ty ty', Builtin.append_ #[te, te] ty #[v, .slice (some ⟨g, 0, none⟩) 1 1] = Builtin.append_ #[te, te] ty' #[v, .slice (some ⟨g, 0, none⟩) 1 1] := fun _ _ => rfl
  rw [this t 0]
  exact hrun)
theorem zE8 (hO : Own Z w0 w L) (T : TypeId) :
  ∃ g w', (∀ (ρ : Operand → Value) d t pos aft gd, (execOp ρ ⟨d, .makeMap T none, t, pos, aft, gd⟩).run Tryz.prog w = .ok (.value (.map (some g))) w') ∧ Own Z w0 w' (.map g [] :: L) ∧ w.heap.size = g ∧ w'.heap.size = g + 1 := by
 refine ⟨w.heap.size, w.alloc (.map #[] 0), fun ρ d t pos aft gd => ?_, hO.add ((Below.refl _ _).alloc (Nat.le_refl _) _) (e := .map w.heap.size []) ⟨#[], 0, heap_alloc_new w _, rfl⟩ (fun k q => Nat.le_of_eq q.symm), rfl, by simp⟩
 simp [execOp, Instr.makeMap]
section
variable {κ : Type} [DecidableEq κ] {enc : κ → Value} {kind : TypeDesc} {T kt e : TypeId} {g : Nat} {l : List (κ × Value)}
theorem zI9 {ρ : Operand → Value} {x y : Operand} {d : Option Tmp} {t : TypeId} {pos : String} {aft : Array Edge} {gd : Option (Nat × Bool)} (K : Key enc kind) (ht : Tryz.prog.underlying T = some (.map kt e)) (hk : Tryz.prog.underlying kt = some kind) {z : Value} (hz : ZeroB e z) (h : MapB w g (encL enc l)) (k : κ) {r : Option (Nat × Value)} (hr : look k l 0 = r) (ok : Bool) (hx : ρ x = .map (some g)) (hy : ρ y = enc k) {V : Value} (hV : (if ok then .tuple #[lookV r z, .bool r.isSome] else lookV r z) = V) :
  (execOp ρ ⟨d, .lookup T x y ok, t, pos, aft, gd⟩).run Tryz.prog w = .ok (.value V) w := by
 subst hV
 have := run_look K ht hk h k hr (zEd hz (w := w)) ok
 cases r <;> simp only [execOp, hx, hy, Sem.run_bind, this, Result.andThen_ok, Sem.run_pure] <;> rfl
theorem zCq (hO : Own Z w0 w (.map g (encL enc l) :: L)) (K : Key enc kind) (ht : Tryz.prog.underlying T = some (.map kt e)) (hk : Tryz.prog.underlying kt = some kind) (k : κ) (v : Value) :
  ∃ w', (∀ (ρ : Operand → Value) x y z t pos aft gd, ρ x = .map (some g) → ρ y = enc k → ρ z = v → (execOp ρ ⟨none, .mapUpdate T x y z, t, pos, aft, gd⟩).run Tryz.prog w = .ok .skip w') ∧ Own Z w0 w' (.map g (encL enc (aput k v l)) :: L) ∧ w'.heap.size = w.heap.size := by
 obtain ⟨w', h1, h2, h3, h4⟩ := run_put K ht hk (hO.map 0 rfl) k v
 refine ⟨w', fun ρ x y z t pos aft gd hx hy hz => ?_, hO.mapput h2 h3, h4⟩
 simp only [execOp, hx, hy, hz, Sem.run_bind, h1, Result.andThen_ok, Sem.run_pure]
end
end
section
variable {ρ : Operand → Value} {d : Option Tmp} {x y z : Operand} {t T : TypeId} {pos : String} {aft : Array Edge} {gd : Option (Nat × Bool)} {w : World}
theorem zB2 {fn : Fn} {xs ys : List Operand} {us vs : List Value} (hx : xs.map ρ = us) (hy : ys.map ρ = vs) : (execOp ρ ⟨d, .makeFunc fn xs.toArray ys.toArray, t, pos, aft, gd⟩).run Tryz.prog w = .ok (.value (.func fn us.toArray vs.toArray)) w := by
 subst hx hy
 simp [execOp, Instr.makeFunc]
theorem zAi {op : BinOp} {k : IntKind} {u v r : Int} {T1 : TypeId} (hx : ρ x = .int k u) (hy : ρ y = .int k v) (h : (match op with | .add => some (k.wrap (u + v)) | .sub => some (k.wrap (u - v)) | .mul => some (k.wrap (u * v)) | _ => none) = some r) :
  (execOp ρ ⟨d, .binOp op T x y T1, t, pos, aft, gd⟩).run Tryz.prog w = .ok (.value (.int k r)) w := by
 cases op <;> first | (cases h; done) | skip
 all_goals injection h with h
 all_goals simp [execOp, hx, hy, eqGuard, binOp, Op.intArith, h]
theorem zGw {v : Int} (hx : ρ x = .int .i64 v) (h : IntKind.i64.wrap (-v) = -v) : (execOp ρ ⟨d, .unOp .neg T x, t, pos, aft, gd⟩).run Tryz.prog w = .ok (.value (.int .i64 (-v))) w := by
 simp [execOp, hx, Op.unary, Op.intArith, h]
theorem zBw {b : Bool} (hx : ρ x = .bool b) : (execOp ρ ⟨d, .unOp .not T x, t, pos, aft, gd⟩).run Tryz.prog w = .ok (.value (.bool (!b))) w := by
 simp [execOp, hx, Op.unary]
end
section
variable {P : Program} {ops : Array Oper} {Q : Exit → Act → World → Prop} {S : World → Prop} {r : List (Nat × Nat)} {rest : List Oper} {n : Nat} {m : List (Nat × Value)} {w : World} {i d : Nat} {t : TypeId} {pos : String} {aft : Array Edge} {gd : Option (Nat × Bool)}
theorem zGc {ρ : Operand → Value} {d : Option Tmp} {f : FuncId} {c : Operand} {xs : Array Operand} {ts : Array TypeId} {first cap args all : Array Value} (he : Enters P f) (hf : ρ c = .func (.func f) first cap) (h : xs.map ρ = args) (ha : first ++ args ++ cap = all) : (execOp ρ ⟨d, .call ⟨.value c, xs, ts⟩, t, pos, aft, gd⟩).run P w = .ok (.enter f all) w := by
 subst h ha
 simp only [execOp, resolve, hf, Deferred.ofValue, Sem.run_bind, Sem.run_pure, Result.andThen_ok, invoke]
 exact he _ _
theorem zBz {f : FuncId} {c : Operand} {first cap : Array Value} {xs : List Operand} {ts : Array TypeId} {args all : List Value} (he : Enters P f) (hc : ev m c = some (.func (.func f) first cap)) (hargs : evs m xs = some args) (ha : first ++ args.toArray ++ cap = all.toArray) (hg : wantedM ops m gd = some true) (hd : Nat.blt d n = true)
  (h : Calls P f all.toArray w fun e w' => ∃ v, e = .returned v ∧ wl P ops Q rest n ((d, v) :: m) w') :
  wl P ops Q (⟨some d, .call ⟨.value c, xs.toArray, ts⟩, t, pos, aft, gd⟩ :: rest) n m w := fun a hfm => by
 unfold wpList
 rw [if_pos (hfm.wanted hg)]
 left
 unfold Oper.wp
 rw [zGc he (hfm.ev hc) (args := args.toArray) (by rw [List.map_toArray, hfm.evs hargs]) ha]
 refine h.mono ?_
 rintro e w' ⟨v, rfl, hh⟩
 exact hh _ (hfm.put (by simpa [Nat.blt_eq] using hd) v)
theorem zBn {f : FuncId} {c : Operand} {first cap : Array Value} {xs : List Operand} {ts : Array TypeId} {args all : List Value} (ho : ops[i]? = some ⟨some d, .call ⟨.value c, xs.toArray, ts⟩, t, pos, aft, gd⟩) (he : Enters P f) (hc : ev m c = some (.func (.func f) first cap)) (hargs : evs m xs = some args) (ha : first ++ args.toArray ++ cap = all.toArray) (hg : wantedM ops m gd = some true) (hd : Nat.blt d n = true)
  (h : Calls P f all.toArray w fun e w' => ∃ v, e = .returned v ∧ S w' ∧ wt P ops Q S r n ((d, v) :: m) w') : wt P ops Q S ((i, 2) :: r) n m w := fun a ha' =>
 ⟨_, ho, fun K hK => by
  rw [if_pos (ha'.wanted hg)]
  unfold Oper.wp
  rw [zGc he (ha'.ev hc) (args := args.toArray) (by rw [List.map_toArray, ha'.evs hargs]) ha]
  refine h.mono ?_
  rintro e w' ⟨v, rfl, hS, hh⟩
  exact hK.out _ _ hS (fun _ => hh _ (ha'.put (by simpa [Nat.blt_eq] using hd) v))⟩
end
end Go.Proofs.YtliiclmhpphpmaaGreatDoor
namespace Go.Proofs.YtliiclmhpphpmaaGreatDoor
open Go Go.RowKit
section
variable {Z : Bool → Nat → Prop} {w0 w W W' : World} {L : List En}
theorem Own.cells (h : Own Z w0 W L) (i o : Nat) {g : Nat} {T : TypeId} {cs : Array Value} {vs : List Value} (hi : L[i]? = some (.blk g T cs)) (hv : (cs.toList.drop o).take vs.length = vs) : ∀ j v, vs[j]? = some v → W.cell? ⟨g, o + j, none⟩ = some v := by
 intro j v hj
 have hlt : j < vs.length := (List.getElem?_eq_some_iff.1 hj).1
 refine h.cell i (o + j) hi ?_
 rw [← hv, List.getElem?_take_of_lt hlt, List.getElem?_drop] at hj
 simpa using hj
theorem row_base {T : TypeId} {sz n base : Nat} {v : Value} {xs : List Value} (h : W.ownsRow 0 T sz v n xs) (hb : ∀ k, v.ownBlock = some k → base ≤ k) : W.ownsRow base T sz v n xs := by
 refine ⟨h.1, ?_⟩
 rcases h.2 with h1 | ⟨g, cap, cur, rfl, h1, h2⟩
 ·exact .inl h1
 ·exact .inr ⟨g, cap, cur, rfl, hb g rfl, h2⟩
theorem row_zero {T : TypeId} {sz n base : Nat} {v : Value} {xs : List Value} (h : W.ownsRow base T sz v n xs) : W.ownsRow 0 T sz v n xs := by
 refine ⟨h.1, ?_⟩
 rcases h.2 with h1 | ⟨g, cap, cur, rfl, h1, h2⟩
 ·exact .inl h1
 ·exact .inr ⟨g, cap, cur, rfl, Nat.zero_le _, h2⟩
theorem Own.newrow (h : Own Z0 w0 W L) (i : Nat) {v : Value} {T : TypeId} {sz n : Nat} {xs : List Value} (hi : L[i]? = some (.row v T sz n xs)) : W.ownsRow w0.heap.size T sz v n xs :=
 row_base (h.row i hi) (fun k hk => by
  rcases h.free _ (List.mem_of_getElem? hi) k hk with h1 | h1
  ·exact absurd (h1.2 trivial) (by simp [Z0])
  ·exact h1)
end
end Go.Proofs.YtliiclmhpphpmaaGreatDoor
namespace Go.Proofs.YtliiclmhpphpmaaGreatDoor
open Go Go.RowKit
theorem ty3 : TyB 3 1 false := ⟨by kernel_rfl, by kernel_rfl⟩
theorem ze3 : ZeroB 3 (.int .i64 0) := by unfold ZeroB; kernel_rfl
theorem ty4 : TyB 4 1 false := ⟨by kernel_rfl, by kernel_rfl⟩
theorem ze4 : ZeroB 4 (.bool false) := by unfold ZeroB; kernel_rfl
theorem ty5 : TyB 5 1 false := ⟨by kernel_rfl, by kernel_rfl⟩
theorem ty9 : TyB 9 1 false := ⟨by kernel_rfl, by kernel_rfl⟩
theorem el22 : ElB 22 28 1 := ⟨Tryz.underlying22, by kernel_rfl⟩
theorem ty23 : TyB 23 1 false := ⟨by kernel_rfl, by kernel_rfl⟩
theorem ze23 : ZeroB 23 (.int .u64 0) := by unfold ZeroB; kernel_rfl
theorem ty25 : TyB 25 2 true := ⟨by kernel_rfl, by kernel_rfl⟩
theorem ze25 : ZeroB 25 (.agg #[.int .u64 0, .int .u64 0]) := by unfold ZeroB; kernel_rfl
theorem ar25 : ArB 25 1 #[.int .u64 0, .int .u64 0] := ⟨⟨_, ze25, rfl⟩, ⟨_, _, Tryz.underlying25, by kernel_rfl⟩⟩
theorem ty28 : TyB 28 1 false := ⟨by kernel_rfl, by kernel_rfl⟩
theorem ze28 : ZeroB 28 (.slice none 0 0) := by unfold ZeroB; kernel_rfl
theorem el28 : ElB 28 60 4 := ⟨Tryz.underlying28, by kernel_rfl⟩
theorem ap28 : El 28 60 4 32 (.agg #[.int .i64 0, .int .i64 0, .int .i64 0, .bool false]) := ⟨Tryz.underlying28, by kernel_rfl, rfl, by decide⟩
theorem ty31 : TyB 31 1 false := ⟨by kernel_rfl, by kernel_rfl⟩
theorem el31 : ElB 31 65 3 := ⟨Tryz.underlying31, by kernel_rfl⟩
theorem ap31 : El 31 65 3 40 (.agg #[.int .i64 0, .int .i64 0, .slice none 0 0]) := ⟨Tryz.underlying31, by kernel_rfl, rfl, by decide⟩
theorem ty33 : TyB 33 2 true := ⟨by kernel_rfl, by kernel_rfl⟩
theorem ze33 : ZeroB 33 (.agg #[.int .i64 0, .slice none 0 0]) := by unfold ZeroB; kernel_rfl
theorem zHh : FieldB 33 1 1 := ⟨⟨_, _, Tryz.underlying33, rfl, rfl, 0, by kernel_rfl⟩⟩
theorem st33 : StB 33 #[(0, 1), (1, 1)] #[.int .i64 0, .slice none 0 0] := ⟨⟨_, ze33, rfl⟩, ⟨_, Tryz.underlying33, fun w => by kernel_rfl⟩⟩
theorem ty37 : TyB 37 1 false := ⟨by kernel_rfl, by kernel_rfl⟩
theorem el37 : ElB 37 73 3 := ⟨Tryz.underlying37, by kernel_rfl⟩
theorem ap37 : El 37 73 3 40 (.agg #[.int .i64 0, .int .i64 0, .slice none 0 0]) := ⟨Tryz.underlying37, by kernel_rfl, rfl, by decide⟩
theorem ty39 : TyB 39 2 true := ⟨by kernel_rfl, by kernel_rfl⟩
theorem ze39 : ZeroB 39 (.agg #[.int .i64 0, .slice none 0 0]) := by unfold ZeroB; kernel_rfl
theorem zHu : FieldB 39 0 0 := ⟨⟨_, _, Tryz.underlying39, rfl, rfl, 0, by kernel_rfl⟩⟩
theorem zCw : FieldB 39 1 1 := ⟨⟨_, _, Tryz.underlying39, rfl, rfl, 0, by kernel_rfl⟩⟩
theorem st39 : StB 39 #[(0, 1), (1, 1)] #[.int .i64 0, .slice none 0 0] := ⟨⟨_, ze39, rfl⟩, ⟨_, Tryz.underlying39, fun w => by kernel_rfl⟩⟩
theorem ty43 : TyB 43 1 true := ⟨by kernel_rfl, by kernel_rfl⟩
theorem ze43 : ZeroB 43 (.agg #[.string ⟨#[]⟩]) := by unfold ZeroB; kernel_rfl
theorem zB3 : FieldB 43 0 0 := ⟨⟨_, _, Tryz.underlying43, rfl, rfl, 0, by kernel_rfl⟩⟩
theorem st43 : StB 43 #[(0, 1)] #[.string ⟨#[]⟩] := ⟨⟨_, ze43, rfl⟩, ⟨_, Tryz.underlying43, fun w => by kernel_rfl⟩⟩
theorem ty57 : TyB 57 1 false := ⟨by kernel_rfl, by kernel_rfl⟩
theorem ze57 : ZeroB 57 (.slice none 0 0) := by unfold ZeroB; kernel_rfl
theorem el57 : ElB 57 3 1 := ⟨Tryz.underlying57, by kernel_rfl⟩
theorem ap57 : El 57 3 1 8 (.int .i64 0) := ⟨Tryz.underlying57, by kernel_rfl, rfl, by decide⟩
theorem ty58 : TyB 58 1 false := ⟨by kernel_rfl, by kernel_rfl⟩
theorem ze58 : ZeroB 58 (.slice none 0 0) := by unfold ZeroB; kernel_rfl
theorem el58 : ElB 58 25 2 := ⟨Tryz.underlying58, by kernel_rfl⟩
theorem ap58 : El 58 25 2 16 (.agg #[.int .u64 0, .int .u64 0]) := ⟨Tryz.underlying58, by kernel_rfl, rfl, by decide⟩
theorem ty60 : TyB 60 4 true := ⟨by kernel_rfl, by kernel_rfl⟩
theorem ze60 : ZeroB 60 (.agg #[.int .i64 0, .int .i64 0, .int .i64 0, .bool false]) := by unfold ZeroB; kernel_rfl
theorem zCd : FieldB 60 0 0 := ⟨⟨_, _, Tryz.underlying60, rfl, rfl, 0, by kernel_rfl⟩⟩
theorem zGl : FieldB 60 1 1 := ⟨⟨_, _, Tryz.underlying60, rfl, rfl, 0, by kernel_rfl⟩⟩
theorem zGk : FieldB 60 2 2 := ⟨⟨_, _, Tryz.underlying60, rfl, rfl, 0, by kernel_rfl⟩⟩
theorem zIv : FieldB 60 3 3 := ⟨⟨_, _, Tryz.underlying60, rfl, rfl, 0, by kernel_rfl⟩⟩
theorem st60 : StB 60 #[(0, 1), (1, 1), (2, 1), (3, 1)] #[.int .i64 0, .int .i64 0, .int .i64 0, .bool false] := ⟨⟨_, ze60, rfl⟩, ⟨_, Tryz.underlying60, fun w => by kernel_rfl⟩⟩
theorem ty65 : TyB 65 3 true := ⟨by kernel_rfl, by kernel_rfl⟩
theorem ze65 : ZeroB 65 (.agg #[.int .i64 0, .int .i64 0, .slice none 0 0]) := by unfold ZeroB; kernel_rfl
theorem st65 : StB 65 #[(0, 1), (1, 1), (2, 1)] #[.int .i64 0, .int .i64 0, .slice none 0 0] := ⟨⟨_, ze65, rfl⟩, ⟨_, Tryz.underlying65, fun w => by kernel_rfl⟩⟩
theorem ty66 : TyB 66 1 false := ⟨by kernel_rfl, by kernel_rfl⟩
theorem ze66 : ZeroB 66 (.nilFunc) := by unfold ZeroB; kernel_rfl
theorem ty67 : TyB 67 1 false := ⟨by kernel_rfl, by kernel_rfl⟩
theorem ze67 : ZeroB 67 (.nilFunc) := by unfold ZeroB; kernel_rfl
theorem ty70 : TyB 70 1 false := ⟨by kernel_rfl, by kernel_rfl⟩
theorem ze70 : ZeroB 70 (.pointer none) := by unfold ZeroB; kernel_rfl
theorem ty73 : TyB 73 3 true := ⟨by kernel_rfl, by kernel_rfl⟩
theorem ze73 : ZeroB 73 (.agg #[.int .i64 0, .int .i64 0, .slice none 0 0]) := by unfold ZeroB; kernel_rfl
theorem zBy : FieldB 73 0 0 := ⟨⟨_, _, Tryz.underlying73, rfl, rfl, 0, by kernel_rfl⟩⟩
theorem zCm : FieldB 73 1 1 := ⟨⟨_, _, Tryz.underlying73, rfl, rfl, 0, by kernel_rfl⟩⟩
theorem zB0 : FieldB 73 2 2 := ⟨⟨_, _, Tryz.underlying73, rfl, rfl, 0, by kernel_rfl⟩⟩
theorem st73 : StB 73 #[(0, 1), (1, 1), (2, 1)] #[.int .i64 0, .int .i64 0, .slice none 0 0] := ⟨⟨_, ze73, rfl⟩, ⟨_, Tryz.underlying73, fun w => by kernel_rfl⟩⟩
theorem ty76 : TyB 76 1 false := ⟨by kernel_rfl, by kernel_rfl⟩
theorem ze76 : ZeroB 76 (.nilFunc) := by unfold ZeroB; kernel_rfl
theorem ty80 : TyB 80 1 false := ⟨by kernel_rfl, by kernel_rfl⟩
theorem ty81 : TyB 81 1 false := ⟨by kernel_rfl, by kernel_rfl⟩
theorem ty82 : TyB 82 1 false := ⟨by kernel_rfl, by kernel_rfl⟩
theorem ze82 : ZeroB 82 (.nilFunc) := by unfold ZeroB; kernel_rfl
theorem ty84 : TyB 84 6 true := ⟨by kernel_rfl, by kernel_rfl⟩
theorem ze84 : ZeroB 84 (.agg #[.nilFunc, .nilFunc, .nilFunc, .nilFunc, .nilFunc, .nilFunc]) := by unfold ZeroB; kernel_rfl
theorem fi84_0 : FieldB 84 0 0 := ⟨⟨_, _, Tryz.underlying84, rfl, rfl, 0, by kernel_rfl⟩⟩
theorem fi84_1 : FieldB 84 1 1 := ⟨⟨_, _, Tryz.underlying84, rfl, rfl, 0, by kernel_rfl⟩⟩
theorem fi84_2 : FieldB 84 2 2 := ⟨⟨_, _, Tryz.underlying84, rfl, rfl, 0, by kernel_rfl⟩⟩
theorem fi84_3 : FieldB 84 3 3 := ⟨⟨_, _, Tryz.underlying84, rfl, rfl, 0, by kernel_rfl⟩⟩
theorem fi84_4 : FieldB 84 4 4 := ⟨⟨_, _, Tryz.underlying84, rfl, rfl, 0, by kernel_rfl⟩⟩
theorem fi84_5 : FieldB 84 5 5 := ⟨⟨_, _, Tryz.underlying84, rfl, rfl, 0, by kernel_rfl⟩⟩
theorem st84 : StB 84 #[(0, 1), (1, 1), (2, 1), (3, 1), (4, 1), (5, 1)] #[.nilFunc, .nilFunc, .nilFunc, .nilFunc, .nilFunc, .nilFunc] := ⟨⟨_, ze84, rfl⟩, ⟨_, Tryz.underlying84, fun w => by kernel_rfl⟩⟩
theorem ty89 : TyB 89 1 false := ⟨by kernel_rfl, by kernel_rfl⟩
theorem ze89 : ZeroB 89 (.slice none 0 0) := by unfold ZeroB; kernel_rfl
theorem el89 : ElB 89 4 1 := ⟨Tryz.underlying89, by kernel_rfl⟩
theorem ap89 : El 89 4 1 1 (.bool false) := ⟨Tryz.underlying89, by kernel_rfl, rfl, by decide⟩
theorem ty95 : TyB 95 1 false := ⟨by kernel_rfl, by kernel_rfl⟩
theorem ze95 : ZeroB 95 (.int .u32 0) := by unfold ZeroB; kernel_rfl
theorem el96 : ElB 96 95 1 := ⟨Tryz.underlying96, by kernel_rfl⟩
theorem ap96 : El 96 95 1 4 (.int .u32 0) := ⟨Tryz.underlying96, by kernel_rfl, rfl, by decide⟩
theorem ze104 : ZeroB 104 (.agg #[.slice none 0 0, .string ⟨#[]⟩]) := by unfold ZeroB; kernel_rfl
theorem zCp : FieldB 104 0 0 := ⟨⟨_, _, Tryz.underlying104, rfl, rfl, 0, by kernel_rfl⟩⟩
theorem zCl : FieldB 104 1 1 := ⟨⟨_, _, Tryz.underlying104, rfl, rfl, 0, by kernel_rfl⟩⟩
theorem st104 : StB 104 #[(0, 1), (1, 1)] #[.slice none 0 0, .string ⟨#[]⟩] := ⟨⟨_, ze104, rfl⟩, ⟨_, Tryz.underlying104, fun w => by kernel_rfl⟩⟩
theorem ty107 : TyB 107 1 false := ⟨by kernel_rfl, by kernel_rfl⟩
theorem ze109 : ZeroB 109 (.agg #[.int .i64 0, .slice none 0 0, .map none]) := by unfold ZeroB; kernel_rfl
theorem fi109_0 : FieldB 109 0 0 := ⟨⟨_, _, Tryz.underlying109, rfl, rfl, 0, by kernel_rfl⟩⟩
theorem zCs : FieldB 109 1 1 := ⟨⟨_, _, Tryz.underlying109, rfl, rfl, 0, by kernel_rfl⟩⟩
theorem zHj : FieldB 109 2 2 := ⟨⟨_, _, Tryz.underlying109, rfl, rfl, 0, by kernel_rfl⟩⟩
theorem st109 : StB 109 #[(0, 1), (1, 1), (2, 1)] #[.int .i64 0, .slice none 0 0, .map none] := ⟨⟨_, ze109, rfl⟩, ⟨_, Tryz.underlying109, fun w => by kernel_rfl⟩⟩
theorem ty116 : TyB 116 1 false := ⟨by kernel_rfl, by kernel_rfl⟩
theorem ze116 : ZeroB 116 (.slice none 0 0) := by unfold ZeroB; kernel_rfl
theorem el116 : ElB 116 43 1 := ⟨Tryz.underlying116, by kernel_rfl⟩
theorem ap116 : El 116 43 1 16 (.agg #[.string ⟨#[]⟩]) := ⟨Tryz.underlying116, by kernel_rfl, rfl, by decide⟩
theorem ze123 : ZeroB 123 (.agg #[.int .i64 0, .slice none 0 0, .slice none 0 0]) := by unfold ZeroB; kernel_rfl
theorem zHi : FieldB 123 1 1 := ⟨⟨_, _, Tryz.underlying123, rfl, rfl, 0, by kernel_rfl⟩⟩
theorem zD5 : FieldB 123 2 2 := ⟨⟨_, _, Tryz.underlying123, rfl, rfl, 0, by kernel_rfl⟩⟩
theorem st123 : StB 123 #[(0, 1), (1, 1), (2, 1)] #[.int .i64 0, .slice none 0 0, .slice none 0 0] := ⟨⟨_, ze123, rfl⟩, ⟨_, Tryz.underlying123, fun w => by kernel_rfl⟩⟩
theorem ty127 : TyB 127 1 false := ⟨by kernel_rfl, by kernel_rfl⟩
theorem el127 : ElB 127 5 1 := ⟨Tryz.underlying127, by kernel_rfl⟩
theorem ap127 : El 127 5 1 1 (.int .u8 0) := ⟨Tryz.underlying127, by kernel_rfl, rfl, by decide⟩
theorem ty135 : TyB 135 1 false := ⟨by kernel_rfl, by kernel_rfl⟩
theorem ze135 : ZeroB 135 (.map none) := by unfold ZeroB; kernel_rfl
theorem ze152 : ZeroB 152 (.agg #[.pointer none, .slice none 0 0]) := by unfold ZeroB; kernel_rfl
theorem fi152_1 : FieldB 152 1 1 := ⟨⟨_, _, Tryz.underlying152, rfl, rfl, 0, by kernel_rfl⟩⟩
theorem ty161 : TyB 161 6 true := ⟨by kernel_rfl, by kernel_rfl⟩
theorem ze161 : ZeroB 161 (.agg #[.int .u64 0, .int .u64 0, .int .u64 0, .int .u64 0, .int .u64 0, .int .u64 0]) := by unfold ZeroB; kernel_rfl
theorem ar161 : ArB 161 1 #[.int .u64 0, .int .u64 0, .int .u64 0, .int .u64 0, .int .u64 0, .int .u64 0] := ⟨⟨_, ze161, rfl⟩, ⟨_, _, Tryz.underlying161, by kernel_rfl⟩⟩
theorem el163 : ElB 163 23 1 := ⟨Tryz.underlying163, by kernel_rfl⟩
theorem ap163 : El 163 23 1 8 (.int .u64 0) := ⟨Tryz.underlying163, by kernel_rfl, rfl, by decide⟩
end Go.Proofs.YtliiclmhpphpmaaGreatDoor
namespace Go.Proofs.YtliiclmhpphpmaaGreatDoor
open Go
def tabN : String := match (Rows.topForestsRow.laid)[2]? with
 | some p => p.1
 | none => ""
def tabB : String := match (Rows.topForestsRow.laid)[1]? with
 | some p => p.1
 | none => ""
end Go.Proofs.YtliiclmhpphpmaaGreatDoor
namespace Go.Proofs.YtliiclmhpphpmaaGreatDoor
open Go Go.RowKit
def strE : ByteArray → Value := fun s => .string s
def intE : Int → Value := fun i => .int .i64 i
theorem ba_beq (a b : ByteArray) : (a == b) = decide (a = b) := by
 cases a with | mk a => cases b with | mk b =>
 have h1 : ((ByteArray.mk a) == (ByteArray.mk b)) = (a == b) := rfl
 rw [h1]
 by_cases h : a = b
 ·subst h; simp
 ·simp [h]
theorem strKey : Key strE .string := ⟨fun a b => by simp only [strE, Instr.sameNow, ba_beq], fun a => by simp [strE, MapKept.IsKey]⟩
theorem intKey : Key intE (.int .i64) := ⟨fun a b => by simp only [intE, Instr.sameNow, if_true]; congr 1, fun a => by simp [intE, MapKept.IsKey]⟩

def IntsD (D : Nat → Prop) (w : World) (v : Value) (xs : List Int) : Prop :=
 ∃ A c, v = .slice A xs.length c ∧ xs.length ≤ c ∧ c ≤ maxLen ∧ (0 < xs.length → ∃ b o, D b ∧ A = some ⟨b, o, none⟩ ∧ ∀ i x, xs[i]? = some x → w.cell? ⟨b, o + i, none⟩ = some (.int .i64 x))
theorem zDf {w w' : World} {b o : Nat} (h : w'.heap[b]? = w.heap[b]?) : w'.cell? ⟨b, o, none⟩ = w.cell? ⟨b, o, none⟩ := by simp [World.cell?, h]
theorem IntsD.move {D : Nat → Prop} {w w' : World} {v : Value} {xs : List Int} (h : IntsD D w v xs) (hk : ∀ k, D k → w'.heap[k]? = w.heap[k]?) : IntsD D w' v xs := by
 obtain ⟨A, c, h1, h2, h3, h4⟩ := h
 refine ⟨A, c, h1, h2, h3, fun hp => ?_⟩
 obtain ⟨b, o, hb, hA, hc⟩ := h4 hp
 exact ⟨b, o, hb, hA, fun i x hx => (zDf (hk b hb)).trans (hc i x hx)⟩
theorem IntsD.mono {D D' : Nat → Prop} {w : World} {v : Value} {xs : List Int} (h : IntsD D w v xs) (hD : ∀ k, D k → D' k) : IntsD D' w v xs := by
 obtain ⟨A, c, h1, h2, h3, h4⟩ := h
 refine ⟨A, c, h1, h2, h3, fun hp => ?_⟩
 obtain ⟨b, o, hb, hA, hc⟩ := h4 hp
 exact ⟨b, o, hD b hb, hA, hc⟩
theorem IntsD.V {D : Nat → Prop} {w : World} {v : Value} {xs : List Int} (h : IntsD D w v xs) {B : Nat} (hB : ∀ k, D k → k < B) : IntsV w B v xs := by
 obtain ⟨A, c, h1, h2, h3, h4⟩ := h
 refine ⟨A, c, h1, h2, h3, fun hp => ?_⟩
 obtain ⟨b, o, hb, hA, hc⟩ := h4 hp
 exact ⟨b, o, hB b hb, hA, fun i x hx => by rw [Nat.mul_one]; exact hc i x hx⟩
theorem IntsD.of_V {w : World} {B : Nat} {v : Value} {xs : List Int} (h : IntsV w B v xs) : IntsD (fun k => k < B) w v xs := by
 obtain ⟨A, c, h1, h2, h3, h4⟩ := h
 refine ⟨A, c, h1, h2, h3, fun hp => ?_⟩
 obtain ⟨b, o, hb, hA, hc⟩ := h4 hp
 exact ⟨b, o, hb, hA, fun i x hx => by have := hc i x hx; rw [Nat.mul_one] at this; exact this⟩
theorem IntsD.nil (D : Nat → Prop) (w : World) : IntsD D w (.slice none 0 0) [] := ⟨none, 0, rfl, Nat.le_refl _, Nat.zero_le _, fun h => absurd h (Nat.lt_irrefl _)⟩
theorem IntsD.of_row {w : World} {base n : Nat} {T : TypeId} {v : Value} {l : List Int} (h : w.ownsRow base T 1 v n (l.map fun x => .int .i64 x)) : IntsD (fun k => v.ownBlock = some k) w v l := by
 have hn : n = l.length := by have := h.1; simpa using this.symm
 subst hn
 rcases h.2 with ⟨rfl, h0⟩ | ⟨g, cap, cur, rfl, _, hg, h1, h2, h3, h4⟩
 ·have : l = [] := List.length_eq_zero_iff.1 h0
  subst this
  exact IntsD.nil _ _
 ·refine ⟨_, cap, rfl, h1, h2, fun _ => ⟨g, 0, rfl, rfl, fun i x hx => ?_⟩⟩
  have hlt : i < l.length := (List.getElem?_eq_some_iff.1 hx).1
  rw [Nat.zero_add, cell_of_row w g i cur T (0, 0) hg]
  have : (cur.toList.take (l.length * 1))[i]? = some (.int .i64 x) := by rw [h4]; simp [hx]
  rw [List.getElem?_take_of_lt (by omega)] at this
  simpa using this
theorem IntsD.of_blk {w : World} {g n : Nat} {T : TypeId} {l : List Int} (h : Blk w g T (l.map fun x => .int .i64 x).toArray) (hn : n = l.length) (hm : n ≤ maxLen) : IntsD (fun k => k = g) w (.slice (some ⟨g, 0, none⟩) n n) l := by
 subst hn
 refine ⟨_, _, rfl, Nat.le_refl _, hm, fun _ => ⟨g, 0, rfl, rfl, fun i x hx => ?_⟩⟩
 rw [Nat.zero_add, h.cell i]
 simp [hx]
def Tab (w : World) : Prop := Lib.TabIs Tryz.prog w tabN .u64 Lib.pow10Tab
theorem tab_g : ∃ g, Tryz.prog.globalNamed tabN = some g := ⟨3, by kernel_rfl⟩
def TabD (k : Nat) : Prop := Tryz.prog.globalNamed tabN = some k
theorem Tab.move {w w' : World} (h : Tab w) (hk : ∀ k, TabD k → w'.heap[k]? = w.heap[k]?) : Tab w' := by
 unfold Tab Lib.TabIs World.var? at *
 obtain ⟨g, hg⟩ := tab_g
 simp only [hg, Option.bind_some] at h ⊢
 rw [hk g hg]
 exact h
theorem Tab.lt {w : World} (h : Tab w) {k : Nat} (hk : TabD k) : k < w.heap.size := by
 unfold Tab Lib.TabIs World.var? at h
 unfold TabD at hk
 simp only [hk, Option.bind_some] at h
 rcases Nat.lt_or_ge k w.heap.size with h' | h'
 ·exact h'
 ·rw [Array.getElem?_eq_none h'] at h; simp at h
def tabE : En := .ro TabD Tab
theorem zEu {w : World} (h : Tab w) : tabE.holds w := ⟨h, fun _ hk => h.lt hk, fun _ _ _ hk h => h.move hk⟩
def inE (D : Nat → Prop) (v : Value) (l : List Int) : En := .ro D (fun w => IntsD D w v l)
theorem zDw {D : Nat → Prop} {v : Value} {l : List Int} {w : World} (h : IntsD D w v l) (hD : ∀ k, D k → k < w.heap.size) : (inE D v l).holds w := ⟨h, hD, fun _ _ _ hk h => h.move hk⟩
section
variable {Z : Bool → Nat → Prop} {w0 W : World} {R : Option Addr}
theorem rowcell {b T sz n c g : Nat} {xs : List Value} (h : W.ownsRow b T sz (.slice (some ⟨g, 0, none⟩) n c) n xs) {j : Nat} {v : Value} (hv : xs[j]? = some v) : W.cell? ⟨g, j, none⟩ = some v := by
 rcases h.2 with ⟨h1, _⟩ | ⟨g', cap, cur, h1, _, hg, _, _, _, h4⟩
 ·cases h1
 ·injection h1 with h1 _ _
  injection h1 with h1
  injection h1 with h1
  subst h1
  have hlt : j < xs.length := (List.getElem?_eq_some_iff.1 hv).1
  rw [cell_of_row W g j cur T (0, 0) hg]
  rw [← h4] at hv hlt
  have := List.length_take (l := cur.toList) (i := n * sz)
  rw [List.getElem?_take_of_lt (by omega)] at hv
  simpa using hv
theorem rowaddr {b T sz n c : Nat} {xs : List Value} (h : W.ownsRow b T sz (.slice R n c) n xs) (hn : 0 < n) : ∃ g, R = some ⟨g, 0, none⟩ := by
 rcases h.2 with ⟨_, h1⟩ | ⟨g', cap, cur, h1, _⟩
 ·omega
 ·injection h1 with h1 _ _
  exact ⟨g', h1⟩
end
theorem IntsD.cell {D : Nat → Prop} {w : World} {b o n c : Nat} {xs : List Int} (h : IntsD D w (.slice (some ⟨b, o, none⟩) n c) xs) {k : Nat} (hk : k < xs.length) : w.cell? ⟨b, o + k, none⟩ = some (.int .i64 xs[k]) := by
 obtain ⟨A, c', hv, _, _, h4⟩ := h
 obtain ⟨b', o', _, hA, hc⟩ := h4 (by omega)
 injection hv with h1 _ _
 rw [hA] at h1
 injection h1 with h1
 injection h1 with h1 h2 _
 subst h1 h2
 exact hc k _ (List.getElem?_eq_getElem hk)
theorem IntsD.form {D : Nat → Prop} {w : World} {v : Value} {xs : List Int} (h : IntsD D w v xs) (hp : 0 < xs.length) : ∃ b o c, v = .slice (some ⟨b, o, none⟩) xs.length c := by
 obtain ⟨A, c', hv, _, _, h4⟩ := h
 obtain ⟨b', o', _, hA, hc⟩ := h4 hp
 exact ⟨b', o', c', by rw [hv, hA]⟩
theorem IntsD.slice {D : Nat → Prop} {w : World} {v : Value} {xs : List Int} (h : IntsD D w v xs) : ∃ A c, v = .slice A xs.length c := by
 obtain ⟨A, c', hv, _⟩ := h
 exact ⟨A, c', hv⟩
def intCs (l : List Int) : List Value := l.map fun x => .int .i64 x
section
variable {Z : Bool → Nat → Prop} {w0 W : World}
theorem row_cap {b T sz n m c : Nat} {A : Option Addr} {xs : List Value} (h : W.ownsRow b T sz (.slice A m c) n xs) : n ≤ c := by
 rcases h.2 with ⟨_, h1⟩ | ⟨g, cap, cur, h1, _, _, h2, _⟩
 ·omega
 ·injection h1 with _ _ h1
  omega
theorem zF0 {α : Type} {L : List α} {x y : α} {i : Nat} (h : (L ++ [x])[i]? = some y) : L[i]? = some y ∧ i < L.length ∨ i = L.length ∧ y = x := by
 by_cases hi : i < L.length
 ·rw [List.getElem?_append_left hi] at h; exact .inl ⟨h, hi⟩
 ·rw [List.getElem?_append_right (by omega)] at h
  have e : i - L.length = 0 := by
   rcases Nat.eq_zero_or_pos (i - L.length) with q | q
   ·exact q
   ·rw [List.getElem?_eq_none (by simp; omega)] at h; cases h
  rw [e] at h
  simp at h
  exact .inr ⟨by omega, h.symm⟩
end

def boolCs (l : List Bool) : List Value := l.map fun x => .bool x
theorem setI (l : List Int) (k : Nat) (x : Int) : setN (intCs l).toArray k [.int .i64 x] = (intCs (l.set k x)).toArray := by simp [setN, intCs, List.map_set]
theorem setBo (l : List Bool) (k : Nat) (x : Bool) : setN (boolCs l).toArray k [.bool x] = (boolCs (l.set k x)).toArray := by simp [setN, boolCs, List.map_set]
theorem getI {l : List Int} {k : Nat} {x : Int} (h : l[k]? = some x) : (intCs l).toArray[k]? = some (.int .i64 x) := by simp [intCs, h]
theorem getBo {l : List Bool} {k : Nat} {x : Bool} (h : l[k]? = some x) : (boolCs l).toArray[k]? = some (.bool x) := by simp [boolCs, h]
theorem made1 (z : Value) (n : Nat) : madeCells #[z] n = (List.replicate n z).toArray := by
 apply Array.ext
 ·simp [madeCells]
 ·intro i h1 h2
  simp [madeCells, Nat.mod_one]
section
variable {Z : Bool → Nat → Prop} {w0 w W : World} {L : List En}
theorem zBo (O : Own Z w0 w L) {T e bytes : Nat} {z : Value} (E : El T e 1 bytes z) (hz1 : z.cells = #[z]) (n : Nat) (hb : bytes ≤ 8) (hn : n ≤ 1000000000) {cs : Array Value} (hc : (List.replicate n z).toArray = cs) :
  ∃ g w', (∀ (ρ : Operand → Value) x y d t pos aft gd, ρ x = .int .i64 (n : Int) → ρ y = .int .i64 (n : Int) → (execOp ρ ⟨d, .makeSlice T x y, t, pos, aft, gd⟩).run Tryz.prog w = .ok (.value (.slice (some ⟨g, 0, none⟩) n n)) w') ∧ Own Z w0 w' (.blk g e cs :: L) ∧ w.heap.size = g ∧ w'.heap.size = g + 1 := by
 subst hc
 obtain ⟨i, hi, hz, hsz, hby⟩ := info_parts E.info
 have hb8 : ((i.bytes : Nat) : Int) * (n : Int) ≤ 281474976710656 := by
  rw [hby]
  have h1 : bytes * n ≤ 8 * n := Nat.mul_le_mul_right n hb
  have h2 : ((bytes * n : Nat) : Int) ≤ 281474976710656 := by omega
  rwa [Int.natCast_mul] at h2
 have hr := run_make (P := Tryz.prog) w T e i z E.under hi hz .i64 .i64 n n (by omega) (by omega) hb8 (by omega)
 rw [hsz, hz1, Int.toNat_natCast, Nat.mul_one, made1] at hr
 refine ⟨w.heap.size, _, fun ρ x y d t pos aft gd hx hy => ?_, O.newb ((Below.refl _ _).alloc (Nat.le_refl _) _) (Blk.new w e _) rfl, rfl, by simp⟩
 simp only [execOp, hx, hy, Sem.run_bind, hr, Result.andThen_ok, Sem.run_pure]
theorem Own.oldro {D : Nat → Prop} {p : World → Prop} (h : Own Z0 w0 W L) (he : (En.ro D p).holds w0) : Own Z0 w0 W (.ro D p :: L) := by
 refine ⟨h.fr, fun e q => ?_, List.Pairwise.cons (fun b hb ho k h1 h2 => ?_) h.dist, fun e q k hk => ?_⟩
 ·rcases List.mem_cons.1 q with rfl | q
  ·exact En.move he h.old.size (fun k hk => h.old.block k (he.2.1 k hk))
  ·exact h.has e q
 ·have := he.2.1 k h1
  rcases h.free b hb k h2 with h3 | h3
  ·rcases ho with ho | ho
   ·exact ho
   ·exact absurd (h3.2 ho) (by simp [Z0])
  ·omega
 ·rcases List.mem_cons.1 q with rfl | q
  ·exact .inl ⟨rfl, fun ho => ho.elim⟩
  ·exact h.free e q k hk
theorem Own.blkrow {g T n : Nat} {cs : Array Value} {xs : List Value} (h : Own Z w0 W (.blk g T cs :: L)) (hc : cs = xs.toArray) (hn : n = xs.length) (hm : n ≤ 1000000000) : Own Z w0 W (.row (.slice (some ⟨g, 0, none⟩) n n) T 1 n xs :: L) := by
 subst hc hn
 refine h.as (e' := .row (.slice (some ⟨g, 0, none⟩) xs.length xs.length) T 1 xs.length xs) ⟨by simp, .inr ⟨g, xs.length, xs.toArray, rfl, Nat.zero_le _, h.blk 0 rfl, Nat.le_refl _, by unfold maxLen; omega, by simp, by simp⟩⟩ (fun k hk => ?_) (fun _ => trivial)
 have : some g = some k := hk
 injection this with this
 exact this.symm
theorem Own.putrow {g T n c k : Nat} {xs : List Value} (h : Own Z w0 W (.row (.slice (some ⟨g, 0, none⟩) n c) T 1 n xs :: L)) (hk : k < n) (u : Value) :
  (∃ u0, W.cell? ⟨g, k, none⟩ = some u0) ∧ W.frozen? ⟨g, k, none⟩ = false ∧ Own Z w0 (W.setCell ⟨g, k, none⟩ u) (.row (.slice (some ⟨g, 0, none⟩) n c) T 1 n (xs.set k u) :: L) := by
 have hr := h.row 0 rfl
 obtain ⟨hlen, hr⟩ := hr
 rcases hr with ⟨h1, _⟩ | ⟨g', cap, cur, h1, _, hg, h2, h3, h4, h5⟩
 ·cases h1
 ·injection h1 with h1 _ hcap
  injection h1 with h1
  injection h1 with h1
  subst h1 hcap
  have hb : Blk W g T cur := hg
  have hsz : k < cur.size := by omega
  refine ⟨⟨cur[k], by rw [hb.cell k, Array.getElem?_eq_getElem hsz]⟩, hb.free k, ?_⟩
  refine h.one (e' := .row (.slice (some ⟨g, 0, none⟩) n c) T 1 n (xs.set k u)) (Frame.put W g k u) trivial (fun k q1 q => by show some g = some k; rw [show k = g from q]) ?_ (fun k q => .inl q)
  refine ⟨by simpa using hlen, .inr ⟨g, c, cur.setIfInBounds k u, rfl, Nat.zero_le _, hb.put k u, h2, h3, by simpa using h4, ?_⟩⟩
  rw [Array.toList_setIfInBounds, List.take_set, h5]
theorem own_putrow {g T T0 n c k : Nat} {xs ys : List Value} (h : Own Z w0 W (.row (.slice (some ⟨g, 0, none⟩) n c) T 1 n xs :: L)) (hT : TyB T0 1 false) (hk : k < n) (u : Value) (hu : u.oneCell' = true) (hc : u.cells.toList = [u]) (hy : xs.set k u = ys) :
  ∃ w', (∀ (ρ : Operand → Value) x y t pos aft gd, ρ x = .pointer (some ⟨g, k, none⟩) → ρ y = u → (execOp ρ ⟨none, .store T0 x y, t, pos, aft, gd⟩).run Tryz.prog W = .ok .skip w') ∧ Own Z w0 w' (.row (.slice (some ⟨g, 0, none⟩) n c) T 1 n ys :: L) ∧ w'.heap.size = W.heap.size := by
 subst hy
 obtain ⟨⟨u0, h1⟩, h2, h3⟩ := h.putrow hk u
 refine ⟨_, fun ρ x y t pos aft gd hx hy => ?_, h3, by simp [World.setCell]⟩
 have hs : u.cells.size = 1 := by have := congrArg List.length hc; simpa using this
 simp [execOp, Instr.storeAt, Instr.sureAddr, hx, hy, storeVar, zCc hT.size, hs, hc, storeCells, zCj, run_store _ _ _ _ _ hu, h1, h2]
end
section
variable {ρ : Operand → Value} {d : Option Tmp} {x y z : Operand} {t T : TypeId} {pos : String} {aft : Array Edge} {gd : Option (Nat × Bool)} {w : World}
theorem zGd {e sz n c : Nat} {h : Nat} {A : Option Addr} (hT : ElB T e sz) (hx : ρ x = .slice A n c) (hy : ρ y = .int .i64 (h : Int)) (hh : h ≤ c) : (execOp ρ ⟨d, .slice T x none (some y) none, t, pos, aft, gd⟩).run Tryz.prog w = .ok (.value (.slice A h c)) w := by
 have hadd : ∀ a : Addr, a.add 0 = a := fun a => by cases a with | mk b o s => unfold Addr.add; cases s <;> simp
 cases A with
 | none => simp [execOp, Instr.sliceAt, Instr.slice, run_underlying hT.elem, hx, hy, Instr.sliceBounds, Instr.sliceBound, asIntOf, hh, zCc hT.size]
 | some a => simp [execOp, Instr.sliceAt, Instr.slice, run_underlying hT.elem, hx, hy, Instr.sliceBounds, Instr.sliceBound, asIntOf, hh, zCc hT.size, hadd]
end


section
variable {P : Program} {ops : Array Oper} {Q : Exit → Act → World → Prop} {S : World → Prop} {k fuel n i d : Nat} {listed listed' : Array Bool} {m : List (Nat × Value)} {w w' : World} {op : Op} {t : TypeId} {pos : String} {aft : Array Edge} {gd : Option (Nat × Bool)} {v : Value}
def at_ (P : Program) (ops : Array Oper) (Q : Exit → Act → World → Prop) (S : World → Prop) (k fuel : Nat) (listed : Array Bool) (n : Nat) (m : List (Nat × Value)) (w : World) : Prop := ∀ a, Fm n m a → AnyT P .any ops Q S k fuel listed a w
theorem zDn {r : List (Nat × Value)} (h : at_ P ops Q S k fuel listed n r w) (hs : Sub r m) : at_ P ops Q S k fuel listed n m w := fun a ha => h a (ha.sub hs)
theorem at_start {id : Nat} {l : List Oper} (S : World → Prop) (k : Nat) (hm : P.follows .mixedOrders = true) (hf : l.toArray.size = fuel) (hl : Array.replicate l.toArray.size false = listed) (hS : S w.drew) (h : at_ P l.toArray Q S k fuel listed n m w.drew) : cw P (.region id l.toArray true) Q n m w := fun a ha =>
 region_T hm S k hS (fun _ => by subst hf hl; exact h a ha)
def takeB (ops : Array Oper) (listed listed' : Array Bool) (i k : Nat) (load : Bool) : Bool :=
 Region.noSelect ops && Region.free .any ops listed i && (Region.ready .any ops listed).contains i && (i != k) && (!load || (waitB .any ops k i && !(listed.getD k false))) && (listed.setIfInBounds i true == listed')
theorem at_take0 (ho : ops[i]? = some ⟨some d, op, t, pos, aft, gd⟩) (hb : takeB ops listed listed' i k true = true) (hQ : PQ Q) (hS : S w) (hr : ∀ ρ, Reads m ρ → ∀ W, S W → (execOp ρ ⟨some d, op, t, pos, aft, gd⟩).run P W = .ok (.value v) W) (hg : wantedM ops m gd = some true) (hd : Nat.blt d n = true)
  (h : at_ P ops Q S k fuel listed' n ((d, v) :: m) w) : at_ P ops Q S k (fuel + 1) listed n m w := fun a ha => by
 simp only [takeB, Bool.and_eq_true, beq_iff_eq, Bool.not_true, Bool.false_or] at hb
 obtain ⟨⟨⟨⟨⟨h1, h2⟩, h3⟩, h4⟩, h5, h6⟩, h7⟩ := hb
 subst h7
 refine anyT_take ho h1 h2 h3 (by simp only [Bool.and_eq_true]; exact ⟨⟨h5, h6⟩, h4⟩) (fun c a w => hQ c a _ _ w) (.inl ⟨ha.wanted hg, hr _ ha.reads⟩) hS ?_
 exact h _ (ha.put (by simpa [Nat.blt_eq] using hd) v)
theorem zC7 (ho : ops[i]? = some ⟨some d, op, t, pos, aft, gd⟩) (hb : takeB ops listed listed' i k false = true) (hQ : PQ Q) (hS : listed.getD k false = false → S w) (hr : ∀ ρ, Reads m ρ → ∀ W, (execOp ρ ⟨some d, op, t, pos, aft, gd⟩).run P W = .ok (.value v) W) (hg : wantedM ops m gd = some true) (hd : Nat.blt d n = true)
  (h : at_ P ops Q S k fuel listed' n ((d, v) :: m) w) : at_ P ops Q S k (fuel + 1) listed n m w := fun a ha => by
 simp only [takeB, Bool.and_eq_true, beq_iff_eq] at hb
 obtain ⟨⟨⟨⟨⟨h1, h2⟩, h3⟩, h4⟩, _⟩, h7⟩ := hb
 subst h7
 refine anyT_takeY ho h1 h2 h3 h4 (fun c a w => hQ c a _ _ w) (.inl ⟨ha.wanted hg, fun W _ => hr _ ha.reads W⟩) hS ?_
 exact h _ (ha.put (by simpa [Nat.blt_eq] using hd) v)
def stp (P : Program) (ops : Array Oper) (Q : Exit → Act → World → Prop) (S : World → Prop) (k fuel : Nat) (listed : Array Bool) (n : Nat) (m : List (Nat × Value)) (w : World) (i : Nat) : Prop :=
 ∀ a, Fm n m a → wpOp P ops Q i (fun a' w' => ((listed.setIfInBounds i true).getD k false = false → S w') ∧ AnyT P .any ops Q S k fuel (listed.setIfInBounds i true) a' w') a w
def allS (st : Nat → Prop) : List Nat → Prop
 | [] => True
 | i :: r => st i ∧ allS st r
theorem allS_mem {st : Nat → Prop} : ∀ {l : List Nat}, allS st l → ∀ i ∈ l, st i
 | [], _, i, hi => by cases hi
 | j :: r, h, i, hi => by
  rcases List.mem_cons.1 hi with rfl | hi
  ·exact h.1
  ·exact allS_mem h.2 i hi
theorem zCy (is : List Nat) (hr : (Region.ready .any ops listed == is && !is.isEmpty) = true) (h : allS (stp P ops Q S k fuel listed n m w) is) : at_ P ops Q S k (fuel + 1) listed n m w := fun a ha => by
 simp only [Bool.and_eq_true, beq_iff_eq] at hr
 refine ⟨fun h0 => ?_, fun i hi => allS_mem h i (hr.1 ▸ hi) a ha⟩
 have := hr.1.symm.trans h0
 subst this
 simp at hr
theorem at_done (hr : (Region.ready .any ops listed).isEmpty = true) (h : xw Q .normal n m w) : at_ P ops Q S k fuel listed n m w := fun a ha => anyT_done (by simpa using hr) (h a ha) fuel
theorem zE5 (ho : ops[i]? = some ⟨some d, op, t, pos, aft, gd⟩) (hl : (listed.setIfInBounds i true == listed') = true) (hr : ∀ ρ, Reads m ρ → (execOp ρ ⟨some d, op, t, pos, aft, gd⟩).run P w = .ok (.value v) w') (hg : wantedM ops m gd = some true) (hd : Nat.blt d n = true) (hS : listed'.getD k false = false → S w')
  (h : at_ P ops Q S k fuel listed' n ((d, v) :: m) w') : stp P ops Q S k fuel listed n m w i := fun a ha => by
 have hl' := eq_of_beq hl
 subst hl'
 refine wpOp_step ho (fun K' hK => ?_)
 rw [if_pos (ha.wanted hg)]
 unfold Oper.wp
 rw [hr _ ha.reads]
 exact hK _ _ ⟨hS, h _ (ha.put (by simpa [Nat.blt_eq] using hd) v)⟩
end
end Go.Proofs.YtliiclmhpphpmaaGreatDoor
namespace Go.Proofs.YtliiclmhpphpmaaGreatDoor
open Go Go.RowKit
theorem at_name {P : Program} {ops : Array Oper} {Q : Exit → Act → World → Prop} {S : World → Prop} {k fuel n : Nat} {listed : Array Bool} {m : List (Nat × Value)} {w : World}
  (h : ∀ AT : Nat → Array Bool → Nat → List (Nat × Value) → World → Prop, (∀ f l n m w, at_ P ops Q S k f l n m w → AT f l n m w) → (∀ f l n m w, AT f l n m w → at_ P ops Q S k f l n m w) → AT fuel listed n m w) : at_ P ops Q S k fuel listed n m w :=
 h (at_ P ops Q S k) (fun _ _ _ _ _ h => h) (fun _ _ _ _ _ h => h)

section
variable {Z : Bool → Nat → Prop} {w0 w W W' : World} {L A' : List En}
theorem Own.join (h : Own Z w0 W L) (h' : Own Z0 W W' A') (ho : ∀ e ∈ A', e.own) : Own Z w0 W' (A' ++ L) :=
 h.step (A := []) (Frame.of_below h'.old) (fun _ _ hn => hn.elim) h'.has h'.dist (fun e he k hk => by
  rcases h'.free e he k hk with h1 | h1
  ·exact absurd (h1.2 (ho e he)) (by simp [Z0])
  ·exact .inr h1)
theorem Own.join1 {e : En} (h : Own Z w0 W L) (h' : Own Z0 W W' [e]) (ho : e.own) : Own Z w0 W' (e :: L) := h.join h' (fun e' he => by rw [List.mem_singleton.1 he]; exact ho)
end
def Src (w : World) (A : Option Addr) (m : Nat) (news : List Value) : Prop := (A = none ∧ m = 0 ∧ news = []) ∨ ∃ a, A = some a ∧ ∀ j u, news[j]? = some u → w.cell? (a.add j) = some u
section
variable {Z : Bool → Nat → Prop} {w0 w W : World} {L : List En}
theorem zFd {α : Type} {P : Nat → α → Prop} : ∀ (n : Nat), (∀ i, i < n → ∃ v, P i v) → ∃ vs : List α, vs.length = n ∧ ∀ i v, vs[i]? = some v → P i v
 | 0, _ => ⟨[], rfl, fun i v h => by simp at h⟩
 | n + 1, h => by
  obtain ⟨vs, h1, h2⟩ := zFd n (fun i hi => h i (by omega))
  obtain ⟨v, hv⟩ := h n (by omega)
  refine ⟨vs ++ [v], by simp [h1], fun i u hu => ?_⟩
  rcases zF0 hu with ⟨a, _⟩ | ⟨a, rfl⟩
  ·exact h2 i u a
  ·rw [a, h1]; exact hv
end
section
variable {w : World}
theorem zBj {g o n : Nat} {T : TypeId} {vs : List Value} (hT : TyB T n true) (hn : vs.length = n) (h : ∀ j v, vs[j]? = some v → w.cell? ⟨g, o + j, none⟩ = some v) : (loadVar T ⟨g, o, none⟩).run Tryz.prog w = .ok (.agg vs.toArray) w := by
 have := zEe g o vs h n 0 #[] (by omega)
 simp [loadVar, zG4 hT, zCc hT.size, loadCells, this]
end
theorem res1c {P : Program} {fn : Func} {a g : Nat} {v : Value} {T0 : TypeId} (h : fn.results = #[.cell a T0]) (T : Array Value) (w : World) (h1 : T[a]? = some (.pointer (some ⟨g, 0, none⟩))) (hv : (loadVar T0 ⟨g, 0, none⟩).run P w = .ok v w) : (results fn T).run P w = .ok v w := by
 simp [results, h, Array.getD_eq_getD_getElem?, h1, hv, asAddr]
theorem res0 {fn : Func} {P : Program} (h : fn.results = #[]) (T : Array Value) (w : World) : (results fn T).run P w = .ok (.tuple #[]) w := by
 simp [results, h]
section
variable {P : Program} {ops : Array Oper} {Q : Exit → Act → World → Prop} {S C : World → Prop} {r : List (Nat × Nat)} {rest : List Oper} {n : Nat} {m : List (Nat × Value)} {w w' : World} {i d : Nat} {op : Op} {t : TypeId} {pos : String} {aft : Array Edge} {gd : Option (Nat × Bool)} {v : Value}
theorem zDi (ho : ops[i]? = some ⟨some d, op, t, pos, aft, gd⟩) (hg : wantedM ops m gd = some false) (hd : Nat.blt d n = true) (hS : S w) (h : wt P ops Q S r n ((d, undef) :: m) w) : wt P ops Q S ((i, 2) :: r) n m w := fun a ha =>
 ⟨_, ho, fun K hK => by
  rw [if_neg (by rw [ha.wanted hg]; decide)]
  exact hK.out _ _ hS (fun _ => h _ (ha.put (by simpa [Nat.blt_eq] using hd) undef))⟩
end
section
variable {ρ : Operand → Value} {d : Option Tmp} {x y z : Operand} {t T : TypeId} {pos : String} {aft : Array Edge} {gd : Option (Nat × Bool)} {w : World}
end
end Go.Proofs.YtliiclmhpphpmaaGreatDoor
