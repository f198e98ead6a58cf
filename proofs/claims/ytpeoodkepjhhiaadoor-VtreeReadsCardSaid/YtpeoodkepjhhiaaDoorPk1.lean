/-
  Lemmas and contracts, joined: Circ Mem Sets WSets WCirc WCheck WSets2 Eval WEval WSets3 WEval2 Own Sx Own2 Ex Fr.
-/
import Derived.WalkKit
import Derived.WalkSpells
import Derived.WalkLawsBesides
import Derived.Handy
import Derived.Deep.LoopGhost
import Derived.Deep.Draws
import Derived.Deep.OwnRows
import Derived.Deep.AppendLies
import Derived.Deep.RegionHeld3
import Derived.Deep.RegionLaw
import Derived.Deep.RegionWith
import Derived.Deep.QuietTactic
import Derived.Deep.Cut
import Derived.Deep.CutRange
import Derived.Deep.DeepCutAuto
import Derived.Deep.DeepFit
import Derived.Deep.DeepMust
import Derived.Deep.Light
import Derived.BigQuiet
import Derived.Laws.CopyOwn
import Derived.Laws.AppendOwnNone
import Derived.Lib.Hide
import Derived.Maps.AppendAt
import Derived.Test.YtpeoodkepjhhiaaDoorProg
import Derived.Deep.RegionHeld
import Derived.Deep.RegionHeldLaw
import Derived.MapKept
namespace Go.Proofs.YtpeoodkepjhhiaaDoor

/-- A gate of a circuit, as the document has it. -/
structure Gate where
  kind : Int
  lit : Int
  inp : List Int

def allowedB (kind n : Int) : Bool :=
  if kind = 0 ∨ kind = 1 ∨ kind = 2 then n == 0 else if kind = 3 then n == 1 else if kind = 7 then n == 2 else if kind = 8 then n == 3
  else kind == 4 || kind == 5 || kind == 6
def litVar (l : Int) : Int := if 1 ≤ l ∧ l ≤ 128 then l else if -128 ≤ l ∧ l ≤ -1 then -l else 0
def litOk (l n : Int) : Bool := decide (litVar l ≠ 0 ∧ litVar l ≤ n)
def inOk (i : Int) (k : Int) : Bool := decide (0 ≤ k ∧ k < i)
def litGood (n : Int) (g : Gate) : Bool := if g.kind = 2 then litOk g.lit n else decide (g.lit = 0)
def goodGate (n i : Int) (g : Gate) : Bool := allowedB g.kind g.inp.length && litGood n g && g.inp.all (inOk i)
def sizeTo (gs : List Gate) (k : Nat) : Nat := ((gs.take k).map fun g => g.inp.length).sum
def sizeOf (gs : List Gate) : Nat := sizeTo gs gs.length
def goodAt (n : Int) (gs : List Gate) (i : Nat) : Bool := match gs[i]? with
  | some g => goodGate n i g
  | none => false
def goodTo (n : Int) (gs : List Gate) (k : Nat) : Bool := (List.range k).all (goodAt n gs)
def checkOf (n : Int) (gs : List Gate) : Int :=
  if n < 0 ∨ 128 < n then 6 else if 4096 < gs.length ∨ 65536 < sizeOf gs then 2 else if gs.length = 0 then 1 else if goodTo n gs gs.length then 0 else 1

theorem sizeTo_succ (gs : List Gate) (k : Nat) (h : k < gs.length) : sizeTo gs (k + 1) = sizeTo gs k + gs[k].inp.length := by
  unfold sizeTo
  rw [List.take_succ_eq_append_getElem h, List.map_append, List.sum_append_nat]
  simp only [List.map_cons, List.map_nil, List.sum_cons, List.sum_nil, Nat.add_zero]
theorem sizeTo_le (gs : List Gate) (k : Nat) : sizeTo gs k ≤ sizeOf gs := by
  unfold sizeOf sizeTo
  rw [List.take_length]
  conv => rhs; rw [← List.take_append_drop k gs]
  rw [List.map_append, List.sum_append_nat]; omega
theorem sizeTo_zero (gs : List Gate) : sizeTo gs 0 = 0 := by simp [sizeTo]
theorem sizeTo_mono (gs : List Gate) (j k : Nat) (h : j ≤ k) : sizeTo gs j ≤ sizeTo gs k := by
  unfold sizeTo
  have : gs.take k = gs.take j ++ (gs.drop j).take (k - j) := by
    rw [← List.take_add]; congr 1; omega
  rw [this, List.map_append, List.sum_append_nat]; omega
theorem goodAt_eq (n : Int) (gs : List Gate) (i : Nat) (h : i < gs.length) : goodAt n gs i = goodGate n i gs[i] := by
  unfold goodAt; rw [List.getElem?_eq_getElem h]
theorem goodTo_succ (n : Int) (gs : List Gate) (k : Nat) : goodTo n gs (k + 1) = (goodTo n gs k && goodAt n gs k) := by
  unfold goodTo; rw [List.range_succ]; simp
theorem goodTo_zero (n : Int) (gs : List Gate) : goodTo n gs 0 = true := rfl
theorem goodTo_iff (n : Int) (gs : List Gate) (k : Nat) : goodTo n gs k = true ↔ ∀ i, i < k → goodAt n gs i = true := by
  unfold goodTo; simp
theorem goodTo_false (n : Int) (gs : List Gate) (i k : Nat) (h : i < k) (hg : goodAt n gs i = false) : goodTo n gs k = false := by
  cases e : goodTo n gs k with
  | false => rfl
  | true =>
    have := (goodTo_iff n gs k).1 e i h
    rw [hg] at this; cases this
theorem litVar_range (l : Int) : 0 ≤ litVar l ∧ litVar l ≤ 128 := by unfold litVar; split <;> (try split) <;> omega
theorem litOk_iff (l n : Int) (h0 : 0 ≤ n) (h : n ≤ 128) : litOk l n = true ↔ (1 ≤ l ∧ l ≤ n) ∨ (-n ≤ l ∧ l ≤ -1) := by
  unfold litOk litVar
  split
  · simp; omega
  · split
    · simp; omega
    · simp; omega
end Go.Proofs.YtpeoodkepjhhiaaDoor
namespace Go.Proofs.YtpeoodkepjhhiaaDoor
open Go Go.RowKit

theorem bcell {w w' : World} {B : Nat} (h : Below B w w') : (∀ b o, b < B → w'.cell? ⟨b, o, none⟩ = w.cell? ⟨b, o, none⟩) ∧ (∀ b o, b < B → w'.frozen? ⟨b, o, none⟩ = w.frozen? ⟨b, o, none⟩) :=
  ⟨fun b o hb => h.cell (p := ⟨b, o, none⟩) hb, fun b o hb => h.frozen (p := ⟨b, o, none⟩) hb⟩

/-- The slice value v reads as the list xs; each element takes sz cells and is read by R; all of it lies below block B. -/
def SliceV {α : Type} (sz : Nat) (R : World → Addr → α → Prop) (w : World) (B : Nat) (v : Value) (xs : List α) : Prop :=
  ∃ A c, v = .slice A xs.length c ∧ xs.length ≤ c ∧ c ≤ maxLen ∧ (0 < xs.length → ∃ b o, b < B ∧ A = some ⟨b, o, none⟩ ∧ ∀ i x, xs[i]? = some x → R w ⟨b, o + i * sz, none⟩ x)

/-- A reading that hangs on cells below B alone. -/
def Stays {α : Type} (B : Nat) (R : World → Addr → α → Prop) : Prop := ∀ w w' a x, Below B w w' → a.block < B → R w a x → R w' a x

theorem SliceV.below {α : Type} {sz : Nat} {R : World → Addr → α → Prop} {w w' : World} {B : Nat} {v : Value} {xs : List α} (hR : Stays B R)
    (h : SliceV sz R w B v xs) (hb : Below B w w') : SliceV sz R w' B v xs := by
  obtain ⟨A, c, hv, h1, h2, h3⟩ := h
  refine ⟨A, c, hv, h1, h2, fun hn => ?_⟩
  obtain ⟨b, o, hB, hA, hc⟩ := h3 hn
  exact ⟨b, o, hB, hA, fun i x hx => hR _ _ _ _ hb hB (hc i x hx)⟩

def IntAt (w : World) (a : Addr) (x : Int) : Prop := w.cell? a = some (.int .i64 x)
def BoolAt (w : World) (a : Addr) (x : Bool) : Prop := w.cell? a = some (.bool x)
abbrev IntsV := SliceV 1 IntAt
abbrev BoolsV := SliceV 1 BoolAt
def RowAt (B : Nat) (w : World) (a : Addr) (xs : List Int) : Prop := ∃ v, w.cell? a = some v ∧ IntsV w B v xs
def RowsV (w : World) (B : Nat) := SliceV 1 (RowAt B) w B

theorem IntAt.stays (B : Nat) : Stays B IntAt := fun _ _ _ _ hb hB h => (hb.cell hB).trans h
theorem BoolAt.stays (B : Nat) : Stays B BoolAt := fun _ _ _ _ hb hB h => (hb.cell hB).trans h
theorem IntsV.below {w w' : World} {B : Nat} {v : Value} {xs : List Int} (h : IntsV w B v xs) (hb : Below B w w') : IntsV w' B v xs := SliceV.below (IntAt.stays B) h hb
theorem BoolsV.below {w w' : World} {B : Nat} {v : Value} {xs : List Bool} (h : BoolsV w B v xs) (hb : Below B w w') : BoolsV w' B v xs := SliceV.below (BoolAt.stays B) h hb
theorem RowAt.stays (B : Nat) : Stays B (RowAt B) := fun _ _ _ _ hb hB ⟨v, h, hv⟩ => ⟨v, (hb.cell hB).trans h, hv.below hb⟩
theorem RowsV.below {w w' : World} {B : Nat} {v : Value} {xs : List (List Int)} (h : RowsV w B v xs) (hb : Below B w w') : RowsV w' B v xs := SliceV.below (RowAt.stays B) h hb

theorem SliceV.more {α : Type} {sz : Nat} {R : World → Addr → α → Prop} {w : World} {B B' : Nat} {v : Value} {xs : List α}
    (h : SliceV sz R w B v xs) (hB : B ≤ B') : SliceV sz R w B' v xs := by
  obtain ⟨A, c, hv, h1, h2, h3⟩ := h
  refine ⟨A, c, hv, h1, h2, fun hn => ?_⟩
  obtain ⟨b, o, hb, hA, hc⟩ := h3 hn
  exact ⟨b, o, by omega, hA, hc⟩
theorem RowAt.more {B B' : Nat} (hB : B ≤ B') {w : World} {a : Addr} {xs : List Int} (h : RowAt B w a xs) : RowAt B' w a xs := by
  obtain ⟨v, h1, h2⟩ := h
  exact ⟨v, h1, SliceV.more h2 hB⟩
theorem RowsV.more {w : World} {B B' : Nat} {v : Value} {xs : List (List Int)} (h : RowsV w B v xs) (hB : B ≤ B') : RowsV w B' v xs := by
  obtain ⟨A, c, hv, h1, h2, h3⟩ := h
  refine ⟨A, c, hv, h1, h2, fun hn => ?_⟩
  obtain ⟨b, o, hb, hA, hc⟩ := h3 hn
  exact ⟨b, o, by omega, hA, fun i x hx => (hc i x hx).more hB⟩

def GateAt (B : Nat) (w : World) (a : Addr) (g : Gate) : Prop :=
  w.cell? a = some (.int .i64 g.kind) ∧ w.cell? ⟨a.block, a.off + 1, none⟩ = some (.int .i64 g.lit) ∧ ∃ v, w.cell? ⟨a.block, a.off + 2, none⟩ = some v ∧ IntsV w B v g.inp
def GatesV (w : World) (B : Nat) := SliceV 3 (GateAt B) w B
theorem GateAt.stays (B : Nat) : Stays B (GateAt B) := fun _ _ _ _ hb hB ⟨h1, h2, v, h3, h4⟩ =>
  ⟨(hb.cell hB).trans h1, (hb.cell (by exact hB)).trans h2, v, (hb.cell (by exact hB)).trans h3, h4.below hb⟩
theorem GatesV.below {w w' : World} {B : Nat} {v : Value} {xs : List Gate} (h : GatesV w B v xs) (hb : Below B w w') : GatesV w' B v xs := SliceV.below (GateAt.stays B) h hb
theorem GateAt.more {B B' : Nat} (hB : B ≤ B') {w : World} {a : Addr} {g : Gate} (h : GateAt B w a g) : GateAt B' w a g := by
  obtain ⟨h1, h2, v, h3, h4⟩ := h
  exact ⟨h1, h2, v, h3, SliceV.more h4 hB⟩
theorem GatesV.more {w : World} {B B' : Nat} {v : Value} {xs : List Gate} (h : GatesV w B v xs) (hB : B ≤ B') : GatesV w B' v xs := by
  obtain ⟨A, c, hv, h1, h2, h3⟩ := h
  refine ⟨A, c, hv, h1, h2, fun hn => ?_⟩
  obtain ⟨b, o, hb, hA, hc⟩ := h3 hn
  exact ⟨b, o, by omega, hA, fun i x hx => (hc i x hx).more hB⟩

/-- What a round needs of an element: its address and its cells, in the walk's spelling. -/
theorem IntsV.at_ {w w' : World} {B : Nat} {A : Option Addr} {n c k : Nat} {xs : List Int} (h : IntsV w B (.slice A n c) xs) (hb : Below B w w') (hk : k < xs.length) :
    ∃ b o, A = some ⟨b, o, none⟩ ∧ b < B ∧ w'.cell? ⟨b, o + k, none⟩ = some (.int .i64 xs[k]) := by
  obtain ⟨A', c', hv, _, _, h3⟩ := h
  injection hv with hA _ _
  subst hA
  obtain ⟨b, o, hB, rfl, hc⟩ := h3 (by omega)
  refine ⟨b, o, rfl, hB, (hb.cell (by exact hB)).trans ?_⟩
  simpa [IntAt, BoolAt] using hc k _ (List.getElem?_eq_getElem hk)
theorem BoolsV.at_ {w w' : World} {B : Nat} {A : Option Addr} {n c k : Nat} {xs : List Bool} (h : BoolsV w B (.slice A n c) xs) (hb : Below B w w') (hk : k < xs.length) :
    ∃ b o, A = some ⟨b, o, none⟩ ∧ b < B ∧ w'.cell? ⟨b, o + k, none⟩ = some (.bool xs[k]) := by
  obtain ⟨A', c', hv, _, _, h3⟩ := h
  injection hv with hA _ _
  subst hA
  obtain ⟨b, o, hB, rfl, hc⟩ := h3 (by omega)
  refine ⟨b, o, rfl, hB, (hb.cell (by exact hB)).trans ?_⟩
  simpa [IntAt, BoolAt] using hc k _ (List.getElem?_eq_getElem hk)
theorem RowsV.at_ {w w' : World} {B : Nat} {A : Option Addr} {n c k : Nat} {xs : List (List Int)} (h : RowsV w B (.slice A n c) xs) (hb : Below B w w') (hk : k < xs.length) :
    ∃ b o A' c', A = some ⟨b, o, none⟩ ∧ b < B ∧ w'.cell? ⟨b, o + k, none⟩ = some (.slice A' xs[k].length c') ∧ IntsV w' B (.slice A' xs[k].length c') xs[k] ∧ xs[k].length ≤ c' ∧ c' ≤ maxLen := by
  obtain ⟨A', c', hv, _, _, h3⟩ := h
  injection hv with hA _ _
  subst hA
  obtain ⟨b, o, hB, rfl, hc⟩ := h3 (by omega)
  obtain ⟨v, hcell, hI⟩ := hc k _ (List.getElem?_eq_getElem hk)
  have hI' := hI.below hb
  obtain ⟨A'', c'', rfl, h5, h6, _⟩ := hI
  refine ⟨b, o, A'', c'', rfl, hB, (hb.cell (by exact hB)).trans ?_, hI', h5, h6⟩
  simpa using hcell
theorem GatesV.at_ {w w' : World} {B : Nat} {A : Option Addr} {n c k : Nat} {xs : List Gate} (h : GatesV w B (.slice A n c) xs) (hb : Below B w w') (hk : k < xs.length) :
    ∃ b o A' c', A = some ⟨b, o, none⟩ ∧ b < B ∧ w'.cell? ⟨b, o + k * 3, none⟩ = some (.int .i64 xs[k].kind) ∧ w'.cell? ⟨b, o + k * 3 + 1, none⟩ = some (.int .i64 xs[k].lit) ∧
      w'.cell? ⟨b, o + k * 3 + 2, none⟩ = some (.slice A' xs[k].inp.length c') ∧ IntsV w' B (.slice A' xs[k].inp.length c') xs[k].inp ∧ xs[k].inp.length ≤ c' ∧ c' ≤ maxLen := by
  obtain ⟨A', c', hv, _, _, h3⟩ := h
  injection hv with hA _ _
  subst hA
  obtain ⟨b, o, hB, rfl, hc⟩ := h3 (by omega)
  obtain ⟨h1, h2, v, h4, hI⟩ := hc k _ (List.getElem?_eq_getElem hk)
  have hI' := hI.below hb
  obtain ⟨A'', c'', rfl, h5, h6, _⟩ := hI
  exact ⟨b, o, A'', c'', rfl, hB, (hb.cell (by exact hB)).trans h1, (hb.cell (by exact hB)).trans h2, (hb.cell (by exact hB)).trans h4, hI', h5, h6⟩

/-- Block g holds just the cells cs, none of them frozen. -/
def Blk (w : World) (g : Nat) (t : TypeId) (cs : Array Value) : Prop := w.heap[g]? = some (.cells cs t (0, 0))
section
variable {w w' : World} {g : Nat} {t : TypeId} {cs : Array Value}
theorem Blk.lt (h : Blk w g t cs) : g < w.heap.size := (Array.getElem?_eq_some_iff.1 h).1
theorem Blk.cell (h : Blk w g t cs) (i : Nat) : w.cell? ⟨g, i, none⟩ = cs[i]? := cell_of_row w g i cs t (0, 0) h
theorem Blk.free (h : Blk w g t cs) (i : Nat) : w.frozen? ⟨g, i, none⟩ = false := by
  unfold Blk at h
  simp [World.frozen?, h]
theorem Blk.new (w : World) (t : TypeId) (cs : Array Value) : Blk (w.alloc (.cells cs t)) w.heap.size t cs := heap_alloc_new w _
theorem Blk.new_ {cs : Array Value} (hg : g = w.heap.size) : Blk (w.alloc (.cells cs t)) g t cs := by subst hg; exact Blk.new w t cs
theorem Blk.alloc (h : Blk w g t cs) (o : Obj) : Blk (w.alloc o) g t cs := (Below.heap_alloc w o g h.lt).trans h
theorem Blk.drew (h : Blk w g t cs) : Blk w.drew g t cs := h
theorem Blk.put (h : Blk w g t cs) (i : Nat) (u : Value) : Blk (w.setCell ⟨g, i, none⟩ u) g t (cs.setIfInBounds i u) := by
  unfold Blk at h ⊢
  simp [World.setCell, Array.getElem?_modify, h]
theorem Blk.far (h : Blk w g t cs) {p : Addr} (hp : g ≠ p.block) (u : Value) : Blk (w.setCell p u) g t cs := (Below.heap_setCell w p u g hp).trans h
theorem Blk.below {B : Nat} (h : Blk w g t cs) (hb : Below B w w') (hg : g < B) : Blk w' g t cs := (hb.block g hg).trans h
theorem Blk.keep (h : Blk w g t cs) (hb : Below w.heap.size w w') : Blk w' g t cs := h.below hb h.lt
theorem Blk.grown {row : Option Nat} (h : Blk w g t cs) (hb : w.grownBy w' row) (hg : some g ≠ row) : Blk w' g t cs := (hb.block g h.lt hg).trans h
theorem Blk.apart {g' : Nat} {t' : TypeId} {cs' : Array Value} (h : Blk w g t cs) (h' : Blk w g' t' cs') (hne : t ≠ t') : g ≠ g' := by
  rintro rfl
  unfold Blk at h h'
  rw [h] at h'
  injection h' with h'
  injection h' with _ ht
  exact hne ht
end
/-- A contract that leaves old memory alone, met behind others of that kind: all that was there at w1 still is. -/
theorem kept {P : Program} {f : FuncId} {args : Array Value} {W w1 : World} {v : Value} (h : Calls P f args W fun e w' => e = .returned v ∧ Below W.heap.size W w') (hW : Below w1.heap.size w1 W) :
    Calls P f args W fun e w' => e = .returned v ∧ Below w1.heap.size w1 w' := h.mono fun _ _ ⟨he, hb⟩ => ⟨he, hW.trans (hb.mono hW.size)⟩
theorem below_drewN {B : Nat} {a w : World} (h : Below B a w) (n : Nat) : Below B a (w.drewN n) := ⟨h.os, h.tape, h.output, h.size, h.block⟩
theorem Blk.later {w : World} {g : Nat} {t : TypeId} {cs : Array Value} (h : Blk w g t cs) (i : Nat) (v : Value) (hi : cs[i]? = some v) : ∀ w', Below w.heap.size w w' → w'.cell? ⟨g, i, none⟩ = some v :=
  fun _ hb => (hb.cell (p := ⟨g, i, none⟩) h.lt).trans ((h.cell i).trans hi)
/-- Block numbers: what a world below another has. -/
theorem Below.le {B : Nat} {w w' : World} (h : Below B w w') : w.heap.size ≤ w'.heap.size := h.size
end Go.Proofs.YtpeoodkepjhhiaaDoor
namespace Go.Proofs.YtpeoodkepjhhiaaDoor

structure VS where
  a : BitVec 64
  b : BitVec 64

theorem VS.eta (s : VS) : (⟨s.a, s.b⟩ : VS) = s := rfl
def VS.empty : VS := ⟨0#64, 0#64⟩
def VS.has (s : VS) (v : Int) : Bool :=
  if 1 ≤ v ∧ v ≤ 64 then s.a.getLsbD (v.toNat - 1) else if 65 ≤ v ∧ v ≤ 128 then s.b.getLsbD (v.toNat - 65) else false
/-- The set of the variables for which f says yes. -/
def wordOf (f : Nat → Bool) : Nat → BitVec 64
  | 0 => 0#64
  | n + 1 => if f n then wordOf f n ||| (1#64 <<< n) else wordOf f n
def VS.of (f : Int → Bool) : VS := ⟨wordOf (fun i => f (i + 1)) 64, wordOf (fun i => f (i + 65)) 64⟩
def VS.bit (v : Int) : VS :=
  if 1 ≤ v ∧ v ≤ 64 then ⟨1#64 <<< (v.toNat - 1), 0#64⟩ else if 65 ≤ v ∧ v ≤ 128 then ⟨0#64, 1#64 <<< (v.toNat - 65)⟩ else .empty
def VS.with_ (s : VS) (v : Int) : VS := ⟨s.a ||| (VS.bit v).a, s.b ||| (VS.bit v).b⟩
def VS.cut (s t : VS) : VS := ⟨s.a &&& t.a, s.b &&& t.b⟩
def VS.union (s t : VS) : VS := ⟨s.a ||| t.a, s.b ||| t.b⟩
def VS.minus (s t : VS) : VS := ⟨s.a &&& ~~~t.a, s.b &&& ~~~t.b⟩
def VS.xor (s t : VS) : VS := ⟨s.a ^^^ t.a, s.b ^^^ t.b⟩
def VS.all (n : Int) : VS := VS.of fun v => decide (v ≤ n)
def VS.sub (s t : VS) : Bool := (s.minus t).a == 0#64 && (s.minus t).b == 0#64

theorem wordOf_bit (f : Nat → Bool) (n : Nat) (hn : n ≤ 64) (i : Nat) : (wordOf f n).getLsbD i = (decide (i < n) && f i) := by
  induction n with
  | zero => simp [wordOf]
  | succ n ih =>
    have ih := ih (by omega)
    unfold wordOf
    by_cases hf : f n
    · rw [if_pos hf, BitVec.getLsbD_or, ih, BitVec.getLsbD_shiftLeft]
      by_cases h1 : i < n
      · simp [h1, show i < n + 1 from by omega]
      · by_cases h2 : i = n
        · subst h2; simp [hf]; omega
        · simp [show ¬ i < n + 1 from by omega, h1]
          intro h3 h4
          omega
    · rw [if_neg hf, ih]
      by_cases h1 : i < n
      · simp [h1, show i < n + 1 from by omega]
      · by_cases h2 : i = n
        · subst h2; simp [hf]
        · simp [show ¬ i < n + 1 from by omega, h1]

theorem VS.has_of (f : Int → Bool) (v : Int) : (VS.of f).has v = (decide (1 ≤ v ∧ v ≤ 128) && f v) := by
  unfold VS.has VS.of
  by_cases h1 : 1 ≤ v ∧ v ≤ 64
  · rw [if_pos h1]
    simp only []
    rw [wordOf_bit _ _ (Nat.le_refl _)]
    have e : ((v.toNat - 1 : Nat) : Int) + 1 = v := by omega
    rw [e]
    simp [show v.toNat - 1 < 64 from by omega, h1.1, show v ≤ 128 from by omega]
  · rw [if_neg h1]
    by_cases h2 : 65 ≤ v ∧ v ≤ 128
    · rw [if_pos h2]
      simp only []
      rw [wordOf_bit _ _ (Nat.le_refl _)]
      have e : ((v.toNat - 65 : Nat) : Int) + 65 = v := by omega
      rw [e]
      simp [show v.toNat - 65 < 64 from by omega, h2.2, show 1 ≤ v from by omega]
    · rw [if_neg h2]
      have : ¬ (1 ≤ v ∧ v ≤ 128) := by omega
      simp [this]

theorem VS.ext_has {s t : VS} (h : ∀ v : Int, 1 ≤ v → v ≤ 128 → s.has v = t.has v) : s = t := by
  obtain ⟨a, b⟩ := s
  obtain ⟨c, d⟩ := t
  have ha : a = c := by
    apply BitVec.eq_of_getLsbD_eq
    intro i hi
    have := h (i + 1) (by omega) (by omega)
    unfold VS.has at this
    rw [if_pos (by omega), if_pos (by omega)] at this
    simpa [show ((i : Int) + 1).toNat = i + 1 from by omega] using this
  have hb : b = d := by
    apply BitVec.eq_of_getLsbD_eq
    intro i hi
    have := h (i + 65) (by omega) (by omega)
    unfold VS.has at this
    rw [if_neg (by omega), if_pos (by omega), if_neg (by omega), if_pos (by omega)] at this
    simpa [show ((i : Int) + 65).toNat = i + 65 from by omega] using this
  rw [ha, hb]

theorem VS.has_out (s : VS) {v : Int} (h : v < 1 ∨ 128 < v) : s.has v = false := by
  unfold VS.has
  rw [if_neg (by omega), if_neg (by omega)]
theorem VS.has_in {s : VS} {v : Int} (h : s.has v = true) : 1 ≤ v ∧ v ≤ 128 := by
  rcases Classical.em (v < 1 ∨ 128 < v) with h1 | h1
  · rw [VS.has_out s h1] at h; cases h
  · omega

theorem VS.has_empty (v : Int) : VS.empty.has v = false := by
  unfold VS.has VS.empty
  split
  · simp
  · split <;> simp
theorem VS.has_bit (u v : Int) : (VS.bit u).has v = (decide (1 ≤ u ∧ u ≤ 128) && decide (v = u)) := by
  unfold VS.has VS.bit
  by_cases h1 : 1 ≤ u ∧ u ≤ 64
  · rw [if_pos h1]
    by_cases h2 : 1 ≤ v ∧ v ≤ 64
    · rw [if_pos h2]
      simp only [BitVec.getLsbD_shiftLeft, BitVec.getLsbD_one]
      by_cases e : v = u
      · subst e; simp [show v.toNat - 1 < 64 from by omega, h1.1, show v ≤ 128 from by omega]
      · have : ¬ (v.toNat - 1 - (u.toNat - 1) = 0 ∧ ¬ v.toNat - 1 < u.toNat - 1) := by omega
        simp [e]; omega
    · rw [if_neg h2]
      split
      · simp; omega
      · simp; omega
  · rw [if_neg h1]
    by_cases h3 : 65 ≤ u ∧ u ≤ 128
    · rw [if_pos h3]
      by_cases h2 : 1 ≤ v ∧ v ≤ 64
      · rw [if_pos h2]; simp; omega
      · rw [if_neg h2]
        by_cases h4 : 65 ≤ v ∧ v ≤ 128
        · rw [if_pos h4]
          simp only [BitVec.getLsbD_shiftLeft, BitVec.getLsbD_one]
          by_cases e : v = u
          · subst e; simp [show v.toNat - 65 < 64 from by omega, h3.2, show 1 ≤ v from by omega]
          · simp [e]; omega
        · rw [if_neg h4]; simp; omega
    · rw [if_neg h3]
      have := VS.has_empty v
      unfold VS.has at this
      rw [this]
      have : ¬ (1 ≤ u ∧ u ≤ 128) := by omega
      simp [this]

theorem VS.has_union (s t : VS) (v : Int) : (s.union t).has v = (s.has v || t.has v) := by
  unfold VS.has VS.union
  split
  · simp
  · split <;> simp
theorem VS.has_cut (s t : VS) (v : Int) : (s.cut t).has v = (s.has v && t.has v) := by
  unfold VS.has VS.cut
  split
  · simp
  · split <;> simp
theorem VS.has_minus (s t : VS) (v : Int) : (s.minus t).has v = (s.has v && !t.has v) := by
  unfold VS.has VS.minus
  split
  · simp [show v.toNat - 1 < 64 from by omega]
  · split
    · simp [show v.toNat - 65 < 64 from by omega]
    · rfl
theorem VS.has_xor (s t : VS) (v : Int) : (s.xor t).has v = (s.has v != t.has v) := by
  unfold VS.has VS.xor
  split
  · simp
  · split <;> simp
theorem VS.has_with (s : VS) (u v : Int) : (s.with_ u).has v = (s.has v || (decide (1 ≤ u ∧ u ≤ 128) && decide (v = u))) := by
  rw [← VS.has_bit, ← VS.has_union]; rfl
theorem VS.has_all (n v : Int) : (VS.all n).has v = (decide (1 ≤ v ∧ v ≤ 128) && decide (v ≤ n)) := by
  unfold VS.all; rw [VS.has_of]
theorem VS.sub_iff (s t : VS) : s.sub t = true ↔ ∀ v : Int, 1 ≤ v → v ≤ 128 → s.has v = true → t.has v = true := by
  have e : s.sub t = true ↔ s.minus t = VS.empty := by
    unfold VS.sub VS.empty
    constructor
    · intro h
      simp only [Bool.and_eq_true, beq_iff_eq] at h
      obtain ⟨x, y⟩ := h
      generalize s.minus t = m at x y
      obtain ⟨p, q⟩ := m
      simp only at x y
      rw [x, y]
    · intro h; rw [h]; rfl
  rw [e]
  constructor
  · intro h v _ _ hs
    have := VS.has_minus s t v
    rw [h, VS.has_empty, hs] at this
    simpa using this.symm
  · intro h
    apply VS.ext_has
    intro v h1 h2
    rw [VS.has_empty, VS.has_minus]
    cases hs : s.has v
    · rfl
    · rw [h v h1 h2 hs]; rfl
theorem VS.eq_iff {s t : VS} : s = t ↔ s.a = t.a ∧ s.b = t.b := by
  constructor
  · intro h; rw [h]; exact ⟨rfl, rfl⟩
  · intro ⟨h1, h2⟩; obtain ⟨a, b⟩ := s; obtain ⟨c, d⟩ := t; simp only at h1 h2; rw [h1, h2]

/-- The variables of a set, ascending. -/
def VS.list (s : VS) (n : Nat) : List Int := ((List.range n).map fun i : Nat => (i : Int) + 1).filter s.has
/-- The set of the variables of a list. -/
def VS.ofList : List Int → VS
  | [] => .empty
  | v :: l => (VS.ofList l).with_ v
theorem VS.has_ofList (l : List Int) (v : Int) (h1 : 1 ≤ v) (h2 : v ≤ 128) : (VS.ofList l).has v = l.contains v := by
  induction l with
  | nil => simp [VS.ofList, VS.has_empty]
  | cons u l ih =>
    rw [VS.ofList, VS.has_with, ih]
    by_cases e : v = u
    · subst e; simp [h1, h2]
    · simp [e]
end Go.Proofs.YtpeoodkepjhhiaaDoor
namespace Go.Proofs.YtpeoodkepjhhiaaDoor
open Go Go.RowKit

theorem ofInt_bv (a : BitVec 64) : BitVec.ofInt 64 (a.toNat : Int) = a := by
  rw [BitVec.ofInt_natCast]; simp
theorem u64_wrap_bv (a : BitVec 64) : IntKind.u64.wrap (a.toNat : Int) = (a.toNat : Int) := by
  have := a.isLt
  rw [IntKind.wrap_u64]; omega
theorem bits_or_bv (a b : BitVec 64) : bits .or .u64 (a.toNat : Int) (b.toNat : Int) = ((a ||| b).toNat : Int) := by
  show IntKind.u64.wrap ((BitVec.ofInt 64 (a.toNat : Int) ||| BitVec.ofInt 64 (b.toNat : Int)).toNat : Int) = _
  rw [ofInt_bv, ofInt_bv, u64_wrap_bv]
theorem bits_and_bv (a b : BitVec 64) : bits .and .u64 (a.toNat : Int) (b.toNat : Int) = ((a &&& b).toNat : Int) := by
  show IntKind.u64.wrap ((BitVec.ofInt 64 (a.toNat : Int) &&& BitVec.ofInt 64 (b.toNat : Int)).toNat : Int) = _
  rw [ofInt_bv, ofInt_bv, u64_wrap_bv]
theorem bits_xor_bv (a b : BitVec 64) : bits .xor .u64 (a.toNat : Int) (b.toNat : Int) = ((a ^^^ b).toNat : Int) := by
  show IntKind.u64.wrap ((BitVec.ofInt 64 (a.toNat : Int) ^^^ BitVec.ofInt 64 (b.toNat : Int)).toNat : Int) = _
  rw [ofInt_bv, ofInt_bv, u64_wrap_bv]
theorem bits_andNot_bv (a b : BitVec 64) : bits .andNot .u64 (a.toNat : Int) (b.toNat : Int) = ((a &&& ~~~b).toNat : Int) := by
  show IntKind.u64.wrap ((BitVec.ofInt 64 (a.toNat : Int) &&& ~~~(BitVec.ofInt 64 (b.toNat : Int))).toNat : Int) = _
  rw [ofInt_bv, ofInt_bv, u64_wrap_bv]
theorem pow_bv (k : Nat) (hk : k < 64) : IntKind.u64.wrap (2 ^ k) = ((1#64 <<< k).toNat : Int) := by
  have h : ((1#64 <<< k).toNat : Int) = (2 : Int) ^ k := by
    have : (1#64 <<< k).toNat = 2 ^ k := by
      rw [BitVec.toNat_shiftLeft]
      simp only [BitVec.toNat_ofNat, Nat.shiftLeft_eq]
      rw [Nat.mod_eq_of_lt (show 1 < 2 ^ 64 by decide), Nat.one_mul]
      exact Nat.mod_eq_of_lt (Nat.pow_lt_pow_right (by decide) hk)
    rw [this]; simp
  rw [← h, u64_wrap_bv]
theorem bit_bv (a : BitVec 64) (k : Nat) (hk : k < 64) : (bits .and .u64 (a.toNat : Int) (IntKind.u64.wrap (2 ^ k)) != 0) = a.getLsbD k := by
  rw [pow_bv k hk, bits_and_bv]
  by_cases h : a.getLsbD k
  · rw [h, bne_iff_ne]
    intro e
    have e2 : a &&& 1#64 <<< k = 0#64 := by
      apply BitVec.eq_of_toNat_eq
      simpa using e
    have := congrArg (fun x => x.getLsbD k) e2
    simp [hk] at this
    rw [BitVec.getLsbD_eq_getElem hk, this] at h
    cases h
  · have h' : a.getLsbD k = false := by simpa using h
    rw [h']
    have e2 : a &&& 1#64 <<< k = 0#64 := by
      apply BitVec.eq_of_getLsbD_eq
      intro i hi
      rw [BitVec.getLsbD_and, BitVec.getLsbD_shiftLeft]
      by_cases e : i = k
      · subst e; rw [h']; simp
      · simp; omega
    rw [e2]; rfl
theorem shr_bv (a : BitVec 64) (k : Nat) : (((a.toNat : Int) / 2 ^ k).tmod 2 == 1) = a.getLsbD k := by
  have h1 : ((a.toNat : Int) / 2 ^ k) = ((a.toNat / 2 ^ k : Nat) : Int) := by
    rw [Int.natCast_ediv]; simp
  rw [h1, Int.tmod_eq_emod_of_nonneg (Int.natCast_nonneg _)]
  rw [BitVec.getLsbD, Nat.testBit, Nat.shiftRight_eq_div_pow, Nat.one_and_eq_mod_two]
  rcases Nat.mod_two_eq_zero_or_one (a.toNat / 2 ^ k) with h | h
  · rw [h]; rw [show ((a.toNat / 2 ^ k : Nat) : Int) % 2 = 0 from by omega]; rfl
  · rw [h]; rw [show ((a.toNat / 2 ^ k : Nat) : Int) % 2 = 1 from by omega]; rfl
theorem tn_beq (a b : BitVec 64) : (((a.toNat : Int)) == (b.toNat : Int)) = (a == b) := by
  by_cases h : a = b
  · subst h; simp
  · have : ¬ a.toNat = b.toNat := fun e => h (BitVec.eq_of_toNat_eq e)
    rw [show (a == b) = false from by simp [h], beq_eq_false_iff_ne]
    omega

theorem ret_agg2 {x y x' y' : Int} (h1 : x = x') (h2 : y = y') : Ending.returned (.agg #[.int .u64 x, .int .u64 y]) = .returned (.agg #[.int .u64 x', .int .u64 y']) := by rw [h1, h2]
theorem ret_bool {x y : Bool} (h : x = y) : Ending.returned (.bool x) = .returned (.bool y) := by rw [h]
theorem ret_int {k : IntKind} {x y : Int} (h : x = y) : Ending.returned (.int k x) = .returned (.int k y) := by rw [h]

theorem eqIn_u64 (w : World) (a c : Int) : (Op.equalIn 9999 55 (.int .u64 a) (.int .u64 c)).run Tryd.prog w = .ok (a == c) w := run_equalIn_int w 9998 55 .u64 .u64 a c Tryd.underlying55
theorem eq_sets (w : World) (a b c d : Int) : (binOp .eql 57 (.agg #[.int .u64 a, .int .u64 b]) (.agg #[.int .u64 c, .int .u64 d])).run Tryd.prog w = .ok (.bool (a == c && b == d)) w := by
  simp only [binOp]
  simp [Op.equal, Op.maxDepth]
  unfold Op.equalIn
  simp
  go_simp
  simp [show List.range' 0 2 = [0,1] from rfl, eqIn_u64, go_sem]
  by_cases h : a = c
  · subst h; simp [go_sem]
    by_cases h : b = d
    · subst h; simp
    · simp [h]
  · simp [h]


theorem has_lo (s : VS) (v : Int) (h : 1 ≤ v) (h2 : v ≤ 64) : s.has v = s.a.getLsbD (v.toNat - 1) := by unfold VS.has; rw [if_pos ⟨h, h2⟩]
theorem has_hi (s : VS) (v : Int) (h : 65 ≤ v) (h2 : v ≤ 128) : s.has v = s.b.getLsbD (v.toNat - 65) := by unfold VS.has; rw [if_neg (by omega), if_pos ⟨h, h2⟩]
theorem bit_lo (v : Int) (h : 1 ≤ v) (h2 : v ≤ 64) : VS.bit v = ⟨1#64 <<< (v.toNat - 1), 0#64⟩ := by unfold VS.bit; rw [if_pos ⟨h, h2⟩]
theorem bit_hi (v : Int) (h : 65 ≤ v) (h2 : v ≤ 128) : VS.bit v = ⟨0#64, 1#64 <<< (v.toNat - 65)⟩ := by unfold VS.bit; rw [if_neg (by omega), if_pos ⟨h, h2⟩]
theorem bit_out (v : Int) (h : v < 1 ∨ 128 < v) : VS.bit v = ⟨0#64, 0#64⟩ := by unfold VS.bit; rw [if_neg (by omega), if_neg (by omega)]; rfl

set_option maxHeartbeats 400000 in
theorem vars_with (a b : BitVec 64) (v : Int) (w : World) :
    Calls Tryd.prog 73 #[(.agg #[.int .u64 ((a).toNat : Int), .int .u64 ((b).toNat : Int)]), (.int .i64 (v))] w fun e w' => e = .returned (.agg #[.int .u64 ((VS.with_ ⟨a, b⟩ v).a.toNat : Int), .int .u64 ((VS.with_ ⟨a, b⟩ v).b.toNat : Int)]) ∧ Below w.heap.size w w' := by
  by_cases h : v < 1 ∨ 128 < v
  · unfold VS.with_
    rw [bit_out v h]
    rcases h with h | h
    all_goals
      go_enter Tryd.func73, Tryd.ntmps73
      go_wp2
      go_returns
      exact ⟨ret_agg2 (by simp) (by simp), by go_grown⟩
  · unfold VS.with_
    by_cases h2 : v ≤ 64
    · have h1 : 1 ≤ v := by omega
      rw [bit_lo v h1 h2]
      clear h
      have hq : (v-1)/64 = 0 := by omega
      have hr : (v-1)%64 = v-1 := by omega
      go_enter Tryd.func73, Tryd.ntmps73
      go_wp2
      go_returns
      exact ⟨ret_agg2 (by rw [pow_bv _ (by omega), bits_or_bv]) (by simp), by go_grown⟩
    · have h1 : 65 ≤ v := by omega
      have h3 : v ≤ 128 := by omega
      rw [bit_hi v h1 h3]
      clear h h2
      have hq : (v-1)/64 = 1 := by omega
      have hr : (v-1)%64 = v-65 := by omega
      have e : (v - 65).toNat = v.toNat - 65 := by omega
      have HE := Lib.hid e
      clear e
      go_enter Tryd.func73, Tryd.ntmps73
      go_wp2
      go_returns
      exact ⟨ret_agg2 (by simp) (by rw [HE.out, pow_bv _ (by omega), bits_or_bv]), by go_grown⟩

end Go.Proofs.YtpeoodkepjhhiaaDoor
namespace Go.Proofs.YtpeoodkepjhhiaaDoor
open Go Go.RowKit

end Go.Proofs.YtpeoodkepjhhiaaDoor
namespace Go.Proofs.YtpeoodkepjhhiaaDoor
open Go Go.RowKit

end Go.Proofs.YtpeoodkepjhhiaaDoor
namespace Go.Proofs.YtpeoodkepjhhiaaDoor
open Go Go.RowKit

theorem all_zero (n : Int) (h : n ≤ 0) : VS.all n = VS.empty := by
  apply VS.ext_has
  intro v h1 h2
  rw [VS.has_all, VS.has_empty]
  simp; omega
theorem all_top (n : Int) (h : 128 ≤ n) : VS.all n = VS.all 128 := by
  apply VS.ext_has
  intro v h1 h2
  rw [VS.has_all, VS.has_all]
  simp; omega
theorem all_succ (k : Nat) (h : k < 128) : VS.with_ (VS.all k) (k + 1) = VS.all ((k + 1 : Nat) : Int) := by
  apply VS.ext_has
  intro v h1 h2
  rw [VS.has_with, VS.has_all, VS.has_all, Bool.eq_iff_iff]
  simp; omega

/-- The set whose variables below k are those that the list l marks. -/
def markTo (l : List Bool) (k : Nat) : VS := VS.of fun u => decide (u < k) && l.getD u.toNat false
theorem has_markTo (l : List Bool) (k : Nat) (v : Int) (h1 : 1 ≤ v) (h2 : v ≤ 128) : (markTo l k).has v = (decide (v < k) && l.getD v.toNat false) := by
  unfold markTo; rw [VS.has_of]; simp [h1, h2]
theorem markTo_one (l : List Bool) : markTo l 1 = VS.empty := by
  apply VS.ext_has
  intro v h1 h2
  rw [has_markTo l 1 v h1 h2, VS.has_empty, show decide (v < ((1 : Nat) : Int)) = false from by simp; omega]
  rfl
theorem markTo_no (l : List Bool) (k : Nat) (h : l.getD k false = false) : markTo l (k + 1) = markTo l k := by
  apply VS.ext_has
  intro v h1 h2
  rw [has_markTo _ _ v h1 h2, has_markTo _ _ v h1 h2]
  by_cases e : v = k
  · subst e; simp only [Int.toNat_natCast, h, Bool.and_false]
  · rw [show decide (v < ((k + 1 : Nat) : Int)) = decide (v < (k : Int)) from by simp; omega]
theorem markTo_yes (l : List Bool) (k : Nat) (h : l.getD k false = true) : markTo l (k + 1) = (markTo l k).with_ k := by
  apply VS.ext_has
  intro v h1 h2
  rw [VS.has_with, has_markTo _ _ v h1 h2, has_markTo _ _ v h1 h2]
  by_cases e : v = k
  · subst e; simp only [Int.toNat_natCast, h]; simp [show 1 ≤ (k : Int) from h1, show (k : Int) ≤ 128 from h2]; omega
  · rw [show decide (v < ((k + 1 : Nat) : Int)) = decide (v < (k : Int)) from by simp; omega]
    simp [e]
theorem with_lo (s : VS) (k : Nat) (h1 : 1 ≤ k) (h2 : k ≤ 64) : s.with_ k = ⟨s.a ||| 1#64 <<< (k - 1), s.b⟩ := by
  unfold VS.with_; rw [bit_lo k (by omega) (by omega)]; simp
theorem with_hi (s : VS) (k : Nat) (h1 : 65 ≤ k) (h2 : k ≤ 128) : s.with_ k = ⟨s.a, s.b ||| 1#64 <<< (k - 65)⟩ := by
  unfold VS.with_; rw [bit_hi k (by omega) (by omega)]; simp

end Go.Proofs.YtpeoodkepjhhiaaDoor
namespace Go.Proofs.YtpeoodkepjhhiaaDoor

def inVals (g : Gate) (v : List Bool) : List Bool := g.inp.map fun k => v.getD k.toNat false
def onesOf (l : List Bool) : Nat := l.countP fun b => b
def litHolds (s : VS) (l : Int) : Bool := decide (litVar l ≠ 0) && (s.has (litVar l) == decide (0 < l))
def pickVal (v : List Bool) (l : List Int) : Bool := if v.getD (l.getD 0 0).toNat false then v.getD (l.getD 1 0).toNat false else v.getD (l.getD 2 0).toNat false
def valueOf (g : Gate) (s : VS) (v : List Bool) : Bool :=
  if g.kind = 1 then true else if g.kind = 2 then litHolds s g.lit else if g.kind = 3 then decide (onesOf (inVals g v) = 0)
  else if g.kind = 4 then decide (onesOf (inVals g v) = g.inp.length) else if g.kind = 5 then decide (0 < onesOf (inVals g v))
  else if g.kind = 6 then decide (onesOf (inVals g v) % 2 = 1) else if g.kind = 7 then decide (onesOf (inVals g v) ≠ 1)
  else if g.kind = 8 then pickVal v g.inp else false
/-- The values of the first k gates. -/
def valsTo (gs : List Gate) (s : VS) : Nat → List Bool
  | 0 => []
  | k + 1 => valsTo gs s k ++ [match gs[k]? with | some g => valueOf g s (valsTo gs s k) | none => false]
def valOf (gs : List Gate) (s : VS) (i : Nat) : Bool := (valsTo gs s gs.length).getD i false
def evalOf (n : Int) (gs : List Gate) (s : VS) : Bool :=
  decide (checkOf n gs = 0) && s.sub (VS.all n) && valOf gs s (gs.length - 1)

theorem valsTo_length (gs : List Gate) (s : VS) (k : Nat) : (valsTo gs s k).length = k := by
  induction k with
  | zero => rfl
  | succ k ih => unfold valsTo; simp [ih]
theorem valsTo_take (gs : List Gate) (s : VS) (j k : Nat) (h : j ≤ k) : (valsTo gs s k).take j = valsTo gs s j := by
  induction k with
  | zero => have : j = 0 := by omega
            subst this; rfl
  | succ k ih =>
    by_cases e : j = k + 1
    · subst e; rw [List.take_of_length_le]; rw [valsTo_length]; omega
    · have := ih (by omega)
      rw [← this]
      conv => lhs; unfold valsTo
      rw [List.take_append_of_le_length (by rw [valsTo_length]; omega)]
theorem valsTo_getD (gs : List Gate) (s : VS) (i j k : Nat) (hj : i < j) (hk : j ≤ k) : (valsTo gs s k).getD i false = (valsTo gs s j).getD i false := by
  rw [← valsTo_take gs s j k hk, List.getD_eq_getElem?_getD, List.getD_eq_getElem?_getD, List.getElem?_take_of_lt hj]
theorem valsTo_last (gs : List Gate) (s : VS) (k : Nat) (h : k < gs.length) : (valsTo gs s (k + 1)).getD k false = valueOf gs[k] s (valsTo gs s k) := by
  conv => lhs; unfold valsTo
  rw [List.getD_eq_getElem?_getD, List.getElem?_append_right (by rw [valsTo_length]; omega), valsTo_length]
  simp [h]
theorem valsTo_succ (gs : List Gate) (s : VS) (k : Nat) (h : k < gs.length) : valsTo gs s (k + 1) = valsTo gs s k ++ [valueOf gs[k] s (valsTo gs s k)] := by
  conv => lhs; unfold valsTo
  simp [h]
theorem onesOf_nil : onesOf [] = 0 := rfl
theorem onesOf_snoc (l : List Bool) (b : Bool) : onesOf (l ++ [b]) = onesOf l + (if b then 1 else 0) := by
  unfold onesOf; rw [List.countP_append]; cases b <;> simp
theorem onesOf_le (l : List Bool) : onesOf l ≤ l.length := List.countP_le_length
theorem onesOf_all (l : List Bool) : l.all (fun b => b) = decide (onesOf l = l.length) := by
  rw [Bool.eq_iff_iff]
  simp [onesOf, List.countP_eq_length]
theorem onesOf_any (l : List Bool) : l.any (fun b => b) = decide (0 < onesOf l) := by
  rw [Bool.eq_iff_iff]
  simp [onesOf, List.countP_pos_iff]
/-- What checkOf's yes says of a gate. -/
theorem check_gate {n : Int} {gs : List Gate} (h : checkOf n gs = 0) (k : Nat) (hk : k < gs.length) : goodGate n k gs[k] = true := by
  unfold checkOf at h
  split at h
  · omega
  · split at h
    · omega
    · split at h
      · omega
      · split at h
        · rename_i hg
          rw [← goodAt_eq n gs k hk]
          exact (goodTo_iff _ _ _).1 hg k hk
        · omega
theorem check_bounds {n : Int} {gs : List Gate} (h : checkOf n gs = 0) : 0 ≤ n ∧ n ≤ 128 ∧ 0 < gs.length ∧ gs.length ≤ 4096 ∧ sizeOf gs ≤ 65536 := by
  unfold checkOf at h
  split at h
  · omega
  · split at h
    · omega
    · split at h <;> omega
theorem good_in' {n i : Int} {g : Gate} (h : goodGate n i g = true) (j : Nat) (x : Int) (hx : g.inp[j]? = some x) : 0 ≤ x ∧ x < i := by
  unfold goodGate at h
  simp only [Bool.and_eq_true, List.all_eq_true] at h
  have := h.2 x (List.mem_of_getElem? hx)
  unfold inOk at this
  simpa using this
theorem good_len {n i : Int} {g : Gate} (h : goodGate n i g = true) : (g.kind = 0 ∨ g.kind = 1 ∨ g.kind = 2 → g.inp.length = 0) ∧ (g.kind = 3 → g.inp.length = 1) ∧ (g.kind = 7 → g.inp.length = 2) ∧ (g.kind = 8 → g.inp.length = 3) ∧ 0 ≤ g.kind ∧ g.kind ≤ 8 := by
  unfold goodGate at h
  simp only [Bool.and_eq_true] at h
  have h := h.1.1
  unfold allowedB at h
  split at h
  · simp at h; simp [h]; omega
  · split at h
    · simp at h; omega
    · split at h
      · simp at h; omega
      · split at h
        · simp at h; omega
        · simp at h; omega
theorem good_lit {n i : Int} {g : Gate} (h : goodGate n i g = true) (h2 : g.kind = 2) : litOk g.lit n = true := by
  unfold goodGate litGood at h
  simp only [Bool.and_eq_true] at h
  have h := h.1.2
  rwa [if_pos h2] at h
theorem getD_take (m : List Bool) (k i : Nat) (h : i < k) : m.getD i false = (m.take k).getD i false := by
  rw [List.getD_eq_getElem?_getD, List.getD_eq_getElem?_getD, List.getElem?_take_of_lt h]
/-- A gate's value hangs on the values of the gates before it alone. -/
theorem valueOf_take {g : Gate} (s : VS) (m : List Bool) (k : Nat) (hin : ∀ (j : Nat) (x : Int), g.inp[j]? = some x → 0 ≤ x ∧ x < k) (h8 : g.kind = 8 → g.inp.length = 3) : valueOf g s m = valueOf g s (m.take k) := by
  have h1 : inVals g m = inVals g (m.take k) := by
    unfold inVals
    apply List.map_congr_left
    intro x hx
    obtain ⟨j, hj⟩ := List.getElem?_of_mem hx
    have := hin j x hj
    exact getD_take m k _ (by omega)
  have h2 : g.kind = 8 → pickVal m g.inp = pickVal (m.take k) g.inp := by
    intro h
    have h3 := h8 h
    have el : ∀ j, j < 3 → m.getD (g.inp.getD j 0).toNat false = (m.take k).getD (g.inp.getD j 0).toNat false := by
      intro j hj
      have hj' : j < g.inp.length := by omega
      have := hin j _ (List.getElem?_eq_getElem hj')
      rw [List.getD_eq_getElem?_getD (l := g.inp), List.getElem?_eq_getElem hj', Option.getD_some]
      exact getD_take m k _ (by omega)
    unfold pickVal
    rw [← el 0 (by omega), ← el 1 (by omega), ← el 2 (by omega)]
  unfold valueOf
  rw [h1]
  by_cases h : g.kind = 8
  · rw [h2 h]
  · simp only [if_neg h]
theorem evalOf_bad {n : Int} {gs : List Gate} (s : VS) (h : checkOf n gs ≠ 0) : evalOf n gs s = false := by
  unfold evalOf; simp [h]
theorem checkOf_cases (n : Int) (gs : List Gate) : checkOf n gs = 0 ∨ checkOf n gs = 1 ∨ checkOf n gs = 2 ∨ checkOf n gs = 6 := by
  unfold checkOf
  split
  · simp
  · split
    · simp
    · split
      · simp
      · split <;> simp
end Go.Proofs.YtpeoodkepjhhiaaDoor
namespace Go.Proofs.YtpeoodkepjhhiaaDoor
open Go Go.RowKit

end Go.Proofs.YtpeoodkepjhhiaaDoor
namespace Go.Proofs.YtpeoodkepjhhiaaDoor
open Go Go.RowKit

def boolCells (m : List Bool) : Array Value := (m.map Value.bool).toArray
theorem boolCells_get (m : List Bool) (i : Nat) (h : i < m.length) : (boolCells m)[i]? = some (.bool m[i]) := by
  unfold boolCells; simp [h]
theorem boolCells_set (m : List Bool) (i : Nat) (b : Bool) : (boolCells m).setIfInBounds i (.bool b) = boolCells (m.set i b) := by
  unfold boolCells; rw [List.setIfInBounds_toArray, List.map_set]
theorem boolCells_V {w : World} {g : Nat} {m : List Bool} (h : Blk w g 4 (boolCells m)) (hm : m.length ≤ maxLen) : BoolsV w w.heap.size (.slice (some ⟨g, 0, none⟩) m.length m.length) m := by
  refine ⟨_, _, rfl, Nat.le_refl _, hm, fun _ => ⟨g, 0, h.lt, rfl, fun i x hx => ?_⟩⟩
  obtain ⟨hi, rfl⟩ := List.getElem?_eq_some_iff.1 hx
  show w.cell? _ = _
  rw [show (0 + i * 1) = i from by omega, h.cell i, boolCells_get m i hi]

/-- The set that 129 marks stand for. -/
theorem markTo_of (m : List Bool) (hm : m.length = 129) (s : VS) (h : ∀ u : Nat, 1 ≤ u → u < 129 → m.getD u false = s.has u) : markTo m m.length = s := by
  apply VS.ext_has
  intro v h1 h2
  rw [has_markTo _ _ v h1 h2, hm, show decide (v < ((129 : Nat) : Int)) = true from by simp; omega, h v.toNat (by omega) (by omega)]
  rw [show ((v.toNat : Nat) : Int) = v from by omega]; rfl

end Go.Proofs.YtpeoodkepjhhiaaDoor
namespace Go.Proofs.YtpeoodkepjhhiaaDoor
open Go Go.RowKit

theorem made_one (v : Value) (n : Nat) : madeCells #[v] (n * 1) = (List.replicate n v).toArray := by
  unfold madeCells
  apply Array.ext
  · simp
  · intro i h1 h2
    simp [Nat.mod_one]
theorem info_bool : (Tryd.prog.info? 4).map (fun i => (i.zero, i.size, i.bytes)) = some (some (.bool false), 1, 1) := by kernel_rfl
theorem info_int : (Tryd.prog.info? 3).map (fun i => (i.zero, i.size, i.bytes)) = some (some (.int .i64 0), 1, 8) := by kernel_rfl
theorem mk_bools (n : Nat) (h : n ≤ 1099511627776) (w : World) : (Instr.makeSlice 71 (.int .i64 (n : Int)) (.int .i64 (n : Int))).run Tryd.prog w =
    .ok (.slice (some ⟨w.heap.size, 0, none⟩) n n) (w.alloc (.cells (boolCells (List.replicate n false)) 4)) := by
  obtain ⟨i, hi, hz, hs, hb⟩ := info_parts info_bool
  have := run_make (P := Tryd.prog) w 71 4 i _ Tryd.underlying71 hi hz .i64 .i64 n n (by omega) (by omega) (by rw [hb]; omega) (by omega)
  rw [this, hs, show Value.cells (.bool false) = #[.bool false] from rfl, Int.toNat_natCast, made_one]
  unfold boolCells
  rw [List.map_replicate]
def intCells (m : List Int) : Array Value := (m.map (Value.int .i64)).toArray
theorem mk_ints (n : Nat) (h : n ≤ 1099511627776) (w : World) : (Instr.makeSlice 36 (.int .i64 (n : Int)) (.int .i64 (n : Int))).run Tryd.prog w =
    .ok (.slice (some ⟨w.heap.size, 0, none⟩) n n) (w.alloc (.cells (intCells (List.replicate n 0)) 3)) := by
  obtain ⟨i, hi, hz, hs, hb⟩ := info_parts info_int
  have := run_make (P := Tryd.prog) w 36 3 i _ Tryd.underlying36 hi hz .i64 .i64 n n (by omega) (by omega) (by rw [hb]; omega) (by omega)
  rw [this, hs, show Value.cells (.int .i64 0) = #[.int .i64 0] from rfl, Int.toNat_natCast, made_one]
  unfold intCells
  rw [List.map_replicate]
theorem intCells_get (m : List Int) (i : Nat) (h : i < m.length) : (intCells m)[i]? = some (.int .i64 m[i]) := by
  unfold intCells; simp [h]
theorem intCells_set (m : List Int) (i : Nat) (b : Int) : (intCells m).setIfInBounds i (.int .i64 b) = intCells (m.set i b) := by
  unfold intCells; rw [List.setIfInBounds_toArray, List.map_set]
theorem intCells_V {w : World} {g : Nat} {m : List Int} (h : Blk w g 3 (intCells m)) (hm : m.length ≤ maxLen) : IntsV w w.heap.size (.slice (some ⟨g, 0, none⟩) m.length m.length) m := by
  refine ⟨_, _, rfl, Nat.le_refl _, hm, fun _ => ⟨g, 0, h.lt, rfl, fun i x hx => ?_⟩⟩
  obtain ⟨hi, rfl⟩ := List.getElem?_eq_some_iff.1 hx
  show w.cell? _ = _
  rw [show (0 + i * 1) = i from by omega, h.cell i, intCells_get m i hi]

theorem inVals_take (g : Gate) (v : List Bool) (k : Nat) (hk : k < g.inp.length) : (inVals g v).take (k + 1) = (inVals g v).take k ++ [v.getD g.inp[k].toNat false] := by
  unfold inVals
  rw [List.take_succ_eq_append_getElem (by simpa using hk)]
  simp

end Go.Proofs.YtpeoodkepjhhiaaDoor
namespace Go.Proofs.YtpeoodkepjhhiaaDoor
open Go Go.RowKit

theorem own_below {w w' : World} {base : Nat} {e : TypeId} {size : Nat} {v : Value} {n : Nat} {xs : List Value} (h : w.ownsRow base e size v n xs) (hb : Below w.heap.size w w') : w'.ownsRow base e size v n xs := by
  refine ⟨h.1, ?_⟩
  rcases h.2 with hn | ⟨g, cap, cur, rfl, hbg, hg, rest⟩
  · exact .inl hn
  · exact .inr ⟨g, cap, cur, rfl, hbg, by rw [hb.block g (Array.getElem?_eq_some_iff.1 hg).1]; exact hg, rest⟩
theorem own_setCell {w : World} {base : Nat} {e : TypeId} {size : Nat} {v : Value} {n : Nat} {xs : List Value} (h : w.ownsRow base e size v n xs) {p : Addr} (hp : v.ownBlock ≠ some p.block) (u : Value) : (w.setCell p u).ownsRow base e size v n xs := by
  refine ⟨h.1, ?_⟩
  rcases h.2 with hn | ⟨g, cap, cur, rfl, hbg, hg, rest⟩
  · exact .inl hn
  · refine .inr ⟨g, cap, cur, rfl, hbg, ?_, rest⟩
    rw [Below.heap_setCell _ _ _ _ (by intro he; exact hp (by simp [Value.ownBlock, he]))]
    exact hg
theorem own_blk_ne {w : World} {base : Nat} {e : TypeId} {size n g : Nat} {v : Value} {xs : List Value} {t : TypeId} {cs : Array Value} (h : w.ownsRow base e size v n xs) (hg : Blk w g t cs) (hne : e ≠ t) : v.ownBlock ≠ some g := by
  rcases h.2 with ⟨rfl, _⟩ | ⟨g', cap, cur, rfl, _, hh, _⟩
  · simp [Value.ownBlock]
  · intro he
    have : g' = g := by simpa [Value.ownBlock] using he
    subst this
    exact Blk.apart (t := e) hh hg hne rfl
theorem own_ge {w : World} {base : Nat} {e : TypeId} {size n g : Nat} {v : Value} {xs : List Value} (h : w.ownsRow base e size v n xs) (hg : v.ownBlock = some g) : base ≤ g ∧ g < w.heap.size := h.lt g hg
theorem own_form {w : World} {base : Nat} {e : TypeId} {size : Nat} {v : Value} {n : Nat} {xs : List Value} (h : w.ownsRow base e size v n xs) : ∃ A c, v = .slice A n c := by
  rcases h.2 with ⟨rfl, rfl⟩ | ⟨g, cap, cur, rfl, _⟩
  · exact ⟨none, 0, rfl⟩
  · exact ⟨_, _, rfl⟩
theorem own_nil_of {w : World} {base : Nat} {e : TypeId} {size : Nat} : w.ownsRow base e size (.slice none 0 0) 0 [] := World.ownsRow_nil w base e size
theorem below_of_grown {B : Nat} {w w' : World} {row : Option Nat} (hg : w.grownBy w' row) (hB : B ≤ w.heap.size) (hr : ∀ k, row = some k → B ≤ k) : Below B w w' := (Below.refl B w).grown hg hB hr

section
variable {P : Program}
theorem wpList_append_new (w0 : World) {ops : Array Oper} {rest : List Oper} {o : Oper} {a : Act} {Q : Exit → Act → World → Prop} (hgd : o.guard = none) (s x : Operand) (t : TypeId)
    (ho : o.op = .call { callee := .builtin .append, args := #[s, x], argTypes := #[t, t] })
    (base : Nat) (e : TypeId) (i : TypeInfo) (z : Value) (size bytes : Nat) (ht : P.underlying t = some (.slice e)) (hi : P.info? e = some i) (hz : i.zero = some z)
    (hsize : i.size = size) (hby : i.bytes = bytes) (hzs : z.cells.size = size) (hsz : 0 < size)
    (v : Value) (n : Nat) (xs : List Value) (hs : a.eval s = v) (hown : w0.ownsRow base e size v n xs)
    (cells : List Value) (hx : a.eval x = .slice (some ⟨w0.heap.size, 0, none⟩) 1 1) (hl : cells.length = size) (h1 : ∀ u ∈ cells, u.oneCell' = true)
    (hbytes : (n + 1) * bytes ≤ 140737488355328) (h63 : n + 1 ≤ maxLen) (hbase : base ≤ w0.heap.size)
    (h : ∀ v' w', w'.ownsRow base e size v' (n + 1) (xs ++ cells) → w0.grownBy w' v.ownBlock → wpList P ops Q rest (a.put o.dst v') w') :
    wpList P ops Q (o :: rest) a (w0.alloc (.cells cells.toArray e)) :=
  wpList_append_own (w0.alloc (.cells cells.toArray e)) hgd s x t ho base e i z size bytes ht hi hz hsize hby hzs hsz v n xs hs (hown.alloc _) ⟨w0.heap.size, 0, none⟩ 1 1 cells hx (by omega)
    (fun j u hu => by
      have hadd : (⟨w0.heap.size, 0, none⟩ : Addr).add j = ⟨w0.heap.size, j, none⟩ := by unfold Addr.add; split <;> simp_all
      rw [hadd, (Blk.new w0 e cells.toArray).cell j]
      simpa using hu)
    h1 h63 hbytes (by simp; omega)
    (fun v' w' hown' hgrow _ => h v' w' hown' ⟨hgrow.os, hgrow.tape, hgrow.output, Nat.le_trans (by simp) hgrow.size, fun k hk hne => (hgrow.block k (by simp; omega) hne).trans (Below.heap_alloc _ _ _ hk)⟩)
end

def OwnInts (w : World) (base : Nat) (v : Value) (l : List Int) : Prop := w.ownsRow base 3 1 v l.length (l.map (Value.int .i64))
theorem OwnInts.V {w : World} {base : Nat} {v : Value} {l : List Int} (h : OwnInts w base v l) : IntsV w w.heap.size v l := by
  obtain ⟨h1, h2⟩ := h
  rcases h2 with ⟨rfl, hn⟩ | ⟨g, cap, cur, rfl, _, hg, hnc, hcm, _, htake⟩
  · exact ⟨none, 0, by rw [hn], by omega, by unfold maxLen; omega, fun hp => by omega⟩
  · refine ⟨_, cap, rfl, hnc, hcm, fun _ => ⟨g, 0, (Array.getElem?_eq_some_iff.1 hg).1, rfl, fun i x hx => ?_⟩⟩
    show w.cell? _ = _
    rw [show 0 + i * 1 = i from by omega, cell_of_row w g i cur _ (0, 0) hg]
    have : cur.toList.take (l.length * 1) = l.map (Value.int .i64) := htake
    have hi : i < l.length := (List.getElem?_eq_some_iff.1 hx).1
    have h3 : (cur.toList.take (l.length * 1))[i]? = some (.int .i64 x) := by rw [this, List.getElem?_map, hx]; rfl
    rw [List.getElem?_take_of_lt (by omega)] at h3
    simpa using h3
theorem OwnInts.below {w w' : World} {base : Nat} {v : Value} {l : List Int} (h : OwnInts w base v l) (hb : Below w.heap.size w w') : OwnInts w' base v l := own_below h hb
theorem OwnInts.nil (w : World) (base : Nat) : OwnInts w base (.slice none 0 0) [] := World.ownsRow_nil w base _ _
theorem OwnInts.cast {w : World} {base : Nat} {v : Value} {l : List Int} {y : Int} (h : w.ownsRow base 3 1 v (l.length + 1) (l.map (Value.int .i64) ++ [.int .i64 y])) : OwnInts w base v (l ++ [y]) := by
  unfold OwnInts
  rw [List.length_append, List.map_append]
  exact h

/-- 'out = append(out, y)' on the call's own []int. -/
theorem append_int (w0 : World) {ops : Array Oper} {rest : List Oper} {o : Oper} {a : Act} {Q : Exit → Act → World → Prop} (hgd : o.guard = none) (s x : Operand)
    (ho : o.op = .call { callee := .builtin .append, args := #[s, x], argTypes := #[36, 36] }) (base : Nat) (v : Value) (l : List Int) (y : Int) (hs : a.eval s = v) (hown : OwnInts w0 base v l)
    (hx : a.eval x = .slice (some ⟨w0.heap.size, 0, none⟩) 1 1) (hlen : l.length ≤ 1099511627776) (hbase : base ≤ w0.heap.size)
    (h : ∀ v' w', OwnInts w' base v' (l ++ [y]) → w0.grownBy w' v.ownBlock → wpList Tryd.prog ops Q rest (a.put o.dst v') w') :
    wpList Tryd.prog ops Q (o :: rest) a (w0.alloc (.cells #[.int .i64 y] 3)) := by
  obtain ⟨i, hi, hz, hsz, hb⟩ := info_parts info_int
  exact wpList_append_new w0 hgd s x 36 ho base 3 i _ 1 8 Tryd.underlying36 hi hz hsz hb rfl (by decide) v l.length _ hs hown [.int .i64 y] hx rfl (by intro u hu; simp at hu; subst hu; rfl) (by omega) (by unfold maxLen; omega) hbase
    (fun v' w' ho hg => h v' w' (OwnInts.cast ho) hg)
end Go.Proofs.YtpeoodkepjhhiaaDoor
namespace Go.Proofs.YtpeoodkepjhhiaaDoor
open Go
section
variable {P : Program} {ops : Array Oper} {Q : Exit → Act → World → Prop} {md : Region.Mode} {S : World → Prop} {k : Nat}

/-- Whatever comes up; as long as number k has not, S holds. -/
def AnyT (P : Program) (md : Region.Mode) (ops : Array Oper) (Q : Exit → Act → World → Prop) (S : World → Prop) (k : Nat) : Nat → Array Bool → Act → World → Prop
  | 0, listed, a, w => Region.ready md ops listed = [] ∧ Q .normal a w
  | fuel + 1, listed, a, w => (Region.ready md ops listed = [] → Q .normal a w) ∧ ∀ i ∈ Region.ready md ops listed, wpOp P ops Q i (fun a' w' => ((listed.setIfInBounds i true).getD k false = false → S w') ∧ AnyT P md ops Q S k fuel (listed.setIfInBounds i true) a' w') a w
theorem AnyT.any : ∀ (fuel : Nat) (listed : Array Bool) (a : Act) (w : World), AnyT P md ops Q S k fuel listed a w → wpAny P md ops Q fuel listed a w
  | 0, _, _, _, h => h
  | fuel + 1, _, _, _, h => ⟨h.1, fun i hi => wpOp_mono (fun a' w' h' => AnyT.any fuel _ a' w' h'.2) (h.2 i hi)⟩
/-- Number k waits for number i. -/
def waitB (md : Region.Mode) (ops : Array Oper) (k i : Nat) : Bool := match ops[k]? with | some o => o.after.toList.any (fun e => Region.binds md e && e.on == i) | none => true
theorem waitB_spec {i j : Nat} {o : Oper} (h : waitB md ops k i = true) (hj : ops[j]? = some o) (hno : ∀ e ∈ o.after, Region.binds md e = true → e.on ≠ i) : j ≠ k := by
  rintro rfl
  unfold waitB at h
  rw [hj] at h
  simp only [List.any_eq_true, Bool.and_eq_true, beq_iff_eq] at h
  obtain ⟨e, he, h2, h3⟩ := h
  exact hno e (by simpa using he) h2 h3
theorem getD_set_other {listed : Array Bool} {i : Nat} (h : i ≠ k) : (listed.setIfInBounds i true).getD k false = listed.getD k false := getD_set_ne false h
theorem getD_set_open {listed : Array Bool} {i : Nat} (h : (listed.setIfInBounds i true).getD k false = false) : listed.getD k false = false := by
  by_cases e : i = k
  · subst e
    simp only [Array.getD_eq_getD_getElem?, Array.getElem?_setIfInBounds] at h ⊢
    by_cases hi : i < listed.size
    · simp [hi] at h
    · simp [hi]
  · rwa [getD_set_other e] at h
/-- The common part: number i is taken first, where S is known of whatever world comes before it (or i looks at no world). -/
theorem AnyT.first {i : Nat} {oi : Oper} {v : Value} {S' : World → Prop} (hi : ops[i]? = some oi) (hsel : ∀ (j : Nat) (o : Oper) cs b, ops[j]? = some o → o.op ≠ .select cs b) (hQ : ∀ c a w, Q (.panic c) (a.put oi.dst v) w → Q (.panic c) a w)
    (hik : i ≠ k) :
    ∀ (fuel : Nat) (listed : Array Bool) (a : Act) (w : World), (∀ j oj, ops[j]? = some oj → j ≠ i → listed.getD j true = false → (∀ e ∈ oj.after, Region.binds md e = true → e.on ≠ i) → oi.apart ops oj = true) →
      i ∈ Region.ready md ops listed → YieldsIf P ops S' oi v a → (listed.getD k false = false → S w) → (S' = fun _ => True) ∨ (waitB md ops k i = true ∧ S' = S ∧ listed.getD k false = false) →
      AnyT P md ops Q S k fuel (listed.setIfInBounds i true) (a.put oi.dst v) w → AnyT P md ops Q S k (fuel + 1) listed a w
  | fuel, listed, a, w, hfree, hr, hy, hS, hop, H => by
    have hSw : S' w := by
      rcases hop with h | h
      · rw [h]; trivial
      · rw [h.2.1]; exact hS h.2.2
    refine ⟨fun h => (by rw [h] at hr; cases hr), fun j hj => ?_⟩
    by_cases hji : j = i
    · subst hji; exact hy.wpOp hi hSw ⟨fun ho => hS (getD_set_open ho), H⟩
    · obtain ⟨hjun, oj, hoj, hall⟩ := mem_ready.1 hj
      have hnot : ∀ e ∈ oj.after, Region.binds md e = true → e.on ≠ i := fun e he hb heq => by
        have h1 := hall e he hb
        have h0 := (mem_ready.1 hr).1
        rw [heq] at h1
        rcases Nat.lt_or_ge i listed.size with h' | h'
        · simp [h'] at h0 h1; rw [h0] at h1; cases h1
        · simp [Array.getElem?_eq_none h'] at h1
      cases fuel with
      | zero =>
        have := ready_mono hj hji
        rw [H.1] at this
        cases this
      | succ fuel =>
        have h1 := H.2 j (ready_mono hj hji)
        have h2 := wpOp_putIf hoj (hfree j oj hoj hji hjun hnot) (fun cs b => hsel i oi cs b hi) (fun cs b => hsel j oj cs b hoj) hQ hy h1
        refine wpOp_mono (fun a' w' h3 => ?_) h2
        have hcomm : (listed.setIfInBounds i true).setIfInBounds j true = (listed.setIfInBounds j true).setIfInBounds i true := Array.setIfInBounds_comm _ _ (Ne.symm hji)
        -- S behind number j, said of the list without i
        have hSj : (listed.setIfInBounds j true).getD k false = false → S w' := fun ho => h3.2.1 (by rw [hcomm, getD_set_other hik]; exact ho)
        refine ⟨hSj, AnyT.first hi hsel hQ hik fuel (listed.setIfInBounds j true) a' w' (fun n on hn hni hun hno => ?_) (ready_mono hr (Ne.symm hji)) h3.1 hSj ?_ ?_⟩
        · refine hfree n on hn hni ?_ hno
          by_cases hjn : j = n
          · subst hjn; exact hjun
          · rw [getD_set_ne true hjn] at hun; exact hun
        · rcases hop with h | h
          · exact .inl h
          · exact .inr ⟨h.1, h.2.1, by rw [getD_set_other (waitB_spec h.1 hoj hnot)]; exact h.2.2⟩
        · rw [← hcomm]
          exact h3.2.2
/-- A load, which number k waits for. -/
theorem anyT_take {i : Nat} {oi : Oper} {v : Value} {fuel : Nat} {listed : Array Bool} {a : Act} {w : World} (hi : ops[i]? = some oi) (hs : Region.noSelect ops = true) (hf : Region.free md ops listed i = true) (hr : (Region.ready md ops listed).contains i = true)
    (hw : (waitB md ops k i && !(listed.getD k false) && (i != k)) = true) (hQ : ∀ c a w, Q (.panic c) (a.put oi.dst v) w → Q (.panic c) a w) (hy : YieldsIf P ops S oi v a) (hS : S w) (h : AnyT P md ops Q S k fuel (listed.setIfInBounds i true) (a.put oi.dst v) w) : AnyT P md ops Q S k (fuel + 1) listed a w := by
  simp only [Bool.and_eq_true, Bool.not_eq_true', bne_iff_ne] at hw
  exact AnyT.first hi (Region.noSelect_spec hs) hQ hw.2 fuel listed a w (Region.free_spec hi hf) (by simpa using hr) hy (fun _ => hS) (.inr ⟨hw.1.1, rfl, hw.1.2⟩) h
/-- An operation that looks at no world. -/
theorem anyT_takeY {i : Nat} {oi : Oper} {v : Value} {fuel : Nat} {listed : Array Bool} {a : Act} {w : World} (hi : ops[i]? = some oi) (hs : Region.noSelect ops = true) (hf : Region.free md ops listed i = true) (hr : (Region.ready md ops listed).contains i = true)
    (hw : (i != k) = true) (hQ : ∀ c a w, Q (.panic c) (a.put oi.dst v) w → Q (.panic c) a w) (hy : YieldsIf P ops (fun _ => True) oi v a) (hS : listed.getD k false = false → S w) (h : AnyT P md ops Q S k fuel (listed.setIfInBounds i true) (a.put oi.dst v) w) : AnyT P md ops Q S k (fuel + 1) listed a w := by
  exact AnyT.first hi (Region.noSelect_spec hs) hQ (by simpa using hw) fuel listed a w (Region.free_spec hi hf) (by simpa using hr) hy hS (.inl rfl) h
/-- The one operation that may come up. -/
theorem anyT_one {i : Nat} {o : Oper} {fuel : Nat} {listed : Array Bool} {a : Act} {w : World} (hr : Region.ready md ops listed = [i]) (ho : ops[i]? = some o)
    (h : ∀ K' : Act → World → Prop, Shut (∀ a w, ((listed.setIfInBounds i true).getD k false = false → S w) → (((listed.setIfInBounds i true).getD k false = false → S w) → AnyT P md ops Q S k fuel (listed.setIfInBounds i true) a w) → K' a w) → if Region.wanted o (yielded ops a.tmps) = true then Oper.wp P o a w K' Q else K' (a.put o.dst undef) w) :
    AnyT P md ops Q S k (fuel + 1) listed a w :=
  ⟨fun h0 => (by rw [hr] at h0; cases h0), fun j hj => by
    rw [hr] at hj
    obtain rfl : j = i := by simpa using hj
    exact wpOp_step ho (fun K' hK => h K' (fun a w hS hW => hK a w ⟨hS, hW hS⟩))⟩
theorem anyT_done {listed : Array Bool} {a : Act} {w : World} (hr : Region.ready md ops listed = []) (h : Q .normal a w) : ∀ fuel, AnyT P md ops Q S k fuel listed a w
  | 0 => ⟨hr, h⟩
  | _ + 1 => ⟨fun _ => h, by rw [hr]; simp⟩
theorem region_T {id : Nat} {a : Act} {w : World} (hm : P.follows .mixedOrders = true) (S : World → Prop) (k : Nat) (hS : S w.drew) (h : S w.drew → AnyT P .any ops Q S k ops.size (Array.replicate ops.size false) a w.drew) : (Code.region id ops true).wp P Q a w :=
  wp_region_any hm (AnyT.any _ _ _ _ (h hS))
end
end Go.Proofs.YtpeoodkepjhhiaaDoor

namespace Go.Proofs.YtpeoodkepjhhiaaDoor
open Go
section
variable {P : Program} {ops : Array Oper} {Q : Exit → Act → World → Prop} {md : Region.Mode} {S : World → Prop} {k : Nat}

/-- How each operation is met: 0: it yields in every world that S holds of (number k waits for it and has not come up); 1: it yields in whatever world; 2: nothing else may come up, S holds behind it; 3: nothing else may come up, k has come up with it. -/
def lexT (md : Region.Mode) (ops : Array Oper) (k : Nat) : List (Nat × Nat) → Array Bool → Bool
  | [], listed => (Region.ready md ops listed).isEmpty
  | (i, 0) :: r, listed => (Region.ready md ops listed).contains i && Region.free md ops listed i && (waitB md ops k i && !(listed.getD k false) && (i != k)) && lexT md ops k r (listed.setIfInBounds i true)
  | (i, 1) :: r, listed => (Region.ready md ops listed).contains i && Region.free md ops listed i && (i != k) && lexT md ops k r (listed.setIfInBounds i true)
  | (i, 2) :: r, listed => (Region.ready md ops listed == [i]) && !((listed.setIfInBounds i true).getD k false) && lexT md ops k r (listed.setIfInBounds i true)
  | (i, _) :: r, listed => (Region.ready md ops listed == [i]) && (listed.setIfInBounds i true).getD k false && lexT md ops k r (listed.setIfInBounds i true)
/-- The walk along the list. -/
def wpT (P : Program) (ops : Array Oper) (Q : Exit → Act → World → Prop) (S : World → Prop) : List (Nat × Nat) → Act → World → Prop
  | [], a, w => Q .normal a w
  | (i, 0) :: r, a, w => ∃ o v, ops[i]? = some o ∧ YieldsIf P ops S o v a ∧ wpT P ops Q S r (a.put o.dst v) w
  | (i, 1) :: r, a, w => ∃ o v, ops[i]? = some o ∧ YieldsIf P ops (fun _ => True) o v a ∧ wpT P ops Q S r (a.put o.dst v) w
  | (i, 2) :: r, a, w => ∃ o, ops[i]? = some o ∧ ∀ K : Act → World → Prop, Shut (∀ a w, S w → (S w → wpT P ops Q S r a w) → K a w) → if Region.wanted o (yielded ops a.tmps) = true then Oper.wp P o a w K Q else K (a.put o.dst undef) w
  | (i, _) :: r, a, w => ∃ o, ops[i]? = some o ∧ ∀ K : Act → World → Prop, Shut (∀ a w, wpT P ops Q S r a w → K a w) → if Region.wanted o (yielded ops a.tmps) = true then Oper.wp P o a w K Q else K (a.put o.dst undef) w
theorem anyT_of_wpT (hs : Region.noSelect ops = true) (hQ : ∀ c a t v w, Q (.panic c) (a.put t v) w → Q (.panic c) a w) :
    ∀ (r : List (Nat × Nat)) (listed : Array Bool) (a : Act) (w : World), lexT md ops k r listed = true → (listed.getD k false = false → S w) → wpT P ops Q S r a w → AnyT P md ops Q S k r.length listed a w
  | [], listed, a, w, hl, _, h => ⟨by simpa [lexT] using hl, h⟩
  | (i, 0) :: r, listed, a, w, hl, hS, h => by
    simp only [lexT, Bool.and_eq_true] at hl
    obtain ⟨⟨⟨h1, h2⟩, h3⟩, h4⟩ := hl
    obtain ⟨o, v, ho, hy, h⟩ := h
    have hk : listed.getD k false = false := by simpa using h3.1.2
    exact anyT_take ho hs h2 h1 (by simp only [Bool.and_eq_true]; exact h3) (fun c a w => hQ c a _ _ w) hy (hS hk)
      (anyT_of_wpT hs hQ r _ _ _ h4 (fun _ => hS hk) h)
  | (i, 1) :: r, listed, a, w, hl, hS, h => by
    simp only [lexT, Bool.and_eq_true] at hl
    obtain ⟨⟨⟨h1, h2⟩, h3⟩, h4⟩ := hl
    obtain ⟨o, v, ho, hy, h⟩ := h
    exact anyT_takeY ho hs h2 h1 h3 (fun c a w => hQ c a _ _ w) hy hS
      (anyT_of_wpT hs hQ r _ _ _ h4 (fun h => hS (getD_set_open h)) h)
  | (i, 2) :: r, listed, a, w, hl, hS, h => by
    simp only [lexT, Bool.and_eq_true] at hl
    obtain ⟨⟨h1, h2⟩, h4⟩ := hl
    obtain ⟨o, ho, h⟩ := h
    have hk : (listed.setIfInBounds i true).getD k false = false := by simpa using h2
    refine anyT_one (by simpa using h1) ho (fun K hK => ?_)
    exact h K (fun a w hSw hW => hK a w (fun _ => hSw) (fun _ => anyT_of_wpT hs hQ r _ _ _ h4 (fun _ => hSw) (hW hSw)))
  | (i, n + 3) :: r, listed, a, w, hl, hS, h => by
    simp only [lexT, Bool.and_eq_true] at hl
    obtain ⟨⟨h1, h2⟩, h4⟩ := hl
    obtain ⟨o, ho, h⟩ := h
    have hk : ¬ (listed.setIfInBounds i true).getD k false = false := by simp [h2]
    refine anyT_one (by simpa using h1) ho (fun K hK => ?_)
    exact h K (fun a w hW => hK a w (fun h => absurd h hk) (fun _ => anyT_of_wpT hs hQ r _ _ _ h4 (fun h => absurd h hk) hW))
theorem region_L {id : Nat} {a : Act} {w : World} (S : World → Prop) (k : Nat) (r : List (Nat × Nat)) (hm : P.follows .mixedOrders = true) (hs : (Region.noSelect ops && (r.length == ops.size) && lexT .any ops k r (Array.replicate ops.size false)) = true)
    (hQ : ∀ c a t v w, Q (.panic c) (a.put t v) w → Q (.panic c) a w) (hS : S w.drew) (h : S w.drew → wpT P ops Q S r a w.drew) : (Code.region id ops true).wp P Q a w := by
  simp only [Bool.and_eq_true, beq_iff_eq] at hs
  obtain ⟨⟨h1, h2⟩, h3⟩ := hs
  refine region_T hm S k hS (fun hS => ?_)
  rw [← h2]
  have := anyT_of_wpT h1 hQ r _ a _ h3 (fun _ => hS) (h hS)
  rwa [h2] at this ⊢
/-- The same, where the list ends before the region does. -/
def lexU (md : Region.Mode) (ops : Array Oper) (k : Nat) (fin : Array Bool → Bool) : List (Nat × Nat) → Array Bool → Bool
  | [], listed => fin listed
  | (i, 0) :: r, listed => (Region.ready md ops listed).contains i && Region.free md ops listed i && (waitB md ops k i && !(listed.getD k false) && (i != k)) && lexU md ops k fin r (listed.setIfInBounds i true)
  | (i, 1) :: r, listed => (Region.ready md ops listed).contains i && Region.free md ops listed i && (i != k) && lexU md ops k fin r (listed.setIfInBounds i true)
  | (i, 2) :: r, listed => (Region.ready md ops listed == [i]) && !((listed.setIfInBounds i true).getD k false) && lexU md ops k fin r (listed.setIfInBounds i true)
  | (i, _) :: r, listed => (Region.ready md ops listed == [i]) && (listed.setIfInBounds i true).getD k false && lexU md ops k fin r (listed.setIfInBounds i true)
theorem anyT_of_wpU (hs : Region.noSelect ops = true) (hQ : ∀ c a t v w, Q (.panic c) (a.put t v) w → Q (.panic c) a w) {fin : Array Bool → Bool} {KF : Act → World → Prop} {fuel : Nat}
    (hend : ∀ listed a w, fin listed = true → (listed.getD k false = false → S w) → KF a w → AnyT P md ops Q S k fuel listed a w) :
    ∀ (r : List (Nat × Nat)) (listed : Array Bool) (a : Act) (w : World), lexU md ops k fin r listed = true → (listed.getD k false = false → S w) → wpT P ops (Exit.then KF Q) S r a w → AnyT P md ops Q S k (fuel + r.length) listed a w
  | [], listed, a, w, hl, hS, h => hend listed a w hl hS h
  | (i, 0) :: r, listed, a, w, hl, hS, h => by
    simp only [lexU, Bool.and_eq_true] at hl
    obtain ⟨⟨⟨h1, h2⟩, h3⟩, h4⟩ := hl
    obtain ⟨o, v, ho, hy, h⟩ := h
    have hk : listed.getD k false = false := by simpa using h3.1.2
    exact anyT_take ho hs h2 h1 (by simp only [Bool.and_eq_true]; exact h3) (fun c a w => hQ c a _ _ w) hy (hS hk)
      (anyT_of_wpU hs hQ hend r _ _ _ h4 (fun _ => hS hk) h)
  | (i, 1) :: r, listed, a, w, hl, hS, h => by
    simp only [lexU, Bool.and_eq_true] at hl
    obtain ⟨⟨⟨h1, h2⟩, h3⟩, h4⟩ := hl
    obtain ⟨o, v, ho, hy, h⟩ := h
    exact anyT_takeY ho hs h2 h1 h3 (fun c a w => hQ c a _ _ w) hy hS
      (anyT_of_wpU hs hQ hend r _ _ _ h4 (fun h => hS (getD_set_open h)) h)
  | (i, 2) :: r, listed, a, w, hl, hS, h => by
    simp only [lexU, Bool.and_eq_true] at hl
    obtain ⟨⟨h1, h2⟩, h4⟩ := hl
    obtain ⟨o, ho, h⟩ := h
    have hk : (listed.setIfInBounds i true).getD k false = false := by simpa using h2
    refine anyT_one (by simpa using h1) ho (fun K hK => ?_)
    exact h K (fun a w hSw hW => hK a w (fun _ => hSw) (fun _ => anyT_of_wpU hs hQ hend r _ _ _ h4 (fun _ => hSw) (hW hSw)))
  | (i, n + 3) :: r, listed, a, w, hl, hS, h => by
    simp only [lexU, Bool.and_eq_true] at hl
    obtain ⟨⟨h1, h2⟩, h4⟩ := hl
    obtain ⟨o, ho, h⟩ := h
    have hk : ¬ (listed.setIfInBounds i true).getD k false = false := by simp [h2]
    refine anyT_one (by simpa using h1) ho (fun K hK => ?_)
    exact h K (fun a w hW => hK a w (fun h => absurd h hk) (fun _ => anyT_of_wpU hs hQ hend r _ _ _ h4 (fun h => absurd h hk) hW))
/-- Where one of two comes up: each is walked along a list of its own. -/
def forkB (md : Region.Mode) (ops : Array Oper) (k : Nat) (i j : Nat) (r s : List (Nat × Nat)) (listed : Array Bool) : Bool :=
  (Region.ready md ops listed == [i, j]) && (i != j) && !((listed.setIfInBounds i true).getD k false) && !((listed.setIfInBounds j true).getD k false) && (s.length == r.length) && lexT md ops k r (listed.setIfInBounds i true) && lexT md ops k s (listed.setIfInBounds j true)
theorem any_fork (hs : Region.noSelect ops = true) (hQ : ∀ c a t v w, Q (.panic c) (a.put t v) w → Q (.panic c) a w) {i j : Nat} {r s : List (Nat × Nat)} {listed : Array Bool} {a : Act} {w : World}
    (hl : forkB md ops k i j r s listed = true) (h : wpT P ops Q S ((i, 2) :: r) a w ∧ wpT P ops Q S ((j, 2) :: s) a w) : AnyT P md ops Q S k (r.length + 1) listed a w := by
  simp only [forkB, Bool.and_eq_true, beq_iff_eq] at hl
  obtain ⟨⟨⟨⟨⟨⟨h1, h2⟩, h3⟩, h4⟩, h5⟩, h6⟩, h7⟩ := hl
  have step : ∀ (q : Nat) (l : List (Nat × Nat)), l.length = r.length → lexT md ops k l (listed.setIfInBounds q true) = true → wpT P ops Q S ((q, 2) :: l) a w →
      wpOp P ops Q q (fun a' w' => ((listed.setIfInBounds q true).getD k false = false → S w') ∧ AnyT P md ops Q S k r.length (listed.setIfInBounds q true) a' w') a w := fun q l hlen hlx hw => by
    obtain ⟨o, ho, hw⟩ := hw
    refine wpOp_step ho (fun K hK => ?_)
    refine hw K (fun a' w' hS hW => hK a' w' ⟨fun _ => hS, ?_⟩)
    have := anyT_of_wpT hs hQ l _ a' w' hlx (fun _ => hS) (hW hS)
    rwa [hlen] at this
  refine ⟨fun h0 => (by rw [h1] at h0; cases h0), fun q hq => ?_⟩
  rw [h1] at hq
  simp only [List.mem_cons, List.not_mem_nil, or_false] at hq
  rcases hq with rfl | rfl
  · exact step _ r rfl h6 h.1
  · exact step _ s h5 h7 h.2
theorem region_F {id : Nat} {a : Act} {w : World} (S : World → Prop) (k : Nat) (pre : List (Nat × Nat)) (i j : Nat) (r s : List (Nat × Nat)) (hm : P.follows .mixedOrders = true) (hs : (Region.noSelect ops && (r.length + 1 + pre.length == ops.size) && lexU .any ops k (forkB .any ops k i j r s) pre (Array.replicate ops.size false)) = true)
    (hQ : ∀ c a t v w, Q (.panic c) (a.put t v) w → Q (.panic c) a w) (hS : S w.drew) (h : wpT P ops (Exit.then (fun a w => wpT P ops Q S ((i, 2) :: r) a w ∧ wpT P ops Q S ((j, 2) :: s) a w) Q) S pre a w.drew) : (Code.region id ops true).wp P Q a w := by
  simp only [Bool.and_eq_true, beq_iff_eq] at hs
  obtain ⟨⟨h1, h2⟩, h3⟩ := hs
  refine region_T hm S k hS (fun hS => ?_)
  rw [← h2]
  have := anyT_of_wpU (fuel := r.length + 1) h1 hQ (fun listed a w hl _ hh => any_fork h1 hQ hl hh) pre _ a _ h3 (fun _ => hS) h
  rwa [h2] at this ⊢
section
variable {i : Nat} {r : List (Nat × Nat)} {a : Act} {w : World} {o : Oper} {v : Value}
theorem t0 (ho : ops[i]? = some o) (hy : YieldsIf P ops S o v a) (h : wpT P ops Q S r (a.put o.dst v) w) : wpT P ops Q S ((i, 0) :: r) a w := ⟨o, v, ho, hy, h⟩
theorem t1 (ho : ops[i]? = some o) (hy : YieldsIf P ops (fun _ => True) o v a) (h : wpT P ops Q S r (a.put o.dst v) w) : wpT P ops Q S ((i, 1) :: r) a w := ⟨o, v, ho, hy, h⟩
/-- An operation that has no guard. -/
theorem yields {S : World → Prop} (hg : o.guard = none) (h : ∀ w, S w → (execOp a.eval o).run P w = .ok (.value v) w) : YieldsIf P ops S o v a := .inl ⟨by unfold Region.wanted; rw [hg], h⟩
theorem t2 (ho : ops[i]? = some o) (h : ∀ K : Act → World → Prop, Shut (∀ a w, S w → (S w → wpT P ops Q S r a w) → K a w) → if Region.wanted o (yielded ops a.tmps) = true then Oper.wp P o a w K Q else K (a.put o.dst undef) w) : wpT P ops Q S ((i, 2) :: r) a w := ⟨o, ho, h⟩
theorem t3 (ho : ops[i]? = some o) (h : ∀ K : Act → World → Prop, Shut (∀ a w, wpT P ops Q S r a w → K a w) → if Region.wanted o (yielded ops a.tmps) = true then Oper.wp P o a w K Q else K (a.put o.dst undef) w) : wpT P ops Q S ((i, 3) :: r) a w := ⟨o, ho, h⟩
theorem t_end (h : Q .normal a w) : wpT P ops Q S [] a w := h
end
end
end Go.Proofs.YtpeoodkepjhhiaaDoor

namespace Go.Proofs.YtpeoodkepjhhiaaDoor
open Go Go.RowKit

/-- The value that a list of slots gives. -/
def lk : List (Nat × Value) → Nat → Option Value
  | [], _ => none
  | (j, v) :: r, k => match Nat.beq j k with
    | true => some v
    | false => lk r k
/-- What is known of a frame. -/
structure Fm (n : Nat) (m : List (Nat × Value)) (a : Act) : Prop where
  size : a.tmps.size = n
  defers : a.defers = []
  has : ∀ k v, lk m k = some v → a.tmps[k]? = some v
def ev (m : List (Nat × Value)) : Operand → Option Value
  | .tmp t => lk m t
  | .const v => some v
  | .global g => some (.pointer (some ⟨g, 0, none⟩))
  | .func f => some (.func (.func f) #[] #[])
def evs (m : List (Nat × Value)) : List Operand → Option (List Value)
  | [] => some []
  | x :: l => match ev m x, evs m l with
    | some v, some r => some (v :: r)
    | _, _ => none
theorem Fm.ev {n : Nat} {m : List (Nat × Value)} {a : Act} (h : Fm n m a) {x : Operand} {v : Value} (hx : ev m x = some v) : a.eval x = v := by
  cases x with
  | tmp t =>
    have := h.has t v hx
    show a.tmps.getD t undef = v
    simp [Array.getD_eq_getD_getElem?, this]
  | const u => exact Option.some.inj hx
  | global g => exact Option.some.inj hx
  | func f => exact Option.some.inj hx
theorem Fm.evs {n : Nat} {m : List (Nat × Value)} {a : Act} (h : Fm n m a) : ∀ {l : List Operand} {vs : List Value}, evs m l = some vs → l.map a.eval = vs
  | [], vs, hx => by simp only [YtpeoodkepjhhiaaDoor.evs, Option.some.injEq] at hx; subst hx; rfl
  | x :: l, vs, hx => by
    simp only [YtpeoodkepjhhiaaDoor.evs] at hx
    split at hx
    · rename_i v r hv hr
      injection hx with hx
      subst hx
      simp only [List.map_cons, h.ev hv, h.evs hr]
    · cases hx
theorem Fm.put {n : Nat} {m : List (Nat × Value)} {a : Act} (h : Fm n m a) {d : Nat} (hd : d < n) (v : Value) : Fm n ((d, v) :: m) (a.put (some d) v) := by
  refine ⟨by simp [Act.put, h.size], h.defers, ?_⟩
  intro k u hk
  simp only [lk] at hk
  by_cases e : d = k
  · subst e
    simp only [show Nat.beq d d = true from Nat.beq_refl d] at hk
    injection hk with hk
    subst hk
    simp [Act.put, h.size, hd]
  · rw [show Nat.beq d k = false from Bool.eq_false_iff.2 (fun h => e (Nat.eq_of_beq_eq_true h))] at hk
    have := h.has k u hk
    simp [Act.put, e, this]
/-- A frame of which less is told. -/
def Sub : List (Nat × Value) → List (Nat × Value) → Prop
  | [], _ => True
  | (k, v) :: r, m => lk m k = some v ∧ Sub r m
theorem Sub.lk : ∀ {r m : List (Nat × Value)}, Sub r m → ∀ k v, lk r k = some v → lk m k = some v
  | [], _, _, _, _, h => by cases h
  | (j, u) :: r, m, hs, k, v, h => by
    simp only [YtpeoodkepjhhiaaDoor.lk] at h
    split at h
    · rename_i e
      have : j = k := Nat.eq_of_beq_eq_true e
      subst this
      injection h with h
      subst h
      exact hs.1
    · exact Sub.lk hs.2 k v h
theorem Fm.sub {n : Nat} {m r : List (Nat × Value)} {a : Act} (h : Fm n m a) (hs : Sub r m) : Fm n r a := ⟨h.size, h.defers, fun k v hk => h.has k v (hs.lk k v hk)⟩
/-- A value as a guard reads it. -/
def yv : Value → Option Bool
  | .bool b => some b
  | _ => none
/-- Whether an operation with this guard is carried out. -/
def wantedM (ops : Array Oper) (m : List (Nat × Value)) : Option (Nat × Bool) → Option Bool
  | none => some true
  | some (j, want) => match (ops[j]?).bind (·.dst) with
    | none => some false
    | some d => match lk m d with
      | some v => some (yv v == some want)
      | none => none
theorem Fm.wanted {n : Nat} {m : List (Nat × Value)} {a : Act} (h : Fm n m a) {ops : Array Oper} {o : Oper} {b : Bool} (hw : wantedM ops m o.guard = some b) : Region.wanted o (yielded ops a.tmps) = b := by
  unfold wantedM at hw
  unfold Region.wanted
  split at hw
  · rename_i hg
    rw [hg]
    exact Option.some.inj hw
  · rename_i j want hg
    rw [hg]
    simp only
    unfold yielded
    split at hw
    · rename_i hd
      rw [hd]
      injection hw
    · rename_i d hd
      rw [hd]
      split at hw
      · rename_i v hl
        have := h.has d _ hl
        injection hw with hw
        subst hw
        simp only [Option.bind_some, this]
        cases v <;> rfl
      · cases hw
section
variable {P : Program}

/-- The walk along a region's operations, from whatever frame that m tells of. -/
def wl (P : Program) (ops : Array Oper) (Q : Exit → Act → World → Prop) (l : List Oper) (n : Nat) (m : List (Nat × Value)) (w : World) : Prop := ∀ a, Fm n m a → wpList P ops Q l a w
/-- A piece of code, likewise. -/
def cw (P : Program) (c : Code) (Q : Exit → Act → World → Prop) (n : Nat) (m : List (Nat × Value)) (w : World) : Prop := ∀ a, Fm n m a → c.wp P Q a w
/-- An exit, likewise. -/
def xw (Q : Exit → Act → World → Prop) (e : Exit) (n : Nat) (m : List (Nat × Value)) (w : World) : Prop := ∀ a, Fm n m a → Q e a w
/-- What reads as m says. -/
def Reads (m : List (Nat × Value)) (ρ : Operand → Value) : Prop := ∀ x v, ev m x = some v → ρ x = v
section
variable {ops : Array Oper} {Q : Exit → Act → World → Prop} {rest : List Oper} {n : Nat} {m : List (Nat × Value)} {w w' : World} {d : Nat} {op : Op} {t : TypeId} {pos : String} {aft : Array Edge} {gd : Option (Nat × Bool)} {v : Value}
theorem Fm.reads {a : Act} (h : Fm n m a) : Reads m a.eval := fun _ _ hx => h.ev hx
theorem wl_val (hr : ∀ ρ, Reads m ρ → (execOp ρ ⟨some d, op, t, pos, aft, gd⟩).run P w = .ok (.value v) w') (hg : wantedM ops m gd = some true) (hd : Nat.blt d n = true) (h : wl P ops Q rest n ((d, v) :: m) w') :
    wl P ops Q (⟨some d, op, t, pos, aft, gd⟩ :: rest) n m w := fun a ha => by
  unfold wpList
  rw [if_pos (ha.wanted hg)]
  left
  unfold Oper.wp
  rw [hr _ ha.reads]
  exact h _ (ha.put (by simpa [Nat.blt_eq] using hd) v)
theorem wl_skip (hg : wantedM ops m gd = some false) (hd : Nat.blt d n = true) (h : wl P ops Q rest n ((d, undef) :: m) w) : wl P ops Q (⟨some d, op, t, pos, aft, gd⟩ :: rest) n m w := fun a ha => by
  unfold wpList
  rw [if_neg (by rw [ha.wanted hg]; simp)]
  exact h _ (ha.put (by simpa [Nat.blt_eq] using hd) _)
theorem wl_skip0 (hg : wantedM ops m gd = some false) (h : wl P ops Q rest n m w) : wl P ops Q (⟨none, op, t, pos, aft, gd⟩ :: rest) n m w := fun a ha => by
  unfold wpList
  rw [if_neg (by rw [ha.wanted hg]; simp)]
  exact h _ ha
theorem wl_none (hr : ∀ ρ, Reads m ρ → (execOp ρ ⟨none, op, t, pos, aft, gd⟩).run P w = .ok .skip w') (hg : wantedM ops m gd = some true) (h : wl P ops Q rest n m w') :
    wl P ops Q (⟨none, op, t, pos, aft, gd⟩ :: rest) n m w := fun a ha => by
  unfold wpList
  rw [if_pos (ha.wanted hg)]
  left
  unfold Oper.wp
  rw [hr _ ha.reads]
  exact h _ ha
/-- A call of f enters f's text. -/
def Enters (P : Program) (f : FuncId) : Prop := ∀ args w, (callFunc f args).run P w = .ok (.enter f args) w
theorem enters_of {f : FuncId} {fn : Func} {c : Code} (hf : P.funcs[f]? = some fn) (hname : (fn.name == "runtime.NumGoroutine") = false) (hb : fn.body = some c) : Enters P f := fun args w => by
  have h1 : fn.name ≠ "runtime.NumGoroutine" := by simpa using hname
  simp [callFunc, hf, h1, hb]
theorem exec_call {ρ : Operand → Value} {d : Option Tmp} {f : FuncId} {xs : Array Operand} {ts : Array TypeId} {args : Array Value} (he : Enters P f) (hf : ρ (.func f) = .func (.func f) #[] #[]) (h : xs.map ρ = args) : (execOp ρ ⟨d, .call ⟨.value (.func f), xs, ts⟩, t, pos, aft, gd⟩).run P w = .ok (.enter f args) w := by
  subst h
  simp [go_sem, hf, he _ _]
theorem wl_call {f : FuncId} {xs : List Operand} {ts : Array TypeId} {args : List Value} (he : Enters P f) (hargs : evs m xs = some args) (hg : wantedM ops m gd = some true) (hd : Nat.blt d n = true)
    (h : Calls P f args.toArray w fun e w' => ∃ v, e = .returned v ∧ wl P ops Q rest n ((d, v) :: m) w') :
    wl P ops Q (⟨some d, .call ⟨.value (.func f), xs.toArray, ts⟩, t, pos, aft, gd⟩ :: rest) n m w := fun a ha => by
  unfold wpList
  rw [if_pos (ha.wanted hg)]
  left
  unfold Oper.wp
  rw [exec_call he rfl (args := args.toArray) (by rw [List.map_toArray, ha.evs hargs])]
  refine h.mono ?_
  rintro e w' ⟨v, rfl, hh⟩
  exact hh _ (ha.put (by simpa [Nat.blt_eq] using hd) v)
theorem wl_nil (h : xw Q .normal n m w) : wl P ops Q [] n m w := fun a ha => h a ha
/-- A region in the order of the text. -/
theorem cw_region {id : Nat} {l : List Oper} (h : wl P l.toArray Q l n m w) : cw P (.region id l.toArray false) Q n m w := fun a ha => wp_region_lit (h a ha)
theorem cw_seq {x y : Code} (h : ∀ K : Act → World → Prop, Shut (∀ n m w, cw P y Q n m w → ∀ a, Fm n m a → K a w) → cw P x (Exit.then K Q) n m w) : cw P (.seq x y) Q n m w := fun a ha =>
  wp_seq_k (fun K hK => h K (fun _ _ _ hy a ha => hK _ _ (hy a ha)) a ha)
theorem xw_next {K : Act → World → Prop} {y : Code} (hK : Shut (∀ n m w, cw P y Q n m w → ∀ a, Fm n m a → K a w)) (h : cw P y Q n m w) : xw (Exit.then K Q) .normal n m w := fun a ha => hK.out _ _ _ h a ha
/-- An exit that is not the normal one goes by what comes next. -/
theorem xw_past {K : Act → World → Prop} {e : Exit} (he : e ≠ .normal) (h : xw Q e n m w) : xw (Exit.then K Q) e n m w := fun a ha => by
  cases e <;> first | exact absurd rfl he | exact h a ha
theorem cw_true {c : Operand} {x y : Code} (hc : ev m c = some (.bool true)) (h : cw P x Q n m w) : cw P (.cond c x y) Q n m w := fun a ha => wp_cond_true (ha.ev hc) (h a ha)
theorem cw_false {c : Operand} {x y : Code} (hc : ev m c = some (.bool false)) (h : cw P y Q n m w) : cw P (.cond c x y) Q n m w := fun a ha => wp_cond_false (ha.ev hc) (h a ha)
theorem cw_cond {c : Operand} {x y : Code} {b : Bool} (hc : ev m c = some (.bool b)) (h1 : b = true → cw P x Q n m w) (h2 : b = false → cw P y Q n m w) : cw P (.cond c x y) Q n m w := fun a ha => wp_cond_split (ha.ev hc) (fun h => h1 h a ha) (fun h => h2 h a ha)
theorem cw_skip (h : xw Q .normal n m w) : cw P .skip Q n m w := fun a ha => wp_skip (h a ha)
theorem cw_exit {id : Nat} (h : xw Q (.exit id) n m w) : cw P (.exit id) Q n m w := fun a ha => wp_exit (h a ha)
theorem cw_ret (h : xw Q .ret n m w) : cw P .ret Q n m w := fun a ha => wp_ret (h a ha)
theorem cw_block {id : Nat} {c : Code} (h : cw P c (Exit.inBlock id Q) n m w) : cw P (.block id c) Q n m w := fun a ha => wp_block (h a ha)
theorem xw_block {id : Nat} (h : xw Q .normal n m w) : xw (Exit.inBlock id Q) .normal n m w := fun a ha => h a ha
theorem xw_here {id : Nat} (h : xw Q .normal n m w) : xw (Exit.inBlock id Q) (.exit id) n m w := fun a ha => by
  show (if id = id then _ else _)
  rw [if_pos rfl]
  exact h a ha
theorem xw_other {id i : Nat} (hne : Nat.beq i id = false) (h : xw Q (.exit i) n m w) : xw (Exit.inBlock id Q) (.exit i) n m w := fun a ha => by
  show (if i = id then _ else _)
  rw [if_neg (by intro e; rw [e, Nat.beq_refl] at hne; cases hne)]
  exact h a ha
theorem xw_blockret {id : Nat} (h : xw Q .ret n m w) : xw (Exit.inBlock id Q) .ret n m w := fun a ha => h a ha
/-- Less told of the frame. -/
theorem cw_sub {c : Code} {r : List (Nat × Value)} (hs : Sub r m) (h : cw P c Q n r w) : cw P c Q n m w := fun a ha => h a (ha.sub hs)
theorem xw_sub {e : Exit} {r : List (Nat × Value)} (hs : Sub r m) (h : xw Q e n r w) : xw Q e n m w := fun a ha => h a (ha.sub hs)
theorem least {p : Nat → Prop} (h : ∃ k, p k) : ∃ k, p k ∧ ∀ j, p j → k ≤ j := by
  obtain ⟨k, hk⟩ := h
  induction k using Nat.strongRecOn with
  | _ k ih =>
    by_cases he : ∃ j, j < k ∧ p j
    · obtain ⟨j, h1, h2⟩ := he
      exact ih j h1 h2
    · exact ⟨k, hk, fun j hj => Nat.le_of_not_lt (fun h => he ⟨j, h, hj⟩)⟩
/-- A loop: at its head the frame reads as M i and J i holds, for some i; μ falls from round to round. -/
theorem cw_loop {c : Code} {ι : Type} (M : ι → List (Nat × Value)) (J : ι → World → Prop) (μ : ι → Nat) (i0 : ι) (h0 : J i0 w) (hs : Sub (M i0) m)
    (round : ∀ i w, J i w → ∀ K : Act → World → Prop, Shut (∀ j m' w', μ j < μ i → J j w' → Sub (M j) m' → ∀ a, Fm n m' a → K a w') → cw P c (Exit.then K Q) n (M i) w) : cw P (.loop c) Q n m w := fun a ha => by
  classical
  let p : Act → World → Nat → Prop := fun a w k => ∃ i, μ i = k ∧ Fm n (M i) a ∧ J i w
  refine wp_loop (fun a w => ∃ k, p a w k) (fun a w => if h : ∃ k, p a w k then Classical.choose (least h) else 0) ⟨_, i0, rfl, ha.sub hs, h0⟩ ?_
  intro a w hI
  have hspec := Classical.choose_spec (least hI)
  obtain ⟨⟨i, hi, hfr, hJ⟩, hmin⟩ := hspec
  refine round i w hJ _ ?_ a hfr
  intro j m' w' hlt hJ' hs' a' ha'
  have hI' : ∃ k, p a' w' k := ⟨_, j, rfl, ha'.sub hs', hJ'⟩
  refine ⟨hI', ?_⟩
  simp only [dif_pos hI, dif_pos hI']
  have := (Classical.choose_spec (least hI')).2 (μ j) ⟨j, rfl, ha'.sub hs', hJ'⟩
  omega
theorem xw_round {ι : Type} {M : ι → List (Nat × Value)} {J : ι → World → Prop} {μ : ι → Nat} {i : ι} {K : Act → World → Prop} (hK : Shut (∀ j m' w', μ j < μ i → J j w' → Sub (M j) m' → ∀ a, Fm n m' a → K a w')) (j : ι) (hlt : μ j < μ i) (hJ : J j w) (hs : Sub (M j) m) : xw (Exit.then K Q) .normal n m w := fun a ha => hK.out j m w hlt hJ hs a ha
end
end
end Go.Proofs.YtpeoodkepjhhiaaDoor

namespace Go.Proofs.YtpeoodkepjhhiaaDoor
open Go
section
variable {P : Program} {ops : Array Oper} {C : World → Prop} {Q : Act → Prop} {a : Act} {o : Oper} {rest : List Oper}
theorem region_C {id : Nat} {Q : Exit → Act → World → Prop} {w : World} {l : List Oper} (C : World → Prop) (hm : P.follows .mixedOrders = true) (hB : Region.lexB .any l.toArray = true) (hC : C w.drew)
    (h : wpQuiet P l.toArray C (fun a' => ∀ w', C w' → Q .normal a' w') l a) : (Code.region id l.toArray true).wp P Q a w :=
  wp_region_quiet (C := C) hm hB hC (by simpa using h)
theorem q_skip (hw : Region.wanted o (yielded ops a.tmps) = false) (h : wpQuiet P ops C Q rest (a.put o.dst undef)) : wpQuiet P ops C Q (o :: rest) a := BigFrame.wpQuiet_skip hw h
theorem q_move (x : Operand) (hop : o.op = .move x) (hw : Region.wanted o (yielded ops a.tmps) = true) (h : wpQuiet P ops C Q rest (a.put o.dst (a.eval x))) : wpQuiet P ops C Q (o :: rest) a :=
  BigFrame.wpQuiet_want hw fun _ hK => BigFrame.quiet_move x hop (hK _ h)
theorem q_assign (x : Operand) (hop : o.op = .assign x) (hw : Region.wanted o (yielded ops a.tmps) = true) (h : wpQuiet P ops C Q rest (a.put o.dst (a.eval x))) : wpQuiet P ops C Q (o :: rest) a :=
  BigFrame.wpQuiet_want hw fun _ hK => BigFrame.quiet_assign x hop (hK _ h)
/-- What is asked of an operation in each world of the class. -/
theorem q_step (v : Value) (hw : Region.wanted o (yielded ops a.tmps) = true) (hv : ∀ w, C w → o.quietAt P a C w v) (h : wpQuiet P ops C Q rest (a.put o.dst v)) : wpQuiet P ops C Q (o :: rest) a :=
  BigFrame.wpQuiet_want hw fun _ hK => ⟨v, hv, hK _ h⟩
theorem q_nil {Q : Exit → Act → World → Prop} (h : ∀ w', C w' → Q .normal a w') : wpQuiet P ops C (fun a' => ∀ w', C w' → Q .normal a' w') [] a := h
end
end Go.Proofs.YtpeoodkepjhhiaaDoor

namespace Go.Proofs.YtpeoodkepjhhiaaDoor
open Go Go.RowKit
section
variable {P : Program} {ops : Array Oper} {Q : Exit → Act → World → Prop} {S C : World → Prop} {r : List (Nat × Nat)} {rest : List Oper} {n : Nat} {m : List (Nat × Value)} {w w' : World} {i d : Nat} {op : Op} {t : TypeId} {pos : String} {aft : Array Edge} {gd : Option (Nat × Bool)} {v : Value}
/-- Along a list of a region that draws its order (RegL). -/
def wt (P : Program) (ops : Array Oper) (Q : Exit → Act → World → Prop) (S : World → Prop) (r : List (Nat × Nat)) (n : Nat) (m : List (Nat × Value)) (w : World) : Prop := ∀ a, Fm n m a → wpT P ops Q S r a w
theorem wt0 (ho : ops[i]? = some ⟨some d, op, t, pos, aft, gd⟩) (hr : ∀ ρ, Reads m ρ → ∀ W, S W → (execOp ρ ⟨some d, op, t, pos, aft, gd⟩).run P W = .ok (.value v) W) (hg : wantedM ops m gd = some true) (hd : Nat.blt d n = true)
    (h : wt P ops Q S r n ((d, v) :: m) w) : wt P ops Q S ((i, 0) :: r) n m w := fun a ha =>
  ⟨_, v, ho, .inl ⟨ha.wanted hg, hr _ ha.reads⟩, h _ (ha.put (by simpa [Nat.blt_eq] using hd) v)⟩
theorem wt1 (ho : ops[i]? = some ⟨some d, op, t, pos, aft, gd⟩) (hr : ∀ ρ, Reads m ρ → ∀ W, (execOp ρ ⟨some d, op, t, pos, aft, gd⟩).run P W = .ok (.value v) W) (hg : wantedM ops m gd = some true) (hd : Nat.blt d n = true)
    (h : wt P ops Q S r n ((d, v) :: m) w) : wt P ops Q S ((i, 1) :: r) n m w := fun a ha =>
  ⟨_, v, ho, .inl ⟨ha.wanted hg, fun W _ => hr _ ha.reads W⟩, h _ (ha.put (by simpa [Nat.blt_eq] using hd) v)⟩
theorem wt1_skip (ho : ops[i]? = some ⟨some d, op, t, pos, aft, gd⟩) (hg : wantedM ops m gd = some false) (hd : Nat.blt d n = true)
    (h : wt P ops Q S r n ((d, undef) :: m) w) : wt P ops Q S ((i, 1) :: r) n m w := fun a ha =>
  ⟨_, undef, ho, .inr ⟨ha.wanted hg, rfl⟩, h _ (ha.put (by simpa [Nat.blt_eq] using hd) undef)⟩
theorem wt0_skip (ho : ops[i]? = some ⟨some d, op, t, pos, aft, gd⟩) (hg : wantedM ops m gd = some false) (hd : Nat.blt d n = true)
    (h : wt P ops Q S r n ((d, undef) :: m) w) : wt P ops Q S ((i, 0) :: r) n m w := fun a ha =>
  ⟨_, undef, ho, .inr ⟨ha.wanted hg, rfl⟩, h _ (ha.put (by simpa [Nat.blt_eq] using hd) undef)⟩
theorem wt2 (ho : ops[i]? = some ⟨some d, op, t, pos, aft, gd⟩) (hr : ∀ ρ, Reads m ρ → (execOp ρ ⟨some d, op, t, pos, aft, gd⟩).run P w = .ok (.value v) w') (hg : wantedM ops m gd = some true) (hd : Nat.blt d n = true) (hS : S w')
    (h : wt P ops Q S r n ((d, v) :: m) w') : wt P ops Q S ((i, 2) :: r) n m w := fun a ha =>
  ⟨_, ho, fun K hK => by
    rw [if_pos (ha.wanted hg)]
    unfold Oper.wp
    rw [hr _ ha.reads]
    exact hK.out _ _ hS (fun _ => h _ (ha.put (by simpa [Nat.blt_eq] using hd) v))⟩
theorem wt2_none (ho : ops[i]? = some ⟨none, op, t, pos, aft, gd⟩) (hr : ∀ ρ, Reads m ρ → (execOp ρ ⟨none, op, t, pos, aft, gd⟩).run P w = .ok .skip w') (hg : wantedM ops m gd = some true) (hS : S w')
    (h : wt P ops Q S r n m w') : wt P ops Q S ((i, 2) :: r) n m w := fun a ha =>
  ⟨_, ho, fun K hK => by
    rw [if_pos (ha.wanted hg)]
    unfold Oper.wp
    rw [hr _ ha.reads]
    exact hK.out _ _ hS (fun _ => h _ ha)⟩
theorem wt2_new {T : TypeId} {cs : Array Value} (ho : ops[i]? = some ⟨some d, op, t, pos, aft, gd⟩) (hr : ∀ ρ, Reads m ρ → (execOp ρ ⟨some d, op, t, pos, aft, gd⟩).run P w = .ok (.value (.pointer (some ⟨w.heap.size, 0, none⟩))) (w.alloc (.cells cs T))) (hg : wantedM ops m gd = some true) (hd : Nat.blt d n = true)
    (h : ∀ g w', Below w.heap.size w w' → Blk w' g T cs → w.heap.size = g → w'.heap.size = g + 1 → S w' ∧ wt P ops Q S r n ((d, .pointer (some ⟨g, 0, none⟩)) :: m) w') : wt P ops Q S ((i, 2) :: r) n m w := fun a ha =>
  ⟨_, ho, fun K hK => by
    obtain ⟨h1, h2⟩ := h _ _ ((Below.refl _ _).alloc (Nat.le_refl _) _) (Blk.new _ _ _) rfl (by simp)
    rw [if_pos (ha.wanted hg)]
    unfold Oper.wp
    rw [hr _ ha.reads]
    exact hK.out _ _ h1 (fun _ => h2 _ (ha.put (by simpa [Nat.blt_eq] using hd) _))⟩
theorem wt2_call {f : FuncId} {xs : List Operand} {ts : Array TypeId} {args : List Value} (ho : ops[i]? = some ⟨some d, .call ⟨.value (.func f), xs.toArray, ts⟩, t, pos, aft, gd⟩) (he : Enters P f) (hargs : evs m xs = some args) (hg : wantedM ops m gd = some true) (hd : Nat.blt d n = true)
    (h : Calls P f args.toArray w fun e w' => ∃ v, e = .returned v ∧ S w' ∧ wt P ops Q S r n ((d, v) :: m) w') : wt P ops Q S ((i, 2) :: r) n m w := fun a ha =>
  ⟨_, ho, fun K hK => by
    rw [if_pos (ha.wanted hg)]
    unfold Oper.wp
    rw [exec_call he rfl (args := args.toArray) (by rw [List.map_toArray, ha.evs hargs])]
    refine h.mono ?_
    rintro e w' ⟨v, rfl, hS, hh⟩
    exact hK.out _ _ hS (fun _ => hh _ (ha.put (by simpa [Nat.blt_eq] using hd) v))⟩
theorem wt3 (ho : ops[i]? = some ⟨some d, op, t, pos, aft, gd⟩) (hr : ∀ ρ, Reads m ρ → (execOp ρ ⟨some d, op, t, pos, aft, gd⟩).run P w = .ok (.value v) w') (hg : wantedM ops m gd = some true) (hd : Nat.blt d n = true)
    (h : wt P ops Q S r n ((d, v) :: m) w') : wt P ops Q S ((i, 3) :: r) n m w := fun a ha =>
  ⟨_, ho, fun K hK => by
    rw [if_pos (ha.wanted hg)]
    unfold Oper.wp
    rw [hr _ ha.reads]
    exact hK.out _ _ (h _ (ha.put (by simpa [Nat.blt_eq] using hd) v))⟩
theorem wt3_none (ho : ops[i]? = some ⟨none, op, t, pos, aft, gd⟩) (hr : ∀ ρ, Reads m ρ → (execOp ρ ⟨none, op, t, pos, aft, gd⟩).run P w = .ok .skip w') (hg : wantedM ops m gd = some true)
    (h : wt P ops Q S r n m w') : wt P ops Q S ((i, 3) :: r) n m w := fun a ha =>
  ⟨_, ho, fun K hK => by
    rw [if_pos (ha.wanted hg)]
    unfold Oper.wp
    rw [hr _ ha.reads]
    exact hK.out _ _ (h _ ha)⟩
theorem wt3_call {f : FuncId} {xs : List Operand} {ts : Array TypeId} {args : List Value} (ho : ops[i]? = some ⟨some d, .call ⟨.value (.func f), xs.toArray, ts⟩, t, pos, aft, gd⟩) (he : Enters P f) (hargs : evs m xs = some args) (hg : wantedM ops m gd = some true) (hd : Nat.blt d n = true)
    (h : Calls P f args.toArray w fun e w' => ∃ v, e = .returned v ∧ wt P ops Q S r n ((d, v) :: m) w') : wt P ops Q S ((i, 3) :: r) n m w := fun a ha =>
  ⟨_, ho, fun K hK => by
    rw [if_pos (ha.wanted hg)]
    unfold Oper.wp
    rw [exec_call he rfl (args := args.toArray) (by rw [List.map_toArray, ha.evs hargs])]
    refine h.mono ?_
    rintro e w' ⟨v, rfl, hh⟩
    exact hK.out _ _ (hh _ (ha.put (by simpa [Nat.blt_eq] using hd) v))⟩
theorem wt_nil (h : xw Q .normal n m w) : wt P ops Q S [] n m w := fun a ha => h a ha
/-- What was written into the frame makes no difference to a panic. -/
def PQ (Q : Exit → Act → World → Prop) : Prop := ∀ c a t v w, Q (.panic c) (a.put t v) w → Q (.panic c) a w
theorem PQ.body {fn : Func} {R : Ending → World → Prop} : PQ (bodyPost P fn R) := fun _ _ t _ _ h => by cases t <;> exact h
theorem PQ.then_ {K : Act → World → Prop} (h : PQ Q) : PQ (Exit.then K Q) := fun c a t v w hh => h c a t v w hh
theorem PQ.block {id : Nat} (h : PQ Q) : PQ (Exit.inBlock id Q) := fun c a t v w hh => h c a t v w hh
theorem cw_drawn {id : Nat} {l : List Oper} (S : World → Prop) (k : Nat) (r : List (Nat × Nat)) (hm : P.follows .mixedOrders = true) (hs : (Region.noSelect l.toArray && (r.length == l.toArray.size) && lexT .any l.toArray k r (Array.replicate l.toArray.size false)) = true)
    (hQ : PQ Q) (hS : S w.drew) (h : wt P l.toArray Q S r n m w.drew) : cw P (.region id l.toArray true) Q n m w := fun a ha => region_L S k r hm hs hQ hS (fun _ => h a ha)

/-- Two of its operations may come up first: each way by itself. -/
theorem cw_fork {id : Nat} {l : List Oper} (S : World → Prop) (k : Nat) (pre : List (Nat × Nat)) (i j : Nat) (r s : List (Nat × Nat)) (hm : P.follows .mixedOrders = true) (hs : (Region.noSelect l.toArray && (r.length + 1 + pre.length == l.toArray.size) && lexU .any l.toArray k (forkB .any l.toArray k i j r s) pre (Array.replicate l.toArray.size false)) = true)
    (hQ : PQ Q) (hS : S w.drew) (h : wt P l.toArray (Exit.then (fun a w => wpT P l.toArray Q S ((i, 2) :: r) a w ∧ wpT P l.toArray Q S ((j, 2) :: s) a w) Q) S pre n m w.drew) : cw P (.region id l.toArray true) Q n m w := fun a ha => region_F S k pre i j r s hm hs hQ hS (h a ha)
theorem xw_fork {i j : Nat} {r s : List (Nat × Nat)} (h1 : wt P ops Q S ((i, 2) :: r) n m w) (h2 : wt P ops Q S ((j, 2) :: s) n m w) : xw (Exit.then (fun a w => wpT P ops Q S ((i, 2) :: r) a w ∧ wpT P ops Q S ((j, 2) :: s) a w) Q) .normal n m w := fun a ha => ⟨h1 a ha, h2 a ha⟩
/-- What follows, proved once for several ways. -/
theorem xw_rest {K : Act → World → Prop} {r : List (Nat × Value)} (h : ∀ a, Fm n r a → K a w) (hs : Sub r m) : xw (Exit.then K Q) .normal n m w := fun a ha => h a (ha.sub hs)
/-- Along the text of a region whose operations keep a class of worlds. -/
def wq (P : Program) (ops : Array Oper) (C : World → Prop) (Q : Exit → Act → World → Prop) (l : List Oper) (n : Nat) (m : List (Nat × Value)) : Prop := ∀ a, Fm n m a → wpQuiet P ops C (fun a' => ∀ w', C w' → Q .normal a' w') l a
theorem wq_val (hr : ∀ ρ, Reads m ρ → ∀ W, C W → (execOp ρ ⟨some d, op, t, pos, aft, gd⟩).run P W = .ok (.value v) W) (hg : wantedM ops m gd = some true) (hd : Nat.blt d n = true) (h : wq P ops C Q rest n ((d, v) :: m)) : wq P ops C Q (⟨some d, op, t, pos, aft, gd⟩ :: rest) n m := fun a ha =>
  q_step v (ha.wanted hg) (fun W hW => by unfold Oper.quietAt; rw [hr _ ha.reads W hW]; exact ⟨rfl, rfl⟩) (h _ (ha.put (by simpa [Nat.blt_eq] using hd) v))
theorem wq_skip (hg : wantedM ops m gd = some false) (hd : Nat.blt d n = true) (h : wq P ops C Q rest n ((d, undef) :: m)) : wq P ops C Q (⟨some d, op, t, pos, aft, gd⟩ :: rest) n m := fun a ha =>
  q_skip (ha.wanted hg) (h _ (ha.put (by simpa [Nat.blt_eq] using hd) undef))
theorem wq_call {f : FuncId} {xs : List Operand} {ts : Array TypeId} {args : List Value} (he : Enters P f) (hargs : evs m xs = some args) (hg : wantedM ops m gd = some true) (hd : Nat.blt d n = true)
    (hc : ∀ W, C W → Calls P f args.toArray W fun e w' => e = .returned v ∧ C w') (h : wq P ops C Q rest n ((d, v) :: m)) : wq P ops C Q (⟨some d, .call ⟨.value (.func f), xs.toArray, ts⟩, t, pos, aft, gd⟩ :: rest) n m := fun a ha =>
  q_step v (ha.wanted hg) (fun W hW => by
    unfold Oper.quietAt
    rw [exec_call he rfl (args := args.toArray) (by rw [List.map_toArray, ha.evs hargs])]
    exact ⟨rfl, hc W hW⟩) (h _ (ha.put (by simpa [Nat.blt_eq] using hd) v))
theorem wq_nil (h : ∀ w', C w' → xw Q .normal n m w') : wq P ops C Q [] n m := fun a ha w' hw => h w' hw a ha
theorem cw_quiet {id : Nat} {l : List Oper} (C : World → Prop) (hm : P.follows .mixedOrders = true) (hB : Region.lexB .any l.toArray = true) (hC : C w.drew) (h : wq P l.toArray C Q l n m) : cw P (.region id l.toArray true) Q n m w := fun a ha => region_C C hm hB hC (h a ha)

/-- The arguments, by slot. -/
def argSlots : Nat → List Value → List (Nat × Value)
  | _, [] => []
  | k, v :: l => (k, v) :: argSlots (k + 1) l
theorem argSlots_lk : ∀ (l : List Value) (k j : Nat) (v : Value), lk (argSlots k l) j = some v → k ≤ j ∧ l[j - k]? = some v
  | [], _, _, _, h => by cases h
  | u :: l, k, j, v, h => by
    simp only [argSlots, lk] at h
    split at h
    · rename_i e
      have : k = j := Nat.eq_of_beq_eq_true e
      subst this
      injection h with h
      subst h
      simp
    · obtain ⟨h1, h2⟩ := argSlots_lk l (k + 1) j v h
      refine ⟨by omega, ?_⟩
      have : j - k = (j - (k + 1)) + 1 := by omega
      rw [this, List.getElem?_cons_succ]
      exact h2
theorem sx_enter {f : FuncId} {fn : Func} {c : Code} {n : Nat} {args : List Value} {w : World} {R : Ending → World → Prop} (hf : P.funcs[f]? = some fn) (hb : fn.body = some c) (hn : fn.ntmps = n) (hle : args.length ≤ n)
    (h : cw P c (bodyPost P fn R) n (argSlots 0 args) w) : Calls P f args.toArray w R := by
  refine calls_of_wp hf hb (h _ ⟨?_, rfl, ?_⟩)
  · simp only [Array.size_append, List.size_toArray, Array.size_replicate, hn]
    omega
  · intro k v hk
    obtain ⟨_, h2⟩ := argSlots_lk _ _ _ _ hk
    have hlt : k < args.length := (List.getElem?_eq_some_iff.1 h2).1
    rw [Array.getElem?_append_left (by simpa using hlt)]
    simpa using h2
theorem xw_ret {fn : Func} {R : Ending → World → Prop} {w : World} (hr : ∀ T : Array Value, (∀ k v, lk m k = some v → T[k]? = some v) → (results fn T).run P w = .ok v w) (hR : R (.returned v) w) : xw (bodyPost P fn R) .ret n m w := fun _ ha =>
  bodyPost_ret (hr _ ha.has) ha.defers hR
theorem xw_end {fn : Func} {R : Ending → World → Prop} {w : World} (hr : ∀ T : Array Value, (∀ k v, lk m k = some v → T[k]? = some v) → (results fn T).run P w = .ok v w) (hR : R (.returned v) w) : xw (bodyPost P fn R) .normal n m w := fun _ ha =>
  bodyPost_end (hr _ ha.has) ha.defers hR
theorem res1 {fn : Func} {a : Nat} (h : fn.results = #[.tmp a]) (T : Array Value) (w : World) (h1 : T[a]? = some v) : (results fn T).run P w = .ok v w := by
  simp [results, h, Array.getD_eq_getD_getElem?, h1]
theorem res2 {fn : Func} {a b : Nat} {u : Value} (h : fn.results = #[.tmp a, .tmp b]) (T : Array Value) (w : World) (h1 : T[a]? = some v) (h2 : T[b]? = some u) : (results fn T).run P w = .ok (.tuple #[v, u]) w := by
  simp [results, h, Array.getD_eq_getD_getElem?, h1, h2]
theorem res3 {fn : Func} {a b c : Nat} {u x : Value} (h : fn.results = #[.tmp a, .tmp b, .tmp c]) (T : Array Value) (w : World) (h1 : T[a]? = some v) (h2 : T[b]? = some u) (h3 : T[c]? = some x) : (results fn T).run P w = .ok (.tuple #[v, u, x]) w := by
  simp [results, h, Array.getD_eq_getD_getElem?, h1, h2, h3]
end
end Go.Proofs.YtpeoodkepjhhiaaDoor
namespace Go.Proofs.YtpeoodkepjhhiaaDoor
open Go Go.RowKit

theorem step_append_cells (w0 : World) {ops : Array Oper} {o : Oper} {a : Act} {K : Act → World → Prop} {Q : Exit → Act → World → Prop} {E : Prop} (hgd : o.guard = none) (s x : Operand) (t e : TypeId) (size bytes : Nat) (z : Value)
    (ht : Tryd.prog.underlying t = some (.slice e)) (hinfo : (Tryd.prog.info? e).map (fun i => (i.zero, i.size, i.bytes)) = some (some z, size, bytes)) (hzs : z.cells.size = size) (hsz : 0 < size)
    (ho : o.op = .call { callee := .builtin .append, args := #[s, x], argTypes := #[t, t] }) (base : Nat) (v : Value) (n : Nat) (xs : List Value) (hs : a.eval s = v) (hown : w0.ownsRow base e size v n xs)
    (cells : List Value) (hl : cells.length = size) (h1 : ∀ u ∈ cells, u.oneCell' = true) (hx : a.eval x = .slice (some ⟨w0.heap.size, 0, none⟩) 1 1) (hlen : (n + 1) * bytes ≤ 140737488355328) (hn : n ≤ 1099511627776) (hbase : base ≤ w0.heap.size)
    (h : ∀ A c w', w'.ownsRow base e size (.slice A (n + 1) c) (n + 1) (xs ++ cells) → w0.grownBy w' v.ownBlock → K (a.put o.dst (.slice A (n + 1) c)) w') :
    if Region.wanted o (yielded ops a.tmps) = true then Oper.wp Tryd.prog o a (w0.alloc (.cells cells.toArray e)) K Q else E := by
  rw [if_pos (by simp [Region.wanted, hgd])]
  obtain ⟨i, hi, hz, hs', hb⟩ := info_parts hinfo
  obtain ⟨v', w', hrun, h2, h3, _⟩ := run_append_own (P := Tryd.prog) (w0.alloc (.cells cells.toArray e)) base t o.type e i _ size bytes ht hi hz hs' hb hzs hsz v n xs (hown.alloc _) ⟨w0.heap.size, 0, none⟩ 1 1 cells (by omega)
    (fun j u hu => by
      have hadd : (⟨w0.heap.size, 0, none⟩ : Addr).add j = ⟨w0.heap.size, j, none⟩ := by unfold Addr.add; split <;> simp_all
      rw [hadd, (Blk.new w0 e cells.toArray).cell j]
      simpa using hu)
    h1 (by unfold maxLen; omega) hlen (by simp; omega)
  obtain ⟨A, c, rfl⟩ := own_form h2
  unfold Oper.wp execOp
  simp only [ho, resolve, invoke, builtin, Sem.run_bind, Sem.run_pure, Result.andThen_ok, List.map_toArray, List.map_cons, List.map_nil, hs, hx, hrun]
  exact h A c w' h2 ⟨h3.os, h3.tape, h3.output, Nat.le_trans (by simp) h3.size, fun k hk hne => (h3.block k (by simp; omega) hne).trans (Below.heap_alloc _ _ _ hk)⟩

def OwnBools (w : World) (base : Nat) (v : Value) (l : List Bool) : Prop := w.ownsRow base 4 1 v l.length (l.map Value.bool)
theorem OwnBools.V {w : World} {base : Nat} {v : Value} {l : List Bool} (h : OwnBools w base v l) : BoolsV w w.heap.size v l := by
  obtain ⟨h1, h2⟩ := h
  rcases h2 with ⟨rfl, hn⟩ | ⟨g, cap, cur, rfl, _, hg, hnc, hcm, _, htake⟩
  · exact ⟨none, 0, by rw [hn], by omega, by unfold maxLen; omega, fun hp => by omega⟩
  · refine ⟨_, cap, rfl, hnc, hcm, fun _ => ⟨g, 0, (Array.getElem?_eq_some_iff.1 hg).1, rfl, fun i x hx => ?_⟩⟩
    show w.cell? _ = _
    rw [show 0 + i * 1 = i from by omega, cell_of_row w g i cur _ (0, 0) hg]
    have : cur.toList.take (l.length * 1) = l.map Value.bool := htake
    have hi : i < l.length := (List.getElem?_eq_some_iff.1 hx).1
    have h3 : (cur.toList.take (l.length * 1))[i]? = some (.bool x) := by rw [this, List.getElem?_map, hx]; rfl
    rw [List.getElem?_take_of_lt (by omega)] at h3
    simpa using h3
theorem OwnBools.nil (w : World) (base : Nat) : OwnBools w base (.slice none 0 0) [] := World.ownsRow_nil w base _ _
theorem OwnBools.snoc {w : World} {base : Nat} {v : Value} {l : List Bool} {y : Bool} (h : w.ownsRow base 4 1 v (l.length + 1) (l.map Value.bool ++ [.bool y])) : OwnBools w base v (l ++ [y]) := by
  unfold OwnBools
  rw [List.length_append, List.map_append]
  exact h
theorem info_bool' : (Tryd.prog.info? 4).map (fun i => (i.zero, i.size, i.bytes)) = some (some (.bool false), 1, 1) := by kernel_rfl
end Go.Proofs.YtpeoodkepjhhiaaDoor
namespace Go.Proofs.YtpeoodkepjhhiaaDoor
open Go Go.RowKit
/-- A call of f enters f's text. -/
def Ent (f : FuncId) : Prop := ∀ args w, (callFunc f args).run Tryd.prog w = .ok (.enter f args) w
theorem ent_of {f : FuncId} {fn : Func} {c : Code} (hf : Tryd.prog.funcs[f]? = some fn) (hname : (fn.name == "runtime.NumGoroutine") = false) (hb : fn.body = some c) : Ent f := fun args w => by
  have h1 : fn.name ≠ "runtime.NumGoroutine" := by simpa using hname
  simp [callFunc, hf, h1, hb]
section
variable {ρ : Operand → Value} {d : Option Tmp} {x y z : Operand} {t : TypeId} {pos : String} {aft : Array Edge} {gd : Option (Nat × Bool)} {w : World}
theorem ex_move {v : Value} (hx : ρ x = v) : (execOp ρ ⟨d, .move x, t, pos, aft, gd⟩).run Tryd.prog w = .ok (.value v) w := by
  simp [go_sem, hx]
theorem ex_assign {v : Value} (hx : ρ x = v) : (execOp ρ ⟨d, .assign x, t, pos, aft, gd⟩).run Tryd.prog w = .ok (.value v) w := by
  simp [go_sem, hx]
theorem ex_int {p : Addr} {v : Int} (hx : ρ x = .pointer (some p)) (h : w.cell? p = some (.int .i64 v)) : (execOp ρ ⟨d, .load 3 x, t, pos, aft, gd⟩).run Tryd.prog w = .ok (.value (.int .i64 v)) w := by
  simp [go_sem, hx, h]
theorem ex_bool {p : Addr} {v : Bool} (hx : ρ x = .pointer (some p)) (h : w.cell? p = some (.bool v)) : (execOp ρ ⟨d, .load 4 x, t, pos, aft, gd⟩).run Tryd.prog w = .ok (.value (.bool v)) w := by
  simp [go_sem, hx, h]
theorem ex_ints {p : Addr} {v : Value} (hx : ρ x = .pointer (some p)) (h : w.cell? p = some v) : (execOp ρ ⟨d, .load 36 x, t, pos, aft, gd⟩).run Tryd.prog w = .ok (.value v) w := by
  simp [go_sem, hx, h]
theorem ex_index {g o n c : Nat} {i : Int} (hx : ρ x = .slice (some ⟨g, o, none⟩) n c) (hy : ρ y = .int .i64 i) (h0 : 0 ≤ i) (h1 : i < n) : (execOp ρ ⟨d, .indexAddr 36 x y, t, pos, aft, gd⟩).run Tryd.prog w = .ok (.value (.pointer (some ⟨g, o + i.toNat, none⟩))) w := by
  simp [go_sem, hx, hy, h0, h1]
theorem ex_index0 {g n c : Nat} {i : Nat} (hx : ρ x = .slice (some ⟨g, 0, none⟩) n c) (hy : ρ y = .int .i64 (i : Int)) (h1 : i < n) : (execOp ρ ⟨d, .indexAddr 36 x y, t, pos, aft, gd⟩).run Tryd.prog w = .ok (.value (.pointer (some ⟨g, i, none⟩))) w := by
  rw [ex_index hx hy (by omega) (by omega)]; simp
theorem ex_neg {v : Int} (hx : ρ x = .int .i64 v) (h : IntKind.i64.wrap (-v) = -v) : (execOp ρ ⟨d, .unOp .neg 3 x, t, pos, aft, gd⟩).run Tryd.prog w = .ok (.value (.int .i64 (-v))) w := by
  simp [go_sem, hx, h]
theorem ex_not {b : Bool} (hx : ρ x = .bool b) : (execOp ρ ⟨d, .unOp .not 4 x, t, pos, aft, gd⟩).run Tryd.prog w = .ok (.value (.bool (!b))) w := by
  simp [go_sem, hx]
theorem ex_eqb {b b' : Bool} (hx : ρ x = .bool b) (hy : ρ y = .bool b') : (execOp ρ ⟨d, .binOp .eql 4 x y 4, t, pos, aft, gd⟩).run Tryd.prog w = .ok (.value (.bool (b == b'))) w := by
  simp [go_sem, hx, hy]
theorem ex_neb {b b' : Bool} (hx : ρ x = .bool b) (hy : ρ y = .bool b') : (execOp ρ ⟨d, .binOp .neq 4 x y 4, t, pos, aft, gd⟩).run Tryd.prog w = .ok (.value (.bool (b != b'))) w := by
  cases b <;> cases b' <;> simp [go_sem, hx, hy]
theorem ex_extract {vs : Array Value} {v : Value} {i : Nat} (hx : ρ x = .tuple vs) (hi : vs[i]? = some v) : (execOp ρ ⟨d, .extract x i, t, pos, aft, gd⟩).run Tryd.prog w = .ok (.value v) w := by
  simp [go_sem, hx, hi]
theorem ex_build1 {v0 : Int} (hx : ρ x = .int .i64 v0) : (execOp ρ ⟨d, .buildSlice 36 1 #[(0, x)], t, pos, aft, gd⟩).run Tryd.prog w = .ok (.value (.slice (some ⟨w.heap.size, 0, none⟩) 1 1)) (w.alloc (.cells (intCells [v0]) 3)) := by
  simp [go_sem, hx, intCells]
theorem ex_build2 {v0 v1 : Int} (hx : ρ x = .int .i64 v0) (hy : ρ y = .int .i64 v1) : (execOp ρ ⟨d, .buildSlice 36 2 #[(0, x), (1, y)], t, pos, aft, gd⟩).run Tryd.prog w = .ok (.value (.slice (some ⟨w.heap.size, 0, none⟩) 2 2)) (w.alloc (.cells (intCells [v0, v1]) 3)) := by
  simp [go_sem, hx, hy, intCells]
theorem ex_build3 {v0 v1 v2 : Int} (hx : ρ x = .int .i64 v0) (hy : ρ y = .int .i64 v1) (hz : ρ z = .int .i64 v2) : (execOp ρ ⟨d, .buildSlice 36 3 #[(0, x), (1, y), (2, z)], t, pos, aft, gd⟩).run Tryd.prog w = .ok (.value (.slice (some ⟨w.heap.size, 0, none⟩) 3 3)) (w.alloc (.cells (intCells [v0, v1, v2]) 3)) := by
  simp [go_sem, hx, hy, hz, intCells]
theorem ex_call {f : FuncId} {xs : Array Operand} {ts : Array TypeId} {args : Array Value} (he : Ent f) (hf : ρ (.func f) = .func (.func f) #[] #[]) (h : xs.map ρ = args) : (execOp ρ ⟨d, .call ⟨.value (.func f), xs, ts⟩, t, pos, aft, gd⟩).run Tryd.prog w = .ok (.enter f args) w := by
  subst h
  simp [go_sem, hf, he _ _]
end
section
variable {ops : Array Oper} {Q : Exit → Act → World → Prop} {S : World → Prop} {i : Nat} {r : List (Nat × Nat)} {a : Act} {w w' : World} {d : Option Tmp} {op : Op} {t : TypeId} {pos : String} {aft : Array Edge} {v : Value}
/-- An operation that may make memory, and yields. -/
theorem t2_val (ho : ops[i]? = some ⟨d, op, t, pos, aft, none⟩) (hr : (execOp a.eval ⟨d, op, t, pos, aft, none⟩).run Tryd.prog w = .ok (.value v) w') (hS : S w') (h : wpT Tryd.prog ops Q S r (a.put d v) w') : wpT Tryd.prog ops Q S ((i, 2) :: r) a w :=
  t2 ho (fun K hK => by
    rw [if_pos (by simp [Region.wanted])]
    unfold Oper.wp
    rw [hr]
    exact hK.out _ _ hS (fun _ => h))
theorem t2_calls {f : FuncId} {xs : Array Operand} {ts : Array TypeId} {args : Array Value} (ho : ops[i]? = some ⟨d, .call ⟨.value (.func f), xs, ts⟩, t, pos, aft, none⟩) (he : Ent f) (hargs : xs.map a.eval = args)
    (h : Calls Tryd.prog f args w fun e w' => ∃ v, e = .returned v ∧ S w' ∧ wpT Tryd.prog ops Q S r (a.put d v) w') : wpT Tryd.prog ops Q S ((i, 2) :: r) a w :=
  t2 ho (fun K hK => by
    rw [if_pos (by simp [Region.wanted])]
    unfold Oper.wp
    rw [ex_call he rfl hargs]
    refine h.mono ?_
    rintro e w' ⟨v, rfl, hS, hh⟩
    exact hK.out _ _ hS (fun _ => hh))
theorem t2_call2 {f : FuncId} {x y : Operand} {u v : Value} {ts : Array TypeId} (ho : ops[i]? = some ⟨d, .call ⟨.value (.func f), #[x, y], ts⟩, t, pos, aft, none⟩) (he : Ent f) (hx : a.eval x = u) (hy : a.eval y = v)
    (h : Calls Tryd.prog f #[u, v] w fun e w' => ∃ v, e = .returned v ∧ S w' ∧ wpT Tryd.prog ops Q S r (a.put d v) w') : wpT Tryd.prog ops Q S ((i, 2) :: r) a w := t2_calls ho he (by simp [hx, hy]) h
theorem t2_call3 {f : FuncId} {x y z : Operand} {u v p : Value} {ts : Array TypeId} (ho : ops[i]? = some ⟨d, .call ⟨.value (.func f), #[x, y, z], ts⟩, t, pos, aft, none⟩) (he : Ent f) (hx : a.eval x = u) (hy : a.eval y = v) (hz : a.eval z = p)
    (h : Calls Tryd.prog f #[u, v, p] w fun e w' => ∃ v, e = .returned v ∧ S w' ∧ wpT Tryd.prog ops Q S r (a.put d v) w') : wpT Tryd.prog ops Q S ((i, 2) :: r) a w := t2_calls ho he (by simp [hx, hy, hz]) h
theorem t2_call4 {f : FuncId} {x y z x4 : Operand} {u v p p4 : Value} {ts : Array TypeId} (ho : ops[i]? = some ⟨d, .call ⟨.value (.func f), #[x, y, z, x4], ts⟩, t, pos, aft, none⟩) (he : Ent f) (hx : a.eval x = u) (hy : a.eval y = v) (hz : a.eval z = p) (h4 : a.eval x4 = p4)
    (h : Calls Tryd.prog f #[u, v, p, p4] w fun e w' => ∃ v, e = .returned v ∧ S w' ∧ wpT Tryd.prog ops Q S r (a.put d v) w') : wpT Tryd.prog ops Q S ((i, 2) :: r) a w := t2_calls ho he (by simp [hx, hy, hz, h4]) h
/-- A store, or what comes behind it. -/
theorem t3_skip (ho : ops[i]? = some ⟨none, op, t, pos, aft, none⟩) (hr : (execOp a.eval ⟨none, op, t, pos, aft, none⟩).run Tryd.prog w = .ok .skip w') (h : wpT Tryd.prog ops Q S r a w') : wpT Tryd.prog ops Q S ((i, 3) :: r) a w :=
  t3 ho (fun K hK => by
    rw [if_pos (by simp [Region.wanted])]
    unfold Oper.wp
    rw [hr]
    exact hK.out _ _ h)
theorem t3_val (ho : ops[i]? = some ⟨d, op, t, pos, aft, none⟩) (hr : (execOp a.eval ⟨d, op, t, pos, aft, none⟩).run Tryd.prog w = .ok (.value v) w') (h : wpT Tryd.prog ops Q S r (a.put d v) w') : wpT Tryd.prog ops Q S ((i, 3) :: r) a w :=
  t3 ho (fun K hK => by
    rw [if_pos (by simp [Region.wanted])]
    unfold Oper.wp
    rw [hr]
    exact hK.out _ _ h)
end
end Go.Proofs.YtpeoodkepjhhiaaDoor

namespace Go.Proofs.YtpeoodkepjhhiaaDoor
open Go Go.RowKit
section
variable {ρ : Operand → Value} {d : Option Tmp} {x y z : Operand} {t : TypeId} {pos : String} {aft : Array Edge} {gd : Option (Nat × Bool)} {w : World}
theorem ex_set {g o : Nat} {v0 v1 : Value} (hx : ρ x = .pointer (some ⟨g, o, none⟩)) (h0 : w.cell? ⟨g, o, none⟩ = some v0) (h1 : w.cell? ⟨g, o + 1, none⟩ = some v1) : (execOp ρ ⟨d, .load 57 x, t, pos, aft, gd⟩).run Tryd.prog w = .ok (.value (.agg #[v0, v1])) w := by
  simp [go_sem, hx, h0, h1]
theorem ex_sidx {g o n c i : Nat} (hx : ρ x = .slice (some ⟨g, o, none⟩) n c) (hy : ρ y = .int .i64 (i : Int)) (h1 : i < n) : (execOp ρ ⟨d, .indexAddr 53 x y, t, pos, aft, gd⟩).run Tryd.prog w = .ok (.value (.pointer (some ⟨g, o + i * 2, none⟩))) w := by
  simp [go_sem, hx, hy, h1]
theorem ex_pick {b : Bool} {u v : Value} (hx : ρ x = .bool b) (hy : ρ y = u) (hz : ρ z = v) : (execOp ρ ⟨d, .pick x y z, t, pos, aft, gd⟩).run Tryd.prog w = .ok (.value (if b then u else v)) w := by
  cases b <;> simp [go_sem, hx, hy, hz]
theorem ex_pick1 {u : Value} (hx : ρ x = .bool true) (hy : ρ y = u) : (execOp ρ ⟨d, .pick x y z, t, pos, aft, gd⟩).run Tryd.prog w = .ok (.value u) w := by
  simp [go_sem, hx, hy]
theorem ex_pick0 {v : Value} (hx : ρ x = .bool false) (hz : ρ z = v) : (execOp ρ ⟨d, .pick x y z, t, pos, aft, gd⟩).run Tryd.prog w = .ok (.value v) w := by
  simp [go_sem, hx, hz]
theorem ex_nesame {p q : Int} (hx : ρ x = .agg #[.int .u64 p, .int .u64 q]) (hy : ρ y = .agg #[.int .u64 p, .int .u64 q]) (hr : ∀ W, (Op.equalIn 10000 57 (.agg #[.int .u64 p, .int .u64 q]) (.agg #[.int .u64 p, .int .u64 q])).run Tryd.prog W = .ok true W) : (execOp ρ ⟨d, .binOp .neq 57 x y 57, t, pos, aft, gd⟩).run Tryd.prog w = .ok (.value (.bool false)) w := by
  simp [go_sem, hx, hy, hr]
end
section
variable {ops : Array Oper} {C : World → Prop} {Q : Act → Prop} {a : Act} {o : Oper} {rest : List Oper} {d : Option Tmp} {t : TypeId} {pos : String} {aft : Array Edge} {gd : Option (Nat × Bool)} {v : Value}
theorem qs_val (hw : Region.wanted o (yielded ops a.tmps) = true) (h : ∀ W, C W → (execOp a.eval o).run Tryd.prog W = .ok (.value v) W) (hr : wpQuiet Tryd.prog ops C Q rest (a.put o.dst v)) : wpQuiet Tryd.prog ops C Q (o :: rest) a :=
  q_step v hw (fun W hW => by unfold Oper.quietAt; rw [h W hW]; exact ⟨rfl, rfl⟩) hr
theorem qs_calls {f : FuncId} {xs : Array Operand} {ts : Array TypeId} {args : Array Value} (hw : Region.wanted ⟨d, .call ⟨.value (.func f), xs, ts⟩, t, pos, aft, gd⟩ (yielded ops a.tmps) = true) (he : Ent f) (hargs : xs.map a.eval = args)
    (h : ∀ W, C W → Calls Tryd.prog f args W fun e w' => e = .returned v ∧ C w') (hr : wpQuiet Tryd.prog ops C Q rest (a.put d v)) : wpQuiet Tryd.prog ops C Q (⟨d, .call ⟨.value (.func f), xs, ts⟩, t, pos, aft, gd⟩ :: rest) a :=
  q_step v hw (fun W hW => by unfold Oper.quietAt; rw [ex_call he rfl hargs]; exact ⟨rfl, h W hW⟩) hr
theorem qs_call1 {f : FuncId} {x : Operand} {u : Value} {ts : Array TypeId} (hw : Region.wanted ⟨d, .call ⟨.value (.func f), #[x], ts⟩, t, pos, aft, gd⟩ (yielded ops a.tmps) = true) (he : Ent f) (hx : a.eval x = u)
    (h : ∀ W, C W → Calls Tryd.prog f #[u] W fun e w' => e = .returned v ∧ C w') (hr : wpQuiet Tryd.prog ops C Q rest (a.put d v)) : wpQuiet Tryd.prog ops C Q (⟨d, .call ⟨.value (.func f), #[x], ts⟩, t, pos, aft, gd⟩ :: rest) a := qs_calls hw he (by simp [hx]) h hr
theorem qs_call2 {f : FuncId} {x y : Operand} {u p : Value} {ts : Array TypeId} (hw : Region.wanted ⟨d, .call ⟨.value (.func f), #[x, y], ts⟩, t, pos, aft, gd⟩ (yielded ops a.tmps) = true) (he : Ent f) (hx : a.eval x = u) (hy : a.eval y = p)
    (h : ∀ W, C W → Calls Tryd.prog f #[u, p] W fun e w' => e = .returned v ∧ C w') (hr : wpQuiet Tryd.prog ops C Q rest (a.put d v)) : wpQuiet Tryd.prog ops C Q (⟨d, .call ⟨.value (.func f), #[x, y], ts⟩, t, pos, aft, gd⟩ :: rest) a := qs_calls hw he (by simp [hx, hy]) h hr
end
end Go.Proofs.YtpeoodkepjhhiaaDoor

namespace Go.Proofs.YtpeoodkepjhhiaaDoor
open Go Go.RowKit
section
variable {P : Program} {ops : Array Oper} {Q : Exit → Act → World → Prop} {S : World → Prop} {r : List (Nat × Nat)} {rest : List Oper} {n : Nat} {m : List (Nat × Value)} {w w' : World} {i d : Nat} {op : Op} {t T : TypeId} {pos : String} {aft : Array Edge} {gd : Option (Nat × Bool)} {v : Value} {cs : Array Value}
/-- A new block; its number is named. -/
theorem wl_new (hr : ∀ ρ, Reads m ρ → (execOp ρ ⟨some d, op, t, pos, aft, gd⟩).run P w = .ok (.value (.pointer (some ⟨w.heap.size, 0, none⟩))) (w.alloc (.cells cs T))) (hg : wantedM ops m gd = some true) (hd : Nat.blt d n = true)
    (h : ∀ g w', Below w.heap.size w w' → Blk w' g T cs → w.heap.size = g → w'.heap.size = g + 1 → wl P ops Q rest n ((d, .pointer (some ⟨g, 0, none⟩)) :: m) w') :
    wl P ops Q (⟨some d, op, t, pos, aft, gd⟩ :: rest) n m w :=
  wl_val hr hg hd (h _ _ ((Below.refl _ _).alloc (Nat.le_refl _) _) (Blk.new _ _ _) rfl (by simp))
theorem wl_newslice {k c : Nat} (hr : ∀ ρ, Reads m ρ → (execOp ρ ⟨some d, op, t, pos, aft, gd⟩).run P w = .ok (.value (.slice (some ⟨w.heap.size, 0, none⟩) k c)) (w.alloc (.cells cs T))) (hg : wantedM ops m gd = some true) (hd : Nat.blt d n = true)
    (h : ∀ g w', Below w.heap.size w w' → Blk w' g T cs → w.heap.size = g → w'.heap.size = g + 1 → wl P ops Q rest n ((d, .slice (some ⟨g, 0, none⟩) k c) :: m) w') :
    wl P ops Q (⟨some d, op, t, pos, aft, gd⟩ :: rest) n m w :=
  wl_val hr hg hd (h _ _ ((Below.refl _ _).alloc (Nat.le_refl _) _) (Blk.new _ _ _) rfl (by simp))
theorem xw_then {K : Act → World → Prop} (h : xw (fun _ a w => K a w) .normal n m w) : xw (Exit.then K Q) .normal n m w := h
end
section
variable {ρ : Operand → Value} {d : Option Tmp} {x y z : Operand} {t : TypeId} {pos : String} {aft : Array Edge} {gd : Option (Nat × Bool)} {w : World}
theorem ex_boxSet {v0 v1 : Value} (hx : ρ x = .agg #[v0, v1]) : (execOp ρ ⟨d, .box 57 x, t, pos, aft, gd⟩).run Tryd.prog w = .ok (.value (.pointer (some ⟨w.heap.size, 0, none⟩))) (w.alloc (.cells #[v0, v1] 57)) := by
  simp [go_sem, hx]
theorem ex_allocSet : (execOp ρ ⟨d, .alloc 57, t, pos, aft, gd⟩).run Tryd.prog w = .ok (.value (.pointer (some ⟨w.heap.size, 0, none⟩))) (w.alloc (.cells #[.int .u64 0, .int .u64 0] 57)) := by
  simp [go_sem]
theorem ex_lenI {A : Option Addr} {k c : Nat} (hx : ρ x = .slice A k c) : (execOp ρ ⟨d, .call ⟨.builtin .len, #[x], #[36]⟩, t, pos, aft, gd⟩).run Tryd.prog w = .ok (.value (.int .i64 (k : Int))) w := by
  simp [go_sem, hx]
theorem ex_lenR {A : Option Addr} {k c : Nat} (hx : ρ x = .slice A k c) : (execOp ρ ⟨d, .call ⟨.builtin .len, #[x], #[63]⟩, t, pos, aft, gd⟩).run Tryd.prog w = .ok (.value (.int .i64 (k : Int))) w := by
  simp [go_sem, hx]
theorem ex_lenS {A : Option Addr} {k c : Nat} (hx : ρ x = .slice A k c) : (execOp ρ ⟨d, .call ⟨.builtin .len, #[x], #[53]⟩, t, pos, aft, gd⟩).run Tryd.prog w = .ok (.value (.int .i64 (k : Int))) w := by
  simp [go_sem, hx]
theorem ex_lenB {A : Option Addr} {k c : Nat} (hx : ρ x = .slice A k c) : (execOp ρ ⟨d, .call ⟨.builtin .len, #[x], #[71]⟩, t, pos, aft, gd⟩).run Tryd.prog w = .ok (.value (.int .i64 (k : Int))) w := by
  simp [go_sem, hx]
theorem ex_add {u v : Int} (hx : ρ x = .int .i64 u) (hy : ρ y = .int .i64 v) (h : IntKind.i64.wrap (u + v) = u + v) : (execOp ρ ⟨d, .binOp .add 3 x y 3, t, pos, aft, gd⟩).run Tryd.prog w = .ok (.value (.int .i64 (u + v))) w := by
  simp [go_sem, hx, hy, h]
theorem ex_sub {u v : Int} (hx : ρ x = .int .i64 u) (hy : ρ y = .int .i64 v) (h : IntKind.i64.wrap (u - v) = u - v) : (execOp ρ ⟨d, .binOp .sub 3 x y 3, t, pos, aft, gd⟩).run Tryd.prog w = .ok (.value (.int .i64 (u - v))) w := by
  simp [go_sem, hx, hy, h]
theorem ex_mul {u v : Int} (hx : ρ x = .int .i64 u) (hy : ρ y = .int .i64 v) (h : IntKind.i64.wrap (u * v) = u * v) : (execOp ρ ⟨d, .binOp .mul 3 x y 3, t, pos, aft, gd⟩).run Tryd.prog w = .ok (.value (.int .i64 (u * v))) w := by
  simp [go_sem, hx, hy, h]
theorem wrap_in {u : Int} (h0 : -9223372036854775808 ≤ u) (h1 : u ≤ 9223372036854775807) : IntKind.i64.wrap u = u := by rw [IntKind.wrap_i64]; omega
theorem ex_inc {k : Nat} (hx : ρ x = .int .i64 (k : Int)) (hy : ρ y = .int .i64 1) (h : k < 4611686018427387904) : (execOp ρ ⟨d, .binOp .add 3 x y 3, t, pos, aft, gd⟩).run Tryd.prog w = .ok (.value (.int .i64 ((k + 1 : Nat) : Int))) w := by
  rw [ex_add hx hy (wrap_in (by omega) (by omega))]; rfl
theorem ex_lss1 {u v : Int} (hx : ρ x = .int .i64 u) (hy : ρ y = .int .i64 v) (h : u < v) : (execOp ρ ⟨d, .binOp .lss 3 x y 3, t, pos, aft, gd⟩).run Tryd.prog w = .ok (.value (.bool true)) w := by
  simp [go_sem, hx, hy, h]
theorem ex_lss0 {u v : Int} (hx : ρ x = .int .i64 u) (hy : ρ y = .int .i64 v) (h : v ≤ u) : (execOp ρ ⟨d, .binOp .lss 3 x y 3, t, pos, aft, gd⟩).run Tryd.prog w = .ok (.value (.bool false)) w := by
  have h' : ¬ u < v := by omega
  simp [go_sem, hx, hy, h']
theorem ex_gtr1 {u v : Int} (hx : ρ x = .int .i64 u) (hy : ρ y = .int .i64 v) (h : v < u) : (execOp ρ ⟨d, .binOp .gtr 3 x y 3, t, pos, aft, gd⟩).run Tryd.prog w = .ok (.value (.bool true)) w := by
  simp [go_sem, hx, hy, h]
theorem ex_gtr0 {u v : Int} (hx : ρ x = .int .i64 u) (hy : ρ y = .int .i64 v) (h : u ≤ v) : (execOp ρ ⟨d, .binOp .gtr 3 x y 3, t, pos, aft, gd⟩).run Tryd.prog w = .ok (.value (.bool false)) w := by
  have h' : ¬ v < u := by omega
  simp [go_sem, hx, hy, h']
theorem ex_leq1 {u v : Int} (hx : ρ x = .int .i64 u) (hy : ρ y = .int .i64 v) (h : u ≤ v) : (execOp ρ ⟨d, .binOp .leq 3 x y 3, t, pos, aft, gd⟩).run Tryd.prog w = .ok (.value (.bool true)) w := by
  simp [go_sem, hx, hy, h]
theorem ex_leq0 {u v : Int} (hx : ρ x = .int .i64 u) (hy : ρ y = .int .i64 v) (h : v < u) : (execOp ρ ⟨d, .binOp .leq 3 x y 3, t, pos, aft, gd⟩).run Tryd.prog w = .ok (.value (.bool false)) w := by
  simp [go_sem, hx, hy, h]
theorem ex_geq1 {u v : Int} (hx : ρ x = .int .i64 u) (hy : ρ y = .int .i64 v) (h : v ≤ u) : (execOp ρ ⟨d, .binOp .geq 3 x y 3, t, pos, aft, gd⟩).run Tryd.prog w = .ok (.value (.bool true)) w := by
  simp [go_sem, hx, hy, h]
theorem ex_geq0 {u v : Int} (hx : ρ x = .int .i64 u) (hy : ρ y = .int .i64 v) (h : u < v) : (execOp ρ ⟨d, .binOp .geq 3 x y 3, t, pos, aft, gd⟩).run Tryd.prog w = .ok (.value (.bool false)) w := by
  simp [go_sem, hx, hy, h]
theorem ex_eql1 {u v : Int} (hx : ρ x = .int .i64 u) (hy : ρ y = .int .i64 v) (h : u = v) : (execOp ρ ⟨d, .binOp .eql 3 x y 3, t, pos, aft, gd⟩).run Tryd.prog w = .ok (.value (.bool true)) w := by
  subst h
  simp [go_sem, hx, hy]
theorem ex_eql0 {u v : Int} (hx : ρ x = .int .i64 u) (hy : ρ y = .int .i64 v) (h : u ≠ v) : (execOp ρ ⟨d, .binOp .eql 3 x y 3, t, pos, aft, gd⟩).run Tryd.prog w = .ok (.value (.bool false)) w := by
  simp [go_sem, hx, hy, h]
theorem ex_neq1 {u v : Int} (hx : ρ x = .int .i64 u) (hy : ρ y = .int .i64 v) (h : u ≠ v) : (execOp ρ ⟨d, .binOp .neq 3 x y 3, t, pos, aft, gd⟩).run Tryd.prog w = .ok (.value (.bool true)) w := by
  simp [go_sem, hx, hy, h]
theorem ex_neq0 {u v : Int} (hx : ρ x = .int .i64 u) (hy : ρ y = .int .i64 v) (h : u = v) : (execOp ρ ⟨d, .binOp .neq 3 x y 3, t, pos, aft, gd⟩).run Tryd.prog w = .ok (.value (.bool false)) w := by
  subst h
  simp [go_sem, hx, hy]
end
end Go.Proofs.YtpeoodkepjhhiaaDoor

namespace Go.Proofs.YtpeoodkepjhhiaaDoor
open Go Go.RowKit
section
variable {ops : Array Oper} {Q : Exit → Act → World → Prop} {S : World → Prop} {r : List (Nat × Nat)} {rest : List Oper} {n : Nat} {m : List (Nat × Value)} {w : World} {i d : Nat} {t : TypeId} {pos : String} {aft : Array Edge} {gd : Option (Nat × Bool)}
/-- 'append(v, y)' where y's one cell lies in block g. -/
theorem run_append_int {v : Value} {l : List Int} {y : Int} {g base : Nat} (ty : TypeId) (hown : OwnInts w base v l) (hk : Blk w g 3 #[.int .i64 y]) (hlen : l.length ≤ 1099511627776) (hbase : base ≤ w.heap.size) :
    ∃ A c w', (Builtin.append_ #[36, 36] ty #[v, .slice (some ⟨g, 0, none⟩) 1 1]).run Tryd.prog w = .ok (.slice A (l.length + 1) c) w' ∧ OwnInts w' base (.slice A (l.length + 1) c) (l ++ [y]) ∧ w.grownBy w' v.ownBlock ∧ ((Value.slice A (l.length + 1) c).ownBlock = v.ownBlock ∨ (Value.slice A (l.length + 1) c).ownBlock = some w.heap.size) := by
  obtain ⟨i, hi, hz, hsz, hb⟩ := info_parts info_int
  obtain ⟨v', w', hrun, h2, h3, _, h5⟩ := run_append_own_at (P := Tryd.prog) (w := w) base 36 ty 3 i _ 1 8 Tryd.underlying36 hi hz hsz hb rfl (by decide) v _ _ hown ⟨g, 0, none⟩ 1 1 [.int .i64 y] rfl
    (fun j u hu => by
      have hadd : (⟨g, 0, none⟩ : Addr).add j = ⟨g, j, none⟩ := by unfold Addr.add; split <;> simp_all
      rw [hadd, hk.cell j]
      simpa using hu)
    (by intro u hu; simp at hu; subst hu; rfl) (by unfold maxLen; omega) (by omega) hbase
  obtain ⟨A, c, rfl⟩ := own_form h2
  exact ⟨A, c, w', hrun, OwnInts.cast h2, h3, h5⟩
theorem exec_append_int {ρ : Operand → Value} {d : Option Tmp} {x y : Operand} {v u : Value} {w' : World} {V : Value} (hx : ρ x = v) (hy : ρ y = u) (h : (Builtin.append_ #[36, 36] t #[v, u]).run Tryd.prog w = .ok V w') :
    (execOp ρ ⟨d, .call ⟨.builtin .append, #[x, y], #[36, 36]⟩, t, pos, aft, gd⟩).run Tryd.prog w = .ok (.value V) w' := by
  unfold execOp
  simp only [resolve, invoke, builtin, Sem.run_bind, Sem.run_pure, Result.andThen_ok, List.map_toArray, List.map_cons, List.map_nil, hx, hy, h]
theorem wl_append {x y : Operand} {v : Value} {l : List Int} {yv : Int} {g base : Nat} (hx : ev m x = some v) (hy : ev m y = some (.slice (some ⟨g, 0, none⟩) 1 1)) (hg : wantedM ops m gd = some true) (hd : Nat.blt d n = true) (hown : OwnInts w base v l) (hk : Blk w g 3 #[.int .i64 yv]) (hlen : l.length ≤ 1099511627776) (hbase : base ≤ w.heap.size)
    (h : ∀ A c w', OwnInts w' base (.slice A (l.length + 1) c) (l ++ [yv]) → w.grownBy w' v.ownBlock → ((Value.slice A (l.length + 1) c).ownBlock = v.ownBlock ∨ (Value.slice A (l.length + 1) c).ownBlock = some w.heap.size) → wl Tryd.prog ops Q rest n ((d, .slice A (l.length + 1) c) :: m) w') :
    wl Tryd.prog ops Q (⟨some d, .call ⟨.builtin .append, #[x, y], #[36, 36]⟩, t, pos, aft, gd⟩ :: rest) n m w := by
  obtain ⟨A, c, w', h1, h2, h3, h4⟩ := run_append_int t hown hk hlen hbase
  exact wl_val (fun ρ e => exec_append_int (e _ _ hx) (e _ _ hy) h1) hg hd (h A c w' h2 h3 h4)
theorem wt2_append {x y : Operand} {v : Value} {l : List Int} {yv : Int} {g base : Nat} (ho : ops[i]? = some ⟨some d, .call ⟨.builtin .append, #[x, y], #[36, 36]⟩, t, pos, aft, gd⟩) (hx : ev m x = some v) (hy : ev m y = some (.slice (some ⟨g, 0, none⟩) 1 1)) (hg : wantedM ops m gd = some true) (hd : Nat.blt d n = true) (hown : OwnInts w base v l) (hk : Blk w g 3 #[.int .i64 yv]) (hlen : l.length ≤ 1099511627776) (hbase : base ≤ w.heap.size)
    (h : ∀ A c w', OwnInts w' base (.slice A (l.length + 1) c) (l ++ [yv]) → w.grownBy w' v.ownBlock → ((Value.slice A (l.length + 1) c).ownBlock = v.ownBlock ∨ (Value.slice A (l.length + 1) c).ownBlock = some w.heap.size) → S w' ∧ wt Tryd.prog ops Q S r n ((d, .slice A (l.length + 1) c) :: m) w') :
    wt Tryd.prog ops Q S ((i, 2) :: r) n m w := by
  obtain ⟨A, c, w', h1, h2, h3, h4⟩ := run_append_int t hown hk hlen hbase
  obtain ⟨h5, h6⟩ := h A c w' h2 h3 h4
  exact wt2 ho (fun ρ e => exec_append_int (e _ _ hx) (e _ _ hy) h1) hg hd h5 h6
end
section
variable {ρ : Operand → Value} {d : Option Tmp} {x y : Operand} {t : TypeId} {pos : String} {aft : Array Edge} {gd : Option (Nat × Bool)} {w : World}
theorem ex_rows {p : Addr} {v : Value} (hx : ρ x = .pointer (some p)) (h : w.cell? p = some v) : (execOp ρ ⟨d, .load 63 x, t, pos, aft, gd⟩).run Tryd.prog w = .ok (.value v) w := by
  simp [go_sem, hx, h]
theorem ex_iidx {g o n c i : Nat} (hx : ρ x = .slice (some ⟨g, o, none⟩) n c) (hy : ρ y = .int .i64 (i : Int)) (h1 : i < n) : (execOp ρ ⟨d, .indexAddr 36 x y, t, pos, aft, gd⟩).run Tryd.prog w = .ok (.value (.pointer (some ⟨g, o + i, none⟩))) w := by
  simp [go_sem, hx, hy, h1]
theorem ex_ridx {g o n c i : Nat} (hx : ρ x = .slice (some ⟨g, o, none⟩) n c) (hy : ρ y = .int .i64 (i : Int)) (h1 : i < n) : (execOp ρ ⟨d, .indexAddr 63 x y, t, pos, aft, gd⟩).run Tryd.prog w = .ok (.value (.pointer (some ⟨g, o + i, none⟩))) w := by
  simp [go_sem, hx, hy, h1]
theorem ex_ridx0 {g n c i : Nat} (hx : ρ x = .slice (some ⟨g, 0, none⟩) n c) (hy : ρ y = .int .i64 (i : Int)) (h1 : i < n) : (execOp ρ ⟨d, .indexAddr 63 x y, t, pos, aft, gd⟩).run Tryd.prog w = .ok (.value (.pointer (some ⟨g, i, none⟩))) w := by
  rw [ex_ridx hx hy h1]; simp
theorem ex_storeSlice {p : Addr} {A : Option Addr} {k c : Nat} {u : Value} (hx : ρ x = .pointer (some p)) (hy : ρ y = .slice A k c) (h : w.cell? p = some u) (hf : w.frozen? p = false) : (execOp ρ ⟨d, .store 36 x y, t, pos, aft, gd⟩).run Tryd.prog w = .ok .skip (w.setCell p (.slice A k c)) := by
  simp [go_sem, hx, hy, h, hf]
theorem ex_neqE1 {u v : Int} (hx : ρ x = .int .i64 u) (hy : ρ y = .int .i64 v) (h : u ≠ v) : (execOp ρ ⟨d, .binOp .neq 27 x y 27, t, pos, aft, gd⟩).run Tryd.prog w = .ok (.value (.bool true)) w := by
  simp [go_sem, hx, hy, h]
theorem ex_neqE0 {u v : Int} (hx : ρ x = .int .i64 u) (hy : ρ y = .int .i64 v) (h : u = v) : (execOp ρ ⟨d, .binOp .neq 27 x y 27, t, pos, aft, gd⟩).run Tryd.prog w = .ok (.value (.bool false)) w := by
  subst h
  simp [go_sem, hx, hy]
theorem ex_eqlE {u v : Int} (hx : ρ x = .int .i64 u) (hy : ρ y = .int .i64 v) : (execOp ρ ⟨d, .binOp .eql 27 x y 27, t, pos, aft, gd⟩).run Tryd.prog w = .ok (.value (.bool (u == v))) w := by
  simp [go_sem, hx, hy]
end
end Go.Proofs.YtpeoodkepjhhiaaDoor
namespace Go.Proofs.YtpeoodkepjhhiaaDoor
open Go Go.RowKit

structure Frame (S : Nat → Prop) (w w' : World) : Prop where
  os : w'.os = w.os
  tape : w'.tape = w.tape
  output : w'.output = w.output
  size : w.heap.size ≤ w'.heap.size
  block : ∀ k, k < w.heap.size → ¬ S k → w'.heap[k]? = w.heap[k]?
def NoB : Nat → Prop := fun _ => False
theorem noB {k : Nat} : ¬ NoB k := id
theorem Frame.refl (S : Nat → Prop) (w : World) : Frame S w w := ⟨rfl, rfl, rfl, Nat.le_refl _, fun _ _ _ => rfl⟩
theorem Frame.trans {S T : Nat → Prop} {a b c : World} (h : Frame S a b) (k : Frame T b c) (hT : ∀ k, k < a.heap.size → T k → S k) : Frame S a c :=
  ⟨k.os.trans h.os, k.tape.trans h.tape, k.output.trans h.output, Nat.le_trans h.size k.size, fun i hi hs => (k.block i (Nat.lt_of_lt_of_le hi h.size) (fun ht => hs (hT i hi ht))).trans (h.block i hi hs)⟩
theorem Frame.mono {S T : Nat → Prop} {a b : World} (h : Frame S a b) (hT : ∀ k, k < a.heap.size → S k → T k) : Frame T a b :=
  ⟨h.os, h.tape, h.output, h.size, fun i hi hs => h.block i hi (fun ht => hs (hT i hi ht))⟩
theorem Frame.of_below {w w' : World} (h : Below w.heap.size w w') : Frame NoB w w' := ⟨h.os, h.tape, h.output, h.size, fun k hk _ => h.block k hk⟩
theorem Frame.drew (w : World) : Frame NoB w w.drew := ⟨rfl, rfl, rfl, Nat.le_refl _, fun _ _ _ => rfl⟩
theorem Frame.grown {w w' : World} {row : Option Nat} (h : w.grownBy w' row) : Frame (fun k => some k = row) w w' := ⟨h.os, h.tape, h.output, h.size, fun k hk hs => h.block k hk hs⟩
theorem Frame.put (w : World) (g i : Nat) (u : Value) : Frame (fun k => k = g) w (w.setCell ⟨g, i, none⟩ u) :=
  ⟨rfl, rfl, rfl, Nat.le_of_eq (by simp [World.setCell]), fun k _ hs => Below.heap_setCell w _ u k hs⟩
theorem Frame.alloc (w : World) (o : Obj) : Frame NoB w (w.alloc o) := ⟨rfl, rfl, rfl, by simp, fun k hk _ => Below.heap_alloc w o k hk⟩
theorem Frame.below {S : Nat → Prop} {w w' : World} {B : Nat} (h : Frame S w w') (hB : B ≤ w.heap.size) (hS : ∀ k, k < w.heap.size → S k → B ≤ k) : Below B w w' :=
  ⟨h.os, h.tape, h.output, h.size, fun k hk => h.block k (by omega) (fun hs => by have := hS k (by omega) hs; omega)⟩
theorem Blk.fr {S : Nat → Prop} {w w' : World} {g : Nat} {t : TypeId} {cs : Array Value} (h : Blk w g t cs) (hf : Frame S w w') (hg : ¬ S g) : Blk w' g t cs := (hf.block g h.lt hg).trans h

/-- Block m is a map that holds just these entries, in this order. -/
def MapB (w : World) (m : Nat) (l : List (Value × Value)) : Prop := ∃ (es : Array MapEntry) (clock : Nat), w.heap[m]? = some (.map es clock) ∧ es.toList.map (fun e => (e.key, e.val)) = l
theorem MapB.lt {w : World} {m : Nat} {l : List (Value × Value)} (h : MapB w m l) : m < w.heap.size := by
  obtain ⟨es, clock, h, _⟩ := h
  exact (Array.getElem?_eq_some_iff.1 h).1
theorem MapB.fr {S : Nat → Prop} {w w' : World} {m : Nat} {l : List (Value × Value)} (h : MapB w m l) (hf : Frame S w w') (hg : ¬ S m) : MapB w' m l := by
  have hlt := h.lt
  obtain ⟨es, clock, h, hl⟩ := h
  exact ⟨es, clock, (hf.block m hlt hg).trans h, hl⟩

/-- Where a key stands, and what is there. -/
def look {κ : Type} [DecidableEq κ] (k : κ) : List (κ × Value) → Nat → Option (Nat × Value)
  | [], _ => none
  | (a, v) :: l, i => if k = a then some (i, v) else look k l (i + 1)
def encL {κ : Type} (enc : κ → Value) (l : List (κ × Value)) : List (Value × Value) := l.map fun p => (enc p.1, p.2)
theorem findNow_enc {κ : Type} [DecidableEq κ] (enc : κ → Value) (kind : TypeDesc) (hs : ∀ a b, Instr.sameNow kind (enc a) (enc b) = some (decide (a = b))) (k : κ) :
    ∀ (l : List (κ × Value)) (es : List MapEntry) (i : Nat), es.map (fun e => (e.key, e.val)) = encL enc l → Instr.findNow kind (enc k) es i = some (look k l i)
  | [], es, i, h => by
    cases es with
    | nil => rfl
    | cons e es => cases h
  | (a, v) :: l, es, i, h => by
    cases es with
    | nil => cases h
    | cons e es =>
      simp only [List.map_cons, encL, List.cons.injEq, Prod.mk.injEq] at h
      obtain ⟨⟨h1, h2⟩, h3⟩ := h
      unfold Instr.findNow look
      rw [h1, hs]
      by_cases hk : k = a
      · simp [hk, h2]
      · simp only [hk, decide_false, if_false]
        exact findNow_enc enc kind hs k l es (i + 1) h3

/-- What entries become when a key is written. -/
def aput {κ : Type} [DecidableEq κ] (k : κ) (v : Value) : List (κ × Value) → List (κ × Value)
  | [] => [(k, v)]
  | (a, u) :: l => if k = a then (a, v) :: l else (a, u) :: aput k v l
structure Key {κ : Type} [DecidableEq κ] (enc : κ → Value) (kind : TypeDesc) : Prop where
  same : ∀ a b, Instr.sameNow kind (enc a) (enc b) = some (decide (a = b))
  isKey : ∀ a, MapKept.IsKey kind (enc a)
section
variable {P : Program} {κ : Type} [DecidableEq κ] {enc : κ → Value} {kind : TypeDesc} {t kt e : TypeId} {w : World} {m : Nat} {l : List (κ × Value)}
theorem run_look (K : Key enc kind) (ht : P.underlying t = some (.map kt e)) (hk : P.underlying kt = some kind) (h : MapB w m (encL enc l)) (k : κ) {r : Option (Nat × Value)} (hr : look k l 0 = r) {z : Value} (hz : (zeroValue e).run P w = .ok z w) (ok : Bool) :
    (Instr.lookup t (.map (some m)) (enc k) ok).run P w = .ok (if ok then .tuple #[(match r with | some (_, v) => v | none => z), .bool r.isSome] else (match r with | some (_, v) => v | none => z)) w := by
  obtain ⟨es, clock, hb, hl⟩ := h
  have h1 := findNow_enc enc kind K.same k l es.toList 0 hl
  rw [hr] at h1
  cases r with
  | none => cases ok <;> simp [Instr.lookup, run_underlying ht, MapKept.run_getObj_map hb, MapKept.run_checkKey hk (K.isKey k), MapKept.run_findKey hk h1, hz, Result.andThen]
  | some p => cases ok <;> simp [Instr.lookup, run_underlying ht, MapKept.run_getObj_map hb, MapKept.run_checkKey hk (K.isKey k), MapKept.run_findKey hk h1, Result.andThen]
theorem look_shift (k : κ) : ∀ (l : List (κ × Value)) (i : Nat) (j : Nat) (v : Value), look k l i = some (j, v) → i ≤ j ∧ ∃ a, a = k ∧ l[j - i]? = some (a, v)
  | [], _, _, _, h => by cases h
  | (a, u) :: l, i, j, v, h => by
    unfold look at h
    by_cases hk : k = a
    · rw [if_pos hk] at h
      injection h with h
      injection h with h1 h2
      subst h1; subst h2
      exact ⟨Nat.le_refl _, a, hk.symm, by simp⟩
    · rw [if_neg hk] at h
      obtain ⟨h1, b, hb, h2⟩ := look_shift k l (i + 1) j v h
      refine ⟨by omega, b, hb, ?_⟩
      rw [show j - i = (j - (i + 1)) + 1 from by omega, List.getElem?_cons_succ]
      exact h2
theorem aput_none (k : κ) (v : Value) : ∀ (l : List (κ × Value)) (i : Nat), look k l i = none → aput k v l = l ++ [(k, v)]
  | [], _, _ => rfl
  | (a, u) :: l, i, h => by
    unfold look at h
    by_cases hk : k = a
    · rw [if_pos hk] at h; cases h
    · rw [if_neg hk] at h
      unfold aput
      rw [if_neg hk, aput_none k v l (i + 1) h]; rfl
theorem aput_some (k : κ) (v : Value) : ∀ (l : List (κ × Value)) (i j : Nat) (u : Value), look k l i = some (j, u) → aput k v l = l.modify (j - i) (fun p => (p.1, v))
  | [], _, _, _, h => by cases h
  | (a, u) :: l, i, j, u', h => by
    have hh := h
    unfold look at h
    unfold aput
    by_cases hk : k = a
    · rw [if_pos hk] at h ⊢
      injection h with h
      injection h with h1 _
      subst h1
      simp
    · rw [if_neg hk] at h ⊢
      have := (look_shift k l (i + 1) j u' h).1
      rw [aput_some k v l (i + 1) j u' h, show j - i = (j - (i + 1)) + 1 from by omega, List.modify_succ_cons]
theorem run_put (K : Key enc kind) (ht : P.underlying t = some (.map kt e)) (hk : P.underlying kt = some kind) (h : MapB w m (encL enc l)) (k : κ) (v : Value) :
    ∃ w', (Instr.mapUpdate t (.map (some m)) (enc k) v).run P w = .ok () w' ∧ MapB w' m (encL enc (aput k v l)) ∧ Frame (fun j => j = m) w w' ∧ w'.heap.size = w.heap.size := by
  obtain ⟨es, clock, hb, hl⟩ := h
  have h1 := findNow_enc enc kind K.same k l es.toList 0 hl
  have fr : ∀ o, Frame (fun j => j = m) w { w with heap := w.heap.setIfInBounds m o } := fun o => ⟨rfl, rfl, rfl, by simp, fun j _ hj => (MapKept.heap_set (o' := o) hb).2 j hj⟩
  cases hr : look k l 0 with
  | none =>
    rw [hr] at h1
    refine ⟨_, by simp only [Instr.mapUpdate, Sem.run_bind, run_underlying ht, MapKept.run_getObj_map hb, MapKept.run_checkKey hk (K.isKey k), MapKept.run_findKey hk h1, MapKept.run_setObj_map _ hb, Result.andThen]; rfl, ?_, fr _, by simp⟩
    refine ⟨_, _, (MapKept.heap_set hb).1, ?_⟩
    rw [aput_none k v l 0 hr]
    simp [encL, hl]
  | some p =>
    obtain ⟨j, u⟩ := p
    rw [hr] at h1
    obtain ⟨_, a, ha, h3⟩ := look_shift k l 0 j u hr
    have hj : ∃ x, es[j]? = some x ∧ x.key = enc k := by
      have h4 : (es.toList.map fun e => (e.key, e.val))[j]? = some (enc a, u) := by rw [hl]; unfold encL; rw [List.getElem?_map]; rw [Nat.sub_zero] at h3; rw [h3]; rfl
      rw [List.getElem?_map] at h4
      cases h5 : es.toList[j]? with
      | none => rw [h5] at h4; cases h4
      | some x =>
        rw [h5] at h4
        injection h4 with h4
        injection h4 with h6 _
        exact ⟨x, by simpa using h5, by rw [h6, ha]⟩
    obtain ⟨x, hx, hxk⟩ := hj
    refine ⟨_, by simp only [Instr.mapUpdate, Sem.run_bind, run_underlying ht, MapKept.run_getObj_map hb, MapKept.run_checkKey hk (K.isKey k), MapKept.run_findKey hk h1, hx, Option.map_some, Option.getD_some, hxk, MapKept.run_keyThatStays (K.isKey k), MapKept.run_setObj_map _ hb, Result.andThen]; rfl, ?_, fr _, by simp⟩
    refine ⟨_, _, (MapKept.heap_set hb).1, ?_⟩
    rw [aput_some k v l 0 j u hr]
    have e1 : (es.modify j fun e => { e with key := enc k, val := v }).toList = es.toList.modify j fun e => { e with key := enc k, val := v } := by simp
    rw [e1]
    apply List.ext_getElem?
    intro q
    have hq : (es.toList.map fun e => (e.key, e.val))[q]? = (encL enc l)[q]? := by rw [hl]
    unfold encL at hq ⊢
    simp only [List.getElem?_map, List.getElem?_modify, Nat.sub_zero] at hq ⊢
    by_cases hqj : j = q
    · subst hqj
      rw [Nat.sub_zero] at h3
      simp [h3, hx, ha]
    · simp only [hqj, if_false]
      simpa using hq
end
end Go.Proofs.YtpeoodkepjhhiaaDoor
