/-
  Lemmas and contracts, joined: Circ Mem Sets WSets WCirc WCheck WSets2 Eval WEval WSets3 WEval2 Own Sx Own2 Ex Fr Heap Ops Fr2 Ops2 TysVt Vsh Vg Vt InsVt Vh Vleaf Vcc Vbs Vbld.
-/
import Derived.WalkKit
import Derived.WalkSpells
import Derived.WalkLawsBesides
import Derived.Handy
import Derived.Deep.LoopGhost
import Derived.Deep.Draws
import Derived.Deep.OwnRows
import Derived.Deep.AppendLies
import Derived.Deep.RegionHeld3
import Derived.Deep.RegionLaw
import Derived.Deep.RegionWith
import Derived.Deep.QuietTactic
import Derived.Deep.Cut
import Derived.Deep.CutRange
import Derived.Deep.DeepCutAuto
import Derived.Deep.DeepFit
import Derived.Deep.DeepMust
import Derived.Deep.Light
import Derived.BigQuiet
import Derived.Laws.CopyOwn
import Derived.Laws.AppendOwnNone
import Derived.Lib.Hide
import Derived.Maps.AppendAt
import Derived.Test.YtpeoodkepjhhiaaDoorProg
import Derived.Deep.RegionHeld
import Derived.Deep.RegionHeldLaw
import Derived.MapKept
import Derived.Shelf.Strings.Builder1
import Derived.Shelf.LaysM
import Derived.Shelf.Strconv.Itoa3
import Derived.Test.YtpeoodkepjhhiaaDoorRows
import Derived.Lib.ItoaLen
import Derived.Lib.MakeNoZero
import Derived.Laws.Externs
import Derived.Lib.AppendStr
namespace Go.Proofs.YtpeoodkepjhhiaaDoor

/-- A gate of a circuit, as the document has it. -/
structure Gate where
  kind : Int
  lit : Int
  inp : List Int

def allowedB (kind n : Int) : Bool :=
  if kind = 0 ∨ kind = 1 ∨ kind = 2 then n == 0 else if kind = 3 then n == 1 else if kind = 7 then n == 2 else if kind = 8 then n == 3
  else kind == 4 || kind == 5 || kind == 6
def litVar (l : Int) : Int := if 1 ≤ l ∧ l ≤ 128 then l else if -128 ≤ l ∧ l ≤ -1 then -l else 0
def litOk (l n : Int) : Bool := decide (litVar l ≠ 0 ∧ litVar l ≤ n)
def inOk (i : Int) (k : Int) : Bool := decide (0 ≤ k ∧ k < i)
def litGood (n : Int) (g : Gate) : Bool := if g.kind = 2 then litOk g.lit n else decide (g.lit = 0)
def goodGate (n i : Int) (g : Gate) : Bool := allowedB g.kind g.inp.length && litGood n g && g.inp.all (inOk i)
def sizeTo (gs : List Gate) (k : Nat) : Nat := ((gs.take k).map fun g => g.inp.length).sum
def sizeOf (gs : List Gate) : Nat := sizeTo gs gs.length
def goodAt (n : Int) (gs : List Gate) (i : Nat) : Bool := match gs[i]? with
  | some g => goodGate n i g
  | none => false
def goodTo (n : Int) (gs : List Gate) (k : Nat) : Bool := (List.range k).all (goodAt n gs)
def checkOf (n : Int) (gs : List Gate) : Int :=
  if n < 0 ∨ 128 < n then 6 else if 4096 < gs.length ∨ 65536 < sizeOf gs then 2 else if gs.length = 0 then 1 else if goodTo n gs gs.length then 0 else 1

end Go.Proofs.YtpeoodkepjhhiaaDoor
namespace Go.Proofs.YtpeoodkepjhhiaaDoor
open Go Go.RowKit

/-- The slice value v reads as the list xs; each element takes sz cells and is read by R; all of it lies below block B. -/
def SliceV {α : Type} (sz : Nat) (R : World → Addr → α → Prop) (w : World) (B : Nat) (v : Value) (xs : List α) : Prop :=
  ∃ A c, v = .slice A xs.length c ∧ xs.length ≤ c ∧ c ≤ maxLen ∧ (0 < xs.length → ∃ b o, b < B ∧ A = some ⟨b, o, none⟩ ∧ ∀ i x, xs[i]? = some x → R w ⟨b, o + i * sz, none⟩ x)

/-- A reading that hangs on cells below B alone. -/
def Stays {α : Type} (B : Nat) (R : World → Addr → α → Prop) : Prop := ∀ w w' a x, Below B w w' → a.block < B → R w a x → R w' a x

theorem SliceV.below {α : Type} {sz : Nat} {R : World → Addr → α → Prop} {w w' : World} {B : Nat} {v : Value} {xs : List α} (hR : Stays B R)
    (h : SliceV sz R w B v xs) (hb : Below B w w') : SliceV sz R w' B v xs := by
  obtain ⟨A, c, hv, h1, h2, h3⟩ := h
  refine ⟨A, c, hv, h1, h2, fun hn => ?_⟩
  obtain ⟨b, o, hB, hA, hc⟩ := h3 hn
  exact ⟨b, o, hB, hA, fun i x hx => hR _ _ _ _ hb hB (hc i x hx)⟩

def IntAt (w : World) (a : Addr) (x : Int) : Prop := w.cell? a = some (.int .i64 x)
def BoolAt (w : World) (a : Addr) (x : Bool) : Prop := w.cell? a = some (.bool x)
abbrev IntsV := SliceV 1 IntAt
abbrev BoolsV := SliceV 1 BoolAt
def RowAt (B : Nat) (w : World) (a : Addr) (xs : List Int) : Prop := ∃ v, w.cell? a = some v ∧ IntsV w B v xs
def RowsV (w : World) (B : Nat) := SliceV 1 (RowAt B) w B

theorem IntAt.stays (B : Nat) : Stays B IntAt := fun _ _ _ _ hb hB h => (hb.cell hB).trans h
theorem BoolAt.stays (B : Nat) : Stays B BoolAt := fun _ _ _ _ hb hB h => (hb.cell hB).trans h
theorem IntsV.below {w w' : World} {B : Nat} {v : Value} {xs : List Int} (h : IntsV w B v xs) (hb : Below B w w') : IntsV w' B v xs := SliceV.below (IntAt.stays B) h hb
theorem BoolsV.below {w w' : World} {B : Nat} {v : Value} {xs : List Bool} (h : BoolsV w B v xs) (hb : Below B w w') : BoolsV w' B v xs := SliceV.below (BoolAt.stays B) h hb
theorem RowAt.stays (B : Nat) : Stays B (RowAt B) := fun _ _ _ _ hb hB ⟨v, h, hv⟩ => ⟨v, (hb.cell hB).trans h, hv.below hb⟩
theorem RowsV.below {w w' : World} {B : Nat} {v : Value} {xs : List (List Int)} (h : RowsV w B v xs) (hb : Below B w w') : RowsV w' B v xs := SliceV.below (RowAt.stays B) h hb

theorem SliceV.more {α : Type} {sz : Nat} {R : World → Addr → α → Prop} {w : World} {B B' : Nat} {v : Value} {xs : List α}
    (h : SliceV sz R w B v xs) (hB : B ≤ B') : SliceV sz R w B' v xs := by
  obtain ⟨A, c, hv, h1, h2, h3⟩ := h
  refine ⟨A, c, hv, h1, h2, fun hn => ?_⟩
  obtain ⟨b, o, hb, hA, hc⟩ := h3 hn
  exact ⟨b, o, by omega, hA, hc⟩
theorem RowAt.more {B B' : Nat} (hB : B ≤ B') {w : World} {a : Addr} {xs : List Int} (h : RowAt B w a xs) : RowAt B' w a xs := by
  obtain ⟨v, h1, h2⟩ := h
  exact ⟨v, h1, SliceV.more h2 hB⟩
theorem RowsV.more {w : World} {B B' : Nat} {v : Value} {xs : List (List Int)} (h : RowsV w B v xs) (hB : B ≤ B') : RowsV w B' v xs := by
  obtain ⟨A, c, hv, h1, h2, h3⟩ := h
  refine ⟨A, c, hv, h1, h2, fun hn => ?_⟩
  obtain ⟨b, o, hb, hA, hc⟩ := h3 hn
  exact ⟨b, o, by omega, hA, fun i x hx => (hc i x hx).more hB⟩

def GateAt (B : Nat) (w : World) (a : Addr) (g : Gate) : Prop :=
  w.cell? a = some (.int .i64 g.kind) ∧ w.cell? ⟨a.block, a.off + 1, none⟩ = some (.int .i64 g.lit) ∧ ∃ v, w.cell? ⟨a.block, a.off + 2, none⟩ = some v ∧ IntsV w B v g.inp
def GatesV (w : World) (B : Nat) := SliceV 3 (GateAt B) w B
theorem GateAt.stays (B : Nat) : Stays B (GateAt B) := fun _ _ _ _ hb hB ⟨h1, h2, v, h3, h4⟩ =>
  ⟨(hb.cell hB).trans h1, (hb.cell (by exact hB)).trans h2, v, (hb.cell (by exact hB)).trans h3, h4.below hb⟩
theorem GatesV.below {w w' : World} {B : Nat} {v : Value} {xs : List Gate} (h : GatesV w B v xs) (hb : Below B w w') : GatesV w' B v xs := SliceV.below (GateAt.stays B) h hb
theorem GateAt.more {B B' : Nat} (hB : B ≤ B') {w : World} {a : Addr} {g : Gate} (h : GateAt B w a g) : GateAt B' w a g := by
  obtain ⟨h1, h2, v, h3, h4⟩ := h
  exact ⟨h1, h2, v, h3, SliceV.more h4 hB⟩
theorem GatesV.more {w : World} {B B' : Nat} {v : Value} {xs : List Gate} (h : GatesV w B v xs) (hB : B ≤ B') : GatesV w B' v xs := by
  obtain ⟨A, c, hv, h1, h2, h3⟩ := h
  refine ⟨A, c, hv, h1, h2, fun hn => ?_⟩
  obtain ⟨b, o, hb, hA, hc⟩ := h3 hn
  exact ⟨b, o, by omega, hA, fun i x hx => (hc i x hx).more hB⟩

/-- What a round needs of an element: its address and its cells, in the walk's spelling. -/
theorem IntsV.at_ {w w' : World} {B : Nat} {A : Option Addr} {n c k : Nat} {xs : List Int} (h : IntsV w B (.slice A n c) xs) (hb : Below B w w') (hk : k < xs.length) :
    ∃ b o, A = some ⟨b, o, none⟩ ∧ b < B ∧ w'.cell? ⟨b, o + k, none⟩ = some (.int .i64 xs[k]) := by
  obtain ⟨A', c', hv, _, _, h3⟩ := h
  injection hv with hA _ _
  subst hA
  obtain ⟨b, o, hB, rfl, hc⟩ := h3 (by omega)
  refine ⟨b, o, rfl, hB, (hb.cell (by exact hB)).trans ?_⟩
  simpa [IntAt, BoolAt] using hc k _ (List.getElem?_eq_getElem hk)
theorem BoolsV.at_ {w w' : World} {B : Nat} {A : Option Addr} {n c k : Nat} {xs : List Bool} (h : BoolsV w B (.slice A n c) xs) (hb : Below B w w') (hk : k < xs.length) :
    ∃ b o, A = some ⟨b, o, none⟩ ∧ b < B ∧ w'.cell? ⟨b, o + k, none⟩ = some (.bool xs[k]) := by
  obtain ⟨A', c', hv, _, _, h3⟩ := h
  injection hv with hA _ _
  subst hA
  obtain ⟨b, o, hB, rfl, hc⟩ := h3 (by omega)
  refine ⟨b, o, rfl, hB, (hb.cell (by exact hB)).trans ?_⟩
  simpa [IntAt, BoolAt] using hc k _ (List.getElem?_eq_getElem hk)
theorem RowsV.at_ {w w' : World} {B : Nat} {A : Option Addr} {n c k : Nat} {xs : List (List Int)} (h : RowsV w B (.slice A n c) xs) (hb : Below B w w') (hk : k < xs.length) :
    ∃ b o A' c', A = some ⟨b, o, none⟩ ∧ b < B ∧ w'.cell? ⟨b, o + k, none⟩ = some (.slice A' xs[k].length c') ∧ IntsV w' B (.slice A' xs[k].length c') xs[k] ∧ xs[k].length ≤ c' ∧ c' ≤ maxLen := by
  obtain ⟨A', c', hv, _, _, h3⟩ := h
  injection hv with hA _ _
  subst hA
  obtain ⟨b, o, hB, rfl, hc⟩ := h3 (by omega)
  obtain ⟨v, hcell, hI⟩ := hc k _ (List.getElem?_eq_getElem hk)
  have hI' := hI.below hb
  obtain ⟨A'', c'', rfl, h5, h6, _⟩ := hI
  refine ⟨b, o, A'', c'', rfl, hB, (hb.cell (by exact hB)).trans ?_, hI', h5, h6⟩
  simpa using hcell
theorem GatesV.at_ {w w' : World} {B : Nat} {A : Option Addr} {n c k : Nat} {xs : List Gate} (h : GatesV w B (.slice A n c) xs) (hb : Below B w w') (hk : k < xs.length) :
    ∃ b o A' c', A = some ⟨b, o, none⟩ ∧ b < B ∧ w'.cell? ⟨b, o + k * 3, none⟩ = some (.int .i64 xs[k].kind) ∧ w'.cell? ⟨b, o + k * 3 + 1, none⟩ = some (.int .i64 xs[k].lit) ∧
      w'.cell? ⟨b, o + k * 3 + 2, none⟩ = some (.slice A' xs[k].inp.length c') ∧ IntsV w' B (.slice A' xs[k].inp.length c') xs[k].inp ∧ xs[k].inp.length ≤ c' ∧ c' ≤ maxLen := by
  obtain ⟨A', c', hv, _, _, h3⟩ := h
  injection hv with hA _ _
  subst hA
  obtain ⟨b, o, hB, rfl, hc⟩ := h3 (by omega)
  obtain ⟨h1, h2, v, h4, hI⟩ := hc k _ (List.getElem?_eq_getElem hk)
  have hI' := hI.below hb
  obtain ⟨A'', c'', rfl, h5, h6, _⟩ := hI
  exact ⟨b, o, A'', c'', rfl, hB, (hb.cell (by exact hB)).trans h1, (hb.cell (by exact hB)).trans h2, (hb.cell (by exact hB)).trans h4, hI', h5, h6⟩

/-- Block g holds just the cells cs, none of them frozen. -/
def Blk (w : World) (g : Nat) (t : TypeId) (cs : Array Value) : Prop := w.heap[g]? = some (.cells cs t (0, 0))
section
variable {w w' : World} {g : Nat} {t : TypeId} {cs : Array Value}
theorem Blk.lt (h : Blk w g t cs) : g < w.heap.size := (Array.getElem?_eq_some_iff.1 h).1
theorem Blk.cell (h : Blk w g t cs) (i : Nat) : w.cell? ⟨g, i, none⟩ = cs[i]? := cell_of_row w g i cs t (0, 0) h
theorem Blk.free (h : Blk w g t cs) (i : Nat) : w.frozen? ⟨g, i, none⟩ = false := by
  unfold Blk at h
  simp [World.frozen?, h]
theorem Blk.new (w : World) (t : TypeId) (cs : Array Value) : Blk (w.alloc (.cells cs t)) w.heap.size t cs := heap_alloc_new w _
theorem Blk.alloc (h : Blk w g t cs) (o : Obj) : Blk (w.alloc o) g t cs := (Below.heap_alloc w o g h.lt).trans h
theorem Blk.drew (h : Blk w g t cs) : Blk w.drew g t cs := h
theorem Blk.put (h : Blk w g t cs) (i : Nat) (u : Value) : Blk (w.setCell ⟨g, i, none⟩ u) g t (cs.setIfInBounds i u) := by
  unfold Blk at h ⊢
  simp [World.setCell, Array.getElem?_modify, h]
theorem Blk.far (h : Blk w g t cs) {p : Addr} (hp : g ≠ p.block) (u : Value) : Blk (w.setCell p u) g t cs := (Below.heap_setCell w p u g hp).trans h
theorem Blk.below {B : Nat} (h : Blk w g t cs) (hb : Below B w w') (hg : g < B) : Blk w' g t cs := (hb.block g hg).trans h
theorem Blk.keep (h : Blk w g t cs) (hb : Below w.heap.size w w') : Blk w' g t cs := h.below hb h.lt
theorem Blk.grown {row : Option Nat} (h : Blk w g t cs) (hb : w.grownBy w' row) (hg : some g ≠ row) : Blk w' g t cs := (hb.block g h.lt hg).trans h
theorem Blk.apart {g' : Nat} {t' : TypeId} {cs' : Array Value} (h : Blk w g t cs) (h' : Blk w g' t' cs') (hne : t ≠ t') : g ≠ g' := by
  rintro rfl
  unfold Blk at h h'
  rw [h] at h'
  injection h' with h'
  injection h' with _ ht
  exact hne ht
end
/-- A contract that leaves old memory alone, met behind others of that kind: all that was there at w1 still is. -/
theorem kept {P : Program} {f : FuncId} {args : Array Value} {W w1 : World} {v : Value} (h : Calls P f args W fun e w' => e = .returned v ∧ Below W.heap.size W w') (hW : Below w1.heap.size w1 W) :
    Calls P f args W fun e w' => e = .returned v ∧ Below w1.heap.size w1 w' := h.mono fun _ _ ⟨he, hb⟩ => ⟨he, hW.trans (hb.mono hW.size)⟩
theorem Blk.later {w : World} {g : Nat} {t : TypeId} {cs : Array Value} (h : Blk w g t cs) (i : Nat) (v : Value) (hi : cs[i]? = some v) : ∀ w', Below w.heap.size w w' → w'.cell? ⟨g, i, none⟩ = some v :=
  fun _ hb => (hb.cell (p := ⟨g, i, none⟩) h.lt).trans ((h.cell i).trans hi)
/-- Block numbers: what a world below another has. -/
theorem Below.le {B : Nat} {w w' : World} (h : Below B w w') : w.heap.size ≤ w'.heap.size := h.size
end Go.Proofs.YtpeoodkepjhhiaaDoor
namespace Go.Proofs.YtpeoodkepjhhiaaDoor

structure VS where
  a : BitVec 64
  b : BitVec 64

def VS.empty : VS := ⟨0#64, 0#64⟩
def VS.has (s : VS) (v : Int) : Bool :=
  if 1 ≤ v ∧ v ≤ 64 then s.a.getLsbD (v.toNat - 1) else if 65 ≤ v ∧ v ≤ 128 then s.b.getLsbD (v.toNat - 65) else false
/-- The set of the variables for which f says yes. -/
def wordOf (f : Nat → Bool) : Nat → BitVec 64
  | 0 => 0#64
  | n + 1 => if f n then wordOf f n ||| (1#64 <<< n) else wordOf f n
def VS.of (f : Int → Bool) : VS := ⟨wordOf (fun i => f (i + 1)) 64, wordOf (fun i => f (i + 65)) 64⟩
def VS.bit (v : Int) : VS :=
  if 1 ≤ v ∧ v ≤ 64 then ⟨1#64 <<< (v.toNat - 1), 0#64⟩ else if 65 ≤ v ∧ v ≤ 128 then ⟨0#64, 1#64 <<< (v.toNat - 65)⟩ else .empty
def VS.with_ (s : VS) (v : Int) : VS := ⟨s.a ||| (VS.bit v).a, s.b ||| (VS.bit v).b⟩
def VS.cut (s t : VS) : VS := ⟨s.a &&& t.a, s.b &&& t.b⟩
def VS.union (s t : VS) : VS := ⟨s.a ||| t.a, s.b ||| t.b⟩
def VS.minus (s t : VS) : VS := ⟨s.a &&& ~~~t.a, s.b &&& ~~~t.b⟩
def VS.xor (s t : VS) : VS := ⟨s.a ^^^ t.a, s.b ^^^ t.b⟩
def VS.all (n : Int) : VS := VS.of fun v => decide (v ≤ n)
def VS.sub (s t : VS) : Bool := (s.minus t).a == 0#64 && (s.minus t).b == 0#64

/-- The variables of a set, ascending. -/
def VS.list (s : VS) (n : Nat) : List Int := ((List.range n).map fun i : Nat => (i : Int) + 1).filter s.has
/-- The set of the variables of a list. -/
def VS.ofList : List Int → VS
  | [] => .empty
  | v :: l => (VS.ofList l).with_ v
end Go.Proofs.YtpeoodkepjhhiaaDoor
namespace Go.Proofs.YtpeoodkepjhhiaaDoor
open Go Go.RowKit

end Go.Proofs.YtpeoodkepjhhiaaDoor
namespace Go.Proofs.YtpeoodkepjhhiaaDoor
open Go Go.RowKit

end Go.Proofs.YtpeoodkepjhhiaaDoor
namespace Go.Proofs.YtpeoodkepjhhiaaDoor
open Go Go.RowKit

end Go.Proofs.YtpeoodkepjhhiaaDoor
namespace Go.Proofs.YtpeoodkepjhhiaaDoor
open Go Go.RowKit

/-- The set whose variables below k are those that the list l marks. -/
def markTo (l : List Bool) (k : Nat) : VS := VS.of fun u => decide (u < k) && l.getD u.toNat false
end Go.Proofs.YtpeoodkepjhhiaaDoor
namespace Go.Proofs.YtpeoodkepjhhiaaDoor

def inVals (g : Gate) (v : List Bool) : List Bool := g.inp.map fun k => v.getD k.toNat false
def onesOf (l : List Bool) : Nat := l.countP fun b => b
def litHolds (s : VS) (l : Int) : Bool := decide (litVar l ≠ 0) && (s.has (litVar l) == decide (0 < l))
def pickVal (v : List Bool) (l : List Int) : Bool := if v.getD (l.getD 0 0).toNat false then v.getD (l.getD 1 0).toNat false else v.getD (l.getD 2 0).toNat false
def valueOf (g : Gate) (s : VS) (v : List Bool) : Bool :=
  if g.kind = 1 then true else if g.kind = 2 then litHolds s g.lit else if g.kind = 3 then decide (onesOf (inVals g v) = 0)
  else if g.kind = 4 then decide (onesOf (inVals g v) = g.inp.length) else if g.kind = 5 then decide (0 < onesOf (inVals g v))
  else if g.kind = 6 then decide (onesOf (inVals g v) % 2 = 1) else if g.kind = 7 then decide (onesOf (inVals g v) ≠ 1)
  else if g.kind = 8 then pickVal v g.inp else false
/-- The values of the first k gates. -/
def valsTo (gs : List Gate) (s : VS) : Nat → List Bool
  | 0 => []
  | k + 1 => valsTo gs s k ++ [match gs[k]? with | some g => valueOf g s (valsTo gs s k) | none => false]
def valOf (gs : List Gate) (s : VS) (i : Nat) : Bool := (valsTo gs s gs.length).getD i false
def evalOf (n : Int) (gs : List Gate) (s : VS) : Bool :=
  decide (checkOf n gs = 0) && s.sub (VS.all n) && valOf gs s (gs.length - 1)

end Go.Proofs.YtpeoodkepjhhiaaDoor
namespace Go.Proofs.YtpeoodkepjhhiaaDoor
open Go Go.RowKit

end Go.Proofs.YtpeoodkepjhhiaaDoor
namespace Go.Proofs.YtpeoodkepjhhiaaDoor
open Go Go.RowKit

def boolCells (m : List Bool) : Array Value := (m.map Value.bool).toArray
end Go.Proofs.YtpeoodkepjhhiaaDoor
namespace Go.Proofs.YtpeoodkepjhhiaaDoor
open Go Go.RowKit

def intCells (m : List Int) : Array Value := (m.map (Value.int .i64)).toArray
end Go.Proofs.YtpeoodkepjhhiaaDoor
namespace Go.Proofs.YtpeoodkepjhhiaaDoor
open Go Go.RowKit

theorem own_below {w w' : World} {base : Nat} {e : TypeId} {size : Nat} {v : Value} {n : Nat} {xs : List Value} (h : w.ownsRow base e size v n xs) (hb : Below w.heap.size w w') : w'.ownsRow base e size v n xs := by
  refine ⟨h.1, ?_⟩
  rcases h.2 with hn | ⟨g, cap, cur, rfl, hbg, hg, rest⟩
  · exact .inl hn
  · exact .inr ⟨g, cap, cur, rfl, hbg, by rw [hb.block g (Array.getElem?_eq_some_iff.1 hg).1]; exact hg, rest⟩
theorem own_form {w : World} {base : Nat} {e : TypeId} {size : Nat} {v : Value} {n : Nat} {xs : List Value} (h : w.ownsRow base e size v n xs) : ∃ A c, v = .slice A n c := by
  rcases h.2 with ⟨rfl, rfl⟩ | ⟨g, cap, cur, rfl, _⟩
  · exact ⟨none, 0, rfl⟩
  · exact ⟨_, _, rfl⟩
section
variable {P : Program}
end

def OwnInts (w : World) (base : Nat) (v : Value) (l : List Int) : Prop := w.ownsRow base 3 1 v l.length (l.map (Value.int .i64))
theorem OwnInts.V {w : World} {base : Nat} {v : Value} {l : List Int} (h : OwnInts w base v l) : IntsV w w.heap.size v l := by
  obtain ⟨h1, h2⟩ := h
  rcases h2 with ⟨rfl, hn⟩ | ⟨g, cap, cur, rfl, _, hg, hnc, hcm, _, htake⟩
  · exact ⟨none, 0, by rw [hn], by omega, by unfold maxLen; omega, fun hp => by omega⟩
  · refine ⟨_, cap, rfl, hnc, hcm, fun _ => ⟨g, 0, (Array.getElem?_eq_some_iff.1 hg).1, rfl, fun i x hx => ?_⟩⟩
    show w.cell? _ = _
    rw [show 0 + i * 1 = i from by omega, cell_of_row w g i cur _ (0, 0) hg]
    have : cur.toList.take (l.length * 1) = l.map (Value.int .i64) := htake
    have hi : i < l.length := (List.getElem?_eq_some_iff.1 hx).1
    have h3 : (cur.toList.take (l.length * 1))[i]? = some (.int .i64 x) := by rw [this, List.getElem?_map, hx]; rfl
    rw [List.getElem?_take_of_lt (by omega)] at h3
    simpa using h3
theorem OwnInts.below {w w' : World} {base : Nat} {v : Value} {l : List Int} (h : OwnInts w base v l) (hb : Below w.heap.size w w') : OwnInts w' base v l := own_below h hb
theorem OwnInts.nil (w : World) (base : Nat) : OwnInts w base (.slice none 0 0) [] := World.ownsRow_nil w base _ _
end Go.Proofs.YtpeoodkepjhhiaaDoor
namespace Go.Proofs.YtpeoodkepjhhiaaDoor
open Go
section
variable {P : Program} {ops : Array Oper} {Q : Exit → Act → World → Prop} {md : Region.Mode} {S : World → Prop} {k : Nat}

/-- Whatever comes up; as long as number k has not, S holds. -/
def AnyT (P : Program) (md : Region.Mode) (ops : Array Oper) (Q : Exit → Act → World → Prop) (S : World → Prop) (k : Nat) : Nat → Array Bool → Act → World → Prop
  | 0, listed, a, w => Region.ready md ops listed = [] ∧ Q .normal a w
  | fuel + 1, listed, a, w => (Region.ready md ops listed = [] → Q .normal a w) ∧ ∀ i ∈ Region.ready md ops listed, wpOp P ops Q i (fun a' w' => ((listed.setIfInBounds i true).getD k false = false → S w') ∧ AnyT P md ops Q S k fuel (listed.setIfInBounds i true) a' w') a w
theorem AnyT.any : ∀ (fuel : Nat) (listed : Array Bool) (a : Act) (w : World), AnyT P md ops Q S k fuel listed a w → wpAny P md ops Q fuel listed a w
  | 0, _, _, _, h => h
  | fuel + 1, _, _, _, h => ⟨h.1, fun i hi => wpOp_mono (fun a' w' h' => AnyT.any fuel _ a' w' h'.2) (h.2 i hi)⟩
/-- Number k waits for number i. -/
def waitB (md : Region.Mode) (ops : Array Oper) (k i : Nat) : Bool := match ops[k]? with | some o => o.after.toList.any (fun e => Region.binds md e && e.on == i) | none => true
theorem waitB_spec {i j : Nat} {o : Oper} (h : waitB md ops k i = true) (hj : ops[j]? = some o) (hno : ∀ e ∈ o.after, Region.binds md e = true → e.on ≠ i) : j ≠ k := by
  rintro rfl
  unfold waitB at h
  rw [hj] at h
  simp only [List.any_eq_true, Bool.and_eq_true, beq_iff_eq] at h
  obtain ⟨e, he, h2, h3⟩ := h
  exact hno e (by simpa using he) h2 h3
theorem getD_set_other {listed : Array Bool} {i : Nat} (h : i ≠ k) : (listed.setIfInBounds i true).getD k false = listed.getD k false := getD_set_ne false h
theorem getD_set_open {listed : Array Bool} {i : Nat} (h : (listed.setIfInBounds i true).getD k false = false) : listed.getD k false = false := by
  by_cases e : i = k
  · subst e
    simp only [Array.getD_eq_getD_getElem?, Array.getElem?_setIfInBounds] at h ⊢
    by_cases hi : i < listed.size
    · simp [hi] at h
    · simp [hi]
  · rwa [getD_set_other e] at h
/-- The common part: number i is taken first, where S is known of whatever world comes before it (or i looks at no world). -/
theorem AnyT.first {i : Nat} {oi : Oper} {v : Value} {S' : World → Prop} (hi : ops[i]? = some oi) (hsel : ∀ (j : Nat) (o : Oper) cs b, ops[j]? = some o → o.op ≠ .select cs b) (hQ : ∀ c a w, Q (.panic c) (a.put oi.dst v) w → Q (.panic c) a w)
    (hik : i ≠ k) :
    ∀ (fuel : Nat) (listed : Array Bool) (a : Act) (w : World), (∀ j oj, ops[j]? = some oj → j ≠ i → listed.getD j true = false → (∀ e ∈ oj.after, Region.binds md e = true → e.on ≠ i) → oi.apart ops oj = true) →
      i ∈ Region.ready md ops listed → YieldsIf P ops S' oi v a → (listed.getD k false = false → S w) → (S' = fun _ => True) ∨ (waitB md ops k i = true ∧ S' = S ∧ listed.getD k false = false) →
      AnyT P md ops Q S k fuel (listed.setIfInBounds i true) (a.put oi.dst v) w → AnyT P md ops Q S k (fuel + 1) listed a w
  | fuel, listed, a, w, hfree, hr, hy, hS, hop, H => by
    have hSw : S' w := by
      rcases hop with h | h
      · rw [h]; trivial
      · rw [h.2.1]; exact hS h.2.2
    refine ⟨fun h => (by rw [h] at hr; cases hr), fun j hj => ?_⟩
    by_cases hji : j = i
    · subst hji; exact hy.wpOp hi hSw ⟨fun ho => hS (getD_set_open ho), H⟩
    · obtain ⟨hjun, oj, hoj, hall⟩ := mem_ready.1 hj
      have hnot : ∀ e ∈ oj.after, Region.binds md e = true → e.on ≠ i := fun e he hb heq => by
        have h1 := hall e he hb
        have h0 := (mem_ready.1 hr).1
        rw [heq] at h1
        rcases Nat.lt_or_ge i listed.size with h' | h'
        · simp [h'] at h0 h1; rw [h0] at h1; cases h1
        · simp [Array.getElem?_eq_none h'] at h1
      cases fuel with
      | zero =>
        have := ready_mono hj hji
        rw [H.1] at this
        cases this
      | succ fuel =>
        have h1 := H.2 j (ready_mono hj hji)
        have h2 := wpOp_putIf hoj (hfree j oj hoj hji hjun hnot) (fun cs b => hsel i oi cs b hi) (fun cs b => hsel j oj cs b hoj) hQ hy h1
        refine wpOp_mono (fun a' w' h3 => ?_) h2
        have hcomm : (listed.setIfInBounds i true).setIfInBounds j true = (listed.setIfInBounds j true).setIfInBounds i true := Array.setIfInBounds_comm _ _ (Ne.symm hji)
        have hSj : (listed.setIfInBounds j true).getD k false = false → S w' := fun ho => h3.2.1 (by rw [hcomm, getD_set_other hik]; exact ho)
        refine ⟨hSj, AnyT.first hi hsel hQ hik fuel (listed.setIfInBounds j true) a' w' (fun n on hn hni hun hno => ?_) (ready_mono hr (Ne.symm hji)) h3.1 hSj ?_ ?_⟩
        · refine hfree n on hn hni ?_ hno
          by_cases hjn : j = n
          · subst hjn; exact hjun
          · rw [getD_set_ne true hjn] at hun; exact hun
        · rcases hop with h | h
          · exact .inl h
          · exact .inr ⟨h.1, h.2.1, by rw [getD_set_other (waitB_spec h.1 hoj hnot)]; exact h.2.2⟩
        · rw [← hcomm]
          exact h3.2.2
/-- A load, which number k waits for. -/
theorem anyT_take {i : Nat} {oi : Oper} {v : Value} {fuel : Nat} {listed : Array Bool} {a : Act} {w : World} (hi : ops[i]? = some oi) (hs : Region.noSelect ops = true) (hf : Region.free md ops listed i = true) (hr : (Region.ready md ops listed).contains i = true)
    (hw : (waitB md ops k i && !(listed.getD k false) && (i != k)) = true) (hQ : ∀ c a w, Q (.panic c) (a.put oi.dst v) w → Q (.panic c) a w) (hy : YieldsIf P ops S oi v a) (hS : S w) (h : AnyT P md ops Q S k fuel (listed.setIfInBounds i true) (a.put oi.dst v) w) : AnyT P md ops Q S k (fuel + 1) listed a w := by
  simp only [Bool.and_eq_true, Bool.not_eq_true', bne_iff_ne] at hw
  exact AnyT.first hi (Region.noSelect_spec hs) hQ hw.2 fuel listed a w (Region.free_spec hi hf) (by simpa using hr) hy (fun _ => hS) (.inr ⟨hw.1.1, rfl, hw.1.2⟩) h
/-- An operation that looks at no world. -/
theorem anyT_takeY {i : Nat} {oi : Oper} {v : Value} {fuel : Nat} {listed : Array Bool} {a : Act} {w : World} (hi : ops[i]? = some oi) (hs : Region.noSelect ops = true) (hf : Region.free md ops listed i = true) (hr : (Region.ready md ops listed).contains i = true)
    (hw : (i != k) = true) (hQ : ∀ c a w, Q (.panic c) (a.put oi.dst v) w → Q (.panic c) a w) (hy : YieldsIf P ops (fun _ => True) oi v a) (hS : listed.getD k false = false → S w) (h : AnyT P md ops Q S k fuel (listed.setIfInBounds i true) (a.put oi.dst v) w) : AnyT P md ops Q S k (fuel + 1) listed a w := by
  exact AnyT.first hi (Region.noSelect_spec hs) hQ (by simpa using hw) fuel listed a w (Region.free_spec hi hf) (by simpa using hr) hy hS (.inl rfl) h
/-- The one operation that may come up. -/
theorem anyT_one {i : Nat} {o : Oper} {fuel : Nat} {listed : Array Bool} {a : Act} {w : World} (hr : Region.ready md ops listed = [i]) (ho : ops[i]? = some o)
    (h : ∀ K' : Act → World → Prop, Shut (∀ a w, ((listed.setIfInBounds i true).getD k false = false → S w) → (((listed.setIfInBounds i true).getD k false = false → S w) → AnyT P md ops Q S k fuel (listed.setIfInBounds i true) a w) → K' a w) → if Region.wanted o (yielded ops a.tmps) = true then Oper.wp P o a w K' Q else K' (a.put o.dst undef) w) :
    AnyT P md ops Q S k (fuel + 1) listed a w :=
  ⟨fun h0 => (by rw [hr] at h0; cases h0), fun j hj => by
    rw [hr] at hj
    obtain rfl : j = i := by simpa using hj
    exact wpOp_step ho (fun K' hK => h K' (fun a w hS hW => hK a w ⟨hS, hW hS⟩))⟩
theorem anyT_done {listed : Array Bool} {a : Act} {w : World} (hr : Region.ready md ops listed = []) (h : Q .normal a w) : ∀ fuel, AnyT P md ops Q S k fuel listed a w
  | 0 => ⟨hr, h⟩
  | _ + 1 => ⟨fun _ => h, by rw [hr]; simp⟩
theorem region_T {id : Nat} {a : Act} {w : World} (hm : P.follows .mixedOrders = true) (S : World → Prop) (k : Nat) (hS : S w.drew) (h : S w.drew → AnyT P .any ops Q S k ops.size (Array.replicate ops.size false) a w.drew) : (Code.region id ops true).wp P Q a w :=
  wp_region_any hm (AnyT.any _ _ _ _ (h hS))
end
end Go.Proofs.YtpeoodkepjhhiaaDoor

namespace Go.Proofs.YtpeoodkepjhhiaaDoor
open Go
section
variable {P : Program} {ops : Array Oper} {Q : Exit → Act → World → Prop} {md : Region.Mode} {S : World → Prop} {k : Nat}

/-- How each operation is met: 0: it yields in every world that S holds of (number k waits for it and has not come up); 1: it yields in whatever world; 2: nothing else may come up, S holds behind it; 3: nothing else may come up, k has come up with it. -/
def lexT (md : Region.Mode) (ops : Array Oper) (k : Nat) : List (Nat × Nat) → Array Bool → Bool
  | [], listed => (Region.ready md ops listed).isEmpty
  | (i, 0) :: r, listed => (Region.ready md ops listed).contains i && Region.free md ops listed i && (waitB md ops k i && !(listed.getD k false) && (i != k)) && lexT md ops k r (listed.setIfInBounds i true)
  | (i, 1) :: r, listed => (Region.ready md ops listed).contains i && Region.free md ops listed i && (i != k) && lexT md ops k r (listed.setIfInBounds i true)
  | (i, 2) :: r, listed => (Region.ready md ops listed == [i]) && !((listed.setIfInBounds i true).getD k false) && lexT md ops k r (listed.setIfInBounds i true)
  | (i, _) :: r, listed => (Region.ready md ops listed == [i]) && (listed.setIfInBounds i true).getD k false && lexT md ops k r (listed.setIfInBounds i true)
/-- The walk along the list. -/
def wpT (P : Program) (ops : Array Oper) (Q : Exit → Act → World → Prop) (S : World → Prop) : List (Nat × Nat) → Act → World → Prop
  | [], a, w => Q .normal a w
  | (i, 0) :: r, a, w => ∃ o v, ops[i]? = some o ∧ YieldsIf P ops S o v a ∧ wpT P ops Q S r (a.put o.dst v) w
  | (i, 1) :: r, a, w => ∃ o v, ops[i]? = some o ∧ YieldsIf P ops (fun _ => True) o v a ∧ wpT P ops Q S r (a.put o.dst v) w
  | (i, 2) :: r, a, w => ∃ o, ops[i]? = some o ∧ ∀ K : Act → World → Prop, Shut (∀ a w, S w → (S w → wpT P ops Q S r a w) → K a w) → if Region.wanted o (yielded ops a.tmps) = true then Oper.wp P o a w K Q else K (a.put o.dst undef) w
  | (i, _) :: r, a, w => ∃ o, ops[i]? = some o ∧ ∀ K : Act → World → Prop, Shut (∀ a w, wpT P ops Q S r a w → K a w) → if Region.wanted o (yielded ops a.tmps) = true then Oper.wp P o a w K Q else K (a.put o.dst undef) w
theorem anyT_of_wpT (hs : Region.noSelect ops = true) (hQ : ∀ c a t v w, Q (.panic c) (a.put t v) w → Q (.panic c) a w) :
    ∀ (r : List (Nat × Nat)) (listed : Array Bool) (a : Act) (w : World), lexT md ops k r listed = true → (listed.getD k false = false → S w) → wpT P ops Q S r a w → AnyT P md ops Q S k r.length listed a w
  | [], listed, a, w, hl, _, h => ⟨by simpa [lexT] using hl, h⟩
  | (i, 0) :: r, listed, a, w, hl, hS, h => by
    simp only [lexT, Bool.and_eq_true] at hl
    obtain ⟨⟨⟨h1, h2⟩, h3⟩, h4⟩ := hl
    obtain ⟨o, v, ho, hy, h⟩ := h
    have hk : listed.getD k false = false := by simpa using h3.1.2
    exact anyT_take ho hs h2 h1 (by simp only [Bool.and_eq_true]; exact h3) (fun c a w => hQ c a _ _ w) hy (hS hk)
      (anyT_of_wpT hs hQ r _ _ _ h4 (fun _ => hS hk) h)
  | (i, 1) :: r, listed, a, w, hl, hS, h => by
    simp only [lexT, Bool.and_eq_true] at hl
    obtain ⟨⟨⟨h1, h2⟩, h3⟩, h4⟩ := hl
    obtain ⟨o, v, ho, hy, h⟩ := h
    exact anyT_takeY ho hs h2 h1 h3 (fun c a w => hQ c a _ _ w) hy hS
      (anyT_of_wpT hs hQ r _ _ _ h4 (fun h => hS (getD_set_open h)) h)
  | (i, 2) :: r, listed, a, w, hl, hS, h => by
    simp only [lexT, Bool.and_eq_true] at hl
    obtain ⟨⟨h1, h2⟩, h4⟩ := hl
    obtain ⟨o, ho, h⟩ := h
    have hk : (listed.setIfInBounds i true).getD k false = false := by simpa using h2
    refine anyT_one (by simpa using h1) ho (fun K hK => ?_)
    exact h K (fun a w hSw hW => hK a w (fun _ => hSw) (fun _ => anyT_of_wpT hs hQ r _ _ _ h4 (fun _ => hSw) (hW hSw)))
  | (i, n + 3) :: r, listed, a, w, hl, hS, h => by
    simp only [lexT, Bool.and_eq_true] at hl
    obtain ⟨⟨h1, h2⟩, h4⟩ := hl
    obtain ⟨o, ho, h⟩ := h
    have hk : ¬ (listed.setIfInBounds i true).getD k false = false := by simp [h2]
    refine anyT_one (by simpa using h1) ho (fun K hK => ?_)
    exact h K (fun a w hW => hK a w (fun h => absurd h hk) (fun _ => anyT_of_wpT hs hQ r _ _ _ h4 (fun h => absurd h hk) hW))
theorem region_L {id : Nat} {a : Act} {w : World} (S : World → Prop) (k : Nat) (r : List (Nat × Nat)) (hm : P.follows .mixedOrders = true) (hs : (Region.noSelect ops && (r.length == ops.size) && lexT .any ops k r (Array.replicate ops.size false)) = true)
    (hQ : ∀ c a t v w, Q (.panic c) (a.put t v) w → Q (.panic c) a w) (hS : S w.drew) (h : S w.drew → wpT P ops Q S r a w.drew) : (Code.region id ops true).wp P Q a w := by
  simp only [Bool.and_eq_true, beq_iff_eq] at hs
  obtain ⟨⟨h1, h2⟩, h3⟩ := hs
  refine region_T hm S k hS (fun hS => ?_)
  rw [← h2]
  have := anyT_of_wpT h1 hQ r _ a _ h3 (fun _ => hS) (h hS)
  rwa [h2] at this ⊢
/-- The same, where the list ends before the region does. -/
def lexU (md : Region.Mode) (ops : Array Oper) (k : Nat) (fin : Array Bool → Bool) : List (Nat × Nat) → Array Bool → Bool
  | [], listed => fin listed
  | (i, 0) :: r, listed => (Region.ready md ops listed).contains i && Region.free md ops listed i && (waitB md ops k i && !(listed.getD k false) && (i != k)) && lexU md ops k fin r (listed.setIfInBounds i true)
  | (i, 1) :: r, listed => (Region.ready md ops listed).contains i && Region.free md ops listed i && (i != k) && lexU md ops k fin r (listed.setIfInBounds i true)
  | (i, 2) :: r, listed => (Region.ready md ops listed == [i]) && !((listed.setIfInBounds i true).getD k false) && lexU md ops k fin r (listed.setIfInBounds i true)
  | (i, _) :: r, listed => (Region.ready md ops listed == [i]) && (listed.setIfInBounds i true).getD k false && lexU md ops k fin r (listed.setIfInBounds i true)
/-- Where one of two comes up: each is walked along a list of its own. -/
def forkB (md : Region.Mode) (ops : Array Oper) (k : Nat) (i j : Nat) (r s : List (Nat × Nat)) (listed : Array Bool) : Bool :=
  (Region.ready md ops listed == [i, j]) && (i != j) && !((listed.setIfInBounds i true).getD k false) && !((listed.setIfInBounds j true).getD k false) && (s.length == r.length) && lexT md ops k r (listed.setIfInBounds i true) && lexT md ops k s (listed.setIfInBounds j true)
section
variable {i : Nat} {r : List (Nat × Nat)} {a : Act} {w : World} {o : Oper} {v : Value}
theorem t0 (ho : ops[i]? = some o) (hy : YieldsIf P ops S o v a) (h : wpT P ops Q S r (a.put o.dst v) w) : wpT P ops Q S ((i, 0) :: r) a w := ⟨o, v, ho, hy, h⟩
/-- An operation that has no guard. -/
theorem yields {S : World → Prop} (hg : o.guard = none) (h : ∀ w, S w → (execOp a.eval o).run P w = .ok (.value v) w) : YieldsIf P ops S o v a := .inl ⟨by unfold Region.wanted; rw [hg], h⟩
theorem t2 (ho : ops[i]? = some o) (h : ∀ K : Act → World → Prop, Shut (∀ a w, S w → (S w → wpT P ops Q S r a w) → K a w) → if Region.wanted o (yielded ops a.tmps) = true then Oper.wp P o a w K Q else K (a.put o.dst undef) w) : wpT P ops Q S ((i, 2) :: r) a w := ⟨o, ho, h⟩
theorem t3 (ho : ops[i]? = some o) (h : ∀ K : Act → World → Prop, Shut (∀ a w, wpT P ops Q S r a w → K a w) → if Region.wanted o (yielded ops a.tmps) = true then Oper.wp P o a w K Q else K (a.put o.dst undef) w) : wpT P ops Q S ((i, 3) :: r) a w := ⟨o, ho, h⟩
end
end
end Go.Proofs.YtpeoodkepjhhiaaDoor

namespace Go.Proofs.YtpeoodkepjhhiaaDoor
open Go Go.RowKit

/-- The value that a list of slots gives. -/
def lk : List (Nat × Value) → Nat → Option Value
  | [], _ => none
  | (j, v) :: r, k => match Nat.beq j k with
    | true => some v
    | false => lk r k
/-- What is known of a frame. -/
structure Fm (n : Nat) (m : List (Nat × Value)) (a : Act) : Prop where
  size : a.tmps.size = n
  defers : a.defers = []
  has : ∀ k v, lk m k = some v → a.tmps[k]? = some v
def ev (m : List (Nat × Value)) : Operand → Option Value
  | .tmp t => lk m t
  | .const v => some v
  | .global g => some (.pointer (some ⟨g, 0, none⟩))
  | .func f => some (.func (.func f) #[] #[])
def evs (m : List (Nat × Value)) : List Operand → Option (List Value)
  | [] => some []
  | x :: l => match ev m x, evs m l with
    | some v, some r => some (v :: r)
    | _, _ => none
theorem Fm.ev {n : Nat} {m : List (Nat × Value)} {a : Act} (h : Fm n m a) {x : Operand} {v : Value} (hx : ev m x = some v) : a.eval x = v := by
  cases x with
  | tmp t =>
    have := h.has t v hx
    show a.tmps.getD t undef = v
    simp [Array.getD_eq_getD_getElem?, this]
  | const u => exact Option.some.inj hx
  | global g => exact Option.some.inj hx
  | func f => exact Option.some.inj hx
theorem Fm.evs {n : Nat} {m : List (Nat × Value)} {a : Act} (h : Fm n m a) : ∀ {l : List Operand} {vs : List Value}, evs m l = some vs → l.map a.eval = vs
  | [], vs, hx => by simp only [YtpeoodkepjhhiaaDoor.evs, Option.some.injEq] at hx; subst hx; rfl
  | x :: l, vs, hx => by
    simp only [YtpeoodkepjhhiaaDoor.evs] at hx
    split at hx
    · rename_i v r hv hr
      injection hx with hx
      subst hx
      simp only [List.map_cons, h.ev hv, h.evs hr]
    · cases hx
theorem Fm.put {n : Nat} {m : List (Nat × Value)} {a : Act} (h : Fm n m a) {d : Nat} (hd : d < n) (v : Value) : Fm n ((d, v) :: m) (a.put (some d) v) := by
  refine ⟨by simp [Act.put, h.size], h.defers, ?_⟩
  intro k u hk
  simp only [lk] at hk
  by_cases e : d = k
  · subst e
    simp only [show Nat.beq d d = true from Nat.beq_refl d] at hk
    injection hk with hk
    subst hk
    simp [Act.put, h.size, hd]
  · rw [show Nat.beq d k = false from Bool.eq_false_iff.2 (fun h => e (Nat.eq_of_beq_eq_true h))] at hk
    have := h.has k u hk
    simp [Act.put, e, this]
/-- A frame of which less is told. -/
def Sub : List (Nat × Value) → List (Nat × Value) → Prop
  | [], _ => True
  | (k, v) :: r, m => lk m k = some v ∧ Sub r m
theorem Sub.lk : ∀ {r m : List (Nat × Value)}, Sub r m → ∀ k v, lk r k = some v → lk m k = some v
  | [], _, _, _, _, h => by cases h
  | (j, u) :: r, m, hs, k, v, h => by
    simp only [YtpeoodkepjhhiaaDoor.lk] at h
    split at h
    · rename_i e
      have : j = k := Nat.eq_of_beq_eq_true e
      subst this
      injection h with h
      subst h
      exact hs.1
    · exact Sub.lk hs.2 k v h
theorem Fm.sub {n : Nat} {m r : List (Nat × Value)} {a : Act} (h : Fm n m a) (hs : Sub r m) : Fm n r a := ⟨h.size, h.defers, fun k v hk => h.has k v (hs.lk k v hk)⟩
/-- A value as a guard reads it. -/
def yv : Value → Option Bool
  | .bool b => some b
  | _ => none
/-- Whether an operation with this guard is carried out. -/
def wantedM (ops : Array Oper) (m : List (Nat × Value)) : Option (Nat × Bool) → Option Bool
  | none => some true
  | some (j, want) => match (ops[j]?).bind (·.dst) with
    | none => some false
    | some d => match lk m d with
      | some v => some (yv v == some want)
      | none => none
theorem Fm.wanted {n : Nat} {m : List (Nat × Value)} {a : Act} (h : Fm n m a) {ops : Array Oper} {o : Oper} {b : Bool} (hw : wantedM ops m o.guard = some b) : Region.wanted o (yielded ops a.tmps) = b := by
  unfold wantedM at hw
  unfold Region.wanted
  split at hw
  · rename_i hg
    rw [hg]
    exact Option.some.inj hw
  · rename_i j want hg
    rw [hg]
    simp only
    unfold yielded
    split at hw
    · rename_i hd
      rw [hd]
      injection hw
    · rename_i d hd
      rw [hd]
      split at hw
      · rename_i v hl
        have := h.has d _ hl
        injection hw with hw
        subst hw
        simp only [Option.bind_some, this]
        cases v <;> rfl
      · cases hw
section
variable {P : Program}

/-- The walk along a region's operations, from whatever frame that m tells of. -/
def wl (P : Program) (ops : Array Oper) (Q : Exit → Act → World → Prop) (l : List Oper) (n : Nat) (m : List (Nat × Value)) (w : World) : Prop := ∀ a, Fm n m a → wpList P ops Q l a w
/-- A piece of code, likewise. -/
def cw (P : Program) (c : Code) (Q : Exit → Act → World → Prop) (n : Nat) (m : List (Nat × Value)) (w : World) : Prop := ∀ a, Fm n m a → c.wp P Q a w
/-- An exit, likewise. -/
def xw (Q : Exit → Act → World → Prop) (e : Exit) (n : Nat) (m : List (Nat × Value)) (w : World) : Prop := ∀ a, Fm n m a → Q e a w
/-- What reads as m says. -/
def Reads (m : List (Nat × Value)) (ρ : Operand → Value) : Prop := ∀ x v, ev m x = some v → ρ x = v
section
variable {ops : Array Oper} {Q : Exit → Act → World → Prop} {rest : List Oper} {n : Nat} {m : List (Nat × Value)} {w w' : World} {d : Nat} {op : Op} {t : TypeId} {pos : String} {aft : Array Edge} {gd : Option (Nat × Bool)} {v : Value}
theorem Fm.reads {a : Act} (h : Fm n m a) : Reads m a.eval := fun _ _ hx => h.ev hx
theorem wl_val (hr : ∀ ρ, Reads m ρ → (execOp ρ ⟨some d, op, t, pos, aft, gd⟩).run P w = .ok (.value v) w') (hg : wantedM ops m gd = some true) (hd : Nat.blt d n = true) (h : wl P ops Q rest n ((d, v) :: m) w') :
    wl P ops Q (⟨some d, op, t, pos, aft, gd⟩ :: rest) n m w := fun a ha => by
  unfold wpList
  rw [if_pos (ha.wanted hg)]
  left
  unfold Oper.wp
  rw [hr _ ha.reads]
  exact h _ (ha.put (by simpa [Nat.blt_eq] using hd) v)
theorem wl_skip (hg : wantedM ops m gd = some false) (hd : Nat.blt d n = true) (h : wl P ops Q rest n ((d, undef) :: m) w) : wl P ops Q (⟨some d, op, t, pos, aft, gd⟩ :: rest) n m w := fun a ha => by
  unfold wpList
  rw [if_neg (by rw [ha.wanted hg]; simp)]
  exact h _ (ha.put (by simpa [Nat.blt_eq] using hd) _)
theorem wl_none (hr : ∀ ρ, Reads m ρ → (execOp ρ ⟨none, op, t, pos, aft, gd⟩).run P w = .ok .skip w') (hg : wantedM ops m gd = some true) (h : wl P ops Q rest n m w') :
    wl P ops Q (⟨none, op, t, pos, aft, gd⟩ :: rest) n m w := fun a ha => by
  unfold wpList
  rw [if_pos (ha.wanted hg)]
  left
  unfold Oper.wp
  rw [hr _ ha.reads]
  exact h _ ha
/-- A call of f enters f's text. -/
def Enters (P : Program) (f : FuncId) : Prop := ∀ args w, (callFunc f args).run P w = .ok (.enter f args) w
theorem enters_of {f : FuncId} {fn : Func} {c : Code} (hf : P.funcs[f]? = some fn) (hname : (fn.name == "runtime.NumGoroutine") = false) (hb : fn.body = some c) : Enters P f := fun args w => by
  have h1 : fn.name ≠ "runtime.NumGoroutine" := by simpa using hname
  simp [callFunc, hf, h1, hb]
theorem exec_call {ρ : Operand → Value} {d : Option Tmp} {f : FuncId} {xs : Array Operand} {ts : Array TypeId} {args : Array Value} (he : Enters P f) (hf : ρ (.func f) = .func (.func f) #[] #[]) (h : xs.map ρ = args) : (execOp ρ ⟨d, .call ⟨.value (.func f), xs, ts⟩, t, pos, aft, gd⟩).run P w = .ok (.enter f args) w := by
  subst h
  simp [go_sem, hf, he _ _]
theorem wl_call {f : FuncId} {xs : List Operand} {ts : Array TypeId} {args : List Value} (he : Enters P f) (hargs : evs m xs = some args) (hg : wantedM ops m gd = some true) (hd : Nat.blt d n = true)
    (h : Calls P f args.toArray w fun e w' => ∃ v, e = .returned v ∧ wl P ops Q rest n ((d, v) :: m) w') :
    wl P ops Q (⟨some d, .call ⟨.value (.func f), xs.toArray, ts⟩, t, pos, aft, gd⟩ :: rest) n m w := fun a ha => by
  unfold wpList
  rw [if_pos (ha.wanted hg)]
  left
  unfold Oper.wp
  rw [exec_call he rfl (args := args.toArray) (by rw [List.map_toArray, ha.evs hargs])]
  refine h.mono ?_
  rintro e w' ⟨v, rfl, hh⟩
  exact hh _ (ha.put (by simpa [Nat.blt_eq] using hd) v)
theorem wl_nil (h : xw Q .normal n m w) : wl P ops Q [] n m w := fun a ha => h a ha
/-- A region in the order of the text. -/
theorem cw_region {id : Nat} {l : List Oper} (h : wl P l.toArray Q l n m w) : cw P (.region id l.toArray false) Q n m w := fun a ha => wp_region_lit (h a ha)
theorem cw_seq {x y : Code} (h : ∀ K : Act → World → Prop, Shut (∀ n m w, cw P y Q n m w → ∀ a, Fm n m a → K a w) → cw P x (Exit.then K Q) n m w) : cw P (.seq x y) Q n m w := fun a ha =>
  wp_seq_k (fun K hK => h K (fun _ _ _ hy a ha => hK _ _ (hy a ha)) a ha)
theorem xw_next {K : Act → World → Prop} {y : Code} (hK : Shut (∀ n m w, cw P y Q n m w → ∀ a, Fm n m a → K a w)) (h : cw P y Q n m w) : xw (Exit.then K Q) .normal n m w := fun a ha => hK.out _ _ _ h a ha
/-- An exit that is not the normal one goes by what comes next. -/
theorem xw_past {K : Act → World → Prop} {e : Exit} (he : e ≠ .normal) (h : xw Q e n m w) : xw (Exit.then K Q) e n m w := fun a ha => by
  cases e <;> first | exact absurd rfl he | exact h a ha
theorem cw_true {c : Operand} {x y : Code} (hc : ev m c = some (.bool true)) (h : cw P x Q n m w) : cw P (.cond c x y) Q n m w := fun a ha => wp_cond_true (ha.ev hc) (h a ha)
theorem cw_false {c : Operand} {x y : Code} (hc : ev m c = some (.bool false)) (h : cw P y Q n m w) : cw P (.cond c x y) Q n m w := fun a ha => wp_cond_false (ha.ev hc) (h a ha)
theorem cw_cond {c : Operand} {x y : Code} {b : Bool} (hc : ev m c = some (.bool b)) (h1 : b = true → cw P x Q n m w) (h2 : b = false → cw P y Q n m w) : cw P (.cond c x y) Q n m w := fun a ha => wp_cond_split (ha.ev hc) (fun h => h1 h a ha) (fun h => h2 h a ha)
theorem cw_skip (h : xw Q .normal n m w) : cw P .skip Q n m w := fun a ha => wp_skip (h a ha)
theorem cw_exit {id : Nat} (h : xw Q (.exit id) n m w) : cw P (.exit id) Q n m w := fun a ha => wp_exit (h a ha)
theorem cw_ret (h : xw Q .ret n m w) : cw P .ret Q n m w := fun a ha => wp_ret (h a ha)
theorem cw_block {id : Nat} {c : Code} (h : cw P c (Exit.inBlock id Q) n m w) : cw P (.block id c) Q n m w := fun a ha => wp_block (h a ha)
theorem xw_block {id : Nat} (h : xw Q .normal n m w) : xw (Exit.inBlock id Q) .normal n m w := fun a ha => h a ha
theorem xw_here {id : Nat} (h : xw Q .normal n m w) : xw (Exit.inBlock id Q) (.exit id) n m w := fun a ha => by
  show (if id = id then _ else _)
  rw [if_pos rfl]
  exact h a ha
theorem xw_blockret {id : Nat} (h : xw Q .ret n m w) : xw (Exit.inBlock id Q) .ret n m w := fun a ha => h a ha
theorem least {p : Nat → Prop} (h : ∃ k, p k) : ∃ k, p k ∧ ∀ j, p j → k ≤ j := by
  obtain ⟨k, hk⟩ := h
  induction k using Nat.strongRecOn with
  | _ k ih =>
    by_cases he : ∃ j, j < k ∧ p j
    · obtain ⟨j, h1, h2⟩ := he
      exact ih j h1 h2
    · exact ⟨k, hk, fun j hj => Nat.le_of_not_lt (fun h => he ⟨j, h, hj⟩)⟩
/-- A loop: at its head the frame reads as M i and J i holds, for some i; μ falls from round to round. -/
theorem cw_loop {c : Code} {ι : Type} (M : ι → List (Nat × Value)) (J : ι → World → Prop) (μ : ι → Nat) (i0 : ι) (h0 : J i0 w) (hs : Sub (M i0) m)
    (round : ∀ i w, J i w → ∀ K : Act → World → Prop, Shut (∀ j m' w', μ j < μ i → J j w' → Sub (M j) m' → ∀ a, Fm n m' a → K a w') → cw P c (Exit.then K Q) n (M i) w) : cw P (.loop c) Q n m w := fun a ha => by
  classical
  let p : Act → World → Nat → Prop := fun a w k => ∃ i, μ i = k ∧ Fm n (M i) a ∧ J i w
  refine wp_loop (fun a w => ∃ k, p a w k) (fun a w => if h : ∃ k, p a w k then Classical.choose (least h) else 0) ⟨_, i0, rfl, ha.sub hs, h0⟩ ?_
  intro a w hI
  have hspec := Classical.choose_spec (least hI)
  obtain ⟨⟨i, hi, hfr, hJ⟩, hmin⟩ := hspec
  refine round i w hJ _ ?_ a hfr
  intro j m' w' hlt hJ' hs' a' ha'
  have hI' : ∃ k, p a' w' k := ⟨_, j, rfl, ha'.sub hs', hJ'⟩
  refine ⟨hI', ?_⟩
  simp only [dif_pos hI, dif_pos hI']
  have := (Classical.choose_spec (least hI')).2 (μ j) ⟨j, rfl, ha'.sub hs', hJ'⟩
  omega
theorem xw_round {ι : Type} {M : ι → List (Nat × Value)} {J : ι → World → Prop} {μ : ι → Nat} {i : ι} {K : Act → World → Prop} (hK : Shut (∀ j m' w', μ j < μ i → J j w' → Sub (M j) m' → ∀ a, Fm n m' a → K a w')) (j : ι) (hlt : μ j < μ i) (hJ : J j w) (hs : Sub (M j) m) : xw (Exit.then K Q) .normal n m w := fun a ha => hK.out j m w hlt hJ hs a ha
end
end
end Go.Proofs.YtpeoodkepjhhiaaDoor

namespace Go.Proofs.YtpeoodkepjhhiaaDoor
open Go
section
variable {P : Program} {ops : Array Oper} {C : World → Prop} {Q : Act → Prop} {a : Act} {o : Oper} {rest : List Oper}
end
end Go.Proofs.YtpeoodkepjhhiaaDoor

namespace Go.Proofs.YtpeoodkepjhhiaaDoor
open Go Go.RowKit
section
variable {P : Program} {ops : Array Oper} {Q : Exit → Act → World → Prop} {S C : World → Prop} {r : List (Nat × Nat)} {rest : List Oper} {n : Nat} {m : List (Nat × Value)} {w w' : World} {i d : Nat} {op : Op} {t : TypeId} {pos : String} {aft : Array Edge} {gd : Option (Nat × Bool)} {v : Value}
/-- Along a list of a region that draws its order (RegL). -/
def wt (P : Program) (ops : Array Oper) (Q : Exit → Act → World → Prop) (S : World → Prop) (r : List (Nat × Nat)) (n : Nat) (m : List (Nat × Value)) (w : World) : Prop := ∀ a, Fm n m a → wpT P ops Q S r a w
theorem wt0 (ho : ops[i]? = some ⟨some d, op, t, pos, aft, gd⟩) (hr : ∀ ρ, Reads m ρ → ∀ W, S W → (execOp ρ ⟨some d, op, t, pos, aft, gd⟩).run P W = .ok (.value v) W) (hg : wantedM ops m gd = some true) (hd : Nat.blt d n = true)
    (h : wt P ops Q S r n ((d, v) :: m) w) : wt P ops Q S ((i, 0) :: r) n m w := fun a ha =>
  ⟨_, v, ho, .inl ⟨ha.wanted hg, hr _ ha.reads⟩, h _ (ha.put (by simpa [Nat.blt_eq] using hd) v)⟩
theorem wt1 (ho : ops[i]? = some ⟨some d, op, t, pos, aft, gd⟩) (hr : ∀ ρ, Reads m ρ → ∀ W, (execOp ρ ⟨some d, op, t, pos, aft, gd⟩).run P W = .ok (.value v) W) (hg : wantedM ops m gd = some true) (hd : Nat.blt d n = true)
    (h : wt P ops Q S r n ((d, v) :: m) w) : wt P ops Q S ((i, 1) :: r) n m w := fun a ha =>
  ⟨_, v, ho, .inl ⟨ha.wanted hg, fun W _ => hr _ ha.reads W⟩, h _ (ha.put (by simpa [Nat.blt_eq] using hd) v)⟩
theorem wt1_skip (ho : ops[i]? = some ⟨some d, op, t, pos, aft, gd⟩) (hg : wantedM ops m gd = some false) (hd : Nat.blt d n = true)
    (h : wt P ops Q S r n ((d, undef) :: m) w) : wt P ops Q S ((i, 1) :: r) n m w := fun a ha =>
  ⟨_, undef, ho, .inr ⟨ha.wanted hg, rfl⟩, h _ (ha.put (by simpa [Nat.blt_eq] using hd) undef)⟩
theorem wt0_skip (ho : ops[i]? = some ⟨some d, op, t, pos, aft, gd⟩) (hg : wantedM ops m gd = some false) (hd : Nat.blt d n = true)
    (h : wt P ops Q S r n ((d, undef) :: m) w) : wt P ops Q S ((i, 0) :: r) n m w := fun a ha =>
  ⟨_, undef, ho, .inr ⟨ha.wanted hg, rfl⟩, h _ (ha.put (by simpa [Nat.blt_eq] using hd) undef)⟩
theorem wt2 (ho : ops[i]? = some ⟨some d, op, t, pos, aft, gd⟩) (hr : ∀ ρ, Reads m ρ → (execOp ρ ⟨some d, op, t, pos, aft, gd⟩).run P w = .ok (.value v) w') (hg : wantedM ops m gd = some true) (hd : Nat.blt d n = true) (hS : S w')
    (h : wt P ops Q S r n ((d, v) :: m) w') : wt P ops Q S ((i, 2) :: r) n m w := fun a ha =>
  ⟨_, ho, fun K hK => by
    rw [if_pos (ha.wanted hg)]
    unfold Oper.wp
    rw [hr _ ha.reads]
    exact hK.out _ _ hS (fun _ => h _ (ha.put (by simpa [Nat.blt_eq] using hd) v))⟩
theorem wt2_none (ho : ops[i]? = some ⟨none, op, t, pos, aft, gd⟩) (hr : ∀ ρ, Reads m ρ → (execOp ρ ⟨none, op, t, pos, aft, gd⟩).run P w = .ok .skip w') (hg : wantedM ops m gd = some true) (hS : S w')
    (h : wt P ops Q S r n m w') : wt P ops Q S ((i, 2) :: r) n m w := fun a ha =>
  ⟨_, ho, fun K hK => by
    rw [if_pos (ha.wanted hg)]
    unfold Oper.wp
    rw [hr _ ha.reads]
    exact hK.out _ _ hS (fun _ => h _ ha)⟩
theorem wt2_call {f : FuncId} {xs : List Operand} {ts : Array TypeId} {args : List Value} (ho : ops[i]? = some ⟨some d, .call ⟨.value (.func f), xs.toArray, ts⟩, t, pos, aft, gd⟩) (he : Enters P f) (hargs : evs m xs = some args) (hg : wantedM ops m gd = some true) (hd : Nat.blt d n = true)
    (h : Calls P f args.toArray w fun e w' => ∃ v, e = .returned v ∧ S w' ∧ wt P ops Q S r n ((d, v) :: m) w') : wt P ops Q S ((i, 2) :: r) n m w := fun a ha =>
  ⟨_, ho, fun K hK => by
    rw [if_pos (ha.wanted hg)]
    unfold Oper.wp
    rw [exec_call he rfl (args := args.toArray) (by rw [List.map_toArray, ha.evs hargs])]
    refine h.mono ?_
    rintro e w' ⟨v, rfl, hS, hh⟩
    exact hK.out _ _ hS (fun _ => hh _ (ha.put (by simpa [Nat.blt_eq] using hd) v))⟩
theorem wt3 (ho : ops[i]? = some ⟨some d, op, t, pos, aft, gd⟩) (hr : ∀ ρ, Reads m ρ → (execOp ρ ⟨some d, op, t, pos, aft, gd⟩).run P w = .ok (.value v) w') (hg : wantedM ops m gd = some true) (hd : Nat.blt d n = true)
    (h : wt P ops Q S r n ((d, v) :: m) w') : wt P ops Q S ((i, 3) :: r) n m w := fun a ha =>
  ⟨_, ho, fun K hK => by
    rw [if_pos (ha.wanted hg)]
    unfold Oper.wp
    rw [hr _ ha.reads]
    exact hK.out _ _ (h _ (ha.put (by simpa [Nat.blt_eq] using hd) v))⟩
theorem wt3_none (ho : ops[i]? = some ⟨none, op, t, pos, aft, gd⟩) (hr : ∀ ρ, Reads m ρ → (execOp ρ ⟨none, op, t, pos, aft, gd⟩).run P w = .ok .skip w') (hg : wantedM ops m gd = some true)
    (h : wt P ops Q S r n m w') : wt P ops Q S ((i, 3) :: r) n m w := fun a ha =>
  ⟨_, ho, fun K hK => by
    rw [if_pos (ha.wanted hg)]
    unfold Oper.wp
    rw [hr _ ha.reads]
    exact hK.out _ _ (h _ ha)⟩
theorem wt_nil (h : xw Q .normal n m w) : wt P ops Q S [] n m w := fun a ha => h a ha
/-- What was written into the frame makes no difference to a panic. -/
def PQ (Q : Exit → Act → World → Prop) : Prop := ∀ c a t v w, Q (.panic c) (a.put t v) w → Q (.panic c) a w
theorem PQ.body {fn : Func} {R : Ending → World → Prop} : PQ (bodyPost P fn R) := fun _ _ t _ _ h => by cases t <;> exact h
theorem PQ.then_ {K : Act → World → Prop} (h : PQ Q) : PQ (Exit.then K Q) := fun c a t v w hh => h c a t v w hh
theorem PQ.block {id : Nat} (h : PQ Q) : PQ (Exit.inBlock id Q) := fun c a t v w hh => h c a t v w hh
theorem cw_drawn {id : Nat} {l : List Oper} (S : World → Prop) (k : Nat) (r : List (Nat × Nat)) (hm : P.follows .mixedOrders = true) (hs : (Region.noSelect l.toArray && (r.length == l.toArray.size) && lexT .any l.toArray k r (Array.replicate l.toArray.size false)) = true)
    (hQ : PQ Q) (hS : S w.drew) (h : wt P l.toArray Q S r n m w.drew) : cw P (.region id l.toArray true) Q n m w := fun a ha => region_L S k r hm hs hQ hS (fun _ => h a ha)

/-- Along the text of a region whose operations keep a class of worlds. -/
def wq (P : Program) (ops : Array Oper) (C : World → Prop) (Q : Exit → Act → World → Prop) (l : List Oper) (n : Nat) (m : List (Nat × Value)) : Prop := ∀ a, Fm n m a → wpQuiet P ops C (fun a' => ∀ w', C w' → Q .normal a' w') l a
/-- The arguments, by slot. -/
def argSlots : Nat → List Value → List (Nat × Value)
  | _, [] => []
  | k, v :: l => (k, v) :: argSlots (k + 1) l
theorem argSlots_lk : ∀ (l : List Value) (k j : Nat) (v : Value), lk (argSlots k l) j = some v → k ≤ j ∧ l[j - k]? = some v
  | [], _, _, _, h => by cases h
  | u :: l, k, j, v, h => by
    simp only [argSlots, lk] at h
    split at h
    · rename_i e
      have : k = j := Nat.eq_of_beq_eq_true e
      subst this
      injection h with h
      subst h
      simp
    · obtain ⟨h1, h2⟩ := argSlots_lk l (k + 1) j v h
      refine ⟨by omega, ?_⟩
      have : j - k = (j - (k + 1)) + 1 := by omega
      rw [this, List.getElem?_cons_succ]
      exact h2
theorem sx_enter {f : FuncId} {fn : Func} {c : Code} {n : Nat} {args : List Value} {w : World} {R : Ending → World → Prop} (hf : P.funcs[f]? = some fn) (hb : fn.body = some c) (hn : fn.ntmps = n) (hle : args.length ≤ n)
    (h : cw P c (bodyPost P fn R) n (argSlots 0 args) w) : Calls P f args.toArray w R := by
  refine calls_of_wp hf hb (h _ ⟨?_, rfl, ?_⟩)
  · simp only [Array.size_append, List.size_toArray, Array.size_replicate, hn]
    omega
  · intro k v hk
    obtain ⟨_, h2⟩ := argSlots_lk _ _ _ _ hk
    have hlt : k < args.length := (List.getElem?_eq_some_iff.1 h2).1
    rw [Array.getElem?_append_left (by simpa using hlt)]
    simpa using h2
theorem xw_ret {fn : Func} {R : Ending → World → Prop} {w : World} (hr : ∀ T : Array Value, (∀ k v, lk m k = some v → T[k]? = some v) → (results fn T).run P w = .ok v w) (hR : R (.returned v) w) : xw (bodyPost P fn R) .ret n m w := fun _ ha =>
  bodyPost_ret (hr _ ha.has) ha.defers hR
theorem xw_end {fn : Func} {R : Ending → World → Prop} {w : World} (hr : ∀ T : Array Value, (∀ k v, lk m k = some v → T[k]? = some v) → (results fn T).run P w = .ok v w) (hR : R (.returned v) w) : xw (bodyPost P fn R) .normal n m w := fun _ ha =>
  bodyPost_end (hr _ ha.has) ha.defers hR
theorem res1 {fn : Func} {a : Nat} (h : fn.results = #[.tmp a]) (T : Array Value) (w : World) (h1 : T[a]? = some v) : (results fn T).run P w = .ok v w := by
  simp [results, h, Array.getD_eq_getD_getElem?, h1]
theorem res2 {fn : Func} {a b : Nat} {u : Value} (h : fn.results = #[.tmp a, .tmp b]) (T : Array Value) (w : World) (h1 : T[a]? = some v) (h2 : T[b]? = some u) : (results fn T).run P w = .ok (.tuple #[v, u]) w := by
  simp [results, h, Array.getD_eq_getD_getElem?, h1, h2]
end
end Go.Proofs.YtpeoodkepjhhiaaDoor
namespace Go.Proofs.YtpeoodkepjhhiaaDoor
open Go Go.RowKit

def OwnBools (w : World) (base : Nat) (v : Value) (l : List Bool) : Prop := w.ownsRow base 4 1 v l.length (l.map Value.bool)
theorem OwnBools.V {w : World} {base : Nat} {v : Value} {l : List Bool} (h : OwnBools w base v l) : BoolsV w w.heap.size v l := by
  obtain ⟨h1, h2⟩ := h
  rcases h2 with ⟨rfl, hn⟩ | ⟨g, cap, cur, rfl, _, hg, hnc, hcm, _, htake⟩
  · exact ⟨none, 0, by rw [hn], by omega, by unfold maxLen; omega, fun hp => by omega⟩
  · refine ⟨_, cap, rfl, hnc, hcm, fun _ => ⟨g, 0, (Array.getElem?_eq_some_iff.1 hg).1, rfl, fun i x hx => ?_⟩⟩
    show w.cell? _ = _
    rw [show 0 + i * 1 = i from by omega, cell_of_row w g i cur _ (0, 0) hg]
    have : cur.toList.take (l.length * 1) = l.map Value.bool := htake
    have hi : i < l.length := (List.getElem?_eq_some_iff.1 hx).1
    have h3 : (cur.toList.take (l.length * 1))[i]? = some (.bool x) := by rw [this, List.getElem?_map, hx]; rfl
    rw [List.getElem?_take_of_lt (by omega)] at h3
    simpa using h3
theorem OwnBools.nil (w : World) (base : Nat) : OwnBools w base (.slice none 0 0) [] := World.ownsRow_nil w base _ _
end Go.Proofs.YtpeoodkepjhhiaaDoor
namespace Go.Proofs.YtpeoodkepjhhiaaDoor
open Go Go.RowKit
/-- A call of f enters f's text. -/
def Ent (f : FuncId) : Prop := ∀ args w, (callFunc f args).run Tryd.prog w = .ok (.enter f args) w
section
variable {ρ : Operand → Value} {d : Option Tmp} {x y z : Operand} {t : TypeId} {pos : String} {aft : Array Edge} {gd : Option (Nat × Bool)} {w : World}
theorem ex_move {v : Value} (hx : ρ x = v) : (execOp ρ ⟨d, .move x, t, pos, aft, gd⟩).run Tryd.prog w = .ok (.value v) w := by
  simp [go_sem, hx]
theorem ex_assign {v : Value} (hx : ρ x = v) : (execOp ρ ⟨d, .assign x, t, pos, aft, gd⟩).run Tryd.prog w = .ok (.value v) w := by
  simp [go_sem, hx]
theorem ex_extract {vs : Array Value} {v : Value} {i : Nat} (hx : ρ x = .tuple vs) (hi : vs[i]? = some v) : (execOp ρ ⟨d, .extract x i, t, pos, aft, gd⟩).run Tryd.prog w = .ok (.value v) w := by
  simp [go_sem, hx, hi]
end
section
variable {ops : Array Oper} {Q : Exit → Act → World → Prop} {S : World → Prop} {i : Nat} {r : List (Nat × Nat)} {a : Act} {w w' : World} {d : Option Tmp} {op : Op} {t : TypeId} {pos : String} {aft : Array Edge} {v : Value}
end
end Go.Proofs.YtpeoodkepjhhiaaDoor

namespace Go.Proofs.YtpeoodkepjhhiaaDoor
open Go Go.RowKit
section
variable {ρ : Operand → Value} {d : Option Tmp} {x y z : Operand} {t : TypeId} {pos : String} {aft : Array Edge} {gd : Option (Nat × Bool)} {w : World}
theorem ex_pick1 {u : Value} (hx : ρ x = .bool true) (hy : ρ y = u) : (execOp ρ ⟨d, .pick x y z, t, pos, aft, gd⟩).run Tryd.prog w = .ok (.value u) w := by
  simp [go_sem, hx, hy]
theorem ex_pick0 {v : Value} (hx : ρ x = .bool false) (hz : ρ z = v) : (execOp ρ ⟨d, .pick x y z, t, pos, aft, gd⟩).run Tryd.prog w = .ok (.value v) w := by
  simp [go_sem, hx, hz]
end
section
variable {ops : Array Oper} {C : World → Prop} {Q : Act → Prop} {a : Act} {o : Oper} {rest : List Oper} {d : Option Tmp} {t : TypeId} {pos : String} {aft : Array Edge} {gd : Option (Nat × Bool)} {v : Value}
end
end Go.Proofs.YtpeoodkepjhhiaaDoor

namespace Go.Proofs.YtpeoodkepjhhiaaDoor
open Go Go.RowKit
section
variable {P : Program} {ops : Array Oper} {Q : Exit → Act → World → Prop} {S : World → Prop} {r : List (Nat × Nat)} {rest : List Oper} {n : Nat} {m : List (Nat × Value)} {w w' : World} {i d : Nat} {op : Op} {t T : TypeId} {pos : String} {aft : Array Edge} {gd : Option (Nat × Bool)} {v : Value} {cs : Array Value}
end
section
variable {ρ : Operand → Value} {d : Option Tmp} {x y z : Operand} {t : TypeId} {pos : String} {aft : Array Edge} {gd : Option (Nat × Bool)} {w : World}
theorem wrap_in {u : Int} (h0 : -9223372036854775808 ≤ u) (h1 : u ≤ 9223372036854775807) : IntKind.i64.wrap u = u := by rw [IntKind.wrap_i64]; omega
end
end Go.Proofs.YtpeoodkepjhhiaaDoor

namespace Go.Proofs.YtpeoodkepjhhiaaDoor
open Go Go.RowKit
section
variable {ops : Array Oper} {Q : Exit → Act → World → Prop} {S : World → Prop} {r : List (Nat × Nat)} {rest : List Oper} {n : Nat} {m : List (Nat × Value)} {w : World} {i d : Nat} {t : TypeId} {pos : String} {aft : Array Edge} {gd : Option (Nat × Bool)}
end
section
variable {ρ : Operand → Value} {d : Option Tmp} {x y : Operand} {t : TypeId} {pos : String} {aft : Array Edge} {gd : Option (Nat × Bool)} {w : World}
end
end Go.Proofs.YtpeoodkepjhhiaaDoor
namespace Go.Proofs.YtpeoodkepjhhiaaDoor
open Go Go.RowKit

structure Frame (S : Nat → Prop) (w w' : World) : Prop where
  os : w'.os = w.os
  tape : w'.tape = w.tape
  output : w'.output = w.output
  size : w.heap.size ≤ w'.heap.size
  block : ∀ k, k < w.heap.size → ¬ S k → w'.heap[k]? = w.heap[k]?
def NoB : Nat → Prop := fun _ => False
theorem Frame.refl (S : Nat → Prop) (w : World) : Frame S w w := ⟨rfl, rfl, rfl, Nat.le_refl _, fun _ _ _ => rfl⟩
theorem Frame.trans {S T : Nat → Prop} {a b c : World} (h : Frame S a b) (k : Frame T b c) (hT : ∀ k, k < a.heap.size → T k → S k) : Frame S a c :=
  ⟨k.os.trans h.os, k.tape.trans h.tape, k.output.trans h.output, Nat.le_trans h.size k.size, fun i hi hs => (k.block i (Nat.lt_of_lt_of_le hi h.size) (fun ht => hs (hT i hi ht))).trans (h.block i hi hs)⟩
theorem Frame.mono {S T : Nat → Prop} {a b : World} (h : Frame S a b) (hT : ∀ k, k < a.heap.size → S k → T k) : Frame T a b :=
  ⟨h.os, h.tape, h.output, h.size, fun i hi hs => h.block i hi (fun ht => hs (hT i hi ht))⟩
theorem Frame.of_below {w w' : World} (h : Below w.heap.size w w') : Frame NoB w w' := ⟨h.os, h.tape, h.output, h.size, fun k hk _ => h.block k hk⟩
theorem Frame.drew (w : World) : Frame NoB w w.drew := ⟨rfl, rfl, rfl, Nat.le_refl _, fun _ _ _ => rfl⟩
theorem Frame.grown {w w' : World} {row : Option Nat} (h : w.grownBy w' row) : Frame (fun k => some k = row) w w' := ⟨h.os, h.tape, h.output, h.size, fun k hk hs => h.block k hk hs⟩
theorem Frame.put (w : World) (g i : Nat) (u : Value) : Frame (fun k => k = g) w (w.setCell ⟨g, i, none⟩ u) :=
  ⟨rfl, rfl, rfl, Nat.le_of_eq (by simp [World.setCell]), fun k _ hs => Below.heap_setCell w _ u k hs⟩
theorem Frame.alloc (w : World) (o : Obj) : Frame NoB w (w.alloc o) := ⟨rfl, rfl, rfl, by simp, fun k hk _ => Below.heap_alloc w o k hk⟩
theorem Frame.below {S : Nat → Prop} {w w' : World} {B : Nat} (h : Frame S w w') (hB : B ≤ w.heap.size) (hS : ∀ k, k < w.heap.size → S k → B ≤ k) : Below B w w' :=
  ⟨h.os, h.tape, h.output, h.size, fun k hk => h.block k (by omega) (fun hs => by have := hS k (by omega) hs; omega)⟩
theorem Blk.fr {S : Nat → Prop} {w w' : World} {g : Nat} {t : TypeId} {cs : Array Value} (h : Blk w g t cs) (hf : Frame S w w') (hg : ¬ S g) : Blk w' g t cs := (hf.block g h.lt hg).trans h

/-- Block m is a map that holds just these entries, in this order. -/
def MapB (w : World) (m : Nat) (l : List (Value × Value)) : Prop := ∃ (es : Array MapEntry) (clock : Nat), w.heap[m]? = some (.map es clock) ∧ es.toList.map (fun e => (e.key, e.val)) = l
theorem MapB.lt {w : World} {m : Nat} {l : List (Value × Value)} (h : MapB w m l) : m < w.heap.size := by
  obtain ⟨es, clock, h, _⟩ := h
  exact (Array.getElem?_eq_some_iff.1 h).1
theorem MapB.fr {S : Nat → Prop} {w w' : World} {m : Nat} {l : List (Value × Value)} (h : MapB w m l) (hf : Frame S w w') (hg : ¬ S m) : MapB w' m l := by
  have hlt := h.lt
  obtain ⟨es, clock, h, hl⟩ := h
  exact ⟨es, clock, (hf.block m hlt hg).trans h, hl⟩

/-- Where a key stands, and what is there. -/
def look {κ : Type} [DecidableEq κ] (k : κ) : List (κ × Value) → Nat → Option (Nat × Value)
  | [], _ => none
  | (a, v) :: l, i => if k = a then some (i, v) else look k l (i + 1)
def encL {κ : Type} (enc : κ → Value) (l : List (κ × Value)) : List (Value × Value) := l.map fun p => (enc p.1, p.2)
/-- What entries become when a key is written. -/
def aput {κ : Type} [DecidableEq κ] (k : κ) (v : Value) : List (κ × Value) → List (κ × Value)
  | [] => [(k, v)]
  | (a, u) :: l => if k = a then (a, v) :: l else (a, u) :: aput k v l
structure Key {κ : Type} [DecidableEq κ] (enc : κ → Value) (kind : TypeDesc) : Prop where
  same : ∀ a b, Instr.sameNow kind (enc a) (enc b) = some (decide (a = b))
  isKey : ∀ a, MapKept.IsKey kind (enc a)
section
variable {P : Program} {κ : Type} [DecidableEq κ] {enc : κ → Value} {kind : TypeDesc} {t kt e : TypeId} {w : World} {m : Nat} {l : List (κ × Value)}
end
end Go.Proofs.YtpeoodkepjhhiaaDoor
namespace Go.Proofs.YtpeoodkepjhhiaaDoor
open Go Go.RowKit

inductive En where
  | blk (g : Nat) (T : TypeId) (cs : Array Value)
  | row (v : Value) (T : TypeId) (sz n : Nat) (xs : List Value)
  | map (g : Nat) (l : List (Value × Value))
  | iter (g : Nat) (s : ByteArray) (pos : Nat)
  | ro (D : Nat → Prop) (p : World → Prop)
/-- The blocks of an entry. -/
def En.dom : En → Nat → Prop
  | .blk g _ _, k => k = g
  | .row v _ _ _ _, k => v.ownBlock = some k
  | .map g _, k => k = g
  | .iter g _ _, k => k = g
  | .ro D _, k => D k
def En.own : En → Prop
  | .ro _ _ => False
  | _ => True
def En.holds (w : World) : En → Prop
  | .blk g T cs => Blk w g T cs
  | .row v T sz n xs => w.ownsRow 0 T sz v n xs
  | .map g l => MapB w g l
  | .iter g s pos => w.heap[g]? = some (.stringIter s pos)
  | .ro D p => p w ∧ (∀ k, D k → k < w.heap.size) ∧ ∀ w1 w2 : World, w1.heap.size ≤ w2.heap.size → (∀ k, D k → w2.heap[k]? = w1.heap[k]?) → p w1 → p w2
theorem En.lt {e : En} {w : World} (h : e.holds w) {k : Nat} (hk : e.dom k) : k < w.heap.size := by
  cases e with
  | blk g T cs => cases hk; exact Blk.lt h
  | row v T sz n xs => exact (World.ownsRow.lt h k hk).2
  | map g l => cases hk; exact MapB.lt h
  | iter g s pos => cases hk; exact (Array.getElem?_eq_some_iff.1 h).1
  | ro D p => exact h.2.1 k hk
theorem ownsRow_move {w w' : World} {base : Nat} {T : TypeId} {sz n : Nat} {v : Value} {xs : List Value} (h : w.ownsRow base T sz v n xs) (hk : ∀ k, v.ownBlock = some k → w'.heap[k]? = w.heap[k]?) : w'.ownsRow base T sz v n xs := by
  refine ⟨h.1, ?_⟩
  rcases h.2 with h1 | ⟨g, cap, cur, rfl, h1, h2, h3⟩
  · exact .inl h1
  · exact .inr ⟨g, cap, cur, rfl, h1, (hk g rfl).trans h2, h3⟩
theorem En.move {e : En} {w w' : World} (h : e.holds w) (hs : w.heap.size ≤ w'.heap.size) (hk : ∀ k, e.dom k → w'.heap[k]? = w.heap[k]?) : e.holds w' := by
  cases e with
  | blk g T cs => exact (hk g rfl).trans h
  | row v T sz n xs => exact ownsRow_move h hk
  | map g l =>
    obtain ⟨es, clock, h1, h2⟩ := h
    exact ⟨es, clock, (hk g rfl).trans h1, h2⟩
  | iter g s pos => exact (hk g rfl).trans h
  | ro D p => exact ⟨h.2.2 w w' hs hk h.1, fun k q => Nat.lt_of_lt_of_le (h.2.1 k q) hs, h.2.2⟩
def Apart (a b : En) : Prop := (a.own ∨ b.own) → ∀ k, a.dom k → b.dom k → False
theorem Apart.symm {a b : En} (h : Apart a b) : Apart b a := fun ho k h1 h2 => h ho.symm k h2 h1
/-- Z true: the old blocks that may be written; Z false: those that may be read. -/
structure Own (Z : Bool → Nat → Prop) (w0 W : World) (L : List En) : Prop where
  fr : Frame (Z true) w0 W
  has : ∀ e ∈ L, e.holds W
  dist : L.Pairwise Apart
  free : ∀ e ∈ L, ∀ k, e.dom k → (Z false k ∧ (e.own → Z true k)) ∨ w0.heap.size ≤ k
/-- Nothing old is written. -/
def Z0 : Bool → Nat → Prop := fun b _ => b = false
/-- What a call is handed. -/
def zone (A : List En) : Bool → Nat → Prop
  | true, k => ∃ e ∈ A, e.own ∧ e.dom k
  | false, k => ∃ e ∈ A, e.dom k
section
variable {Z : Bool → Nat → Prop} {w0 W W' : World} {L A R : List En}
theorem Own.start (w : World) : Own Z w w [] := ⟨Frame.refl _ _, fun _ he => (List.not_mem_nil he).elim, List.Pairwise.nil, fun _ he => (List.not_mem_nil he).elim⟩
theorem Own.enter (hh : ∀ e ∈ A, e.holds W) (hd : A.Pairwise Apart) : Own (zone A) W W A :=
  ⟨Frame.refl _ _, hh, hd, fun e he _ hk => .inl ⟨⟨e, he, hk⟩, fun ho => ⟨e, he, ho, hk⟩⟩⟩
/-- The step in general: what was told by A is told by A'. -/
theorem Own.step {T : Nat → Prop} {A' : List En} (h : Own Z w0 W (A ++ R)) (fr : Frame T W W') (hT : ∀ k, k < W.heap.size → T k → ∃ e ∈ A, e.own ∧ e.dom k) (hh : ∀ e ∈ A', e.holds W') (hd : A'.Pairwise Apart)
    (hdom : ∀ e ∈ A', ∀ k, e.dom k → (∃ a ∈ A, a.dom k ∧ (e.own → ∃ a ∈ A, a.own ∧ a.dom k)) ∨ W.heap.size ≤ k) : Own Z w0 W' (A' ++ R) := by
  have hp := List.pairwise_append.1 h.dist
  have hsz := h.fr.size
  refine ⟨h.fr.trans fr ?_, ?_, ?_, ?_⟩
  · intro k hk hT'
    obtain ⟨e, he, ho, hek⟩ := hT k (Nat.lt_of_lt_of_le hk hsz) hT'
    rcases h.free e (List.mem_append_left _ he) k hek with h1 | h1
    · exact h1.2 ho
    · omega
  · intro e he
    rcases List.mem_append.1 he with he | he
    · exact hh e he
    · refine En.move (h.has e (List.mem_append_right _ he)) fr.size (fun k hk => fr.block k (En.lt (h.has e (List.mem_append_right _ he)) hk) (fun hT' => ?_))
      obtain ⟨a, ha, ho, hak⟩ := hT k (En.lt (h.has e (List.mem_append_right _ he)) hk) hT'
      exact hp.2.2 a ha e he (.inl ho) k hak hk
  · refine List.pairwise_append.2 ⟨hd, hp.2.1, fun a' ha' r hr ho k h1 h2 => ?_⟩
    rcases hdom a' ha' k h1 with ⟨a, ha, hak, hown⟩ | hk
    · rcases ho with ho | ho
      · obtain ⟨b, hb, hbo, hbk⟩ := hown ho
        exact hp.2.2 b hb r hr (.inl hbo) k hbk h2
      · exact hp.2.2 a ha r hr (.inr ho) k hak h2
    · have := En.lt (h.has r (List.mem_append_right _ hr)) h2
      omega
  · intro e he k hk
    rcases List.mem_append.1 he with he | he
    · rcases hdom e he k hk with ⟨a, ha, hak, hown⟩ | hk
      · rcases h.free a (List.mem_append_left _ ha) k hak with h1 | h1
        · by_cases ho : e.own
          · obtain ⟨b, hb, hbo, hbk⟩ := hown ho
            rcases h.free b (List.mem_append_left _ hb) k hbk with h3 | h3
            · exact .inl ⟨h1.1, fun _ => h3.2 hbo⟩
            · exact .inr h3
          · exact .inl ⟨h1.1, fun ho' => absurd ho' ho⟩
        · exact .inr h1
      · exact .inr (by omega)
    · exact h.free e (List.mem_append_right _ he) k hk
/-- Memory is told less of, in another order. -/
def pickL (L : List En) : List Nat → List En
  | [] => []
  | i :: r => match L[i]? with
    | some e => e :: pickL L r
    | none => pickL L r
def freshB : List Nat → Bool
  | [] => true
  | i :: r => !(r.contains i) && freshB r
theorem pickL_mem {L : List En} : ∀ {is : List Nat} {e : En}, e ∈ pickL L is → ∃ i ∈ is, L[i]? = some e
  | [], e, h => by cases h
  | i :: r, e, h => by
    unfold pickL at h
    split at h
    · rename_i e' he
      rcases List.mem_cons.1 h with rfl | h
      · exact ⟨i, by simp, he⟩
      · obtain ⟨j, hj, h2⟩ := pickL_mem h
        exact ⟨j, by simp [hj], h2⟩
    · obtain ⟨j, hj, h2⟩ := pickL_mem h
      exact ⟨j, by simp [hj], h2⟩
theorem pw_get {L : List En} (h : L.Pairwise Apart) {i j : Nat} {a b : En} (hi : L[i]? = some a) (hj : L[j]? = some b) (hne : i ≠ j) : Apart a b := by
  obtain ⟨h1, rfl⟩ := List.getElem?_eq_some_iff.1 hi
  obtain ⟨h2, rfl⟩ := List.getElem?_eq_some_iff.1 hj
  rcases Nat.lt_or_gt_of_ne hne with h3 | h3
  · exact List.pairwise_iff_getElem.1 h i j h1 h2 h3
  · exact (List.pairwise_iff_getElem.1 h j i h2 h1 h3).symm
theorem pickL_pw (h : L.Pairwise Apart) : ∀ {is : List Nat}, freshB is = true → (pickL L is).Pairwise Apart
  | [], _ => List.Pairwise.nil
  | i :: r, hf => by
    simp only [freshB, Bool.and_eq_true, Bool.not_eq_true', List.contains_eq_mem, decide_eq_false_iff_not] at hf
    unfold pickL
    split
    · rename_i e he
      refine List.Pairwise.cons (fun b hb => ?_) (pickL_pw h hf.2)
      obtain ⟨j, hj, h2⟩ := pickL_mem hb
      exact pw_get h he h2 (fun e => hf.1 (e ▸ hj))
    · exact pickL_pw h hf.2
theorem Own.re (h : Own Z w0 W L) (is : List Nat) (hf : freshB is = true) : Own Z w0 W (pickL L is) :=
  ⟨h.fr, fun e he => by obtain ⟨i, _, h2⟩ := pickL_mem he; exact h.has e (List.mem_of_getElem? h2), pickL_pw h.dist hf,
    fun e he => by obtain ⟨i, _, h2⟩ := pickL_mem he; exact h.free e (List.mem_of_getElem? h2)⟩
theorem Own.get (h : Own Z w0 W L) (i : Nat) {e : En} (hi : L[i]? = some e) : e.holds W := h.has e (List.mem_of_getElem? hi)
theorem Own.blk (h : Own Z w0 W L) (i : Nat) {g : Nat} {T : TypeId} {cs : Array Value} (hi : L[i]? = some (.blk g T cs)) : Blk W g T cs := h.get i hi
theorem Own.row (h : Own Z w0 W L) (i : Nat) {v : Value} {T : TypeId} {sz n : Nat} {xs : List Value} (hi : L[i]? = some (.row v T sz n xs)) : W.ownsRow 0 T sz v n xs := h.get i hi
theorem Own.map (h : Own Z w0 W L) (i : Nat) {g : Nat} {l : List (Value × Value)} (hi : L[i]? = some (.map g l)) : MapB W g l := h.get i hi
theorem Own.iter (h : Own Z w0 W L) (i : Nat) {g : Nat} {s : ByteArray} {pos : Nat} (hi : L[i]? = some (.iter g s pos)) : W.heap[g]? = some (.stringIter s pos) := h.get i hi
theorem Own.ro (h : Own Z w0 W L) (i : Nat) {D : Nat → Prop} {p : World → Prop} (hi : L[i]? = some (.ro D p)) : p W := (h.get i hi).1
/-- A cell of a block. -/
theorem Own.cell (h : Own Z w0 W L) (i j : Nat) {g : Nat} {T : TypeId} {cs : Array Value} {v : Value} (hi : L[i]? = some (.blk g T cs)) (hj : cs[j]? = some v) : W.cell? ⟨g, j, none⟩ = some v := ((h.blk i hi).cell j).trans hj
/-- What a call leaves that writes new memory alone. -/
theorem Own.below (h : Own Z w0 W L) (hb : Below W.heap.size W W') : Own Z w0 W' L :=
  h.step (A := []) (A' := []) (Frame.of_below hb) (fun _ _ hn => hn.elim) (fun e he => by cases he) List.Pairwise.nil (fun e he => by cases he)
theorem Own.drew (h : Own Z w0 W L) : Own Z w0 W.drew L := h.below (Below.refl _ _).drew
theorem Own.add (h : Own Z w0 W L) (hb : Below W.heap.size W W') {e : En} (he : e.holds W') (hd : ∀ k, e.dom k → W.heap.size ≤ k) : Own Z w0 W' (e :: L) :=
  h.step (A := []) (A' := [e]) (Frame.of_below hb) (fun _ _ hn => hn.elim) (fun e' he' => by rw [List.mem_singleton.1 he']; exact he) (List.pairwise_singleton _ _)
    (fun e' he' k hk => .inr (hd k (by rw [← List.mem_singleton.1 he']; exact hk)))
theorem Own.newb (h : Own Z w0 W L) (hb : Below W.heap.size W W') {g : Nat} {T : TypeId} {cs : Array Value} (hk : Blk W' g T cs) (hg : W.heap.size = g) : Own Z w0 W' (.blk g T cs :: L) :=
  h.add hb (e := .blk g T cs) hk (fun k q => by cases q; omega)
theorem Own.nilrow (h : Own Z w0 W L) (T : TypeId) (sz : Nat) : Own Z w0 W (.row (.slice none 0 0) T sz 0 [] :: L) :=
  h.add (Below.refl _ _) (e := .row (.slice none 0 0) T sz 0 []) (World.ownsRow_nil W 0 T sz) (fun k q => by cases q)
/-- One entry is written. -/
theorem Own.one {T : Nat → Prop} {e e' : En} (h : Own Z w0 W (e :: L)) (fr : Frame T W W') (ho : e.own) (hT : ∀ k, k < W.heap.size → T k → e.dom k) (hh : e'.holds W') (hd : ∀ k, e'.dom k → e.dom k ∨ W.heap.size ≤ k) : Own Z w0 W' (e' :: L) :=
  Own.step (A := [e]) (A' := [e']) h fr (fun k hk q => ⟨e, by simp, ho, hT k hk q⟩) (fun x hx => by rw [List.mem_singleton.1 hx]; exact hh) (List.pairwise_singleton _ _)
    (fun x hx k hk => by
      rw [List.mem_singleton.1 hx] at hk
      rcases hd k hk with h1 | h1
      · exact .inl ⟨e, by simp, h1, fun _ => ⟨e, by simp, ho, h1⟩⟩
      · exact .inr h1)
theorem Own.put {g : Nat} {T : TypeId} {cs : Array Value} (h : Own Z w0 W (.blk g T cs :: L)) (i : Nat) (u : Value) : Own Z w0 (W.setCell ⟨g, i, none⟩ u) (.blk g T (cs.setIfInBounds i u) :: L) :=
  h.one (Frame.put W g i u) trivial (fun _ _ q => q) ((h.blk 0 rfl).put i u) (fun _ q => .inl q)
theorem Own.app {T : TypeId} {sz n m : Nat} {v v' : Value} {xs ys : List Value} (h : Own Z w0 W (.row v T sz n xs :: L)) (hr : W'.ownsRow 0 T sz v' m ys) (fr : Frame (fun k => some k = v.ownBlock) W W') (hv : v'.ownBlock = v.ownBlock ∨ v'.ownBlock = some W.heap.size) :
    Own Z w0 W' (.row v' T sz m ys :: L) :=
  h.one fr trivial (fun _ _ q => q.symm) hr (fun k q => by
    rcases hv with e | e
    · exact .inl (show v.ownBlock = some k from e ▸ q)
    · have q' : v'.ownBlock = some k := q
      rw [e] at q'
      injection q' with q'
      exact .inr (Nat.le_of_eq q'))
/-- What a call leaves that was handed A. -/
theorem Own.frame {A' : List En} (h : Own Z w0 W (A ++ R)) (h' : Own (zone A) W W' A') : Own Z w0 W' (A' ++ R) :=
  h.step h'.fr (fun _ _ q => q) h'.has h'.dist (fun e he k hk => by
    rcases h'.free e he k hk with ⟨⟨a, ha, hak⟩, h2⟩ | h1
    · exact .inl ⟨a, ha, hak, h2⟩
    · exact .inr h1)
/-- What is handed to a call. -/
theorem Own.hand (h : Own Z w0 W (A ++ R)) : Own (zone A) W W A :=
  Own.enter (fun e he => h.has e (List.mem_append_left _ he)) (List.pairwise_append.1 h.dist).1
theorem Own.old (h : Own Z0 w0 W L) : Below w0.heap.size w0 W := h.fr.below (Nat.le_refl _) (fun k _ q => by cases q)
/-- An entry is told otherwise. -/
theorem Own.as {e e' : En} (h : Own Z w0 W (e :: L)) (hh : e'.holds W) (hd : ∀ k, e'.dom k → e.dom k) (ho : e'.own → e.own) : Own Z w0 W (e' :: L) :=
  Own.step (A := [e]) (A' := [e']) h (Frame.refl NoB _) (fun _ _ hn => hn.elim) (fun x hx => by rw [List.mem_singleton.1 hx]; exact hh) (List.pairwise_singleton _ _)
    (fun x hx k hk => by
      rw [List.mem_singleton.1 hx] at hk
      refine .inl ⟨e, by simp, hd k hk, fun hx' => ⟨e, by simp, ho ?_, hd k hk⟩⟩
      rw [← List.mem_singleton.1 hx]; exact hx')
end
end Go.Proofs.YtpeoodkepjhhiaaDoor
namespace Go.Proofs.YtpeoodkepjhhiaaDoor
open Go Go.RowKit

def isAggD : TypeDesc → Bool
  | .struct _ => true
  | .array _ _ => true
  | _ => false
/-- How many cells a value of a type takes, and whether it is a struct or an array. -/
structure TyB (T : TypeId) (n : Nat) (b : Bool) : Prop where
  size : (Tryd.prog.info? T).map (·.size) = some n
  agg : (Tryd.prog.underlying T).map isAggD = some b
def ZeroB (T : TypeId) (z : Value) : Prop := (Tryd.prog.info? T).map (·.zero) = some (some z)
/-- The element of a slice's type, and how many cells it takes. -/
structure ElB (T e : TypeId) (n : Nat) : Prop where
  elem : Tryd.prog.underlying T = some (.slice e)
  size : (Tryd.prog.info? e).map (·.size) = some n
/-- Where a field of a struct's type lies. -/
structure FieldB (T : TypeId) (f off : Nat) : Prop where
  at_ : ∃ fs F, Tryd.prog.underlying T = some (.struct fs) ∧ fs[f]? = some F ∧ F.offset = off ∧ ∃ n, (Tryd.prog.info? F.type).map (·.size) = some (n + 1)
theorem map_size {o : Option TypeInfo} {n : Nat} (h : o.map (·.size) = some n) : ∃ i, o = some i ∧ i.size = n := by
  cases o with
  | none => cases h
  | some i => exact ⟨i, rfl, Option.some.inj h⟩
section
variable {w : World} {T : TypeId} {n : Nat} {b : Bool}
theorem run_isAgg (h : TyB T n b) : (isAgg T).run Tryd.prog w = .ok b w := by
  have h2 := h.agg
  cases hd : Tryd.prog.underlying T with
  | none => rw [hd] at h2; cases h2
  | some d =>
    rw [hd] at h2
    have h3 : isAggD d = b := Option.some.inj h2
    clear h2
    unfold isAgg
    simp only [Sem.run_bind, run_underlying hd, Result.andThen_ok]
    rw [← h3]
    cases d <;> rfl
theorem run_size (h : (Tryd.prog.info? T).map (·.size) = some n) : (Go.sizeOf T).run Tryd.prog w = .ok n w := by
  obtain ⟨i, hi, rfl⟩ := map_size h
  simp [Go.sizeOf, typeInfo, hi]
theorem run_zeroB {z : Value} (h : ZeroB T z) : (zeroValue T).run Tryd.prog w = .ok z w := by
  unfold ZeroB at h
  cases hi : Tryd.prog.info? T with
  | none => rw [hi] at h; cases h
  | some i =>
    rw [hi] at h
    simp at h
    simp [zeroValue, typeInfo, hi, h]
theorem addr_plus (g o i : Nat) : (⟨g, o, none⟩ : Addr).add i = ⟨g, o + i, none⟩ := by unfold Addr.add; split <;> simp_all
theorem run_loadFrom (g o : Nat) (vs : List Value) (h : ∀ j v, vs[j]? = some v → w.cell? ⟨g, o + j, none⟩ = some v) : ∀ (n i : Nat) (acc : Array Value), i + n = vs.length → (loadCellsFrom ⟨g, o, none⟩ i n acc).run Tryd.prog w = .ok (acc ++ (vs.drop i).toArray) w
  | 0, i, acc, hn => by
    rw [List.drop_eq_nil_of_le (by omega)]
    simp [loadCellsFrom]
  | n + 1, i, acc, hn => by
    have hi : i < vs.length := by omega
    have hc := h i vs[i] (List.getElem?_eq_getElem hi)
    unfold loadCellsFrom
    simp only [Sem.run_bind, addr_plus, run_load, hc, Result.andThen_ok]
    rw [run_loadFrom g o vs h n (i + 1) _ (by omega), List.drop_eq_getElem_cons hi]
    simp
end
def cmpB (op : BinOp) (u v : Int) : Option Bool := match op with
  | .eql => some (u == v)
  | .neq => some (u != v)
  | .lss => some (decide (u < v))
  | .leq => some (decide (u ≤ v))
  | .gtr => some (decide (v < u))
  | .geq => some (decide (v ≤ u))
  | _ => none
section
variable {u v : Int}
theorem eql1 (h : u = v) : cmpB .eql u v = some true := by simp [cmpB, h]
theorem eql0 (h : u ≠ v) : cmpB .eql u v = some false := by simp [cmpB, h]
theorem neq1 (h : u ≠ v) : cmpB .neq u v = some true := by simp [cmpB, h]
theorem neq0 (h : u = v) : cmpB .neq u v = some false := by simp [cmpB, h]
theorem lss1 (h : u < v) : cmpB .lss u v = some true := by simp [cmpB, h]
theorem lss0 (h : v ≤ u) : cmpB .lss u v = some false := by simp [cmpB]; omega
theorem leq1 (h : u ≤ v) : cmpB .leq u v = some true := by simp [cmpB, h]
theorem leq0 (h : v < u) : cmpB .leq u v = some false := by simp [cmpB]; omega
theorem gtr1 (h : v < u) : cmpB .gtr u v = some true := by simp [cmpB, h]
theorem gtr0 (h : u ≤ v) : cmpB .gtr u v = some false := by simp [cmpB]; omega
theorem geq1 (h : v ≤ u) : cmpB .geq u v = some true := by simp [cmpB, h]
theorem geq0 (h : u < v) : cmpB .geq u v = some false := by simp [cmpB]; omega
end
/-- Some cells behind each other, written. -/
def putN (w : World) (g o : Nat) : List Value → World
  | [] => w
  | v :: r => putN (w.setCell ⟨g, o, none⟩ v) g (o + 1) r
def setN (cs : Array Value) (o : Nat) : List Value → Array Value
  | [] => cs
  | v :: r => setN (cs.setIfInBounds o v) (o + 1) r
theorem run_storeFrom (g o : Nat) (T : TypeId) : ∀ (vs : List Value) (w : World) (cs : Array Value) (i : Nat), Blk w g T cs → o + i + vs.length ≤ cs.size → (∀ v ∈ vs, v.oneCell' = true) → (storeCells ⟨g, o, none⟩ vs i).run Tryd.prog w = .ok () (putN w g (o + i) vs)
  | [], w, cs, i, _, _, _ => by simp [storeCells, putN]
  | v :: r, w, cs, i, hk, hn, h1 => by
    have hi : o + i < cs.size := by simp at hn; omega
    unfold storeCells putN
    have hc := hk.cell (o + i)
    rw [Array.getElem?_eq_getElem hi] at hc
    simp only [Sem.run_bind, addr_plus, run_store _ _ _ _ _ (h1 v (by simp)), hc, hk.free, Bool.false_eq_true, if_false, Result.andThen_ok]
    have := run_storeFrom g o T r (w.setCell ⟨g, o + i, none⟩ v) (cs.setIfInBounds (o + i) v) (i + 1) (hk.put _ _) (by simp at hn ⊢; omega) (fun u hu => h1 u (by simp [hu]))
    rw [this, Nat.add_assoc]
section
variable {ρ : Operand → Value} {d : Option Tmp} {x y z : Operand} {t T : TypeId} {pos : String} {aft : Array Edge} {gd : Option (Nat × Bool)} {w : World} {n : Nat} {b : Bool}
theorem ex_load1 {p : Addr} {v : Value} (hT : TyB T 1 false) (hx : ρ x = .pointer (some p)) (h : w.cell? p = some v) : (execOp ρ ⟨d, .load T x, t, pos, aft, gd⟩).run Tryd.prog w = .ok (.value v) w := by
  simp [execOp, Instr.loadAt, Instr.sureAddr, loadVar, hx, run_isAgg hT, h]
theorem ex_loadN {g o : Nat} {vs : List Value} (hT : TyB T n true) (hx : ρ x = .pointer (some ⟨g, o, none⟩)) (hn : vs.length = n) (h : ∀ j v, vs[j]? = some v → w.cell? ⟨g, o + j, none⟩ = some v) : (execOp ρ ⟨d, .load T x, t, pos, aft, gd⟩).run Tryd.prog w = .ok (.value (.agg vs.toArray)) w := by
  have := run_loadFrom g o vs h n 0 #[] (by omega)
  simp [execOp, Instr.loadAt, Instr.sureAddr, loadVar, hx, run_isAgg hT, run_size hT.size, loadCells, this]
theorem cells3 {g o : Nat} {a b c : Value} (h0 : w.cell? ⟨g, o, none⟩ = some a) (h1 : w.cell? ⟨g, o + 1, none⟩ = some b) (h2 : w.cell? ⟨g, o + 2, none⟩ = some c) : ∀ j v, [a, b, c][j]? = some v → w.cell? ⟨g, o + j, none⟩ = some v := by
  intro j v hj
  match j, hj with
  | 0, hj => injection hj with hj; subst hj; exact h0
  | 1, hj => injection hj with hj; subst hj; exact h1
  | 2, hj => injection hj with hj; subst hj; exact h2
theorem ex_idx {g o q m c i e sz : Nat} (hT : ElB T e sz) (hx : ρ x = .slice (some ⟨g, o, none⟩) m c) (hy : ρ y = .int .i64 (i : Int)) (h1 : i < m) (hq : o + i * sz = q) : (execOp ρ ⟨d, .indexAddr T x y, t, pos, aft, gd⟩).run Tryd.prog w = .ok (.value (.pointer (some ⟨g, q, none⟩))) w := by
  subst hq
  simp [execOp, Instr.indexAt, hx, hy, asIntOf, run_underlying hT.elem, h1, run_size hT.size, addr_plus]
theorem ex_field {g o q f off : Nat} (hT : FieldB T f off) (hx : ρ x = .pointer (some ⟨g, o, none⟩)) (hq : o + off = q) : (execOp ρ ⟨d, .fieldAddr T x f, t, pos, aft, gd⟩).run Tryd.prog w = .ok (.value (.pointer (some ⟨g, q, none⟩))) w := by
  obtain ⟨fs, F, hu, hf, rfl, k, hk⟩ := hT.at_
  subst hq
  simp [execOp, Instr.fieldAt, Instr.sureAddr, hx, run_underlying hu, hf, fieldPlace, run_size hk, addr_plus]
theorem ex_nil {g o : Nat} (hx : ρ x = .pointer (some ⟨g, o, none⟩)) : (execOp ρ ⟨d, .nilCheck x, t, pos, aft, gd⟩).run Tryd.prog w = .ok (.value (.pointer (some ⟨g, o, none⟩))) w := by
  simp [execOp, hx]
theorem ex_len {A : Option Addr} {k c e sz : Nat} (hT : ElB T e sz) (hx : ρ x = .slice A k c) : (execOp ρ ⟨d, .call ⟨.builtin .len, #[x], #[T]⟩, t, pos, aft, gd⟩).run Tryd.prog w = .ok (.value (.int .i64 (k : Int))) w := by
  simp [go_sem, hx, hT.elem]
theorem ex_cmp {op : BinOp} {k : IntKind} {u v : Int} {r : Bool} {T1 : TypeId} (hx : ρ x = .int k u) (hy : ρ y = .int k v) (h : cmpB op u v = some r) :
    (execOp ρ ⟨d, .binOp op T x y T1, t, pos, aft, gd⟩).run Tryd.prog w = .ok (.value (.bool r)) w := by
  cases op <;> first | (cases h; done) | skip
  all_goals injection h with h
  all_goals subst h
  all_goals simp [execOp, hx, hy, eqGuard, binOp, Op.intCmp]
end
end Go.Proofs.YtpeoodkepjhhiaaDoor
namespace Go.Proofs.YtpeoodkepjhhiaaDoor
open Go Go.RowKit

/-- What is known of an element's type. -/
structure El (te e : TypeId) (size bytes : Nat) (z : Value) : Prop where
  under : Tryd.prog.underlying te = some (.slice e)
  info : (Tryd.prog.info? e).map (fun i => (i.zero, i.size, i.bytes)) = some (some z, size, bytes)
  cells : z.cells.size = size
  pos : 0 < size
section
variable {te e : TypeId} {size bytes : Nat} {z : Value}
theorem exec_append {ρ : Operand → Value} {d : Option Tmp} {x y : Operand} {t : TypeId} {pos : String} {aft : Array Edge} {gd : Option (Nat × Bool)} {w w' : World} {v u V : Value} (hx : ρ x = v) (hy : ρ y = u) (h : (Builtin.append_ #[te, te] t #[v, u]).run Tryd.prog w = .ok V w') :
    (execOp ρ ⟨d, .call ⟨.builtin .append, #[x, y], #[te, te]⟩, t, pos, aft, gd⟩).run Tryd.prog w = .ok (.value V) w' := by
  unfold execOp
  simp only [resolve, invoke, builtin, Sem.run_bind, Sem.run_pure, Result.andThen_ok, List.map_toArray, List.map_cons, List.map_nil, hx, hy, h]
end
section
variable {te e : TypeId} {size bytes : Nat} {z : Value} {ops : Array Oper} {Q : Exit → Act → World → Prop} {S : World → Prop} {r : List (Nat × Nat)} {rest : List Oper} {n : Nat} {m : List (Nat × Value)} {w : World} {i d : Nat} {t : TypeId} {pos : String} {aft : Array Edge} {gd : Option (Nat × Bool)}
variable {x y : Operand} {v : Value} {k g base : Nat} {xs cells : List Value}
end
end Go.Proofs.YtpeoodkepjhhiaaDoor
namespace Go.Proofs.YtpeoodkepjhhiaaDoor
open Go Go.RowKit

/-- The parts of a composite value, by slot. -/
def evp (m : List (Nat × Value)) : List (Nat × Operand) → Option (List (Nat × Value))
  | [] => some []
  | (i, x) :: l => match ev m x, evp m l with
    | some v, some r => some ((i, v) :: r)
    | _, _ => none
theorem Reads.parts {m : List (Nat × Value)} {ρ : Operand → Value} (h : Reads m ρ) : ∀ {l : List (Nat × Operand)} {vs : List (Nat × Value)}, evp m l = some vs → l.map (fun p => (p.1, ρ p.2)) = vs
  | [], vs, hx => by simp only [evp, Option.some.injEq] at hx; subst hx; rfl
  | (i, x) :: l, vs, hx => by
    simp only [evp] at hx
    split at hx
    · rename_i v r hv hr
      injection hx with hx
      subst hx
      simp only [List.map_cons, h x v hv, h.parts hr]
    · cases hx
/-- How a struct's value is built. -/
structure StB (T : TypeId) (places : Array (Nat × Nat)) (zero : Array Value) : Prop where
  z : ∃ zv, ZeroB T zv ∧ zv.cells = zero
  st : ∃ fs, Tryd.prog.underlying T = some (.struct fs) ∧ ∀ w, (fs.mapM fun f => do pure (f.offset, ← Go.sizeOf f.type) : Sem (Array (Nat × Nat))).run Tryd.prog w = .ok places w
def lookV (r : Option (Nat × Value)) (z : Value) : Value := match r with
  | some p => p.2
  | none => z
/-- The cells of a slice that is written out. -/
def rowFill (n sz : Nat) (z : Value) (ps : List (Nat × Value)) : Option (Array Value) :=
  Instr.fill (fun i => some (i * sz, sz)) ((Array.range (n * sz)).map ((if n * sz = 0 then #[] else z.cells)[· % (if n * sz = 0 then #[] else z.cells).size]!)) ps
section
variable {Z : Bool → Nat → Prop} {w0 w : World} {L : List En}
theorem ex_build {ρ : Operand → Value} {d : Option Tmp} {t T : TypeId} {pos : String} {aft : Array Edge} {gd : Option (Nat × Bool)} {places : Array (Nat × Nat)} {zero cells : Array Value} {xs : List (Nat × Operand)} {ps : List (Nat × Value)} (hS : StB T places zero) (hx : xs.map (fun p => (p.1, ρ p.2)) = ps) (hf : Instr.fill (places[·]?) zero ps = some cells) :
    (execOp ρ ⟨d, .build T xs.toArray, t, pos, aft, gd⟩).run Tryd.prog w = .ok (.value (.agg cells)) w := by
  obtain ⟨⟨zv, hz, rfl⟩, fs, hu, hp⟩ := hS
  subst hx
  simp only [execOp, Instr.build, Sem.run_bind, run_zeroB hz, run_underlying hu, hp, Result.andThen_ok, List.map_toArray]
  rw [hf]
  rfl
/-- How an array's value is built. -/
structure ArB (T : TypeId) (sz : Nat) (zero : Array Value) : Prop where
  z : ∃ zv, ZeroB T zv ∧ zv.cells = zero
  st : ∃ n e, Tryd.prog.underlying T = some (.array n e) ∧ (Tryd.prog.info? e).map (·.size) = some sz
theorem ex_buildA {ρ : Operand → Value} {d : Option Tmp} {t T sz : TypeId} {pos : String} {aft : Array Edge} {gd : Option (Nat × Bool)} {zero cells : Array Value} {xs : List (Nat × Operand)} {ps : List (Nat × Value)} (hS : ArB T sz zero) (hx : xs.map (fun p => (p.1, ρ p.2)) = ps) (hf : Instr.fill (fun i => some (i * sz, sz)) zero ps = some cells) :
    (execOp ρ ⟨d, .build T xs.toArray, t, pos, aft, gd⟩).run Tryd.prog w = .ok (.value (.agg cells)) w := by
  obtain ⟨⟨zv, hz, rfl⟩, n, e, hu, hp⟩ := hS
  subst hx
  simp only [execOp, Instr.build, Sem.run_bind, run_zeroB hz, run_underlying hu, run_size hp, Result.andThen_ok, List.map_toArray]
  rw [hf]
  rfl
theorem own_box (hO : Own Z w0 w L) (T : TypeId) (v : Value) {cs : Array Value} (hc : v.cells = cs) :
    ∃ g w', (∀ (ρ : Operand → Value) x d t pos aft gd, ρ x = v → (execOp ρ ⟨d, .box T x, t, pos, aft, gd⟩).run Tryd.prog w = .ok (.value (.pointer (some ⟨g, 0, none⟩))) w') ∧ Own Z w0 w' (.blk g T cs :: L) ∧ w.heap.size = g ∧ w'.heap.size = g + 1 := by
  subst hc
  refine ⟨w.heap.size, w.alloc (.cells v.cells T), fun ρ x d t pos aft gd hx => ?_, hO.newb ((Below.refl _ _).alloc (Nat.le_refl _) _) (Blk.new _ _ _) rfl, rfl, by simp⟩
  simp [execOp, Instr.box, newVar, newRow, hx]
theorem own_alloc (hO : Own Z w0 w L) (T : TypeId) {z : Value} (hz : ZeroB T z) {cs : Array Value} (hc : z.cells = cs) :
    ∃ g w', (∀ (ρ : Operand → Value) d t pos aft gd, (execOp ρ ⟨d, .alloc T, t, pos, aft, gd⟩).run Tryd.prog w = .ok (.value (.pointer (some ⟨g, 0, none⟩))) w') ∧ Own Z w0 w' (.blk g T cs :: L) ∧ w.heap.size = g ∧ w'.heap.size = g + 1 := by
  subst hc
  refine ⟨w.heap.size, w.alloc (.cells z.cells T), fun ρ d t pos aft gd => ?_, hO.newb ((Below.refl _ _).alloc (Nat.le_refl _) _) (Blk.new _ _ _) rfl, rfl, by simp⟩
  simp [execOp, Instr.alloc, newVar, newRow, run_zeroB hz]
theorem own_slice (hO : Own Z w0 w L) {T e sz : Nat} (hT : ElB T e sz) {z : Value} (hz : ZeroB e z) (n : Nat) (ps : List (Nat × Value)) {cs : Array Value} (hn : n * sz ≤ 16777216) (hc : rowFill n sz z ps = some cs) :
    ∃ g w', (∀ (ρ : Operand → Value) (xs : List (Nat × Operand)) d t pos aft gd, xs.map (fun p => (p.1, ρ p.2)) = ps → (execOp ρ ⟨d, .buildSlice T n xs.toArray, t, pos, aft, gd⟩).run Tryd.prog w = .ok (.value (.slice (some ⟨g, 0, none⟩) n n)) w') ∧ Own Z w0 w' (.blk g e cs :: L) ∧ w.heap.size = g ∧ w'.heap.size = g + 1 := by
  refine ⟨w.heap.size, w.alloc (.cells cs e), fun ρ xs d t pos aft gd hx => ?_, hO.newb ((Below.refl _ _).alloc (Nat.le_refl _) _) (Blk.new _ _ _) rfl, rfl, by simp⟩
  subst hx
  unfold rowFill at hc
  by_cases h0 : n * sz = 0
  · simp only [if_pos h0] at hc
    simp only [execOp, Instr.buildSlice, Sem.run_bind, run_underlying hT.elem, run_size hT.size, Result.andThen_ok, List.map_toArray, if_neg (show ¬ (n * sz > 2 ^ 24) by omega), if_pos h0, Sem.run_pure]
    rw [hc]
    simp [newRow]
  · simp only [if_neg h0] at hc
    simp only [execOp, Instr.buildSlice, Sem.run_bind, run_underlying hT.elem, run_size hT.size, Result.andThen_ok, List.map_toArray, if_neg (show ¬ (n * sz > 2 ^ 24) by omega), if_neg h0, run_zeroB hz, Sem.run_pure]
    rw [hc]
    simp [newRow]
theorem blk_putN {g : Nat} {T : TypeId} : ∀ (vs : List Value) {w : World} {cs : Array Value} {o : Nat}, Own Z w0 w (.blk g T cs :: L) → Own Z w0 (putN w g o vs) (.blk g T (setN cs o vs) :: L)
  | [], _, _, _, h => h
  | v :: r, _, _, o, h => blk_putN r (h.put o v)
theorem putN_size (g : Nat) : ∀ (vs : List Value) (w : World) (o : Nat), (putN w g o vs).heap.size = w.heap.size
  | [], _, _ => rfl
  | v :: r, w, o => by unfold putN; rw [putN_size g r]; simp [World.setCell]
theorem own_put {g o n : Nat} {b : Bool} {T T' : TypeId} {cs cs' : Array Value} (hO : Own Z w0 w (.blk g T' cs :: L)) (hT : TyB T n b) (v : Value) (vs : List Value) (hv : v.cells.toList = vs) (h1 : vs.all (·.oneCell') = true) (hn : vs.length = n) (hc : o + n ≤ cs.size) (hcs : setN cs o vs = cs') :
    ∃ w', (∀ (ρ : Operand → Value) x y t pos aft gd, ρ x = .pointer (some ⟨g, o, none⟩) → ρ y = v → (execOp ρ ⟨none, .store T x y, t, pos, aft, gd⟩).run Tryd.prog w = .ok .skip w') ∧ Own Z w0 w' (.blk g T' cs' :: L) ∧ w'.heap.size = w.heap.size := by
  subst hcs
  refine ⟨putN w g o vs, fun ρ x y t pos aft gd hx hy => ?_, blk_putN vs hO, putN_size g vs w o⟩
  have h2 := run_storeFrom g o T' vs w cs 0 (hO.blk 0 rfl) (by omega) (fun u hu => by simpa using List.all_eq_true.1 h1 u hu)
  have h3 : v.cells.size = n := by rw [← hn, ← hv]; simp
  simp only [execOp, Instr.storeAt, Instr.sureAddr, hx, hy, storeVar, Sem.run_bind, Sem.run_pure, Result.andThen_ok, run_size hT.size, h3, ne_eq, not_true, if_false, hv, h2, Nat.add_zero]
theorem own_app1 {te e : TypeId} {size bytes : Nat} {z v : Value} {k g : Nat} {xs cells : List Value} (hO : Own Z w0 w (.row v e size k xs :: L)) (E : El te e size bytes z) (hk : Blk w g e cells.toArray) (hl : cells.length = size) (h1 : cells.all (·.oneCell') = true) (hlen : (k + 1) * bytes ≤ 140737488355328) (hn : k ≤ 1099511627776) {ys : List Value} (hy : xs ++ cells = ys) :
    ∃ A c w', (∀ (ρ : Operand → Value) x y d t pos aft gd, ρ x = v → ρ y = .slice (some ⟨g, 0, none⟩) 1 1 → (execOp ρ ⟨d, .call ⟨.builtin .append, #[x, y], #[te, te]⟩, t, pos, aft, gd⟩).run Tryd.prog w = .ok (.value (.slice A (k + 1) c)) w') ∧
      Own Z w0 w' (.row (.slice A (k + 1) c) e size (k + 1) ys :: L) ∧ w.heap.size ≤ w'.heap.size ∧ k + 1 ≤ c := by
  subst hy
  obtain ⟨i, hi, hz, hsz, hb⟩ := info_parts E.info
  have hown := hO.row 0 rfl
  obtain ⟨v', w', hrun, h2, h3, _, h5⟩ := run_append_own_at (P := Tryd.prog) (w := w) 0 te 0 e i _ size bytes E.under hi hz hsz hb E.cells E.pos v _ _ hown ⟨g, 0, none⟩ 1 1 cells (by omega)
    (fun j u hu => by
      rw [addr_plus, Nat.zero_add, hk.cell j]
      simpa using hu)
    (fun u hu => by simpa using List.all_eq_true.1 h1 u hu) (by unfold maxLen; omega) hlen (Nat.zero_le _)
  obtain ⟨A, c, rfl⟩ := own_form h2
  have hcap : k + 1 ≤ c := by
    rcases h2.2 with ⟨_, h6⟩ | ⟨g', cap, cur, h6, _, _, h7, _⟩
    · omega
    · injection h6 with _ _ h6
      omega
  refine ⟨A, c, w', fun ρ x y d t pos aft gd hx hy => ?_, hO.app h2 (.grown h3) h5, h3.size, hcap⟩
  exact exec_append hx hy (by
    have : ∀ ty ty', Builtin.append_ #[te, te] ty #[v, .slice (some ⟨g, 0, none⟩) 1 1] = Builtin.append_ #[te, te] ty' #[v, .slice (some ⟨g, 0, none⟩) 1 1] := fun _ _ => rfl
    rw [this t 0]
    exact hrun)
section
variable {κ : Type} [DecidableEq κ] {enc : κ → Value} {kind : TypeDesc} {T kt e : TypeId} {g : Nat} {l : List (κ × Value)}
end
end
section
variable {ρ : Operand → Value} {d : Option Tmp} {x y z : Operand} {t T : TypeId} {pos : String} {aft : Array Edge} {gd : Option (Nat × Bool)} {w : World}
theorem ex_func {fn : Fn} {xs ys : List Operand} {us vs : List Value} (hx : xs.map ρ = us) (hy : ys.map ρ = vs) : (execOp ρ ⟨d, .makeFunc fn xs.toArray ys.toArray, t, pos, aft, gd⟩).run Tryd.prog w = .ok (.value (.func fn us.toArray vs.toArray)) w := by
  subst hx hy
  simp [execOp, Instr.makeFunc]
theorem ex_arith {op : BinOp} {k : IntKind} {u v r : Int} {T1 : TypeId} (hx : ρ x = .int k u) (hy : ρ y = .int k v) (h : (match op with | .add => some (k.wrap (u + v)) | .sub => some (k.wrap (u - v)) | .mul => some (k.wrap (u * v)) | _ => none) = some r) :
    (execOp ρ ⟨d, .binOp op T x y T1, t, pos, aft, gd⟩).run Tryd.prog w = .ok (.value (.int k r)) w := by
  cases op <;> first | (cases h; done) | skip
  all_goals injection h with h
  all_goals simp [execOp, hx, hy, eqGuard, binOp, Op.intArith, h]
theorem ex_lnot {b : Bool} (hx : ρ x = .bool b) : (execOp ρ ⟨d, .unOp .not T x, t, pos, aft, gd⟩).run Tryd.prog w = .ok (.value (.bool (!b))) w := by
  simp [execOp, hx, Op.unary]
end
section
variable {P : Program} {ops : Array Oper} {Q : Exit → Act → World → Prop} {S : World → Prop} {r : List (Nat × Nat)} {rest : List Oper} {n : Nat} {m : List (Nat × Value)} {w : World} {i d : Nat} {t : TypeId} {pos : String} {aft : Array Edge} {gd : Option (Nat × Bool)}
theorem exec_callv {ρ : Operand → Value} {d : Option Tmp} {f : FuncId} {c : Operand} {xs : Array Operand} {ts : Array TypeId} {first cap args all : Array Value} (he : Enters P f) (hf : ρ c = .func (.func f) first cap) (h : xs.map ρ = args) (ha : first ++ args ++ cap = all) : (execOp ρ ⟨d, .call ⟨.value c, xs, ts⟩, t, pos, aft, gd⟩).run P w = .ok (.enter f all) w := by
  subst h ha
  simp only [execOp, resolve, hf, Deferred.ofValue, Sem.run_bind, Sem.run_pure, Result.andThen_ok, invoke]
  exact he _ _
theorem wl_callv {f : FuncId} {c : Operand} {first cap : Array Value} {xs : List Operand} {ts : Array TypeId} {args all : List Value} (he : Enters P f) (hc : ev m c = some (.func (.func f) first cap)) (hargs : evs m xs = some args) (ha : first ++ args.toArray ++ cap = all.toArray) (hg : wantedM ops m gd = some true) (hd : Nat.blt d n = true)
    (h : Calls P f all.toArray w fun e w' => ∃ v, e = .returned v ∧ wl P ops Q rest n ((d, v) :: m) w') :
    wl P ops Q (⟨some d, .call ⟨.value c, xs.toArray, ts⟩, t, pos, aft, gd⟩ :: rest) n m w := fun a hfm => by
  unfold wpList
  rw [if_pos (hfm.wanted hg)]
  left
  unfold Oper.wp
  rw [exec_callv he (hfm.ev hc) (args := args.toArray) (by rw [List.map_toArray, hfm.evs hargs]) ha]
  refine h.mono ?_
  rintro e w' ⟨v, rfl, hh⟩
  exact hh _ (hfm.put (by simpa [Nat.blt_eq] using hd) v)
theorem wt2_callv {f : FuncId} {c : Operand} {first cap : Array Value} {xs : List Operand} {ts : Array TypeId} {args all : List Value} (ho : ops[i]? = some ⟨some d, .call ⟨.value c, xs.toArray, ts⟩, t, pos, aft, gd⟩) (he : Enters P f) (hc : ev m c = some (.func (.func f) first cap)) (hargs : evs m xs = some args) (ha : first ++ args.toArray ++ cap = all.toArray) (hg : wantedM ops m gd = some true) (hd : Nat.blt d n = true)
    (h : Calls P f all.toArray w fun e w' => ∃ v, e = .returned v ∧ S w' ∧ wt P ops Q S r n ((d, v) :: m) w') : wt P ops Q S ((i, 2) :: r) n m w := fun a ha' =>
  ⟨_, ho, fun K hK => by
    rw [if_pos (ha'.wanted hg)]
    unfold Oper.wp
    rw [exec_callv he (ha'.ev hc) (args := args.toArray) (by rw [List.map_toArray, ha'.evs hargs]) ha]
    refine h.mono ?_
    rintro e w' ⟨v, rfl, hS, hh⟩
    exact hK.out _ _ hS (fun _ => hh _ (ha'.put (by simpa [Nat.blt_eq] using hd) v))⟩
end
end Go.Proofs.YtpeoodkepjhhiaaDoor
namespace Go.Proofs.YtpeoodkepjhhiaaDoor
open Go Go.RowKit
section
variable {Z : Bool → Nat → Prop} {w0 w W W' : World} {L : List En}
theorem Own.cells (h : Own Z w0 W L) (i o : Nat) {g : Nat} {T : TypeId} {cs : Array Value} {vs : List Value} (hi : L[i]? = some (.blk g T cs)) (hv : (cs.toList.drop o).take vs.length = vs) : ∀ j v, vs[j]? = some v → W.cell? ⟨g, o + j, none⟩ = some v := by
  intro j v hj
  have hlt : j < vs.length := (List.getElem?_eq_some_iff.1 hj).1
  refine h.cell i (o + j) hi ?_
  rw [← hv, List.getElem?_take_of_lt hlt, List.getElem?_drop] at hj
  simpa using hj
theorem row_base {T : TypeId} {sz n base : Nat} {v : Value} {xs : List Value} (h : W.ownsRow 0 T sz v n xs) (hb : ∀ k, v.ownBlock = some k → base ≤ k) : W.ownsRow base T sz v n xs := by
  refine ⟨h.1, ?_⟩
  rcases h.2 with h1 | ⟨g, cap, cur, rfl, h1, h2⟩
  · exact .inl h1
  · exact .inr ⟨g, cap, cur, rfl, hb g rfl, h2⟩
/-- A row that lies in new memory. -/
theorem Own.newrow (h : Own Z0 w0 W L) (i : Nat) {v : Value} {T : TypeId} {sz n : Nat} {xs : List Value} (hi : L[i]? = some (.row v T sz n xs)) : W.ownsRow w0.heap.size T sz v n xs :=
  row_base (h.row i hi) (fun k hk => by
    rcases h.free _ (List.mem_of_getElem? hi) k hk with h1 | h1
    · exact absurd (h1.2 trivial) (by simp [Z0])
    · exact h1)
end
end Go.Proofs.YtpeoodkepjhhiaaDoor
namespace Go.Proofs.YtpeoodkepjhhiaaDoor
open Go Go.RowKit
theorem ty3 : TyB 3 1 false := ⟨by kernel_rfl, by kernel_rfl⟩
theorem ze3 : ZeroB 3 (.int .i64 0) := by unfold ZeroB; kernel_rfl
theorem ty4 : TyB 4 1 false := ⟨by kernel_rfl, by kernel_rfl⟩
theorem ty5 : TyB 5 1 false := ⟨by kernel_rfl, by kernel_rfl⟩
theorem ze5 : ZeroB 5 (.int .u8 0) := by unfold ZeroB; kernel_rfl
theorem ty23 : TyB 23 1 false := ⟨by kernel_rfl, by kernel_rfl⟩
theorem ze23 : ZeroB 23 (.slice none 0 0) := by unfold ZeroB; kernel_rfl
theorem el23 : ElB 23 38 3 := ⟨Tryd.underlying23, by kernel_rfl⟩
theorem ap23 : El 23 38 3 24 (.agg #[.int .i64 0, .int .i64 0, .int .i64 0]) := ⟨Tryd.underlying23, by kernel_rfl, rfl, by decide⟩
theorem ty32 : TyB 32 1 false := ⟨by kernel_rfl, by kernel_rfl⟩
theorem el32 : ElB 32 5 1 := ⟨Tryd.underlying32, by kernel_rfl⟩
theorem ap32 : El 32 5 1 1 (.int .u8 0) := ⟨Tryd.underlying32, by kernel_rfl, rfl, by decide⟩
theorem el36 : ElB 36 3 1 := ⟨Tryd.underlying36, by kernel_rfl⟩
theorem ap36 : El 36 3 1 8 (.int .i64 0) := ⟨Tryd.underlying36, by kernel_rfl, rfl, by decide⟩
theorem ty38 : TyB 38 3 true := ⟨by kernel_rfl, by kernel_rfl⟩
theorem ze38 : ZeroB 38 (.agg #[.int .i64 0, .int .i64 0, .int .i64 0]) := by unfold ZeroB; kernel_rfl
theorem fi38_0 : FieldB 38 0 0 := ⟨⟨_, _, Tryd.underlying38, rfl, rfl, 0, by kernel_rfl⟩⟩
theorem fi38_1 : FieldB 38 1 1 := ⟨⟨_, _, Tryd.underlying38, rfl, rfl, 0, by kernel_rfl⟩⟩
theorem fi38_2 : FieldB 38 2 2 := ⟨⟨_, _, Tryd.underlying38, rfl, rfl, 0, by kernel_rfl⟩⟩
theorem st38 : StB 38 #[(0, 1), (1, 1), (2, 1)] #[.int .i64 0, .int .i64 0, .int .i64 0] := ⟨⟨_, ze38, rfl⟩, ⟨_, Tryd.underlying38, fun w => by kernel_rfl⟩⟩
theorem ty68 : TyB 68 1 false := ⟨by kernel_rfl, by kernel_rfl⟩
theorem ze68 : ZeroB 68 (.nilFunc) := by unfold ZeroB; kernel_rfl
theorem ty69 : TyB 69 1 false := ⟨by kernel_rfl, by kernel_rfl⟩
theorem ze69 : ZeroB 69 (.nilFunc) := by unfold ZeroB; kernel_rfl
theorem el71 : ElB 71 4 1 := ⟨Tryd.underlying71, by kernel_rfl⟩
theorem ap71 : El 71 4 1 1 (.bool false) := ⟨Tryd.underlying71, by kernel_rfl, rfl, by decide⟩
theorem ze73 : ZeroB 73 (.agg #[.int .i64 0, .int .i64 0]) := by unfold ZeroB; kernel_rfl
theorem ar73 : ArB 73 1 #[.int .i64 0, .int .i64 0] := ⟨⟨_, ze73, rfl⟩, ⟨_, _, Tryd.underlying73, by kernel_rfl⟩⟩
theorem ty75 : TyB 75 1 false := ⟨by kernel_rfl, by kernel_rfl⟩
theorem ze75 : ZeroB 75 (.nilFunc) := by unfold ZeroB; kernel_rfl
theorem ty78 : TyB 78 1 false := ⟨by kernel_rfl, by kernel_rfl⟩
theorem ze82 : ZeroB 82 (.agg #[.pointer none, .slice none 0 0]) := by unfold ZeroB; kernel_rfl
theorem fi82_1 : FieldB 82 1 1 := ⟨⟨_, _, Tryd.underlying82, rfl, rfl, 0, by kernel_rfl⟩⟩
theorem ty83 : TyB 83 1 false := ⟨by kernel_rfl, by kernel_rfl⟩
theorem ze83 : ZeroB 83 (.nilFunc) := by unfold ZeroB; kernel_rfl
end Go.Proofs.YtpeoodkepjhhiaaDoor
namespace Go.Proofs.YtpeoodkepjhhiaaDoor
open Go
/-- The name of the library's table, as the row has it. -/
def tabN : String := match (Rows.vtreeMeetsRow.laid)[2]? with
  | some p => p.1
  | none => ""
end Go.Proofs.YtpeoodkepjhhiaaDoor
namespace Go.Proofs
open Go.Shelf Go.RowKit Go.Sort Go.Lib
def Tryd.lays169_ren : Go.Shelf.Ren := ⟨fun | 169 => 70 | n => n, fun | 70 => 80 | 9 => 9 | 0 => 0 | 72 => 82 | 37 => 32 | 127 => 96 | 3 => 3 | 5 => 5 | n => n, fun | n => n⟩
theorem Tryd.lays169 : Go.Proofs.Lays.n169 Tryd.prog Tryd.lays169_ren := {
  mixed := by kernel_rfl
  f169 := Tryd.func70.trans (congrArg some (by kernel_rfl))
  t0 := Tryd.underlying0
  a0 := Tryd.isAgg0
  z0 := Tryd.sizeOf0
  v0 := Tryd.zeroValue0
  t3 := Tryd.underlying3
  a3 := Tryd.isAgg3
  z3 := Tryd.sizeOf3
  v3 := Tryd.zeroValue3
  t9 := Tryd.underlying9
  a9 := Tryd.isAgg9
  z9 := Tryd.sizeOf9
  v9 := Tryd.zeroValue9
  t37 := Tryd.underlying32
  a37 := Tryd.isAgg32
  z37 := Tryd.sizeOf32
  v37 := Tryd.zeroValue32
  t70 := Tryd.underlying80
  a70 := Tryd.isAgg80
  z70 := Tryd.sizeOf80
  v70 := Tryd.zeroValue80
  t72 := Tryd.underlying82
  a72 := Tryd.isAgg82
  z72 := Tryd.sizeOf82
  v72 := Tryd.zeroValue82
  t127 := Tryd.underlying96
  a127 := Tryd.isAgg96
  z127 := Tryd.sizeOf96
  v127 := Tryd.zeroValue96 }
theorem Tryd.Builder_Extra_169 : Builder.Extra Tryd.prog Tryd.lays169_ren := {
  sizeBuilder := by kernel_rfl
  liesBuilder := by kernel_rfl
  t5 := Tryd.underlying5
  a5 := Tryd.isAgg5
  z5 := Tryd.sizeOf5
  v5 := Tryd.zeroValue5
  infoByte := by kernel_rfl
  cellsByte := by kernel_rfl
  sizeByte := by kernel_rfl
  neB5 := by decide }
theorem Tryd.Builder_String (B b : Nat) (l : List UInt8) (w : World) (h : Lib.IsBuilder 82 5 B b (Lib.byteCells l) w) (h0 : l ≠ []) :
    Calls Tryd.prog 70 #[.pointer (some ⟨b, 0, none⟩)] w fun e w' => e = .returned (.string ⟨l.toArray⟩) ∧ Below B w w' := Any.Builder_String Tryd.lays169 Tryd.Builder_Extra_169 B b l w h h0
def Tryd.laysM171_ren : Go.Shelf.Ren := ⟨fun | 171 => 68 | 243 => 82 | 246 => 86 | 283 => 87 | 284 => 88 | 285 => 89 | 286 => 90 | 129 => 92 | 317 => 91 | 318 => 93 | 319 => 94 | 320 => 95 | 337 => 96 | 338 => 97 | n => n, fun | 3 => 3 | 9 => 9 | 2 => 2 | 4 => 4 | 171 => 102 | 0 => 0 | 53 => 55 | 37 => 32 | 5 => 5 | 173 => 105 | 212 => 108 | 51 => 109 | 20 => 20 | 213 => 110 | 46 => 43 | 232 => 114 | 233 => 115 | n => n, fun | 17 => 0 | 18 => 1 | 19 => 2 | n => n⟩
theorem Tryd.laysM171 : Go.Proofs.LaysM.n171 Tryd.prog Tryd.laysM171_ren := {
  mixed := by kernel_rfl
  f129 := Tryd.func92.trans (congrArg some (by kernel_rfl))
  f171 := Tryd.func68.trans (congrArg some (by kernel_rfl))
  f243 := Tryd.func82.trans (congrArg some (by kernel_rfl))
  f246 := Tryd.func86.trans (congrArg some (by kernel_rfl))
  f283 := Tryd.func87.trans (congrArg some (by kernel_rfl))
  f284 := Tryd.func88.trans (congrArg some (by kernel_rfl))
  f285 := Tryd.func89.trans (congrArg some (by kernel_rfl))
  f286 := Tryd.func90.trans (congrArg some (by kernel_rfl))
  f317 := Tryd.func91.trans (congrArg some (by kernel_rfl))
  f318 := Tryd.func93.trans (congrArg some (by kernel_rfl))
  f319 := Tryd.func94.trans (congrArg some (by kernel_rfl))
  f320 := Tryd.func95.trans (congrArg some (by kernel_rfl))
  f337 := Tryd.func96.trans (congrArg some (by kernel_rfl))
  f338 := Tryd.func97.trans (congrArg some (by kernel_rfl))
  t0 := Tryd.underlying0
  a0 := Tryd.isAgg0
  z0 := Tryd.sizeOf0
  v0 := Tryd.zeroValue0
  t2 := Tryd.underlying2
  a2 := Tryd.isAgg2
  z2 := Tryd.sizeOf2
  v2 := Tryd.zeroValue2
  t3 := Tryd.underlying3
  a3 := Tryd.isAgg3
  z3 := Tryd.sizeOf3
  v3 := Tryd.zeroValue3
  t4 := Tryd.underlying4
  a4 := Tryd.isAgg4
  z4 := Tryd.sizeOf4
  v4 := Tryd.zeroValue4
  t5 := Tryd.underlying5
  a5 := Tryd.isAgg5
  z5 := Tryd.sizeOf5
  v5 := Tryd.zeroValue5
  t9 := Tryd.underlying9
  a9 := Tryd.isAgg9
  z9 := Tryd.sizeOf9
  v9 := Tryd.zeroValue9
  t20 := Tryd.underlying20
  a20 := Tryd.isAgg20
  z20 := Tryd.sizeOf20
  v20 := Tryd.zeroValue20
  t37 := Tryd.underlying32
  a37 := Tryd.isAgg32
  z37 := Tryd.sizeOf32
  v37 := Tryd.zeroValue32
  t46 := Tryd.underlying43
  a46 := Tryd.isAgg43
  z46 := Tryd.sizeOf43
  v46 := Tryd.zeroValue43
  t51 := Tryd.underlying109
  a51 := Tryd.isAgg109
  z51 := Tryd.sizeOf109
  v51 := Tryd.zeroValue109
  t53 := Tryd.underlying55
  a53 := Tryd.isAgg55
  z53 := Tryd.sizeOf55
  v53 := Tryd.zeroValue55
  t171 := Tryd.underlying102
  a171 := Tryd.isAgg102
  z171 := Tryd.sizeOf102
  v171 := Tryd.zeroValue102
  t173 := Tryd.underlying105
  a173 := Tryd.isAgg105
  z173 := Tryd.sizeOf105
  v173 := Tryd.zeroValue105
  t212 := Tryd.underlying108
  a212 := Tryd.isAgg108
  z212 := Tryd.sizeOf108
  v212 := Tryd.zeroValue108
  t213 := Tryd.underlying110
  a213 := Tryd.isAgg110
  z213 := Tryd.sizeOf110
  t232 := Tryd.underlying114
  a232 := Tryd.isAgg114
  z232 := Tryd.sizeOf114
  v232 := Tryd.zeroValue114
  t233 := Tryd.underlying115
  a233 := Tryd.isAgg115
  z233 := Tryd.sizeOf115
  v233 := Tryd.zeroValue115
  g17 := by kernel_rfl
  g18 := by kernel_rfl
  g19 := by kernel_rfl
  i0 := by kernel_rfl
  i2 := by kernel_rfl
  i3 := by kernel_rfl
  i4 := by kernel_rfl
  i5 := by kernel_rfl
  i9 := by kernel_rfl
  i20 := by kernel_rfl
  i37 := by kernel_rfl
  i46 := by kernel_rfl
  i51 := by kernel_rfl
  i53 := by kernel_rfl
  i171 := by kernel_rfl
  i173 := by kernel_rfl
  i212 := by kernel_rfl
  i232 := by kernel_rfl
  i233 := by kernel_rfl
  m17 := by kernel_rfl
  m18 := by kernel_rfl
  m19 := by kernel_rfl }

theorem Tryd.strconv_Itoa (n : Int) (h0 : -9223372036854775808 ≤ n) (h1 : n ≤ 9223372036854775807) (w : World) (htab : Lib.TabIs Tryd.prog w YtpeoodkepjhhiaaDoor.tabN .u64 Lib.pow10Tab) :
    Calls Tryd.prog 68 #[.int .i64 n] w fun e w' => e = .returned (.string ⟨(Lib.itoa n).toArray⟩) ∧ ∃ k os, w' = grow (w.drewN k) os := Any.strconv_Itoa Tryd.laysM171 n h0 h1 w htab
end Go.Proofs
namespace Go.Proofs.YtpeoodkepjhhiaaDoor
open Go Go.RowKit
def strE : ByteArray → Value := fun s => .string s
def intE : Int → Value := fun i => .int .i64 i
theorem ba_beq (a b : ByteArray) : (a == b) = decide (a = b) := by
  cases a with | mk a => cases b with | mk b =>
  have h1 : ((ByteArray.mk a) == (ByteArray.mk b)) = (a == b) := rfl
  rw [h1]
  by_cases h : a = b
  · subst h; simp
  · simp [h]
def IntsD (D : Nat → Prop) (w : World) (v : Value) (xs : List Int) : Prop :=
  ∃ A c, v = .slice A xs.length c ∧ xs.length ≤ c ∧ c ≤ maxLen ∧ (0 < xs.length → ∃ b o, D b ∧ A = some ⟨b, o, none⟩ ∧ ∀ i x, xs[i]? = some x → w.cell? ⟨b, o + i, none⟩ = some (.int .i64 x))
theorem cell_move {w w' : World} {b o : Nat} (h : w'.heap[b]? = w.heap[b]?) : w'.cell? ⟨b, o, none⟩ = w.cell? ⟨b, o, none⟩ := by simp [World.cell?, h]
theorem IntsD.move {D : Nat → Prop} {w w' : World} {v : Value} {xs : List Int} (h : IntsD D w v xs) (hk : ∀ k, D k → w'.heap[k]? = w.heap[k]?) : IntsD D w' v xs := by
  obtain ⟨A, c, h1, h2, h3, h4⟩ := h
  refine ⟨A, c, h1, h2, h3, fun hp => ?_⟩
  obtain ⟨b, o, hb, hA, hc⟩ := h4 hp
  exact ⟨b, o, hb, hA, fun i x hx => (cell_move (hk b hb)).trans (hc i x hx)⟩
theorem IntsD.mono {D D' : Nat → Prop} {w : World} {v : Value} {xs : List Int} (h : IntsD D w v xs) (hD : ∀ k, D k → D' k) : IntsD D' w v xs := by
  obtain ⟨A, c, h1, h2, h3, h4⟩ := h
  refine ⟨A, c, h1, h2, h3, fun hp => ?_⟩
  obtain ⟨b, o, hb, hA, hc⟩ := h4 hp
  exact ⟨b, o, hD b hb, hA, hc⟩
theorem IntsD.V {D : Nat → Prop} {w : World} {v : Value} {xs : List Int} (h : IntsD D w v xs) {B : Nat} (hB : ∀ k, D k → k < B) : IntsV w B v xs := by
  obtain ⟨A, c, h1, h2, h3, h4⟩ := h
  refine ⟨A, c, h1, h2, h3, fun hp => ?_⟩
  obtain ⟨b, o, hb, hA, hc⟩ := h4 hp
  exact ⟨b, o, hB b hb, hA, fun i x hx => by rw [Nat.mul_one]; exact hc i x hx⟩
theorem IntsD.nil (D : Nat → Prop) (w : World) : IntsD D w (.slice none 0 0) [] := ⟨none, 0, rfl, Nat.le_refl _, Nat.zero_le _, fun h => absurd h (Nat.lt_irrefl _)⟩
theorem IntsD.of_row {w : World} {base n : Nat} {T : TypeId} {v : Value} {l : List Int} (h : w.ownsRow base T 1 v n (l.map fun x => .int .i64 x)) : IntsD (fun k => v.ownBlock = some k) w v l := by
  have hn : n = l.length := by have := h.1; simpa using this.symm
  subst hn
  rcases h.2 with ⟨rfl, h0⟩ | ⟨g, cap, cur, rfl, _, hg, h1, h2, h3, h4⟩
  · have : l = [] := List.length_eq_zero_iff.1 h0
    subst this
    exact IntsD.nil _ _
  · refine ⟨_, cap, rfl, h1, h2, fun _ => ⟨g, 0, rfl, rfl, fun i x hx => ?_⟩⟩
    have hlt : i < l.length := (List.getElem?_eq_some_iff.1 hx).1
    rw [Nat.zero_add, cell_of_row w g i cur T (0, 0) hg]
    have : (cur.toList.take (l.length * 1))[i]? = some (.int .i64 x) := by rw [h4]; simp [hx]
    rw [List.getElem?_take_of_lt (by omega)] at this
    simpa using this
theorem IntsD.of_blk {w : World} {g n : Nat} {T : TypeId} {l : List Int} (h : Blk w g T (l.map fun x => .int .i64 x).toArray) (hn : n = l.length) (hm : n ≤ maxLen) : IntsD (fun k => k = g) w (.slice (some ⟨g, 0, none⟩) n n) l := by
  subst hn
  refine ⟨_, _, rfl, Nat.le_refl _, hm, fun _ => ⟨g, 0, rfl, rfl, fun i x hx => ?_⟩⟩
  rw [Nat.zero_add, h.cell i]
  simp [hx]
def Tab (w : World) : Prop := Lib.TabIs Tryd.prog w tabN .u64 Lib.pow10Tab
theorem tab_g : ∃ g, Tryd.prog.globalNamed tabN = some g := ⟨0, by kernel_rfl⟩
def TabD (k : Nat) : Prop := Tryd.prog.globalNamed tabN = some k
theorem Tab.move {w w' : World} (h : Tab w) (hk : ∀ k, TabD k → w'.heap[k]? = w.heap[k]?) : Tab w' := by
  unfold Tab Lib.TabIs World.var? at *
  obtain ⟨g, hg⟩ := tab_g
  simp only [hg, Option.bind_some] at h ⊢
  rw [hk g hg]
  exact h
theorem Tab.lt {w : World} (h : Tab w) {k : Nat} (hk : TabD k) : k < w.heap.size := by
  unfold Tab Lib.TabIs World.var? at h
  unfold TabD at hk
  simp only [hk, Option.bind_some] at h
  rcases Nat.lt_or_ge k w.heap.size with h' | h'
  · exact h'
  · rw [Array.getElem?_eq_none h'] at h; simp at h
theorem Tab.below {w w' : World} (h : Tab w) {B : Nat} (hB : w.heap.size ≤ B) (hb : Below B w w') : Tab w' := h.move (fun k hk => hb.block k (Nat.lt_of_lt_of_le (h.lt hk) hB))
def tabE : En := .ro TabD Tab
theorem tabE_holds {w : World} (h : Tab w) : tabE.holds w := ⟨h, fun _ hk => h.lt hk, fun _ _ _ hk h => h.move hk⟩
def inE (D : Nat → Prop) (v : Value) (l : List Int) : En := .ro D (fun w => IntsD D w v l)
theorem inE_holds {D : Nat → Prop} {v : Value} {l : List Int} {w : World} (h : IntsD D w v l) (hD : ∀ k, D k → k < w.heap.size) : (inE D v l).holds w := ⟨h, hD, fun _ _ _ hk h => h.move hk⟩
section
variable {Z : Bool → Nat → Prop} {w0 W : World} {R : Option Addr}
theorem rowcell {b T sz n c g : Nat} {xs : List Value} (h : W.ownsRow b T sz (.slice (some ⟨g, 0, none⟩) n c) n xs) {j : Nat} {v : Value} (hv : xs[j]? = some v) : W.cell? ⟨g, j, none⟩ = some v := by
  rcases h.2 with ⟨h1, _⟩ | ⟨g', cap, cur, h1, _, hg, _, _, _, h4⟩
  · cases h1
  · injection h1 with h1 _ _
    injection h1 with h1
    injection h1 with h1
    subst h1
    have hlt : j < xs.length := (List.getElem?_eq_some_iff.1 hv).1
    rw [cell_of_row W g j cur T (0, 0) hg]
    rw [← h4] at hv hlt
    have := List.length_take (l := cur.toList) (i := n * sz)
    rw [List.getElem?_take_of_lt (by omega)] at hv
    simpa using hv
theorem rowaddr {b T sz n c : Nat} {xs : List Value} (h : W.ownsRow b T sz (.slice R n c) n xs) (hn : 0 < n) : ∃ g, R = some ⟨g, 0, none⟩ := by
  rcases h.2 with ⟨_, h1⟩ | ⟨g', cap, cur, h1, _⟩
  · omega
  · injection h1 with h1 _ _
    exact ⟨g', h1⟩
end
theorem IntsD.cell {D : Nat → Prop} {w : World} {b o n c : Nat} {xs : List Int} (h : IntsD D w (.slice (some ⟨b, o, none⟩) n c) xs) {k : Nat} (hk : k < xs.length) : w.cell? ⟨b, o + k, none⟩ = some (.int .i64 xs[k]) := by
  obtain ⟨A, c', hv, _, _, h4⟩ := h
  obtain ⟨b', o', _, hA, hc⟩ := h4 (by omega)
  injection hv with h1 _ _
  rw [hA] at h1
  injection h1 with h1
  injection h1 with h1 h2 _
  subst h1 h2
  exact hc k _ (List.getElem?_eq_getElem hk)
theorem IntsD.form {D : Nat → Prop} {w : World} {v : Value} {xs : List Int} (h : IntsD D w v xs) (hp : 0 < xs.length) : ∃ b o c, v = .slice (some ⟨b, o, none⟩) xs.length c := by
  obtain ⟨A, c', hv, _, _, h4⟩ := h
  obtain ⟨b', o', _, hA, hc⟩ := h4 hp
  exact ⟨b', o', c', by rw [hv, hA]⟩
theorem IntsD.slice {D : Nat → Prop} {w : World} {v : Value} {xs : List Int} (h : IntsD D w v xs) : ∃ A c, v = .slice A xs.length c := by
  obtain ⟨A, c', hv, _⟩ := h
  exact ⟨A, c', hv⟩
def intCs (l : List Int) : List Value := l.map fun x => .int .i64 x
section
variable {Z : Bool → Nat → Prop} {w0 W : World}
theorem row_cap {b T sz n m c : Nat} {A : Option Addr} {xs : List Value} (h : W.ownsRow b T sz (.slice A m c) n xs) : n ≤ c := by
  rcases h.2 with ⟨_, h1⟩ | ⟨g, cap, cur, h1, _, _, h2, _⟩
  · omega
  · injection h1 with _ _ h1
    omega
end

def boolCs (l : List Bool) : List Value := l.map fun x => .bool x
theorem setI (l : List Int) (k : Nat) (x : Int) : setN (intCs l).toArray k [.int .i64 x] = (intCs (l.set k x)).toArray := by simp [setN, intCs, List.map_set]
theorem setBo (l : List Bool) (k : Nat) (x : Bool) : setN (boolCs l).toArray k [.bool x] = (boolCs (l.set k x)).toArray := by simp [setN, boolCs, List.map_set]
theorem getI {l : List Int} {k : Nat} {x : Int} (h : l[k]? = some x) : (intCs l).toArray[k]? = some (.int .i64 x) := by simp [intCs, h]
theorem getBo {l : List Bool} {k : Nat} {x : Bool} (h : l[k]? = some x) : (boolCs l).toArray[k]? = some (.bool x) := by simp [boolCs, h]
theorem made1 (z : Value) (n : Nat) : madeCells #[z] n = (List.replicate n z).toArray := by
  apply Array.ext
  · simp [madeCells]
  · intro i h1 h2
    simp [madeCells, Nat.mod_one]
section
variable {Z : Bool → Nat → Prop} {w0 w W : World} {L : List En}
theorem own_make1 (O : Own Z w0 w L) {T e bytes : Nat} {z : Value} (E : El T e 1 bytes z) (hz1 : z.cells = #[z]) (n : Nat) (hb : bytes ≤ 8) (hn : n ≤ 1000000000) {cs : Array Value} (hc : (List.replicate n z).toArray = cs) :
    ∃ g w', (∀ (ρ : Operand → Value) x y d t pos aft gd, ρ x = .int .i64 (n : Int) → ρ y = .int .i64 (n : Int) → (execOp ρ ⟨d, .makeSlice T x y, t, pos, aft, gd⟩).run Tryd.prog w = .ok (.value (.slice (some ⟨g, 0, none⟩) n n)) w') ∧ Own Z w0 w' (.blk g e cs :: L) ∧ w.heap.size = g ∧ w'.heap.size = g + 1 := by
  subst hc
  obtain ⟨i, hi, hz, hsz, hby⟩ := info_parts E.info
  have hb8 : ((i.bytes : Nat) : Int) * (n : Int) ≤ 281474976710656 := by
    rw [hby]
    have h1 : bytes * n ≤ 8 * n := Nat.mul_le_mul_right n hb
    have h2 : ((bytes * n : Nat) : Int) ≤ 281474976710656 := by omega
    rwa [Int.natCast_mul] at h2
  have hr := run_make (P := Tryd.prog) w T e i z E.under hi hz .i64 .i64 n n (by omega) (by omega) hb8 (by omega)
  rw [hsz, hz1, Int.toNat_natCast, Nat.mul_one, made1] at hr
  refine ⟨w.heap.size, _, fun ρ x y d t pos aft gd hx hy => ?_, O.newb ((Below.refl _ _).alloc (Nat.le_refl _) _) (Blk.new w e _) rfl, rfl, by simp⟩
  simp only [execOp, hx, hy, Sem.run_bind, hr, Result.andThen_ok, Sem.run_pure]
theorem Own.oldro {D : Nat → Prop} {p : World → Prop} (h : Own Z0 w0 W L) (he : (En.ro D p).holds w0) : Own Z0 w0 W (.ro D p :: L) := by
  refine ⟨h.fr, fun e q => ?_, List.Pairwise.cons (fun b hb ho k h1 h2 => ?_) h.dist, fun e q k hk => ?_⟩
  · rcases List.mem_cons.1 q with rfl | q
    · exact En.move he h.old.size (fun k hk => h.old.block k (he.2.1 k hk))
    · exact h.has e q
  · have := he.2.1 k h1
    rcases h.free b hb k h2 with h3 | h3
    · rcases ho with ho | ho
      · exact ho
      · exact absurd (h3.2 ho) (by simp [Z0])
    · omega
  · rcases List.mem_cons.1 q with rfl | q
    · exact .inl ⟨rfl, fun ho => ho.elim⟩
    · exact h.free e q k hk
/-- A block as a full row. -/
theorem Own.blkrow {g T n : Nat} {cs : Array Value} {xs : List Value} (h : Own Z w0 W (.blk g T cs :: L)) (hc : cs = xs.toArray) (hn : n = xs.length) (hm : n ≤ 1000000000) : Own Z w0 W (.row (.slice (some ⟨g, 0, none⟩) n n) T 1 n xs :: L) := by
  subst hc hn
  refine h.as (e' := .row (.slice (some ⟨g, 0, none⟩) xs.length xs.length) T 1 xs.length xs) ⟨by simp, .inr ⟨g, xs.length, xs.toArray, rfl, Nat.zero_le _, h.blk 0 rfl, Nat.le_refl _, by unfold maxLen; omega, by simp, by simp⟩⟩ (fun k hk => ?_) (fun _ => trivial)
  have : some g = some k := hk
  injection this with this
  exact this.symm
end
section
variable {ρ : Operand → Value} {d : Option Tmp} {x y z : Operand} {t T : TypeId} {pos : String} {aft : Array Edge} {gd : Option (Nat × Bool)} {w : World}
theorem ex_sliceHi {e sz n c : Nat} {h : Nat} {A : Option Addr} (hT : ElB T e sz) (hx : ρ x = .slice A n c) (hy : ρ y = .int .i64 (h : Int)) (hh : h ≤ c) : (execOp ρ ⟨d, .slice T x none (some y) none, t, pos, aft, gd⟩).run Tryd.prog w = .ok (.value (.slice A h c)) w := by
  have hadd : ∀ a : Addr, a.add 0 = a := fun a => by cases a with | mk b o s => unfold Addr.add; cases s <;> simp
  cases A with
  | none => simp [execOp, Instr.sliceAt, Instr.slice, run_underlying hT.elem, hx, hy, Instr.sliceBounds, Instr.sliceBound, asIntOf, hh, run_size hT.size]
  | some a => simp [execOp, Instr.sliceAt, Instr.slice, run_underlying hT.elem, hx, hy, Instr.sliceBounds, Instr.sliceBound, asIntOf, hh, run_size hT.size, hadd]
end


section
variable {P : Program} {ops : Array Oper} {Q : Exit → Act → World → Prop} {S : World → Prop} {k fuel n i d : Nat} {listed listed' : Array Bool} {m : List (Nat × Value)} {w w' : World} {op : Op} {t : TypeId} {pos : String} {aft : Array Edge} {gd : Option (Nat × Bool)} {v : Value}
def at_ (P : Program) (ops : Array Oper) (Q : Exit → Act → World → Prop) (S : World → Prop) (k fuel : Nat) (listed : Array Bool) (n : Nat) (m : List (Nat × Value)) (w : World) : Prop := ∀ a, Fm n m a → AnyT P .any ops Q S k fuel listed a w
theorem at_sub2 {r : List (Nat × Value)} (h : at_ P ops Q S k fuel listed n r w) (hs : Sub r m) : at_ P ops Q S k fuel listed n m w := fun a ha => h a (ha.sub hs)
theorem at_start {id : Nat} {l : List Oper} (S : World → Prop) (k : Nat) (hm : P.follows .mixedOrders = true) (hf : l.toArray.size = fuel) (hl : Array.replicate l.toArray.size false = listed) (hS : S w.drew) (h : at_ P l.toArray Q S k fuel listed n m w.drew) : cw P (.region id l.toArray true) Q n m w := fun a ha =>
  region_T hm S k hS (fun _ => by subst hf hl; exact h a ha)
/-- What is asked of an operation that is taken ahead of all others. -/
def takeB (ops : Array Oper) (listed listed' : Array Bool) (i k : Nat) (load : Bool) : Bool :=
  Region.noSelect ops && Region.free .any ops listed i && (Region.ready .any ops listed).contains i && (i != k) && (!load || (waitB .any ops k i && !(listed.getD k false))) && (listed.setIfInBounds i true == listed')
theorem at_take0 (ho : ops[i]? = some ⟨some d, op, t, pos, aft, gd⟩) (hb : takeB ops listed listed' i k true = true) (hQ : PQ Q) (hS : S w) (hr : ∀ ρ, Reads m ρ → ∀ W, S W → (execOp ρ ⟨some d, op, t, pos, aft, gd⟩).run P W = .ok (.value v) W) (hg : wantedM ops m gd = some true) (hd : Nat.blt d n = true)
    (h : at_ P ops Q S k fuel listed' n ((d, v) :: m) w) : at_ P ops Q S k (fuel + 1) listed n m w := fun a ha => by
  simp only [takeB, Bool.and_eq_true, beq_iff_eq, Bool.not_true, Bool.false_or] at hb
  obtain ⟨⟨⟨⟨⟨h1, h2⟩, h3⟩, h4⟩, h5, h6⟩, h7⟩ := hb
  subst h7
  refine anyT_take ho h1 h2 h3 (by simp only [Bool.and_eq_true]; exact ⟨⟨h5, h6⟩, h4⟩) (fun c a w => hQ c a _ _ w) (.inl ⟨ha.wanted hg, hr _ ha.reads⟩) hS ?_
  exact h _ (ha.put (by simpa [Nat.blt_eq] using hd) v)
theorem at_take1 (ho : ops[i]? = some ⟨some d, op, t, pos, aft, gd⟩) (hb : takeB ops listed listed' i k false = true) (hQ : PQ Q) (hS : listed.getD k false = false → S w) (hr : ∀ ρ, Reads m ρ → ∀ W, (execOp ρ ⟨some d, op, t, pos, aft, gd⟩).run P W = .ok (.value v) W) (hg : wantedM ops m gd = some true) (hd : Nat.blt d n = true)
    (h : at_ P ops Q S k fuel listed' n ((d, v) :: m) w) : at_ P ops Q S k (fuel + 1) listed n m w := fun a ha => by
  simp only [takeB, Bool.and_eq_true, beq_iff_eq] at hb
  obtain ⟨⟨⟨⟨⟨h1, h2⟩, h3⟩, h4⟩, _⟩, h7⟩ := hb
  subst h7
  refine anyT_takeY ho h1 h2 h3 h4 (fun c a w => hQ c a _ _ w) (.inl ⟨ha.wanted hg, fun W _ => hr _ ha.reads W⟩) hS ?_
  exact h _ (ha.put (by simpa [Nat.blt_eq] using hd) v)
/-- The operation that comes up next. -/
def stp (P : Program) (ops : Array Oper) (Q : Exit → Act → World → Prop) (S : World → Prop) (k fuel : Nat) (listed : Array Bool) (n : Nat) (m : List (Nat × Value)) (w : World) (i : Nat) : Prop :=
  ∀ a, Fm n m a → wpOp P ops Q i (fun a' w' => ((listed.setIfInBounds i true).getD k false = false → S w') ∧ AnyT P .any ops Q S k fuel (listed.setIfInBounds i true) a' w') a w
def allS (st : Nat → Prop) : List Nat → Prop
  | [] => True
  | i :: r => st i ∧ allS st r
theorem allS_mem {st : Nat → Prop} : ∀ {l : List Nat}, allS st l → ∀ i ∈ l, st i
  | [], _, i, hi => by cases hi
  | j :: r, h, i, hi => by
    rcases List.mem_cons.1 hi with rfl | hi
    · exact h.1
    · exact allS_mem h.2 i hi
theorem at_branch (is : List Nat) (hr : (Region.ready .any ops listed == is && !is.isEmpty) = true) (h : allS (stp P ops Q S k fuel listed n m w) is) : at_ P ops Q S k (fuel + 1) listed n m w := fun a ha => by
  simp only [Bool.and_eq_true, beq_iff_eq] at hr
  refine ⟨fun h0 => ?_, fun i hi => allS_mem h i (hr.1 ▸ hi) a ha⟩
  have := hr.1.symm.trans h0
  subst this
  simp at hr
theorem at_done (hr : (Region.ready .any ops listed).isEmpty = true) (h : xw Q .normal n m w) : at_ P ops Q S k fuel listed n m w := fun a ha => anyT_done (by simpa using hr) (h a ha) fuel
theorem stp_val (ho : ops[i]? = some ⟨some d, op, t, pos, aft, gd⟩) (hl : (listed.setIfInBounds i true == listed') = true) (hr : ∀ ρ, Reads m ρ → (execOp ρ ⟨some d, op, t, pos, aft, gd⟩).run P w = .ok (.value v) w') (hg : wantedM ops m gd = some true) (hd : Nat.blt d n = true) (hS : listed'.getD k false = false → S w')
    (h : at_ P ops Q S k fuel listed' n ((d, v) :: m) w') : stp P ops Q S k fuel listed n m w i := fun a ha => by
  have hl' := eq_of_beq hl
  subst hl'
  refine wpOp_step ho (fun K' hK => ?_)
  rw [if_pos (ha.wanted hg)]
  unfold Oper.wp
  rw [hr _ ha.reads]
  exact hK _ _ ⟨hS, h _ (ha.put (by simpa [Nat.blt_eq] using hd) v)⟩
theorem stp_none (ho : ops[i]? = some ⟨none, op, t, pos, aft, gd⟩) (hl : (listed.setIfInBounds i true == listed') = true) (hr : ∀ ρ, Reads m ρ → (execOp ρ ⟨none, op, t, pos, aft, gd⟩).run P w = .ok .skip w') (hg : wantedM ops m gd = some true) (hS : listed'.getD k false = false → S w')
    (h : at_ P ops Q S k fuel listed' n m w') : stp P ops Q S k fuel listed n m w i := fun a ha => by
  have hl' := eq_of_beq hl
  subst hl'
  refine wpOp_step ho (fun K' hK => ?_)
  rw [if_pos (ha.wanted hg)]
  unfold Oper.wp
  rw [hr _ ha.reads]
  exact hK _ _ ⟨hS, h _ ha⟩
end
end Go.Proofs.YtpeoodkepjhhiaaDoor
namespace Go.Proofs.YtpeoodkepjhhiaaDoor
open Go Go.RowKit
theorem at_name {P : Program} {ops : Array Oper} {Q : Exit → Act → World → Prop} {S : World → Prop} {k fuel n : Nat} {listed : Array Bool} {m : List (Nat × Value)} {w : World}
    (h : ∀ AT : Nat → Array Bool → Nat → List (Nat × Value) → World → Prop, (∀ f l n m w, at_ P ops Q S k f l n m w → AT f l n m w) → (∀ f l n m w, AT f l n m w → at_ P ops Q S k f l n m w) → AT fuel listed n m w) : at_ P ops Q S k fuel listed n m w :=
  h (at_ P ops Q S k) (fun _ _ _ _ _ h => h) (fun _ _ _ _ _ h => h)

section
variable {Z : Bool → Nat → Prop} {w0 w W W' : World} {L A' : List En}
theorem Own.join (h : Own Z w0 W L) (h' : Own Z0 W W' A') (ho : ∀ e ∈ A', e.own) : Own Z w0 W' (A' ++ L) :=
  h.step (A := []) (Frame.of_below h'.old) (fun _ _ hn => hn.elim) h'.has h'.dist (fun e he k hk => by
    rcases h'.free e he k hk with h1 | h1
    · exact absurd (h1.2 (ho e he)) (by simp [Z0])
    · exact .inr h1)
theorem Own.join1 {e : En} (h : Own Z w0 W L) (h' : Own Z0 W W' [e]) (ho : e.own) : Own Z w0 W' (e :: L) := h.join h' (fun e' he => by rw [List.mem_singleton.1 he]; exact ho)
end
def Src (w : World) (A : Option Addr) (m : Nat) (news : List Value) : Prop := (A = none ∧ m = 0 ∧ news = []) ∨ ∃ a, A = some a ∧ ∀ j u, news[j]? = some u → w.cell? (a.add j) = some u
section
variable {Z : Bool → Nat → Prop} {w0 w W : World} {L : List En}
end
section
variable {w : World}
theorem run_loadN {g o n : Nat} {T : TypeId} {vs : List Value} (hT : TyB T n true) (hn : vs.length = n) (h : ∀ j v, vs[j]? = some v → w.cell? ⟨g, o + j, none⟩ = some v) : (loadVar T ⟨g, o, none⟩).run Tryd.prog w = .ok (.agg vs.toArray) w := by
  have := run_loadFrom g o vs h n 0 #[] (by omega)
  simp [loadVar, run_isAgg hT, run_size hT.size, loadCells, this]
end
theorem res1c {P : Program} {fn : Func} {a g : Nat} {v : Value} {T0 : TypeId} (h : fn.results = #[.cell a T0]) (T : Array Value) (w : World) (h1 : T[a]? = some (.pointer (some ⟨g, 0, none⟩))) (hv : (loadVar T0 ⟨g, 0, none⟩).run P w = .ok v w) : (results fn T).run P w = .ok v w := by
  simp [results, h, Array.getD_eq_getD_getElem?, h1, hv, asAddr]
theorem res0 {fn : Func} {P : Program} (h : fn.results = #[]) (T : Array Value) (w : World) : (results fn T).run P w = .ok (.tuple #[]) w := by
  simp [results, h]
section
variable {P : Program} {ops : Array Oper} {Q : Exit → Act → World → Prop} {S C : World → Prop} {r : List (Nat × Nat)} {rest : List Oper} {n : Nat} {m : List (Nat × Value)} {w w' : World} {i d : Nat} {op : Op} {t : TypeId} {pos : String} {aft : Array Edge} {gd : Option (Nat × Bool)} {v : Value}
theorem wt2_skip (ho : ops[i]? = some ⟨some d, op, t, pos, aft, gd⟩) (hg : wantedM ops m gd = some false) (hd : Nat.blt d n = true) (hS : S w) (h : wt P ops Q S r n ((d, undef) :: m) w) : wt P ops Q S ((i, 2) :: r) n m w := fun a ha =>
  ⟨_, ho, fun K hK => by
    rw [if_neg (by rw [ha.wanted hg]; decide)]
    exact hK.out _ _ hS (fun _ => h _ (ha.put (by simpa [Nat.blt_eq] using hd) undef))⟩
end
section
variable {ρ : Operand → Value} {d : Option Tmp} {x y z : Operand} {t T : TypeId} {pos : String} {aft : Array Edge} {gd : Option (Nat × Bool)} {w : World}
end
end Go.Proofs.YtpeoodkepjhhiaaDoor
namespace Go.Proofs.YtpeoodkepjhhiaaDoor

structure VN where
  l : Int
  r : Int
  v : Int
instance : DecidableEq VN := fun a b => match a, b with
  | ⟨a1, a2, a3⟩, ⟨b1, b2, b3⟩ => if h : a1 = b1 ∧ a2 = b2 ∧ a3 = b3 then .isTrue (by obtain ⟨rfl, rfl, rfl⟩ := h; rfl) else .isFalse (by intro q; injection q with h1 h2 h3; exact h ⟨h1, h2, h3⟩)
def lfV (v : Int) : VN := ⟨-1, -1, v⟩
def lf (x : VN) : Bool := decide (x.l = -1) && decide (x.r = -1) && decide (1 ≤ x.v) && decide (x.v ≤ 128)
theorem lf_iff (x : VN) : lf x = true ↔ x.l = -1 ∧ x.r = -1 ∧ 1 ≤ x.v ∧ x.v ≤ 128 := by simp [lf, and_assoc]
theorem lf_eq {x : VN} (h : lf x = true) : x = lfV x.v := by
  obtain ⟨h1, h2, _⟩ := (lf_iff x).1 h
  cases x; simp_all [lfV]
def varOf (x : VN) : List Int := if lf x then [x.v] else []
def kidsOf (x : VN) : List Int := if lf x then [] else [x.l, x.r]
def varsL (ts : List VN) : List Int := ts.flatMap varOf
def kidsL (ts : List VN) : List Int := ts.flatMap kidsOf
/-- An inner node's children lie before it. -/
def nodeB (i : Nat) (x : VN) : Bool := lf x || (decide (x.v = 0) && decide (0 ≤ x.l) && decide (x.l < i) && decide (0 ≤ x.r) && decide (x.r < i))
def nodesB (ts : List VN) : Bool := (List.range ts.length).all fun i => match ts[i]? with
  | some x => nodeB i x
  | none => false
def preB (ts : List VN) : Bool := nodesB ts && decide (varsL ts).Nodup && decide (kidsL ts).Nodup
def coverB (ts : List VN) : Bool := (List.range (ts.length - 1)).all fun k => decide ((k : Int) ∈ kidsL ts)
def okT (ts : List VN) : Bool := decide (0 < ts.length) && decide (ts.length ≤ 255) && preB ts && coverB ts
/-- The reference's. -/
def rnodeB (i : Nat) (x : VN) : Bool := nodeB i x && (lf x || decide (x.l ≠ x.r))
def rnodesB (ts : List VN) : Bool := (List.range ts.length).all fun i => match ts[i]? with
  | some x => rnodeB i x
  | none => false
def rpreB (ts : List VN) : Bool := rnodesB ts && decide (varsL ts).Nodup
def rcoverB (ts : List VN) : Bool := (List.range (ts.length - 1)).all fun k => decide ((kidsL ts).count (k : Int) = 1)
def rokT (ts : List VN) : Bool := decide (0 < ts.length) && rpreB ts && rcoverB ts

/-! ### Prefixes -/
theorem varsL_snoc (l : List VN) (x : VN) : varsL (l ++ [x]) = varsL l ++ varOf x := by simp [varsL]
theorem kidsL_snoc (l : List VN) (x : VN) : kidsL (l ++ [x]) = kidsL l ++ kidsOf x := by simp [kidsL]
theorem nodesB_iff (ts : List VN) : nodesB ts = true ↔ ∀ i x, ts[i]? = some x → nodeB i x = true := by
  unfold nodesB
  rw [List.all_eq_true]
  constructor
  · intro h i x hx
    have := h i (List.mem_range.2 (List.getElem?_eq_some_iff.1 hx).1)
    rw [hx] at this; exact this
  · intro h i hi
    have hlt := List.mem_range.1 hi
    rw [List.getElem?_eq_getElem hlt]
    exact h i _ (List.getElem?_eq_getElem hlt)
theorem get_snoc {α : Type} {l : List α} {x y : α} {i : Nat} : (l ++ [x])[i]? = some y ↔ l[i]? = some y ∨ (i = l.length ∧ y = x) := by
  by_cases h : i < l.length
  · rw [List.getElem?_append_left h]
    constructor
    · exact .inl
    · rintro (h1 | ⟨h1, _⟩)
      · exact h1
      · omega
  · rw [List.getElem?_append_right (by omega)]
    by_cases he : i = l.length
    · subst he
      simp [eq_comm]
    · rw [List.getElem?_eq_none (by simp; omega)]
      have : l[i]? = none := List.getElem?_eq_none (by omega)
      simp [this, he]
theorem nodesB_snoc (l : List VN) (x : VN) : nodesB (l ++ [x]) = (nodesB l && nodeB l.length x) := by
  rw [Bool.eq_iff_iff, Bool.and_eq_true, nodesB_iff, nodesB_iff]
  constructor
  · intro h
    exact ⟨fun i y hy => h i y (get_snoc.2 (.inl hy)), h _ x (get_snoc.2 (.inr ⟨rfl, rfl⟩))⟩
  · rintro ⟨h1, h2⟩ i y hy
    rcases get_snoc.1 hy with h3 | ⟨rfl, rfl⟩
    · exact h1 i y h3
    · exact h2
theorem nodup_snoc {α : Type} {l : List α} {x : α} : (l ++ [x]).Nodup ↔ l.Nodup ∧ x ∉ l := by
  rw [List.nodup_append]
  constructor
  · rintro ⟨h1, _, h2⟩
    exact ⟨h1, fun hx => h2 x hx x (by simp) rfl⟩
  · rintro ⟨h1, h2⟩
    exact ⟨h1, by simp, fun a ha b hb => by
      rw [List.mem_singleton.1 hb]
      rintro rfl; exact h2 ha⟩
theorem nodup_pre {α : Type} {l m : List α} (h : (l ++ m).Nodup) : l.Nodup := (List.nodup_append.1 h).1
/-- A prefix of what is valid so far. -/
theorem preB_take {ts : List VN} (h : preB ts = true) (k : Nat) : preB (ts.take k) = true := by
  unfold preB at h ⊢
  simp only [Bool.and_eq_true, decide_eq_true_eq] at h ⊢
  obtain ⟨⟨h1, h2⟩, h3⟩ := h
  refine ⟨⟨(nodesB_iff _).2 fun i x hx => (nodesB_iff _).1 h1 i x ?_, ?_⟩, ?_⟩
  · rw [List.getElem?_take] at hx
    split at hx
    · exact hx
    · cases hx
  · have e : varsL ts = varsL (ts.take k) ++ varsL (ts.drop k) := by
      unfold varsL; rw [← List.flatMap_append, List.take_append_drop]
    rw [e] at h2; exact nodup_pre h2
  · have e : kidsL ts = kidsL (ts.take k) ++ kidsL (ts.drop k) := by
      unfold kidsL; rw [← List.flatMap_append, List.take_append_drop]
    rw [e] at h3; exact nodup_pre h3
theorem okT_parts {ts : List VN} : okT ts = true ↔ 0 < ts.length ∧ ts.length ≤ 255 ∧ preB ts = true ∧ coverB ts = true := by simp [okT, and_assoc]
/-- A node more. -/
theorem pre_leaf {l : List VN} {x : VN} (h : preB l = true) (hx : lf x = true) : preB (l ++ [x]) = !decide (x.v ∈ varsL l) := by
  unfold preB at h ⊢
  simp only [Bool.and_eq_true, decide_eq_true_eq] at h
  obtain ⟨⟨h1, h2⟩, h3⟩ := h
  rw [nodesB_snoc, varsL_snoc, kidsL_snoc, h1]
  simp only [varOf, kidsOf, hx, if_true, List.append_nil, nodeB, Bool.true_or, Bool.and_true, Bool.true_and, decide_eq_true h3, nodup_snoc]
  simp [h2]
theorem pre_var {l : List VN} {x : VN} (hx : lf x = false) (hv : x.v ≠ 0) : preB (l ++ [x]) = false := by
  unfold preB
  rw [nodesB_snoc]
  simp [nodeB, hx, hv]
theorem pre_l {l : List VN} {x : VN} (hx : lf x = false) (hl : x.l < 0 ∨ (l.length : Int) ≤ x.l ∨ x.l ∈ kidsL l) : preB (l ++ [x]) = false := by
  rw [Bool.eq_false_iff]
  intro q
  unfold preB at q
  rw [nodesB_snoc, kidsL_snoc] at q
  simp only [Bool.and_eq_true, decide_eq_true_eq, nodeB, hx, Bool.false_or, kidsOf, if_false, Bool.false_eq_true] at q
  obtain ⟨⟨⟨_, ⟨⟨⟨⟨_, q1⟩, q2⟩, _⟩, _⟩⟩, _⟩, q3⟩ := q
  rcases hl with h1 | h1 | h1
  · omega
  · omega
  · exact (List.nodup_append.1 q3).2.2 _ h1 x.l (by simp) rfl
theorem pre_r {l : List VN} {x : VN} (hx : lf x = false) (hr : x.r < 0 ∨ (l.length : Int) ≤ x.r ∨ x.r ∈ kidsL l ++ [x.l]) : preB (l ++ [x]) = false := by
  rw [Bool.eq_false_iff]
  intro q
  unfold preB at q
  rw [nodesB_snoc, kidsL_snoc] at q
  simp only [Bool.and_eq_true, decide_eq_true_eq, nodeB, hx, Bool.false_or, kidsOf, if_false, Bool.false_eq_true] at q
  obtain ⟨⟨⟨_, ⟨⟨⟨⟨_, _⟩, _⟩, q1⟩, q2⟩⟩, _⟩, q3⟩ := q
  rcases hr with h1 | h1 | h1
  · omega
  · omega
  · have : kidsL l ++ [x.l, x.r] = (kidsL l ++ [x.l]) ++ [x.r] := by simp
    rw [this] at q3
    exact (nodup_snoc.1 q3).2 h1
theorem pre_in {l : List VN} {x : VN} (h : preB l = true) (hx : lf x = false) (hv : x.v = 0) (h1 : 0 ≤ x.l) (h2 : x.l < l.length) (h3 : x.l ∉ kidsL l) (h4 : 0 ≤ x.r) (h5 : x.r < l.length) (h6 : x.r ∉ kidsL l ++ [x.l]) : preB (l ++ [x]) = true := by
  unfold preB at h ⊢
  simp only [Bool.and_eq_true, decide_eq_true_eq] at h ⊢
  obtain ⟨⟨g1, g2⟩, g3⟩ := h
  rw [nodesB_snoc, varsL_snoc, kidsL_snoc]
  refine ⟨⟨?_, ?_⟩, ?_⟩
  · simp [g1, nodeB, hv, h1, h2, h4, h5]
  · simpa [varOf, hx] using g2
  · have : kidsL l ++ kidsOf x = (kidsL l ++ [x.l]) ++ [x.r] := by simp [kidsOf, hx]
    rw [this]
    exact nodup_snoc.2 ⟨nodup_snoc.2 ⟨g3, h3⟩, h6⟩
/-! ### Flags -/
def flagL (n : Nat) (ks : List Int) : List Bool := (List.range n).map fun k : Nat => decide ((k : Int) ∈ ks)
theorem flagL_len (n : Nat) (ks : List Int) : (flagL n ks).length = n := by simp [flagL]
theorem flagL_get {n k : Nat} (ks : List Int) (h : k < n) : (flagL n ks)[k]? = some (decide ((k : Int) ∈ ks)) := by simp [flagL, h]
theorem flagL_set (n k : Nat) (ks : List Int) : (flagL n ks).set k true = flagL n (ks ++ [(k : Int)]) := by
  apply List.ext_getElem?
  intro i
  rw [List.getElem?_set]
  by_cases h : i < n
  · by_cases hk : k = i
    · subst hk
      simp [flagL, h]
    · have : ¬ ((i : Int) = k) := by omega
      simp [flagL, h, hk, this]
  · simp [flagL, h]
    omega
theorem flagL_nil (n : Nat) : flagL n [] = List.replicate n false := by
  apply List.ext_getElem?
  intro i
  by_cases h : i < n <;> simp [flagL, h]
def cntL (n : Nat) (ks : List Int) : List Int := (List.range n).map fun k : Nat => ((ks.count (k : Int) : Nat) : Int)
end Go.Proofs.YtpeoodkepjhhiaaDoor
namespace Go.Proofs.YtpeoodkepjhhiaaDoor
open Go
theorem in_14 : Enters Tryd.prog 14 := enters_of Tryd.func14 (by kernel_rfl) rfl
theorem in_15 : Enters Tryd.prog 15 := enters_of Tryd.func15 (by kernel_rfl) rfl
theorem in_17 : Enters Tryd.prog 17 := enters_of Tryd.func17 (by kernel_rfl) rfl
theorem in_20 : Enters Tryd.prog 20 := enters_of Tryd.func20 (by kernel_rfl) rfl
theorem in_21 : Enters Tryd.prog 21 := enters_of Tryd.func21 (by kernel_rfl) rfl
theorem in_22 : Enters Tryd.prog 22 := enters_of Tryd.func22 (by kernel_rfl) rfl
theorem in_23 : Enters Tryd.prog 23 := enters_of Tryd.func23 (by kernel_rfl) rfl
theorem in_24 : Enters Tryd.prog 24 := enters_of Tryd.func24 (by kernel_rfl) rfl
theorem in_31 : Enters Tryd.prog 31 := enters_of Tryd.func31 (by kernel_rfl) rfl
theorem in_32 : Enters Tryd.prog 32 := enters_of Tryd.func32 (by kernel_rfl) rfl
theorem in_34 : Enters Tryd.prog 34 := enters_of Tryd.func34 (by kernel_rfl) rfl
theorem in_39 : Enters Tryd.prog 39 := enters_of Tryd.func39 (by kernel_rfl) rfl
theorem in_47 : Enters Tryd.prog 47 := enters_of Tryd.func47 (by kernel_rfl) rfl
theorem in_50 : Enters Tryd.prog 50 := enters_of Tryd.func50 (by kernel_rfl) rfl
theorem in_51 : Enters Tryd.prog 51 := enters_of Tryd.func51 (by kernel_rfl) rfl
theorem in_52 : Enters Tryd.prog 52 := enters_of Tryd.func52 (by kernel_rfl) rfl
theorem in_53 : Enters Tryd.prog 53 := enters_of Tryd.func53 (by kernel_rfl) rfl
theorem in_54 : Enters Tryd.prog 54 := enters_of Tryd.func54 (by kernel_rfl) rfl
theorem in_55 : Enters Tryd.prog 55 := enters_of Tryd.func55 (by kernel_rfl) rfl
theorem in_59 : Enters Tryd.prog 59 := enters_of Tryd.func59 (by kernel_rfl) rfl
theorem in_60 : Enters Tryd.prog 60 := enters_of Tryd.func60 (by kernel_rfl) rfl
theorem in_61 : Enters Tryd.prog 61 := enters_of Tryd.func61 (by kernel_rfl) rfl
theorem in_63 : Enters Tryd.prog 63 := enters_of Tryd.func63 (by kernel_rfl) rfl
theorem in_66 : Enters Tryd.prog 66 := enters_of Tryd.func66 (by kernel_rfl) rfl
theorem in_67 : Enters Tryd.prog 67 := enters_of Tryd.func67 (by kernel_rfl) rfl
theorem in_68 : Enters Tryd.prog 68 := enters_of Tryd.func68 (by kernel_rfl) rfl
theorem in_69 : Enters Tryd.prog 69 := enters_of Tryd.func69 (by kernel_rfl) rfl
theorem in_70 : Enters Tryd.prog 70 := enters_of Tryd.func70 (by kernel_rfl) rfl
theorem in_75 : Enters Tryd.prog 75 := enters_of Tryd.func75 (by kernel_rfl) rfl
theorem in_76 : Enters Tryd.prog 76 := enters_of Tryd.func76 (by kernel_rfl) rfl
theorem in_79 : Enters Tryd.prog 79 := enters_of Tryd.func79 (by kernel_rfl) rfl
theorem in_81 : Enters Tryd.prog 81 := enters_of Tryd.func81 (by kernel_rfl) rfl
end Go.Proofs.YtpeoodkepjhhiaaDoor
namespace Go.Proofs.YtpeoodkepjhhiaaDoor
open Go Go.RowKit

theorem Reads.list {m : List (Nat × Value)} {ρ : Operand → Value} (h : Reads m ρ) : ∀ {xs : List Operand} {us : List Value}, evs m xs = some us → xs.map ρ = us
  | [], us, e => by injection e
  | x :: l, us, e => by
    unfold evs at e
    split at e
    · rename_i v r h1 h2
      injection e with e
      subst e
      rw [List.map_cons, h _ _ h1, h.list h2]
    · cases e
theorem ze70 : ZeroB 70 (.agg (List.replicate 129 (.bool false)).toArray) := by unfold ZeroB; kernel_rfl
/-- An array's type: its length, its element and how many cells that takes. -/
structure ArN (T n e sz : Nat) : Prop where
  elem : Tryd.prog.underlying T = some (.array n e)
  size : (Tryd.prog.info? e).map (·.size) = some sz
theorem an70 : ArN 70 129 4 1 := ⟨Tryd.underlying70, by kernel_rfl⟩
section
variable {ρ : Operand → Value} {d : Option Tmp} {x y z : Operand} {t T : TypeId} {pos : String} {aft : Array Edge} {gd : Option (Nat × Bool)} {w : World}
theorem ex_idxA {g o q n i e sz : Nat} (hT : ArN T n e sz) (hx : ρ x = .pointer (some ⟨g, o, none⟩)) (hy : ρ y = .int .i64 (i : Int)) (h1 : i < n) (hq : o + i * sz = q) : (execOp ρ ⟨d, .indexAddr T x y, t, pos, aft, gd⟩).run Tryd.prog w = .ok (.value (.pointer (some ⟨g, q, none⟩))) w := by
  subst hq
  simp [execOp, Instr.indexAt, Instr.sureAddr, hx, hy, asIntOf, run_underlying hT.elem, h1, run_size hT.size, addr_plus]
theorem ex_at2 {u v : Int} {i : Nat} {r : Int} (hx : ρ x = .agg #[.int .i64 u, .int .i64 v]) (hy : ρ y = .int .i64 (i : Int)) (hr : (i = 0 ∧ r = u) ∨ (i = 1 ∧ r = v)) : (execOp ρ ⟨d, .index 73 x y, t, pos, aft, gd⟩).run Tryd.prog w = .ok (.value (.int .i64 r)) w := by
  rcases hr with ⟨rfl, rfl⟩ | ⟨rfl, rfl⟩ <;> simp [execOp, Instr.index, asIntOf, part, run_underlying Tryd.underlying73, Tryd.isAgg3, Tryd.sizeOf3, hx, hy]
theorem node_eq (a b : VN) (w : World) : (Op.equalIn 10000 38 (.agg #[.int .i64 a.l, .int .i64 a.r, .int .i64 a.v]) (.agg #[.int .i64 b.l, .int .i64 b.r, .int .i64 b.v])).run Tryd.prog w = .ok (decide (a = b)) w := by
  have hst : Tryd.prog.stoodInHeld 38 = false := by kernel_rfl
  have h : decide (a = b) = (decide (a.l = b.l) && (decide (a.r = b.r) && decide (a.v = b.v))) := by
    cases a; cases b; simp [VN.mk.injEq, Bool.decide_and]
  rw [h]
  unfold Op.equalIn
  by_cases h1 : a.l = b.l <;> by_cases h2 : a.r = b.r <;> by_cases h3 : a.v = b.v <;> simp [go_sem, hst, h1, h2, h3]
theorem ex_eqN {a b : VN} {r : Bool} (hx : ρ x = .agg #[.int .i64 a.l, .int .i64 a.r, .int .i64 a.v]) (hy : ρ y = .agg #[.int .i64 b.l, .int .i64 b.r, .int .i64 b.v]) (hr : decide (a = b) = r) : (execOp ρ ⟨d, .binOp .eql 38 x y 38, t, pos, aft, gd⟩).run Tryd.prog w = .ok (.value (.bool r)) w := by
  subst hr
  have h1 : (eqGuard .eql 38 x y (.agg #[.int .i64 a.l, .int .i64 a.r, .int .i64 a.v]) (.agg #[.int .i64 b.l, .int .i64 b.r, .int .i64 b.v])).run Tryd.prog w = .ok () w := by
    have hg : (Tryd.prog.eqGuardType Tryd.prog.depth 38) = false := by kernel_rfl
    simp [eqGuard, hg]
  have h2 : binOp .eql 38 (.agg #[.int .i64 a.l, .int .i64 a.r, .int .i64 a.v]) (.agg #[.int .i64 b.l, .int .i64 b.r, .int .i64 b.v]) = (do pure (.bool (← Op.equal 38 (.agg #[.int .i64 a.l, .int .i64 a.r, .int .i64 a.v]) (.agg #[.int .i64 b.l, .int .i64 b.r, .int .i64 b.v])))) := rfl
  have h3 : (Op.equal 38 (.agg #[.int .i64 a.l, .int .i64 a.r, .int .i64 a.v]) (.agg #[.int .i64 b.l, .int .i64 b.r, .int .i64 b.v])).run Tryd.prog w = .ok (decide (a = b)) w := node_eq a b w
  simp only [execOp, hx, hy, Sem.run_bind, h1, h2, h3, Result.andThen_ok, Sem.run_pure]
theorem ex_neN {a b : VN} {r : Bool} (hx : ρ x = .agg #[.int .i64 a.l, .int .i64 a.r, .int .i64 a.v]) (hy : ρ y = .agg #[.int .i64 b.l, .int .i64 b.r, .int .i64 b.v]) (hr : (!decide (a = b)) = r) : (execOp ρ ⟨d, .binOp .neq 38 x y 38, t, pos, aft, gd⟩).run Tryd.prog w = .ok (.value (.bool r)) w := by
  subst hr
  have h1 : (eqGuard .neq 38 x y (.agg #[.int .i64 a.l, .int .i64 a.r, .int .i64 a.v]) (.agg #[.int .i64 b.l, .int .i64 b.r, .int .i64 b.v])).run Tryd.prog w = .ok () w := by
    have hg : (Tryd.prog.eqGuardType Tryd.prog.depth 38) = false := by kernel_rfl
    simp [eqGuard, hg]
  have h2 : binOp .neq 38 (.agg #[.int .i64 a.l, .int .i64 a.r, .int .i64 a.v]) (.agg #[.int .i64 b.l, .int .i64 b.r, .int .i64 b.v]) = (do pure (.bool (!(← Op.equal 38 (.agg #[.int .i64 a.l, .int .i64 a.r, .int .i64 a.v]) (.agg #[.int .i64 b.l, .int .i64 b.r, .int .i64 b.v]))))) := rfl
  have h3 : (Op.equal 38 (.agg #[.int .i64 a.l, .int .i64 a.r, .int .i64 a.v]) (.agg #[.int .i64 b.l, .int .i64 b.r, .int .i64 b.v])).run Tryd.prog w = .ok (decide (a = b)) w := node_eq a b w
  simp only [execOp, hx, hy, Sem.run_bind, h1, h2, h3, Result.andThen_ok, Sem.run_pure]
end
/-! ### Nodes -/
def ncell (x : VN) : List Value := [.int .i64 x.l, .int .i64 x.r, .int .i64 x.v]
def ncells (ts : List VN) : List Value := ts.flatMap ncell
def nagg (x : VN) : Value := .agg #[.int .i64 x.l, .int .i64 x.r, .int .i64 x.v]
theorem ncells_snoc (ts : List VN) (x : VN) : ncells ts ++ ncell x = ncells (ts ++ [x]) := by simp [ncells]
theorem ncells_len (ts : List VN) : (ncells ts).length = ts.length * 3 := by
  induction ts with
  | nil => rfl
  | cons x r ih => simp only [ncells, List.flatMap_cons, List.length_append, List.length_cons] at ih ⊢; rw [ih]; simp [ncell]; omega
theorem ncells_get : ∀ {ts : List VN} {i : Nat} {x : VN}, ts[i]? = some x → (ncells ts)[i * 3]? = some (.int .i64 x.l) ∧ (ncells ts)[i * 3 + 1]? = some (.int .i64 x.r) ∧ (ncells ts)[i * 3 + 2]? = some (.int .i64 x.v)
  | [], i, x, h => by simp at h
  | y :: r, 0, x, h => by
    simp at h; subst h
    simp [ncells, ncell]
  | y :: r, i + 1, x, h => by
    have ih := ncells_get (ts := r) (i := i) (x := x) (by simpa using h)
    have e : ncells (y :: r) = ncell y ++ ncells r := by simp [ncells]
    rw [e]
    have hl : (ncell y).length = 3 := rfl
    refine ⟨?_, ?_, ?_⟩
    · rw [List.getElem?_append_right (by omega), hl, show (i + 1) * 3 - 3 = i * 3 by omega]; exact ih.1
    · rw [List.getElem?_append_right (by omega), hl, show (i + 1) * 3 + 1 - 3 = i * 3 + 1 by omega]; exact ih.2.1
    · rw [List.getElem?_append_right (by omega), hl, show (i + 1) * 3 + 2 - 3 = i * 3 + 2 by omega]; exact ih.2.2
/-- A slice of nodes, in the blocks of D. -/
def NodesD (D : Nat → Prop) (w : World) (v : Value) (ts : List VN) : Prop :=
  ∃ A c, v = .slice A ts.length c ∧ ts.length ≤ c ∧ c ≤ maxLen ∧ (0 < ts.length → ∃ b o, D b ∧ A = some ⟨b, o, none⟩ ∧ ∀ i x, ts[i]? = some x →
    w.cell? ⟨b, o + i * 3, none⟩ = some (.int .i64 x.l) ∧ w.cell? ⟨b, o + i * 3 + 1, none⟩ = some (.int .i64 x.r) ∧ w.cell? ⟨b, o + i * 3 + 2, none⟩ = some (.int .i64 x.v))
section
variable {D D' : Nat → Prop} {w w' : World} {v : Value} {ts : List VN}
theorem NodesD.move (h : NodesD D w v ts) (hk : ∀ k, D k → w'.heap[k]? = w.heap[k]?) : NodesD D w' v ts := by
  obtain ⟨A, c, h1, h2, h3, h4⟩ := h
  refine ⟨A, c, h1, h2, h3, fun hp => ?_⟩
  obtain ⟨b, o, hb, hA, hc⟩ := h4 hp
  refine ⟨b, o, hb, hA, fun i x hx => ?_⟩
  rw [cell_move (hk b hb), cell_move (hk b hb), cell_move (hk b hb)]
  exact hc i x hx
theorem NodesD.mono (h : NodesD D w v ts) (hD : ∀ k, D k → D' k) : NodesD D' w v ts := by
  obtain ⟨A, c, h1, h2, h3, h4⟩ := h
  refine ⟨A, c, h1, h2, h3, fun hp => ?_⟩
  obtain ⟨b, o, hb, hA, hc⟩ := h4 hp
  exact ⟨b, o, hD b hb, hA, hc⟩
theorem NodesD.nil (D : Nat → Prop) (w : World) : NodesD D w (.slice none 0 0) [] := ⟨none, 0, rfl, Nat.le_refl _, Nat.zero_le _, fun h => absurd h (Nat.lt_irrefl _)⟩
theorem NodesD.slice (h : NodesD D w v ts) : ∃ A c, v = .slice A ts.length c := by
  obtain ⟨A, c, h1, _⟩ := h
  exact ⟨A, c, h1⟩
theorem NodesD.cap {A : Option Addr} {n c : Nat} (h : NodesD D w (.slice A n c) ts) : ts.length ≤ c ∧ c ≤ maxLen ∧ n = ts.length := by
  obtain ⟨A', c', h1, h2, h3, _⟩ := h
  injection h1 with _ hn h1
  subst h1
  exact ⟨h2, h3, hn⟩
theorem NodesD.form (h : NodesD D w v ts) (hp : 0 < ts.length) : ∃ b o c, v = .slice (some ⟨b, o, none⟩) ts.length c ∧ D b := by
  obtain ⟨A, c, rfl, _, _, h4⟩ := h
  obtain ⟨b, o, hD, rfl, _⟩ := h4 hp
  exact ⟨b, o, c, rfl, hD⟩
theorem NodesD.at_ {b o n c : Nat} (h : NodesD D w (.slice (some ⟨b, o, none⟩) n c) ts) {i : Nat} {x : VN} (hx : ts[i]? = some x) :
    w.cell? ⟨b, o + i * 3, none⟩ = some (.int .i64 x.l) ∧ w.cell? ⟨b, o + i * 3 + 1, none⟩ = some (.int .i64 x.r) ∧ w.cell? ⟨b, o + i * 3 + 2, none⟩ = some (.int .i64 x.v) := by
  obtain ⟨A, c', h1, _, _, h4⟩ := h
  injection h1 with h1 _ _
  subst h1
  obtain ⟨b', o', _, h2, h3⟩ := h4 (by have := (List.getElem?_eq_some_iff.1 hx).1; omega)
  injection h2 with h2
  injection h2 with h2 h4 _
  subst h2 h4
  exact h3 i x hx
theorem NodesD.c0 {b o n c : Nat} (h : NodesD D w (.slice (some ⟨b, o, none⟩) n c) ts) {i : Nat} {x : VN} (hx : ts[i]? = some x) : w.cell? ⟨b, o + i * 3, none⟩ = some (.int .i64 x.l) := (h.at_ hx).1
theorem NodesD.c1 {b o n c : Nat} (h : NodesD D w (.slice (some ⟨b, o, none⟩) n c) ts) {i : Nat} {x : VN} (hx : ts[i]? = some x) : w.cell? ⟨b, o + i * 3 + 1, none⟩ = some (.int .i64 x.r) := (h.at_ hx).2.1
theorem NodesD.c2 {b o n c : Nat} (h : NodesD D w (.slice (some ⟨b, o, none⟩) n c) ts) {i : Nat} {x : VN} (hx : ts[i]? = some x) : w.cell? ⟨b, o + i * 3 + 2, none⟩ = some (.int .i64 x.v) := (h.at_ hx).2.2
theorem NodesD.of_row {base n : Nat} {T : TypeId} (h : w.ownsRow base T 3 v n (ncells ts)) : NodesD (fun k => v.ownBlock = some k) w v ts := by
  obtain ⟨A, c, rfl⟩ := own_form h
  have hn : n = ts.length := by have := h.1; rw [ncells_len] at this; omega
  subst hn
  rcases h.2 with ⟨h1, h0⟩ | ⟨g, cap, cur, h1, _, hg, h5, h6, h7, _⟩
  · injection h1 with h1 _ h2
    subst h1 h2
    exact ⟨none, 0, rfl, by omega, Nat.zero_le _, fun hp => by omega⟩
  · injection h1 with h1 _ h2
    subst h1 h2
    refine ⟨_, _, rfl, by omega, by omega, fun _ => ⟨g, 0, rfl, rfl, fun i x hx => ?_⟩⟩
    obtain ⟨q0, q1, q2⟩ := ncells_get hx
    simp only [Nat.zero_add]
    exact ⟨rowcell h q0, rowcell h q1, rowcell h q2⟩
theorem NodesD.of_blk {g n : Nat} {T : TypeId} (h : Blk w g T (ncells ts).toArray) (hn : n = ts.length) (hm : n ≤ maxLen) : NodesD (fun k => k = g) w (.slice (some ⟨g, 0, none⟩) n n) ts := by
  subst hn
  refine ⟨_, _, rfl, Nat.le_refl _, hm, fun _ => ⟨g, 0, rfl, rfl, fun i x hx => ?_⟩⟩
  obtain ⟨q0, q1, q2⟩ := ncells_get hx
  simp only [Nat.zero_add]
  exact ⟨(h.cell _).trans (by simpa using q0), (h.cell _).trans (by simpa using q1), (h.cell _).trans (by simpa using q2)⟩
end
def nodesE (D : Nat → Prop) (v : Value) (ts : List VN) : En := .ro D (fun w => NodesD D w v ts)
theorem nodesE_holds {D : Nat → Prop} {v : Value} {ts : List VN} {w : World} (h : NodesD D w v ts) (hD : ∀ k, D k → k < w.heap.size) : (nodesE D v ts).holds w := ⟨h, hD, fun _ _ _ hk h => h.move hk⟩
end Go.Proofs.YtpeoodkepjhhiaaDoor
namespace Go.Proofs.YtpeoodkepjhhiaaDoor
open Go Go.RowKit
theorem lfT {l r v : Int} (h1 : 1 ≤ v) (h2 : v ≤ 128) (h : (VN.mk l r v) = VN.mk (-1) (-1) v) : lf ⟨l, r, v⟩ = true := by
  injection h with h3 h4 _
  exact (lf_iff _).2 ⟨h3, h4, h1, h2⟩
theorem lfF1 {l r v : Int} (h1 : ¬ 1 ≤ v) : lf ⟨l, r, v⟩ = false := by
  rw [Bool.eq_false_iff]; intro q; exact h1 ((lf_iff _).1 q).2.2.1
theorem lfF2 {l r v : Int} (h1 : ¬ v ≤ 128) : lf ⟨l, r, v⟩ = false := by
  rw [Bool.eq_false_iff]; intro q; exact h1 ((lf_iff _).1 q).2.2.2
theorem lfF3 {l r v : Int} (h : ¬ (VN.mk l r v) = VN.mk (-1) (-1) v) : lf ⟨l, r, v⟩ = false := by
  rw [Bool.eq_false_iff]; intro q; exact h (lf_eq q)
theorem leafof_ (v : Int) {W : World} : Calls Tryd.prog 50 #[.int .i64 v] W fun e w' => e = .returned (.agg #[.int .i64 (-1), .int .i64 (-1), .int .i64 v]) ∧ Below W.heap.size W w' := by
  have O0 : Own Z0 W W [] := Own.start W
  refine sx_enter (args := [.int .i64 v]) Tryd.func50 rfl rfl (by simp) ?_
  refine cw_seq (fun FK1 K1 => ?_)
  refine cw_region ?_
  obtain ⟨g2, w3, r4, O5, hg6, hs7⟩ := own_alloc O0 38 ze38 rfl
  refine wl_val (v := .pointer (some ⟨g2, 0, none⟩)) (fun ρ e => r4 ρ _ _ _ _ _) rfl rfl ?_
  refine wl_nil ?_
  refine xw_next K1 ?_
  refine cw_seq (fun FK8 K8 => ?_)
  refine cw_region ?_
  refine wl_val (v := .int .i64 v) (fun ρ e => ex_move (e _ _ rfl)) rfl rfl ?_
  refine wl_val (v := .agg #[.int .i64 (-1), .int .i64 (-1), .int .i64 v]) (fun ρ e => ex_build (cells := #[.int .i64 (-1), .int .i64 (-1), .int .i64 v]) st38 (e.parts rfl) rfl) rfl rfl ?_
  obtain ⟨w9, r10, O11, hs12⟩ := own_put (o := 0) (n := 3) O5 ty38 (.agg #[.int .i64 (-1), .int .i64 (-1), .int .i64 v]) [.int .i64 (-1), .int .i64 (-1), .int .i64 v] (cs' := #[.int .i64 (-1), .int .i64 (-1), .int .i64 v]) rfl rfl rfl (Nat.le_of_ble_eq_true rfl) rfl
  refine wl_none (fun ρ e => r10 ρ _ _ _ _ _ _ (e _ _ rfl) (e _ _ rfl)) rfl ?_
  refine wl_nil ?_
  refine xw_next K8 ?_
  refine cw_ret ?_
  refine xw_ret (v := .agg #[.int .i64 (-1), .int .i64 (-1), .int .i64 v]) (fun T hT => res1c rfl T _ (hT 2 _ rfl) (run_loadN (vs := [.int .i64 (-1), .int .i64 (-1), .int .i64 v]) ty38 rfl (O11.cells 0 0 rfl rfl))) ?_
  exact ⟨rfl, O11.old⟩
theorem isleaf0 (xl xr xv : Int) {W : World} : Calls Tryd.prog 53 #[.agg #[.int .i64 xl, .int .i64 xr, .int .i64 xv]] W fun e w' => e = .returned (.bool (lf ⟨xl, xr, xv⟩)) ∧ Below W.heap.size W w' := by
  have O0 : Own Z0 W W [] := Own.start W
  refine sx_enter (args := [.agg #[.int .i64 xl, .int .i64 xr, .int .i64 xv]]) Tryd.func53 rfl rfl (by simp) ?_
  refine cw_seq (fun FK1 K1 => ?_)
  refine cw_region ?_
  obtain ⟨g2, w3, r4, O5, hg6, hs7⟩ := own_box O0 38 (.agg #[.int .i64 xl, .int .i64 xr, .int .i64 xv]) rfl
  refine wl_val (v := .pointer (some ⟨g2, 0, none⟩)) (fun ρ e => r4 ρ _ _ _ _ _ _ (e _ _ rfl)) rfl rfl ?_
  refine wl_val (v := .bool false) (fun ρ e => ex_assign (e _ _ rfl)) rfl rfl ?_
  refine wl_nil ?_
  refine xw_next K1 ?_
  refine cw_seq (fun FK8 K8 => ?_)
  refine cw_drawn (fun X => Own Z0 W X [.blk g2 38 #[.int .i64 xl, .int .i64 xr, .int .i64 xv]]) 15 [(0, 1), (1, 0), (2, 1), (3, 1), (4, 1), (5, 0), (6, 1), (7, 1), (8, 1), (9, 0), (10, 1), (11, 0), (12, 2), (13, 1), (14, 1), (15, 3)] (by kernel_rfl) (by kernel_rfl) (PQ.then_ PQ.body) (O5).drew ?_
  have O9 : Own Z0 W w3.drew [.blk g2 38 #[.int .i64 xl, .int .i64 xr, .int .i64 xv]] := O5.drew
  refine wt1 (v := .pointer (some ⟨g2, 2, none⟩)) rfl (fun ρ e W => ex_field (q := 2) fi38_2 (e _ _ rfl) rfl) rfl rfl ?_
  refine wt0 (v := .int .i64 xv) rfl (fun ρ e W hW => ex_load1 ty3 (e _ _ rfl) (hW.cell 0 2 rfl rfl)) rfl rfl ?_
  by_cases c10 : xv ≥ 1
  · skip
    refine wt1 (v := .bool true) rfl (fun ρ e W => ex_cmp (u := xv) (v := 1) (e _ _ rfl) (e _ _ rfl) (geq1 (by omega))) rfl rfl ?_
    refine wt1 (v := .bool true) rfl (fun ρ e W => ex_move (e _ _ rfl)) rfl rfl ?_
    refine wt1 (v := .pointer (some ⟨g2, 2, none⟩)) rfl (fun ρ e W => ex_field (q := 2) fi38_2 (e _ _ rfl) rfl) rfl rfl ?_
    refine wt0 (v := .int .i64 xv) rfl (fun ρ e W hW => ex_load1 ty3 (e _ _ rfl) (hW.cell 0 2 rfl rfl)) rfl rfl ?_
    by_cases c11 : xv ≤ 128
    · skip
      refine wt1 (v := .bool true) rfl (fun ρ e W => ex_cmp (u := xv) (v := 128) (e _ _ rfl) (e _ _ rfl) (leq1 (by omega))) rfl rfl ?_
      refine wt1 (v := .bool true) rfl (fun ρ e W => ex_pick1 (e _ _ rfl) (e _ _ rfl)) rfl rfl ?_
      refine wt1 (v := .bool true) rfl (fun ρ e W => ex_move (e _ _ rfl)) rfl rfl ?_
      refine wt0 (v := .agg #[.int .i64 xl, .int .i64 xr, .int .i64 xv]) rfl (fun ρ e W hW => ex_loadN (vs := [.int .i64 xl, .int .i64 xr, .int .i64 xv]) ty38 (e _ _ rfl) rfl (hW.cells 0 0 rfl rfl)) rfl rfl ?_
      refine wt1 (v := .pointer (some ⟨g2, 2, none⟩)) rfl (fun ρ e W => ex_field (q := 2) fi38_2 (e _ _ rfl) rfl) rfl rfl ?_
      refine wt0 (v := .int .i64 xv) rfl (fun ρ e W hW => ex_load1 ty3 (e _ _ rfl) (hW.cell 0 2 rfl rfl)) rfl rfl ?_
      refine wt2_call (args := [.int .i64 xv]) rfl in_50 rfl rfl rfl ?_
      refine (leafof_ xv (W := w3.drew)).mono ?_
      rintro _ w12 ⟨rfl, hb13⟩
      have O14 : Own Z0 W w12 [.blk g2 38 #[.int .i64 xl, .int .i64 xr, .int .i64 xv]] := O9.below hb13
      refine ⟨_, rfl, O14, ?_⟩
      by_cases c15 : (VN.mk xl xr xv) = (VN.mk (-1) (-1) xv)
      · skip
        refine wt1 (v := .bool true) rfl (fun ρ e W => ex_eqN (a := (VN.mk xl xr xv)) (b := (VN.mk (-1) (-1) xv)) (e _ _ rfl) (e _ _ rfl) (decide_eq_true c15)) rfl rfl ?_
        refine wt1 (v := .bool true) rfl (fun ρ e W => ex_pick1 (e _ _ rfl) (e _ _ rfl)) rfl rfl ?_
        refine wt3 (v := .bool true) rfl (fun ρ e => ex_assign (e _ _ rfl)) rfl rfl ?_
        refine wt_nil ?_
        refine xw_next K8 ?_
        refine cw_ret ?_
        refine xw_ret (v := .bool true) (fun T hT => res1 rfl T _ (hT 2 _ rfl)) ?_
        exact ⟨congrArg (fun b => Ending.returned (.bool b)) (show true = lf ⟨xl, xr, xv⟩ from Eq.symm (by first | exact lfT (by omega) (by omega) (by assumption) | exact lfF1 (by omega) | exact lfF2 (by omega) | exact lfF3 (by assumption))), O14.old⟩
      · skip
        refine wt1 (v := .bool false) rfl (fun ρ e W => ex_eqN (a := (VN.mk xl xr xv)) (b := (VN.mk (-1) (-1) xv)) (e _ _ rfl) (e _ _ rfl) (decide_eq_false c15)) rfl rfl ?_
        refine wt1 (v := .bool false) rfl (fun ρ e W => ex_pick1 (e _ _ rfl) (e _ _ rfl)) rfl rfl ?_
        refine wt3 (v := .bool false) rfl (fun ρ e => ex_assign (e _ _ rfl)) rfl rfl ?_
        refine wt_nil ?_
        refine xw_next K8 ?_
        refine cw_ret ?_
        refine xw_ret (v := .bool false) (fun T hT => res1 rfl T _ (hT 2 _ rfl)) ?_
        exact ⟨congrArg (fun b => Ending.returned (.bool b)) (show false = lf ⟨xl, xr, xv⟩ from Eq.symm (by first | exact lfT (by omega) (by omega) (by assumption) | exact lfF1 (by omega) | exact lfF2 (by omega) | exact lfF3 (by assumption))), O14.old⟩
    · skip
      refine wt1 (v := .bool false) rfl (fun ρ e W => ex_cmp (u := xv) (v := 128) (e _ _ rfl) (e _ _ rfl) (leq0 (by omega))) rfl rfl ?_
      refine wt1 (v := .bool false) rfl (fun ρ e W => ex_pick1 (e _ _ rfl) (e _ _ rfl)) rfl rfl ?_
      refine wt1 (v := .bool false) rfl (fun ρ e W => ex_move (e _ _ rfl)) rfl rfl ?_
      refine wt0_skip rfl rfl rfl ?_
      refine wt1_skip rfl rfl rfl ?_
      refine wt0_skip rfl rfl rfl ?_
      refine wt2_skip rfl rfl rfl O9 ?_
      refine wt1_skip rfl rfl rfl ?_
      refine wt1 (v := .bool false) rfl (fun ρ e W => ex_pick0 (e _ _ rfl) (e _ _ rfl)) rfl rfl ?_
      refine wt3 (v := .bool false) rfl (fun ρ e => ex_assign (e _ _ rfl)) rfl rfl ?_
      refine wt_nil ?_
      refine xw_next K8 ?_
      refine cw_ret ?_
      refine xw_ret (v := .bool false) (fun T hT => res1 rfl T _ (hT 2 _ rfl)) ?_
      exact ⟨congrArg (fun b => Ending.returned (.bool b)) (show false = lf ⟨xl, xr, xv⟩ from Eq.symm (by first | exact lfT (by omega) (by omega) (by assumption) | exact lfF1 (by omega) | exact lfF2 (by omega) | exact lfF3 (by assumption))), O9.old⟩
  · skip
    refine wt1 (v := .bool false) rfl (fun ρ e W => ex_cmp (u := xv) (v := 1) (e _ _ rfl) (e _ _ rfl) (geq0 (by omega))) rfl rfl ?_
    refine wt1 (v := .bool false) rfl (fun ρ e W => ex_move (e _ _ rfl)) rfl rfl ?_
    refine wt1_skip rfl rfl rfl ?_
    refine wt0_skip rfl rfl rfl ?_
    refine wt1_skip rfl rfl rfl ?_
    refine wt1 (v := .bool false) rfl (fun ρ e W => ex_pick0 (e _ _ rfl) (e _ _ rfl)) rfl rfl ?_
    refine wt1 (v := .bool false) rfl (fun ρ e W => ex_move (e _ _ rfl)) rfl rfl ?_
    refine wt0_skip rfl rfl rfl ?_
    refine wt1_skip rfl rfl rfl ?_
    refine wt0_skip rfl rfl rfl ?_
    refine wt2_skip rfl rfl rfl O9 ?_
    refine wt1_skip rfl rfl rfl ?_
    refine wt1 (v := .bool false) rfl (fun ρ e W => ex_pick0 (e _ _ rfl) (e _ _ rfl)) rfl rfl ?_
    refine wt3 (v := .bool false) rfl (fun ρ e => ex_assign (e _ _ rfl)) rfl rfl ?_
    refine wt_nil ?_
    refine xw_next K8 ?_
    refine cw_ret ?_
    refine xw_ret (v := .bool false) (fun T hT => res1 rfl T _ (hT 2 _ rfl)) ?_
    exact ⟨congrArg (fun b => Ending.returned (.bool b)) (show false = lf ⟨xl, xr, xv⟩ from Eq.symm (by first | exact lfT (by omega) (by omega) (by assumption) | exact lfF1 (by omega) | exact lfF2 (by omega) | exact lfF3 (by assumption))), O9.old⟩
theorem isleaf_ (x : VN) {W : World} : Calls Tryd.prog 53 #[.agg #[.int .i64 x.l, .int .i64 x.r, .int .i64 x.v]] W fun e w' => e = .returned (.bool (lf x)) ∧ Below W.heap.size W w' := isleaf0 x.l x.r x.v
end Go.Proofs.YtpeoodkepjhhiaaDoor
namespace Go.Proofs.YtpeoodkepjhhiaaDoor
open Go Go.RowKit
set_option maxRecDepth 100000 in
theorem copycheck1 (b : Nat) (w : World) (h0 : w.cell? ⟨b, 0, none⟩ = some (.pointer (some ⟨b, 0, none⟩))) :
    Calls Tryd.prog 81 #[.pointer (some ⟨b, 0, none⟩)] w fun e w' => e = .returned (.tuple #[]) ∧ w' = w := by
  have X : (Tryd.prog.info? 82).map (·.size) = some 2 := by kernel_rfl
  obtain ⟨j, hj, _⟩ := Option.map_eq_some_iff.1 X
  go_enter Tryd.func81, Tryd.ntmps81
  go_wp2
  rw [Lib.run_neq_ptr_same w _ Tryd.underlying80 hj]
  go_wp2
  go_end0
  exact ⟨rfl, rfl⟩
set_option maxRecDepth 100000 in
theorem copycheck0 (b : Nat) (w : World) (h0 : w.cell? ⟨b, 0, none⟩ = some (.pointer none)) (hsh : w.shape? b = some (82, 2)) (hfz : w.frozen? ⟨b, 0, none⟩ = false) :
    Calls Tryd.prog 81 #[.pointer (some ⟨b, 0, none⟩)] w fun e w' => e = .returned (.tuple #[]) ∧ w' = w.setCell ⟨b, 0, none⟩ (.pointer (some ⟨b, 0, none⟩)) := by
  have X : (Tryd.prog.info? 82).map (·.size) = some 2 := by kernel_rfl
  obtain ⟨j, hj, hjs⟩ := Option.map_eq_some_iff.1 X
  go_enter Tryd.func81, Tryd.ntmps81
  go_wp2
  rw [Lib.run_to_unsafe w ⟨b, 0, none⟩ Tryd.underlying80 Tryd.underlying99 hj (by rw [hjs]; decide) hsh (Nat.zero_lt_succ 1)]
  simp only [Result.andThen]
  rw [Oper.upon_value]
  go_wp2
  rw [run_callFunc_extern Tryd.func85 (by kernel_rfl) (by kernel_rfl) (by kernel_rfl) (e := Extern.AbiNoEscape.same) (by kernel_rfl)]
  rw [Lib.run_noEscape]
  simp only [Result.andThen]
  rw [Oper.upon_value]
  go_wp2
  rw [Lib.run_from_unsafe w ⟨b, 0, none⟩ Tryd.underlying99 Tryd.underlying80 hj hsh (by kernel_rfl)]
  simp only [Result.andThen]
  rw [Oper.upon_value]
  go_wp2
  go_end0
  exact ⟨rfl, rfl⟩
/-- A builder in a block of one's own: fresh or used. -/
def addrB (used : Bool) (b : Nat) : Value := .pointer (if used then some ⟨b, 0, none⟩ else none)
theorem copycheck_ {Z : Bool → Nat → Prop} {w0 W : World} {L : List En} {b : Nat} {used : Bool} {bv : Value} (O : Own Z w0 W (.blk b 82 #[addrB used b, bv] :: L)) :
    Calls Tryd.prog 81 #[.pointer (some ⟨b, 0, none⟩)] W fun e w' => e = .returned (.tuple #[]) ∧ Own Z w0 w' (.blk b 82 #[.pointer (some ⟨b, 0, none⟩), bv] :: L) := by
  have hb := O.blk 0 rfl
  cases used with
  | true =>
    refine (copycheck1 b W ((hb.cell 0).trans rfl)).mono ?_
    rintro _ _ ⟨rfl, rfl⟩
    exact ⟨rfl, O⟩
  | false =>
    refine (copycheck0 b W ((hb.cell 0).trans rfl) ?_ (hb.free 0)).mono ?_
    · have h := hb
      unfold Blk at h
      simp [World.shape?, h]
    · rintro _ _ ⟨rfl, rfl⟩
      exact ⟨rfl, O.put 0 _⟩
end Go.Proofs.YtpeoodkepjhhiaaDoor
namespace Go.Proofs.YtpeoodkepjhhiaaDoor
open Go Go.RowKit
section
variable {Z : Bool → Nat → Prop} {w0 w : World} {L : List En}
theorem own_app_str {v : Value} {n : Nat} {l : List UInt8} {s : ByteArray} (hO : Own Z w0 w (.row v 5 1 n (Lib.byteCells l) :: L)) (hlim : n + s.size ≤ 1000000000) (h0 : 0 < s.size) :
    ∃ A c w', (∀ (ρ : Operand → Value) x y d t pos aft gd, ρ x = v → ρ y = .string s → (execOp ρ ⟨d, .call ⟨.builtin .append, #[x, y], #[32, 9]⟩, t, pos, aft, gd⟩).run Tryd.prog w = .ok (.value (.slice A (n + s.size) c)) w') ∧
      Own Z w0 w' (.row (.slice A (n + s.size) c) 5 1 (n + s.size) (Lib.byteCells (l ++ s.data.toList)) :: L) := by
  have hX : (Tryd.prog.info? 5).map (fun i => (i.zero, i.size, i.bytes)) = some (some (.int .u8 0), 1, 1) := by kernel_rfl
  obtain ⟨i, hi, hz, hs, hb⟩ := info_parts hX
  have hrow := hO.row 0 rfl
  have key : ∀ ty, ∃ v' w', (Builtin.append_ #[32, 9] ty #[v, .string s]).run Tryd.prog w = .ok v' w' ∧ w'.ownsRow 0 5 1 v' (n + s.size) (Lib.byteCells l ++ Lib.strCells s) ∧ w.grownBy w' v.ownBlock ∧ (v'.ownBlock = v.ownBlock ∨ v'.ownBlock = some w.heap.size) := by
    intro ty
    obtain ⟨v', w', h1, h2, h3, _⟩ := Lib.run_append_own_string (P := Tryd.prog) (w := w) 0 32 9 ty 5 i Tryd.underlying32 Tryd.underlying9 hi hz hs hb v n _ hrow s (by unfold maxLen; omega) (by omega) (Nat.zero_le _)
    refine ⟨v', w', h1, h2, h3, ?_⟩
    rcases hrow.2 with ⟨rfl, h4⟩ | ⟨g, cap, cur, rfl, _, hg, hnc, hcm, hcs, htake⟩
    · have hr := run_append_nil_string (P := Tryd.prog) w 32 9 ty 5 i (.int .u8 0) Tryd.underlying32 Tryd.underlying9 hi hz s (by omega) (by omega) (by rw [hb]; omega)
      rw [h1] at hr
      injection hr with hr _
      subst hr
      exact .inr rfl
    · by_cases hroom : n + s.size ≤ cap
      · have hr := Lib.run_append_room_string (P := Tryd.prog) w 32 9 ty 5 i Tryd.underlying32 Tryd.underlying9 hi hs g n cap cur hg s hroom (by omega)
        rw [h1] at hr
        injection hr with hr _
        subst hr
        exact .inl rfl
      · have hl1 : (Lib.byteCells l).length = n := by simpa using hrow.1
        have hr := Lib.run_append_grow_string (P := Tryd.prog) w 32 9 ty 5 i (.int .u8 0) Tryd.underlying32 Tryd.underlying9 hi hz ⟨g, 0, none⟩ n cap (Lib.byteCells l) (by rw [hs]; omega) (fun j u hu => by
            rw [addr_plus, Nat.zero_add]
            exact rowcell hrow hu) s (by omega) (by omega) (by rw [hb]; exact growslice_fits (by omega) (by omega))
        rw [h1] at hr
        injection hr with hr _
        subst hr
        exact .inr rfl
  obtain ⟨v', w', h1, h2, h3, h4⟩ := key 0
  obtain ⟨A, c, rfl⟩ := own_form h2
  have e : Lib.byteCells l ++ Lib.strCells s = Lib.byteCells (l ++ s.data.toList) := by simp [Lib.byteCells, Lib.strCells]
  rw [e] at h2
  refine ⟨A, c, w', fun ρ x y d t pos aft gd hx hy => ?_, hO.app h2 (.grown h3) h4⟩
  have hty : Builtin.append_ #[32, 9] t #[v, .string s] = Builtin.append_ #[32, 9] 0 #[v, .string s] := rfl
  unfold execOp
  simp only [resolve, invoke, builtin, Sem.run_bind, Sem.run_pure, Result.andThen_ok, List.map_toArray, List.map_cons, List.map_nil, hx, hy, hty, h1]
end
end Go.Proofs.YtpeoodkepjhhiaaDoor
namespace Go.Proofs.YtpeoodkepjhhiaaDoor
open Go Go.RowKit
theorem ex_lenstr {ρ : Operand → Value} {d : Option Tmp} {x : Operand} {t : TypeId} {pos : String} {aft : Array Edge} {gd : Option (Nat × Bool)} {w : World} {s : ByteArray} (hx : ρ x = .string s) : (execOp ρ ⟨d, .call ⟨.builtin .len, #[x], #[9]⟩, t, pos, aft, gd⟩).run Tryd.prog w = .ok (.value (.int .i64 ((s.size : Nat) : Int))) w := by
  simp [go_sem, hx]
theorem wbyte_ {Z : Bool → Nat → Prop} {w0 W : World} {b n c : Nat} {A : Option Addr} {used : Bool} {l : List UInt8} (c1 : UInt8) (O0 : Own Z w0 W [.blk b 82 #[addrB used b, .slice A n c], .row (.slice A n c) 5 1 n (Lib.byteCells l)]) (hlim : n ≤ 1000000000) :
    Calls Tryd.prog 69 #[.pointer (some ⟨b, 0, none⟩), .int .u8 (c1.toNat : Int)] W fun e w' => ∃ A' c', e = .returned .nilIface ∧ Own Z w0 w' [.blk b 82 #[.pointer (some ⟨b, 0, none⟩), .slice A' (n + 1) c'], .row (.slice A' (n + 1) c') 5 1 (n + 1) (Lib.byteCells (l ++ [c1]))] := by
  refine sx_enter (args := [.pointer (some ⟨b, 0, none⟩), .int .u8 (c1.toNat : Int)]) Tryd.func69 rfl rfl (by simp) ?_
  refine cw_seq (fun FK1 K1 => ?_)
  refine cw_region ?_
  refine wl_val (v := .nilIface) (fun ρ e => ex_assign (e _ _ rfl)) rfl rfl ?_
  refine wl_nil ?_
  refine xw_next K1 ?_
  refine cw_seq (fun FK2 K2 => ?_)
  refine cw_region ?_
  refine wl_val (v := .pointer (some ⟨b, 0, none⟩)) (fun ρ e => ex_move (e _ _ rfl)) rfl rfl ?_
  refine wl_call (args := [.pointer (some ⟨b, 0, none⟩)]) in_81 rfl rfl rfl ?_
  have O5h := Own.hand (A := [.blk b 82 #[addrB used b, .slice A n c]]) (R := [.row (.slice A n c) 5 1 n (Lib.byteCells l)]) O0
  refine (copycheck_ (used := used) (bv := .slice A n c) O5h).mono ?_
  rintro _ w3 ⟨rfl, h4⟩
  have O5 : Own Z w0 w3 [.blk b 82 #[.pointer (some ⟨b, 0, none⟩), .slice A n c], .row (.slice A n c) 5 1 n (Lib.byteCells l)] := Own.frame (A := [.blk b 82 #[addrB used b, .slice A n c]]) (R := [.row (.slice A n c) 5 1 n (Lib.byteCells l)]) O0 h4
  refine ⟨_, rfl, ?_⟩
  refine wl_nil ?_
  refine xw_next K2 ?_
  refine cw_seq (fun FK6 K6 => ?_)
  refine cw_region ?_
  refine wl_val (v := .pointer (some ⟨b, 0, none⟩)) (fun ρ e => ex_move (e _ _ rfl)) rfl rfl ?_
  refine wl_val (v := .pointer (some ⟨b, 0, none⟩)) (fun ρ e => ex_move (e _ _ rfl)) rfl rfl ?_
  refine wl_val (v := .pointer (some ⟨b, 0, none⟩)) (fun ρ e => ex_nil (e _ _ rfl)) rfl rfl ?_
  refine wl_val (v := .pointer (some ⟨b, 1, none⟩)) (fun ρ e => ex_field (q := 1) fi82_1 (e _ _ rfl) rfl) rfl rfl ?_
  refine wl_val (v := .slice A n c) (fun ρ e => ex_load1 ty32 (e _ _ rfl) (O5.cell 0 1 rfl rfl)) rfl rfl ?_
  refine wl_val (v := .int .u8 (c1.toNat : Int)) (fun ρ e => ex_move (e _ _ rfl)) rfl rfl ?_
  obtain ⟨g7, w8, r9, O10, hg11, hs12⟩ := own_slice O5 el32 ze5 1 [(0, .int .u8 (c1.toNat : Int))] (cs := #[.int .u8 (c1.toNat : Int)]) (by decide) (by kernel_rfl)
  refine wl_val (v := .slice (some ⟨g7, 0, none⟩) 1 1) (fun ρ e => r9 ρ _ _ _ _ _ _ (e.parts rfl)) rfl rfl ?_
  obtain ⟨A13, c14, w15, r16, O17, hz18, hc19⟩ := own_app1 (O10.re [2, 0, 1] rfl : Own Z w0 w8 [.row (.slice A n c) 5 1 n (Lib.byteCells l), .blk g7 5 #[.int .u8 (c1.toNat : Int)], .blk b 82 #[.pointer (some ⟨b, 0, none⟩), .slice A n c]]) ap32 ((O10.re [2, 0, 1] rfl : Own Z w0 w8 [.row (.slice A n c) 5 1 n (Lib.byteCells l), .blk g7 5 #[.int .u8 (c1.toNat : Int)], .blk b 82 #[.pointer (some ⟨b, 0, none⟩), .slice A n c]]).blk 1 rfl) (cells := [.int .u8 (c1.toNat : Int)]) rfl rfl (by omega) (by omega) (ys := (Lib.byteCells (l ++ [c1]))) (by simp [Lib.byteCells])
  refine wl_val (v := .slice A13 (n + 1) c14) (fun ρ e => r16 ρ _ _ _ _ _ _ _ (e _ _ rfl) (e _ _ rfl)) rfl rfl ?_
  refine wl_val (v := .pointer (some ⟨b, 0, none⟩)) (fun ρ e => ex_nil (e _ _ rfl)) rfl rfl ?_
  refine wl_val (v := .pointer (some ⟨b, 1, none⟩)) (fun ρ e => ex_field (q := 1) fi82_1 (e _ _ rfl) rfl) rfl rfl ?_
  obtain ⟨w20, r21, O22, hs23⟩ := own_put (o := 1) (n := 1) (O17.re [2, 0, 1] rfl : Own Z w0 w15 [.blk b 82 #[.pointer (some ⟨b, 0, none⟩), .slice A n c], .row (.slice A13 (n + 1) c14) 5 1 (n + 1) (Lib.byteCells (l ++ [c1])), .blk g7 5 #[.int .u8 (c1.toNat : Int)]]) ty32 (.slice A13 (n + 1) c14) [.slice A13 (n + 1) c14] (cs' := #[.pointer (some ⟨b, 0, none⟩), .slice A13 (n + 1) c14]) rfl rfl rfl (Nat.le_of_ble_eq_true rfl) rfl
  refine wl_none (fun ρ e => r21 ρ _ _ _ _ _ _ (e _ _ rfl) (e _ _ rfl)) rfl ?_
  refine wl_nil ?_
  refine xw_next K6 ?_
  refine cw_seq (fun FK24 K24 => ?_)
  refine cw_region ?_
  refine wl_val (v := .nilIface) (fun ρ e => ex_assign (e _ _ rfl)) rfl rfl ?_
  refine wl_nil ?_
  refine xw_next K24 ?_
  refine cw_ret ?_
  refine xw_ret (v := .nilIface) (fun T hT => res1 rfl T _ (hT 4 _ rfl)) ?_
  exact ⟨A13, c14, rfl, (O22.re [0, 1] rfl : Own Z w0 w20 [.blk b 82 #[.pointer (some ⟨b, 0, none⟩), .slice A13 (n + 1) c14], .row (.slice A13 (n + 1) c14) 5 1 (n + 1) (Lib.byteCells (l ++ [c1]))])⟩
theorem wstr_ {Z : Bool → Nat → Prop} {w0 W : World} {b n c : Nat} {A : Option Addr} {used : Bool} {l : List UInt8} (ss : ByteArray) (O0 : Own Z w0 W [.blk b 82 #[addrB used b, .slice A n c], .row (.slice A n c) 5 1 n (Lib.byteCells l)]) (hlim : n + ss.size ≤ 1000000000) (hss : 0 < ss.size) :
    Calls Tryd.prog 67 #[.pointer (some ⟨b, 0, none⟩), .string ss] W fun e w' => ∃ A' c', e = .returned (.tuple #[.int .i64 ((ss.size : Nat) : Int), .nilIface]) ∧ Own Z w0 w' [.blk b 82 #[.pointer (some ⟨b, 0, none⟩), .slice A' (n + ss.size) c'], .row (.slice A' (n + ss.size) c') 5 1 (n + ss.size) (Lib.byteCells (l ++ ss.data.toList))] := by
  refine sx_enter (args := [.pointer (some ⟨b, 0, none⟩), .string ss]) Tryd.func67 rfl rfl (by simp) ?_
  refine cw_seq (fun FK1 K1 => ?_)
  refine cw_region ?_
  refine wl_val (v := .int .i64 0) (fun ρ e => ex_assign (e _ _ rfl)) rfl rfl ?_
  refine wl_val (v := .nilIface) (fun ρ e => ex_assign (e _ _ rfl)) rfl rfl ?_
  refine wl_nil ?_
  refine xw_next K1 ?_
  refine cw_seq (fun FK2 K2 => ?_)
  refine cw_region ?_
  refine wl_val (v := .pointer (some ⟨b, 0, none⟩)) (fun ρ e => ex_move (e _ _ rfl)) rfl rfl ?_
  refine wl_call (args := [.pointer (some ⟨b, 0, none⟩)]) in_81 rfl rfl rfl ?_
  have O5h := Own.hand (A := [.blk b 82 #[addrB used b, .slice A n c]]) (R := [.row (.slice A n c) 5 1 n (Lib.byteCells l)]) O0
  refine (copycheck_ (used := used) (bv := .slice A n c) O5h).mono ?_
  rintro _ w3 ⟨rfl, h4⟩
  have O5 : Own Z w0 w3 [.blk b 82 #[.pointer (some ⟨b, 0, none⟩), .slice A n c], .row (.slice A n c) 5 1 n (Lib.byteCells l)] := Own.frame (A := [.blk b 82 #[addrB used b, .slice A n c]]) (R := [.row (.slice A n c) 5 1 n (Lib.byteCells l)]) O0 h4
  refine ⟨_, rfl, ?_⟩
  refine wl_nil ?_
  refine xw_next K2 ?_
  refine cw_seq (fun FK6 K6 => ?_)
  refine cw_region ?_
  refine wl_val (v := .pointer (some ⟨b, 0, none⟩)) (fun ρ e => ex_move (e _ _ rfl)) rfl rfl ?_
  refine wl_val (v := .pointer (some ⟨b, 0, none⟩)) (fun ρ e => ex_move (e _ _ rfl)) rfl rfl ?_
  refine wl_val (v := .pointer (some ⟨b, 0, none⟩)) (fun ρ e => ex_nil (e _ _ rfl)) rfl rfl ?_
  refine wl_val (v := .pointer (some ⟨b, 1, none⟩)) (fun ρ e => ex_field (q := 1) fi82_1 (e _ _ rfl) rfl) rfl rfl ?_
  refine wl_val (v := .slice A n c) (fun ρ e => ex_load1 ty32 (e _ _ rfl) (O5.cell 0 1 rfl rfl)) rfl rfl ?_
  refine wl_val (v := .string ss) (fun ρ e => ex_move (e _ _ rfl)) rfl rfl ?_
  obtain ⟨A7, c8, w9, r10, O11⟩ := own_app_str (s := ss) (O5.re [1, 0] rfl : Own Z w0 w3 [.row (.slice A n c) 5 1 n (Lib.byteCells l), .blk b 82 #[.pointer (some ⟨b, 0, none⟩), .slice A n c]]) hlim hss
  refine wl_val (v := .slice A7 (n + ss.size) c8) (fun ρ e => r10 ρ _ _ _ _ _ _ _ (e _ _ rfl) (e _ _ rfl)) rfl rfl ?_
  refine wl_val (v := .pointer (some ⟨b, 0, none⟩)) (fun ρ e => ex_nil (e _ _ rfl)) rfl rfl ?_
  refine wl_val (v := .pointer (some ⟨b, 1, none⟩)) (fun ρ e => ex_field (q := 1) fi82_1 (e _ _ rfl) rfl) rfl rfl ?_
  obtain ⟨w12, r13, O14, hs15⟩ := own_put (o := 1) (n := 1) (O11.re [1, 0] rfl : Own Z w0 w9 [.blk b 82 #[.pointer (some ⟨b, 0, none⟩), .slice A n c], .row (.slice A7 (n + ss.size) c8) 5 1 (n + ss.size) (Lib.byteCells (l ++ ss.data.toList))]) ty32 (.slice A7 (n + ss.size) c8) [.slice A7 (n + ss.size) c8] (cs' := #[.pointer (some ⟨b, 0, none⟩), .slice A7 (n + ss.size) c8]) rfl rfl rfl (Nat.le_of_ble_eq_true rfl) rfl
  refine wl_none (fun ρ e => r13 ρ _ _ _ _ _ _ (e _ _ rfl) (e _ _ rfl)) rfl ?_
  refine wl_nil ?_
  refine xw_next K6 ?_
  refine cw_seq (fun FK16 K16 => ?_)
  refine cw_region ?_
  refine wl_val (v := .string ss) (fun ρ e => ex_move (e _ _ rfl)) rfl rfl ?_
  refine wl_val (v := .int .i64 ((ss.size : Nat) : Int)) (fun ρ e => ex_lenstr (e _ _ rfl)) rfl rfl ?_
  refine wl_val (v := .int .i64 ((ss.size : Nat) : Int)) (fun ρ e => ex_assign (e _ _ rfl)) rfl rfl ?_
  refine wl_val (v := .nilIface) (fun ρ e => ex_assign (e _ _ rfl)) rfl rfl ?_
  refine wl_nil ?_
  refine xw_next K16 ?_
  refine cw_ret ?_
  refine xw_ret (v := .tuple #[.int .i64 ((ss.size : Nat) : Int), .nilIface]) (fun T hT => res2 rfl T _ (hT 4 _ rfl) (hT 5 _ rfl)) ?_
  exact ⟨A7, c8, rfl, O14⟩
end Go.Proofs.YtpeoodkepjhhiaaDoor
