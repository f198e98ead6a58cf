/-
  Words for memory: slices that read as lists, kept below a block number. Plain lemmas; nothing of the program.
-/
import Derived.Test.YtlifakbdgmdafaaCirc
import Derived.WalkKit
import Derived.WalkSpells
import Derived.WalkLawsBesides
import Derived.Handy
import Derived.Deep.LoopGhost
import Derived.Deep.Draws
import Derived.Deep.OwnRows
import Derived.Deep.AppendLies
import Derived.Deep.RegionHeld3
import Derived.Deep.RegionLaw
import Derived.Deep.RegionWith
import Derived.Deep.QuietTactic
import Derived.Deep.Cut
import Derived.Deep.CutRange
import Derived.Deep.DeepCutAuto
import Derived.Deep.DeepFit
import Derived.Deep.DeepMust
import Derived.Deep.Light
import Derived.BigQuiet
import Derived.Laws.CopyOwn
import Derived.Laws.AppendOwnNone
import Derived.Lib.Hide
import Derived.Maps.AppendAt
namespace Go.Proofs.Ytlifakbdgmdafaa
open Go Go.RowKit

theorem bcell {w w' : World} {B : Nat} (h : Below B w w') : (∀ b o, b < B → w'.cell? ⟨b, o, none⟩ = w.cell? ⟨b, o, none⟩) ∧ (∀ b o, b < B → w'.frozen? ⟨b, o, none⟩ = w.frozen? ⟨b, o, none⟩) :=
  ⟨fun b o hb => h.cell (p := ⟨b, o, none⟩) hb, fun b o hb => h.frozen (p := ⟨b, o, none⟩) hb⟩

/-- The slice value v reads as the list xs; each element takes sz cells and is read by R; all of it lies below block B. -/
def SliceV {α : Type} (sz : Nat) (R : World → Addr → α → Prop) (w : World) (B : Nat) (v : Value) (xs : List α) : Prop :=
  ∃ A c, v = .slice A xs.length c ∧ xs.length ≤ c ∧ c ≤ maxLen ∧ (0 < xs.length → ∃ b o, b < B ∧ A = some ⟨b, o, none⟩ ∧ ∀ i x, xs[i]? = some x → R w ⟨b, o + i * sz, none⟩ x)

/-- A reading that hangs on cells below B alone. -/
def Stays {α : Type} (B : Nat) (R : World → Addr → α → Prop) : Prop := ∀ w w' a x, Below B w w' → a.block < B → R w a x → R w' a x

theorem SliceV.below {α : Type} {sz : Nat} {R : World → Addr → α → Prop} {w w' : World} {B : Nat} {v : Value} {xs : List α} (hR : Stays B R)
    (h : SliceV sz R w B v xs) (hb : Below B w w') : SliceV sz R w' B v xs := by
  obtain ⟨A, c, hv, h1, h2, h3⟩ := h
  refine ⟨A, c, hv, h1, h2, fun hn => ?_⟩
  obtain ⟨b, o, hB, hA, hc⟩ := h3 hn
  exact ⟨b, o, hB, hA, fun i x hx => hR _ _ _ _ hb hB (hc i x hx)⟩

def IntAt (w : World) (a : Addr) (x : Int) : Prop := w.cell? a = some (.int .i64 x)
def BoolAt (w : World) (a : Addr) (x : Bool) : Prop := w.cell? a = some (.bool x)
abbrev IntsV := SliceV 1 IntAt
abbrev BoolsV := SliceV 1 BoolAt
def RowAt (B : Nat) (w : World) (a : Addr) (xs : List Int) : Prop := ∃ v, w.cell? a = some v ∧ IntsV w B v xs
def RowsV (w : World) (B : Nat) := SliceV 1 (RowAt B) w B

theorem IntAt.stays (B : Nat) : Stays B IntAt := fun _ _ _ _ hb hB h => (hb.cell hB).trans h
theorem BoolAt.stays (B : Nat) : Stays B BoolAt := fun _ _ _ _ hb hB h => (hb.cell hB).trans h
theorem IntsV.below {w w' : World} {B : Nat} {v : Value} {xs : List Int} (h : IntsV w B v xs) (hb : Below B w w') : IntsV w' B v xs := SliceV.below (IntAt.stays B) h hb
theorem BoolsV.below {w w' : World} {B : Nat} {v : Value} {xs : List Bool} (h : BoolsV w B v xs) (hb : Below B w w') : BoolsV w' B v xs := SliceV.below (BoolAt.stays B) h hb
theorem RowAt.stays (B : Nat) : Stays B (RowAt B) := fun _ _ _ _ hb hB ⟨v, h, hv⟩ => ⟨v, (hb.cell hB).trans h, hv.below hb⟩
theorem RowsV.below {w w' : World} {B : Nat} {v : Value} {xs : List (List Int)} (h : RowsV w B v xs) (hb : Below B w w') : RowsV w' B v xs := SliceV.below (RowAt.stays B) h hb

theorem SliceV.more {α : Type} {sz : Nat} {R : World → Addr → α → Prop} {w : World} {B B' : Nat} {v : Value} {xs : List α}
    (h : SliceV sz R w B v xs) (hB : B ≤ B') : SliceV sz R w B' v xs := by
  obtain ⟨A, c, hv, h1, h2, h3⟩ := h
  refine ⟨A, c, hv, h1, h2, fun hn => ?_⟩
  obtain ⟨b, o, hb, hA, hc⟩ := h3 hn
  exact ⟨b, o, by omega, hA, hc⟩
theorem RowAt.more {B B' : Nat} (hB : B ≤ B') {w : World} {a : Addr} {xs : List Int} (h : RowAt B w a xs) : RowAt B' w a xs := by
  obtain ⟨v, h1, h2⟩ := h
  exact ⟨v, h1, SliceV.more h2 hB⟩
theorem RowsV.more {w : World} {B B' : Nat} {v : Value} {xs : List (List Int)} (h : RowsV w B v xs) (hB : B ≤ B') : RowsV w B' v xs := by
  obtain ⟨A, c, hv, h1, h2, h3⟩ := h
  refine ⟨A, c, hv, h1, h2, fun hn => ?_⟩
  obtain ⟨b, o, hb, hA, hc⟩ := h3 hn
  exact ⟨b, o, by omega, hA, fun i x hx => (hc i x hx).more hB⟩

def GateAt (B : Nat) (w : World) (a : Addr) (g : Gate) : Prop :=
  w.cell? a = some (.int .i64 g.kind) ∧ w.cell? ⟨a.block, a.off + 1, none⟩ = some (.int .i64 g.lit) ∧ ∃ v, w.cell? ⟨a.block, a.off + 2, none⟩ = some v ∧ IntsV w B v g.inp
def GatesV (w : World) (B : Nat) := SliceV 3 (GateAt B) w B
theorem GateAt.stays (B : Nat) : Stays B (GateAt B) := fun _ _ _ _ hb hB ⟨h1, h2, v, h3, h4⟩ =>
  ⟨(hb.cell hB).trans h1, (hb.cell (by exact hB)).trans h2, v, (hb.cell (by exact hB)).trans h3, h4.below hb⟩
theorem GatesV.below {w w' : World} {B : Nat} {v : Value} {xs : List Gate} (h : GatesV w B v xs) (hb : Below B w w') : GatesV w' B v xs := SliceV.below (GateAt.stays B) h hb
theorem GateAt.more {B B' : Nat} (hB : B ≤ B') {w : World} {a : Addr} {g : Gate} (h : GateAt B w a g) : GateAt B' w a g := by
  obtain ⟨h1, h2, v, h3, h4⟩ := h
  exact ⟨h1, h2, v, h3, SliceV.more h4 hB⟩
theorem GatesV.more {w : World} {B B' : Nat} {v : Value} {xs : List Gate} (h : GatesV w B v xs) (hB : B ≤ B') : GatesV w B' v xs := by
  obtain ⟨A, c, hv, h1, h2, h3⟩ := h
  refine ⟨A, c, hv, h1, h2, fun hn => ?_⟩
  obtain ⟨b, o, hb, hA, hc⟩ := h3 hn
  exact ⟨b, o, by omega, hA, fun i x hx => (hc i x hx).more hB⟩

/-- What a round needs of an element: its address and its cells, in the walk's spelling. -/
theorem IntsV.at_ {w w' : World} {B : Nat} {A : Option Addr} {n c k : Nat} {xs : List Int} (h : IntsV w B (.slice A n c) xs) (hb : Below B w w') (hk : k < xs.length) :
    ∃ b o, A = some ⟨b, o, none⟩ ∧ b < B ∧ w'.cell? ⟨b, o + k, none⟩ = some (.int .i64 xs[k]) := by
  obtain ⟨A', c', hv, _, _, h3⟩ := h
  injection hv with hA _ _
  subst hA
  obtain ⟨b, o, hB, rfl, hc⟩ := h3 (by omega)
  refine ⟨b, o, rfl, hB, (hb.cell (by exact hB)).trans ?_⟩
  simpa [IntAt, BoolAt] using hc k _ (List.getElem?_eq_getElem hk)
theorem BoolsV.at_ {w w' : World} {B : Nat} {A : Option Addr} {n c k : Nat} {xs : List Bool} (h : BoolsV w B (.slice A n c) xs) (hb : Below B w w') (hk : k < xs.length) :
    ∃ b o, A = some ⟨b, o, none⟩ ∧ b < B ∧ w'.cell? ⟨b, o + k, none⟩ = some (.bool xs[k]) := by
  obtain ⟨A', c', hv, _, _, h3⟩ := h
  injection hv with hA _ _
  subst hA
  obtain ⟨b, o, hB, rfl, hc⟩ := h3 (by omega)
  refine ⟨b, o, rfl, hB, (hb.cell (by exact hB)).trans ?_⟩
  simpa [IntAt, BoolAt] using hc k _ (List.getElem?_eq_getElem hk)
theorem RowsV.at_ {w w' : World} {B : Nat} {A : Option Addr} {n c k : Nat} {xs : List (List Int)} (h : RowsV w B (.slice A n c) xs) (hb : Below B w w') (hk : k < xs.length) :
    ∃ b o A' c', A = some ⟨b, o, none⟩ ∧ b < B ∧ w'.cell? ⟨b, o + k, none⟩ = some (.slice A' xs[k].length c') ∧ IntsV w' B (.slice A' xs[k].length c') xs[k] ∧ xs[k].length ≤ c' ∧ c' ≤ maxLen := by
  obtain ⟨A', c', hv, _, _, h3⟩ := h
  injection hv with hA _ _
  subst hA
  obtain ⟨b, o, hB, rfl, hc⟩ := h3 (by omega)
  obtain ⟨v, hcell, hI⟩ := hc k _ (List.getElem?_eq_getElem hk)
  have hI' := hI.below hb
  obtain ⟨A'', c'', rfl, h5, h6, _⟩ := hI
  refine ⟨b, o, A'', c'', rfl, hB, (hb.cell (by exact hB)).trans ?_, hI', h5, h6⟩
  simpa using hcell
theorem GatesV.at_ {w w' : World} {B : Nat} {A : Option Addr} {n c k : Nat} {xs : List Gate} (h : GatesV w B (.slice A n c) xs) (hb : Below B w w') (hk : k < xs.length) :
    ∃ b o A' c', A = some ⟨b, o, none⟩ ∧ b < B ∧ w'.cell? ⟨b, o + k * 3, none⟩ = some (.int .i64 xs[k].kind) ∧ w'.cell? ⟨b, o + k * 3 + 1, none⟩ = some (.int .i64 xs[k].lit) ∧
      w'.cell? ⟨b, o + k * 3 + 2, none⟩ = some (.slice A' xs[k].inp.length c') ∧ IntsV w' B (.slice A' xs[k].inp.length c') xs[k].inp ∧ xs[k].inp.length ≤ c' ∧ c' ≤ maxLen := by
  obtain ⟨A', c', hv, _, _, h3⟩ := h
  injection hv with hA _ _
  subst hA
  obtain ⟨b, o, hB, rfl, hc⟩ := h3 (by omega)
  obtain ⟨h1, h2, v, h4, hI⟩ := hc k _ (List.getElem?_eq_getElem hk)
  have hI' := hI.below hb
  obtain ⟨A'', c'', rfl, h5, h6, _⟩ := hI
  exact ⟨b, o, A'', c'', rfl, hB, (hb.cell (by exact hB)).trans h1, (hb.cell (by exact hB)).trans h2, (hb.cell (by exact hB)).trans h4, hI', h5, h6⟩

/-- Block g holds just the cells cs, none of them frozen. -/
def Blk (w : World) (g : Nat) (t : TypeId) (cs : Array Value) : Prop := w.heap[g]? = some (.cells cs t (0, 0))
section
variable {w w' : World} {g : Nat} {t : TypeId} {cs : Array Value}
theorem Blk.lt (h : Blk w g t cs) : g < w.heap.size := (Array.getElem?_eq_some_iff.1 h).1
theorem Blk.cell (h : Blk w g t cs) (i : Nat) : w.cell? ⟨g, i, none⟩ = cs[i]? := cell_of_row w g i cs t (0, 0) h
theorem Blk.free (h : Blk w g t cs) (i : Nat) : w.frozen? ⟨g, i, none⟩ = false := by
  unfold Blk at h
  simp [World.frozen?, h]
theorem Blk.new (w : World) (t : TypeId) (cs : Array Value) : Blk (w.alloc (.cells cs t)) w.heap.size t cs := heap_alloc_new w _
theorem Blk.new_ {cs : Array Value} (hg : g = w.heap.size) : Blk (w.alloc (.cells cs t)) g t cs := by subst hg; exact Blk.new w t cs
theorem Blk.alloc (h : Blk w g t cs) (o : Obj) : Blk (w.alloc o) g t cs := (Below.heap_alloc w o g h.lt).trans h
theorem Blk.drew (h : Blk w g t cs) : Blk w.drew g t cs := h
theorem Blk.put (h : Blk w g t cs) (i : Nat) (u : Value) : Blk (w.setCell ⟨g, i, none⟩ u) g t (cs.setIfInBounds i u) := by
  unfold Blk at h ⊢
  simp [World.setCell, Array.getElem?_modify, h]
theorem Blk.far (h : Blk w g t cs) {p : Addr} (hp : g ≠ p.block) (u : Value) : Blk (w.setCell p u) g t cs := (Below.heap_setCell w p u g hp).trans h
theorem Blk.below {B : Nat} (h : Blk w g t cs) (hb : Below B w w') (hg : g < B) : Blk w' g t cs := (hb.block g hg).trans h
theorem Blk.keep (h : Blk w g t cs) (hb : Below w.heap.size w w') : Blk w' g t cs := h.below hb h.lt
theorem Blk.grown {row : Option Nat} (h : Blk w g t cs) (hb : w.grownBy w' row) (hg : some g ≠ row) : Blk w' g t cs := (hb.block g h.lt hg).trans h
theorem Blk.apart {g' : Nat} {t' : TypeId} {cs' : Array Value} (h : Blk w g t cs) (h' : Blk w g' t' cs') (hne : t ≠ t') : g ≠ g' := by
  rintro rfl
  unfold Blk at h h'
  rw [h] at h'
  injection h' with h'
  injection h' with _ ht
  exact hne ht
end
/-- A contract that leaves old memory alone, met behind others of that kind: all that was there at w1 still is. -/
theorem kept {P : Program} {f : FuncId} {args : Array Value} {W w1 : World} {v : Value} (h : Calls P f args W fun e w' => e = .returned v ∧ Below W.heap.size W w') (hW : Below w1.heap.size w1 W) :
    Calls P f args W fun e w' => e = .returned v ∧ Below w1.heap.size w1 w' := h.mono fun _ _ ⟨he, hb⟩ => ⟨he, hW.trans (hb.mono hW.size)⟩
theorem below_drewN {B : Nat} {a w : World} (h : Below B a w) (n : Nat) : Below B a (w.drewN n) := ⟨h.os, h.tape, h.output, h.size, h.block⟩
theorem Blk.later {w : World} {g : Nat} {t : TypeId} {cs : Array Value} (h : Blk w g t cs) (i : Nat) (v : Value) (hi : cs[i]? = some v) : ∀ w', Below w.heap.size w w' → w'.cell? ⟨g, i, none⟩ = some v :=
  fun _ hb => (hb.cell (p := ⟨g, i, none⟩) h.lt).trans ((h.cell i).trans hi)
/-- Block numbers: what a world below another has. -/
theorem Below.le {B : Nat} {w w' : World} (h : Below B w w') : w.heap.size ≤ w'.heap.size := h.size
end Go.Proofs.Ytlifakbdgmdafaa
