/-
  Lemmas and contracts, joined: Circ Mem Sets WSets WCirc WCheck WSets2 Eval WEval WSets3 WEval2 Own.
-/
import Derived.WalkKit
import Derived.WalkSpells
import Derived.WalkLawsBesides
import Derived.Handy
import Derived.Deep.LoopGhost
import Derived.Deep.Draws
import Derived.Deep.OwnRows
import Derived.Deep.AppendLies
import Derived.Deep.RegionHeld3
import Derived.Deep.RegionLaw
import Derived.Deep.RegionWith
import Derived.Deep.QuietTactic
import Derived.Deep.Cut
import Derived.Deep.CutRange
import Derived.Deep.DeepCutAuto
import Derived.Deep.DeepFit
import Derived.Deep.DeepMust
import Derived.Deep.Light
import Derived.BigQuiet
import Derived.Laws.CopyOwn
import Derived.Laws.AppendOwnNone
import Derived.Lib.Hide
import Derived.Maps.AppendAt
import Derived.Test.YtbemhgojfehnjaaDoorProg
namespace Go.Proofs.YtbemhgojfehnjaaDoor

/-- A gate of a circuit, as the document has it. -/
structure Gate where
  kind : Int
  lit : Int
  inp : List Int

def allowedB (kind n : Int) : Bool :=
  if kind = 0 ∨ kind = 1 ∨ kind = 2 then n == 0 else if kind = 3 then n == 1 else if kind = 7 then n == 2 else if kind = 8 then n == 3
  else kind == 4 || kind == 5 || kind == 6
def litVar (l : Int) : Int := if 1 ≤ l ∧ l ≤ 128 then l else if -128 ≤ l ∧ l ≤ -1 then -l else 0
def litOk (l n : Int) : Bool := decide (litVar l ≠ 0 ∧ litVar l ≤ n)
def inOk (i : Int) (k : Int) : Bool := decide (0 ≤ k ∧ k < i)
def litGood (n : Int) (g : Gate) : Bool := if g.kind = 2 then litOk g.lit n else decide (g.lit = 0)
def goodGate (n i : Int) (g : Gate) : Bool := allowedB g.kind g.inp.length && litGood n g && g.inp.all (inOk i)
def sizeTo (gs : List Gate) (k : Nat) : Nat := ((gs.take k).map fun g => g.inp.length).sum
def sizeOf (gs : List Gate) : Nat := sizeTo gs gs.length
def goodAt (n : Int) (gs : List Gate) (i : Nat) : Bool := match gs[i]? with
  | some g => goodGate n i g
  | none => false
def goodTo (n : Int) (gs : List Gate) (k : Nat) : Bool := (List.range k).all (goodAt n gs)
def checkOf (n : Int) (gs : List Gate) : Int :=
  if n < 0 ∨ 128 < n then 6 else if 4096 < gs.length ∨ 65536 < sizeOf gs then 2 else if gs.length = 0 then 1 else if goodTo n gs gs.length then 0 else 1

theorem sizeTo_succ (gs : List Gate) (k : Nat) (h : k < gs.length) : sizeTo gs (k + 1) = sizeTo gs k + gs[k].inp.length := by
  unfold sizeTo
  rw [List.take_succ_eq_append_getElem h, List.map_append, List.sum_append_nat]
  simp only [List.map_cons, List.map_nil, List.sum_cons, List.sum_nil, Nat.add_zero]
theorem sizeTo_le (gs : List Gate) (k : Nat) : sizeTo gs k ≤ sizeOf gs := by
  unfold sizeOf sizeTo
  rw [List.take_length]
  conv => rhs; rw [← List.take_append_drop k gs]
  rw [List.map_append, List.sum_append_nat]; omega
theorem sizeTo_zero (gs : List Gate) : sizeTo gs 0 = 0 := by simp [sizeTo]
theorem sizeTo_mono (gs : List Gate) (j k : Nat) (h : j ≤ k) : sizeTo gs j ≤ sizeTo gs k := by
  unfold sizeTo
  have : gs.take k = gs.take j ++ (gs.drop j).take (k - j) := by
    rw [← List.take_add]; congr 1; omega
  rw [this, List.map_append, List.sum_append_nat]; omega
theorem goodAt_eq (n : Int) (gs : List Gate) (i : Nat) (h : i < gs.length) : goodAt n gs i = goodGate n i gs[i] := by
  unfold goodAt; rw [List.getElem?_eq_getElem h]
theorem goodTo_succ (n : Int) (gs : List Gate) (k : Nat) : goodTo n gs (k + 1) = (goodTo n gs k && goodAt n gs k) := by
  unfold goodTo; rw [List.range_succ]; simp
theorem goodTo_zero (n : Int) (gs : List Gate) : goodTo n gs 0 = true := rfl
theorem goodTo_iff (n : Int) (gs : List Gate) (k : Nat) : goodTo n gs k = true ↔ ∀ i, i < k → goodAt n gs i = true := by
  unfold goodTo; simp
theorem goodTo_false (n : Int) (gs : List Gate) (i k : Nat) (h : i < k) (hg : goodAt n gs i = false) : goodTo n gs k = false := by
  cases e : goodTo n gs k with
  | false => rfl
  | true =>
    have := (goodTo_iff n gs k).1 e i h
    rw [hg] at this; cases this
theorem litVar_range (l : Int) : 0 ≤ litVar l ∧ litVar l ≤ 128 := by unfold litVar; split <;> (try split) <;> omega
theorem litOk_iff (l n : Int) (h0 : 0 ≤ n) (h : n ≤ 128) : litOk l n = true ↔ (1 ≤ l ∧ l ≤ n) ∨ (-n ≤ l ∧ l ≤ -1) := by
  unfold litOk litVar
  split
  · simp; omega
  · split
    · simp; omega
    · simp; omega
end Go.Proofs.YtbemhgojfehnjaaDoor
namespace Go.Proofs.YtbemhgojfehnjaaDoor
open Go Go.RowKit

theorem bcell {w w' : World} {B : Nat} (h : Below B w w') : (∀ b o, b < B → w'.cell? ⟨b, o, none⟩ = w.cell? ⟨b, o, none⟩) ∧ (∀ b o, b < B → w'.frozen? ⟨b, o, none⟩ = w.frozen? ⟨b, o, none⟩) :=
  ⟨fun b o hb => h.cell (p := ⟨b, o, none⟩) hb, fun b o hb => h.frozen (p := ⟨b, o, none⟩) hb⟩

/-- The slice value v reads as the list xs; each element takes sz cells and is read by R; all of it lies below block B. -/
def SliceV {α : Type} (sz : Nat) (R : World → Addr → α → Prop) (w : World) (B : Nat) (v : Value) (xs : List α) : Prop :=
  ∃ A c, v = .slice A xs.length c ∧ xs.length ≤ c ∧ c ≤ maxLen ∧ (0 < xs.length → ∃ b o, b < B ∧ A = some ⟨b, o, none⟩ ∧ ∀ i x, xs[i]? = some x → R w ⟨b, o + i * sz, none⟩ x)

/-- A reading that hangs on cells below B alone. -/
def Stays {α : Type} (B : Nat) (R : World → Addr → α → Prop) : Prop := ∀ w w' a x, Below B w w' → a.block < B → R w a x → R w' a x

theorem SliceV.below {α : Type} {sz : Nat} {R : World → Addr → α → Prop} {w w' : World} {B : Nat} {v : Value} {xs : List α} (hR : Stays B R)
    (h : SliceV sz R w B v xs) (hb : Below B w w') : SliceV sz R w' B v xs := by
  obtain ⟨A, c, hv, h1, h2, h3⟩ := h
  refine ⟨A, c, hv, h1, h2, fun hn => ?_⟩
  obtain ⟨b, o, hB, hA, hc⟩ := h3 hn
  exact ⟨b, o, hB, hA, fun i x hx => hR _ _ _ _ hb hB (hc i x hx)⟩

def IntAt (w : World) (a : Addr) (x : Int) : Prop := w.cell? a = some (.int .i64 x)
def BoolAt (w : World) (a : Addr) (x : Bool) : Prop := w.cell? a = some (.bool x)
abbrev IntsV := SliceV 1 IntAt
abbrev BoolsV := SliceV 1 BoolAt
def RowAt (B : Nat) (w : World) (a : Addr) (xs : List Int) : Prop := ∃ v, w.cell? a = some v ∧ IntsV w B v xs
def RowsV (w : World) (B : Nat) := SliceV 1 (RowAt B) w B

theorem IntAt.stays (B : Nat) : Stays B IntAt := fun _ _ _ _ hb hB h => (hb.cell hB).trans h
theorem BoolAt.stays (B : Nat) : Stays B BoolAt := fun _ _ _ _ hb hB h => (hb.cell hB).trans h
theorem IntsV.below {w w' : World} {B : Nat} {v : Value} {xs : List Int} (h : IntsV w B v xs) (hb : Below B w w') : IntsV w' B v xs := SliceV.below (IntAt.stays B) h hb
theorem BoolsV.below {w w' : World} {B : Nat} {v : Value} {xs : List Bool} (h : BoolsV w B v xs) (hb : Below B w w') : BoolsV w' B v xs := SliceV.below (BoolAt.stays B) h hb
theorem RowAt.stays (B : Nat) : Stays B (RowAt B) := fun _ _ _ _ hb hB ⟨v, h, hv⟩ => ⟨v, (hb.cell hB).trans h, hv.below hb⟩
theorem RowsV.below {w w' : World} {B : Nat} {v : Value} {xs : List (List Int)} (h : RowsV w B v xs) (hb : Below B w w') : RowsV w' B v xs := SliceV.below (RowAt.stays B) h hb

theorem SliceV.more {α : Type} {sz : Nat} {R : World → Addr → α → Prop} {w : World} {B B' : Nat} {v : Value} {xs : List α}
    (h : SliceV sz R w B v xs) (hB : B ≤ B') : SliceV sz R w B' v xs := by
  obtain ⟨A, c, hv, h1, h2, h3⟩ := h
  refine ⟨A, c, hv, h1, h2, fun hn => ?_⟩
  obtain ⟨b, o, hb, hA, hc⟩ := h3 hn
  exact ⟨b, o, by omega, hA, hc⟩
theorem RowAt.more {B B' : Nat} (hB : B ≤ B') {w : World} {a : Addr} {xs : List Int} (h : RowAt B w a xs) : RowAt B' w a xs := by
  obtain ⟨v, h1, h2⟩ := h
  exact ⟨v, h1, SliceV.more h2 hB⟩
theorem RowsV.more {w : World} {B B' : Nat} {v : Value} {xs : List (List Int)} (h : RowsV w B v xs) (hB : B ≤ B') : RowsV w B' v xs := by
  obtain ⟨A, c, hv, h1, h2, h3⟩ := h
  refine ⟨A, c, hv, h1, h2, fun hn => ?_⟩
  obtain ⟨b, o, hb, hA, hc⟩ := h3 hn
  exact ⟨b, o, by omega, hA, fun i x hx => (hc i x hx).more hB⟩

def GateAt (B : Nat) (w : World) (a : Addr) (g : Gate) : Prop :=
  w.cell? a = some (.int .i64 g.kind) ∧ w.cell? ⟨a.block, a.off + 1, none⟩ = some (.int .i64 g.lit) ∧ ∃ v, w.cell? ⟨a.block, a.off + 2, none⟩ = some v ∧ IntsV w B v g.inp
def GatesV (w : World) (B : Nat) := SliceV 3 (GateAt B) w B
theorem GateAt.stays (B : Nat) : Stays B (GateAt B) := fun _ _ _ _ hb hB ⟨h1, h2, v, h3, h4⟩ =>
  ⟨(hb.cell hB).trans h1, (hb.cell (by exact hB)).trans h2, v, (hb.cell (by exact hB)).trans h3, h4.below hb⟩
theorem GatesV.below {w w' : World} {B : Nat} {v : Value} {xs : List Gate} (h : GatesV w B v xs) (hb : Below B w w') : GatesV w' B v xs := SliceV.below (GateAt.stays B) h hb
theorem GateAt.more {B B' : Nat} (hB : B ≤ B') {w : World} {a : Addr} {g : Gate} (h : GateAt B w a g) : GateAt B' w a g := by
  obtain ⟨h1, h2, v, h3, h4⟩ := h
  exact ⟨h1, h2, v, h3, SliceV.more h4 hB⟩
theorem GatesV.more {w : World} {B B' : Nat} {v : Value} {xs : List Gate} (h : GatesV w B v xs) (hB : B ≤ B') : GatesV w B' v xs := by
  obtain ⟨A, c, hv, h1, h2, h3⟩ := h
  refine ⟨A, c, hv, h1, h2, fun hn => ?_⟩
  obtain ⟨b, o, hb, hA, hc⟩ := h3 hn
  exact ⟨b, o, by omega, hA, fun i x hx => (hc i x hx).more hB⟩

/-- What a round needs of an element: its address and its cells, in the walk's spelling. -/
theorem IntsV.at_ {w w' : World} {B : Nat} {A : Option Addr} {n c k : Nat} {xs : List Int} (h : IntsV w B (.slice A n c) xs) (hb : Below B w w') (hk : k < xs.length) :
    ∃ b o, A = some ⟨b, o, none⟩ ∧ b < B ∧ w'.cell? ⟨b, o + k, none⟩ = some (.int .i64 xs[k]) := by
  obtain ⟨A', c', hv, _, _, h3⟩ := h
  injection hv with hA _ _
  subst hA
  obtain ⟨b, o, hB, rfl, hc⟩ := h3 (by omega)
  refine ⟨b, o, rfl, hB, (hb.cell (by exact hB)).trans ?_⟩
  simpa [IntAt, BoolAt] using hc k _ (List.getElem?_eq_getElem hk)
theorem BoolsV.at_ {w w' : World} {B : Nat} {A : Option Addr} {n c k : Nat} {xs : List Bool} (h : BoolsV w B (.slice A n c) xs) (hb : Below B w w') (hk : k < xs.length) :
    ∃ b o, A = some ⟨b, o, none⟩ ∧ b < B ∧ w'.cell? ⟨b, o + k, none⟩ = some (.bool xs[k]) := by
  obtain ⟨A', c', hv, _, _, h3⟩ := h
  injection hv with hA _ _
  subst hA
  obtain ⟨b, o, hB, rfl, hc⟩ := h3 (by omega)
  refine ⟨b, o, rfl, hB, (hb.cell (by exact hB)).trans ?_⟩
  simpa [IntAt, BoolAt] using hc k _ (List.getElem?_eq_getElem hk)
theorem RowsV.at_ {w w' : World} {B : Nat} {A : Option Addr} {n c k : Nat} {xs : List (List Int)} (h : RowsV w B (.slice A n c) xs) (hb : Below B w w') (hk : k < xs.length) :
    ∃ b o A' c', A = some ⟨b, o, none⟩ ∧ b < B ∧ w'.cell? ⟨b, o + k, none⟩ = some (.slice A' xs[k].length c') ∧ IntsV w' B (.slice A' xs[k].length c') xs[k] ∧ xs[k].length ≤ c' ∧ c' ≤ maxLen := by
  obtain ⟨A', c', hv, _, _, h3⟩ := h
  injection hv with hA _ _
  subst hA
  obtain ⟨b, o, hB, rfl, hc⟩ := h3 (by omega)
  obtain ⟨v, hcell, hI⟩ := hc k _ (List.getElem?_eq_getElem hk)
  have hI' := hI.below hb
  obtain ⟨A'', c'', rfl, h5, h6, _⟩ := hI
  refine ⟨b, o, A'', c'', rfl, hB, (hb.cell (by exact hB)).trans ?_, hI', h5, h6⟩
  simpa using hcell
theorem GatesV.at_ {w w' : World} {B : Nat} {A : Option Addr} {n c k : Nat} {xs : List Gate} (h : GatesV w B (.slice A n c) xs) (hb : Below B w w') (hk : k < xs.length) :
    ∃ b o A' c', A = some ⟨b, o, none⟩ ∧ b < B ∧ w'.cell? ⟨b, o + k * 3, none⟩ = some (.int .i64 xs[k].kind) ∧ w'.cell? ⟨b, o + k * 3 + 1, none⟩ = some (.int .i64 xs[k].lit) ∧
      w'.cell? ⟨b, o + k * 3 + 2, none⟩ = some (.slice A' xs[k].inp.length c') ∧ IntsV w' B (.slice A' xs[k].inp.length c') xs[k].inp ∧ xs[k].inp.length ≤ c' ∧ c' ≤ maxLen := by
  obtain ⟨A', c', hv, _, _, h3⟩ := h
  injection hv with hA _ _
  subst hA
  obtain ⟨b, o, hB, rfl, hc⟩ := h3 (by omega)
  obtain ⟨h1, h2, v, h4, hI⟩ := hc k _ (List.getElem?_eq_getElem hk)
  have hI' := hI.below hb
  obtain ⟨A'', c'', rfl, h5, h6, _⟩ := hI
  exact ⟨b, o, A'', c'', rfl, hB, (hb.cell (by exact hB)).trans h1, (hb.cell (by exact hB)).trans h2, (hb.cell (by exact hB)).trans h4, hI', h5, h6⟩

/-- Block g holds just the cells cs, none of them frozen. -/
def Blk (w : World) (g : Nat) (t : TypeId) (cs : Array Value) : Prop := w.heap[g]? = some (.cells cs t (0, 0))
section
variable {w w' : World} {g : Nat} {t : TypeId} {cs : Array Value}
theorem Blk.lt (h : Blk w g t cs) : g < w.heap.size := (Array.getElem?_eq_some_iff.1 h).1
theorem Blk.cell (h : Blk w g t cs) (i : Nat) : w.cell? ⟨g, i, none⟩ = cs[i]? := cell_of_row w g i cs t (0, 0) h
theorem Blk.free (h : Blk w g t cs) (i : Nat) : w.frozen? ⟨g, i, none⟩ = false := by
  unfold Blk at h
  simp [World.frozen?, h]
theorem Blk.new (w : World) (t : TypeId) (cs : Array Value) : Blk (w.alloc (.cells cs t)) w.heap.size t cs := heap_alloc_new w _
theorem Blk.new_ {cs : Array Value} (hg : g = w.heap.size) : Blk (w.alloc (.cells cs t)) g t cs := by subst hg; exact Blk.new w t cs
theorem Blk.alloc (h : Blk w g t cs) (o : Obj) : Blk (w.alloc o) g t cs := (Below.heap_alloc w o g h.lt).trans h
theorem Blk.drew (h : Blk w g t cs) : Blk w.drew g t cs := h
theorem Blk.put (h : Blk w g t cs) (i : Nat) (u : Value) : Blk (w.setCell ⟨g, i, none⟩ u) g t (cs.setIfInBounds i u) := by
  unfold Blk at h ⊢
  simp [World.setCell, Array.getElem?_modify, h]
theorem Blk.far (h : Blk w g t cs) {p : Addr} (hp : g ≠ p.block) (u : Value) : Blk (w.setCell p u) g t cs := (Below.heap_setCell w p u g hp).trans h
theorem Blk.below {B : Nat} (h : Blk w g t cs) (hb : Below B w w') (hg : g < B) : Blk w' g t cs := (hb.block g hg).trans h
theorem Blk.keep (h : Blk w g t cs) (hb : Below w.heap.size w w') : Blk w' g t cs := h.below hb h.lt
theorem Blk.grown {row : Option Nat} (h : Blk w g t cs) (hb : w.grownBy w' row) (hg : some g ≠ row) : Blk w' g t cs := (hb.block g h.lt hg).trans h
theorem Blk.apart {g' : Nat} {t' : TypeId} {cs' : Array Value} (h : Blk w g t cs) (h' : Blk w g' t' cs') (hne : t ≠ t') : g ≠ g' := by
  rintro rfl
  unfold Blk at h h'
  rw [h] at h'
  injection h' with h'
  injection h' with _ ht
  exact hne ht
end
/-- A contract that leaves old memory alone, met behind others of that kind: all that was there at w1 still is. -/
theorem kept {P : Program} {f : FuncId} {args : Array Value} {W w1 : World} {v : Value} (h : Calls P f args W fun e w' => e = .returned v ∧ Below W.heap.size W w') (hW : Below w1.heap.size w1 W) :
    Calls P f args W fun e w' => e = .returned v ∧ Below w1.heap.size w1 w' := h.mono fun _ _ ⟨he, hb⟩ => ⟨he, hW.trans (hb.mono hW.size)⟩
theorem below_drewN {B : Nat} {a w : World} (h : Below B a w) (n : Nat) : Below B a (w.drewN n) := ⟨h.os, h.tape, h.output, h.size, h.block⟩
theorem Blk.later {w : World} {g : Nat} {t : TypeId} {cs : Array Value} (h : Blk w g t cs) (i : Nat) (v : Value) (hi : cs[i]? = some v) : ∀ w', Below w.heap.size w w' → w'.cell? ⟨g, i, none⟩ = some v :=
  fun _ hb => (hb.cell (p := ⟨g, i, none⟩) h.lt).trans ((h.cell i).trans hi)
/-- Block numbers: what a world below another has. -/
theorem Below.le {B : Nat} {w w' : World} (h : Below B w w') : w.heap.size ≤ w'.heap.size := h.size
end Go.Proofs.YtbemhgojfehnjaaDoor
namespace Go.Proofs.YtbemhgojfehnjaaDoor

structure VS where
  a : BitVec 64
  b : BitVec 64

theorem VS.eta (s : VS) : (⟨s.a, s.b⟩ : VS) = s := rfl
def VS.empty : VS := ⟨0#64, 0#64⟩
def VS.has (s : VS) (v : Int) : Bool :=
  if 1 ≤ v ∧ v ≤ 64 then s.a.getLsbD (v.toNat - 1) else if 65 ≤ v ∧ v ≤ 128 then s.b.getLsbD (v.toNat - 65) else false
/-- The set of the variables for which f says yes. -/
def wordOf (f : Nat → Bool) : Nat → BitVec 64
  | 0 => 0#64
  | n + 1 => if f n then wordOf f n ||| (1#64 <<< n) else wordOf f n
def VS.of (f : Int → Bool) : VS := ⟨wordOf (fun i => f (i + 1)) 64, wordOf (fun i => f (i + 65)) 64⟩
def VS.bit (v : Int) : VS :=
  if 1 ≤ v ∧ v ≤ 64 then ⟨1#64 <<< (v.toNat - 1), 0#64⟩ else if 65 ≤ v ∧ v ≤ 128 then ⟨0#64, 1#64 <<< (v.toNat - 65)⟩ else .empty
def VS.with_ (s : VS) (v : Int) : VS := ⟨s.a ||| (VS.bit v).a, s.b ||| (VS.bit v).b⟩
def VS.cut (s t : VS) : VS := ⟨s.a &&& t.a, s.b &&& t.b⟩
def VS.union (s t : VS) : VS := ⟨s.a ||| t.a, s.b ||| t.b⟩
def VS.minus (s t : VS) : VS := ⟨s.a &&& ~~~t.a, s.b &&& ~~~t.b⟩
def VS.xor (s t : VS) : VS := ⟨s.a ^^^ t.a, s.b ^^^ t.b⟩
def VS.all (n : Int) : VS := VS.of fun v => decide (v ≤ n)
def VS.sub (s t : VS) : Bool := (s.minus t).a == 0#64 && (s.minus t).b == 0#64

theorem wordOf_bit (f : Nat → Bool) (n : Nat) (hn : n ≤ 64) (i : Nat) : (wordOf f n).getLsbD i = (decide (i < n) && f i) := by
  induction n with
  | zero => simp [wordOf]
  | succ n ih =>
    have ih := ih (by omega)
    unfold wordOf
    by_cases hf : f n
    · rw [if_pos hf, BitVec.getLsbD_or, ih, BitVec.getLsbD_shiftLeft]
      by_cases h1 : i < n
      · simp [h1, show i < n + 1 from by omega]
      · by_cases h2 : i = n
        · subst h2; simp [hf]; omega
        · simp [show ¬ i < n + 1 from by omega, h1]
          intro h3 h4
          omega
    · rw [if_neg hf, ih]
      by_cases h1 : i < n
      · simp [h1, show i < n + 1 from by omega]
      · by_cases h2 : i = n
        · subst h2; simp [hf]
        · simp [show ¬ i < n + 1 from by omega, h1]

theorem VS.has_of (f : Int → Bool) (v : Int) : (VS.of f).has v = (decide (1 ≤ v ∧ v ≤ 128) && f v) := by
  unfold VS.has VS.of
  by_cases h1 : 1 ≤ v ∧ v ≤ 64
  · rw [if_pos h1]
    simp only []
    rw [wordOf_bit _ _ (Nat.le_refl _)]
    have e : ((v.toNat - 1 : Nat) : Int) + 1 = v := by omega
    rw [e]
    simp [show v.toNat - 1 < 64 from by omega, h1.1, show v ≤ 128 from by omega]
  · rw [if_neg h1]
    by_cases h2 : 65 ≤ v ∧ v ≤ 128
    · rw [if_pos h2]
      simp only []
      rw [wordOf_bit _ _ (Nat.le_refl _)]
      have e : ((v.toNat - 65 : Nat) : Int) + 65 = v := by omega
      rw [e]
      simp [show v.toNat - 65 < 64 from by omega, h2.2, show 1 ≤ v from by omega]
    · rw [if_neg h2]
      have : ¬ (1 ≤ v ∧ v ≤ 128) := by omega
      simp [this]

theorem VS.ext_has {s t : VS} (h : ∀ v : Int, 1 ≤ v → v ≤ 128 → s.has v = t.has v) : s = t := by
  obtain ⟨a, b⟩ := s
  obtain ⟨c, d⟩ := t
  have ha : a = c := by
    apply BitVec.eq_of_getLsbD_eq
    intro i hi
    have := h (i + 1) (by omega) (by omega)
    unfold VS.has at this
    rw [if_pos (by omega), if_pos (by omega)] at this
    simpa [show ((i : Int) + 1).toNat = i + 1 from by omega] using this
  have hb : b = d := by
    apply BitVec.eq_of_getLsbD_eq
    intro i hi
    have := h (i + 65) (by omega) (by omega)
    unfold VS.has at this
    rw [if_neg (by omega), if_pos (by omega), if_neg (by omega), if_pos (by omega)] at this
    simpa [show ((i : Int) + 65).toNat = i + 65 from by omega] using this
  rw [ha, hb]

theorem VS.has_out (s : VS) {v : Int} (h : v < 1 ∨ 128 < v) : s.has v = false := by
  unfold VS.has
  rw [if_neg (by omega), if_neg (by omega)]
theorem VS.has_in {s : VS} {v : Int} (h : s.has v = true) : 1 ≤ v ∧ v ≤ 128 := by
  rcases Classical.em (v < 1 ∨ 128 < v) with h1 | h1
  · rw [VS.has_out s h1] at h; cases h
  · omega

theorem VS.has_empty (v : Int) : VS.empty.has v = false := by
  unfold VS.has VS.empty
  split
  · simp
  · split <;> simp
theorem VS.has_bit (u v : Int) : (VS.bit u).has v = (decide (1 ≤ u ∧ u ≤ 128) && decide (v = u)) := by
  unfold VS.has VS.bit
  by_cases h1 : 1 ≤ u ∧ u ≤ 64
  · rw [if_pos h1]
    by_cases h2 : 1 ≤ v ∧ v ≤ 64
    · rw [if_pos h2]
      simp only [BitVec.getLsbD_shiftLeft, BitVec.getLsbD_one]
      by_cases e : v = u
      · subst e; simp [show v.toNat - 1 < 64 from by omega, h1.1, show v ≤ 128 from by omega]
      · have : ¬ (v.toNat - 1 - (u.toNat - 1) = 0 ∧ ¬ v.toNat - 1 < u.toNat - 1) := by omega
        simp [e]; omega
    · rw [if_neg h2]
      split
      · simp; omega
      · simp; omega
  · rw [if_neg h1]
    by_cases h3 : 65 ≤ u ∧ u ≤ 128
    · rw [if_pos h3]
      by_cases h2 : 1 ≤ v ∧ v ≤ 64
      · rw [if_pos h2]; simp; omega
      · rw [if_neg h2]
        by_cases h4 : 65 ≤ v ∧ v ≤ 128
        · rw [if_pos h4]
          simp only [BitVec.getLsbD_shiftLeft, BitVec.getLsbD_one]
          by_cases e : v = u
          · subst e; simp [show v.toNat - 65 < 64 from by omega, h3.2, show 1 ≤ v from by omega]
          · simp [e]; omega
        · rw [if_neg h4]; simp; omega
    · rw [if_neg h3]
      have := VS.has_empty v
      unfold VS.has at this
      rw [this]
      have : ¬ (1 ≤ u ∧ u ≤ 128) := by omega
      simp [this]

theorem VS.has_union (s t : VS) (v : Int) : (s.union t).has v = (s.has v || t.has v) := by
  unfold VS.has VS.union
  split
  · simp
  · split <;> simp
theorem VS.has_cut (s t : VS) (v : Int) : (s.cut t).has v = (s.has v && t.has v) := by
  unfold VS.has VS.cut
  split
  · simp
  · split <;> simp
theorem VS.has_minus (s t : VS) (v : Int) : (s.minus t).has v = (s.has v && !t.has v) := by
  unfold VS.has VS.minus
  split
  · simp [show v.toNat - 1 < 64 from by omega]
  · split
    · simp [show v.toNat - 65 < 64 from by omega]
    · rfl
theorem VS.has_xor (s t : VS) (v : Int) : (s.xor t).has v = (s.has v != t.has v) := by
  unfold VS.has VS.xor
  split
  · simp
  · split <;> simp
theorem VS.has_with (s : VS) (u v : Int) : (s.with_ u).has v = (s.has v || (decide (1 ≤ u ∧ u ≤ 128) && decide (v = u))) := by
  rw [← VS.has_bit, ← VS.has_union]; rfl
theorem VS.has_all (n v : Int) : (VS.all n).has v = (decide (1 ≤ v ∧ v ≤ 128) && decide (v ≤ n)) := by
  unfold VS.all; rw [VS.has_of]
theorem VS.sub_iff (s t : VS) : s.sub t = true ↔ ∀ v : Int, 1 ≤ v → v ≤ 128 → s.has v = true → t.has v = true := by
  have e : s.sub t = true ↔ s.minus t = VS.empty := by
    unfold VS.sub VS.empty
    constructor
    · intro h
      simp only [Bool.and_eq_true, beq_iff_eq] at h
      obtain ⟨x, y⟩ := h
      generalize s.minus t = m at x y
      obtain ⟨p, q⟩ := m
      simp only at x y
      rw [x, y]
    · intro h; rw [h]; rfl
  rw [e]
  constructor
  · intro h v _ _ hs
    have := VS.has_minus s t v
    rw [h, VS.has_empty, hs] at this
    simpa using this.symm
  · intro h
    apply VS.ext_has
    intro v h1 h2
    rw [VS.has_empty, VS.has_minus]
    cases hs : s.has v
    · rfl
    · rw [h v h1 h2 hs]; rfl
theorem VS.eq_iff {s t : VS} : s = t ↔ s.a = t.a ∧ s.b = t.b := by
  constructor
  · intro h; rw [h]; exact ⟨rfl, rfl⟩
  · intro ⟨h1, h2⟩; obtain ⟨a, b⟩ := s; obtain ⟨c, d⟩ := t; simp only at h1 h2; rw [h1, h2]

/-- The variables of a set, ascending. -/
def VS.list (s : VS) (n : Nat) : List Int := ((List.range n).map fun i : Nat => (i : Int) + 1).filter s.has
/-- The set of the variables of a list. -/
def VS.ofList : List Int → VS
  | [] => .empty
  | v :: l => (VS.ofList l).with_ v
theorem VS.has_ofList (l : List Int) (v : Int) (h1 : 1 ≤ v) (h2 : v ≤ 128) : (VS.ofList l).has v = l.contains v := by
  induction l with
  | nil => simp [VS.ofList, VS.has_empty]
  | cons u l ih =>
    rw [VS.ofList, VS.has_with, ih]
    by_cases e : v = u
    · subst e; simp [h1, h2]
    · simp [e]
end Go.Proofs.YtbemhgojfehnjaaDoor
namespace Go.Proofs.YtbemhgojfehnjaaDoor
open Go Go.RowKit

theorem ofInt_bv (a : BitVec 64) : BitVec.ofInt 64 (a.toNat : Int) = a := by
  rw [BitVec.ofInt_natCast]; simp
theorem u64_wrap_bv (a : BitVec 64) : IntKind.u64.wrap (a.toNat : Int) = (a.toNat : Int) := by
  have := a.isLt
  rw [IntKind.wrap_u64]; omega
theorem bits_or_bv (a b : BitVec 64) : bits .or .u64 (a.toNat : Int) (b.toNat : Int) = ((a ||| b).toNat : Int) := by
  show IntKind.u64.wrap ((BitVec.ofInt 64 (a.toNat : Int) ||| BitVec.ofInt 64 (b.toNat : Int)).toNat : Int) = _
  rw [ofInt_bv, ofInt_bv, u64_wrap_bv]
theorem bits_and_bv (a b : BitVec 64) : bits .and .u64 (a.toNat : Int) (b.toNat : Int) = ((a &&& b).toNat : Int) := by
  show IntKind.u64.wrap ((BitVec.ofInt 64 (a.toNat : Int) &&& BitVec.ofInt 64 (b.toNat : Int)).toNat : Int) = _
  rw [ofInt_bv, ofInt_bv, u64_wrap_bv]
theorem bits_xor_bv (a b : BitVec 64) : bits .xor .u64 (a.toNat : Int) (b.toNat : Int) = ((a ^^^ b).toNat : Int) := by
  show IntKind.u64.wrap ((BitVec.ofInt 64 (a.toNat : Int) ^^^ BitVec.ofInt 64 (b.toNat : Int)).toNat : Int) = _
  rw [ofInt_bv, ofInt_bv, u64_wrap_bv]
theorem bits_andNot_bv (a b : BitVec 64) : bits .andNot .u64 (a.toNat : Int) (b.toNat : Int) = ((a &&& ~~~b).toNat : Int) := by
  show IntKind.u64.wrap ((BitVec.ofInt 64 (a.toNat : Int) &&& ~~~(BitVec.ofInt 64 (b.toNat : Int))).toNat : Int) = _
  rw [ofInt_bv, ofInt_bv, u64_wrap_bv]
theorem pow_bv (k : Nat) (hk : k < 64) : IntKind.u64.wrap (2 ^ k) = ((1#64 <<< k).toNat : Int) := by
  have h : ((1#64 <<< k).toNat : Int) = (2 : Int) ^ k := by
    have : (1#64 <<< k).toNat = 2 ^ k := by
      rw [BitVec.toNat_shiftLeft]
      simp only [BitVec.toNat_ofNat, Nat.shiftLeft_eq]
      rw [Nat.mod_eq_of_lt (show 1 < 2 ^ 64 by decide), Nat.one_mul]
      exact Nat.mod_eq_of_lt (Nat.pow_lt_pow_right (by decide) hk)
    rw [this]; simp
  rw [← h, u64_wrap_bv]
theorem bit_bv (a : BitVec 64) (k : Nat) (hk : k < 64) : (bits .and .u64 (a.toNat : Int) (IntKind.u64.wrap (2 ^ k)) != 0) = a.getLsbD k := by
  rw [pow_bv k hk, bits_and_bv]
  by_cases h : a.getLsbD k
  · rw [h, bne_iff_ne]
    intro e
    have e2 : a &&& 1#64 <<< k = 0#64 := by
      apply BitVec.eq_of_toNat_eq
      simpa using e
    have := congrArg (fun x => x.getLsbD k) e2
    simp [hk] at this
    rw [BitVec.getLsbD_eq_getElem hk, this] at h
    cases h
  · have h' : a.getLsbD k = false := by simpa using h
    rw [h']
    have e2 : a &&& 1#64 <<< k = 0#64 := by
      apply BitVec.eq_of_getLsbD_eq
      intro i hi
      rw [BitVec.getLsbD_and, BitVec.getLsbD_shiftLeft]
      by_cases e : i = k
      · subst e; rw [h']; simp
      · simp; omega
    rw [e2]; rfl
theorem shr_bv (a : BitVec 64) (k : Nat) : (((a.toNat : Int) / 2 ^ k).tmod 2 == 1) = a.getLsbD k := by
  have h1 : ((a.toNat : Int) / 2 ^ k) = ((a.toNat / 2 ^ k : Nat) : Int) := by
    rw [Int.natCast_ediv]; simp
  rw [h1, Int.tmod_eq_emod_of_nonneg (Int.natCast_nonneg _)]
  rw [BitVec.getLsbD, Nat.testBit, Nat.shiftRight_eq_div_pow, Nat.one_and_eq_mod_two]
  rcases Nat.mod_two_eq_zero_or_one (a.toNat / 2 ^ k) with h | h
  · rw [h]; rw [show ((a.toNat / 2 ^ k : Nat) : Int) % 2 = 0 from by omega]; rfl
  · rw [h]; rw [show ((a.toNat / 2 ^ k : Nat) : Int) % 2 = 1 from by omega]; rfl
theorem tn_beq (a b : BitVec 64) : (((a.toNat : Int)) == (b.toNat : Int)) = (a == b) := by
  by_cases h : a = b
  · subst h; simp
  · have : ¬ a.toNat = b.toNat := fun e => h (BitVec.eq_of_toNat_eq e)
    rw [show (a == b) = false from by simp [h], beq_eq_false_iff_ne]
    omega

theorem ret_agg2 {x y x' y' : Int} (h1 : x = x') (h2 : y = y') : Ending.returned (.agg #[.int .u64 x, .int .u64 y]) = .returned (.agg #[.int .u64 x', .int .u64 y']) := by rw [h1, h2]
theorem ret_bool {x y : Bool} (h : x = y) : Ending.returned (.bool x) = .returned (.bool y) := by rw [h]
theorem ret_int {k : IntKind} {x y : Int} (h : x = y) : Ending.returned (.int k x) = .returned (.int k y) := by rw [h]

theorem eqIn_u64 (w : World) (a c : Int) : (Op.equalIn 9999 25 (.int .u64 a) (.int .u64 c)).run Tryd.prog w = .ok (a == c) w := run_equalIn_int w 9998 25 .u64 .u64 a c Tryd.underlying25
theorem eq_sets (w : World) (a b c d : Int) : (binOp .eql 27 (.agg #[.int .u64 a, .int .u64 b]) (.agg #[.int .u64 c, .int .u64 d])).run Tryd.prog w = .ok (.bool (a == c && b == d)) w := by
  simp only [binOp]
  simp [Op.equal, Op.maxDepth]
  unfold Op.equalIn
  simp
  go_simp
  simp [show List.range' 0 2 = [0,1] from rfl, eqIn_u64, go_sem]
  by_cases h : a = c
  · subst h; simp [go_sem]
    by_cases h : b = d
    · subst h; simp
    · simp [h]
  · simp [h]


theorem has_lo (s : VS) (v : Int) (h : 1 ≤ v) (h2 : v ≤ 64) : s.has v = s.a.getLsbD (v.toNat - 1) := by unfold VS.has; rw [if_pos ⟨h, h2⟩]
theorem has_hi (s : VS) (v : Int) (h : 65 ≤ v) (h2 : v ≤ 128) : s.has v = s.b.getLsbD (v.toNat - 65) := by unfold VS.has; rw [if_neg (by omega), if_pos ⟨h, h2⟩]
theorem bit_lo (v : Int) (h : 1 ≤ v) (h2 : v ≤ 64) : VS.bit v = ⟨1#64 <<< (v.toNat - 1), 0#64⟩ := by unfold VS.bit; rw [if_pos ⟨h, h2⟩]
theorem bit_hi (v : Int) (h : 65 ≤ v) (h2 : v ≤ 128) : VS.bit v = ⟨0#64, 1#64 <<< (v.toNat - 65)⟩ := by unfold VS.bit; rw [if_neg (by omega), if_pos ⟨h, h2⟩]
theorem bit_out (v : Int) (h : v < 1 ∨ 128 < v) : VS.bit v = ⟨0#64, 0#64⟩ := by unfold VS.bit; rw [if_neg (by omega), if_neg (by omega)]; rfl

set_option maxHeartbeats 400000 in
theorem vars_has (a b : BitVec 64) (v : Int) (w : World) :
    Calls Tryd.prog 79 #[(.agg #[.int .u64 ((a).toNat : Int), .int .u64 ((b).toNat : Int)]), (.int .i64 (v))] w fun e w' => e = .returned (.bool (VS.has ⟨a, b⟩ v)) ∧ Below w.heap.size w w' := by
  by_cases h : v < 1 ∨ 128 < v
  · rw [VS.has_out _ h]
    rcases h with h | h
    all_goals
      go_enter Tryd.func79, Tryd.ntmps79
      go_wp2
      go_ret
      exact ⟨rfl, (Below.refl _ _).alloc (Nat.le_refl _) _⟩
  · by_cases h2 : v ≤ 64
    · have h1 : 1 ≤ v := by omega
      rw [has_lo _ v h1 h2]
      have hb := bit_bv a (v.toNat - 1) (by omega)
      clear h
      have hq : (v-1)/64 = 0 := by omega
      have hr : (v-1)%64 = v-1 := by omega
      have HB := Lib.hid hb
      clear hb
      go_enter Tryd.func79, Tryd.ntmps79
      go_wp2
      go_ret
      exact ⟨ret_bool (by simpa using HB.out), (Below.refl _ _).alloc (Nat.le_refl _) _⟩
    · have h1 : 65 ≤ v := by omega
      have h3 : v ≤ 128 := by omega
      rw [has_hi _ v h1 h3]
      have hb := bit_bv b (v.toNat - 65) (by omega)
      clear h h2
      have hq : (v-1)/64 = 1 := by omega
      have hr : (v-1)%64 = v-65 := by omega
      have HB := Lib.hid hb
      clear hb
      go_enter Tryd.func79, Tryd.ntmps79
      go_wp2
      go_ret
      have e : (v - 65).toNat = v.toNat - 65 := by omega
      exact ⟨ret_bool (by rw [← e] at HB; simpa [e] using HB.out), (Below.refl _ _).alloc (Nat.le_refl _) _⟩

set_option maxHeartbeats 400000 in
theorem vars_with (a b : BitVec 64) (v : Int) (w : World) :
    Calls Tryd.prog 51 #[(.agg #[.int .u64 ((a).toNat : Int), .int .u64 ((b).toNat : Int)]), (.int .i64 (v))] w fun e w' => e = .returned (.agg #[.int .u64 ((VS.with_ ⟨a, b⟩ v).a.toNat : Int), .int .u64 ((VS.with_ ⟨a, b⟩ v).b.toNat : Int)]) ∧ Below w.heap.size w w' := by
  by_cases h : v < 1 ∨ 128 < v
  · unfold VS.with_
    rw [bit_out v h]
    rcases h with h | h
    all_goals
      go_enter Tryd.func51, Tryd.ntmps51
      go_wp2
      go_returns
      exact ⟨ret_agg2 (by simp) (by simp), by go_grown⟩
  · unfold VS.with_
    by_cases h2 : v ≤ 64
    · have h1 : 1 ≤ v := by omega
      rw [bit_lo v h1 h2]
      clear h
      have hq : (v-1)/64 = 0 := by omega
      have hr : (v-1)%64 = v-1 := by omega
      go_enter Tryd.func51, Tryd.ntmps51
      go_wp2
      go_returns
      exact ⟨ret_agg2 (by rw [pow_bv _ (by omega), bits_or_bv]) (by simp), by go_grown⟩
    · have h1 : 65 ≤ v := by omega
      have h3 : v ≤ 128 := by omega
      rw [bit_hi v h1 h3]
      clear h h2
      have hq : (v-1)/64 = 1 := by omega
      have hr : (v-1)%64 = v-65 := by omega
      have e : (v - 65).toNat = v.toNat - 65 := by omega
      have HE := Lib.hid e
      clear e
      go_enter Tryd.func51, Tryd.ntmps51
      go_wp2
      go_returns
      exact ⟨ret_agg2 (by simp) (by rw [HE.out, pow_bv _ (by omega), bits_or_bv]), by go_grown⟩

theorem vars_minus (a b c d : BitVec 64) (w : World) :
    Calls Tryd.prog 54 #[(.agg #[.int .u64 ((a).toNat : Int), .int .u64 ((b).toNat : Int)]), (.agg #[.int .u64 ((c).toNat : Int), .int .u64 ((d).toNat : Int)])] w fun e w' => e = .returned (.agg #[.int .u64 ((VS.minus ⟨a, b⟩ ⟨c, d⟩).a.toNat : Int), .int .u64 ((VS.minus ⟨a, b⟩ ⟨c, d⟩).b.toNat : Int)]) ∧ Below w.heap.size w w' := by
  go_enter Tryd.func54, Tryd.ntmps54
  go_wp2
  go_returns
  exact ⟨ret_agg2 (bits_andNot_bv _ _) (bits_andNot_bv _ _), by go_grown⟩
theorem vars_sub (a b c d : BitVec 64) (w : World) :
    Calls Tryd.prog 33 #[(.agg #[.int .u64 ((a).toNat : Int), .int .u64 ((b).toNat : Int)]), (.agg #[.int .u64 ((c).toNat : Int), .int .u64 ((d).toNat : Int)])] w fun e w' => e = .returned (.bool (VS.sub ⟨a, b⟩ ⟨c, d⟩)) ∧ Below w.heap.size w w' := by
  have he := fun w' => eq_sets w' ((VS.minus ⟨a, b⟩ ⟨c, d⟩).a.toNat : Int) ((VS.minus ⟨a, b⟩ ⟨c, d⟩).b.toNat : Int) 0 0
  have e : VS.sub ⟨a, b⟩ ⟨c, d⟩ = ((((VS.minus ⟨a, b⟩ ⟨c, d⟩).a.toNat : Int) == 0) && (((VS.minus ⟨a, b⟩ ⟨c, d⟩).b.toNat : Int) == 0)) := by
    unfold VS.sub
    rw [← tn_beq, ← tn_beq]
    rfl
  rw [e]
  clear e
  go_enter Tryd.func33, Tryd.ntmps33
  go_wp2_with (go_at_call 54; refine (vars_minus _ _ _ _ _).mono ?_; rintro e w' ⟨rfl, hb⟩)
  go_ret
  exact ⟨rfl, Below.trans (by go_grown) (hb.mono (by simp; omega))⟩
end Go.Proofs.YtbemhgojfehnjaaDoor
namespace Go.Proofs.YtbemhgojfehnjaaDoor
open Go Go.RowKit

set_option maxHeartbeats 400000 in
theorem circ_size (N : Int) (V : Value) (gs : List Gate) (w : World) (B : Nat) (hB : B ≤ w.heap.size) (hg : GatesV w B V gs) (hs : sizeOf gs ≤ 4611686018427387904) :
    Calls Tryd.prog 23 #[.agg #[.int .i64 N, V]] w fun e w' => e = .returned (.int .i64 ((sizeOf gs : Nat) : Int)) ∧ Below w.heap.size w w' := by
  obtain ⟨A, c, rfl, hlc, hcm, _⟩ := id hg
  unfold maxLen at hcm
  go_enter Tryd.func23, Tryd.ntmps23
  go_wp2
  go_loopw [3, 9] (fun s i wr => ∃ k : Nat, k ≤ gs.length ∧ i = .int .i64 k ∧ s = .int .i64 ((sizeTo gs k : Nat) : Int) ∧ Below w.heap.size w wr) (fun _ i _ => gs.length - (intOf i).toNat)
  case atStart => exact ⟨0, Nat.zero_le _, rfl, by rw [sizeTo_zero]; rfl, (Below.refl _ _).alloc (Nat.le_refl _) _⟩
  case round =>
    obtain ⟨k, hk, rfl, rfl, hb⟩ := hrel
    by_cases hlt : k < gs.length
    · obtain ⟨b, o, A', c', rfl, hbB, h0, h1, h2, hI, hnc, hcm'⟩ := hg.at_ (hb.mono hB) hlt
      have hsz := Lib.hid (sizeTo_succ gs k hlt)
      have hle1 := sizeTo_le gs (k + 1)
      have hle2 := sizeTo_succ gs k hlt
      have hle : sizeTo gs k + gs[k].inp.length ≤ 4611686018427387904 := by omega
      clear hle1 hle2
      go_wp2
      go_roundw
      case rel => exact ⟨k + 1, by omega, by go_num, by rw [hsz.out]; simp, hb.alloc hb.size _⟩
      case measure => simp [intOf]; omega
    · go_wp2
      go_ret
      have : k = gs.length := by omega
      subst this
      exact ⟨rfl, hb⟩

set_option maxHeartbeats 800000 in
theorem circ_inputs (k n : Int) (w : World) :
    Calls Tryd.prog 74 #[(.int .i64 (k)), (.int .i64 (n))] w fun e w' => e = .returned (.bool (allowedB k n)) ∧ w = w' := by
  by_cases h0 : k = 0
  · subst h0
    go_enter Tryd.func74, Tryd.ntmps74
    go_wp2
    go_ret
    exact ⟨ret_bool (by simp [allowedB]), rfl⟩
  by_cases h1 : k = 1
  · subst h1
    go_enter Tryd.func74, Tryd.ntmps74
    go_wp2
    go_ret
    exact ⟨ret_bool (by simp [allowedB]), rfl⟩
  by_cases h2 : k = 2
  · subst h2
    go_enter Tryd.func74, Tryd.ntmps74
    go_wp2
    go_ret
    exact ⟨ret_bool (by simp [allowedB]), rfl⟩
  by_cases h3 : k = 3
  · subst h3
    go_enter Tryd.func74, Tryd.ntmps74
    go_wp2
    go_ret
    exact ⟨ret_bool (by simp [allowedB]), rfl⟩
  by_cases h4 : k = 4
  · subst h4
    go_enter Tryd.func74, Tryd.ntmps74
    go_wp2
    go_ret
    exact ⟨ret_bool (by simp [allowedB]), rfl⟩
  by_cases h5 : k = 5
  · subst h5
    go_enter Tryd.func74, Tryd.ntmps74
    go_wp2
    go_ret
    exact ⟨ret_bool (by simp [allowedB]), rfl⟩
  by_cases h7 : k = 7
  · subst h7
    go_enter Tryd.func74, Tryd.ntmps74
    go_wp2
    go_ret
    exact ⟨ret_bool (by simp [allowedB]), rfl⟩
  by_cases h8 : k = 8
  · subst h8
    go_enter Tryd.func74, Tryd.ntmps74
    go_wp2
    go_ret
    exact ⟨ret_bool (by simp [allowedB]), rfl⟩
  go_enter Tryd.func74, Tryd.ntmps74
  go_wp2
  go_ret
  exact ⟨ret_bool (by simp [allowedB, h0, h1, h2, h3, h7, h8]), rfl⟩

theorem lit_Var (l : Int) (w : World) :
    Calls Tryd.prog 52 #[(.int .i64 (l))] w fun e w' => e = .returned (.int .i64 (litVar l)) ∧ w = w' := by
  by_cases h : 1 ≤ l ∧ l ≤ 128
  · have e : litVar l = l := by unfold litVar; rw [if_pos h]
    rw [e]
    obtain ⟨h1, h2⟩ := h
    clear e
    go_enter Tryd.func52, Tryd.ntmps52
    go_wp2
    go_ret
    exact ⟨rfl, rfl⟩
  · by_cases h' : -128 ≤ l ∧ l ≤ -1
    · have e : litVar l = -l := by unfold litVar; rw [if_neg h, if_pos h']
      rw [e]
      obtain ⟨h1, h2⟩ := h'
      clear e h
      have h3 : ¬ 1 ≤ l := by omega
      go_enter Tryd.func52, Tryd.ntmps52
      go_wp2
      go_ret
      exact ⟨rfl, rfl⟩
    · have e : litVar l = 0 := by unfold litVar; rw [if_neg h, if_neg h']
      rw [e]
      clear e
      rcases (show 128 < l ∨ l = 0 ∨ l < -128 from by omega) with h3 | h3 | h3
      · have h4 : 1 ≤ l := by omega
        clear h h'
        go_enter Tryd.func52, Tryd.ntmps52
        go_wp2
        go_ret
        exact ⟨rfl, rfl⟩
      · subst h3
        clear h h'
        go_enter Tryd.func52, Tryd.ntmps52
        go_wp2
        go_ret
        exact ⟨rfl, rfl⟩
      · have h4 : l ≤ -1 := by omega
        clear h h'
        go_enter Tryd.func52, Tryd.ntmps52
        go_wp2
        go_ret
        exact ⟨rfl, rfl⟩

theorem lit_Valid (l n : Int) (w : World) :
    Calls Tryd.prog 75 #[(.int .i64 (l)), (.int .i64 (n))] w fun e w' => e = .returned (.bool (litOk l n)) ∧ w = w' := by
  have hr := litVar_range l
  have e : litOk l n = (decide (litVar l ≠ 0) && decide (litVar l ≤ n)) := by unfold litOk; simp
  rw [e]
  clear e
  have k1 : ∀ w, Calls Tryd.prog 52 #[(.int .i64 (l))] w fun e w' => e = .returned (.int .i64 (litVar l)) ∧ w = w' := lit_Var l
  generalize litVar l = x at k1 hr
  have K1 := Lib.hid k1
  clear k1
  by_cases h : x = 0
  · subst h
    go_enter Tryd.func75, Tryd.ntmps75
    go_wp2_with (go_at_call 52; refine (K1.out _).mono ?_; rintro e w' ⟨rfl, rfl⟩)
    go_ret
    exact ⟨rfl, rfl⟩
  · have h1 : (x != 0) = true := by simp [h]
    have h2 : decide (x ≠ 0) = true := by simp [h]
    rw [h2]
    clear h h2
    go_enter Tryd.func75, Tryd.ntmps75
    go_wp2_with (go_at_call 52; refine (K1.out _).mono ?_; rintro e w' ⟨rfl, rfl⟩)
    go_ret
    exact ⟨ret_bool (by simp), rfl⟩

set_option maxHeartbeats 800000 in
theorem index_func (F : FuncId) (C : Value) (p : Int → Bool) (w : World) (B : Nat) (V : Value) (xs : List Int) (hB : B ≤ w.heap.size) (hx : IntsV w B V xs)
    (hF : ∀ (args : Array Value) (w : World), (callFunc F args).run Tryd.prog w = .ok (.enter F args) w)
    (hf : ∀ (i : Nat) (x : Int) (w' : World), xs[i]? = some x → Below w.heap.size w w' → Calls Tryd.prog F #[.int .i64 x, C] w' fun e w'' => e = .returned (.bool (p x)) ∧ Below w'.heap.size w' w'') :
    Calls Tryd.prog 85 #[V, .func (.func F) #[] #[C]] w fun e w' => (∃ r : Int, e = .returned (.int .i64 r) ∧ decide (0 ≤ r) = xs.any p) ∧ Below w.heap.size w w' := by
  obtain ⟨A, c, rfl, hlc, hcm, _⟩ := id hx
  unfold maxLen at hcm
  have HF := Lib.hid hf
  clear hf
  go_enter Tryd.func85, Tryd.ntmps85
  go_wp2
  go_loopw [8] (fun i wr => ∃ k : Nat, k ≤ xs.length ∧ i = .int .i64 k ∧ (xs.take k).any p = false ∧ Below w.heap.size w wr) (fun i _ => xs.length - (intOf i).toNat)
  case atStart => exact ⟨0, Nat.zero_le _, rfl, rfl, Below.refl _ _⟩
  case round =>
    obtain ⟨k, hk, rfl, hno, hb⟩ := hrel
    have HNO := Lib.hid hno
    clear hno
    by_cases hlt : k < xs.length
    · obtain ⟨b, o, rfl, hbB, hcell⟩ := hx.at_ (hb.mono hB) hlt
      have h1 := HF.out k xs[k] wr (List.getElem?_eq_getElem hlt) hb
      have htk := Lib.hid (List.take_succ_eq_append_getElem hlt)
      have hany : p xs[k] = true → xs.any p = true := fun h => List.any_eq_true.2 ⟨_, List.getElem_mem hlt, h⟩
      have HANY := Lib.hid hany
      clear hany
      generalize xs[k] = x at h1 hcell htk HANY
      have H1 := Lib.hid h1
      clear h1
      cases hp : p x
      · rw [hp] at H1
        have HP := Lib.hid hp
        clear hp
        go_wp2_with fail
        refine H1.out.mono ?_
        rintro e w' ⟨rfl, hbb⟩
        go_wp2
        go_roundw
        case rel => exact ⟨k + 1, by omega, by go_num, by rw [htk.out, List.any_append, HNO.out]; simp [HP.out], hb.trans (hbb.mono hb.size)⟩
        case measure => simp [intOf]; omega
      · rw [hp] at H1
        have HA := Lib.hid (HANY.out hp)
        clear hp
        go_wp2_with fail
        refine H1.out.mono ?_
        rintro e w' ⟨rfl, hbb⟩
        go_wp2
        go_ret
        exact ⟨⟨_, rfl, by rw [HA.out]; simp⟩, hb.trans (hbb.mono hb.size)⟩
    · go_wp2
      go_ret
      have e : k = xs.length := by omega
      subst e
      rw [List.take_length] at HNO
      exact ⟨⟨_, rfl, by rw [HNO.out]; rfl⟩, hb⟩

theorem contains_func (F : FuncId) (C : Value) (p : Int → Bool) (w : World) (B : Nat) (V : Value) (xs : List Int) (hB : B ≤ w.heap.size) (hx : IntsV w B V xs)
    (hF : ∀ (args : Array Value) (w : World), (callFunc F args).run Tryd.prog w = .ok (.enter F args) w)
    (hf : ∀ (i : Nat) (x : Int) (w' : World), xs[i]? = some x → Below w.heap.size w w' → Calls Tryd.prog F #[.int .i64 x, C] w' fun e w'' => e = .returned (.bool (p x)) ∧ Below w'.heap.size w' w'') :
    Calls Tryd.prog 76 #[V, .func (.func F) #[] #[C]] w fun e w' => e = .returned (.bool (xs.any p)) ∧ Below w.heap.size w w' := by
  have H := Lib.hid (index_func F C p w B V xs hB hx hF hf)
  clear hf
  go_enter Tryd.func76, Tryd.ntmps76
  go_wp2_with fail
  refine H.out.mono ?_
  rintro e w' ⟨⟨r, rfl, hr⟩, hbb⟩
  have HR := Lib.hid hr
  clear hr
  go_wp2
  go_ret
  exact ⟨ret_bool HR.out, hbb⟩
end Go.Proofs.YtbemhgojfehnjaaDoor
namespace Go.Proofs.YtbemhgojfehnjaaDoor
open Go Go.RowKit

theorem good_in (k i : Int) (a : Addr) (w : World) (h : w.cell? a = some (.int .i64 i)) :
    Calls Tryd.prog 77 #[.int .i64 k, .pointer (some a)] w fun e w' => e = .returned (.bool (!inOk i k)) ∧ Below w.heap.size w w' := by
  have e : (!inOk i k) = (decide (k < 0) || decide (i ≤ k)) := by
    unfold inOk; rw [Bool.eq_iff_iff]; simp
  rw [e]
  clear e
  by_cases h1 : k < 0
  · go_enter Tryd.func77, Tryd.ntmps77
    go_wp2
    go_ret
    exact ⟨ret_bool (by simp [h1]), Below.refl _ _⟩
  · go_enter Tryd.func77, Tryd.ntmps77
    go_wp2
    go_ret
    exact ⟨ret_bool (by rw [show decide (k < 0) = false from by simp; omega]; simp), Below.refl _ _⟩

theorem call_good_in (args : Array Value) (w : World) : (callFunc 77 args).run Tryd.prog w = .ok (.enter 77 args) w := by kernel_rfl

set_option maxRecDepth 100000 in
set_option maxHeartbeats 1600000 in
theorem circ_good (N : Int) (V : Value) (gs : List Gate) (k : Nat) (w : World) (B : Nat) (hB : B ≤ w.heap.size) (hg : GatesV w B V gs) (hk : k < gs.length) :
    Calls Tryd.prog 47 #[.agg #[.int .i64 N, V], .int .i64 (k : Int)] w fun e w' => e = .returned (.bool (goodGate N k gs[k])) ∧ Below w.heap.size w w' := by
  obtain ⟨A, c, rfl, hlc, hcm, _⟩ := id hg
  unfold maxLen at hcm
  obtain ⟨b, o, A', c', rfl, hbB, h0, h1, h2, hI, hnc, hcm'⟩ := hg.at_ (Below.refl _ _) hk
  have hbl : b < w.heap.size := by omega
  generalize gs[k] = g at *
  obtain ⟨gk, gl, gi⟩ := g
  simp only at h0 h1 h2 hI hnc
  have hz : gi.length ≤ 9223372036854775807 := by unfold maxLen at hcm'; omega
  have e : goodGate N k ⟨gk, gl, gi⟩ = (allowedB gk gi.length && (if gk = 2 then litOk gl N else decide (gl = 0)) && !(gi.any fun x => !inOk k x)) := by
    unfold goodGate litGood
    simp only
    congr 1
    rw [List.all_eq_not_any_not]
  rw [e]
  clear e
  have a1 : ∀ w, Calls Tryd.prog 74 #[(.int .i64 (gk)), .int .i64 (gi.length : Int)] w fun e w' => e = .returned (.bool (allowedB gk gi.length)) ∧ w = w' := circ_inputs gk gi.length
  have a2 : ∀ w, Calls Tryd.prog 75 #[(.int .i64 (gl)), (.int .i64 (N))] w fun e w' => e = .returned (.bool (litOk gl N)) ∧ w = w' := lit_Valid gl N
  have a3 : ∀ (w1 : World) (a : Addr) (ha : w1.cell? a = some (.int .i64 (k : Int))) (halt : a.block < w1.heap.size) (hab : a.spot = none) (hb : Below w.heap.size w w1),
      Calls Tryd.prog 76 #[.slice A' gi.length c', .func (.func 77) #[] #[.pointer (some a)]] w1 fun e w' => e = .returned (.bool (gi.any fun x => !inOk k x)) ∧ Below w1.heap.size w1 w' :=
    fun w1 a ha halt hab hb => contains_func _ _ _ w1 B _ gi (Nat.le_trans hB hb.size) (hI.below (hb.mono hB)) call_good_in (fun i x w' _ hb' => good_in x k a w' ((hb'.cell halt).trans ha))
  generalize allowedB gk gi.length = y1 at a1
  generalize litOk gl N = y2 at a2
  generalize (gi.any fun x => !inOk k x) = y3 at a3
  have A1 := Lib.hid a1
  have A2 := Lib.hid a2
  have A3 := Lib.hid a3
  clear a1 a2 a3
  cases y1
  · simp only [Bool.false_and]
    go_enter Tryd.func47, Tryd.ntmps47
    go_wp2_with (go_at_call 74; refine (A1.out _).mono ?_; rintro e w' ⟨rfl, rfl⟩)
    go_ret
    exact ⟨rfl, by go_grown⟩
  · by_cases hk2 : gk = 2
    · subst hk2
      cases y2
      · go_enter Tryd.func47, Tryd.ntmps47
        go_wp2_with (first | (go_at_call 74; refine (A1.out _).mono ?_; rintro e w' ⟨rfl, rfl⟩) | (go_at_call 75; refine (A2.out _).mono ?_; rintro e w' ⟨rfl, rfl⟩))
        go_ret
        exact ⟨rfl, by go_grown⟩
      · go_enter Tryd.func47, Tryd.ntmps47
        go_wp2_with (first | (go_at_call 74; refine (A1.out _).mono ?_; rintro e w' ⟨rfl, rfl⟩) | (go_at_call 75; refine (A2.out _).mono ?_; rintro e w' ⟨rfl, rfl⟩) | (go_at_call 76; refine (A3.out _ _ (by go_simp) (by simp) rfl (by go_grown)).mono ?_; rintro e w' ⟨rfl, hbb⟩))
        go_ret
        exact ⟨ret_bool (by simp), Below.trans (by go_grown) (hbb.mono (by simp; omega))⟩
    · have hk2' : (gk == 2) = false := by simp [hk2]
      have hk3 : (gk != 2) = true := by simp [hk2]
      rw [if_neg hk2]
      by_cases hl : gl = 0
      · have hl' : (gl != 0) = false := by simp [hl]
        have hl2 : decide (gl = 0) = true := by simp [hl]
        rw [hl2]
        clear hl2 hk2 hl
        go_enter Tryd.func47, Tryd.ntmps47
        go_wp2_with (first | (go_at_call 74; refine (A1.out _).mono ?_; rintro e w' ⟨rfl, rfl⟩) | (go_at_call 76; refine (A3.out _ _ (by go_simp) (by simp) rfl (by go_grown)).mono ?_; rintro e w' ⟨rfl, hbb⟩))
        go_ret
        exact ⟨ret_bool (by simp), Below.trans (by go_grown) (hbb.mono (by simp; omega))⟩
      · have hl' : (gl != 0) = true := by simp [hl]
        have hl2 : decide (gl = 0) = false := by simp [hl]
        rw [hl2]
        clear hl2 hk2 hl
        go_enter Tryd.func47, Tryd.ntmps47
        go_wp2_with (go_at_call 74; refine (A1.out _).mono ?_; rintro e w' ⟨rfl, rfl⟩)
        all_goals (go_ret; exact ⟨rfl, by go_grown⟩)

set_option maxRecDepth 100000 in
set_option maxHeartbeats 1600000 in
theorem circ_check (N : Int) (V : Value) (gs : List Gate) (w : World) (B : Nat) (hB : B ≤ w.heap.size) (hg : GatesV w B V gs) (hs : sizeOf gs ≤ 4611686018427387904) :
    Calls Tryd.prog 22 #[.agg #[.int .i64 N, V]] w fun e w' => e = .returned (.int .i64 (checkOf N gs)) ∧ Below w.heap.size w w' := by
  obtain ⟨A, c, rfl, hlc, hcm, _⟩ := id hg
  unfold maxLen at hcm
  by_cases hN : N < 0 ∨ 128 < N
  · have e : checkOf N gs = 6 := by unfold checkOf; rw [if_pos hN]
    rw [e]
    clear e
    rcases hN with hN | hN
    all_goals
      go_enter Tryd.func22, Tryd.ntmps22
      go_wp2
      go_ret
      exact ⟨rfl, by go_grown⟩
  · have hN0 : 0 ≤ N := by omega
    have hN1 : N ≤ 128 := by omega
    have a1 : ∀ (w1 : World), Below w.heap.size w w1 → Calls Tryd.prog 23 #[.agg #[.int .i64 N, .slice A gs.length c]] w1 fun e w' => e = .returned (.int .i64 ((sizeOf gs : Nat) : Int)) ∧ Below w1.heap.size w1 w' :=
      fun w1 hb => circ_size N _ gs w1 B (Nat.le_trans hB hb.size) (hg.below (hb.mono hB)) hs
    by_cases hlen : 4096 < gs.length
    · have e : checkOf N gs = 2 := by unfold checkOf; rw [if_neg hN, if_pos (.inl hlen)]
      rw [e]
      clear e hN
      go_enter Tryd.func22, Tryd.ntmps22
      go_wp2
      go_ret
      exact ⟨rfl, by go_grown⟩
    · by_cases hsz : 65536 < sizeOf gs
      · have e : checkOf N gs = 2 := by unfold checkOf; rw [if_neg hN, if_pos (.inr hsz)]
        rw [e]
        generalize sizeOf gs = sz at *
        have A1 := Lib.hid a1
        clear e hN a1
        go_enter Tryd.func22, Tryd.ntmps22
        go_wp2_with (go_at_call 23; refine (A1.out _ (by go_grown)).mono ?_; rintro e w' ⟨rfl, hbb⟩)
        go_ret
        exact ⟨rfl, Below.trans (by go_grown) (hbb.mono (by simp))⟩
      · by_cases h0 : gs.length = 0
        · have e : checkOf N gs = 1 := by unfold checkOf; rw [if_neg hN, if_neg (by omega), if_pos h0]
          rw [e]
          have h0' : ((gs.length : Int) == 0) = true := by simp [h0]
          generalize sizeOf gs = sz at *
          have A1 := Lib.hid a1
          clear e hN a1
          have h9 : gs.length ≤ 0 := by omega
          clear h0
          go_enter Tryd.func22, Tryd.ntmps22
          go_wp2_with (go_at_call 23; refine (A1.out _ (by go_grown)).mono ?_; rintro e w' ⟨rfl, hbb⟩; obtain ⟨hc, hf⟩ := bcell hbb)
          go_ret
          exact ⟨rfl, Below.trans (by go_grown) (hbb.mono (by simp))⟩
        · have e : checkOf N gs = if goodTo N gs gs.length then 0 else 1 := by unfold checkOf; rw [if_neg hN, if_neg (by omega), if_neg h0]
          rw [e]
          obtain ⟨r, hr⟩ : ∃ r, r = if goodTo N gs gs.length then (0 : Int) else 1 := ⟨_, rfl⟩
          rw [← hr]
          have HR := Lib.hid hr
          clear hr
          have h0' : ((gs.length : Int) == 0) = false := by simp [h0]
          have h9 : 0 < gs.length := by omega
          generalize sizeOf gs = sz at *
          have A1 := Lib.hid a1
          clear e hN a1 h0
          go_enter Tryd.func22, Tryd.ntmps22
          go_wp2_with (go_at_call 23; refine (A1.out _ (by go_grown)).mono ?_; rintro e w' ⟨rfl, hbb⟩; obtain ⟨hc, hf⟩ := bcell hbb; have hsz' := hbb.size)
          go_loopw [31] (fun i wr => ∃ k : Nat, k ≤ gs.length ∧ i = .int .i64 k ∧ goodTo N gs k = true ∧ Blk wr w.heap.size 24 #[.int .i64 N, .slice A gs.length c] ∧ Below w.heap.size w wr) (fun i _ => gs.length - (intOf i).toNat)
          case atStart => exact ⟨0, Nat.zero_le _, rfl, rfl, (Blk.new _ _ _).keep hbb, Below.trans (by go_grown) (hbb.mono (by simp))⟩
          case round =>
            obtain ⟨k, hk, rfl, hgo, hblk, hb⟩ := hrel
            have HGO := Lib.hid hgo
            clear hgo hc hf hsz'
            have c0 := hblk.cell 0
            have c1 := hblk.cell 1
            simp at c0 c1
            by_cases hlt : k < gs.length
            · have gd := circ_good N _ gs k wr B (Nat.le_trans hB hb.size) (hg.below (hb.mono hB)) hlt
              have g1 := goodTo_succ N gs k
              rw [HGO.out, goodAt_eq N gs k hlt] at g1
              have hfalse := fun h => goodTo_false N gs k gs.length hlt ((goodAt_eq N gs k hlt).trans h)
              generalize goodGate N k gs[k] = y at gd g1 hfalse
              have GD := Lib.hid gd
              have G1 := Lib.hid g1
              have HFL := Lib.hid hfalse
              clear gd g1 hfalse
              cases y
              · go_wp2_with (go_at_call 47; refine GD.out.mono ?_; rintro e w' ⟨rfl, hbb'⟩)
                go_ret
                exact ⟨by rw [HR.out, HFL.out (by simp)]; rfl, hb.trans (hbb'.mono hb.size)⟩
              · go_wp2_with (go_at_call 47; refine GD.out.mono ?_; rintro e w' ⟨rfl, hbb'⟩)
                go_roundw
                case rel => exact ⟨k + 1, by omega, by go_num, by rw [G1.out]; rfl, hblk.keep hbb', hb.trans (hbb'.mono hb.size)⟩
                case measure => simp [intOf]; omega
            · have e : k = gs.length := by omega
              subst e
              go_wp2
              go_ret
              exact ⟨by rw [HR.out, HGO.out]; rfl, hb⟩
end Go.Proofs.YtbemhgojfehnjaaDoor
namespace Go.Proofs.YtbemhgojfehnjaaDoor
open Go Go.RowKit

theorem all_zero (n : Int) (h : n ≤ 0) : VS.all n = VS.empty := by
  apply VS.ext_has
  intro v h1 h2
  rw [VS.has_all, VS.has_empty]
  simp; omega
theorem all_top (n : Int) (h : 128 ≤ n) : VS.all n = VS.all 128 := by
  apply VS.ext_has
  intro v h1 h2
  rw [VS.has_all, VS.has_all]
  simp; omega
theorem all_succ (k : Nat) (h : k < 128) : VS.with_ (VS.all k) (k + 1) = VS.all ((k + 1 : Nat) : Int) := by
  apply VS.ext_has
  intro v h1 h2
  rw [VS.has_with, VS.has_all, VS.has_all, Bool.eq_iff_iff]
  simp; omega

set_option maxRecDepth 100000 in
set_option maxHeartbeats 800000 in
theorem vars_all (n : Int) (w : World) (hn : n ≤ 9223372036854775807) (hn0 : -9223372036854775808 ≤ n) :
    Calls Tryd.prog 34 #[(.int .i64 (n))] w fun e w' => e = .returned (.agg #[.int .u64 ((VS.all n).a.toNat : Int), .int .u64 ((VS.all n).b.toNat : Int)]) ∧ Below w.heap.size w w' := by
  go_enter Tryd.func34, Tryd.ntmps34
  go_wp2
  go_loopw [4] (fun i wr => ∃ k : Nat, k ≤ 128 ∧ (k : Int) ≤ max n 0 ∧ i = .int .i64 (k + 1) ∧ Blk wr w.heap.size 27 #[.int .u64 0, .int .u64 0] ∧
      Blk wr (w.heap.size + 1) 27 #[.int .u64 ((VS.all k).a.toNat : Int), .int .u64 ((VS.all k).b.toNat : Int)] ∧ Below w.heap.size w wr) (fun i _ => 129 - (intOf i).toNat)
  case atStart =>
    refine ⟨0, by omega, by omega, rfl, (Blk.new _ _ _).alloc _, ?_, by go_grown⟩
    rw [show ((0 : Nat) : Int) = 0 from rfl, all_zero 0 (by omega)]
    exact Blk.new_ (cs := #[.int .u64 0, .int .u64 0]) (by simp)
  case round =>
    obtain ⟨k, hk, hkn, rfl, hb0, hb1, hb⟩ := hrel
    have c0 := hb1.cell 0
    have c1 := hb1.cell 1
    have d0 := hb0.cell 0
    have d1 := hb0.cell 1
    have f0 := hb1.free 0
    have f1 := hb1.free 1
    have e0 := hb0.free 0
    have e1 := hb0.free 1
    simp at c0 c1 d0 d1
    have lt1 := hb1.lt
    have lt0 := hb0.lt
    by_cases hlt : k < 128 ∧ (k : Int) < n
    · obtain ⟨hl1, hl2⟩ := hlt
      go_wp2_with (go_at_call 51; refine (vars_with _ _ _ _).mono ?_; rintro e w' ⟨rfl, hbb⟩; obtain ⟨hc, hf⟩ := bcell hbb)
      go_roundw
      case rel =>
        refine ⟨k + 1, by omega, by omega, by go_num, (hb0.keep hbb).far (by simp) _ |>.far (by simp) _, ?_, (((hb.trans (hbb.mono hb.size)).setCell (by simp) _).setCell (by simp) _)⟩
        have := ((hb1.keep hbb).put 0 (.int .u64 ((VS.with_ (VS.all k) (k + 1)).a.toNat : Int))).put 1 (.int .u64 ((VS.with_ (VS.all k) (k + 1)).b.toNat : Int))
        rw [← all_succ k hl1]
        simpa using this
      case measure => simp [intOf]; omega
    · by_cases hm : n ≤ 128
      all_goals
      go_wp2
      refine bodyPost_ret (v := (.agg #[.int .u64 ((VS.all k).a.toNat : Int), .int .u64 ((VS.all k).b.toNat : Int)])) (by simp [results, Tryd.results34, go_sem, d0, d1]) rfl ?_
      have e : VS.all n = VS.all k := by
        by_cases h : n ≤ 0
        · rw [all_zero n h, all_zero k (by omega)]
        · by_cases h' : 128 ≤ n
          · rw [all_top n h', all_top k (by omega)]
          · rw [show n = k from by omega]
      rw [e]
      exact ⟨rfl, (hb.setCell (by simp) _).setCell (by simp) _⟩
/-- The set whose variables below k are those that the list l marks. -/
def markTo (l : List Bool) (k : Nat) : VS := VS.of fun u => decide (u < k) && l.getD u.toNat false
theorem has_markTo (l : List Bool) (k : Nat) (v : Int) (h1 : 1 ≤ v) (h2 : v ≤ 128) : (markTo l k).has v = (decide (v < k) && l.getD v.toNat false) := by
  unfold markTo; rw [VS.has_of]; simp [h1, h2]
theorem markTo_one (l : List Bool) : markTo l 1 = VS.empty := by
  apply VS.ext_has
  intro v h1 h2
  rw [has_markTo l 1 v h1 h2, VS.has_empty, show decide (v < ((1 : Nat) : Int)) = false from by simp; omega]
  rfl
theorem markTo_no (l : List Bool) (k : Nat) (h : l.getD k false = false) : markTo l (k + 1) = markTo l k := by
  apply VS.ext_has
  intro v h1 h2
  rw [has_markTo _ _ v h1 h2, has_markTo _ _ v h1 h2]
  by_cases e : v = k
  · subst e; simp only [Int.toNat_natCast, h, Bool.and_false]
  · rw [show decide (v < ((k + 1 : Nat) : Int)) = decide (v < (k : Int)) from by simp; omega]
theorem markTo_yes (l : List Bool) (k : Nat) (h : l.getD k false = true) : markTo l (k + 1) = (markTo l k).with_ k := by
  apply VS.ext_has
  intro v h1 h2
  rw [VS.has_with, has_markTo _ _ v h1 h2, has_markTo _ _ v h1 h2]
  by_cases e : v = k
  · subst e; simp only [Int.toNat_natCast, h]; simp [show 1 ≤ (k : Int) from h1, show (k : Int) ≤ 128 from h2]; omega
  · rw [show decide (v < ((k + 1 : Nat) : Int)) = decide (v < (k : Int)) from by simp; omega]
    simp [e]
theorem with_lo (s : VS) (k : Nat) (h1 : 1 ≤ k) (h2 : k ≤ 64) : s.with_ k = ⟨s.a ||| 1#64 <<< (k - 1), s.b⟩ := by
  unfold VS.with_; rw [bit_lo k (by omega) (by omega)]; simp
theorem with_hi (s : VS) (k : Nat) (h1 : 65 ≤ k) (h2 : k ≤ 128) : s.with_ k = ⟨s.a, s.b ||| 1#64 <<< (k - 65)⟩ := by
  unfold VS.with_; rw [bit_hi k (by omega) (by omega)]; simp

set_option maxRecDepth 100000 in
set_option maxHeartbeats 1600000 in
theorem ref03_set (w : World) (B : Nat) (v : Value) (l : List Bool) (hB : B ≤ w.heap.size) (hl : BoolsV w B v l) (hn : l.length = 129) :
    Calls Tryd.prog 58 #[v] w fun e w' => e = .returned (.agg #[.int .u64 ((markTo l l.length).a.toNat : Int), .int .u64 ((markTo l l.length).b.toNat : Int)]) ∧ Below w.heap.size w w' := by
  obtain ⟨A, c, rfl, hlc, hcm, _⟩ := id hl
  unfold maxLen at hcm
  have HN := Lib.hid hn
  have hle : l.length ≤ 129 := by omega
  have hge : 129 ≤ l.length := by omega
  clear hn
  go_enter Tryd.func58, Tryd.ntmps58
  go_wp2
  go_loopw [4] (fun i wr => ∃ k : Nat, 1 ≤ k ∧ k ≤ l.length ∧ i = .int .i64 k ∧ Blk wr w.heap.size 27 #[.int .u64 0, .int .u64 0] ∧
      Blk wr (w.heap.size + 1) 27 #[.int .u64 ((markTo l k).a.toNat : Int), .int .u64 ((markTo l k).b.toNat : Int)] ∧ Below w.heap.size w wr) (fun i _ => 129 - (intOf i).toNat)
  case atStart =>
    refine ⟨1, by omega, by omega, rfl, (Blk.new _ _ _).alloc _, ?_, by go_grown⟩
    rw [markTo_one]
    exact Blk.new_ (cs := #[.int .u64 0, .int .u64 0]) (by simp)
  case round =>
    obtain ⟨k, hk1, hk, rfl, hb0, hb1, hb⟩ := hrel
    have c0 := hb1.cell 0
    have c1 := hb1.cell 1
    have d0 := hb0.cell 0
    have d1 := hb0.cell 1
    have f0 := hb1.free 0
    have f1 := hb1.free 1
    have e0 := hb0.free 0
    have e1 := hb0.free 1
    simp at c0 c1 d0 d1
    have lt1 := hb1.lt
    have lt0 := hb0.lt
    by_cases hlt : k < l.length
    · obtain ⟨b, o, rfl, hbB, hcell⟩ := hl.at_ (hb.mono hB) hlt
      have hkk : l.getD k false = l[k] := by simp [hlt]
      by_cases hx : l[k] = true
      · rw [hx] at hcell hkk
        by_cases h64 : k ≤ 64
        · have hq : ((k : Int) - 1) / 64 = 0 := by omega
          have hr : ((k : Int) - 1) % 64 = (k : Int) - 1 := by omega
          go_wp2
          go_roundw
          case rel =>
            refine ⟨k + 1, by omega, by omega, by go_num, hb0.far (by simp) _, ?_, hb.setCell (by simp) _⟩
            rw [markTo_yes l k hkk, with_lo _ k hk1 h64]
            have := hb1.put 0 (.int .u64 ((((markTo l k).a ||| 1#64 <<< (k - 1)).toNat : Nat) : Int))
            rw [← bits_or_bv, ← pow_bv _ (by omega)] at this
            rw [← bits_or_bv, ← pow_bv _ (by omega)]
            simpa using this
          case measure => simp [intOf]; omega
        · have h65 : 65 ≤ k := by omega
          have hq : ((k : Int) - 1) / 64 = 1 := by omega
          have hr : ((k : Int) - 1) % 64 = (k : Int) - 65 := by omega
          have e : ((k : Int) - 65).toNat = k - 65 := by omega
          have HE := Lib.hid e
          clear h64 e
          go_wp2
          go_roundw
          case rel =>
            refine ⟨k + 1, by omega, by omega, by go_num, hb0.far (by simp) _, ?_, hb.setCell (by simp) _⟩
            rw [markTo_yes l k hkk, with_hi _ k h65 (by omega)]
            have := hb1.put 1 (.int .u64 ((((markTo l k).b ||| 1#64 <<< (k - 65)).toNat : Nat) : Int))
            rw [← bits_or_bv, ← pow_bv _ (by omega)] at this
            rw [← bits_or_bv, ← pow_bv _ (by omega)]
            simpa [HE.out] using this
          case measure => simp [intOf]; omega
      · have hx' : l[k] = false := by simpa using hx
        rw [hx'] at hcell hkk
        clear hx hx'
        go_wp2
        go_roundw
        case rel =>
          refine ⟨k + 1, by omega, by omega, by go_num, hb0, ?_, hb⟩
          rw [markTo_no l k hkk]
          exact hb1
        case measure => simp [intOf]; omega
    · have hkl : k = l.length := by omega
      subst hkl
      go_wp2
      refine bodyPost_ret (v := (.agg #[.int .u64 ((markTo l l.length).a.toNat : Int), .int .u64 ((markTo l l.length).b.toNat : Int)])) (by simp [results, Tryd.results58, go_sem, d0, d1]) rfl ?_
      exact ⟨rfl, (hb.setCell (by simp) _).setCell (by simp) _⟩
end Go.Proofs.YtbemhgojfehnjaaDoor
namespace Go.Proofs.YtbemhgojfehnjaaDoor

def inVals (g : Gate) (v : List Bool) : List Bool := g.inp.map fun k => v.getD k.toNat false
def onesOf (l : List Bool) : Nat := l.countP fun b => b
def litHolds (s : VS) (l : Int) : Bool := decide (litVar l ≠ 0) && (s.has (litVar l) == decide (0 < l))
def pickVal (v : List Bool) (l : List Int) : Bool := if v.getD (l.getD 0 0).toNat false then v.getD (l.getD 1 0).toNat false else v.getD (l.getD 2 0).toNat false
def valueOf (g : Gate) (s : VS) (v : List Bool) : Bool :=
  if g.kind = 1 then true else if g.kind = 2 then litHolds s g.lit else if g.kind = 3 then decide (onesOf (inVals g v) = 0)
  else if g.kind = 4 then decide (onesOf (inVals g v) = g.inp.length) else if g.kind = 5 then decide (0 < onesOf (inVals g v))
  else if g.kind = 6 then decide (onesOf (inVals g v) % 2 = 1) else if g.kind = 7 then decide (onesOf (inVals g v) ≠ 1)
  else if g.kind = 8 then pickVal v g.inp else false
/-- The values of the first k gates. -/
def valsTo (gs : List Gate) (s : VS) : Nat → List Bool
  | 0 => []
  | k + 1 => valsTo gs s k ++ [match gs[k]? with | some g => valueOf g s (valsTo gs s k) | none => false]
def valOf (gs : List Gate) (s : VS) (i : Nat) : Bool := (valsTo gs s gs.length).getD i false
def evalOf (n : Int) (gs : List Gate) (s : VS) : Bool :=
  decide (checkOf n gs = 0) && s.sub (VS.all n) && valOf gs s (gs.length - 1)

theorem valsTo_length (gs : List Gate) (s : VS) (k : Nat) : (valsTo gs s k).length = k := by
  induction k with
  | zero => rfl
  | succ k ih => unfold valsTo; simp [ih]
theorem valsTo_take (gs : List Gate) (s : VS) (j k : Nat) (h : j ≤ k) : (valsTo gs s k).take j = valsTo gs s j := by
  induction k with
  | zero => have : j = 0 := by omega
            subst this; rfl
  | succ k ih =>
    by_cases e : j = k + 1
    · subst e; rw [List.take_of_length_le]; rw [valsTo_length]; omega
    · have := ih (by omega)
      rw [← this]
      conv => lhs; unfold valsTo
      rw [List.take_append_of_le_length (by rw [valsTo_length]; omega)]
theorem valsTo_getD (gs : List Gate) (s : VS) (i j k : Nat) (hj : i < j) (hk : j ≤ k) : (valsTo gs s k).getD i false = (valsTo gs s j).getD i false := by
  rw [← valsTo_take gs s j k hk, List.getD_eq_getElem?_getD, List.getD_eq_getElem?_getD, List.getElem?_take_of_lt hj]
theorem valsTo_last (gs : List Gate) (s : VS) (k : Nat) (h : k < gs.length) : (valsTo gs s (k + 1)).getD k false = valueOf gs[k] s (valsTo gs s k) := by
  conv => lhs; unfold valsTo
  rw [List.getD_eq_getElem?_getD, List.getElem?_append_right (by rw [valsTo_length]; omega), valsTo_length]
  simp [h]
theorem valsTo_succ (gs : List Gate) (s : VS) (k : Nat) (h : k < gs.length) : valsTo gs s (k + 1) = valsTo gs s k ++ [valueOf gs[k] s (valsTo gs s k)] := by
  conv => lhs; unfold valsTo
  simp [h]
theorem onesOf_nil : onesOf [] = 0 := rfl
theorem onesOf_snoc (l : List Bool) (b : Bool) : onesOf (l ++ [b]) = onesOf l + (if b then 1 else 0) := by
  unfold onesOf; rw [List.countP_append]; cases b <;> simp
theorem onesOf_le (l : List Bool) : onesOf l ≤ l.length := List.countP_le_length
theorem onesOf_all (l : List Bool) : l.all (fun b => b) = decide (onesOf l = l.length) := by
  rw [Bool.eq_iff_iff]
  simp [onesOf, List.countP_eq_length]
theorem onesOf_any (l : List Bool) : l.any (fun b => b) = decide (0 < onesOf l) := by
  rw [Bool.eq_iff_iff]
  simp [onesOf, List.countP_pos_iff]
/-- What checkOf's yes says of a gate. -/
theorem check_gate {n : Int} {gs : List Gate} (h : checkOf n gs = 0) (k : Nat) (hk : k < gs.length) : goodGate n k gs[k] = true := by
  unfold checkOf at h
  split at h
  · omega
  · split at h
    · omega
    · split at h
      · omega
      · split at h
        · rename_i hg
          rw [← goodAt_eq n gs k hk]
          exact (goodTo_iff _ _ _).1 hg k hk
        · omega
theorem check_bounds {n : Int} {gs : List Gate} (h : checkOf n gs = 0) : 0 ≤ n ∧ n ≤ 128 ∧ 0 < gs.length ∧ gs.length ≤ 4096 ∧ sizeOf gs ≤ 65536 := by
  unfold checkOf at h
  split at h
  · omega
  · split at h
    · omega
    · split at h <;> omega
theorem good_in' {n i : Int} {g : Gate} (h : goodGate n i g = true) (j : Nat) (x : Int) (hx : g.inp[j]? = some x) : 0 ≤ x ∧ x < i := by
  unfold goodGate at h
  simp only [Bool.and_eq_true, List.all_eq_true] at h
  have := h.2 x (List.mem_of_getElem? hx)
  unfold inOk at this
  simpa using this
theorem good_len {n i : Int} {g : Gate} (h : goodGate n i g = true) : (g.kind = 0 ∨ g.kind = 1 ∨ g.kind = 2 → g.inp.length = 0) ∧ (g.kind = 3 → g.inp.length = 1) ∧ (g.kind = 7 → g.inp.length = 2) ∧ (g.kind = 8 → g.inp.length = 3) ∧ 0 ≤ g.kind ∧ g.kind ≤ 8 := by
  unfold goodGate at h
  simp only [Bool.and_eq_true] at h
  have h := h.1.1
  unfold allowedB at h
  split at h
  · simp at h; simp [h]; omega
  · split at h
    · simp at h; omega
    · split at h
      · simp at h; omega
      · split at h
        · simp at h; omega
        · simp at h; omega
theorem good_lit {n i : Int} {g : Gate} (h : goodGate n i g = true) (h2 : g.kind = 2) : litOk g.lit n = true := by
  unfold goodGate litGood at h
  simp only [Bool.and_eq_true] at h
  have h := h.1.2
  rwa [if_pos h2] at h
theorem getD_take (m : List Bool) (k i : Nat) (h : i < k) : m.getD i false = (m.take k).getD i false := by
  rw [List.getD_eq_getElem?_getD, List.getD_eq_getElem?_getD, List.getElem?_take_of_lt h]
/-- A gate's value hangs on the values of the gates before it alone. -/
theorem valueOf_take {g : Gate} (s : VS) (m : List Bool) (k : Nat) (hin : ∀ (j : Nat) (x : Int), g.inp[j]? = some x → 0 ≤ x ∧ x < k) (h8 : g.kind = 8 → g.inp.length = 3) : valueOf g s m = valueOf g s (m.take k) := by
  have h1 : inVals g m = inVals g (m.take k) := by
    unfold inVals
    apply List.map_congr_left
    intro x hx
    obtain ⟨j, hj⟩ := List.getElem?_of_mem hx
    have := hin j x hj
    exact getD_take m k _ (by omega)
  have h2 : g.kind = 8 → pickVal m g.inp = pickVal (m.take k) g.inp := by
    intro h
    have h3 := h8 h
    have el : ∀ j, j < 3 → m.getD (g.inp.getD j 0).toNat false = (m.take k).getD (g.inp.getD j 0).toNat false := by
      intro j hj
      have hj' : j < g.inp.length := by omega
      have := hin j _ (List.getElem?_eq_getElem hj')
      rw [List.getD_eq_getElem?_getD (l := g.inp), List.getElem?_eq_getElem hj', Option.getD_some]
      exact getD_take m k _ (by omega)
    unfold pickVal
    rw [← el 0 (by omega), ← el 1 (by omega), ← el 2 (by omega)]
  unfold valueOf
  rw [h1]
  by_cases h : g.kind = 8
  · rw [h2 h]
  · simp only [if_neg h]
theorem evalOf_bad {n : Int} {gs : List Gate} (s : VS) (h : checkOf n gs ≠ 0) : evalOf n gs s = false := by
  unfold evalOf; simp [h]
theorem checkOf_cases (n : Int) (gs : List Gate) : checkOf n gs = 0 ∨ checkOf n gs = 1 ∨ checkOf n gs = 2 ∨ checkOf n gs = 6 := by
  unfold checkOf
  split
  · simp
  · split
    · simp
    · split
      · simp
      · split <;> simp
end Go.Proofs.YtbemhgojfehnjaaDoor
namespace Go.Proofs.YtbemhgojfehnjaaDoor
open Go Go.RowKit

set_option maxRecDepth 100000 in
set_option maxHeartbeats 1600000 in
theorem lit_Holds (a b : BitVec 64) (l : Int) (w : World) :
    Calls Tryd.prog 55 #[(.agg #[.int .u64 ((a).toNat : Int), .int .u64 ((b).toNat : Int)]), (.int .i64 (l))] w fun e w' => e = .returned (.bool (litHolds ⟨a, b⟩ l)) ∧ Below w.heap.size w w' := by
  unfold litHolds
  have hr := litVar_range l
  have k1 : ∀ w, Calls Tryd.prog 52 #[(.int .i64 (l))] w fun e w' => e = .returned (.int .i64 (litVar l)) ∧ w = w' := lit_Var l
  have k2 : ∀ w, Calls Tryd.prog 79 #[(.agg #[.int .u64 ((a).toNat : Int), .int .u64 ((b).toNat : Int)]), (.int .i64 (litVar l))] w fun e w' => e = .returned (.bool (VS.has ⟨a, b⟩ (litVar l))) ∧ Below w.heap.size w w' := vars_has a b _
  generalize VS.has ⟨a, b⟩ (litVar l) = y at k2 ⊢
  generalize litVar l = x at k1 k2 hr ⊢
  have K1 := Lib.hid k1
  have K2 := Lib.hid k2
  clear k1 k2
  by_cases h : x = 0
  · subst h
    simp only [ne_eq, not_true_eq_false, decide_false, Bool.false_and]
    go_enter Tryd.func55, Tryd.ntmps55
    go_wp2
    go_quiet ((go_at_call 52; exact Calls.quiet_of_same ((K1.out _).mono fun _ _ h => ⟨h.1, h.2.symm⟩)))
    go_wp2
    go_ret
    exact ⟨rfl, below_drewN (by go_grown) _⟩
  · have h1 : (x != 0) = true := by simp [h]
    have h2 : decide (x ≠ 0) = true := by simp [h]
    rw [h2, Bool.true_and]
    clear h h2
    go_enter Tryd.func55, Tryd.ntmps55
    go_wp2
    have blk := Blk.new w 27 #[.int .u64 (a.toNat : Int), .int .u64 (b.toNat : Int)]
    have hw : Below w.heap.size w (w.alloc (.cells #[.int .u64 (a.toNat : Int), .int .u64 (b.toNat : Int)] 27)) := by go_grown
    generalize w.alloc (.cells #[.int .u64 (a.toNat : Int), .int .u64 (b.toNat : Int)] 27) = w1 at *
    have C0 := blk.later 0 _ rfl
    have C1 := blk.later 1 _ rfl
    have hb0 : Below w1.heap.size w1 w1.drew := (Below.refl _ _).drew
    go_region_held3 (fun w' => w'.cell? ⟨w.heap.size, 0, none⟩ = some (.int .u64 (a.toNat : Int)) ∧ w'.cell? ⟨w.heap.size, 1, none⟩ = some (.int .u64 (b.toNat : Int)) ∧ Below w1.heap.size w1 w') (go_keep)
      (first | (go_at_call 52; refine (K1.out _).mono ?_; rintro e w' ⟨rfl, rfl⟩) | (go_at_call 79; refine (kept (w1 := w1) (K2.out _) (by simp [*])).mono ?_; rintro e w' ⟨rfl, hB⟩))
    go_wp2
    go_ret
    exact ⟨rfl, hw.trans (Below.mono (by assumption) hw.size)⟩

end Go.Proofs.YtbemhgojfehnjaaDoor
namespace Go.Proofs.YtbemhgojfehnjaaDoor
open Go Go.RowKit

def boolCells (m : List Bool) : Array Value := (m.map Value.bool).toArray
theorem boolCells_get (m : List Bool) (i : Nat) (h : i < m.length) : (boolCells m)[i]? = some (.bool m[i]) := by
  unfold boolCells; simp [h]
theorem boolCells_set (m : List Bool) (i : Nat) (b : Bool) : (boolCells m).setIfInBounds i (.bool b) = boolCells (m.set i b) := by
  unfold boolCells; rw [List.setIfInBounds_toArray, List.map_set]
theorem boolCells_V {w : World} {g : Nat} {m : List Bool} (h : Blk w g 4 (boolCells m)) (hm : m.length ≤ maxLen) : BoolsV w w.heap.size (.slice (some ⟨g, 0, none⟩) m.length m.length) m := by
  refine ⟨_, _, rfl, Nat.le_refl _, hm, fun _ => ⟨g, 0, h.lt, rfl, fun i x hx => ?_⟩⟩
  obtain ⟨hi, rfl⟩ := List.getElem?_eq_some_iff.1 hx
  show w.cell? _ = _
  rw [show (0 + i * 1) = i from by omega, h.cell i, boolCells_get m i hi]

theorem ref03_none (w : World) :
    Calls Tryd.prog 57 #[] w fun e w' => e = .returned (.slice (some ⟨w.heap.size, 0, none⟩) 129 129) ∧ w.alloc (.cells (boolCells (List.replicate 129 false)) 4) = w' := by
  have hmk : ∀ w, (Instr.makeSlice 41 (.int .i64 129) (.int .i64 129)).run Tryd.prog w = .ok (.slice (some ⟨w.heap.size, 0, none⟩) 129 129) (w.alloc (.cells (boolCells (List.replicate 129 false)) 4)) := fun _ => by kernel_rfl
  go_enter Tryd.func57, Tryd.ntmps57
  go_wp2
  go_ret
  exact ⟨rfl, rfl⟩

/-- The set that 129 marks stand for. -/
theorem markTo_of (m : List Bool) (hm : m.length = 129) (s : VS) (h : ∀ u : Nat, 1 ≤ u → u < 129 → m.getD u false = s.has u) : markTo m m.length = s := by
  apply VS.ext_has
  intro v h1 h2
  rw [has_markTo _ _ v h1 h2, hm, show decide (v < ((129 : Nat) : Int)) = true from by simp; omega, h v.toNat (by omega) (by omega)]
  rw [show ((v.toNat : Nat) : Int) = v from by omega]; rfl

set_option maxRecDepth 100000 in
set_option maxHeartbeats 1600000 in
theorem ref03_of (w : World) (B : Nat) (v : Value) (l : List Int) (hB : B ≤ w.heap.size) (hl : IntsV w B v l) :
    Calls Tryd.prog 53 #[v] w fun e w' => e = .returned (.agg #[.int .u64 ((VS.ofList l).a.toNat : Int), .int .u64 ((VS.ofList l).b.toNat : Int)]) ∧ Below w.heap.size w w' := by
  obtain ⟨A, c, rfl, hlc, hcm, _⟩ := id hl
  unfold maxLen at hcm
  go_enter Tryd.func53, Tryd.ntmps53
  go_wp2_with (go_at_call 57; refine (ref03_none _).mono ?_; rintro e w' ⟨rfl, rfl⟩)
  go_loopw [4] (fun i wr => ∃ (k : Nat) (m : List Bool), k ≤ l.length ∧ i = .int .i64 k ∧ Blk wr w.heap.size 27 #[.int .u64 0, .int .u64 0] ∧ Blk wr (w.heap.size + 1) 4 (boolCells m) ∧
      m.length = 129 ∧ (∀ u : Nat, 1 ≤ u → u < 129 → m.getD u false = (l.take k).contains (u : Int)) ∧ Below w.heap.size w wr) (fun i _ => l.length - (intOf i).toNat)
  case atStart =>
    refine ⟨0, List.replicate 129 false, by omega, rfl, (Blk.new _ _ _).alloc _, Blk.new_ (by simp), by simp, fun u _ hu => ?_, by go_grown⟩
    rw [List.take_zero, List.getD_eq_getElem?_getD, List.getElem?_replicate]; simp [hu]
  case round =>
    obtain ⟨k, m, hk, rfl, hb0, hb1, hm, hmk, hb⟩ := hrel
    have HM := Lib.hid hm
    have hm1 : m.length ≤ 129 := by omega
    have hm2 : 129 ≤ m.length := by omega
    have HK := Lib.hid hmk
    clear hm hmk
    have d0 := hb0.cell 0
    have d1 := hb0.cell 1
    have e0 := hb0.free 0
    have e1 := hb0.free 1
    simp at d0 d1
    have lt1 := hb1.lt
    have lt0 := hb0.lt
    by_cases hlt : k < l.length
    · obtain ⟨b, o, rfl, hbB, hcell⟩ := hl.at_ (hb.mono hB) hlt
      have htk : l.take (k + 1) = l.take k ++ [l[k]] := by rw [List.take_succ_eq_append_getElem hlt]
      have HT := Lib.hid htk
      clear htk
      generalize hx : l[k] = x at hcell HT
      have HX := Lib.hid hx
      clear hx
      have step0 : ∀ u : Nat, 1 ≤ u → u < 129 → (x < 1 ∨ 128 < x) → m.getD u false = (l.take (k + 1)).contains (u : Int) := fun u h1 h2 hx => by
        rw [HK.out u h1 h2, HT.out, List.contains_append]
        simp; omega
      have step1 : ∀ u : Nat, 1 ≤ u → u < 129 → 1 ≤ x → x ≤ 128 → (m.set x.toNat true).getD u false = (l.take (k + 1)).contains (u : Int) := fun u h1 h2 h3 h4 => by
        rw [HT.out, List.contains_append, ← HK.out u h1 h2, List.getD_eq_getElem?_getD, List.getD_eq_getElem?_getD, List.getElem?_set]
        by_cases e : x.toNat = u
        · rw [if_pos e, if_pos (by omega)]; simp; omega
        · rw [if_neg e]; simp; omega
      have HS0 := Lib.hid step0
      have HS1 := Lib.hid step1
      clear step0 step1
      by_cases h1 : 1 ≤ x
      · by_cases h2 : x ≤ 128
        · have xt : x.toNat < m.length := by omega
          have cx := hb1.cell x.toNat
          have fx := hb1.free x.toNat
          rw [boolCells_get m _ xt] at cx
          have hge : (decide (1 ≤ x)) = true := by simp [h1]
          go_wp2
          go_roundw
          case rel => exact ⟨k + 1, m.set x.toNat true, by omega, by go_num, hb0.far (by simp) _, by rw [← boolCells_set]; exact hb1.put _ _, by simp; exact HM.out, fun u h3 h4 => HS1.out u h3 h4 h1 h2, hb.setCell (by simp) _⟩
          case measure => simp [intOf]; omega
        · go_wp2
          go_roundw
          case rel => exact ⟨k + 1, m, by omega, by go_num, hb0, hb1, HM.out, fun u h3 h4 => HS0.out u h3 h4 (by omega), hb⟩
          case measure => simp [intOf]; omega
      · have h1' : decide (1 ≤ x) = false := by simp; omega
        go_wp2
        go_roundw
        case rel => exact ⟨k + 1, m, by omega, by go_num, hb0, hb1, HM.out, fun u h3 h4 => HS0.out u h3 h4 (by omega), hb⟩
        case measure => simp [intOf]; omega
    · have hkl : k = l.length := by omega
      subst hkl
      have hset := markTo_of m HM.out (VS.ofList l) (fun u h1 h2 => by rw [HK.out u h1 h2, List.take_length, VS.has_ofList l u (by omega) (by omega)])
      have HSET := Lib.hid hset
      clear hset
      have hv := boolCells_V hb1 (by unfold maxLen; omega)
      rw [HM.out] at hv
      go_wp2_with (go_at_call 58; refine (ref03_set _ _ _ m (Nat.le_refl _) hv HM.out).mono ?_; rintro e w' ⟨rfl, hbb⟩; obtain ⟨hc, hf⟩ := bcell hbb; have hsz := hbb.size)
      refine bodyPost_ret (v := (.agg #[.int .u64 ((markTo m m.length).a.toNat : Int), .int .u64 ((markTo m m.length).b.toNat : Int)])) (by simp [results, Tryd.results53, go_sem, d0, d1, lt0, hc]) rfl ?_
      rw [HSET.out]
      exact ⟨rfl, ((hb.trans (hbb.mono hb.size)).setCell (by simp) _).setCell (by simp) _⟩
end Go.Proofs.YtbemhgojfehnjaaDoor
namespace Go.Proofs.YtbemhgojfehnjaaDoor
open Go Go.RowKit

theorem made_one (v : Value) (n : Nat) : madeCells #[v] (n * 1) = (List.replicate n v).toArray := by
  unfold madeCells
  apply Array.ext
  · simp
  · intro i h1 h2
    simp [Nat.mod_one]
theorem info_bool : (Tryd.prog.info? 4).map (fun i => (i.zero, i.size, i.bytes)) = some (some (.bool false), 1, 1) := by kernel_rfl
theorem info_int : (Tryd.prog.info? 3).map (fun i => (i.zero, i.size, i.bytes)) = some (some (.int .i64 0), 1, 8) := by kernel_rfl
theorem mk_bools (n : Nat) (h : n ≤ 1099511627776) (w : World) : (Instr.makeSlice 41 (.int .i64 (n : Int)) (.int .i64 (n : Int))).run Tryd.prog w =
    .ok (.slice (some ⟨w.heap.size, 0, none⟩) n n) (w.alloc (.cells (boolCells (List.replicate n false)) 4)) := by
  obtain ⟨i, hi, hz, hs, hb⟩ := info_parts info_bool
  have := run_make (P := Tryd.prog) w 41 4 i _ Tryd.underlying41 hi hz .i64 .i64 n n (by omega) (by omega) (by rw [hb]; omega) (by omega)
  rw [this, hs, show Value.cells (.bool false) = #[.bool false] from rfl, Int.toNat_natCast, made_one]
  unfold boolCells
  rw [List.map_replicate]
def intCells (m : List Int) : Array Value := (m.map (Value.int .i64)).toArray
theorem mk_ints (n : Nat) (h : n ≤ 1099511627776) (w : World) : (Instr.makeSlice 36 (.int .i64 (n : Int)) (.int .i64 (n : Int))).run Tryd.prog w =
    .ok (.slice (some ⟨w.heap.size, 0, none⟩) n n) (w.alloc (.cells (intCells (List.replicate n 0)) 3)) := by
  obtain ⟨i, hi, hz, hs, hb⟩ := info_parts info_int
  have := run_make (P := Tryd.prog) w 36 3 i _ Tryd.underlying36 hi hz .i64 .i64 n n (by omega) (by omega) (by rw [hb]; omega) (by omega)
  rw [this, hs, show Value.cells (.int .i64 0) = #[.int .i64 0] from rfl, Int.toNat_natCast, made_one]
  unfold intCells
  rw [List.map_replicate]
theorem intCells_get (m : List Int) (i : Nat) (h : i < m.length) : (intCells m)[i]? = some (.int .i64 m[i]) := by
  unfold intCells; simp [h]
theorem intCells_set (m : List Int) (i : Nat) (b : Int) : (intCells m).setIfInBounds i (.int .i64 b) = intCells (m.set i b) := by
  unfold intCells; rw [List.setIfInBounds_toArray, List.map_set]
theorem intCells_V {w : World} {g : Nat} {m : List Int} (h : Blk w g 3 (intCells m)) (hm : m.length ≤ maxLen) : IntsV w w.heap.size (.slice (some ⟨g, 0, none⟩) m.length m.length) m := by
  refine ⟨_, _, rfl, Nat.le_refl _, hm, fun _ => ⟨g, 0, h.lt, rfl, fun i x hx => ?_⟩⟩
  obtain ⟨hi, rfl⟩ := List.getElem?_eq_some_iff.1 hx
  show w.cell? _ = _
  rw [show (0 + i * 1) = i from by omega, h.cell i, intCells_get m i hi]

theorem inVals_take (g : Gate) (v : List Bool) (k : Nat) (hk : k < g.inp.length) : (inVals g v).take (k + 1) = (inVals g v).take k ++ [v.getD g.inp[k].toNat false] := by
  unfold inVals
  rw [List.take_succ_eq_append_getElem (by simpa using hk)]
  simp

set_option maxRecDepth 100000 in
set_option maxHeartbeats 3200000 in
theorem circ_value (g : Gate) (IV : Value) (a b : BitVec 64) (VV : Value) (v : List Bool) (w : World) (B B2 : Nat) (hB : B ≤ w.heap.size) (hB2 : B2 ≤ w.heap.size) (hi : IntsV w B IV g.inp) (hv : BoolsV w B2 VV v)
    (hin : ∀ (i : Nat) (x : Int), g.inp[i]? = some x → 0 ≤ x ∧ x < v.length) (h8 : g.kind = 8 → g.inp.length = 3) :
    Calls Tryd.prog 35 #[.agg #[.int .i64 g.kind, .int .i64 g.lit, IV], (.agg #[.int .u64 ((a).toNat : Int), .int .u64 ((b).toNat : Int)]), VV] w fun e w' => e = .returned (.bool (valueOf g ⟨a, b⟩ v)) ∧ Below w.heap.size w w' := by
  obtain ⟨gk, gl, gi⟩ := g
  simp only at hi hin h8 ⊢
  obtain ⟨A, c, rfl, hlc, hcm, _⟩ := id hi
  obtain ⟨A2, c2, rfl, hlc2, hcm2, _⟩ := id hv
  unfold maxLen at hcm hcm2
  have HIN := Lib.hid hin
  have H8 := Lib.hid h8
  clear hin h8
  obtain ⟨r, hr⟩ : ∃ r, r = valueOf ⟨gk, gl, gi⟩ ⟨a, b⟩ v := ⟨_, rfl⟩
  rw [← hr]
  have HR := Lib.hid hr
  clear hr
  have hlen : (inVals ⟨gk, gl, gi⟩ v).length = gi.length := by simp [inVals]
  have HLEN := Lib.hid hlen
  clear hlen
  have KH := Lib.hid (lit_Holds a b gl)
  go_enter Tryd.func35, Tryd.ntmps35
  go_wp2
  go_loopw [7, 13] (fun o i wr => ∃ k : Nat, k ≤ gi.length ∧ i = .int .i64 k ∧ o = .int .i64 ((onesOf ((inVals ⟨gk, gl, gi⟩ v).take k) : Nat) : Int) ∧ Blk wr w.heap.size 38 #[.int .i64 gk, .int .i64 gl, .slice A gi.length c] ∧
      Blk wr (w.heap.size + 1) 27 #[.int .u64 (a.toNat : Int), .int .u64 (b.toNat : Int)] ∧ Below w.heap.size w wr) (fun _ i _ => gi.length - (intOf i).toNat)
  case atStart => exact ⟨0, by omega, rfl, by simp [onesOf_nil], (Blk.new _ _ _).alloc _, Blk.new_ (by simp), by go_grown⟩
  case round =>
    obtain ⟨k, hk, rfl, rfl, hb0, hb1, hb⟩ := hrel
    have c0 := hb0.cell 0
    have c1 := hb0.cell 1
    have c2 := hb0.cell 2
    have d0 := hb1.cell 0
    have d1 := hb1.cell 1
    simp at c0 c1 c2 d0 d1
    have lt0 := hb0.lt
    have lt1 := hb1.lt
    have hones : onesOf ((inVals ⟨gk, gl, gi⟩ v).take k) ≤ k := Nat.le_trans (onesOf_le _) (List.length_take_le _ _)
    by_cases hlt : k < gi.length
    · obtain ⟨b', o', rfl, hbB, hcell⟩ := hi.at_ (hb.mono hB) hlt
      have hx := HIN.out k _ (List.getElem?_eq_getElem hlt)
      have htk := inVals_take ⟨gk, gl, gi⟩ v k hlt
      simp only at htk
      generalize gi[k] = x at hcell hx htk
      obtain ⟨hx0, hx1⟩ := hx
      obtain ⟨n, rfl⟩ := Int.eq_ofNat_of_zero_le hx0
      have hn : n < v.length := by omega
      obtain ⟨b2, o2, rfl, hbB2, hcell2⟩ := hv.at_ (hb.mono hB2) hn
      rw [Int.toNat_natCast, List.getD_eq_getElem?_getD, List.getElem?_eq_getElem hn, Option.getD_some] at htk
      generalize v[n] = y at hcell2 htk
      have hon := onesOf_snoc ((inVals ⟨gk, gl, gi⟩ v).take k) y
      rw [← htk] at hon
      have HON := Lib.hid hon
      clear hon htk
      cases y
      all_goals
        go_wp2
        go_roundw
        case rel => exact ⟨k + 1, by omega, by go_num, by rw [HON.out]; simp, hb0, hb1, hb⟩
        case measure => simp [intOf]; omega
    · have e : k = gi.length := by omega
      subst e
      have ht : (inVals ⟨gk, gl, gi⟩ v).take gi.length = inVals ⟨gk, gl, gi⟩ v := List.take_of_length_le (by rw [HLEN.out]; exact Nat.le_refl _)
      rw [ht] at hones ⊢
      clear ht
      generalize hon : onesOf (inVals ⟨gk, gl, gi⟩ v) = on at hones ⊢
      have HON := Lib.hid hon
      clear hon
      by_cases k1 : gk = 1
      · subst k1
        go_wp2
        go_ret
        exact ⟨ret_bool (by rw [HR.out]; simp [valueOf]), hb⟩
      by_cases k2 : gk = 2
      · subst k2
        go_wp2_with (go_at_call 55; refine (KH.out _).mono ?_; rintro e w' ⟨rfl, hbb⟩)
        go_ret
        exact ⟨ret_bool (by rw [HR.out]; simp [valueOf]), hb.trans (hbb.mono hb.size)⟩
      by_cases k3 : gk = 3
      · subst k3
        go_wp2
        go_ret
        exact ⟨ret_bool (by rw [HR.out]; simp [valueOf, HON.out] <;> (rw [Bool.eq_iff_iff]; simp <;> omega)), hb⟩
      by_cases k4 : gk = 4
      · subst k4
        go_wp2
        go_ret
        exact ⟨ret_bool (by rw [HR.out]; simp [valueOf, HON.out] <;> (rw [Bool.eq_iff_iff]; simp <;> omega)), hb⟩
      by_cases k5 : gk = 5
      · subst k5
        go_wp2
        go_ret
        exact ⟨ret_bool (by rw [HR.out]; simp [valueOf, HON.out] <;> (rw [Bool.eq_iff_iff]; simp <;> omega)), hb⟩
      by_cases k6 : gk = 6
      · subst k6
        go_wp2
        go_ret
        exact ⟨ret_bool (by rw [HR.out]; simp [valueOf, HON.out] <;> (rw [Bool.eq_iff_iff]; simp <;> omega)), hb⟩
      by_cases k7 : gk = 7
      · subst k7
        go_wp2
        go_ret
        exact ⟨ret_bool (by rw [HR.out]; simp [valueOf, HON.out] <;> (rw [Bool.eq_iff_iff]; simp <;> omega)), hb⟩
      by_cases k8 : gk = 8
      · subst k8
        have h3 : gi.length = 3 := H8.out rfl
        have el : ∀ j : Nat, j < 3 → ∃ n : Nat, gi[j]? = some (n : Int) ∧ n < v.length := fun j hj => by
          have hj' : j < gi.length := by omega
          have hx := HIN.out j _ (List.getElem?_eq_getElem hj')
          refine ⟨gi[j].toNat, ?_, by omega⟩
          rw [List.getElem?_eq_getElem hj', Int.toNat_of_nonneg hx.1]
        obtain ⟨n0, e0, l0⟩ := el 0 (by omega)
        obtain ⟨n1, e1, l1⟩ := el 1 (by omega)
        obtain ⟨n2, e2, l2⟩ := el 2 (by omega)
        obtain ⟨b', o', rfl, hbB, q0⟩ := hi.at_ (k := 0) (hb.mono hB) (by omega)
        obtain ⟨_, _, ee, _, q1⟩ := hi.at_ (k := 1) (hb.mono hB) (by omega)
        injection ee with ee; injection ee with ee1 ee2; subst ee1 ee2
        obtain ⟨_, _, ee, _, q2⟩ := hi.at_ (k := 2) (hb.mono hB) (by omega)
        injection ee with ee; injection ee with ee1 ee2; subst ee1 ee2
        obtain ⟨b2, o2, rfl, hbB2, r0⟩ := hv.at_ (hb.mono hB2) l0
        obtain ⟨_, _, ee, _, r1⟩ := hv.at_ (hb.mono hB2) l1
        injection ee with ee; injection ee with ee1 ee2; subst ee1 ee2
        obtain ⟨_, _, ee, _, r2⟩ := hv.at_ (hb.mono hB2) l2
        injection ee with ee; injection ee with ee1 ee2; subst ee1 ee2
        have f0 : gi[0] = (n0 : Int) := by rw [List.getElem?_eq_getElem (by omega)] at e0; injection e0
        have f1 : gi[1] = (n1 : Int) := by rw [List.getElem?_eq_getElem (by omega)] at e1; injection e1
        have f2 : gi[2] = (n2 : Int) := by rw [List.getElem?_eq_getElem (by omega)] at e2; injection e2
        rw [f0] at q0
        rw [f1] at q1
        rw [f2] at q2
        simp only [Nat.add_zero] at q0
        have hval : valueOf ⟨8, gl, gi⟩ ⟨a, b⟩ v = if v[n0] then v[n1] else v[n2] := by
          simp only [valueOf, pickVal, List.getD_eq_getElem?_getD, e0, e1, e2, Option.getD_some, Int.toNat_natCast, List.getElem?_eq_getElem l0, List.getElem?_eq_getElem l1, List.getElem?_eq_getElem l2]
          rfl
        rw [hval] at HR
        have h3' : 3 ≤ gi.length := by omega
        clear hval e0 e1 e2 f0 f1 f2 el h3
        generalize v[n0] = y0 at *
        generalize v[n1] = y1 at *
        generalize v[n2] = y2 at *
        cases y0
        all_goals
          go_wp2
          go_ret
          exact ⟨ret_bool (by rw [HR.out]; rfl), hb⟩
      · go_wp2
        go_ret
        exact ⟨ret_bool (by rw [HR.out]; simp [valueOf, k1, k2, k3, k4, k5, k6, k7, k8]), hb⟩

set_option maxRecDepth 100000 in
set_option maxHeartbeats 3200000 in
theorem circ_eval (N : Int) (V : Value) (gs : List Gate) (a b : BitVec 64) (w : World) (B : Nat) (hB : B ≤ w.heap.size) (hg : GatesV w B V gs) (hs : sizeOf gs ≤ 4611686018427387904) (hN : -9223372036854775808 ≤ N) (hN' : N ≤ 9223372036854775807) :
    Calls Tryd.prog 15 #[.agg #[.int .i64 N, V], (.agg #[.int .u64 ((a).toNat : Int), .int .u64 ((b).toNat : Int)])] w fun e w' => e = .returned (.bool (evalOf N gs ⟨a, b⟩)) ∧ Below w.heap.size w w' := by
  obtain ⟨A, c, rfl, hlc, hcm, _⟩ := id hg
  unfold maxLen at hcm
  obtain ⟨r, hr⟩ : ∃ r, r = evalOf N gs ⟨a, b⟩ := ⟨_, rfl⟩
  rw [← hr]
  have HR := Lib.hid hr
  clear hr
  have k1 : ∀ W, Below w.heap.size w W → Calls Tryd.prog 22 #[.agg #[.int .i64 N, .slice A gs.length c]] W fun e w' => e = .returned (.int .i64 (checkOf N gs)) ∧ Below W.heap.size W w' :=
    fun W hW => circ_check N _ gs W B (Nat.le_trans hB hW.size) (hg.below (hW.mono hB)) hs
  obtain ⟨ck, hck⟩ : ∃ ck, ck = checkOf N gs := ⟨_, rfl⟩
  rw [← hck] at k1
  have HCK := Lib.hid hck
  have K1 := Lib.hid k1
  clear hck k1
  have K2 := Lib.hid (fun W => vars_all N W hN' hN)
  have k3 : ∀ W, Calls Tryd.prog 33 #[(.agg #[.int .u64 ((a).toNat : Int), .int .u64 ((b).toNat : Int)]), (.agg #[.int .u64 ((VS.all N).a.toNat : Int), .int .u64 ((VS.all N).b.toNat : Int)])] W fun e w' => e = .returned (.bool (VS.sub ⟨a, b⟩ (VS.all N))) ∧ Below W.heap.size W w' := fun W => vars_sub a b _ _ W
  obtain ⟨sb, hsb⟩ : ∃ sb, sb = VS.sub ⟨a, b⟩ (VS.all N) := ⟨_, rfl⟩
  rw [← hsb] at k3
  have HSB := Lib.hid hsb
  have K3 := Lib.hid k3
  clear hsb k3
  by_cases h0 : ck = 0
  · subst h0
    go_enter Tryd.func15, Tryd.ntmps15
    go_wp2
    have blk0 : Blk ((w.alloc (.cells #[.int .i64 N, .slice A gs.length c] 24)).alloc (.cells #[.int .u64 (a.toNat : Int), .int .u64 (b.toNat : Int)] 27)) w.heap.size 24 #[.int .i64 N, .slice A gs.length c] := (Blk.new w _ _).alloc _
    have blk1 : Blk ((w.alloc (.cells #[.int .i64 N, .slice A gs.length c] 24)).alloc (.cells #[.int .u64 (a.toNat : Int), .int .u64 (b.toNat : Int)] 27)) (w.heap.size + 1) 27 #[.int .u64 (a.toNat : Int), .int .u64 (b.toNat : Int)] := Blk.new_ (by simp)
    have hw : Below w.heap.size w ((w.alloc (.cells #[.int .i64 N, .slice A gs.length c] 24)).alloc (.cells #[.int .u64 (a.toNat : Int), .int .u64 (b.toNat : Int)] 27)) := by go_grown
    generalize (w.alloc (.cells #[.int .i64 N, .slice A gs.length c] 24)).alloc (.cells #[.int .u64 (a.toNat : Int), .int .u64 (b.toNat : Int)] 27) = w1 at *
    have C0 := blk0.later 0 _ rfl
    have C1 := blk0.later 1 _ rfl
    have D0 := blk1.later 0 _ rfl
    have D1 := blk1.later 1 _ rfl
    have hb0 : Below w1.heap.size w1 w1.drew := (Below.refl _ _).drew
    have k1' : ∀ W, Below w1.heap.size w1 W → Calls Tryd.prog 22 #[.agg #[.int .i64 N, .slice A gs.length c]] W fun e w' => e = .returned (.int .i64 0) ∧ Below w1.heap.size w1 w' :=
      fun W hW => kept (K1.out W (hw.trans (hW.mono hw.size))) hW
    have K1' := Lib.hid k1'
    clear k1' K1
    go_region_held3 (fun w' => w'.cell? ⟨w.heap.size, 0, none⟩ = some (.int .i64 N) ∧ w'.cell? ⟨w.heap.size, 1, none⟩ = some (.slice A gs.length c) ∧ w'.cell? ⟨w.heap.size + 1, 0, none⟩ = some (.int .u64 (a.toNat : Int)) ∧ w'.cell? ⟨w.heap.size + 1, 1, none⟩ = some (.int .u64 (b.toNat : Int)) ∧ Below w1.heap.size w1 w') (go_keep)
      (first | (go_at_call 22; refine (K1'.out _ (by simp [*])).mono ?_; rintro e w' ⟨rfl, hB'⟩) | (go_at_call 34; refine (kept (w1 := w1) (K2.out _) (by simp [*])).mono ?_; rintro e w' ⟨rfl, hB'⟩) | (go_at_call 33; refine (kept (w1 := w1) (K3.out _) (by simp [*])).mono ?_; rintro e w' ⟨rfl, hB'⟩))
    cases sb
    · go_wp2
      go_ret
      exact ⟨ret_bool (by rw [HR.out]; unfold evalOf; rw [← HSB.out]; simp), hw.trans (hB'.mono hw.size)⟩
    · have b0 := blk0.keep hB'
      have b1 := blk1.keep hB'
      have hB2 := hw.trans (hB'.mono hw.size)
      have hlen : gs.length ≤ 4096 := (check_bounds HCK.out.symm).2.2.2.1
      have hpos : 0 < gs.length := (check_bounds HCK.out.symm).2.2.1
      have hmk := mk_bools gs.length (by omega)
      have s0 := C0 _ hB'
      have s1 := C1 _ hB'
      have s2 := D0 _ hB'
      have s3 := D1 _ hB'
      clear C0 C1 D0 D1 hb0 blk0 blk1
      generalize w' = w2 at *
      have l0 := b0.lt
      have l1 := b1.lt
      go_wp2
      go_loopw [26] (fun i wr => ∃ (k : Nat) (m : List Bool), k ≤ gs.length ∧ i = .int .i64 k ∧ Blk wr w.heap.size 24 #[.int .i64 N, .slice A gs.length c] ∧ Blk wr (w.heap.size + 1) 27 #[.int .u64 (a.toNat : Int), .int .u64 (b.toNat : Int)] ∧
          Blk wr w2.heap.size 4 (boolCells m) ∧ m.length = gs.length ∧ m.take k = valsTo gs ⟨a, b⟩ k ∧ Below w.heap.size w wr) (fun i _ => gs.length - (intOf i).toNat)
      case atStart =>
        exact ⟨0, List.replicate gs.length false, by omega, rfl, b0.alloc _, b1.alloc _, Blk.new _ _ _, by simp, by simp [valsTo], hB2.alloc (by omega) _⟩
      case round =>
        obtain ⟨k, m, hk, rfl, hb0, hb1, hbm, hm, hmk', hb⟩ := hrel
        have HM := Lib.hid hm
        have hm1 : m.length ≤ gs.length := by omega
        have hm2 : gs.length ≤ m.length := by omega
        have HK := Lib.hid hmk'
        clear hm hmk' s0 s1 s2 s3 b0 b1 hB'
        have d0 := hb1.cell 0
        have d1 := hb1.cell 1
        simp at d0 d1
        have lt0 := hb0.lt
        have lt1 := hb1.lt
        have ltm := hbm.lt
        by_cases hlt : k < gs.length
        · have hgood := check_gate HCK.out.symm k hlt
          obtain ⟨bb, oo, A', c', rfl, hbB, h0, h1, h2, hI, hnc, hcm'⟩ := hg.at_ (hb.mono hB) hlt
          have hbl : bb < wr.heap.size := by have := hb.size; omega
          have hV := boolCells_V hbm (by unfold maxLen; omega)
          have hsucc := valsTo_succ gs ⟨a, b⟩ k hlt
          have hval := valueOf_take ⟨a, b⟩ m k (good_in' hgood) (good_len hgood).2.2.2.1
          rw [HK.out] at hval
          have kv : ∀ W, Below wr.heap.size wr W → Calls Tryd.prog 35 #[.agg #[.int .i64 gs[k].kind, .int .i64 gs[k].lit, .slice A' gs[k].inp.length c'], (.agg #[.int .u64 ((a).toNat : Int), .int .u64 ((b).toNat : Int)]), .slice (some ⟨w2.heap.size, 0, none⟩) gs.length gs.length] W fun e w' => e = .returned (.bool (valueOf gs[k] ⟨a, b⟩ m)) ∧ Below W.heap.size W w' :=
            fun W hW => circ_value gs[k] _ a b _ m W B wr.heap.size (by have := hb.size; have := hW.size; omega) hW.size (hI.below (hW.mono (by have := hb.size; omega))) (by rw [HM.out] at hV; exact hV.below hW)
              (fun j x hx => by have := good_in' hgood j x hx; omega) (good_len hgood).2.2.2.1
          rw [hval] at kv
          generalize valueOf gs[k] ⟨a, b⟩ (valsTo gs ⟨a, b⟩ k) = y at kv hsucc
          generalize gs[k] = g at h0 h1 h2 kv
          have KV := Lib.hid kv
          have HSU := Lib.hid hsucc
          clear kv hsucc hval hgood hI hV
          have hkm : k < m.length := by omega
          have cx := hbm.cell k
          have fx := hbm.free k
          rw [boolCells_get m k hkm] at cx
          go_wp2_with (go_at_call 35; refine (KV.out _ (by go_grown)).mono ?_; rintro e w' ⟨rfl, hbb⟩; obtain ⟨hc, hf⟩ := bcell hbb; have hsz := hbb.size)
          go_roundw
          case rel =>
            have hbb' : Below wr.heap.size wr w' := Below.trans (by go_grown) (hbb.mono (by simp))
            refine ⟨_, _, _, _, _, _, _, _, _, _, _, _, _, _, _, ⟨k + 1, m.set k y, by omega, by go_num, (hb0.keep hbb').far (by simp <;> omega) _, (hb1.keep hbb').far (by simp <;> omega) _, by rw [← boolCells_set]; exact (hbm.keep hbb').put _ _, by simp; exact HM.out, ?_, (hb.trans (hbb'.mono hb.size)).setCell (by simp <;> omega) _⟩, rfl⟩
            rw [HSU.out, ← HK.out, List.take_succ_eq_append_getElem (by simp; omega), List.take_set_of_le (Nat.le_refl _)]
            simp
          case measure => simp [intOf]; omega
        · have e : k = gs.length := by omega
          subst e
          have hkm : gs.length - 1 < m.length := by omega
          have cx := hbm.cell (gs.length - 1)
          rw [boolCells_get m _ hkm] at cx
          have hres : r = m[gs.length - 1] := by
            rw [HR.out]
            unfold evalOf valOf
            rw [← HCK.out, ← HSB.out, ← HK.out, List.take_of_length_le (by omega), List.getD_eq_getElem?_getD, List.getElem?_eq_getElem hkm]
            simp
          have HRES := Lib.hid hres
          clear hres
          generalize m[gs.length - 1] = y at cx HRES
          have hix : ((gs.length : Int) - 1).toNat = gs.length - 1 := by omega
          go_wp2
          go_ret
          exact ⟨ret_bool HRES.out.symm, hb⟩
  · have HF := Lib.hid (evalOf_bad ⟨a, b⟩ (by rw [← HCK.out]; exact h0))
    have hc := checkOf_cases N gs
    rw [← HCK.out] at hc
    clear HCK
    rcases hc with hc | hc | hc | hc
    · exact absurd hc h0
    all_goals
      subst hc
      clear h0
      go_enter Tryd.func15, Tryd.ntmps15
      go_wp2
      first | go_region_with (go_at_call 22; refine (K1.out _ (by go_grown)).mono ?_; rintro e w' ⟨rfl, hB'⟩) | fail
      all_goals
        go_wp2
        go_ret
        exact ⟨ret_bool (by rw [HR.out, HF.out]), Below.trans (by go_grown) (hB'.mono (by simp <;> omega))⟩
end Go.Proofs.YtbemhgojfehnjaaDoor
namespace Go.Proofs.YtbemhgojfehnjaaDoor
open Go Go.RowKit

theorem own_below {w w' : World} {base : Nat} {e : TypeId} {size : Nat} {v : Value} {n : Nat} {xs : List Value} (h : w.ownsRow base e size v n xs) (hb : Below w.heap.size w w') : w'.ownsRow base e size v n xs := by
  refine ⟨h.1, ?_⟩
  rcases h.2 with hn | ⟨g, cap, cur, rfl, hbg, hg, rest⟩
  · exact .inl hn
  · exact .inr ⟨g, cap, cur, rfl, hbg, by rw [hb.block g (Array.getElem?_eq_some_iff.1 hg).1]; exact hg, rest⟩
theorem own_setCell {w : World} {base : Nat} {e : TypeId} {size : Nat} {v : Value} {n : Nat} {xs : List Value} (h : w.ownsRow base e size v n xs) {p : Addr} (hp : v.ownBlock ≠ some p.block) (u : Value) : (w.setCell p u).ownsRow base e size v n xs := by
  refine ⟨h.1, ?_⟩
  rcases h.2 with hn | ⟨g, cap, cur, rfl, hbg, hg, rest⟩
  · exact .inl hn
  · refine .inr ⟨g, cap, cur, rfl, hbg, ?_, rest⟩
    rw [Below.heap_setCell _ _ _ _ (by intro he; exact hp (by simp [Value.ownBlock, he]))]
    exact hg
theorem own_blk_ne {w : World} {base : Nat} {e : TypeId} {size n g : Nat} {v : Value} {xs : List Value} {t : TypeId} {cs : Array Value} (h : w.ownsRow base e size v n xs) (hg : Blk w g t cs) (hne : e ≠ t) : v.ownBlock ≠ some g := by
  rcases h.2 with ⟨rfl, _⟩ | ⟨g', cap, cur, rfl, _, hh, _⟩
  · simp [Value.ownBlock]
  · intro he
    have : g' = g := by simpa [Value.ownBlock] using he
    subst this
    exact Blk.apart (t := e) hh hg hne rfl
theorem own_ge {w : World} {base : Nat} {e : TypeId} {size n g : Nat} {v : Value} {xs : List Value} (h : w.ownsRow base e size v n xs) (hg : v.ownBlock = some g) : base ≤ g ∧ g < w.heap.size := h.lt g hg
theorem own_form {w : World} {base : Nat} {e : TypeId} {size : Nat} {v : Value} {n : Nat} {xs : List Value} (h : w.ownsRow base e size v n xs) : ∃ A c, v = .slice A n c := by
  rcases h.2 with ⟨rfl, rfl⟩ | ⟨g, cap, cur, rfl, _⟩
  · exact ⟨none, 0, rfl⟩
  · exact ⟨_, _, rfl⟩
theorem own_nil_of {w : World} {base : Nat} {e : TypeId} {size : Nat} : w.ownsRow base e size (.slice none 0 0) 0 [] := World.ownsRow_nil w base e size
theorem below_of_grown {B : Nat} {w w' : World} {row : Option Nat} (hg : w.grownBy w' row) (hB : B ≤ w.heap.size) (hr : ∀ k, row = some k → B ≤ k) : Below B w w' := (Below.refl B w).grown hg hB hr

section
variable {P : Program}
theorem wpList_append_new (w0 : World) {ops : Array Oper} {rest : List Oper} {o : Oper} {a : Act} {Q : Exit → Act → World → Prop} (hgd : o.guard = none) (s x : Operand) (t : TypeId)
    (ho : o.op = .call { callee := .builtin .append, args := #[s, x], argTypes := #[t, t] })
    (base : Nat) (e : TypeId) (i : TypeInfo) (z : Value) (size bytes : Nat) (ht : P.underlying t = some (.slice e)) (hi : P.info? e = some i) (hz : i.zero = some z)
    (hsize : i.size = size) (hby : i.bytes = bytes) (hzs : z.cells.size = size) (hsz : 0 < size)
    (v : Value) (n : Nat) (xs : List Value) (hs : a.eval s = v) (hown : w0.ownsRow base e size v n xs)
    (cells : List Value) (hx : a.eval x = .slice (some ⟨w0.heap.size, 0, none⟩) 1 1) (hl : cells.length = size) (h1 : ∀ u ∈ cells, u.oneCell' = true)
    (hbytes : (n + 1) * bytes ≤ 140737488355328) (h63 : n + 1 ≤ maxLen) (hbase : base ≤ w0.heap.size)
    (h : ∀ v' w', w'.ownsRow base e size v' (n + 1) (xs ++ cells) → w0.grownBy w' v.ownBlock → wpList P ops Q rest (a.put o.dst v') w') :
    wpList P ops Q (o :: rest) a (w0.alloc (.cells cells.toArray e)) :=
  wpList_append_own (w0.alloc (.cells cells.toArray e)) hgd s x t ho base e i z size bytes ht hi hz hsize hby hzs hsz v n xs hs (hown.alloc _) ⟨w0.heap.size, 0, none⟩ 1 1 cells hx (by omega)
    (fun j u hu => by
      have hadd : (⟨w0.heap.size, 0, none⟩ : Addr).add j = ⟨w0.heap.size, j, none⟩ := by unfold Addr.add; split <;> simp_all
      rw [hadd, (Blk.new w0 e cells.toArray).cell j]
      simpa using hu)
    h1 h63 hbytes (by simp; omega)
    (fun v' w' hown' hgrow _ => h v' w' hown' ⟨hgrow.os, hgrow.tape, hgrow.output, Nat.le_trans (by simp) hgrow.size, fun k hk hne => (hgrow.block k (by simp; omega) hne).trans (Below.heap_alloc _ _ _ hk)⟩)
end

def OwnInts (w : World) (base : Nat) (v : Value) (l : List Int) : Prop := w.ownsRow base 3 1 v l.length (l.map (Value.int .i64))
theorem OwnInts.V {w : World} {base : Nat} {v : Value} {l : List Int} (h : OwnInts w base v l) : IntsV w w.heap.size v l := by
  obtain ⟨h1, h2⟩ := h
  rcases h2 with ⟨rfl, hn⟩ | ⟨g, cap, cur, rfl, _, hg, hnc, hcm, _, htake⟩
  · exact ⟨none, 0, by rw [hn], by omega, by unfold maxLen; omega, fun hp => by omega⟩
  · refine ⟨_, cap, rfl, hnc, hcm, fun _ => ⟨g, 0, (Array.getElem?_eq_some_iff.1 hg).1, rfl, fun i x hx => ?_⟩⟩
    show w.cell? _ = _
    rw [show 0 + i * 1 = i from by omega, cell_of_row w g i cur _ (0, 0) hg]
    have : cur.toList.take (l.length * 1) = l.map (Value.int .i64) := htake
    have hi : i < l.length := (List.getElem?_eq_some_iff.1 hx).1
    have h3 : (cur.toList.take (l.length * 1))[i]? = some (.int .i64 x) := by rw [this, List.getElem?_map, hx]; rfl
    rw [List.getElem?_take_of_lt (by omega)] at h3
    simpa using h3
theorem OwnInts.below {w w' : World} {base : Nat} {v : Value} {l : List Int} (h : OwnInts w base v l) (hb : Below w.heap.size w w') : OwnInts w' base v l := own_below h hb
theorem OwnInts.nil (w : World) (base : Nat) : OwnInts w base (.slice none 0 0) [] := World.ownsRow_nil w base _ _
theorem OwnInts.cast {w : World} {base : Nat} {v : Value} {l : List Int} {y : Int} (h : w.ownsRow base 3 1 v (l.length + 1) (l.map (Value.int .i64) ++ [.int .i64 y])) : OwnInts w base v (l ++ [y]) := by
  unfold OwnInts
  rw [List.length_append, List.map_append]
  exact h

/-- 'out = append(out, y)' on the call's own []int. -/
theorem append_int (w0 : World) {ops : Array Oper} {rest : List Oper} {o : Oper} {a : Act} {Q : Exit → Act → World → Prop} (hgd : o.guard = none) (s x : Operand)
    (ho : o.op = .call { callee := .builtin .append, args := #[s, x], argTypes := #[36, 36] }) (base : Nat) (v : Value) (l : List Int) (y : Int) (hs : a.eval s = v) (hown : OwnInts w0 base v l)
    (hx : a.eval x = .slice (some ⟨w0.heap.size, 0, none⟩) 1 1) (hlen : l.length ≤ 1099511627776) (hbase : base ≤ w0.heap.size)
    (h : ∀ v' w', OwnInts w' base v' (l ++ [y]) → w0.grownBy w' v.ownBlock → wpList Tryd.prog ops Q rest (a.put o.dst v') w') :
    wpList Tryd.prog ops Q (o :: rest) a (w0.alloc (.cells #[.int .i64 y] 3)) := by
  obtain ⟨i, hi, hz, hsz, hb⟩ := info_parts info_int
  exact wpList_append_new w0 hgd s x 36 ho base 3 i _ 1 8 Tryd.underlying36 hi hz hsz hb rfl (by decide) v l.length _ hs hown [.int .i64 y] hx rfl (by intro u hu; simp at hu; subst hu; rfl) (by omega) (by unfold maxLen; omega) hbase
    (fun v' w' ho hg => h v' w' (OwnInts.cast ho) hg)
end Go.Proofs.YtbemhgojfehnjaaDoor
