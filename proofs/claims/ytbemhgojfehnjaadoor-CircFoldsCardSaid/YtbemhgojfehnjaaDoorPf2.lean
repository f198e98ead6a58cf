/-
  Lemmas and contracts, joined: Folder Post Open Post2 Laid KeyW InsCi Ckey Ca Cfind Fold1 FoldP FoldSem FoldSem2 Cnot.
-/
import Derived.Test.YtbemhgojfehnjaaDoorPf1
import Derived.Test.YtbemhgojfehnjaaDoorRows
import Derived.WalkKit
import Derived.ProofKit
import Derived.OpenShut
import Derived.Below
import Derived.ChangeSame
import Derived.Carry
import Derived.Deep.Slices
import Derived.Deep.Fields
import Derived.Lib.SmallJoins
import Derived.DataReads
import Derived.Test.YtbemhgojfehnjaaDoorCards
import Derived.Test.YtbemhgojfehnjaaDoorTie
import Derived.Lib.LaidU8
import Derived.LaidMore
import Derived.Lay
import Derived.Stop.Joined
namespace Go.Proofs.YtbemhgojfehnjaaDoor
open Go Go.RowKit

def strE : ByteArray → Value := fun s => .string s
def intE : Int → Value := fun i => .int .i64 i
theorem ba_beq (a b : ByteArray) : (a == b) = decide (a = b) := by
  cases a with | mk a => cases b with | mk b =>
  have h1 : ((ByteArray.mk a) == (ByteArray.mk b)) = (a == b) := rfl
  rw [h1]
  by_cases h : a = b
  · subst h; simp
  · simp [h]
theorem strKey : Key strE .string := ⟨fun a b => by simp only [strE, Instr.sameNow, ba_beq], fun a => by simp [strE, MapKept.IsKey]⟩
theorem intKey : Key intE (.int .i64) := ⟨fun a b => by simp only [intE, Instr.sameNow, if_true]; congr 1, fun a => by simp [intE, MapKept.IsKey]⟩

/-- A slice of numbers, in the blocks of D. -/
def IntsD (D : Nat → Prop) (w : World) (v : Value) (xs : List Int) : Prop :=
  ∃ A c, v = .slice A xs.length c ∧ xs.length ≤ c ∧ c ≤ maxLen ∧ (0 < xs.length → ∃ b o, D b ∧ A = some ⟨b, o, none⟩ ∧ ∀ i x, xs[i]? = some x → w.cell? ⟨b, o + i, none⟩ = some (.int .i64 x))
theorem cell_move {w w' : World} {b o : Nat} (h : w'.heap[b]? = w.heap[b]?) : w'.cell? ⟨b, o, none⟩ = w.cell? ⟨b, o, none⟩ := by simp [World.cell?, h]
theorem IntsD.move {D : Nat → Prop} {w w' : World} {v : Value} {xs : List Int} (h : IntsD D w v xs) (hk : ∀ k, D k → w'.heap[k]? = w.heap[k]?) : IntsD D w' v xs := by
  obtain ⟨A, c, h1, h2, h3, h4⟩ := h
  refine ⟨A, c, h1, h2, h3, fun hp => ?_⟩
  obtain ⟨b, o, hb, hA, hc⟩ := h4 hp
  exact ⟨b, o, hb, hA, fun i x hx => (cell_move (hk b hb)).trans (hc i x hx)⟩
theorem IntsD.mono {D D' : Nat → Prop} {w : World} {v : Value} {xs : List Int} (h : IntsD D w v xs) (hD : ∀ k, D k → D' k) : IntsD D' w v xs := by
  obtain ⟨A, c, h1, h2, h3, h4⟩ := h
  refine ⟨A, c, h1, h2, h3, fun hp => ?_⟩
  obtain ⟨b, o, hb, hA, hc⟩ := h4 hp
  exact ⟨b, o, hD b hb, hA, hc⟩
theorem IntsD.V {D : Nat → Prop} {w : World} {v : Value} {xs : List Int} (h : IntsD D w v xs) {B : Nat} (hB : ∀ k, D k → k < B) : IntsV w B v xs := by
  obtain ⟨A, c, h1, h2, h3, h4⟩ := h
  refine ⟨A, c, h1, h2, h3, fun hp => ?_⟩
  obtain ⟨b, o, hb, hA, hc⟩ := h4 hp
  exact ⟨b, o, hB b hb, hA, fun i x hx => by rw [Nat.mul_one]; exact hc i x hx⟩
theorem IntsD.of_V {w : World} {B : Nat} {v : Value} {xs : List Int} (h : IntsV w B v xs) : IntsD (fun k => k < B) w v xs := by
  obtain ⟨A, c, h1, h2, h3, h4⟩ := h
  refine ⟨A, c, h1, h2, h3, fun hp => ?_⟩
  obtain ⟨b, o, hb, hA, hc⟩ := h4 hp
  exact ⟨b, o, hb, hA, fun i x hx => by have := hc i x hx; rw [Nat.mul_one] at this; exact this⟩
theorem IntsD.nil (D : Nat → Prop) (w : World) : IntsD D w (.slice none 0 0) [] := ⟨none, 0, rfl, Nat.le_refl _, Nat.zero_le _, fun h => absurd h (Nat.lt_irrefl _)⟩
/-- A row of numbers reads as a slice of numbers. -/
theorem IntsD.of_row {w : World} {base n : Nat} {T : TypeId} {v : Value} {l : List Int} (h : w.ownsRow base T 1 v n (l.map fun x => .int .i64 x)) : IntsD (fun k => v.ownBlock = some k) w v l := by
  have hn : n = l.length := by have := h.1; simpa using this.symm
  subst hn
  rcases h.2 with ⟨rfl, h0⟩ | ⟨g, cap, cur, rfl, _, hg, h1, h2, h3, h4⟩
  · have : l = [] := List.length_eq_zero_iff.1 h0
    subst this
    exact IntsD.nil _ _
  · refine ⟨_, cap, rfl, h1, h2, fun _ => ⟨g, 0, rfl, rfl, fun i x hx => ?_⟩⟩
    have hlt : i < l.length := (List.getElem?_eq_some_iff.1 hx).1
    rw [Nat.zero_add, cell_of_row w g i cur T (0, 0) hg]
    have : (cur.toList.take (l.length * 1))[i]? = some (.int .i64 x) := by rw [h4]; simp [hx]
    rw [List.getElem?_take_of_lt (by omega)] at this
    simpa using this
/-- A block of numbers does. -/
theorem IntsD.of_blk {w : World} {g n : Nat} {T : TypeId} {l : List Int} (h : Blk w g T (l.map fun x => .int .i64 x).toArray) (hn : n = l.length) (hm : n ≤ maxLen) : IntsD (fun k => k = g) w (.slice (some ⟨g, 0, none⟩) n n) l := by
  subst hn
  refine ⟨_, _, rfl, Nat.le_refl _, hm, fun _ => ⟨g, 0, rfl, rfl, fun i x hx => ?_⟩⟩
  rw [Nat.zero_add, h.cell i]
  simp [hx]
def gcell (g : Gate) (v : Value) : List Value := [.int .i64 g.kind, .int .i64 g.lit, v]
def gcells : List Gate → List Value → List Value
  | g :: L, v :: vs => gcell g v ++ gcells L vs
  | _, _ => []
theorem gcells_get : ∀ {L : List Gate} {vs : List Value} {i : Nat} {g : Gate} {v : Value}, L[i]? = some g → vs[i]? = some v →
    (gcells L vs)[i * 3]? = some (.int .i64 g.kind) ∧ (gcells L vs)[i * 3 + 1]? = some (.int .i64 g.lit) ∧ (gcells L vs)[i * 3 + 2]? = some v
  | [], _, _, _, _, h, _ => by simp at h
  | _ :: _, [], _, _, _, _, h => by simp at h
  | g' :: L, v' :: vs, 0, g, v, h, h' => by
    simp at h h'
    subst h h'
    exact ⟨rfl, rfl, rfl⟩
  | g' :: L, v' :: vs, i + 1, g, v, h, h' => by
    have := gcells_get (L := L) (vs := vs) (i := i) (g := g) (v := v) (by simpa using h) (by simpa using h')
    have e : ∀ k, (gcells (g' :: L) (v' :: vs))[(i + 1) * 3 + k]? = (gcells L vs)[i * 3 + k]? := fun k => by
      rw [show (i + 1) * 3 + k = (i * 3 + k) + 1 + 1 + 1 by omega]
      rfl
    have e0 := e 0
    simp only [Nat.add_zero] at e0
    rw [e0, e 1, e 2]
    exact this
theorem gcells_snoc (g : Gate) (v : Value) : ∀ (L : List Gate) (vs : List Value), L.length = vs.length → gcells (L ++ [g]) (vs ++ [v]) = gcells L vs ++ gcell g v
  | [], [], _ => rfl
  | [], _ :: _, h => by cases h
  | _ :: _, [], h => by cases h
  | g' :: L, v' :: vs, h => by
    show gcell g' v' ++ gcells (L ++ [g]) (vs ++ [v]) = (gcell g' v' ++ gcells L vs) ++ gcell g v
    rw [gcells_snoc g v L vs (by simpa using h), List.append_assoc]
def keyV (g : Gate) : ByteArray := ⟨(keyOf g).toArray⟩
theorem keyV_inj {g h : Gate} (e : keyV g = keyV h) : g = h := by
  unfold keyV at e
  injection e with e
  exact keyOf_inj (by simpa using congrArg Array.toList e)
def keysGo : List Gate → Nat → List (ByteArray × Value)
  | [], _ => []
  | g :: L, i => (keyV g, .int .i64 (i : Int)) :: keysGo L (i + 1)
theorem look_keys (g : Gate) : ∀ (L : List Gate) (j i : Nat), (look (keyV g) (keysGo L j) i).map (·.2) = (gidx g L j).map fun k => .int .i64 (k : Int)
  | [], _, _ => rfl
  | h :: L, j, i => by
    unfold keysGo look gidx
    by_cases e : g = h
    · subst e; simp
    · rw [if_neg (fun e' => e (keyV_inj e')), if_neg e]
      exact look_keys g L (j + 1) (i + 1)
theorem keysGo_snoc (g : Gate) : ∀ (L : List Gate) (j : Nat), keysGo (L ++ [g]) j = keysGo L j ++ [(keyV g, .int .i64 ((j + L.length : Nat) : Int))]
  | [], j => by simp [keysGo]
  | h :: L, j => by
    show _ :: keysGo (L ++ [g]) (j + 1) = _
    rw [keysGo_snoc g L (j + 1)]
    simp only [keysGo, List.cons_append, List.length_cons]
    rw [show j + 1 + L.length = j + (L.length + 1) by omega]
theorem gidx_lt {g : Gate} : ∀ {L : List Gate} {i k : Nat}, gidx g L i = some k → i ≤ k ∧ k < i + L.length ∧ L[k - i]? = some g
  | [], _, _, h => by cases h
  | h' :: L, i, k, h => by
    unfold gidx at h
    split at h
    · rename_i e
      injection h with h
      subst h e
      simp
    · obtain ⟨h1, h2, h3⟩ := gidx_lt h
      refine ⟨by omega, by simp; omega, ?_⟩
      rw [show k - i = (k - (i + 1)) + 1 by omega]
      simpa using h3
def Ins (D : Nat → Prop) (L : List Gate) (vs : List Value) (w : World) : Prop := L.length = vs.length ∧ ∀ (i : Nat) (g : Gate) (v : Value), L[i]? = some g → vs[i]? = some v → IntsD D w v g.inp
theorem Ins.move {D : Nat → Prop} {L : List Gate} {vs : List Value} {w w' : World} (h : Ins D L vs w) (hk : ∀ k, D k → w'.heap[k]? = w.heap[k]?) : Ins D L vs w' := ⟨h.1, fun i g v h1 h2 => (h.2 i g v h1 h2).move hk⟩
theorem Ins.snoc {D D2 : Nat → Prop} {L : List Gate} {vs : List Value} {w : World} (h : Ins D L vs w) {g : Gate} {v : Value} (hg : IntsD D2 w v g.inp) : Ins (fun k => D k ∨ D2 k) (L ++ [g]) (vs ++ [v]) w := by
  refine ⟨by simp [h.1], fun i g' v' h1 h2 => ?_⟩
  by_cases hi : i < L.length
  · rw [List.getElem?_append_left hi] at h1
    rw [List.getElem?_append_left (by rw [← h.1]; exact hi)] at h2
    exact (h.2 i g' v' h1 h2).mono (fun k q => .inl q)
  · rw [List.getElem?_append_right (by omega)] at h1
    rw [List.getElem?_append_right (by rw [← h.1]; omega)] at h2
    have e1 : i - L.length = 0 := by
      rcases Nat.eq_zero_or_pos (i - L.length) with q | q
      · exact q
      · rw [List.getElem?_eq_none (by simp; omega)] at h1; cases h1
    rw [e1] at h1
    rw [← h.1, e1] at h2
    simp at h1 h2
    subst h1 h2
    exact hg.mono (fun k q => .inr q)
theorem Ins.len {D : Nat → Prop} {L : List Gate} {vs : List Value} {w : World} (h : Ins D L vs w) : L.length = vs.length := h.1
/-- The table by which numbers are written. -/
def Tab (w : World) : Prop := Lib.TabIs Tryd.prog w tabN .u64 Lib.pow10Tab
theorem tab_g : ∃ g, Tryd.prog.globalNamed tabN = some g := ⟨0, by kernel_rfl⟩
def TabD (k : Nat) : Prop := Tryd.prog.globalNamed tabN = some k
theorem Tab.move {w w' : World} (h : Tab w) (hk : ∀ k, TabD k → w'.heap[k]? = w.heap[k]?) : Tab w' := by
  unfold Tab Lib.TabIs World.var? at *
  obtain ⟨g, hg⟩ := tab_g
  simp only [hg, Option.bind_some] at h ⊢
  rw [hk g hg]
  exact h
theorem Tab.lt {w : World} (h : Tab w) {k : Nat} (hk : TabD k) : k < w.heap.size := by
  unfold Tab Lib.TabIs World.var? at h
  unfold TabD at hk
  simp only [hk, Option.bind_some] at h
  rcases Nat.lt_or_ge k w.heap.size with h' | h'
  · exact h'
  · rw [Array.getElem?_eq_none h'] at h; simp at h
theorem Tab.below {w w' : World} (h : Tab w) {B : Nat} (hB : w.heap.size ≤ B) (hb : Below B w w') : Tab w' := h.move (fun k hk => hb.block k (Nat.lt_of_lt_of_le (h.lt hk) hB))
theorem Tab.tb {w : World} (h : Tab w) : Lib.TabBelow Tryd.prog w.heap.size w tabN .u64 Lib.pow10Tab := Lib.tabBelow_of_tabIs h
def tabE : En := .ro TabD Tab
theorem tabE_holds {w : World} (h : Tab w) : tabE.holds w := ⟨h, fun _ hk => h.lt hk, fun _ _ _ hk h => h.move hk⟩
def insE (D : Nat → Prop) (L : List Gate) (vs : List Value) : En := .ro D (Ins D L vs)
def inE (D : Nat → Prop) (v : Value) (l : List Int) : En := .ro D (fun w => IntsD D w v l)
theorem inE_holds {D : Nat → Prop} {v : Value} {l : List Int} {w : World} (h : IntsD D w v l) (hD : ∀ k, D k → k < w.heap.size) : (inE D v l).holds w := ⟨h, hD, fun _ _ _ hk h => h.move hk⟩
/-- The folder. -/
def foldE (f m : Nat) (R : Option Addr) (c : Nat) (D : Nat → Prop) (L : List Gate) (vs : List Value) : List En :=
  [.blk f 56 #[.slice R L.length c, .map (some m)], .map m (encL strE (keysGo L 0)), .row (.slice R L.length c) 38 3 L.length (gcells L vs), insE D L vs, tabE]
section
variable {Z : Bool → Nat → Prop} {w0 W : World} {rest : List En} {f m c : Nat} {R : Option Addr} {D D2 : Nat → Prop} {L : List Gate} {vs : List Value}
theorem rowcell {b T sz n c g : Nat} {xs : List Value} (h : W.ownsRow b T sz (.slice (some ⟨g, 0, none⟩) n c) n xs) {j : Nat} {v : Value} (hv : xs[j]? = some v) : W.cell? ⟨g, j, none⟩ = some v := by
  rcases h.2 with ⟨h1, _⟩ | ⟨g', cap, cur, h1, _, hg, _, _, _, h4⟩
  · cases h1
  · injection h1 with h1 _ _
    injection h1 with h1
    injection h1 with h1
    subst h1
    have hlt : j < xs.length := (List.getElem?_eq_some_iff.1 hv).1
    rw [cell_of_row W g j cur T (0, 0) hg]
    rw [← h4] at hv hlt
    have := List.length_take (l := cur.toList) (i := n * sz)
    rw [List.getElem?_take_of_lt (by omega)] at hv
    simpa using hv
theorem rowaddr {b T sz n c : Nat} {xs : List Value} (h : W.ownsRow b T sz (.slice R n c) n xs) (hn : 0 < n) : ∃ g, R = some ⟨g, 0, none⟩ := by
  rcases h.2 with ⟨_, h1⟩ | ⟨g', cap, cur, h1, _⟩
  · omega
  · injection h1 with h1 _ _
    exact ⟨g', h1⟩
/-- A gate of the folder, as it lies. -/
theorem fold_gate (hO : Own Z w0 W (foldE f m R c D L vs ++ rest)) {i : Nat} (hi : i < L.length) : ∃ g v, R = some ⟨g, 0, none⟩ ∧ g < W.heap.size ∧ vs[i]? = some v ∧ IntsD D W v L[i].inp ∧
    W.cell? ⟨g, i * 3, none⟩ = some (.int .i64 L[i].kind) ∧ W.cell? ⟨g, i * 3 + 1, none⟩ = some (.int .i64 L[i].lit) ∧ W.cell? ⟨g, i * 3 + 2, none⟩ = some v := by
  have hr := hO.row 2 rfl
  have hins : Ins D L vs W := hO.ro 3 rfl
  obtain ⟨g, rfl⟩ := rowaddr hr (by omega)
  have hi' : i < vs.length := by rw [← hins.1]; exact hi
  obtain ⟨h1, h2, h3⟩ := gcells_get (L := L) (vs := vs) (List.getElem?_eq_getElem hi) (List.getElem?_eq_getElem hi')
  exact ⟨g, vs[i], rfl, (World.ownsRow.lt hr g rfl).2, List.getElem?_eq_getElem hi', hins.2 i _ _ (List.getElem?_eq_getElem hi) (List.getElem?_eq_getElem hi'), rowcell hr h1, rowcell hr h2, rowcell hr h3⟩
theorem Blk.oldcell {w W : World} {g : Nat} {T : TypeId} {cs : Array Value} (h : Blk w g T cs) (hb : Below w.heap.size w W) (i : Nat) {v : Value} (hv : cs[i]? = some v) : W.cell? ⟨g, i, none⟩ = some v := (hb.cell (p := ⟨g, i, none⟩) h.lt).trans ((h.cell i).trans hv)
end
end Go.Proofs.YtbemhgojfehnjaaDoor
namespace Go.Proofs.YtbemhgojfehnjaaDoor
open Go.ChangeShapes Go.WideShapes Go.ChangeAt Go.RowKit

end Go.Proofs.YtbemhgojfehnjaaDoor
namespace Go.Proofs.YtbemhgojfehnjaaDoor
open Go Go.RowKit Go.ChangeShapes Go.WideShapes Go.Deep Go.Joins

theorem laidOut : laidOutB Tryd.prog = true := by kernel_rfl

section
variable {H : Type} {enc : TypeId × Value → H} {W : World} {held : Bool}

theorem block_lt {a : Addr} {v : Value} (h : W.cell? a = some v) : a.block < W.heap.size := by
  unfold World.cell? at h
  split at h
  · rename_i he
    exact (Array.getElem?_eq_some_iff.1 he).1
  · cases h
theorem addr_eta {a : Addr} {v : Value} (h : W.cell? a = some v) : a = ⟨a.block, a.off, none⟩ := by
  have := World.cell?_spot h
  cases a; simp_all
theorem addr_add (b o j : Nat) : (⟨b, o, none⟩ : Addr).add j = ⟨b, o + j, none⟩ := by unfold Addr.add; split <;> simp_all

theorem open_intsV {fuel : Nat} {cs : List Value} {x : DataW H × List MemPlace} (h : DataW.trod enc Tryd.prog W 0 (fun _ => true) held fuel 36 cs = some x) :
    ∃ v xs, cs = [v] ∧ IntsV W W.heap.size v xs ∧ ∀ y ∈ xs, -9223372036854775808 ≤ y ∧ y ≤ 9223372036854775807 := by
  rcases open_ints Tryd.underlying36 Tryd.underlying3 (by kernel_rfl) h with ⟨rfl, rfl⟩ | ⟨a, len, cap, zs, rfl, _, hl, hm, hz, rfl, hc, hw⟩
  · exact ⟨_, [], rfl, ⟨none, 0, rfl, by simp, by unfold maxLen; omega, fun h => by simp at h⟩, by simp⟩
  · simp only [if_true] at hz
    have hlen : (zs.take len).length = len := by rw [List.length_take]; omega
    refine ⟨_, zs.take len, rfl, ⟨some a, cap, by rw [hlen], by rw [hlen]; exact hl, hm, fun hp => ?_⟩, fun y hy => ?_⟩
    · have h0 := hc 0 (by omega)
      have ha : a.add 0 = a := by simp [Addr.add]
      rw [ha] at h0
      have he := addr_eta h0
      refine ⟨a.block, a.off, block_lt h0, by rw [← he], fun i y hy => ?_⟩
      have hi : i < len := by
        have := (List.getElem?_eq_some_iff.1 hy).1
        omega
      have h1 := hc i (by omega)
      rw [he, addr_add] at h1
      rw [List.getElem?_take_of_lt hi] at hy
      rw [List.getD_eq_getElem?_getD, hy] at h1
      unfold IntAt
      simpa using h1
    · have := hw y (List.mem_of_mem_take hy)
      simp [Lit.wf] at this
      have e1 : IntKind.i64.min = -9223372036854775808 := rfl
      have e2 : IntKind.i64.max = 9223372036854775807 := rfl
      omega

theorem open_fields {t : TypeId} {fs : Array Field} {fuel : Nat} {cs : List Value} {x : DataW H × List MemPlace} (ht : Tryd.prog.underlying t = some (.struct fs)) (hone : oneCellFields Tryd.prog fs = true)
    (h : DataW.trod enc Tryd.prog W 0 (fun _ => true) held fuel t cs = some x) (hl : cs.length = fs.size) :
    ∀ (j : Nat) (f : Field), fs[j]? = some f → ∃ v n y, cs[j]? = some v ∧ DataW.trod enc Tryd.prog W 0 (fun _ => true) held n f.type [v] = some y := by
  obtain ⟨ys, n', hn', hy, hlen, hyl, hf⟩ := DataW.trod_struct ht h
  intro j f hj
  obtain ⟨ho, hk⟩ := hone_of hone j f hj
  have hjl : j < fs.size := (Array.getElem?_eq_some_iff.1 hj).1
  have h1 := hf j f hj
  rw [ho, hk] at h1
  have hone' : (cs.drop j).take 1 = [cs[j]'(by omega)] := by
    rw [List.drop_eq_getElem_cons (by omega)]
    rfl
  rw [hone'] at h1
  have hys : ys[j]? = some (ys[j]'(by omega)) := List.getElem?_eq_getElem (by omega)
  exact ⟨_, _, _, List.getElem?_eq_getElem (by omega), h1.trans hys⟩

theorem open_gate {fuel : Nat} {cs : List Value} {x : DataW H × List MemPlace} (hl : cs.length = 3) (h : DataW.trod enc Tryd.prog W 0 (fun _ => true) held fuel 38 cs = some x) :
    ∃ (g : Gate) (v : Value), cs = [.int .i64 g.kind, .int .i64 g.lit, v] ∧ IntsV W W.heap.size v g.inp := by
  have hf := open_fields Tryd.underlying38 (by kernel_rfl) h (by rw [hl]; rfl)
  obtain ⟨v0, n0, y0, c0, t0⟩ := hf 0 _ rfl
  obtain ⟨v1, n1, y1, c1, t1⟩ := hf 1 _ rfl
  obtain ⟨v2, n2, y2, c2, t2⟩ := hf 2 _ rfl
  obtain ⟨k, hk, _, _⟩ := DataW.trod_int Tryd.underlying3 t0
  obtain ⟨l, hl', _, _⟩ := DataW.trod_int Tryd.underlying3 t1
  obtain ⟨v, xs, hv, hI, _⟩ := open_intsV t2
  injection hk with hk _
  injection hl' with hl' _
  injection hv with hv _
  subst hk hl' hv
  refine ⟨⟨k, l, xs⟩, v2, ?_, hI⟩
  match cs, hl with
  | [a, b, c], _ => simp at c0 c1 c2; rw [c0, c1, c2]

theorem open_gatesV {fuel : Nat} {cs : List Value} {x : DataW H × List MemPlace} (h : DataW.trod enc Tryd.prog W 0 (fun _ => true) held fuel 22 cs = some x) :
    ∃ v gs, cs = [v] ∧ GatesV W W.heap.size v gs := by
  have hC : Tryd.prog.cellsOf 38 = 3 := by kernel_rfl
  rcases open_slice Tryd.underlying22 h with ⟨rfl, rfl⟩ | ⟨a, len, cap, m, n, D, Pl, rfl, hb, hl, hm, hmm, hx, hi⟩
  · exact ⟨_, [], rfl, ⟨none, 0, rfl, by simp, by unfold maxLen; omega, fun h => by simp at h⟩⟩
  · simp only [if_true] at hmm
    subst hmm
    rw [hC] at hi
    have each : ∀ i, i < m → ∃ g : Gate, GateAt W.heap.size W ⟨a.block, a.off + i * 3, none⟩ g ∧ (i = 0 → a = ⟨a.block, a.off, none⟩ ∧ a.block < W.heap.size) := fun i hlt => by
      obtain ⟨cs', hcs, ht⟩ := hi i hlt
      obtain ⟨_, hcl, hat⟩ := World.cells?_some hcs
      obtain ⟨g, v, rfl, hI⟩ := open_gate hcl ht
      have h0 := hat 0 (by omega)
      have h1 := hat 1 (by omega)
      have h2 := hat 2 (by omega)
      have he : a.add (i * 3) = ⟨a.block, a.off + i * 3, none⟩ := by
        unfold Addr.add at h0 ⊢
        split
        · rename_i hz
          rw [if_pos hz, if_pos rfl] at h0
          rw [hz]
          exact addr_eta h0
        · rfl
      rw [he] at h0 h1 h2
      rw [addr_add] at h0 h1 h2
      refine ⟨g, ⟨h0, h1, v, h2, hI⟩, fun e0 => ?_⟩
      subst e0
      have ha : a.add (0 * 3) = a := by simp [Addr.add]
      rw [ha] at he
      refine ⟨he, ?_⟩
      exact block_lt (a := ⟨a.block, a.off + 0 * 3 + 0, none⟩) h0
    have all : ∀ k, k ≤ len → ∃ gs : List Gate, gs.length = k ∧ ∀ i g, gs[i]? = some g → GateAt W.heap.size W ⟨a.block, a.off + i * 3, none⟩ g := by
      intro k
      induction k with
      | zero => exact fun _ => ⟨[], rfl, fun i g h => by simp at h⟩
      | succ k ih =>
        intro hk
        obtain ⟨gs, h1, h2⟩ := ih (by omega)
        obtain ⟨g, hg, _⟩ := each k (by omega)
        refine ⟨gs ++ [g], by simp [h1], fun i g' hi' => ?_⟩
        by_cases hlt : i < gs.length
        · rw [List.getElem?_append_left hlt] at hi'; exact h2 i g' hi'
        · have : i = k := by
            have := (List.getElem?_eq_some_iff.1 hi').1
            simp at this; omega
          subst this
          rw [List.getElem?_append_right (by omega), h1] at hi'
          simp at hi'
          subst hi'
          exact hg
    obtain ⟨gs, h1, h2⟩ := all len (Nat.le_refl _)
    subst h1
    refine ⟨_, gs, rfl, some a, m, rfl, hl, hm, fun hp => ?_⟩
    obtain ⟨_, _, h3⟩ := each 0 (by omega)
    obtain ⟨h4, h5⟩ := h3 rfl
    exact ⟨a.block, a.off, h5, by rw [← h4], h2⟩

set_option maxRecDepth 100000 in
theorem open_circuit {r : Reach} {b0 : Nat} {v : Value} {d : DataW H} {p : List MemPlace} (hv : Value.okWide Tryd.prog W r b0 24 v) (h : DataW.Trod enc Tryd.prog W 0 (fun _ => true) held 24 v d p) :
    ∃ (N : Int) (V : Value) (gs : List Gate), v = .agg #[.int .i64 N, V] ∧ GatesV W W.heap.size V gs ∧ -9223372036854775808 ≤ N ∧ N ≤ 9223372036854775807 := by
  obtain ⟨v0, v1, y0, y1, n, rfl, rfl, rfl, t0, t1⟩ := open_agg2 Tryd.underlying24 (by kernel_rfl) (by kernel_rfl) hv h
  obtain ⟨k, hk, _, hw⟩ := DataW.trod_int Tryd.underlying3 t0
  obtain ⟨V, gs, hV, hG⟩ := open_gatesV t1
  injection hk with hk _
  injection hV with hV _
  subst hk hV
  have hw' : -9223372036854775808 ≤ k ∧ k ≤ 9223372036854775807 := by
    simp [Lit.wf] at hw
    have e1 : IntKind.i64.min = -9223372036854775808 := rfl
    have e2 : IntKind.i64.max = 9223372036854775807 := rfl
    omega
  exact ⟨k, v1, gs, rfl, hG, hw'.1, hw'.2⟩

end
end Go.Proofs.YtbemhgojfehnjaaDoor
namespace Go.Proofs.YtbemhgojfehnjaaDoor
open Go Go.ChangeShapes Go.WideShapes Go.ChangeAt Go.RowKit

theorem carryAll {H : Type} {enc : TypeId × Value → H} {W W' : World} (hb : Below W.heap.size W W') : ∀ {ts : List TypeId} {vs : List Value} {ds : List (DataW H)} {ps : List MemPlace},
    DataW.TrodAll enc Tryd.prog W 0 (fun _ => true) true ts vs ds ps → (∀ x ∈ ps, x.block < W.heap.size) → ts.all (fun t => Tryd.prog.readableRec t && decide (t < Tryd.prog.types.size)) = true →
    DataW.TrodAll enc Tryd.prog W' 0 (fun b => decide (b < W.heap.size)) true ts vs ds ps := by
  intro ts
  induction ts with
  | nil =>
    intro vs ds ps h _ _
    obtain ⟨rfl, rfl, rfl⟩ := trodAll_nil h
    exact trodAll_mk0
  | cons t ts ih =>
    intro vs ds ps h hlt hts
    obtain ⟨v0, vs0, d0, ds0, p0, q0, rfl, rfl, rfl, h0, r0⟩ := trodAll_cons h
    simp only [List.all_cons, Bool.and_eq_true, decide_eq_true_eq] at hts
    exact trodAll_cons_mk (Below.trod laidOut hts.1.1 hts.1.2 h0 hb (fun x hx => hlt x (List.mem_append_left _ hx))) (ih r0 (fun x hx => hlt x (List.mem_append_right _ hx)) hts.2)

theorem law_post2 {H : Type} {enc : TypeId × Value → H} {f : Func} {s : ChangeSpec} {W W' : World} {args : Array Value} {v : Value} {ds : List (DataW H)} {p : List MemPlace} (hvars : s.vars = [])
    (hW : DataW.Whole enc Tryd.prog f.params.toList s.vars false W args.toList ds [] (p ++ []))
    (hA : DataW.TrodAll enc Tryd.prog W 0 (fun _ => true) true f.params.toList args.toList ds p)
    (hres : DataW.TrodAll enc Tryd.prog W' W.heap.size (fun _ => false) false f.resultTypes.toList (v.resultList f.resultTypes.size) (s.fn H (ds ++ [])).results [])
    (hfa : (s.fn H (ds ++ [])).args = ds) (hfv : (s.fn H (ds ++ [])).vars = []) (hts : f.params.toList.all (fun t => Tryd.prog.readableRec t && decide (t < Tryd.prog.types.size)) = true) (hb : Below W.heap.size W W') : s.post enc Tryd.prog f false true false false W args v W' := by
  have hlt : ∀ p' ∈ p ++ [], p'.block < W.heap.size := fun p' hp => hW.lt p' hp
  have hlt' : ∀ x ∈ p, x.block < W.heap.size := fun x hx => hlt x (by simpa using hx)
  have h2 := carryAll hb hA hlt' hts
  refine ⟨ds, [], p ++ [], [], p, [], hW, hres, ?_, ?_, World.keptBut_mono (fun p' hp => ⟨hp, .inr (.inl (by simpa using hp))⟩) (hb.frame (· ∈ p ++ [])), fun h => by cases h⟩
  · rw [hfa]; exact h2
  · rw [hfv, hvars]; rfl
end Go.Proofs.YtbemhgojfehnjaaDoor
namespace Go.Proofs.YtbemhgojfehnjaaDoor
open Go Go.ChangeShapes Go.WideShapes Go.ChangeAt Go.RowKit
def laidL : List (String × DataW Unit) := Rows.circEvalsRow.laid
theorem tab_laid {W : World} (h : laidMetH Tryd.prog laidL W) : Tab W := by
  rw [MakeChecks.laidMetH_plain _ _ _ (by kernel_rfl)] at h
  obtain ⟨g, t, cs, fuel, p, hg, ht, hv, hd⟩ := Lib.laidMet.reads (n := tabN) (d := Rows.laid_internal_strconv_uint64pow10) h (List.Mem.tail _ (List.Mem.tail _ (List.Mem.head _)))
  have h0 : Tryd.prog.globalNamed tabN = some 0 := by kernel_rfl
  obtain rfl := Option.some.inj (h0.symm.trans hg)
  have h1 : (Tryd.prog.globals[0]?).map (·.type) = some 102 := by kernel_rfl
  obtain rfl := Option.some.inj (h1.symm.trans ht)
  have hc := Lib.cells_of_tab (k := .u64) (zs := Lib.pow10Tab) Tryd.underlying102 Tryd.underlying25 (by kernel_rfl) (by kernel_rfl) hd
  unfold Tab Lib.TabIs
  rw [hv, ← hc]
end Go.Proofs.YtbemhgojfehnjaaDoor
namespace Go.Proofs.YtbemhgojfehnjaaDoor
open Go Go.RowKit
def smallI (x : Int) : Prop := -1000000 ≤ x ∧ x ≤ 1000000
def smallG (g : Gate) : Prop := smallI g.kind ∧ smallI g.lit ∧ (∀ x ∈ g.inp, smallI x) ∧ g.inp.length ≤ 1000000
def kl (g : Gate) (k : Nat) : List UInt8 := Lib.itoa g.kind ++ 32 :: (Lib.itoa g.lit ++ keyIn (g.inp.take k))
theorem kl_zero (g : Gate) : kl g 0 = (Lib.itoa g.kind ++ [32]) ++ Lib.itoa g.lit := by simp [kl, keyIn]
theorem kl_succ (g : Gate) {k : Nat} (h : k < g.inp.length) : kl g (k + 1) = (kl g k ++ [32]) ++ Lib.itoa g.inp[k] := by
  unfold kl
  rw [← List.take_append_getElem h, keyIn_snoc]
  simp
theorem kl_full (g : Gate) : kl g g.inp.length = keyOf g := by simp [kl, keyOf]
theorem itoa_small {x : Int} (h : smallI x) : (Lib.itoa x).length ≤ 21 := Lib.itoa_length_le x (by unfold smallI at h; omega) (by unfold smallI at h; omega)
theorem kl_len {g : Gate} (h : smallG g) : ∀ k, k ≤ g.inp.length → (kl g k).length ≤ 43 + 22 * k
  | 0, _ => by
    have h1 := itoa_small h.1
    have h2 := itoa_small h.2.1
    rw [kl_zero]
    simp only [List.length_append, List.length_cons, List.length_nil]
    omega
  | k + 1, hk => by
    have h1 := kl_len h k (by omega)
    have h2 := itoa_small (h.2.2.1 _ (List.getElem_mem (l := g.inp) (n := k) (by omega)))
    rw [kl_succ g (by omega)]
    simp only [List.length_append, List.length_cons, List.length_nil]
    omega
theorem kl_pos (g : Gate) (k : Nat) : 0 < (kl g k).length := by unfold kl; simp; omega
section
variable {w0 W : World} {v : Value} {n : Nat} {l : List UInt8}
theorem app10 (O : Own Z0 w0 W [.row v 5 1 n (Lib.byteCells l)]) (hn : n = l.length) (hlim : n + 21 ≤ 140737488355328) (tab : Tab w0) (i : Int) (h : smallI i) :
    Calls Tryd.prog 87 #[v, .int .i64 i, .int .i64 10] W fun e w' => ∃ A c n' l', e = .returned (.slice A n' c) ∧ l' = l ++ Lib.itoa i ∧ n' = l'.length ∧ n' ≤ n + 21 ∧ Own Z0 w0 w' [.row (.slice A n' c) 5 1 n' (Lib.byteCells l')] := by
  subst hn
  refine (Tryd.append_int10 w0.heap.size l.length i (by unfold smallI at h; omega) (by unfold smallI at h; omega) v _ W (O.newrow 0 rfl) O.old.size hlim (tab.tb.on O.old)).mono ?_
  rintro _ w' ⟨v', rfl, hr, hb, _⟩
  have hr' : w'.ownsRow w0.heap.size 5 1 v' (l ++ Lib.itoa i).length (Lib.byteCells (l ++ Lib.itoa i)) := by
    simpa [Lib.byteCells] using hr
  obtain ⟨A, c, rfl⟩ := own_form hr'
  exact ⟨A, c, _, _, rfl, rfl, rfl, by have := itoa_small h; simp; omega, O.rownext hr' hb⟩
theorem own_bytes (h : W.ownsRow 0 5 1 v n (Lib.byteCells l)) (hn : n = l.length) : OwnBytes W 0 v l := by subst hn; exact h
theorem own_app_byte {Z : Bool → Nat → Prop} {L : List En} {g : Nat} {b : UInt8} (O : Own Z w0 W (.row v 5 1 n (Lib.byteCells l) :: L)) (hk : Blk W g 5 #[.int .u8 b.toNat]) (hn : n = l.length) (hlim : n + 21 ≤ 1099511627776) :
    ∃ A c n' l' w', (∀ (ρ : Operand → Value) x y d t pos aft gd, ρ x = v → ρ y = .slice (some ⟨g, 0, none⟩) 1 1 → (execOp ρ ⟨d, .call ⟨.builtin .append, #[x, y], #[92, 92]⟩, t, pos, aft, gd⟩).run Tryd.prog W = .ok (.value (.slice A n' c)) w') ∧ l' = l ++ [b] ∧ n' = l'.length ∧ n' = n + 1 ∧ Own Z w0 w' (.row (.slice A n' c) 5 1 n' (Lib.byteCells l') :: L) := by
  obtain ⟨A, c, w', h1, h2, _, _⟩ := own_app1 O ap92 hk (cells := [.int .u8 b.toNat]) rfl rfl (by omega) (by omega) (ys := Lib.byteCells (l ++ [b])) (by simp [Lib.byteCells])
  exact ⟨A, c, n + 1, l ++ [b], w', h1, rfl, by simp [hn], rfl, h2⟩
end
end Go.Proofs.YtbemhgojfehnjaaDoor
namespace Go.Proofs.YtbemhgojfehnjaaDoor
open Go
theorem in_13 : Enters Tryd.prog 13 := enters_of Tryd.func13 (by kernel_rfl) rfl
theorem in_14 : Enters Tryd.prog 14 := enters_of Tryd.func14 (by kernel_rfl) rfl
theorem in_15 : Enters Tryd.prog 15 := enters_of Tryd.func15 (by kernel_rfl) rfl
theorem in_16 : Enters Tryd.prog 16 := enters_of Tryd.func16 (by kernel_rfl) rfl
theorem in_18 : Enters Tryd.prog 18 := enters_of Tryd.func18 (by kernel_rfl) rfl
theorem in_19 : Enters Tryd.prog 19 := enters_of Tryd.func19 (by kernel_rfl) rfl
theorem in_20 : Enters Tryd.prog 20 := enters_of Tryd.func20 (by kernel_rfl) rfl
theorem in_21 : Enters Tryd.prog 21 := enters_of Tryd.func21 (by kernel_rfl) rfl
theorem in_22 : Enters Tryd.prog 22 := enters_of Tryd.func22 (by kernel_rfl) rfl
theorem in_23 : Enters Tryd.prog 23 := enters_of Tryd.func23 (by kernel_rfl) rfl
theorem in_25 : Enters Tryd.prog 25 := enters_of Tryd.func25 (by kernel_rfl) rfl
theorem in_26 : Enters Tryd.prog 26 := enters_of Tryd.func26 (by kernel_rfl) rfl
theorem in_27 : Enters Tryd.prog 27 := enters_of Tryd.func27 (by kernel_rfl) rfl
theorem in_28 : Enters Tryd.prog 28 := enters_of Tryd.func28 (by kernel_rfl) rfl
theorem in_29 : Enters Tryd.prog 29 := enters_of Tryd.func29 (by kernel_rfl) rfl
theorem in_39 : Enters Tryd.prog 39 := enters_of Tryd.func39 (by kernel_rfl) rfl
theorem in_40 : Enters Tryd.prog 40 := enters_of Tryd.func40 (by kernel_rfl) rfl
theorem in_41 : Enters Tryd.prog 41 := enters_of Tryd.func41 (by kernel_rfl) rfl
theorem in_42 : Enters Tryd.prog 42 := enters_of Tryd.func42 (by kernel_rfl) rfl
theorem in_43 : Enters Tryd.prog 43 := enters_of Tryd.func43 (by kernel_rfl) rfl
theorem in_44 : Enters Tryd.prog 44 := enters_of Tryd.func44 (by kernel_rfl) rfl
theorem in_45 : Enters Tryd.prog 45 := enters_of Tryd.func45 (by kernel_rfl) rfl
theorem in_46 : Enters Tryd.prog 46 := enters_of Tryd.func46 (by kernel_rfl) rfl
theorem in_60 : Enters Tryd.prog 60 := enters_of Tryd.func60 (by kernel_rfl) rfl
theorem in_61 : Enters Tryd.prog 61 := enters_of Tryd.func61 (by kernel_rfl) rfl
theorem in_62 : Enters Tryd.prog 62 := enters_of Tryd.func62 (by kernel_rfl) rfl
theorem in_63 : Enters Tryd.prog 63 := enters_of Tryd.func63 (by kernel_rfl) rfl
theorem in_64 : Enters Tryd.prog 64 := enters_of Tryd.func64 (by kernel_rfl) rfl
theorem in_65 : Enters Tryd.prog 65 := enters_of Tryd.func65 (by kernel_rfl) rfl
theorem in_66 : Enters Tryd.prog 66 := enters_of Tryd.func66 (by kernel_rfl) rfl
theorem in_67 : Enters Tryd.prog 67 := enters_of Tryd.func67 (by kernel_rfl) rfl
theorem in_68 : Enters Tryd.prog 68 := enters_of Tryd.func68 (by kernel_rfl) rfl
theorem in_69 : Enters Tryd.prog 69 := enters_of Tryd.func69 (by kernel_rfl) rfl
theorem in_70 : Enters Tryd.prog 70 := enters_of Tryd.func70 (by kernel_rfl) rfl
theorem in_71 : Enters Tryd.prog 71 := enters_of Tryd.func71 (by kernel_rfl) rfl
theorem in_72 : Enters Tryd.prog 72 := enters_of Tryd.func72 (by kernel_rfl) rfl
theorem in_73 : Enters Tryd.prog 73 := enters_of Tryd.func73 (by kernel_rfl) rfl
theorem in_80 : Enters Tryd.prog 80 := enters_of Tryd.func80 (by kernel_rfl) rfl
theorem in_81 : Enters Tryd.prog 81 := enters_of Tryd.func81 (by kernel_rfl) rfl
theorem in_82 : Enters Tryd.prog 82 := enters_of Tryd.func82 (by kernel_rfl) rfl
theorem in_83 : Enters Tryd.prog 83 := enters_of Tryd.func83 (by kernel_rfl) rfl
theorem in_84 : Enters Tryd.prog 84 := enters_of Tryd.func84 (by kernel_rfl) rfl
theorem in_86 : Enters Tryd.prog 86 := enters_of Tryd.func86 (by kernel_rfl) rfl
theorem in_87 : Enters Tryd.prog 87 := enters_of Tryd.func87 (by kernel_rfl) rfl
end Go.Proofs.YtbemhgojfehnjaaDoor
namespace Go.Proofs.YtbemhgojfehnjaaDoor
open Go Go.RowKit
theorem key_ {W : World} {V : Value} {g : Gate} (hV : IntsV W W.heap.size V g.inp) (tab : Tab W) (sm : smallG g) :
    Calls Tryd.prog 86 #[.agg #[.int .i64 g.kind, .int .i64 g.lit, V]] W fun e w' => e = .returned (.string (keyV g)) ∧ Below W.heap.size W w' := by
  have sml := sm.2.2.2
  obtain ⟨A, c, rfl, _, _, _⟩ := id hV
  have O0 : Own Z0 W W [] := Own.start W
  refine sx_enter (args := [.agg #[.int .i64 g.kind, .int .i64 g.lit, .slice A g.inp.length c]]) Tryd.func86 rfl rfl (by simp) ?_
  refine cw_seq (fun FK1 K1 => ?_)
  refine cw_region ?_
  obtain ⟨g2, w3, r4, O5, hg6, hs7⟩ := own_box O0 38 (.agg #[.int .i64 g.kind, .int .i64 g.lit, .slice A g.inp.length c]) rfl
  have hbx := O5.blk 0 rfl
  have bW := O5.old
  have tab1 := tab.below (Nat.le_refl _) bW
  have O8 : Own Z0 w3 w3 [.row (.slice none 0 0) 5 1 0 (Lib.byteCells [])] := (Own.start w3).nilrow 5 1
  refine wl_val (v := .pointer (some ⟨g2, 0, none⟩)) (fun ρ e => r4 ρ _ _ _ _ _ _ (e _ _ rfl)) rfl rfl ?_
  refine wl_val (v := .string (⟨#[]⟩)) (fun ρ e => ex_assign (e _ _ rfl)) rfl rfl ?_
  refine wl_nil ?_
  refine xw_next K1 ?_
  refine cw_seq (fun FK9 K9 => ?_)
  refine cw_region ?_
  refine wl_val (v := .pointer (some ⟨g2, 0, none⟩)) (fun ρ e => ex_field (q := 0) fi38_0 (e _ _ rfl) rfl) rfl rfl ?_
  refine wl_val (v := .int .i64 g.kind) (fun ρ e => ex_load1 ty3 (e _ _ rfl) (hbx.oldcell O8.old 0 rfl)) rfl rfl ?_
  refine wl_call (args := [.slice none 0 0, .int .i64 g.kind, .int .i64 10]) in_87 rfl rfl rfl ?_
  refine (app10 O8 (rfl : 0 = ([] : List UInt8).length) (by omega) tab1 g.kind sm.1).mono ?_
  rintro _ w14 ⟨A12, c13, n10, l11, rfl, hl16, hn17, thn17, O15⟩
  refine ⟨_, rfl, ?_⟩
  refine wl_val (v := .slice A12 n10 c13) (fun ρ e => ex_assign (e _ _ rfl)) rfl rfl ?_
  refine wl_nil ?_
  refine xw_next K9 ?_
  refine cw_seq (fun FK18 K18 => ?_)
  refine cw_drawn (fun X => Own Z0 w3 X []) 6 [(0, 1), (3, 1), (4, 0), (1, 2), (2, 2), (5, 2), (6, 3)] (by kernel_rfl) (by kernel_rfl) (PQ.then_ PQ.body) ((O15.re [] rfl : Own Z0 w3 w14 [])).drew ?_
  have O19 : Own Z0 w3 w14.drew [.row (.slice A12 n10 c13) 5 1 n10 (Lib.byteCells l11)] := O15.drew
  refine wt1 (v := .slice A12 n10 c13) rfl (fun ρ e W => ex_move (e _ _ rfl)) rfl rfl ?_
  refine wt1 (v := .pointer (some ⟨g2, 1, none⟩)) rfl (fun ρ e W => ex_field (q := 1) fi38_1 (e _ _ rfl) rfl) rfl rfl ?_
  refine wt0 (v := .int .i64 g.lit) rfl (fun ρ e W hW => ex_load1 ty3 (e _ _ rfl) (hbx.oldcell hW.old 1 rfl)) rfl rfl ?_
  obtain ⟨g20, w21, r22, O23, hg24, hs25⟩ := own_slice O19 el92 ze5 1 [(0, .int .u8 32)] (cs := #[.int .u8 32]) (by decide) (by kernel_rfl)
  refine wt2 (v := .slice (some ⟨g20, 0, none⟩) 1 1) rfl (fun ρ e => r22 ρ _ _ _ _ _ _ (e.parts rfl)) rfl rfl (O23.re [] rfl : Own Z0 w3 w21 []) ?_
  obtain ⟨A26, c27, n28, l29, w30, r31, hl32, hn33, thn33, O34⟩ := own_app_byte (b := 32) (O23.re [1, 0] rfl : Own Z0 w3 w21 [.row (.slice A12 n10 c13) 5 1 n10 (Lib.byteCells l11), .blk g20 5 #[.int .u8 32]]) ((O23.re [1, 0] rfl : Own Z0 w3 w21 [.row (.slice A12 n10 c13) 5 1 n10 (Lib.byteCells l11), .blk g20 5 #[.int .u8 32]]).blk 1 rfl) hn17 (by omega)
  have O35 : Own Z0 w3 w30 [.row (.slice A26 n28 c27) 5 1 n28 (Lib.byteCells l29)] := (O34.re [0] rfl : Own Z0 w3 w30 [.row (.slice A26 n28 c27) 5 1 n28 (Lib.byteCells l29)])
  refine wt2 (v := .slice A26 n28 c27) rfl (fun ρ e => r31 ρ _ _ _ _ _ _ _ (e _ _ rfl) (e _ _ rfl)) rfl rfl (O35.re [] rfl : Own Z0 w3 w30 []) ?_
  refine wt2_call (args := [.slice A26 n28 c27, .int .i64 g.lit, .int .i64 10]) rfl in_87 rfl rfl rfl ?_
  refine (app10 O35 hn33 (by omega) tab1 g.lit sm.2.1).mono ?_
  rintro _ w40 ⟨A38, c39, n36, l37, rfl, hl42, hn43, thn43, O41⟩
  refine ⟨_, rfl, (O41.re [] rfl : Own Z0 w3 w40 []), ?_⟩
  refine wt3 (v := .slice A38 n36 c39) rfl (fun ρ e => ex_assign (e _ _ rfl)) rfl rfl ?_
  refine wt_nil ?_
  refine xw_next K18 ?_
  refine cw_seq (fun FK44 K44 => ?_)
  refine cw_seq (fun FK45 K45 => ?_)
  refine cw_region ?_
  refine wl_val (v := .pointer (some ⟨g2, 2, none⟩)) (fun ρ e => ex_field (q := 2) fi38_2 (e _ _ rfl) rfl) rfl rfl ?_
  refine wl_val (v := .slice A g.inp.length c) (fun ρ e => ex_load1 ty36 (e _ _ rfl) (hbx.oldcell O41.old 2 rfl)) rfl rfl ?_
  refine wl_val (v := .int .i64 ((g.inp.length : Nat) : Int)) (fun ρ e => ex_len el36 (e _ _ rfl)) rfl rfl ?_
  refine wl_val (v := .int .i64 0) (fun ρ e => ex_move (e _ _ rfl)) rfl rfl ?_
  refine wl_nil ?_
  refine xw_next K45 ?_
  refine cw_block ?_
  have hl0 : l37 = kl g 0 := by rw [kl_zero, hl42, hl32, hl16, List.nil_append]
  refine cw_loop (ι := Nat × Option Addr × Nat × Nat × List UInt8) (fun q => [(3, .slice q.2.1 q.2.2.2.1 q.2.2.1), (16, .slice A g.inp.length c), (17, .int .i64 ((g.inp.length : Nat) : Int)), (18, .int .i64 (q.1 : Int))]) (fun q X => q.1 ≤ g.inp.length ∧ q.2.2.2.1 = q.2.2.2.2.length ∧ q.2.2.2.2 = kl g q.1 ∧ Own Z0 w3 X [.row (.slice q.2.1 q.2.2.2.1 q.2.2.1) 5 1 q.2.2.2.1 (Lib.byteCells q.2.2.2.2)]) (fun q => g.inp.length - q.1) (0, A38, c39, n36, l37) ⟨Nat.zero_le _, hn43, hl0, O41⟩ ⟨rfl, rfl, rfl, rfl, trivial⟩ (fun q w46 hJ F47 K48 => ?_)
  obtain ⟨k, A2, c2, n, l⟩ := q
  obtain ⟨hkn, hn, hlk, O49⟩ := hJ
  dsimp only at hkn hn hlk O49 ⊢
  have hkl := kl_len sm k hkn
  rw [← hlk] at hkl
  by_cases hk : k < g.inp.length
  · obtain ⟨b, o, rfl, hb1, hck⟩ := hV.at_ bW hk
    refine cw_seq (fun FK50 K50 => ?_)
    refine cw_region ?_
    refine wl_val (v := .bool true) (fun ρ e => ex_cmp (u := (k : Int)) (v := ((g.inp.length : Nat) : Int)) (e _ _ rfl) (e _ _ rfl) (lss1 (by omega))) rfl rfl ?_
    refine wl_nil ?_
    refine xw_next K50 ?_
    refine cw_seq (fun FK51 K51 => ?_)
    refine cw_true rfl ?_
    refine cw_skip ?_
    refine xw_next K51 ?_
    refine cw_seq (fun FK52 K52 => ?_)
    refine cw_block ?_
    refine cw_seq (fun FK53 K53 => ?_)
    refine cw_region ?_
    refine wl_val (v := .pointer (some ⟨b, o + k, none⟩)) (fun ρ e => ex_idx (q := o + k) el36 (e _ _ rfl) (e _ _ rfl) (by omega) (by omega)) rfl rfl ?_
    refine wl_val (v := .int .i64 (g.inp[k])) (fun ρ e => ex_load1 ty3 (e _ _ rfl) ((O49.old.cell (p := ⟨b, o + k, none⟩) (Nat.lt_of_lt_of_le hb1 bW.size)).trans hck)) rfl rfl ?_
    refine wl_val (v := .int .i64 (g.inp[k])) (fun ρ e => ex_assign (e _ _ rfl)) rfl rfl ?_
    refine wl_nil ?_
    refine xw_next K53 ?_
    refine cw_region ?_
    refine wl_val (v := .slice A2 n c2) (fun ρ e => ex_move (e _ _ rfl)) rfl rfl ?_
    obtain ⟨g54, w55, r56, O57, hg58, hs59⟩ := own_slice O49 el92 ze5 1 [(0, .int .u8 32)] (cs := #[.int .u8 32]) (by decide) (by kernel_rfl)
    refine wl_val (v := .slice (some ⟨g54, 0, none⟩) 1 1) (fun ρ e => r56 ρ _ _ _ _ _ _ (e.parts rfl)) rfl rfl ?_
    obtain ⟨A60, c61, n62, l63, w64, r65, hl66, hn67, thn67, O68⟩ := own_app_byte (b := 32) (O57.re [1, 0] rfl : Own Z0 w3 w55 [.row (.slice A2 n c2) 5 1 n (Lib.byteCells l), .blk g54 5 #[.int .u8 32]]) ((O57.re [1, 0] rfl : Own Z0 w3 w55 [.row (.slice A2 n c2) 5 1 n (Lib.byteCells l), .blk g54 5 #[.int .u8 32]]).blk 1 rfl) hn (by omega)
    have O69 : Own Z0 w3 w64 [.row (.slice A60 n62 c61) 5 1 n62 (Lib.byteCells l63)] := (O68.re [0] rfl : Own Z0 w3 w64 [.row (.slice A60 n62 c61) 5 1 n62 (Lib.byteCells l63)])
    refine wl_val (v := .slice A60 n62 c61) (fun ρ e => r65 ρ _ _ _ _ _ _ _ (e _ _ rfl) (e _ _ rfl)) rfl rfl ?_
    refine wl_val (v := .int .i64 (g.inp[k])) (fun ρ e => ex_move (e _ _ rfl)) rfl rfl ?_
    refine wl_call (args := [.slice A60 n62 c61, .int .i64 (g.inp[k]), .int .i64 10]) in_87 rfl rfl rfl ?_
    refine (app10 O69 hn67 (by omega) tab1 (g.inp[k]) (sm.2.2.1 _ (List.getElem_mem hk))).mono ?_
    rintro _ w74 ⟨A72, c73, n70, l71, rfl, hl76, hn77, thn77, O75⟩
    refine ⟨_, rfl, ?_⟩
    refine wl_val (v := .slice A72 n70 c73) (fun ρ e => ex_assign (e _ _ rfl)) rfl rfl ?_
    refine wl_nil ?_
    refine xw_block ?_
    refine xw_next K52 ?_
    refine cw_region ?_
    refine wl_val (v := .int .i64 ((k + 1 : Nat) : Int)) (fun ρ e => ex_arith (k := .i64) (u := (k : Int)) (v := 1) (e _ _ rfl) (e _ _ rfl) (congrArg some ((congrArg _ (by omega)).trans (wrap_in (u := ((k + 1 : Nat) : Int)) (by omega) (by omega))))) rfl rfl ?_
    refine wl_val (v := .int .i64 ((k + 1 : Nat) : Int)) (fun ρ e => ex_move (e _ _ rfl)) rfl rfl ?_
    refine wl_nil ?_
    refine xw_round K48 (k + 1, A72, c73, n70, l71) (by show g.inp.length - (k + 1) < g.inp.length - k; omega) ⟨(by show k + 1 ≤ _; omega), hn77, (by show l71 = kl g (k + 1); rw [kl_succ g hk, hl76, hl66, hlk]), O75⟩ ⟨rfl, rfl, rfl, rfl, trivial⟩
  · have hke : k = g.inp.length := by omega
    have hlp : 0 < l.length := by rw [hlk]; exact kl_pos g k
    refine cw_seq (fun FK78 K78 => ?_)
    refine cw_region ?_
    refine wl_val (v := .bool false) (fun ρ e => ex_cmp (u := (k : Int)) (v := ((g.inp.length : Nat) : Int)) (e _ _ rfl) (e _ _ rfl) (lss0 (by omega))) rfl rfl ?_
    refine wl_nil ?_
    refine xw_next K78 ?_
    refine cw_seq (fun FK79 K79 => ?_)
    refine cw_false rfl ?_
    refine cw_exit ?_
    refine xw_past (by intro h; cases h) ?_
    refine xw_past (by intro h; cases h) ?_
    refine xw_here ?_
    refine xw_next K44 ?_
    refine cw_seq (fun FK80 K80 => ?_)
    refine cw_region ?_
    refine wl_val (v := .slice A2 n c2) (fun ρ e => ex_move (e _ _ rfl)) rfl rfl ?_
    refine wl_val (v := .string (⟨l.toArray⟩)) (fun ρ e => ex_text (base := 0) (e _ _ rfl) (own_bytes (O49.row 0 rfl) hn) hlp) rfl rfl ?_
    refine wl_val (v := .string (⟨l.toArray⟩)) (fun ρ e => ex_assign (e _ _ rfl)) rfl rfl ?_
    refine wl_nil ?_
    refine xw_next K80 ?_
    refine cw_ret ?_
    refine xw_ret (v := .string (⟨l.toArray⟩)) (fun T hT => res1 rfl T _ (hT 2 _ rfl)) ?_
    exact ⟨by rw [hlk, hke, kl_full]; rfl, bW.trans (O49.old.mono bW.size)⟩
end Go.Proofs.YtbemhgojfehnjaaDoor
namespace Go.Proofs.YtbemhgojfehnjaaDoor
open Go Go.RowKit
theorem is_ {Z : Bool → Nat → Prop} {w0 W : World} {rest : List En} {f m c : Nat} {R : Option Addr} {D : Nat → Prop} {L : List Gate} {vs : List Value} (O : Own Z w0 W (foldE f m R c D L vs ++ rest)) {i : Nat} (hi : i < L.length) (k : Int) :
    Calls Tryd.prog 82 #[.pointer (some ⟨f, 0, none⟩), .int .i64 (i : Int), .int .i64 k] W fun e w' => e = .returned (.bool (kindAt L (i : Int) == k)) ∧ Below W.heap.size W w' := by
  have hf := O.blk 0 rfl
  obtain ⟨r, v, rfl, hr, hv, hD, h0, h1, h2⟩ := fold_gate O hi
  have O0 : Own Z0 W W [] := Own.start W
  refine sx_enter (args := [.pointer (some ⟨f, 0, none⟩), .int .i64 (i : Int), .int .i64 k]) Tryd.func82 rfl rfl (by simp) ?_
  refine cw_seq (fun FK1 K1 => ?_)
  refine cw_region ?_
  refine wl_val (v := .bool false) (fun ρ e => ex_assign (e _ _ rfl)) rfl rfl ?_
  refine wl_nil ?_
  refine xw_next K1 ?_
  refine cw_seq (fun FK2 K2 => ?_)
  refine cw_region ?_
  refine wl_val (v := .pointer (some ⟨f, 0, none⟩)) (fun ρ e => ex_move (e _ _ rfl)) rfl rfl ?_
  refine wl_val (v := .pointer (some ⟨f, 0, none⟩)) (fun ρ e => ex_nil (e _ _ rfl)) rfl rfl ?_
  refine wl_val (v := .pointer (some ⟨f, 0, none⟩)) (fun ρ e => ex_field (q := 0) fi56_0 (e _ _ rfl) rfl) rfl rfl ?_
  refine wl_val (v := .slice (some ⟨r, 0, none⟩) L.length c) (fun ρ e => ex_load1 ty22 (e _ _ rfl) (hf.oldcell O0.old 0 rfl)) rfl rfl ?_
  refine wl_val (v := .int .i64 (i : Int)) (fun ρ e => ex_move (e _ _ rfl)) rfl rfl ?_
  refine wl_val (v := .pointer (some ⟨r, i * 3, none⟩)) (fun ρ e => ex_idx (q := i * 3) el22 (e _ _ rfl) (e _ _ rfl) (by omega) (by omega)) rfl rfl ?_
  refine wl_val (v := .pointer (some ⟨r, i * 3, none⟩)) (fun ρ e => ex_field (q := i * 3) fi38_0 (e _ _ rfl) rfl) rfl rfl ?_
  refine wl_val (v := .int .i64 (L[i].kind)) (fun ρ e => ex_load1 ty3 (e _ _ rfl) ((O0.old.cell (p := ⟨r, i * 3, none⟩) hr).trans h0)) rfl rfl ?_
  refine wl_val (v := .int .i64 k) (fun ρ e => ex_move (e _ _ rfl)) rfl rfl ?_
  refine wl_val (v := .bool (L[i].kind == k)) (fun ρ e => ex_cmp (u := L[i].kind) (v := k) (r := (L[i].kind == k)) (e _ _ rfl) (e _ _ rfl) rfl) rfl rfl ?_
  refine wl_val (v := .bool (L[i].kind == k)) (fun ρ e => ex_assign (e _ _ rfl)) rfl rfl ?_
  refine wl_nil ?_
  refine xw_next K2 ?_
  refine cw_ret ?_
  refine xw_ret (v := .bool (L[i].kind == k)) (fun T hT => res1 rfl T _ (hT 6 _ rfl)) ?_
  exact ⟨by simp [kindAt, gateAt, List.getElem?_eq_getElem hi], O0.old⟩
end Go.Proofs.YtbemhgojfehnjaaDoor
namespace Go.Proofs.YtbemhgojfehnjaaDoor
open Go Go.RowKit
theorem keys_put {g : Gate} {L : List Gate} (hx : gidx g L 0 = none) : aput (keyV g) (.int .i64 (L.length : Int)) (keysGo L 0) = keysGo (L ++ [g]) 0 := by
  have h1 := look_keys g L 0 0
  rw [hx] at h1
  have h2 : look (keyV g) (keysGo L 0) 0 = none := by
    cases h : look (keyV g) (keysGo L 0) 0 with
    | none => rfl
    | some p => rw [h] at h1; cases h1
  rw [aput_none _ _ _ 0 h2, keysGo_snoc, Nat.zero_add]
/-- What a method of the folder leaves. -/
def FPost (A : List En) (W : World) (f m : Nat) (q : List Gate × Int) (e : Ending) (w' : World) : Prop :=
  ∃ R c D vs, e = .returned (.int .i64 q.2) ∧ Own (zone A) W w' (foldE f m R c D q.1 vs)
section
variable {W w' : World} {f m c k : Nat} {R : Option Addr} {D D2 : Nat → Prop} {L : List Gate} {vs : List Value} {V : Value} {g : Gate} {A : List En}
theorem find_old (hx : gidx g L 0 = some k) (O : Own (zone A) W w' (foldE f m R c D L vs ++ [inE D2 V g.inp])) : FPost A W f m (findG L g) (.returned (.int .i64 (k : Int))) w' := by
  unfold findG
  rw [hx]
  exact ⟨R, c, D, vs, rfl, O.re [0, 1, 2, 3, 4] rfl⟩
theorem find_new (hx : gidx g L 0 = none) (O : Own (zone A) W w' [.blk f 56 #[.slice R (L.length + 1) c, .map (some m)], .map m (encL strE (keysGo (L ++ [g]) 0)), .row (.slice R (L.length + 1) c) 38 3 (L.length + 1) (gcells (L ++ [g]) (vs ++ [V])), insE D L vs, tabE, inE D2 V g.inp]) :
    FPost A W f m (findG L g) (.returned (.int .i64 (L.length : Int))) w' := by
  unfold findG
  rw [hx]
  refine ⟨R, c, fun k => D k ∨ D2 k, vs ++ [V], rfl, ?_⟩
  have O1 : Own (zone A) W w' ([insE D L vs, inE D2 V g.inp] ++ [.blk f 56 #[.slice R (L.length + 1) c, .map (some m)], .map m (encL strE (keysGo (L ++ [g]) 0)), .row (.slice R (L.length + 1) c) 38 3 (L.length + 1) (gcells (L ++ [g]) (vs ++ [V])), tabE]) := O.re [3, 5, 0, 1, 2, 4] rfl
  have i1 : Ins D L vs w' := O.ro 3 rfl
  have i2 : IntsD D2 w' V g.inp := O.ro 5 rfl
  have O2 := O1.step (A' := [insE (fun k => D k ∨ D2 k) (L ++ [g]) (vs ++ [V])]) (Frame.refl NoB w') (fun _ _ hn => hn.elim)
    (fun e he => by
      rw [List.mem_singleton.1 he]
      exact ⟨i1.snoc i2, fun k hk => hk.elim (fun q => (O.get 3 rfl).2.1 k q) (fun q => (O.get 5 rfl).2.1 k q), fun _ _ _ hk h => h.move hk⟩)
    (List.pairwise_singleton _ _)
    (fun e he k hk => by
      rw [List.mem_singleton.1 he] at hk ⊢
      refine .inl ?_
      rcases hk with q | q
      · exact ⟨insE D L vs, by simp, q, fun h => h.elim⟩
      · exact ⟨inE D2 V g.inp, by simp, q, fun h => h.elim⟩)
  have O3 := O2.re [1, 2, 3, 0, 4] rfl
  have e : (L ++ [g]).length = L.length + 1 := by simp
  unfold foldE
  rw [e]
  exact O3
theorem find_ (O0 : Own (zone (foldE f m R c D L vs ++ [inE D2 V g.inp])) W W (foldE f m R c D L vs ++ [inE D2 V g.inp])) (sm : smallG g) (hL : L.length ≤ 1000000) :
    Calls Tryd.prog 80 #[.pointer (some ⟨f, 0, none⟩), .agg #[.int .i64 g.kind, .int .i64 g.lit, V]] W (FPost (foldE f m R c D L vs ++ [inE D2 V g.inp]) W f m (findG L g)) := by
  have hins : Ins D L vs W := O0.ro 3 rfl
  have hV : IntsD D2 W V g.inp := O0.ro 5 rfl
  obtain ⟨AV, cV, rfl, _, _, _⟩ := id hV
  have hr0 := look_keys g L 0 0
  cases hx : gidx g L 0 with
  | some k =>
    rw [hx] at hr0
    obtain ⟨⟨k', v'⟩, hr, hv'⟩ : ∃ p, look (keyV g) (keysGo L 0) 0 = some p ∧ p.2 = .int .i64 (k : Int) := by
      cases h : look (keyV g) (keysGo L 0) 0 with
      | none => rw [h] at hr0; cases hr0
      | some p => rw [h] at hr0; exact ⟨p, rfl, Option.some.inj hr0⟩
    simp only at hv'
    subst hv'
    refine sx_enter (args := [.pointer (some ⟨f, 0, none⟩), .agg #[.int .i64 g.kind, .int .i64 g.lit, .slice AV g.inp.length cV]]) Tryd.func80 rfl rfl (by simp) ?_
    refine cw_seq (fun FK1 K1 => ?_)
    refine cw_region ?_
    obtain ⟨g2, w3, r4, O5, hg6, hs7⟩ := own_box O0 38 (.agg #[.int .i64 g.kind, .int .i64 g.lit, .slice AV g.inp.length cV]) rfl
    refine wl_val (v := .pointer (some ⟨g2, 0, none⟩)) (fun ρ e => r4 ρ _ _ _ _ _ _ (e _ _ rfl)) rfl rfl ?_
    refine wl_val (v := .int .i64 0) (fun ρ e => ex_assign (e _ _ rfl)) rfl rfl ?_
    refine wl_nil ?_
    refine xw_next K1 ?_
    refine cw_seq (fun FK8 K8 => ?_)
    refine cw_region ?_
    refine wl_val (v := .agg #[.int .i64 g.kind, .int .i64 g.lit, .slice AV g.inp.length cV]) (fun ρ e => ex_loadN (vs := [.int .i64 g.kind, .int .i64 g.lit, .slice AV g.inp.length cV]) ty38 (e _ _ rfl) rfl (O5.cells 0 0 rfl rfl)) rfl rfl ?_
    refine wl_call (args := [.agg #[.int .i64 g.kind, .int .i64 g.lit, .slice AV g.inp.length cV]]) in_86 rfl rfl rfl ?_
    refine (key_ (g := g) ((O5.ro 6 rfl : IntsD D2 _ _ g.inp).V (O5.get 6 rfl).2.1) (O5.ro 5 rfl) sm).mono ?_
    rintro _ w9 ⟨rfl, hb10⟩
    have O11 : Own (zone (foldE f m R c D L vs ++ [inE D2 (.slice AV g.inp.length cV) g.inp])) W w9 [.blk g2 38 #[.int .i64 g.kind, .int .i64 g.lit, .slice AV g.inp.length cV], .blk f 56 #[.slice R L.length c, .map (some m)], .map m (encL strE (keysGo L 0)), .row (.slice R L.length c) 38 3 L.length (gcells L vs), .ro D (Ins D L vs), .ro TabD Tab, .ro D2 (fun w => IntsD D2 w (.slice AV g.inp.length cV) g.inp)] := O5.below hb10
    refine ⟨_, rfl, ?_⟩
    refine wl_val (v := .string (keyV g)) (fun ρ e => ex_assign (e _ _ rfl)) rfl rfl ?_
    refine wl_nil ?_
    refine xw_next K8 ?_
    refine cw_seq (fun FK12 K12 => ?_)
    refine cw_seq (fun FK13 K13 => ?_)
    refine cw_region ?_
    refine wl_val (v := .pointer (some ⟨f, 0, none⟩)) (fun ρ e => ex_move (e _ _ rfl)) rfl rfl ?_
    refine wl_val (v := .pointer (some ⟨f, 0, none⟩)) (fun ρ e => ex_nil (e _ _ rfl)) rfl rfl ?_
    refine wl_val (v := .pointer (some ⟨f, 1, none⟩)) (fun ρ e => ex_field (q := 1) fi56_1 (e _ _ rfl) rfl) rfl rfl ?_
    refine wl_val (v := .map (some m)) (fun ρ e => ex_load1 ty54 (e _ _ rfl) (O11.cell 1 1 rfl rfl)) rfl rfl ?_
    refine wl_val (v := .string (keyV g)) (fun ρ e => ex_move (e _ _ rfl)) rfl rfl ?_
    refine wl_val (v := .tuple #[.int .i64 (k : Int), .bool true]) (fun ρ e => ex_look strKey Tryd.underlying54 Tryd.underlying9 ze3 (O11.map 2 rfl) (keyV g) hr true (e _ _ rfl) (e _ _ rfl) rfl) rfl rfl ?_
    refine wl_val (v := .tuple #[.int .i64 (k : Int), .bool true]) (fun ρ e => ex_move (e _ _ rfl)) rfl rfl ?_
    refine wl_val (v := .int .i64 (k : Int)) (fun ρ e => ex_extract (vs := #[.int .i64 (k : Int), .bool true]) (e _ _ rfl) rfl) rfl rfl ?_
    refine wl_val (v := .bool true) (fun ρ e => ex_extract (vs := #[.int .i64 (k : Int), .bool true]) (e _ _ rfl) rfl) rfl rfl ?_
    refine wl_val (v := .int .i64 (k : Int)) (fun ρ e => ex_assign (e _ _ rfl)) rfl rfl ?_
    refine wl_val (v := .bool true) (fun ρ e => ex_assign (e _ _ rfl)) rfl rfl ?_
    refine wl_nil ?_
    refine xw_next K13 ?_
    refine cw_seq (fun FK14 K14 => ?_)
    refine cw_region ?_
    refine wl_val (v := .bool true) (fun ρ e => ex_move (e _ _ rfl)) rfl rfl ?_
    refine wl_nil ?_
    refine xw_next K14 ?_
    refine cw_true rfl ?_
    refine cw_seq (fun FK15 K15 => ?_)
    refine cw_region ?_
    refine wl_val (v := .int .i64 (k : Int)) (fun ρ e => ex_move (e _ _ rfl)) rfl rfl ?_
    refine wl_val (v := .int .i64 (k : Int)) (fun ρ e => ex_assign (e _ _ rfl)) rfl rfl ?_
    refine wl_nil ?_
    refine xw_next K15 ?_
    refine cw_ret ?_
    refine xw_past (by intro h; cases h) ?_
    refine xw_ret (v := .int .i64 (k : Int)) (fun T hT => res1 rfl T _ (hT 4 _ rfl)) ?_
    exact find_old hx (O11.re [1, 2, 3, 4, 5, 6] rfl : Own (zone (foldE f m R c D L vs ++ [inE D2 (.slice AV g.inp.length cV) g.inp])) W w9 [.blk f 56 #[.slice R L.length c, .map (some m)], .map m (encL strE (keysGo L 0)), .row (.slice R L.length c) 38 3 L.length (gcells L vs), .ro D (Ins D L vs), .ro TabD Tab, .ro D2 (fun w => IntsD D2 w (.slice AV g.inp.length cV) g.inp)])
  | none =>
    rw [hx] at hr0
    have hr : look (keyV g) (keysGo L 0) 0 = none := by
      cases h : look (keyV g) (keysGo L 0) 0 with
      | none => rfl
      | some p => rw [h] at hr0; cases hr0
    refine sx_enter (args := [.pointer (some ⟨f, 0, none⟩), .agg #[.int .i64 g.kind, .int .i64 g.lit, .slice AV g.inp.length cV]]) Tryd.func80 rfl rfl (by simp) ?_
    refine cw_seq (fun FK1 K1 => ?_)
    refine cw_region ?_
    obtain ⟨g2, w3, r4, O5, hg6, hs7⟩ := own_box O0 38 (.agg #[.int .i64 g.kind, .int .i64 g.lit, .slice AV g.inp.length cV]) rfl
    refine wl_val (v := .pointer (some ⟨g2, 0, none⟩)) (fun ρ e => r4 ρ _ _ _ _ _ _ (e _ _ rfl)) rfl rfl ?_
    refine wl_val (v := .int .i64 0) (fun ρ e => ex_assign (e _ _ rfl)) rfl rfl ?_
    refine wl_nil ?_
    refine xw_next K1 ?_
    refine cw_seq (fun FK8 K8 => ?_)
    refine cw_region ?_
    refine wl_val (v := .agg #[.int .i64 g.kind, .int .i64 g.lit, .slice AV g.inp.length cV]) (fun ρ e => ex_loadN (vs := [.int .i64 g.kind, .int .i64 g.lit, .slice AV g.inp.length cV]) ty38 (e _ _ rfl) rfl (O5.cells 0 0 rfl rfl)) rfl rfl ?_
    refine wl_call (args := [.agg #[.int .i64 g.kind, .int .i64 g.lit, .slice AV g.inp.length cV]]) in_86 rfl rfl rfl ?_
    refine (key_ (g := g) ((O5.ro 6 rfl : IntsD D2 _ _ g.inp).V (O5.get 6 rfl).2.1) (O5.ro 5 rfl) sm).mono ?_
    rintro _ w9 ⟨rfl, hb10⟩
    have O11 : Own (zone (foldE f m R c D L vs ++ [inE D2 (.slice AV g.inp.length cV) g.inp])) W w9 [.blk g2 38 #[.int .i64 g.kind, .int .i64 g.lit, .slice AV g.inp.length cV], .blk f 56 #[.slice R L.length c, .map (some m)], .map m (encL strE (keysGo L 0)), .row (.slice R L.length c) 38 3 L.length (gcells L vs), .ro D (Ins D L vs), .ro TabD Tab, .ro D2 (fun w => IntsD D2 w (.slice AV g.inp.length cV) g.inp)] := O5.below hb10
    refine ⟨_, rfl, ?_⟩
    refine wl_val (v := .string (keyV g)) (fun ρ e => ex_assign (e _ _ rfl)) rfl rfl ?_
    refine wl_nil ?_
    refine xw_next K8 ?_
    refine cw_seq (fun FK12 K12 => ?_)
    refine cw_seq (fun FK13 K13 => ?_)
    refine cw_region ?_
    refine wl_val (v := .pointer (some ⟨f, 0, none⟩)) (fun ρ e => ex_move (e _ _ rfl)) rfl rfl ?_
    refine wl_val (v := .pointer (some ⟨f, 0, none⟩)) (fun ρ e => ex_nil (e _ _ rfl)) rfl rfl ?_
    refine wl_val (v := .pointer (some ⟨f, 1, none⟩)) (fun ρ e => ex_field (q := 1) fi56_1 (e _ _ rfl) rfl) rfl rfl ?_
    refine wl_val (v := .map (some m)) (fun ρ e => ex_load1 ty54 (e _ _ rfl) (O11.cell 1 1 rfl rfl)) rfl rfl ?_
    refine wl_val (v := .string (keyV g)) (fun ρ e => ex_move (e _ _ rfl)) rfl rfl ?_
    refine wl_val (v := .tuple #[.int .i64 0, .bool false]) (fun ρ e => ex_look strKey Tryd.underlying54 Tryd.underlying9 ze3 (O11.map 2 rfl) (keyV g) hr true (e _ _ rfl) (e _ _ rfl) rfl) rfl rfl ?_
    refine wl_val (v := .tuple #[.int .i64 0, .bool false]) (fun ρ e => ex_move (e _ _ rfl)) rfl rfl ?_
    refine wl_val (v := .int .i64 0) (fun ρ e => ex_extract (vs := #[.int .i64 0, .bool false]) (e _ _ rfl) rfl) rfl rfl ?_
    refine wl_val (v := .bool false) (fun ρ e => ex_extract (vs := #[.int .i64 0, .bool false]) (e _ _ rfl) rfl) rfl rfl ?_
    refine wl_val (v := .int .i64 0) (fun ρ e => ex_assign (e _ _ rfl)) rfl rfl ?_
    refine wl_val (v := .bool false) (fun ρ e => ex_assign (e _ _ rfl)) rfl rfl ?_
    refine wl_nil ?_
    refine xw_next K13 ?_
    refine cw_seq (fun FK14 K14 => ?_)
    refine cw_region ?_
    refine wl_val (v := .bool false) (fun ρ e => ex_move (e _ _ rfl)) rfl rfl ?_
    refine wl_nil ?_
    refine xw_next K14 ?_
    refine cw_false rfl ?_
    refine cw_skip ?_
    refine xw_next K12 ?_
    refine cw_seq (fun FK15 K15 => ?_)
    refine cw_drawn (fun X => Own (zone (foldE f m R c D L vs ++ [inE D2 (.slice AV g.inp.length cV) g.inp])) W X [.blk g2 38 #[.int .i64 g.kind, .int .i64 g.lit, .slice AV g.inp.length cV], .blk f 56 #[.slice R L.length c, .map (some m)], .ro D (Ins D L vs), .ro TabD Tab, .ro D2 (fun w => IntsD D2 w (.slice AV g.inp.length cV) g.inp)]) 10 [(0, 1), (1, 1), (2, 1), (3, 0), (4, 1), (5, 1), (6, 1), (7, 1), (8, 0), (9, 1), (10, 3)] (by kernel_rfl) (by kernel_rfl) (PQ.then_ PQ.body) ((O11.re [0, 1, 4, 5, 6] rfl : Own (zone (foldE f m R c D L vs ++ [inE D2 (.slice AV g.inp.length cV) g.inp])) W w9 [.blk g2 38 #[.int .i64 g.kind, .int .i64 g.lit, .slice AV g.inp.length cV], .blk f 56 #[.slice R L.length c, .map (some m)], .ro D (Ins D L vs), .ro TabD Tab, .ro D2 (fun w => IntsD D2 w (.slice AV g.inp.length cV) g.inp)])).drew ?_
    have O16 : Own (zone (foldE f m R c D L vs ++ [inE D2 (.slice AV g.inp.length cV) g.inp])) W w9.drew [.blk g2 38 #[.int .i64 g.kind, .int .i64 g.lit, .slice AV g.inp.length cV], .blk f 56 #[.slice R L.length c, .map (some m)], .map m (encL strE (keysGo L 0)), .row (.slice R L.length c) 38 3 L.length (gcells L vs), .ro D (Ins D L vs), .ro TabD Tab, .ro D2 (fun w => IntsD D2 w (.slice AV g.inp.length cV) g.inp)] := O11.drew
    refine wt1 (v := .pointer (some ⟨f, 0, none⟩)) rfl (fun ρ e W => ex_move (e _ _ rfl)) rfl rfl ?_
    refine wt1 (v := .pointer (some ⟨f, 0, none⟩)) rfl (fun ρ e W => ex_nil (e _ _ rfl)) rfl rfl ?_
    refine wt1 (v := .pointer (some ⟨f, 1, none⟩)) rfl (fun ρ e W => ex_field (q := 1) fi56_1 (e _ _ rfl) rfl) rfl rfl ?_
    refine wt0 (v := .map (some m)) rfl (fun ρ e W hW => ex_load1 ty54 (e _ _ rfl) (hW.cell 1 1 rfl rfl)) rfl rfl ?_
    refine wt1 (v := .string (keyV g)) rfl (fun ρ e W => ex_move (e _ _ rfl)) rfl rfl ?_
    refine wt1 (v := .pointer (some ⟨f, 0, none⟩)) rfl (fun ρ e W => ex_move (e _ _ rfl)) rfl rfl ?_
    refine wt1 (v := .pointer (some ⟨f, 0, none⟩)) rfl (fun ρ e W => ex_nil (e _ _ rfl)) rfl rfl ?_
    refine wt1 (v := .pointer (some ⟨f, 0, none⟩)) rfl (fun ρ e W => ex_field (q := 0) fi56_0 (e _ _ rfl) rfl) rfl rfl ?_
    refine wt0 (v := .slice R L.length c) rfl (fun ρ e W hW => ex_load1 ty22 (e _ _ rfl) (hW.cell 1 0 rfl rfl)) rfl rfl ?_
    refine wt1 (v := .int .i64 ((L.length : Nat) : Int)) rfl (fun ρ e W => ex_len el22 (e _ _ rfl)) rfl rfl ?_
    obtain ⟨w17, r18, O19, hs20⟩ := own_mapput (O16.re [2, 0, 1, 3, 4, 5, 6] rfl : Own (zone (foldE f m R c D L vs ++ [inE D2 (.slice AV g.inp.length cV) g.inp])) W w9.drew [.map m (encL strE (keysGo L 0)), .blk g2 38 #[.int .i64 g.kind, .int .i64 g.lit, .slice AV g.inp.length cV], .blk f 56 #[.slice R L.length c, .map (some m)], .row (.slice R L.length c) 38 3 L.length (gcells L vs), .ro D (Ins D L vs), .ro TabD Tab, .ro D2 (fun w => IntsD D2 w (.slice AV g.inp.length cV) g.inp)]) strKey Tryd.underlying54 Tryd.underlying9 (keyV g) (.int .i64 (L.length : Int))
    rw [keys_put hx] at O19
    refine wt3_none rfl (fun ρ e => r18 ρ _ _ _ _ _ _ _ (e _ _ rfl) (e _ _ rfl) (e _ _ rfl)) rfl ?_
    refine wt_nil ?_
    refine xw_next K15 ?_
    refine cw_seq (fun FK21 K21 => ?_)
    refine cw_drawn (fun X => Own (zone (foldE f m R c D L vs ++ [inE D2 (.slice AV g.inp.length cV) g.inp])) W X [.blk g2 38 #[.int .i64 g.kind, .int .i64 g.lit, .slice AV g.inp.length cV], .blk f 56 #[.slice R L.length c, .map (some m)], .ro D (Ins D L vs), .ro TabD Tab, .ro D2 (fun w => IntsD D2 w (.slice AV g.inp.length cV) g.inp)]) 10 [(0, 1), (1, 1), (2, 1), (3, 1), (4, 0), (5, 0), (6, 2), (7, 2), (8, 1), (9, 1), (10, 3)] (by kernel_rfl) (by kernel_rfl) (PQ.then_ PQ.body) ((O19.re [1, 2, 4, 5, 6] rfl : Own (zone (foldE f m R c D L vs ++ [inE D2 (.slice AV g.inp.length cV) g.inp])) W w17 [.blk g2 38 #[.int .i64 g.kind, .int .i64 g.lit, .slice AV g.inp.length cV], .blk f 56 #[.slice R L.length c, .map (some m)], .ro D (Ins D L vs), .ro TabD Tab, .ro D2 (fun w => IntsD D2 w (.slice AV g.inp.length cV) g.inp)])).drew ?_
    have O22 : Own (zone (foldE f m R c D L vs ++ [inE D2 (.slice AV g.inp.length cV) g.inp])) W w17.drew [.map m (encL strE (keysGo (L ++ [g]) 0)), .blk g2 38 #[.int .i64 g.kind, .int .i64 g.lit, .slice AV g.inp.length cV], .blk f 56 #[.slice R L.length c, .map (some m)], .row (.slice R L.length c) 38 3 L.length (gcells L vs), .ro D (Ins D L vs), .ro TabD Tab, .ro D2 (fun w => IntsD D2 w (.slice AV g.inp.length cV) g.inp)] := O19.drew
    refine wt1 (v := .pointer (some ⟨f, 0, none⟩)) rfl (fun ρ e W => ex_move (e _ _ rfl)) rfl rfl ?_
    refine wt1 (v := .pointer (some ⟨f, 0, none⟩)) rfl (fun ρ e W => ex_move (e _ _ rfl)) rfl rfl ?_
    refine wt1 (v := .pointer (some ⟨f, 0, none⟩)) rfl (fun ρ e W => ex_nil (e _ _ rfl)) rfl rfl ?_
    refine wt1 (v := .pointer (some ⟨f, 0, none⟩)) rfl (fun ρ e W => ex_field (q := 0) fi56_0 (e _ _ rfl) rfl) rfl rfl ?_
    refine wt0 (v := .slice R L.length c) rfl (fun ρ e W hW => ex_load1 ty22 (e _ _ rfl) (hW.cell 1 0 rfl rfl)) rfl rfl ?_
    refine wt0 (v := .agg #[.int .i64 g.kind, .int .i64 g.lit, .slice AV g.inp.length cV]) rfl (fun ρ e W hW => ex_loadN (vs := [.int .i64 g.kind, .int .i64 g.lit, .slice AV g.inp.length cV]) ty38 (e _ _ rfl) rfl (hW.cells 0 0 rfl rfl)) rfl rfl ?_
    obtain ⟨g23, w24, r25, O26, hg27, hs28⟩ := own_slice O22 el22 ze38 1 [(0, .agg #[.int .i64 g.kind, .int .i64 g.lit, .slice AV g.inp.length cV])] (cs := #[.int .i64 g.kind, .int .i64 g.lit, .slice AV g.inp.length cV]) (by decide) (by kernel_rfl)
    refine wt2 (v := .slice (some ⟨g23, 0, none⟩) 1 1) rfl (fun ρ e => r25 ρ _ _ _ _ _ _ (e.parts rfl)) rfl rfl (O26.re [2, 3, 5, 6, 7] rfl : Own (zone (foldE f m R c D L vs ++ [inE D2 (.slice AV g.inp.length cV) g.inp])) W w24 [.blk g2 38 #[.int .i64 g.kind, .int .i64 g.lit, .slice AV g.inp.length cV], .blk f 56 #[.slice R L.length c, .map (some m)], .ro D (Ins D L vs), .ro TabD Tab, .ro D2 (fun w => IntsD D2 w (.slice AV g.inp.length cV) g.inp)]) ?_
    obtain ⟨A29, c30, w31, r32, O33, hz34, hc35⟩ := own_app1 (O26.re [4, 0, 1, 2, 3, 5, 6, 7] rfl : Own (zone (foldE f m R c D L vs ++ [inE D2 (.slice AV g.inp.length cV) g.inp])) W w24 [.row (.slice R L.length c) 38 3 L.length (gcells L vs), .blk g23 38 #[.int .i64 g.kind, .int .i64 g.lit, .slice AV g.inp.length cV], .map m (encL strE (keysGo (L ++ [g]) 0)), .blk g2 38 #[.int .i64 g.kind, .int .i64 g.lit, .slice AV g.inp.length cV], .blk f 56 #[.slice R L.length c, .map (some m)], .ro D (Ins D L vs), .ro TabD Tab, .ro D2 (fun w => IntsD D2 w (.slice AV g.inp.length cV) g.inp)]) ap22 ((O26.re [4, 0, 1, 2, 3, 5, 6, 7] rfl : Own (zone (foldE f m R c D L vs ++ [inE D2 (.slice AV g.inp.length cV) g.inp])) W w24 [.row (.slice R L.length c) 38 3 L.length (gcells L vs), .blk g23 38 #[.int .i64 g.kind, .int .i64 g.lit, .slice AV g.inp.length cV], .map m (encL strE (keysGo (L ++ [g]) 0)), .blk g2 38 #[.int .i64 g.kind, .int .i64 g.lit, .slice AV g.inp.length cV], .blk f 56 #[.slice R L.length c, .map (some m)], .ro D (Ins D L vs), .ro TabD Tab, .ro D2 (fun w => IntsD D2 w (.slice AV g.inp.length cV) g.inp)]).blk 1 rfl) (cells := [.int .i64 g.kind, .int .i64 g.lit, .slice AV g.inp.length cV]) rfl rfl (by omega) (by omega) (ys := (gcells (L ++ [g]) (vs ++ [Value.slice AV g.inp.length cV]))) (gcells_snoc g (Value.slice AV g.inp.length cV) L vs hins.1).symm
    refine wt2 (v := .slice A29 (L.length + 1) c30) rfl (fun ρ e => r32 ρ _ _ _ _ _ _ _ (e _ _ rfl) (e _ _ rfl)) rfl rfl (O33.re [3, 4, 5, 6, 7] rfl : Own (zone (foldE f m R c D L vs ++ [inE D2 (.slice AV g.inp.length cV) g.inp])) W w31 [.blk g2 38 #[.int .i64 g.kind, .int .i64 g.lit, .slice AV g.inp.length cV], .blk f 56 #[.slice R L.length c, .map (some m)], .ro D (Ins D L vs), .ro TabD Tab, .ro D2 (fun w => IntsD D2 w (.slice AV g.inp.length cV) g.inp)]) ?_
    refine wt1 (v := .pointer (some ⟨f, 0, none⟩)) rfl (fun ρ e W => ex_nil (e _ _ rfl)) rfl rfl ?_
    refine wt1 (v := .pointer (some ⟨f, 0, none⟩)) rfl (fun ρ e W => ex_field (q := 0) fi56_0 (e _ _ rfl) rfl) rfl rfl ?_
    obtain ⟨w36, r37, O38, hs39⟩ := own_put (o := 0) (n := 1) (O33.re [4, 0, 1, 2, 3, 5, 6, 7] rfl : Own (zone (foldE f m R c D L vs ++ [inE D2 (.slice AV g.inp.length cV) g.inp])) W w31 [.blk f 56 #[.slice R L.length c, .map (some m)], .row (.slice A29 (L.length + 1) c30) 38 3 (L.length + 1) (gcells (L ++ [g]) (vs ++ [Value.slice AV g.inp.length cV])), .blk g23 38 #[.int .i64 g.kind, .int .i64 g.lit, .slice AV g.inp.length cV], .map m (encL strE (keysGo (L ++ [g]) 0)), .blk g2 38 #[.int .i64 g.kind, .int .i64 g.lit, .slice AV g.inp.length cV], .ro D (Ins D L vs), .ro TabD Tab, .ro D2 (fun w => IntsD D2 w (.slice AV g.inp.length cV) g.inp)]) ty22 (.slice A29 (L.length + 1) c30) [.slice A29 (L.length + 1) c30] (cs' := #[.slice A29 (L.length + 1) c30, .map (some m)]) rfl rfl rfl (Nat.le_of_ble_eq_true rfl) rfl
    refine wt3_none rfl (fun ρ e => r37 ρ _ _ _ _ _ _ (e _ _ rfl) (e _ _ rfl)) rfl ?_
    refine wt_nil ?_
    refine xw_next K21 ?_
    refine cw_seq (fun FK40 K40 => ?_)
    refine cw_region ?_
    refine wl_val (v := .pointer (some ⟨f, 0, none⟩)) (fun ρ e => ex_move (e _ _ rfl)) rfl rfl ?_
    refine wl_val (v := .pointer (some ⟨f, 0, none⟩)) (fun ρ e => ex_nil (e _ _ rfl)) rfl rfl ?_
    refine wl_val (v := .pointer (some ⟨f, 0, none⟩)) (fun ρ e => ex_field (q := 0) fi56_0 (e _ _ rfl) rfl) rfl rfl ?_
    refine wl_val (v := .slice A29 (L.length + 1) c30) (fun ρ e => ex_load1 ty22 (e _ _ rfl) (O38.cell 0 0 rfl rfl)) rfl rfl ?_
    refine wl_val (v := .int .i64 ((L.length + 1 : Nat) : Int)) (fun ρ e => ex_len el22 (e _ _ rfl)) rfl rfl ?_
    refine wl_val (v := .int .i64 (L.length : Int)) (fun ρ e => ex_arith (k := .i64) (u := ((L.length + 1 : Nat) : Int)) (v := 1) (e _ _ rfl) (e _ _ rfl) (congrArg some ((congrArg _ (by omega)).trans (wrap_in (u := (L.length : Int)) (by omega) (by omega))))) rfl rfl ?_
    refine wl_val (v := .int .i64 (L.length : Int)) (fun ρ e => ex_assign (e _ _ rfl)) rfl rfl ?_
    refine wl_nil ?_
    refine xw_next K40 ?_
    refine cw_ret ?_
    refine xw_ret (v := .int .i64 (L.length : Int)) (fun T hT => res1 rfl T _ (hT 4 _ rfl)) ?_
    exact find_new hx (O38.re [0, 3, 1, 5, 6, 7] rfl : Own (zone (foldE f m R c D L vs ++ [inE D2 (.slice AV g.inp.length cV) g.inp])) W w36 [.blk f 56 #[.slice A29 (L.length + 1) c30, .map (some m)], .map m (encL strE (keysGo (L ++ [g]) 0)), .row (.slice A29 (L.length + 1) c30) 38 3 (L.length + 1) (gcells (L ++ [g]) (vs ++ [Value.slice AV g.inp.length cV])), .ro D (Ins D L vs), .ro TabD Tab, .ro D2 (fun w => IntsD D2 w (.slice AV g.inp.length cV) g.inp)])
end
end Go.Proofs.YtbemhgojfehnjaaDoor
namespace Go.Proofs.YtbemhgojfehnjaaDoor
open Go Go.RowKit
theorem IntsD.cell {D : Nat → Prop} {w : World} {b o n c : Nat} {xs : List Int} (h : IntsD D w (.slice (some ⟨b, o, none⟩) n c) xs) {k : Nat} (hk : k < xs.length) : w.cell? ⟨b, o + k, none⟩ = some (.int .i64 xs[k]) := by
  obtain ⟨A, c', hv, _, _, h4⟩ := h
  obtain ⟨b', o', _, hA, hc⟩ := h4 (by omega)
  injection hv with h1 _ _
  rw [hA] at h1
  injection h1 with h1
  injection h1 with h1 h2 _
  subst h1 h2
  exact hc k _ (List.getElem?_eq_getElem hk)
theorem IntsD.form {D : Nat → Prop} {w : World} {v : Value} {xs : List Int} (h : IntsD D w v xs) (hp : 0 < xs.length) : ∃ b o c, v = .slice (some ⟨b, o, none⟩) xs.length c := by
  obtain ⟨A, c', hv, _, _, h4⟩ := h
  obtain ⟨b', o', _, hA, hc⟩ := h4 hp
  exact ⟨b', o', c', by rw [hv, hA]⟩
theorem IntsD.slice {D : Nat → Prop} {w : World} {v : Value} {xs : List Int} (h : IntsD D w v xs) : ∃ A c, v = .slice A xs.length c := by
  obtain ⟨A, c', hv, _⟩ := h
  exact ⟨A, c', hv⟩
def intCs (l : List Int) : List Value := l.map fun x => .int .i64 x
section
variable {Z : Bool → Nat → Prop} {w0 W w' : World} {LL rest : List En} {f m c k : Nat} {R : Option Addr} {D D2 : Nat → Prop} {L : List Gate} {vs : List Value} {V : Value} {g : Gate} {A : List En}
theorem Own.nilin (h : Own Z w0 W LL) : Own Z w0 W (inE (fun _ => False) (.slice none 0 0) [] :: LL) :=
  h.add (Below.refl _ _) (e := inE (fun _ => False) (.slice none 0 0) []) (inE_holds (IntsD.nil _ _) (fun _ hk => hk.elim)) (fun _ hk => hk.elim)
theorem Own.blkin {b n : Nat} {T : TypeId} {cs : Array Value} {l : List Int} (h : Own Z w0 W (.blk b T cs :: LL)) (hc : cs = (intCs l).toArray) (hn : n = l.length) (hm : n ≤ 1000000) : Own Z w0 W (inE (fun k => k = b) (.slice (some ⟨b, 0, none⟩) n n) l :: LL) := by
  subst hc
  exact h.as (e' := inE (fun k => k = b) (.slice (some ⟨b, 0, none⟩) n n) l) (inE_holds (IntsD.of_blk (h.blk 0 rfl) hn (by unfold maxLen; omega)) (fun k hk => by subst hk; exact (h.blk 0 rfl).lt)) (fun _ hk => hk) (fun ho => ho.elim)
theorem Own.rowin {v : Value} {n : Nat} {T : TypeId} {l : List Int} (h : Own Z w0 W (.row v T 1 n (intCs l) :: LL)) : Own Z w0 W (inE (fun k => v.ownBlock = some k) v l :: LL) :=
  h.as (e' := inE (fun k => v.ownBlock = some k) v l) (inE_holds (IntsD.of_row (h.row 0 rfl)) (fun k hk => (World.ownsRow.lt (h.row 0 rfl) k hk).2)) (fun _ hk => hk) (fun ho => ho.elim)
theorem FPost.eq {q q' : List Gate × Int} {e : Ending} (h : FPost A W f m q' e w') (hq : q = q') : FPost A W f m q e w' := hq ▸ h
theorem FPost.use {F : FuncId} {args : Array Value} {q : List Gate × Int} (O : Own Z w0 W (A ++ rest)) (h : Calls Tryd.prog F args W (FPost A W f m q)) :
    Calls Tryd.prog F args W fun e w' => ∃ R' c' D' vs', e = .returned (.int .i64 q.2) ∧ Own Z w0 w' (foldE f m R' c' D' q.1 vs' ++ rest) :=
  h.mono (fun _ _ ⟨R', c', D', vs', he, h'⟩ => ⟨R', c', D', vs', he, O.frame h'⟩)
theorem call_find (O : Own Z w0 W (foldE f m R c D L vs ++ (inE D2 V g.inp :: rest))) (sm : smallG g) (hL : L.length ≤ 1000000) :
    Calls Tryd.prog 80 #[.pointer (some ⟨f, 0, none⟩), .agg #[.int .i64 g.kind, .int .i64 g.lit, V]] W fun e w' => ∃ R' c' D' vs', e = .returned (.int .i64 (findG L g).2) ∧ Own Z w0 w' (foldE f m R' c' D' (findG L g).1 vs' ++ rest) := by
  have O' : Own Z w0 W ((foldE f m R c D L vs ++ [inE D2 V g.inp]) ++ rest) := by
    rw [List.append_assoc]; exact O
  exact FPost.use O' (find_ O'.hand sm hL)
theorem is1 (O : Own Z w0 W (foldE f m R c D L vs ++ rest)) {i k' : Int} (hi : 0 ≤ i ∧ i < L.length) (h : kindAt L i = k') : Calls Tryd.prog 82 #[.pointer (some ⟨f, 0, none⟩), .int .i64 i, .int .i64 k'] W fun e w' => e = .returned (.bool true) ∧ Below W.heap.size W w' := by
  obtain ⟨n, rfl⟩ : ∃ n : Nat, i = n := ⟨i.toNat, by omega⟩
  have := is_ O (i := n) (by omega) k'
  rw [h] at this
  simpa using this
theorem is0 (O : Own Z w0 W (foldE f m R c D L vs ++ rest)) {i k' : Int} (hi : 0 ≤ i ∧ i < L.length) (h : kindAt L i ≠ k') : Calls Tryd.prog 82 #[.pointer (some ⟨f, 0, none⟩), .int .i64 i, .int .i64 k'] W fun e w' => e = .returned (.bool false) ∧ Below W.heap.size W w' := by
  obtain ⟨n, rfl⟩ : ∃ n : Nat, i = n := ⟨i.toNat, by omega⟩
  have := is_ O (i := n) (by omega) k'
  rw [show (kindAt L (n : Int) == k') = false by simp [h]] at this
  exact this
end
/-- What holds of the folder's gates. -/
def okGs (L : List Gate) : Prop := ∀ g ∈ L, smallG g ∧ (g.kind = 3 → 0 < g.inp.length)
theorem notG_eq {L : List Gate} {i : Nat} (hi : i < L.length) : notG L (i : Int) = if L[i].kind = 0 then findG L ⟨1, 0, []⟩ else if L[i].kind = 1 then findG L ⟨0, 0, []⟩ else if L[i].kind = 2 then findG L ⟨2, -L[i].lit, []⟩
    else if L[i].kind = 3 then (L, L[i].inp.getD 0 0) else findG L ⟨3, 0, [(i : Int)]⟩ := by
  simp [notG, gateAt, List.getElem?_eq_getElem hi]
theorem smallI_lit (k : Int) (h : (decide (-1000000 ≤ k) && decide (k ≤ 1000000)) = true) : smallI k := by simp at h; exact h
theorem small_c {k l : Int} (hk : smallI k) (hl : smallI l) : smallG ⟨k, l, []⟩ := ⟨hk, hl, by simp, by simp⟩
theorem small_n {k : Int} {l : List Int} (hk : smallI k) (hl : ∀ x ∈ l, smallI x) (hn : l.length ≤ 1000000) : smallG ⟨k, 0, l⟩ := ⟨hk, smallI_lit 0 rfl, hl, hn⟩
end Go.Proofs.YtbemhgojfehnjaaDoor
namespace Go.Proofs.YtbemhgojfehnjaaDoor
open Go
def wfL (N : Int) (B : Nat) (L : List Gate) : Prop := ∀ (i : Nat) (g : Gate), L[i]? = some g → goodGate N (i : Int) g = true ∧ g.inp.length ≤ B
def inR (L : List Gate) (i : Int) : Prop := 0 ≤ i ∧ i < (L.length : Int)
structure StepOk (N : Int) (B : Nat) (L : List Gate) (q : List Gate × Int) : Prop where
  wf : wfL N B q.1
  at_ : inR q.1 q.2
  ext : q.1 = L ∨ ∃ g, q.1 = L ++ [g]
section
variable {N : Int} {B : Nat} {L : List Gate}
theorem StepOk.le {q : List Gate × Int} (h : StepOk N B L q) : L.length ≤ q.1.length ∧ q.1.length ≤ L.length + 1 := by
  rcases h.ext with e | ⟨g, e⟩ <;> rw [e] <;> simp
theorem allowed_kind {k n : Int} (h : allowedB k n = true) : 0 ≤ k ∧ k ≤ 8 := by
  unfold allowedB at h
  split at h
  · omega
  · split at h
    · omega
    · split at h
      · omega
      · split at h
        · omega
        · simp at h; omega
theorem allowed3 {n : Int} (h : allowedB 3 n = true) : n = 1 := by simpa [allowedB] using h
theorem allowed7 {n : Int} (h : allowedB 7 n = true) : n = 2 := by simpa [allowedB] using h
theorem allowed8 {n : Int} (h : allowedB 8 n = true) : n = 3 := by simpa [allowedB] using h
theorem good_parts {i : Int} {g : Gate} (h : goodGate N i g = true) : allowedB g.kind g.inp.length = true ∧ litGood N g = true ∧ ∀ x ∈ g.inp, 0 ≤ x ∧ x < i := by
  unfold goodGate at h
  simp only [Bool.and_eq_true, List.all_eq_true] at h
  exact ⟨h.1.1, h.1.2, fun x hx => by have := h.2 x hx; simpa [inOk] using this⟩
theorem good_of {i : Int} {g : Gate} (h1 : allowedB g.kind g.inp.length = true) (h2 : litGood N g = true) (h3 : ∀ x ∈ g.inp, 0 ≤ x ∧ x < i) : goodGate N i g = true := by
  unfold goodGate
  simp only [Bool.and_eq_true, List.all_eq_true]
  exact ⟨⟨h1, h2⟩, fun x hx => by simpa [inOk] using h3 x hx⟩
theorem lit_small {g : Gate} (h : litGood N g = true) : smallI g.lit := by
  unfold litGood at h
  split at h
  · unfold litOk litVar at h
    simp only [decide_eq_true_eq] at h
    unfold smallI
    split at h
    · omega
    · split at h <;> omega
  · simp only [decide_eq_true_eq] at h
    rw [h]; exact smallI_lit 0 rfl
theorem wf_ok (h : wfL N B L) (hL : L.length ≤ 1000000) (hB : B ≤ 1000000) : okGs L := by
  intro g hg
  obtain ⟨i, hi⟩ := List.mem_iff_getElem?.1 hg
  obtain ⟨h1, h2⟩ := h i g hi
  obtain ⟨p1, p2, p3⟩ := good_parts h1
  have hlt := (List.getElem?_eq_some_iff.1 hi).1
  have hk := allowed_kind p1
  refine ⟨⟨by unfold smallI; omega, lit_small p2, fun x hx => ?_, by omega⟩, fun h3 => ?_⟩
  · have := p3 x hx
    unfold smallI; omega
  · rw [h3] at p1
    have := allowed3 p1
    omega
theorem findG_ok (hw : wfL N B L) {g : Gate} (hg : goodGate N (L.length : Int) g = true) (hb : g.inp.length ≤ B) : StepOk N B L (findG L g) := by
  unfold findG
  cases hx : gidx g L 0 with
  | some k =>
    obtain ⟨_, h2, _⟩ := gidx_lt hx
    exact ⟨hw, ⟨by simp, by simp; omega⟩, .inl rfl⟩
  | none =>
    refine ⟨fun i g' hi => ?_, ⟨by simp, by simp; omega⟩, .inr ⟨g, rfl⟩⟩
    simp only at hi
    by_cases h : i < L.length
    · rw [List.getElem?_append_left h] at hi
      exact hw i g' hi
    · rw [List.getElem?_append_right (by omega)] at hi
      have e : i - L.length = 0 := by
        rcases Nat.eq_zero_or_pos (i - L.length) with q | q
        · exact q
        · rw [List.getElem?_eq_none (by simp; omega)] at hi; cases hi
      rw [e] at hi
      simp at hi
      subst hi
      have : i = L.length := by omega
      subst this
      exact ⟨hg, hb⟩
theorem keep_ok (hw : wfL N B L) {i : Int} (hi : inR L i) : StepOk N B L (L, i) := ⟨hw, hi, .inl rfl⟩
theorem find_c (hw : wfL N B L) {k : Int} (hk : k = 0 ∨ k = 1) : StepOk N B L (findG L ⟨k, 0, []⟩) :=
  findG_ok hw (good_of (by rcases hk with h | h <;> subst h <;> rfl) (by rcases hk with h | h <;> subst h <;> rfl) (by simp)) (Nat.zero_le _)
theorem find_n (hw : wfL N B L) {k : Int} {l : List Int} (ha : allowedB k l.length = true) (hk : k ≠ 2) (hl : ∀ x ∈ l, inR L x) (hb : l.length ≤ B) : StepOk N B L (findG L ⟨k, 0, l⟩) :=
  findG_ok hw (good_of ha (by unfold litGood; rw [if_neg hk]; rfl) hl) hb
theorem gateAt_get {i : Int} (hi : inR L i) : ∃ k : Nat, i = k ∧ ∃ h : k < L.length, gateAt L i = L[k] ∧ L[k]? = some L[k] := by
  obtain ⟨h1, h2⟩ := hi
  refine ⟨i.toNat, by omega, by omega, ?_, List.getElem?_eq_getElem _⟩
  simp [gateAt, List.getElem?_eq_getElem (show i.toNat < L.length by omega)]
theorem notG_ok (hw : wfL N B L) (hB : 1 ≤ B) {i : Int} (hi : inR L i) : StepOk N B L (notG L i) := by
  obtain ⟨k, rfl, hk, h1, h2⟩ := gateAt_get hi
  rw [notG_eq hk]
  obtain ⟨hg, _⟩ := hw k _ h2
  obtain ⟨p1, p2, p3⟩ := good_parts hg
  split
  · exact find_c hw (.inr rfl)
  · split
    · exact find_c hw (.inl rfl)
    · split
      · rename_i h
        refine findG_ok hw (good_of rfl ?_ (by simp)) (Nat.zero_le _)
        unfold litGood at p2 ⊢
        rw [if_pos h] at p2
        rw [if_pos rfl]
        unfold litOk litVar at p2 ⊢
        simp only [decide_eq_true_eq] at p2 ⊢
        split at p2
        · split <;> (try split) <;> omega
        · split at p2
          · split <;> (try split) <;> omega
          · omega
      · split
        · rename_i h
          rw [h] at p1
          have := allowed3 p1
          refine keep_ok hw ?_
          match hi' : L[k].inp, this with
          | [x], _ =>
            have := p3 x (by rw [hi']; simp)
            simp only [List.getD_cons_zero]
            exact ⟨this.1, by omega⟩
        · exact find_n hw rfl (by decide) (by simpa using hi) hB
def manyP (P : Int → Prop) (n : Nat) : Int ⊕ List Int → Prop
  | .inl i => P i
  | .inr l => (∀ x ∈ l, P x) ∧ l.length ≤ n
theorem manyGo_ok (nt dc : Int) {P : Int → Prop} : ∀ (r left : List Int) (n : Nat), left.length + r.length ≤ n → (∀ x ∈ r, P x) → (∀ x ∈ left, P x) → manyP P n (manyGo L nt dc r left)
  | [], left, _, hn, _, h2 => ⟨h2, by simpa using hn⟩
  | i :: r, left, n, hn, h1, h2 => by
    simp only [List.length_cons] at hn
    unfold manyGo
    split
    · exact h1 i (by simp)
    · split
      · exact manyGo_ok nt dc r (left ++ [i]) n (by simp; omega) (fun x hx => h1 x (by simp [hx])) (fun x hx => (List.mem_append.1 hx).elim (h2 x) (fun h => by rw [List.mem_singleton.1 h]; exact h1 i (by simp)))
      · exact manyGo_ok nt dc r left n (by omega) (fun x hx => h1 x (by simp [hx])) h2
theorem manyG_ok (hw : wfL N B L) {kind : Int} (hk : kind = 4 ∨ kind = 5) {ins : List Int} (hi : ∀ x ∈ ins, inR L x) (hb : ins.length ≤ B) : StepOk N B L (manyG L kind ins) := by
  unfold manyG
  have := manyGo_ok (L := L) (if kind = 5 then 0 else 1) (if kind = 5 then 1 else 0) (P := inR L) ins [] ins.length (by simp) hi (by simp)
  dsimp only
  generalize manyGo L (if kind = 5 then 0 else 1) (if kind = 5 then 1 else 0) ins [] = q at this
  match q, this with
  | .inl i, h => exact keep_ok hw h
  | .inr [], _ => exact find_c hw (by rcases hk with h | h <;> subst h <;> simp)
  | .inr [x], h => exact keep_ok hw (h.1 _ (by simp))
  | .inr (x :: y :: l), h => exact find_n hw (by rcases hk with q | q <;> subst q <;> rfl) (by omega) h.1 (by have := h.2; omega)
theorem xorGo_ok {P : Int → Prop} : ∀ (odd : Int → Bool) (r left : List Int) (last : Int), (∀ x ∈ r, P x) → (∀ x ∈ left, P x) → (last < 0 ∨ P last) →
    (∀ x ∈ (xorGo L odd r left last).1, P x) ∧ ((xorGo L odd r left last).2 < 0 ∨ P (xorGo L odd r left last).2) ∧ (xorGo L odd r left last).1.length ≤ left.length + r.length
  | _, [], left, last, _, h2, h3 => ⟨h2, h3, by simp [xorGo]⟩
  | odd, i :: r, left, last, h1, h2, h3 => by
    have h1' : ∀ x ∈ r, P x := fun x hx => h1 x (by simp [hx])
    unfold xorGo
    split
    · have := xorGo_ok odd r left last h1' h2 h3
      exact ⟨this.1, this.2.1, Nat.le_trans this.2.2 (by simp only [List.length_cons]; omega)⟩
    · split
      · have := xorGo_ok (fun x => if x = i then false else odd x) r left i h1' h2 (.inr (h1 i (by simp)))
        exact ⟨this.1, this.2.1, Nat.le_trans this.2.2 (by simp only [List.length_cons]; omega)⟩
      · have := xorGo_ok (fun x => if x = i then false else odd x) r (left ++ [i]) last h1' (fun x hx => (List.mem_append.1 hx).elim (h2 x) (fun h => by rw [List.mem_singleton.1 h]; exact h1 i (by simp))) h3
        exact ⟨this.1, this.2.1, Nat.le_trans this.2.2 (by simp only [List.length_append, List.length_cons, List.length_nil]; omega)⟩
theorem xorG_ok (hw : wfL N B L) (hB : 1 ≤ B) {ins : List Int} (hi : ∀ x ∈ ins, inR L x) (hb : ins.length + 1 ≤ B) : StepOk N B L (xorG L ins) := by
  have h := xorGo_ok (L := L) (P := inR L) (fun x => oddIn x ins) ins [] (-1) hi (by simp) (.inl (by decide))
  unfold xorG
  generalize xorGo L (fun x => oddIn x ins) ins [] (-1) = q at h
  obtain ⟨left, last⟩ := q
  obtain ⟨h1, h2, h3⟩ := h
  simp only [List.length_nil, Nat.zero_add] at h1 h2 h3
  match left with
  | [] =>
    dsimp only
    split
    · exact find_c hw (.inl rfl)
    · exact keep_ok hw (h2.resolve_left (by assumption))
  | [x] =>
    dsimp only
    split
    · exact keep_ok hw (h1 x (by simp))
    · exact notG_ok hw hB (h1 x (by simp))
  | x :: y :: l =>
    dsimp only
    split
    · refine find_n hw rfl (by decide) (fun z hz => ?_) (by simp at h3 ⊢; omega)
      rcases List.mem_append.1 hz with h | h
      · exact h1 z h
      · rw [List.mem_singleton.1 h]; exact h2.resolve_left (by omega)
    · exact find_n hw rfl (by decide) h1 (by omega)
theorem iffG_ok (hw : wfL N B L) (hB : 2 ≤ B) {a b : Int} (ha : inR L a) (hb : inR L b) : StepOk N B L (iffG L a b) := by
  unfold iffG
  split
  · exact find_c hw (.inr rfl)
  · split
    · exact keep_ok hw hb
    · split
      · exact keep_ok hw ha
      · split
        · exact notG_ok hw (by omega) hb
        · split
          · exact notG_ok hw (by omega) ha
          · exact find_n hw rfl (by decide) (by simp [ha, hb]) hB
theorem chooseG_ok (hw : wfL N B L) (hB : 3 ≤ B) {a b c : Int} (ha : inR L a) (hb : inR L b) (hc : inR L c) : StepOk N B L (chooseG L a b c) := by
  unfold chooseG
  split
  · exact keep_ok hw hb
  · split
    · exact keep_ok hw hc
    · split
      · exact keep_ok hw ha
      · split
        · exact notG_ok hw (by omega) ha
        · exact find_n hw rfl (by decide) (by simp [ha, hb, hc]) hB
theorem stepG_ok (hw : wfL N B L) (hB : 3 ≤ B) {i : Int} {g : Gate} (hg : goodGate N i g = true) {ins : List Int} (hn : ins.length = g.inp.length) (hi : ∀ x ∈ ins, inR L x) (hb : ins.length + 1 ≤ B) : StepOk N B L (stepG L g ins) := by
  obtain ⟨p1, p2, _⟩ := good_parts hg
  have hk := allowed_kind p1
  unfold stepG
  split
  · rename_i h
    rw [h] at p1
    have := allowed3 p1
    match ins, (show ins.length = 1 by omega) with
    | [a], _ => exact notG_ok hw (by omega) (hi a (by simp))
  · split
    · rename_i h; exact manyG_ok hw h hi (by omega)
    · split
      · exact xorG_ok hw (by omega) hi hb
      · split
        · rename_i h
          rw [h] at p1
          have := allowed7 p1
          match ins, (show ins.length = 2 by omega) with
          | [a, b], _ => exact iffG_ok hw (by omega) (hi a (by simp)) (hi b (by simp))
        · split
          · rename_i h
            rw [h] at p1
            have := allowed8 p1
            match ins, (show ins.length = 3 by omega) with
            | [a, b, c], _ => exact chooseG_ok hw (by omega) (hi a (by simp)) (hi b (by simp)) (hi c (by simp))
          · have h0 : g.kind = 0 ∨ g.kind = 1 ∨ g.kind = 2 := by omega
            refine findG_ok hw (good_of ?_ ?_ (by simp)) (Nat.zero_le _)
            · rcases h0 with h | h | h <;> rw [h] <;> rfl
            · exact p2
end
end Go.Proofs.YtbemhgojfehnjaaDoor
namespace Go.Proofs.YtbemhgojfehnjaaDoor
open Go
def vals (L : List Gate) (s : VS) : List Bool := valsTo L s L.length
def vg (v : List Bool) (i : Int) : Bool := v.getD i.toNat false
theorem vals_len (L : List Gate) (s : VS) : (vals L s).length = L.length := valsTo_length _ _ _
theorem valsTo_pre {L : List Gate} (M : List Gate) (s : VS) : ∀ k, k ≤ L.length → valsTo (L ++ M) s k = valsTo L s k
  | 0, _ => rfl
  | k + 1, h => by
    rw [valsTo_succ _ _ _ (by rw [List.length_append]; omega), valsTo_succ _ _ _ (by omega), valsTo_pre M s k (by omega), List.getElem_append_left]
theorem vals_snoc (L : List Gate) (g : Gate) (s : VS) : vals (L ++ [g]) s = vals L s ++ [valueOf g s (vals L s)] := by
  unfold vals
  rw [List.length_append, List.length_singleton, valsTo_succ _ _ _ (by simp), valsTo_pre [g] s L.length (Nat.le_refl _), List.getElem_append_right (Nat.le_refl _)]
  simp
theorem vg_app (v u : List Bool) {i : Int} (h : i < (v.length : Int)) (h0 : 0 ≤ i) : vg (v ++ u) i = vg v i := by
  unfold vg
  rw [List.getD_eq_getElem?_getD, List.getD_eq_getElem?_getD, List.getElem?_append_left (by omega)]
section
variable {N : Int} {B : Nat} {L : List Gate}
theorem vals_at (hw : wfL N B L) (s : VS) {i : Nat} (hi : i < L.length) : (vals L s).getD i false = valueOf L[i] s (vals L s) := by
  obtain ⟨hg, _⟩ := hw i L[i] (List.getElem?_eq_getElem hi)
  have h1 := valsTo_last L s i hi
  have h2 := valsTo_getD L s i (i + 1) L.length (by omega) (by omega)
  have h3 := valueOf_take (g := L[i]) s (vals L s) i (fun j x hx => good_in' hg j x hx) (fun h8 => (good_len hg).2.2.2.1 h8)
  unfold vals at h3 ⊢
  rw [valsTo_take L s i L.length (by omega)] at h3
  rw [h2, h1, h3]
theorem vg_at (hw : wfL N B L) (s : VS) {i : Int} (hi : inR L i) : vg (vals L s) i = valueOf (gateAt L i) s (vals L s) := by
  obtain ⟨k, rfl, hk, h1, _⟩ := gateAt_get hi
  unfold vg
  rw [h1]
  exact vals_at hw s hk
theorem value0 (s : VS) (v : List Bool) (l : Int) (q : List Int) : valueOf ⟨0, l, q⟩ s v = false := by simp [valueOf]
theorem value1 (s : VS) (v : List Bool) (l : Int) (q : List Int) : valueOf ⟨1, l, q⟩ s v = true := by simp [valueOf]
theorem value2 (s : VS) (v : List Bool) (l : Int) (q : List Int) : valueOf ⟨2, l, q⟩ s v = litHolds s l := by simp [valueOf]
theorem inVals_mk (k l : Int) (q : List Int) (v : List Bool) : inVals ⟨k, l, q⟩ v = q.map (vg v) := rfl
theorem onesOf_cons (b : Bool) (l : List Bool) : onesOf (b :: l) = onesOf l + (if b then 1 else 0) := by
  unfold onesOf; rw [List.countP_cons]
theorem value3 (s : VS) (v : List Bool) (l a : Int) : valueOf ⟨3, l, [a]⟩ s v = !(vg v a) := by
  have : valueOf ⟨3, l, [a]⟩ s v = decide (onesOf [vg v a] = 0) := by simp [valueOf, inVals_mk]
  rw [this, onesOf_cons]
  cases vg v a <;> rfl
theorem value4 (s : VS) (v : List Bool) (l : Int) (q : List Int) : valueOf ⟨4, l, q⟩ s v = q.all (vg v) := by
  have : valueOf ⟨4, l, q⟩ s v = decide (onesOf (q.map (vg v)) = (q.map (vg v)).length) := by rw [Bool.eq_iff_iff]; simp [valueOf, inVals_mk]; exact decide_eq_true_iff
  rw [this, ← onesOf_all, List.all_map]; rfl
theorem value5 (s : VS) (v : List Bool) (l : Int) (q : List Int) : valueOf ⟨5, l, q⟩ s v = q.any (vg v) := by
  have : valueOf ⟨5, l, q⟩ s v = decide (0 < onesOf (q.map (vg v))) := by rw [Bool.eq_iff_iff]; simp [valueOf, inVals_mk]; exact decide_eq_true_iff
  rw [this, ← onesOf_any, List.any_map]; rfl
/-- Parity. -/
def par (v : List Bool) : List Int → Bool
  | [] => false
  | i :: r => vg v i != par v r
theorem par_ones (v : List Bool) : ∀ q : List Int, decide (onesOf (q.map (vg v)) % 2 = 1) = par v q
  | [] => rfl
  | i :: r => by
    rw [List.map_cons, onesOf_cons, par, ← par_ones v r]
    cases vg v i
    · simp
    · generalize onesOf (r.map (vg v)) = n
      rcases Nat.mod_two_eq_zero_or_one n with h | h
      · have h2 : (n + 1) % 2 = 1 := by omega
        simp [h, h2]
      · have h2 : (n + 1) % 2 = 0 := by omega
        simp [h, h2]
theorem value6 (s : VS) (v : List Bool) (l : Int) (q : List Int) : valueOf ⟨6, l, q⟩ s v = par v q := by
  have : valueOf ⟨6, l, q⟩ s v = decide (onesOf (q.map (vg v)) % 2 = 1) := by rw [Bool.eq_iff_iff]; simp [valueOf, inVals_mk]; exact decide_eq_true_iff
  rw [this, par_ones]
theorem value7 (s : VS) (v : List Bool) (l a b : Int) : valueOf ⟨7, l, [a, b]⟩ s v = (vg v a == vg v b) := by
  have : valueOf ⟨7, l, [a, b]⟩ s v = decide (onesOf [vg v a, vg v b] ≠ 1) := by simp [valueOf, inVals_mk]
  rw [this, onesOf_cons, onesOf_cons]
  cases vg v a <;> cases vg v b <;> rfl
theorem value8 (s : VS) (v : List Bool) (l a b c : Int) : valueOf ⟨8, l, [a, b, c]⟩ s v = if vg v a then vg v b else vg v c := by
  have : valueOf ⟨8, l, [a, b, c]⟩ s v = pickVal v [a, b, c] := by simp [valueOf]
  rw [this]; rfl
theorem kind_val (hw : wfL N B L) (s : VS) {i : Int} (hi : inR L i) : (kindAt L i = 0 → vg (vals L s) i = false) ∧ (kindAt L i = 1 → vg (vals L s) i = true) := by
  rw [vg_at hw s hi]
  unfold kindAt
  generalize gateAt L i = g
  obtain ⟨k, l, q⟩ := g
  exact ⟨fun h => by simp only at h; subst h; exact value0 _ _ _ _, fun h => by simp only at h; subst h; exact value1 _ _ _ _⟩
theorem lit_neg {s : VS} {l : Int} (h : litVar l ≠ 0) : litHolds s (-l) = !litHolds s l := by
  have h1 : litVar (-l) = litVar l := by
    unfold litVar at h ⊢
    split at h
    · rw [if_neg (by omega), if_pos (by omega), if_pos (by omega)]; omega
    · split at h
      · rw [if_pos (by omega), if_neg (by omega), if_pos (by omega)]
      · omega
  have h2 : l ≠ 0 := by
    intro e
    subst e
    exact h (by decide)
  unfold litHolds
  rw [h1]
  have h3 : decide (litVar l ≠ 0) = true := decide_eq_true h
  rw [h3]
  by_cases hp : 0 < l
  · rw [decide_eq_true hp, decide_eq_false (show ¬ 0 < -l by omega)]
    cases s.has (litVar l) <;> rfl
  · rw [decide_eq_false hp, decide_eq_true (show 0 < -l by omega)]
    cases s.has (litVar l) <;> rfl
/-- What a step makes: at most one gate, a new one, of at most m inputs; the number stands for b. -/
structure Sm (m : Nat) (L : List Gate) (q : List Gate × Int) (b : VS → Bool) : Prop where
  add : q.1 = L ∨ ∃ g, q.1 = L ++ [g] ∧ g ∉ L ∧ g.inp.length ≤ m
  val : ∀ s, vg (vals q.1 s) q.2 = b s
theorem Sm.mono {m m' : Nat} {q : List Gate × Int} {b : VS → Bool} (h : Sm m L q b) (hm : m ≤ m') : Sm m' L q b :=
  ⟨h.add.imp id (fun ⟨g, h1, h2, h3⟩ => ⟨g, h1, h2, Nat.le_trans h3 hm⟩), h.val⟩
theorem Sm.to {m : Nat} {q : List Gate × Int} {b b' : VS → Bool} (h : Sm m L q b) (hb : ∀ s, b s = b' s) : Sm m L q b' := ⟨h.add, fun s => by rw [h.val, hb]⟩
theorem keep_sm (i : Int) : Sm 0 L (L, i) (fun s => vg (vals L s) i) := ⟨.inl rfl, fun _ => rfl⟩
theorem gidx_none {g : Gate} : ∀ {L : List Gate} {i : Nat}, gidx g L i = none → g ∉ L
  | [], _, _ => by simp
  | h :: l, i, e => by
    unfold gidx at e
    split at e
    · cases e
    · rename_i hn
      intro hm
      rcases List.mem_cons.1 hm with h1 | h1
      · exact hn h1
      · exact gidx_none e h1
theorem find_sm (hw : wfL N B L) (g : Gate) : Sm g.inp.length L (findG L g) (fun s => valueOf g s (vals L s)) := by
  unfold findG
  cases hx : gidx g L 0 with
  | some k =>
    obtain ⟨_, h2, h3⟩ := gidx_lt hx
    refine ⟨.inl rfl, fun s => ?_⟩
    have hk : k < L.length := by omega
    have he : L[k] = g := by
      rw [Nat.sub_zero, List.getElem?_eq_getElem hk] at h3
      exact Option.some.inj h3
    show (vals L s).getD k false = _
    rw [vals_at hw s hk, he]
  | none =>
    refine ⟨.inr ⟨g, rfl, gidx_none hx, Nat.le_refl _⟩, fun s => ?_⟩
    show (vals (L ++ [g]) s).getD L.length false = _
    rw [vals_snoc, List.getD_eq_getElem?_getD, List.getElem?_append_right (by rw [vals_len]; omega), vals_len]
    simp
theorem not_sm (hw : wfL N B L) {i : Int} (hi : inR L i) : Sm 1 L (notG L i) (fun s => !(vg (vals L s) i)) := by
  have hv : ∀ s, vg (vals L s) i = valueOf (gateAt L i) s (vals L s) := fun s => vg_at hw s hi
  obtain ⟨k, rfl, hk, h1, h2⟩ := gateAt_get hi
  obtain ⟨hg, _⟩ := hw k _ h2
  rw [notG_eq hk]
  rw [h1] at hv
  obtain ⟨p1, p2, p3⟩ := good_parts hg
  generalize L[k] = g at hv p1 p2 p3
  obtain ⟨kd, lt, ins⟩ := g
  simp only at hv p1 p2 p3 ⊢
  split
  · rename_i h; subst h
    exact ((find_sm hw ⟨1, 0, []⟩).mono (Nat.zero_le _)).to (fun s => by rw [hv, value0, value1]; rfl)
  · split
    · rename_i h; subst h
      exact ((find_sm hw ⟨0, 0, []⟩).mono (Nat.zero_le _)).to (fun s => by rw [hv, value0, value1]; rfl)
    · split
      · rename_i h; subst h
        refine ((find_sm hw ⟨2, -lt, []⟩).mono (Nat.zero_le _)).to (fun s => ?_)
        rw [hv, value2, value2, lit_neg]
        unfold litGood at p2
        rw [if_pos rfl] at p2
        unfold litOk at p2
        simp only [decide_eq_true_eq] at p2
        exact p2.1
      · split
        · rename_i h; subst h
          have := allowed3 p1
          match ins, (show ins.length = 1 by omega) with
          | [a], _ => exact ((keep_sm a).mono (Nat.zero_le _)).to (fun s => by rw [hv, value3, Bool.not_not])
        · exact (find_sm hw ⟨3, 0, [(k : Int)]⟩).to (fun s => value3 _ _ _ _)
/-! Many. -/
theorem sem4 (hw : wfL N B L) (s : VS) : ∀ (r left : List Int), (∀ x ∈ r, inR L x) →
    match manyGo L 1 0 r left with
    | .inl i => vg (vals L s) i = false ∧ (left.all (vg (vals L s)) && r.all (vg (vals L s))) = false
    | .inr l => l.all (vg (vals L s)) = (left.all (vg (vals L s)) && r.all (vg (vals L s)))
  | [], left, _ => by simp [manyGo]
  | i :: r, left, h => by
    have hk := kind_val hw s (h i (by simp))
    have h' : ∀ x ∈ r, inR L x := fun x hx => h x (by simp [hx])
    unfold manyGo
    by_cases h0 : kindAt L i = 0
    · rw [if_pos h0]
      exact ⟨hk.1 h0, by simp [hk.1 h0]⟩
    · rw [if_neg h0]
      by_cases h1 : kindAt L i ≠ 1 ∧ i ∉ left
      · rw [if_pos h1]
        have := sem4 hw s r (left ++ [i]) h'
        simp only [List.all_append, List.all_cons, List.all_nil, Bool.and_true, Bool.and_assoc] at this ⊢
        exact this
      · rw [if_neg h1]
        have := sem4 hw s r left h'
        have hv : left.all (vg (vals L s)) = (left.all (vg (vals L s)) && vg (vals L s) i) := by
          by_cases h2 : kindAt L i = 1
          · rw [hk.2 h2, Bool.and_true]
          · have hm : i ∈ left := Classical.byContradiction fun hc => h1 ⟨h2, hc⟩
            cases e : left.all (vg (vals L s)) with
            | false => rfl
            | true => rw [List.all_eq_true.1 e i hm]; rfl
        simp only [List.all_cons]
        rw [← Bool.and_assoc, ← hv]
        exact this
theorem sem5 (hw : wfL N B L) (s : VS) : ∀ (r left : List Int), (∀ x ∈ r, inR L x) →
    match manyGo L 0 1 r left with
    | .inl i => vg (vals L s) i = true ∧ (left.any (vg (vals L s)) || r.any (vg (vals L s))) = true
    | .inr l => l.any (vg (vals L s)) = (left.any (vg (vals L s)) || r.any (vg (vals L s)))
  | [], left, _ => by simp [manyGo]
  | i :: r, left, h => by
    have hk := kind_val hw s (h i (by simp))
    have h' : ∀ x ∈ r, inR L x := fun x hx => h x (by simp [hx])
    unfold manyGo
    by_cases h0 : kindAt L i = 1
    · rw [if_pos h0]
      exact ⟨hk.2 h0, by simp [hk.2 h0]⟩
    · rw [if_neg h0]
      by_cases h1 : kindAt L i ≠ 0 ∧ i ∉ left
      · rw [if_pos h1]
        have := sem5 hw s r (left ++ [i]) h'
        simp only [List.any_append, List.any_cons, List.any_nil, Bool.or_false, Bool.or_assoc] at this ⊢
        exact this
      · rw [if_neg h1]
        have := sem5 hw s r left h'
        have hv : left.any (vg (vals L s)) = (left.any (vg (vals L s)) || vg (vals L s) i) := by
          by_cases h2 : kindAt L i = 0
          · rw [hk.1 h2, Bool.or_false]
          · have hm : i ∈ left := Classical.byContradiction fun hc => h1 ⟨h2, hc⟩
            cases e : vg (vals L s) i with
            | false => rw [Bool.or_false]
            | true => rw [Bool.or_true]; exact List.any_eq_true.2 ⟨i, hm, e⟩
        simp only [List.any_cons]
        rw [← Bool.or_assoc, ← hv]
        exact this
theorem many_sm (hw : wfL N B L) {kind : Int} (hk : kind = 4 ∨ kind = 5) {ins : List Int} (hi : ∀ x ∈ ins, inR L x) : Sm ins.length L (manyG L kind ins) (fun s => valueOf ⟨kind, 0, ins⟩ s (vals L s)) := by
  have hlen := manyGo_ok (L := L) (if kind = 5 then 0 else 1) (if kind = 5 then 1 else 0) (P := inR L) ins [] ins.length (by simp) hi (by simp)
  unfold manyG
  rcases hk with rfl | rfl
  · have hs := fun s => sem4 hw s ins [] hi
    simp only [show ¬ ((4 : Int) = 5) from by decide, if_false] at hlen ⊢
    generalize manyGo L 1 0 ins [] = q at hs hlen
    simp only [List.all_nil, Bool.true_and] at hs
    match q, hs, hlen with
    | .inl i, hs, _ => exact ((keep_sm i).mono (Nat.zero_le _)).to (fun s => by rw [value4, (hs s).1, (hs s).2])
    | .inr [], hs, _ => exact ((find_sm hw ⟨1, 0, []⟩).mono (Nat.zero_le _)).to (fun s => by rw [value4, value1, ← hs s]; rfl)
    | .inr [x], hs, _ => exact ((keep_sm x).mono (Nat.zero_le _)).to (fun s => by rw [value4, ← hs s]; simp)
    | .inr (x :: y :: l), hs, hl => exact ((find_sm hw ⟨4, 0, x :: y :: l⟩).mono hl.2).to (fun s => by rw [value4, value4, ← hs s])
  · have hs := fun s => sem5 hw s ins [] hi
    simp only [if_true] at hlen ⊢
    generalize manyGo L 0 1 ins [] = q at hs hlen
    simp only [List.any_nil, Bool.false_or] at hs
    match q, hs, hlen with
    | .inl i, hs, _ => exact ((keep_sm i).mono (Nat.zero_le _)).to (fun s => by rw [value5, (hs s).1, (hs s).2])
    | .inr [], hs, _ => exact ((find_sm hw ⟨0, 0, []⟩).mono (Nat.zero_le _)).to (fun s => by rw [value5, value0, ← hs s]; rfl)
    | .inr [x], hs, _ => exact ((keep_sm x).mono (Nat.zero_le _)).to (fun s => by rw [value5, ← hs s]; simp)
    | .inr (x :: y :: l), hs, hl => exact ((find_sm hw ⟨5, 0, x :: y :: l⟩).mono hl.2).to (fun s => by rw [value5, value5, ← hs s])
/-! Two and three. -/
theorem iff_sm (hw : wfL N B L) {a b : Int} (ha : inR L a) (hb : inR L b) : Sm 2 L (iffG L a b) (fun s => valueOf ⟨7, 0, [a, b]⟩ s (vals L s)) := by
  have ka := fun s => kind_val hw s ha
  have kb := fun s => kind_val hw s hb
  unfold iffG
  split
  · rename_i h; subst h
    exact ((find_sm hw ⟨1, 0, []⟩).mono (Nat.zero_le _)).to (fun s => by rw [value1, value7]; simp)
  · split
    · rename_i h
      exact ((keep_sm b).mono (Nat.zero_le _)).to (fun s => by rw [value7, (ka s).2 h]; simp)
    · split
      · rename_i h
        exact ((keep_sm a).mono (Nat.zero_le _)).to (fun s => by rw [value7, (kb s).2 h]; simp)
      · split
        · rename_i h
          exact ((not_sm hw hb).mono (by omega)).to (fun s => by rw [value7, (ka s).1 h]; simp)
        · split
          · rename_i h
            exact ((not_sm hw ha).mono (by omega)).to (fun s => by rw [value7, (kb s).1 h]; simp)
          · exact (find_sm hw ⟨7, 0, [a, b]⟩)
theorem choose_sm (hw : wfL N B L) {a b c : Int} (ha : inR L a) (hb : inR L b) (hc : inR L c) : Sm 3 L (chooseG L a b c) (fun s => valueOf ⟨8, 0, [a, b, c]⟩ s (vals L s)) := by
  have ka := fun s => kind_val hw s ha
  have kb := fun s => kind_val hw s hb
  have kc := fun s => kind_val hw s hc
  unfold chooseG
  split
  · rename_i h
    exact ((keep_sm b).mono (Nat.zero_le _)).to (fun s => by rw [value8, (ka s).2 h]; rfl)
  · split
    · rename_i h
      refine ((keep_sm c).mono (Nat.zero_le _)).to (fun s => ?_)
      rw [value8]
      rcases h with h | h
      · rw [(ka s).1 h]; rfl
      · rw [h]; simp
    · split
      · rename_i h
        exact ((keep_sm a).mono (Nat.zero_le _)).to (fun s => by rw [value8, (kb s).2 h.1, (kc s).1 h.2]; simp)
      · split
        · rename_i h
          exact ((not_sm hw ha).mono (by omega)).to (fun s => by rw [value8, (kb s).1 h.1, (kc s).2 h.2]; cases vg (vals L s) a <;> rfl)
        · exact (find_sm hw ⟨8, 0, [a, b, c]⟩)
end
end Go.Proofs.YtbemhgojfehnjaaDoor
namespace Go.Proofs.YtbemhgojfehnjaaDoor
open Go
/-- No gate stands twice. -/
def ND (L : List Gate) : Prop := ∀ (i j : Nat) (g : Gate), L[i]? = some g → L[j]? = some g → i = j
theorem ND.nil : ND [] := fun i j g h => by simp at h
theorem get_snoc {α : Type} {L : List α} {x y : α} {i : Nat} (h : (L ++ [x])[i]? = some y) : L[i]? = some y ∧ i < L.length ∨ i = L.length ∧ y = x := by
  by_cases hi : i < L.length
  · rw [List.getElem?_append_left hi] at h; exact .inl ⟨h, hi⟩
  · rw [List.getElem?_append_right (by omega)] at h
    have e : i - L.length = 0 := by
      rcases Nat.eq_zero_or_pos (i - L.length) with q | q
      · exact q
      · rw [List.getElem?_eq_none (by simp; omega)] at h; cases h
    rw [e] at h
    simp at h
    exact .inr ⟨by omega, h.symm⟩
theorem ND.snoc {L : List Gate} {g : Gate} (h : ND L) (hg : g ∉ L) : ND (L ++ [g]) := by
  intro i j x hi hj
  rcases get_snoc hi with ⟨a, _⟩ | ⟨a, rfl⟩ <;> rcases get_snoc hj with ⟨b, _⟩ | ⟨b, e⟩
  · exact h i j x a b
  · exact absurd (List.mem_of_getElem? a) (by rw [e]; exact hg)
  · exact absurd (List.mem_of_getElem? b) hg
  · omega
def off (odd : Int → Bool) (i : Int) : Int → Bool := fun x => if x = i then false else odd x
theorem off_comm (odd : Int → Bool) (i j : Int) : off (off odd i) j = off (off odd j) i := by
  funext x
  unfold off
  split <;> split <;> rfl
theorem off_same {odd : Int → Bool} {i : Int} (h : odd i = false) : off odd i = odd := by
  funext x
  unfold off
  split
  · rename_i e; rw [e, h]
  · rfl
def dsum (v : List Bool) : (Int → Bool) → List Int → Bool
  | _, [] => false
  | odd, i :: r => if odd i = true then (vg v i != dsum v (off odd i) r) else dsum v odd r
theorem dsum_dead {v : List Bool} {i : Int} (hv : vg v i = false) : ∀ (r : List Int) (odd : Int → Bool), dsum v (off odd i) r = dsum v odd r
  | [], _ => rfl
  | j :: r, odd => by
    by_cases e : j = i
    · subst e
      have h1 : ¬ (off odd j j = true) := by simp [off]
      rw [dsum, dsum, if_neg h1]
      split
      · rw [hv]; cases dsum v (off odd j) r <;> rfl
      · exact dsum_dead hv r odd
    · have h1 : off odd i j = odd j := by simp [off, e]
      rw [dsum, dsum, h1]
      split
      · rw [off_comm, dsum_dead hv r (off odd j)]
      · exact dsum_dead hv r odd
theorem dsum_take {v : List Bool} {i : Int} : ∀ (r : List Int) (odd : Int → Bool), odd i = true → i ∈ r → dsum v odd r = (vg v i != dsum v (off odd i) r)
  | [], _, _, h => by cases h
  | j :: r, odd, ho, hm => by
    by_cases e : j = i
    · subst e
      have h1 : ¬ (off odd j j = true) := by simp [off]
      rw [dsum, if_pos ho, dsum, if_neg h1]
    · have hm' : i ∈ r := by
        rcases List.mem_cons.1 hm with h | h
        · exact absurd h.symm e
        · exact h
      have h1 : off odd i j = odd j := by simp [off, e]
      rw [dsum, dsum, h1]
      split
      · rw [dsum_take r (off odd j) (by simp [off, Ne.symm e, ho]) hm', off_comm odd j i]
        cases vg v i <;> cases vg v j <;> cases dsum v (off (off odd i) j) r <;> rfl
      · exact dsum_take r odd ho hm'
theorem odd_mem {x : Int} : ∀ {l : List Int}, oddIn x l = true → x ∈ l
  | [], h => by cases h
  | y :: l, h => by
    by_cases e : x = y
    · rw [e]; exact List.mem_cons_self ..
    · rw [oddIn, decide_eq_false e] at h
      exact List.mem_cons_of_mem _ (odd_mem (by simpa using h))
theorem dsum_par (v : List Bool) : ∀ ins : List Int, dsum v (fun x => oddIn x ins) ins = par v ins
  | [] => rfl
  | i :: r => by
    have ih := dsum_par v r
    have ho : off (fun x => oddIn x (i :: r)) i = off (fun x => oddIn x r) i := by
      funext x
      unfold off
      split
      · rfl
      · rename_i h; simp [oddIn, h]
    rw [dsum, par]
    cases h : oddIn i r with
    | false =>
      have h1 : oddIn i (i :: r) = true := by simp [oddIn, h]
      rw [if_pos h1, ho, off_same h, ih]
    | true =>
      have h1 : ¬ (oddIn i (i :: r) = true) := by simp [oddIn, h]
      have h2 : (fun x => oddIn x (i :: r)) = off (fun x => oddIn x r) i := by
        rw [← ho, off_same (by simpa using h1)]
      rw [if_neg h1, h2]
      have := dsum_take (v := v) r (fun x => oddIn x r) h (odd_mem h)
      rw [ih] at this
      rw [this]
      cases vg v i <;> cases dsum v (off (fun x => oddIn x r) i) r <;> rfl
theorem par_snoc (v : List Bool) (i : Int) : ∀ l : List Int, par v (l ++ [i]) = (par v l != vg v i)
  | [] => by simp [par]
  | x :: l => by
    rw [List.cons_append, par, par, par_snoc v i l]
    cases vg v x <;> cases par v l <;> cases vg v i <;> rfl
section
variable {N : Int} {B : Nat} {L : List Gate}
theorem true_gate (hw : wfL N B L) {i : Int} (hi : inR L i) (h : kindAt L i = 1) : L[i.toNat]? = some ⟨1, 0, []⟩ := by
  obtain ⟨k, rfl, hk, h1, h2⟩ := gateAt_get hi
  obtain ⟨hg, _⟩ := hw k _ h2
  obtain ⟨p1, p2, p3⟩ := good_parts hg
  unfold kindAt at h
  rw [h1] at h
  rw [Int.toNat_natCast, h2]
  generalize L[k] = g at h p1 p2
  obtain ⟨kd, lt, ins⟩ := g
  simp only at h p1 p2
  subst h
  have e1 : ins.length = 0 := by simpa [allowedB] using p1
  have e2 : lt = 0 := by simpa [litGood] using p2
  rw [List.length_eq_zero_iff.1 e1, e2]
theorem true_one (hw : wfL N B L) (hn : ND L) {i j : Int} (hi : inR L i) (hj : inR L j) (h1 : kindAt L i = 1) (h2 : kindAt L j = 1) : i = j := by
  have := hn _ _ _ (true_gate hw hi h1) (true_gate hw hj h2)
  have a := hi.1
  have b := hj.1
  omega
def one (last : Int) : Nat := if 0 ≤ last then 1 else 0
theorem xorGo_val (hw : wfL N B L) (hn : ND L) : ∀ (r : List Int) (odd : Int → Bool) (left : List Int) (last : Int), (∀ x ∈ r, inR L x) → (last < 0 ∨ inR L last ∧ kindAt L last = 1 ∧ odd last = false) →
    (∀ s, (par (vals L s) (xorGo L odd r left last).1 != decide (0 ≤ (xorGo L odd r left last).2)) = (par (vals L s) left != (decide (0 ≤ last) != dsum (vals L s) odd r))) ∧
    ((xorGo L odd r left last).2 < 0 ∨ inR L (xorGo L odd r left last).2 ∧ kindAt L (xorGo L odd r left last).2 = 1) ∧ (xorGo L odd r left last).1.length + one (xorGo L odd r left last).2 ≤ left.length + one last + r.length
  | [], odd, left, last, _, hl => ⟨fun s => by show (par (vals L s) left != decide (0 ≤ last)) = (par (vals L s) left != (decide (0 ≤ last) != false)); rw [Bool.bne_false], hl.imp id (fun h => ⟨h.1, h.2.1⟩), by simp [xorGo]⟩
  | i :: r, odd, left, last, hr, hl => by
    have hi := hr i (by simp)
    have hr' : ∀ x ∈ r, inR L x := fun x hx => hr x (by simp [hx])
    have hk := fun s => kind_val hw s hi
    unfold xorGo
    by_cases h0 : odd i = false ∨ kindAt L i = 0
    · rw [if_pos h0]
      obtain ⟨a, b, c⟩ := xorGo_val hw hn r odd left last hr' hl
      refine ⟨fun s => ?_, b, Nat.le_trans c (by simp only [List.length_cons]; omega)⟩
      rw [a s, dsum]
      by_cases ho : odd i = true
      · rw [if_pos ho]
        have hz := (hk s).1 (h0.resolve_left (by simp [ho]))
        rw [hz, dsum_dead hz]
        cases dsum (vals L s) odd r <;> rfl
      · rw [if_neg ho]
    · rw [if_neg h0]
      have ho : odd i = true := by
        cases e : odd i with
        | true => rfl
        | false => exact absurd (.inl e) h0
      by_cases h1 : kindAt L i = 1
      · rw [if_pos h1]
        have hneg : last < 0 := by
          rcases hl with h | ⟨h2, h3, h4⟩
          · exact h
          · have := true_one hw hn h2 hi h3 h1
            rw [this, ho] at h4
            cases h4
        obtain ⟨a, b, c⟩ := xorGo_val hw hn r (off odd i) left i hr' (.inr ⟨hi, h1, by simp [off]⟩)
        refine ⟨fun s => ?_, b, Nat.le_trans c ?_⟩
        · show _ = _
          have := a s
          unfold off at this
          rw [this, dsum, if_pos ho, (hk s).2 h1, decide_eq_true hi.1, decide_eq_false (show ¬ 0 ≤ last by omega)]
          show _ = (par (vals L s) left != (false != (true != dsum (vals L s) (off odd i) r)))
          unfold off
          generalize dsum (vals L s) (fun x => if x = i then false else odd x) r = d
          cases d <;> cases par (vals L s) left <;> rfl
        · have e1 : one i = 1 := if_pos hi.1
          have e2 : one last = 0 := if_neg (by omega)
          simp only [List.length_cons]; omega
      · rw [if_neg h1]
        obtain ⟨a, b, c⟩ := xorGo_val hw hn r (off odd i) (left ++ [i]) last hr' (hl.imp id (fun ⟨h2, h3, h4⟩ => ⟨h2, h3, by unfold off; split; rfl; exact h4⟩))
        refine ⟨fun s => ?_, b, Nat.le_trans c (by simp only [List.length_cons, List.length_append, List.length_nil]; omega)⟩
        have := a s
        unfold off at this
        rw [this, dsum, if_pos ho, par_snoc]
        show _ = (par (vals L s) left != (decide (0 ≤ last) != (vg (vals L s) i != dsum (vals L s) (off odd i) r)))
        unfold off
        generalize dsum (vals L s) (fun x => if x = i then false else odd x) r = d
        generalize decide (0 ≤ last) = e
        cases d <;> cases e <;> cases par (vals L s) left <;> cases vg (vals L s) i <;> rfl
theorem xor_sm (hw : wfL N B L) (hn : ND L) {ins : List Int} (hi : ∀ x ∈ ins, inR L x) : Sm ins.length L (xorG L ins) (fun s => valueOf ⟨6, 0, ins⟩ s (vals L s)) := by
  have h := xorGo_val hw hn ins (fun x => oddIn x ins) [] (-1) hi (.inl (by decide))
  have hr := xorGo_ok (L := L) (P := inR L) (fun x => oddIn x ins) ins [] (-1) hi (by simp) (.inl (by decide))
  unfold xorG
  generalize xorGo L (fun x => oddIn x ins) ins [] (-1) = q at h hr
  obtain ⟨left, last⟩ := q
  obtain ⟨ha, hb, hc⟩ := h
  simp only [List.length_nil, Nat.zero_add] at ha hb hc hr
  have hv : ∀ s, valueOf ⟨6, 0, ins⟩ s (vals L s) = (par (vals L s) left != decide (0 ≤ last)) := by
    intro s
    rw [value6, ha s, dsum_par]
    simp [par]
  have e1 : one (-1) = 0 := rfl
  rw [e1] at hc
  match left with
  | [] =>
    dsimp only
    split
    · exact ((find_sm hw ⟨0, 0, []⟩).mono (Nat.zero_le _)).to (fun s => by rw [hv, value0, decide_eq_false (show ¬ 0 ≤ last by omega)]; rfl)
    · rename_i hl
      exact ((keep_sm last).mono (Nat.zero_le _)).to (fun s => by rw [hv, decide_eq_true (show 0 ≤ last by omega), (kind_val hw s (hb.resolve_left hl).1).2 (hb.resolve_left hl).2]; rfl)
  | [x] =>
    dsimp only
    split
    · exact ((keep_sm x).mono (Nat.zero_le _)).to (fun s => by rw [hv, decide_eq_false (show ¬ 0 ≤ last by omega)]; simp [par])
    · refine ((not_sm hw (hr.1 x (by simp))).mono (by simp at hc; omega)).to (fun s => ?_)
      rw [hv, decide_eq_true (show 0 ≤ last by omega)]; simp [par]
  | x :: y :: l =>
    dsimp only
    split
    · rename_i hl
      have e2 : one last = 1 := if_pos hl
      refine ((find_sm hw ⟨6, 0, x :: y :: l ++ [last]⟩).mono (by rw [e2] at hc; simp at hc ⊢; omega)).to (fun s => ?_)
      rw [hv, value6, par_snoc, (kind_val hw s (hb.resolve_left (by omega)).1).2 (hb.resolve_left (by omega)).2, decide_eq_true hl]
    · rename_i hl
      refine ((find_sm hw ⟨6, 0, x :: y :: l⟩).mono (by simp at hc ⊢; omega)).to (fun s => ?_)
      rw [hv, value6, decide_eq_false hl]; simp
theorem step_sm (hw : wfL N B L) (hn : ND L) {i : Int} {g : Gate} (hg : goodGate N i g = true) {ins : List Int} (hl : ins.length = g.inp.length) (hi : ∀ x ∈ ins, inR L x) :
    Sm g.inp.length L (stepG L g ins) (fun s => valueOf ⟨g.kind, g.lit, ins⟩ s (vals L s)) := by
  obtain ⟨p1, p2, _⟩ := good_parts hg
  have hk := allowed_kind p1
  rw [← hl] at p1 ⊢
  obtain ⟨kd, lt, gi⟩ := g
  simp only at p1 p2 hk ⊢
  have hlit : kd ≠ 2 → lt = 0 := fun h => by simpa [litGood, h] using p2
  unfold stepG
  dsimp only
  split
  · rename_i h; subst h
    have := allowed3 p1
    match ins, hi, (show ins.length = 1 by omega) with
    | [a], hi, _ => exact (not_sm hw (hi a (by simp))).to (fun s => (value3 _ _ _ _).symm)
  · split
    · rename_i h
      rw [hlit (by omega)]
      exact many_sm hw h hi
    · split
      · rename_i h; subst h
        rw [hlit (by omega)]
        exact xor_sm hw hn hi
      · split
        · rename_i h; subst h
          rw [hlit (by omega)]
          have := allowed7 p1
          match ins, hi, (show ins.length = 2 by omega) with
          | [a, b], hi, _ => exact iff_sm hw (hi a (by simp)) (hi b (by simp))
        · split
          · rename_i h; subst h
            rw [hlit (by omega)]
            have := allowed8 p1
            match ins, hi, (show ins.length = 3 by omega) with
            | [a, b, c], hi, _ => exact choose_sm hw (hi a (by simp)) (hi b (by simp)) (hi c (by simp))
          · have h0 : kd = 0 ∨ kd = 1 ∨ kd = 2 := by omega
            have hz : ins.length = 0 := by
              unfold allowedB at p1
              rw [if_pos h0] at p1
              simpa using p1
            rw [List.length_eq_zero_iff.1 hz]
            exact find_sm hw ⟨kd, lt, []⟩
end
end Go.Proofs.YtbemhgojfehnjaaDoor
namespace Go.Proofs.YtbemhgojfehnjaaDoor
open Go Go.RowKit
section
variable {W : World} {f m c : Nat} {R : Option Addr} {D : Nat → Prop} {L : List Gate} {vs : List Value}
theorem not_ {j : Int} (O0 : Own (zone (foldE f m R c D L vs)) W W (foldE f m R c D L vs)) (hj : 0 ≤ j ∧ j < L.length) (ok : okGs L) (hL : L.length ≤ 1000000) :
    Calls Tryd.prog 81 #[.pointer (some ⟨f, 0, none⟩), .int .i64 j] W (FPost (foldE f m R c D L vs) W f m (notG L j)) := by
  obtain ⟨i, rfl⟩ : ∃ n : Nat, j = n := ⟨j.toNat, by omega⟩
  have hi : i < L.length := by omega
  obtain ⟨r, v, rfl, hr, hv, hD, h0, h1, h2⟩ := fold_gate (rest := []) O0 hi
  obtain ⟨AI, cI, rfl⟩ := hD.slice
  have sl : -1000000 ≤ L[i].lit ∧ L[i].lit ≤ 1000000 := (ok _ (List.getElem_mem hi)).1.2.1
  refine sx_enter (args := [.pointer (some ⟨f, 0, none⟩), .int .i64 (i : Int)]) Tryd.func81 rfl rfl (by simp) ?_
  refine cw_seq (fun FK1 K1 => ?_)
  refine cw_region ?_
  refine wl_val (v := .int .i64 0) (fun ρ e => ex_assign (e _ _ rfl)) rfl rfl ?_
  refine wl_nil ?_
  refine xw_next K1 ?_
  refine cw_seq (fun FK2 K2 => ?_)
  refine cw_seq (fun FK3 K3 => ?_)
  refine cw_region ?_
  refine wl_val (v := .pointer (some ⟨f, 0, none⟩)) (fun ρ e => ex_move (e _ _ rfl)) rfl rfl ?_
  refine wl_val (v := .pointer (some ⟨f, 0, none⟩)) (fun ρ e => ex_nil (e _ _ rfl)) rfl rfl ?_
  refine wl_val (v := .pointer (some ⟨f, 0, none⟩)) (fun ρ e => ex_field (q := 0) fi56_0 (e _ _ rfl) rfl) rfl rfl ?_
  refine wl_val (v := .slice (some ⟨r, 0, none⟩) L.length c) (fun ρ e => ex_load1 ty22 (e _ _ rfl) (O0.cell 0 0 rfl rfl)) rfl rfl ?_
  refine wl_val (v := .int .i64 (i : Int)) (fun ρ e => ex_move (e _ _ rfl)) rfl rfl ?_
  refine wl_val (v := .pointer (some ⟨r, i * 3, none⟩)) (fun ρ e => ex_idx (q := i * 3) el22 (e _ _ rfl) (e _ _ rfl) hi (by omega)) rfl rfl ?_
  refine wl_val (v := .agg #[.int .i64 (L[i].kind), .int .i64 (L[i].lit), .slice AI (L[i].inp.length) cI]) (fun ρ e => ex_loadN (vs := [.int .i64 (L[i].kind), .int .i64 (L[i].lit), .slice AI (L[i].inp.length) cI]) ty38 (e _ _ rfl) rfl (cells3 h0 h1 h2)) rfl rfl ?_
  obtain ⟨g4, w5, r6, O7, hg8, hs9⟩ := own_alloc O0 38 ze38 rfl
  refine wl_val (v := .pointer (some ⟨g4, 0, none⟩)) (fun ρ e => r6 ρ _ _ _ _ _) rfl rfl ?_
  obtain ⟨w10, r11, O12, hs13⟩ := own_put (o := 0) (n := 3) O7 ty38 (.agg #[.int .i64 (L[i].kind), .int .i64 (L[i].lit), .slice AI (L[i].inp.length) cI]) [.int .i64 (L[i].kind), .int .i64 (L[i].lit), .slice AI (L[i].inp.length) cI] (cs' := #[.int .i64 (L[i].kind), .int .i64 (L[i].lit), .slice AI (L[i].inp.length) cI]) rfl rfl rfl (Nat.le_of_ble_eq_true rfl) rfl
  refine wl_none (fun ρ e => r11 ρ _ _ _ _ _ _ (e _ _ rfl) (e _ _ rfl)) rfl ?_
  refine wl_nil ?_
  refine xw_next K3 ?_
  refine cw_seq (fun FK14 K14 => ?_)
  refine cw_region ?_
  refine wl_val (v := .pointer (some ⟨g4, 0, none⟩)) (fun ρ e => ex_field (q := 0) fi38_0 (e _ _ rfl) rfl) rfl rfl ?_
  refine wl_val (v := .int .i64 (L[i].kind)) (fun ρ e => ex_load1 ty3 (e _ _ rfl) (O12.cell 0 0 rfl rfl)) rfl rfl ?_
  refine wl_nil ?_
  refine xw_next K14 ?_
  refine cw_block ?_
  refine cw_seq (fun FK15 K15 => ?_)
  refine cw_region ?_
  by_cases c16 : L[i].kind = 0
  · skip
    refine wl_val (v := .bool true) (fun ρ e => ex_cmp (u := L[i].kind) (v := 0) (e _ _ rfl) (e _ _ rfl) (eql1 (by omega))) rfl rfl ?_
    refine wl_val (v := .bool true) (fun ρ e => ex_assign (e _ _ rfl)) rfl rfl ?_
    refine wl_nil ?_
    refine xw_next K15 ?_
    refine cw_true rfl ?_
    refine cw_seq (fun FK17 K17 => ?_)
    refine cw_region ?_
    refine wl_val (v := .pointer (some ⟨f, 0, none⟩)) (fun ρ e => ex_move (e _ _ rfl)) rfl rfl ?_
    refine wl_val (v := .agg #[.int .i64 1, .int .i64 0, .slice none 0 0]) (fun ρ e => ex_build (cells := #[.int .i64 1, .int .i64 0, .slice none 0 0]) st38 (e.parts rfl) rfl) rfl rfl ?_
    refine wl_call (args := [.pointer (some ⟨f, 0, none⟩), .agg #[.int .i64 1, .int .i64 0, .slice none 0 0]]) in_80 rfl rfl rfl ?_
    have O18 : Own (zone (foldE f m (some ⟨r, 0, none⟩) c D L vs)) W w10 [.ro (fun _ => False) (fun w => IntsD (fun _ => False) w (.slice none 0 0) ([])), .blk g4 38 #[.int .i64 (L[i].kind), .int .i64 (L[i].lit), .slice AI (L[i].inp.length) cI], .blk f 56 #[.slice (some ⟨r, 0, none⟩) L.length c, .map (some m)], .map m (encL strE (keysGo L 0)), .row (.slice (some ⟨r, 0, none⟩) L.length c) 38 3 L.length (gcells L vs), .ro D (Ins D L vs), .ro TabD Tab] := O12.nilin
    refine (call_find (f := f) (m := m) (R := (some ⟨r, 0, none⟩)) (c := c) (D := D) (L := L) (vs := vs) (D2 := (fun _ => False)) (V := .slice none 0 0) (g := ⟨1, 0, []⟩) (rest := [.blk g4 38 #[.int .i64 (L[i].kind), .int .i64 (L[i].lit), .slice AI (L[i].inp.length) cI]]) (O18.re [2, 3, 4, 5, 6, 0, 1] rfl : Own (zone (foldE f m (some ⟨r, 0, none⟩) c D L vs)) W w10 [.blk f 56 #[.slice (some ⟨r, 0, none⟩) L.length c, .map (some m)], .map m (encL strE (keysGo L 0)), .row (.slice (some ⟨r, 0, none⟩) L.length c) 38 3 L.length (gcells L vs), .ro D (Ins D L vs), .ro TabD Tab, .ro (fun _ => False) (fun w => IntsD (fun _ => False) w (.slice none 0 0) ([])), .blk g4 38 #[.int .i64 (L[i].kind), .int .i64 (L[i].lit), .slice AI (L[i].inp.length) cI]]) (small_c (smallI_lit 1 rfl) (smallI_lit 0 rfl)) hL).mono ?_
    rintro _ w19 ⟨R20, c21, D22, vs23, rfl, O24⟩
    refine ⟨_, rfl, ?_⟩
    refine wl_val (v := .int .i64 ((findG L ⟨1, 0, []⟩).2)) (fun ρ e => ex_assign (e _ _ rfl)) rfl rfl ?_
    refine wl_nil ?_
    refine xw_next K17 ?_
    refine cw_ret ?_
    refine xw_blockret ?_
    refine xw_past (by intro h; cases h) ?_
    refine xw_ret (v := .int .i64 ((findG L ⟨1, 0, []⟩).2)) (fun T hT => res1 rfl T _ (hT 4 _ rfl)) ?_
    exact FPost.eq ⟨_, _, _, _, rfl, (O24.re [0, 1, 2, 3, 4] rfl : Own (zone (foldE f m (some ⟨r, 0, none⟩) c D L vs)) W w19 [.blk f 56 #[.slice R20 (((findG L ⟨1, 0, []⟩).1).length) c21, .map (some m)], .map m (encL strE (keysGo ((findG L ⟨1, 0, []⟩).1) 0)), .row (.slice R20 (((findG L ⟨1, 0, []⟩).1).length) c21) 38 3 (((findG L ⟨1, 0, []⟩).1).length) (gcells ((findG L ⟨1, 0, []⟩).1) vs23), .ro D22 (Ins D22 ((findG L ⟨1, 0, []⟩).1) vs23), .ro TabD Tab])⟩ (by rw [notG_eq hi, if_pos c16])
  · skip
    refine wl_val (v := .bool false) (fun ρ e => ex_cmp (u := L[i].kind) (v := 0) (e _ _ rfl) (e _ _ rfl) (eql0 (by omega))) rfl rfl ?_
    refine wl_val (v := .bool false) (fun ρ e => ex_assign (e _ _ rfl)) rfl rfl ?_
    refine wl_nil ?_
    refine xw_next K15 ?_
    refine cw_false rfl ?_
    refine cw_seq (fun FK25 K25 => ?_)
    refine cw_region ?_
    by_cases c26 : L[i].kind = 1
    · skip
      refine wl_val (v := .bool true) (fun ρ e => ex_cmp (u := L[i].kind) (v := 1) (e _ _ rfl) (e _ _ rfl) (eql1 (by omega))) rfl rfl ?_
      refine wl_val (v := .bool true) (fun ρ e => ex_assign (e _ _ rfl)) rfl rfl ?_
      refine wl_nil ?_
      refine xw_next K25 ?_
      refine cw_true rfl ?_
      refine cw_seq (fun FK27 K27 => ?_)
      refine cw_region ?_
      refine wl_val (v := .pointer (some ⟨f, 0, none⟩)) (fun ρ e => ex_move (e _ _ rfl)) rfl rfl ?_
      refine wl_val (v := .agg #[.int .i64 0, .int .i64 0, .slice none 0 0]) (fun ρ e => ex_build (cells := #[.int .i64 0, .int .i64 0, .slice none 0 0]) st38 (e.parts rfl) rfl) rfl rfl ?_
      refine wl_call (args := [.pointer (some ⟨f, 0, none⟩), .agg #[.int .i64 0, .int .i64 0, .slice none 0 0]]) in_80 rfl rfl rfl ?_
      have O28 : Own (zone (foldE f m (some ⟨r, 0, none⟩) c D L vs)) W w10 [.ro (fun _ => False) (fun w => IntsD (fun _ => False) w (.slice none 0 0) ([])), .blk g4 38 #[.int .i64 (L[i].kind), .int .i64 (L[i].lit), .slice AI (L[i].inp.length) cI], .blk f 56 #[.slice (some ⟨r, 0, none⟩) L.length c, .map (some m)], .map m (encL strE (keysGo L 0)), .row (.slice (some ⟨r, 0, none⟩) L.length c) 38 3 L.length (gcells L vs), .ro D (Ins D L vs), .ro TabD Tab] := O12.nilin
      refine (call_find (f := f) (m := m) (R := (some ⟨r, 0, none⟩)) (c := c) (D := D) (L := L) (vs := vs) (D2 := (fun _ => False)) (V := .slice none 0 0) (g := ⟨0, 0, []⟩) (rest := [.blk g4 38 #[.int .i64 (L[i].kind), .int .i64 (L[i].lit), .slice AI (L[i].inp.length) cI]]) (O28.re [2, 3, 4, 5, 6, 0, 1] rfl : Own (zone (foldE f m (some ⟨r, 0, none⟩) c D L vs)) W w10 [.blk f 56 #[.slice (some ⟨r, 0, none⟩) L.length c, .map (some m)], .map m (encL strE (keysGo L 0)), .row (.slice (some ⟨r, 0, none⟩) L.length c) 38 3 L.length (gcells L vs), .ro D (Ins D L vs), .ro TabD Tab, .ro (fun _ => False) (fun w => IntsD (fun _ => False) w (.slice none 0 0) ([])), .blk g4 38 #[.int .i64 (L[i].kind), .int .i64 (L[i].lit), .slice AI (L[i].inp.length) cI]]) (small_c (smallI_lit 0 rfl) (smallI_lit 0 rfl)) hL).mono ?_
      rintro _ w29 ⟨R30, c31, D32, vs33, rfl, O34⟩
      refine ⟨_, rfl, ?_⟩
      refine wl_val (v := .int .i64 ((findG L ⟨0, 0, []⟩).2)) (fun ρ e => ex_assign (e _ _ rfl)) rfl rfl ?_
      refine wl_nil ?_
      refine xw_next K27 ?_
      refine cw_ret ?_
      refine xw_blockret ?_
      refine xw_past (by intro h; cases h) ?_
      refine xw_ret (v := .int .i64 ((findG L ⟨0, 0, []⟩).2)) (fun T hT => res1 rfl T _ (hT 4 _ rfl)) ?_
      exact FPost.eq ⟨_, _, _, _, rfl, (O34.re [0, 1, 2, 3, 4] rfl : Own (zone (foldE f m (some ⟨r, 0, none⟩) c D L vs)) W w29 [.blk f 56 #[.slice R30 (((findG L ⟨0, 0, []⟩).1).length) c31, .map (some m)], .map m (encL strE (keysGo ((findG L ⟨0, 0, []⟩).1) 0)), .row (.slice R30 (((findG L ⟨0, 0, []⟩).1).length) c31) 38 3 (((findG L ⟨0, 0, []⟩).1).length) (gcells ((findG L ⟨0, 0, []⟩).1) vs33), .ro D32 (Ins D32 ((findG L ⟨0, 0, []⟩).1) vs33), .ro TabD Tab])⟩ (by rw [notG_eq hi, if_neg c16, if_pos c26])
    · skip
      refine wl_val (v := .bool false) (fun ρ e => ex_cmp (u := L[i].kind) (v := 1) (e _ _ rfl) (e _ _ rfl) (eql0 (by omega))) rfl rfl ?_
      refine wl_val (v := .bool false) (fun ρ e => ex_assign (e _ _ rfl)) rfl rfl ?_
      refine wl_nil ?_
      refine xw_next K25 ?_
      refine cw_false rfl ?_
      refine cw_seq (fun FK35 K35 => ?_)
      refine cw_region ?_
      by_cases c36 : L[i].kind = 2
      · skip
        refine wl_val (v := .bool true) (fun ρ e => ex_cmp (u := L[i].kind) (v := 2) (e _ _ rfl) (e _ _ rfl) (eql1 (by omega))) rfl rfl ?_
        refine wl_val (v := .bool true) (fun ρ e => ex_assign (e _ _ rfl)) rfl rfl ?_
        refine wl_nil ?_
        refine xw_next K35 ?_
        refine cw_true rfl ?_
        refine cw_seq (fun FK37 K37 => ?_)
        refine cw_region ?_
        refine wl_val (v := .pointer (some ⟨f, 0, none⟩)) (fun ρ e => ex_move (e _ _ rfl)) rfl rfl ?_
        refine wl_val (v := .pointer (some ⟨g4, 1, none⟩)) (fun ρ e => ex_field (q := 1) fi38_1 (e _ _ rfl) rfl) rfl rfl ?_
        refine wl_val (v := .int .i64 (L[i].lit)) (fun ρ e => ex_load1 ty3 (e _ _ rfl) (O12.cell 0 1 rfl rfl)) rfl rfl ?_
        refine wl_val (v := .int .i64 (-(L[i].lit))) (fun ρ e => ex_minus (e _ _ rfl) (wrap_in (by omega) (by omega))) rfl rfl ?_
        refine wl_val (v := .agg #[.int .i64 2, .int .i64 (-(L[i].lit)), .slice none 0 0]) (fun ρ e => ex_build (cells := #[.int .i64 2, .int .i64 (-(L[i].lit)), .slice none 0 0]) st38 (e.parts rfl) rfl) rfl rfl ?_
        refine wl_call (args := [.pointer (some ⟨f, 0, none⟩), .agg #[.int .i64 2, .int .i64 (-(L[i].lit)), .slice none 0 0]]) in_80 rfl rfl rfl ?_
        have O38 : Own (zone (foldE f m (some ⟨r, 0, none⟩) c D L vs)) W w10 [.ro (fun _ => False) (fun w => IntsD (fun _ => False) w (.slice none 0 0) ([])), .blk g4 38 #[.int .i64 (L[i].kind), .int .i64 (L[i].lit), .slice AI (L[i].inp.length) cI], .blk f 56 #[.slice (some ⟨r, 0, none⟩) L.length c, .map (some m)], .map m (encL strE (keysGo L 0)), .row (.slice (some ⟨r, 0, none⟩) L.length c) 38 3 L.length (gcells L vs), .ro D (Ins D L vs), .ro TabD Tab] := O12.nilin
        refine (call_find (f := f) (m := m) (R := (some ⟨r, 0, none⟩)) (c := c) (D := D) (L := L) (vs := vs) (D2 := (fun _ => False)) (V := .slice none 0 0) (g := ⟨2, (-(L[i].lit)), []⟩) (rest := [.blk g4 38 #[.int .i64 (L[i].kind), .int .i64 (L[i].lit), .slice AI (L[i].inp.length) cI]]) (O38.re [2, 3, 4, 5, 6, 0, 1] rfl : Own (zone (foldE f m (some ⟨r, 0, none⟩) c D L vs)) W w10 [.blk f 56 #[.slice (some ⟨r, 0, none⟩) L.length c, .map (some m)], .map m (encL strE (keysGo L 0)), .row (.slice (some ⟨r, 0, none⟩) L.length c) 38 3 L.length (gcells L vs), .ro D (Ins D L vs), .ro TabD Tab, .ro (fun _ => False) (fun w => IntsD (fun _ => False) w (.slice none 0 0) ([])), .blk g4 38 #[.int .i64 (L[i].kind), .int .i64 (L[i].lit), .slice AI (L[i].inp.length) cI]]) (small_c (smallI_lit 2 rfl) (by have := (ok _ (List.getElem_mem hi)).1.2.1; unfold smallI at this ⊢; omega)) hL).mono ?_
        rintro _ w39 ⟨R40, c41, D42, vs43, rfl, O44⟩
        refine ⟨_, rfl, ?_⟩
        refine wl_val (v := .int .i64 ((findG L ⟨2, (-(L[i].lit)), []⟩).2)) (fun ρ e => ex_assign (e _ _ rfl)) rfl rfl ?_
        refine wl_nil ?_
        refine xw_next K37 ?_
        refine cw_ret ?_
        refine xw_blockret ?_
        refine xw_past (by intro h; cases h) ?_
        refine xw_ret (v := .int .i64 ((findG L ⟨2, (-(L[i].lit)), []⟩).2)) (fun T hT => res1 rfl T _ (hT 4 _ rfl)) ?_
        exact FPost.eq ⟨_, _, _, _, rfl, (O44.re [0, 1, 2, 3, 4] rfl : Own (zone (foldE f m (some ⟨r, 0, none⟩) c D L vs)) W w39 [.blk f 56 #[.slice R40 (((findG L ⟨2, (-(L[i].lit)), []⟩).1).length) c41, .map (some m)], .map m (encL strE (keysGo ((findG L ⟨2, (-(L[i].lit)), []⟩).1) 0)), .row (.slice R40 (((findG L ⟨2, (-(L[i].lit)), []⟩).1).length) c41) 38 3 (((findG L ⟨2, (-(L[i].lit)), []⟩).1).length) (gcells ((findG L ⟨2, (-(L[i].lit)), []⟩).1) vs43), .ro D42 (Ins D42 ((findG L ⟨2, (-(L[i].lit)), []⟩).1) vs43), .ro TabD Tab])⟩ (by rw [notG_eq hi, if_neg c16, if_neg c26, if_pos c36])
      · skip
        refine wl_val (v := .bool false) (fun ρ e => ex_cmp (u := L[i].kind) (v := 2) (e _ _ rfl) (e _ _ rfl) (eql0 (by omega))) rfl rfl ?_
        refine wl_val (v := .bool false) (fun ρ e => ex_assign (e _ _ rfl)) rfl rfl ?_
        refine wl_nil ?_
        refine xw_next K35 ?_
        refine cw_false rfl ?_
        refine cw_seq (fun FK45 K45 => ?_)
        refine cw_region ?_
        by_cases c46 : L[i].kind = 3
        · skip
          have hn3 : 0 < L[i].inp.length := (ok _ (List.getElem_mem hi)).2 c46
          obtain ⟨b, o, cJ, hbI⟩ := hD.form hn3
          refine wl_val (v := .bool true) (fun ρ e => ex_cmp (u := L[i].kind) (v := 3) (e _ _ rfl) (e _ _ rfl) (eql1 (by omega))) rfl rfl ?_
          refine wl_val (v := .bool true) (fun ρ e => ex_assign (e _ _ rfl)) rfl rfl ?_
          refine wl_nil ?_
          refine xw_next K45 ?_
          refine cw_true rfl ?_
          refine cw_seq (fun FK47 K47 => ?_)
          refine cw_region ?_
          refine wl_val (v := .pointer (some ⟨g4, 2, none⟩)) (fun ρ e => ex_field (q := 2) fi38_2 (e _ _ rfl) rfl) rfl rfl ?_
          refine wl_val (v := .slice AI (L[i].inp.length) cI) (fun ρ e => ex_load1 ty36 (e _ _ rfl) (O12.cell 0 2 rfl rfl)) rfl rfl ?_
          refine wl_val (v := .pointer (some ⟨b, o, none⟩)) (fun ρ e => ex_idx (q := o) (o := o) el36 ((e _ _ rfl).trans hbI) (i := 0) (e _ _ rfl) hn3 (by omega)) rfl rfl ?_
          refine wl_val (v := .int .i64 (L[i].inp[0])) (fun ρ e => ex_load1 ty3 (e _ _ rfl) ((((O12.ro 4 rfl : Ins D L vs _).2 i _ _ (List.getElem?_eq_getElem hi) (hv.trans (congrArg some hbI))).cell hn3))) rfl rfl ?_
          refine wl_val (v := .int .i64 (L[i].inp[0])) (fun ρ e => ex_assign (e _ _ rfl)) rfl rfl ?_
          refine wl_nil ?_
          refine xw_next K47 ?_
          refine cw_ret ?_
          refine xw_blockret ?_
          refine xw_past (by intro h; cases h) ?_
          refine xw_ret (v := .int .i64 (L[i].inp[0])) (fun T hT => res1 rfl T _ (hT 4 _ rfl)) ?_
          refine FPost.eq (q' := (L, L[i].inp[0])) ⟨_, _, _, _, rfl, (O12.re [1, 2, 3, 4, 5] rfl : Own (zone (foldE f m (some ⟨r, 0, none⟩) c D L vs)) W w10 [.blk f 56 #[.slice (some ⟨r, 0, none⟩) L.length c, .map (some m)], .map m (encL strE (keysGo L 0)), .row (.slice (some ⟨r, 0, none⟩) L.length c) 38 3 L.length (gcells L vs), .ro D (Ins D L vs), .ro TabD Tab])⟩ ?_
          rw [notG_eq hi, if_neg c16, if_neg c26, if_neg c36, if_pos c46]
          simp [List.getElem?_eq_getElem hn3]
        · skip
          refine wl_val (v := .bool false) (fun ρ e => ex_cmp (u := L[i].kind) (v := 3) (e _ _ rfl) (e _ _ rfl) (eql0 (by omega))) rfl rfl ?_
          refine wl_val (v := .bool false) (fun ρ e => ex_assign (e _ _ rfl)) rfl rfl ?_
          refine wl_nil ?_
          refine xw_next K45 ?_
          refine cw_false rfl ?_
          refine cw_skip ?_
          refine xw_block ?_
          refine xw_next K2 ?_
          refine cw_seq (fun FK48 K48 => ?_)
          refine cw_region ?_
          refine wl_val (v := .pointer (some ⟨f, 0, none⟩)) (fun ρ e => ex_move (e _ _ rfl)) rfl rfl ?_
          refine wl_val (v := .int .i64 (i : Int)) (fun ρ e => ex_move (e _ _ rfl)) rfl rfl ?_
          obtain ⟨g49, w50, r51, O52, hg53, hs54⟩ := own_slice O12 el36 ze3 1 [(0, .int .i64 (i : Int))] (cs := #[.int .i64 (i : Int)]) (by decide) (by kernel_rfl)
          refine wl_val (v := .slice (some ⟨g49, 0, none⟩) 1 1) (fun ρ e => r51 ρ _ _ _ _ _ _ (e.parts rfl)) rfl rfl ?_
          refine wl_val (v := .agg #[.int .i64 3, .int .i64 0, .slice (some ⟨g49, 0, none⟩) 1 1]) (fun ρ e => ex_build (cells := #[.int .i64 3, .int .i64 0, .slice (some ⟨g49, 0, none⟩) 1 1]) st38 (e.parts rfl) rfl) rfl rfl ?_
          refine wl_call (args := [.pointer (some ⟨f, 0, none⟩), .agg #[.int .i64 3, .int .i64 0, .slice (some ⟨g49, 0, none⟩) 1 1]]) in_80 rfl rfl rfl ?_
          have O55 : Own (zone (foldE f m (some ⟨r, 0, none⟩) c D L vs)) W w50 [.ro (fun k => k = g49) (fun w => IntsD (fun k => k = g49) w (.slice (some ⟨g49, 0, none⟩) 1 1) ([(i : Int)])), .blk g4 38 #[.int .i64 (L[i].kind), .int .i64 (L[i].lit), .slice AI (L[i].inp.length) cI], .blk f 56 #[.slice (some ⟨r, 0, none⟩) L.length c, .map (some m)], .map m (encL strE (keysGo L 0)), .row (.slice (some ⟨r, 0, none⟩) L.length c) 38 3 L.length (gcells L vs), .ro D (Ins D L vs), .ro TabD Tab] := Own.blkin (l := [(i : Int)]) O52 rfl rfl (by decide)
          refine (call_find (f := f) (m := m) (R := (some ⟨r, 0, none⟩)) (c := c) (D := D) (L := L) (vs := vs) (D2 := (fun k => k = g49)) (V := .slice (some ⟨g49, 0, none⟩) 1 1) (g := ⟨3, 0, [(i : Int)]⟩) (rest := [.blk g4 38 #[.int .i64 (L[i].kind), .int .i64 (L[i].lit), .slice AI (L[i].inp.length) cI]]) (O55.re [2, 3, 4, 5, 6, 0, 1] rfl : Own (zone (foldE f m (some ⟨r, 0, none⟩) c D L vs)) W w50 [.blk f 56 #[.slice (some ⟨r, 0, none⟩) L.length c, .map (some m)], .map m (encL strE (keysGo L 0)), .row (.slice (some ⟨r, 0, none⟩) L.length c) 38 3 L.length (gcells L vs), .ro D (Ins D L vs), .ro TabD Tab, .ro (fun k => k = g49) (fun w => IntsD (fun k => k = g49) w (.slice (some ⟨g49, 0, none⟩) 1 1) ([(i : Int)])), .blk g4 38 #[.int .i64 (L[i].kind), .int .i64 (L[i].lit), .slice AI (L[i].inp.length) cI]]) (small_n (smallI_lit 3 rfl) (by intro x hx; rw [List.mem_singleton.1 hx]; unfold smallI; omega) (Nat.le_of_ble_eq_true rfl)) hL).mono ?_
          rintro _ w56 ⟨R57, c58, D59, vs60, rfl, O61⟩
          refine ⟨_, rfl, ?_⟩
          refine wl_val (v := .int .i64 ((findG L ⟨3, 0, [(i : Int)]⟩).2)) (fun ρ e => ex_assign (e _ _ rfl)) rfl rfl ?_
          refine wl_nil ?_
          refine xw_next K48 ?_
          refine cw_ret ?_
          refine xw_ret (v := .int .i64 ((findG L ⟨3, 0, [(i : Int)]⟩).2)) (fun T hT => res1 rfl T _ (hT 4 _ rfl)) ?_
          exact FPost.eq ⟨_, _, _, _, rfl, (O61.re [0, 1, 2, 3, 4] rfl : Own (zone (foldE f m (some ⟨r, 0, none⟩) c D L vs)) W w56 [.blk f 56 #[.slice R57 (((findG L ⟨3, 0, [(i : Int)]⟩).1).length) c58, .map (some m)], .map m (encL strE (keysGo ((findG L ⟨3, 0, [(i : Int)]⟩).1) 0)), .row (.slice R57 (((findG L ⟨3, 0, [(i : Int)]⟩).1).length) c58) 38 3 (((findG L ⟨3, 0, [(i : Int)]⟩).1).length) (gcells ((findG L ⟨3, 0, [(i : Int)]⟩).1) vs60), .ro D59 (Ins D59 ((findG L ⟨3, 0, [(i : Int)]⟩).1) vs60), .ro TabD Tab])⟩ (by rw [notG_eq hi, if_neg c16, if_neg c26, if_neg c36, if_neg c46])
end
end Go.Proofs.YtbemhgojfehnjaaDoor
