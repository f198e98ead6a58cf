/-
  Arguments opened: a circuit, a set, a list of numbers.
-/
import Derived.Test.YtlifakbdgmdafaaPost
import Derived.Test.YtlifakbdgmdafaaMem
import Derived.Test.YtlifakbdgmdafaaSets
import Derived.Carry
import Derived.Deep.Slices
import Derived.Deep.Fields
import Derived.Lib.SmallJoins
import Derived.ChangeSame
import Derived.DataReads
namespace Go.Proofs.Ytlifakbdgmdafaa
open Go Go.RowKit Go.ChangeShapes Go.WideShapes Go.Deep Go.Joins

theorem laidOut : laidOutB Try.prog = true := by kernel_rfl

section
variable {H : Type} {enc : TypeId × Value → H} {W : World} {held : Bool}

theorem block_lt {a : Addr} {v : Value} (h : W.cell? a = some v) : a.block < W.heap.size := by
  unfold World.cell? at h
  split at h
  · rename_i he
    exact (Array.getElem?_eq_some_iff.1 he).1
  · cases h
theorem addr_eta {a : Addr} {v : Value} (h : W.cell? a = some v) : a = ⟨a.block, a.off, none⟩ := by
  have := World.cell?_spot h
  cases a; simp_all
theorem addr_add (b o j : Nat) : (⟨b, o, none⟩ : Addr).add j = ⟨b, o + j, none⟩ := by unfold Addr.add; split <;> simp_all

theorem open_intsV {fuel : Nat} {cs : List Value} {x : DataW H × List MemPlace} (h : DataW.trod enc Try.prog W 0 (fun _ => true) held fuel 30 cs = some x) :
    ∃ v xs, cs = [v] ∧ IntsV W W.heap.size v xs ∧ ∀ y ∈ xs, -9223372036854775808 ≤ y ∧ y ≤ 9223372036854775807 := by
  rcases open_ints Try.underlying30 Try.underlying3 (by kernel_rfl) h with ⟨rfl, rfl⟩ | ⟨a, len, cap, zs, rfl, _, hl, hm, hz, rfl, hc, hw⟩
  · exact ⟨_, [], rfl, ⟨none, 0, rfl, by simp, by unfold maxLen; omega, fun h => by simp at h⟩, by simp⟩
  · simp only [if_true] at hz
    have hlen : (zs.take len).length = len := by rw [List.length_take]; omega
    refine ⟨_, zs.take len, rfl, ⟨some a, cap, by rw [hlen], by rw [hlen]; exact hl, hm, fun hp => ?_⟩, fun y hy => ?_⟩
    · have h0 := hc 0 (by omega)
      have ha : a.add 0 = a := by simp [Addr.add]
      rw [ha] at h0
      have he := addr_eta h0
      refine ⟨a.block, a.off, block_lt h0, by rw [← he], fun i y hy => ?_⟩
      have hi : i < len := by
        have := (List.getElem?_eq_some_iff.1 hy).1
        omega
      have h1 := hc i (by omega)
      rw [he, addr_add] at h1
      rw [List.getElem?_take_of_lt hi] at hy
      rw [List.getD_eq_getElem?_getD, hy] at h1
      unfold IntAt
      simpa using h1
    · have := hw y (List.mem_of_mem_take hy)
      simp [Lit.wf] at this
      have e1 : IntKind.i64.min = -9223372036854775808 := rfl
      have e2 : IntKind.i64.max = 9223372036854775807 := rfl
      omega

theorem open_fields {t : TypeId} {fs : Array Field} {fuel : Nat} {cs : List Value} {x : DataW H × List MemPlace} (ht : Try.prog.underlying t = some (.struct fs)) (hone : oneCellFields Try.prog fs = true)
    (h : DataW.trod enc Try.prog W 0 (fun _ => true) held fuel t cs = some x) (hl : cs.length = fs.size) :
    ∀ (j : Nat) (f : Field), fs[j]? = some f → ∃ v n y, cs[j]? = some v ∧ DataW.trod enc Try.prog W 0 (fun _ => true) held n f.type [v] = some y := by
  obtain ⟨ys, n', hn', hy, hlen, hyl, hf⟩ := DataW.trod_struct ht h
  intro j f hj
  obtain ⟨ho, hk⟩ := hone_of hone j f hj
  have hjl : j < fs.size := (Array.getElem?_eq_some_iff.1 hj).1
  have h1 := hf j f hj
  rw [ho, hk] at h1
  have hone' : (cs.drop j).take 1 = [cs[j]'(by omega)] := by
    rw [List.drop_eq_getElem_cons (by omega)]
    rfl
  rw [hone'] at h1
  have hys : ys[j]? = some (ys[j]'(by omega)) := List.getElem?_eq_getElem (by omega)
  exact ⟨_, _, _, List.getElem?_eq_getElem (by omega), h1.trans hys⟩

theorem open_gate {fuel : Nat} {cs : List Value} {x : DataW H × List MemPlace} (hl : cs.length = 3) (h : DataW.trod enc Try.prog W 0 (fun _ => true) held fuel 44 cs = some x) :
    ∃ (g : Gate) (v : Value), cs = [.int .i64 g.kind, .int .i64 g.lit, v] ∧ IntsV W W.heap.size v g.inp := by
  have hf := open_fields Try.underlying44 (by kernel_rfl) h (by rw [hl]; rfl)
  obtain ⟨v0, n0, y0, c0, t0⟩ := hf 0 _ rfl
  obtain ⟨v1, n1, y1, c1, t1⟩ := hf 1 _ rfl
  obtain ⟨v2, n2, y2, c2, t2⟩ := hf 2 _ rfl
  obtain ⟨k, hk, _, _⟩ := DataW.trod_int Try.underlying3 t0
  obtain ⟨l, hl', _, _⟩ := DataW.trod_int Try.underlying3 t1
  obtain ⟨v, xs, hv, hI, _⟩ := open_intsV t2
  injection hk with hk _
  injection hl' with hl' _
  injection hv with hv _
  subst hk hl' hv
  refine ⟨⟨k, l, xs⟩, v2, ?_, hI⟩
  match cs, hl with
  | [a, b, c], _ => simp at c0 c1 c2; rw [c0, c1, c2]

theorem open_gatesV {fuel : Nat} {cs : List Value} {x : DataW H × List MemPlace} (h : DataW.trod enc Try.prog W 0 (fun _ => true) held fuel 22 cs = some x) :
    ∃ v gs, cs = [v] ∧ GatesV W W.heap.size v gs := by
  have hC : Try.prog.cellsOf 44 = 3 := by kernel_rfl
  rcases open_slice Try.underlying22 h with ⟨rfl, rfl⟩ | ⟨a, len, cap, m, n, D, Pl, rfl, hb, hl, hm, hmm, hx, hi⟩
  · exact ⟨_, [], rfl, ⟨none, 0, rfl, by simp, by unfold maxLen; omega, fun h => by simp at h⟩⟩
  · simp only [if_true] at hmm
    subst hmm
    rw [hC] at hi
    have each : ∀ i, i < m → ∃ g : Gate, GateAt W.heap.size W ⟨a.block, a.off + i * 3, none⟩ g ∧ (i = 0 → a = ⟨a.block, a.off, none⟩ ∧ a.block < W.heap.size) := fun i hlt => by
      obtain ⟨cs', hcs, ht⟩ := hi i hlt
      obtain ⟨_, hcl, hat⟩ := World.cells?_some hcs
      obtain ⟨g, v, rfl, hI⟩ := open_gate hcl ht
      have h0 := hat 0 (by omega)
      have h1 := hat 1 (by omega)
      have h2 := hat 2 (by omega)
      have he : a.add (i * 3) = ⟨a.block, a.off + i * 3, none⟩ := by
        unfold Addr.add at h0 ⊢
        split
        · rename_i hz
          rw [if_pos hz, if_pos rfl] at h0
          rw [hz]
          exact addr_eta h0
        · rfl
      rw [he] at h0 h1 h2
      rw [addr_add] at h0 h1 h2
      refine ⟨g, ⟨h0, h1, v, h2, hI⟩, fun e0 => ?_⟩
      subst e0
      have ha : a.add (0 * 3) = a := by simp [Addr.add]
      rw [ha] at he
      refine ⟨he, ?_⟩
      exact block_lt (a := ⟨a.block, a.off + 0 * 3 + 0, none⟩) h0
    have all : ∀ k, k ≤ len → ∃ gs : List Gate, gs.length = k ∧ ∀ i g, gs[i]? = some g → GateAt W.heap.size W ⟨a.block, a.off + i * 3, none⟩ g := by
      intro k
      induction k with
      | zero => exact fun _ => ⟨[], rfl, fun i g h => by simp at h⟩
      | succ k ih =>
        intro hk
        obtain ⟨gs, h1, h2⟩ := ih (by omega)
        obtain ⟨g, hg, _⟩ := each k (by omega)
        refine ⟨gs ++ [g], by simp [h1], fun i g' hi' => ?_⟩
        by_cases hlt : i < gs.length
        · rw [List.getElem?_append_left hlt] at hi'; exact h2 i g' hi'
        · have : i = k := by
            have := (List.getElem?_eq_some_iff.1 hi').1
            simp at this; omega
          subst this
          rw [List.getElem?_append_right (by omega), h1] at hi'
          simp at hi'
          subst hi'
          exact hg
    obtain ⟨gs, h1, h2⟩ := all len (Nat.le_refl _)
    subst h1
    refine ⟨_, gs, rfl, some a, m, rfl, hl, hm, fun hp => ?_⟩
    obtain ⟨_, _, h3⟩ := each 0 (by omega)
    obtain ⟨h4, h5⟩ := h3 rfl
    exact ⟨a.block, a.off, h5, by rw [← h4], h2⟩

theorem open_circuit {r : Reach} {b0 : Nat} {v : Value} {d : DataW H} {p : List MemPlace} (hv : Value.okWide Try.prog W r b0 24 v) (h : DataW.Trod enc Try.prog W 0 (fun _ => true) held 24 v d p) :
    ∃ (N : Int) (V : Value) (gs : List Gate), v = .agg #[.int .i64 N, V] ∧ GatesV W W.heap.size V gs ∧ -9223372036854775808 ≤ N ∧ N ≤ 9223372036854775807 := by
  obtain ⟨v0, v1, y0, y1, n, rfl, rfl, rfl, t0, t1⟩ := open_agg2 Try.underlying24 (by kernel_rfl) (by kernel_rfl) hv h
  obtain ⟨k, hk, _, hw⟩ := DataW.trod_int Try.underlying3 t0
  obtain ⟨V, gs, hV, hG⟩ := open_gatesV t1
  injection hk with hk _
  injection hV with hV _
  subst hk hV
  have hw' : -9223372036854775808 ≤ k ∧ k ≤ 9223372036854775807 := by
    simp [Lit.wf] at hw
    have e1 : IntKind.i64.min = -9223372036854775808 := rfl
    have e2 : IntKind.i64.max = 9223372036854775807 := rfl
    omega
  exact ⟨k, v1, gs, rfl, hG, hw'.1, hw'.2⟩

theorem okWide_arr {r : Reach} {b0 : Nat} {v : Value} {t e : TypeId} {n : Nat} (ht : Try.prog.underlying t = some (.array n e)) (h : Value.okWide Try.prog W r b0 t v) : ∃ cs, v = .agg cs ∧ cs.size = Try.prog.cellsOf t := by
  simp only [Value.okWide, ht] at h
  obtain ⟨cs, h1, h2, _⟩ := h
  exact ⟨cs, h1, h2⟩
theorem open_set {r : Reach} {b0 : Nat} {v : Value} {d : DataW H} {p : List MemPlace} (hv : Value.okWide Try.prog W r b0 38 v) (h : DataW.Trod enc Try.prog W 0 (fun _ => true) held 38 v d p) :
    ∃ s : VS, v = (.agg #[.int .u64 ((s).a.toNat : Int), .int .u64 ((s).b.toNat : Int)]) := by
  obtain ⟨cs, rfl, hsz⟩ := okWide_arr Try.underlying38 hv
  obtain ⟨fuel, hf⟩ := h
  obtain ⟨xs, m, _, _, hlen, hxl, hi⟩ := DataW.trod_array Try.underlying38 hf
  have hC : Try.prog.cellsOf 36 = 1 := by kernel_rfl
  have hC2 : Try.prog.cellsOf 38 = 2 := by kernel_rfl
  rw [hC2] at hsz
  obtain ⟨l⟩ := cs
  match l, hsz, xs, hxl with
  | [c0, c1], _, [y0, y1], _ =>
    have h0 := hi 0 (by omega)
    have h1 := hi 1 (by omega)
    rw [hC] at h0 h1
    simp [Value.cells] at h0 h1
    obtain ⟨a, ha, _, wa⟩ := DataW.trod_int Try.underlying36 h0
    obtain ⟨b, hb, _, wb⟩ := DataW.trod_int Try.underlying36 h1
    injection ha with ha _
    injection hb with hb _
    subst ha hb
    simp [Lit.wf] at wa wb
    have e1 : IntKind.u64.min = 0 := rfl
    have e2 : IntKind.u64.max = 18446744073709551615 := rfl
    refine ⟨⟨BitVec.ofNat 64 a.toNat, BitVec.ofNat 64 b.toNat⟩, ?_⟩
    have ea : ((BitVec.ofNat 64 a.toNat).toNat : Int) = a := by
      rw [BitVec.toNat_ofNat, Nat.mod_eq_of_lt (by omega)]; omega
    have eb : ((BitVec.ofNat 64 b.toNat).toNat : Int) = b := by
      rw [BitVec.toNat_ofNat, Nat.mod_eq_of_lt (by omega)]; omega
    simp only [ea, eb]
end
end Go.Proofs.Ytlifakbdgmdafaa
