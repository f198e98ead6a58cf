/-
  A new element appended to a slice that the call itself made, as a step of a region that draws its order.
-/
import Derived.Test.YtlifakbdgmdafaaEnc
import Derived.Deep.RegionHeldLaw
namespace Go.Proofs.Ytlifakbdgmdafaa
open Go Go.RowKit

theorem step_append_cells (w0 : World) {ops : Array Oper} {o : Oper} {a : Act} {K : Act → World → Prop} {Q : Exit → Act → World → Prop} {E : Prop} (hgd : o.guard = none) (s x : Operand) (t e : TypeId) (size bytes : Nat) (z : Value)
    (ht : Try.prog.underlying t = some (.slice e)) (hinfo : (Try.prog.info? e).map (fun i => (i.zero, i.size, i.bytes)) = some (some z, size, bytes)) (hzs : z.cells.size = size) (hsz : 0 < size)
    (ho : o.op = .call { callee := .builtin .append, args := #[s, x], argTypes := #[t, t] }) (base : Nat) (v : Value) (n : Nat) (xs : List Value) (hs : a.eval s = v) (hown : w0.ownsRow base e size v n xs)
    (cells : List Value) (hl : cells.length = size) (h1 : ∀ u ∈ cells, u.oneCell' = true) (hx : a.eval x = .slice (some ⟨w0.heap.size, 0, none⟩) 1 1) (hlen : (n + 1) * bytes ≤ 140737488355328) (hn : n ≤ 1099511627776) (hbase : base ≤ w0.heap.size)
    (h : ∀ A c w', w'.ownsRow base e size (.slice A (n + 1) c) (n + 1) (xs ++ cells) → w0.grownBy w' v.ownBlock → K (a.put o.dst (.slice A (n + 1) c)) w') :
    if Region.wanted o (yielded ops a.tmps) = true then Oper.wp Try.prog o a (w0.alloc (.cells cells.toArray e)) K Q else E := by
  rw [if_pos (by simp [Region.wanted, hgd])]
  obtain ⟨i, hi, hz, hs', hb⟩ := info_parts hinfo
  obtain ⟨v', w', hrun, h2, h3, _⟩ := run_append_own (P := Try.prog) (w0.alloc (.cells cells.toArray e)) base t o.type e i _ size bytes ht hi hz hs' hb hzs hsz v n xs (hown.alloc _) ⟨w0.heap.size, 0, none⟩ 1 1 cells (by omega)
    (fun j u hu => by
      have hadd : (⟨w0.heap.size, 0, none⟩ : Addr).add j = ⟨w0.heap.size, j, none⟩ := by unfold Addr.add; split <;> simp_all
      rw [hadd, (Blk.new w0 e cells.toArray).cell j]
      simpa using hu)
    h1 (by unfold maxLen; omega) hlen (by simp; omega)
  obtain ⟨A, c, rfl⟩ := own_form h2
  unfold Oper.wp execOp
  simp only [ho, resolve, invoke, builtin, Sem.run_bind, Sem.run_pure, Result.andThen_ok, List.map_toArray, List.map_cons, List.map_nil, hs, hx, hrun]
  exact h A c w' h2 ⟨h3.os, h3.tape, h3.output, Nat.le_trans (by simp) h3.size, fun k hk hne => (h3.block k (by simp; omega) hne).trans (Below.heap_alloc _ _ _ hk)⟩

def OwnBools (w : World) (base : Nat) (v : Value) (l : List Bool) : Prop := w.ownsRow base 4 1 v l.length (l.map Value.bool)
theorem OwnBools.V {w : World} {base : Nat} {v : Value} {l : List Bool} (h : OwnBools w base v l) : BoolsV w w.heap.size v l := by
  obtain ⟨h1, h2⟩ := h
  rcases h2 with ⟨rfl, hn⟩ | ⟨g, cap, cur, rfl, _, hg, hnc, hcm, _, htake⟩
  · exact ⟨none, 0, by rw [hn], by omega, by unfold maxLen; omega, fun hp => by omega⟩
  · refine ⟨_, cap, rfl, hnc, hcm, fun _ => ⟨g, 0, (Array.getElem?_eq_some_iff.1 hg).1, rfl, fun i x hx => ?_⟩⟩
    show w.cell? _ = _
    rw [show 0 + i * 1 = i from by omega, cell_of_row w g i cur _ (0, 0) hg]
    have : cur.toList.take (l.length * 1) = l.map Value.bool := htake
    have hi : i < l.length := (List.getElem?_eq_some_iff.1 hx).1
    have h3 : (cur.toList.take (l.length * 1))[i]? = some (.bool x) := by rw [this, List.getElem?_map, hx]; rfl
    rw [List.getElem?_take_of_lt (by omega)] at h3
    simpa using h3
theorem OwnBools.nil (w : World) (base : Nat) : OwnBools w base (.slice none 0 0) [] := World.ownsRow_nil w base _ _
theorem OwnBools.snoc {w : World} {base : Nat} {v : Value} {l : List Bool} {y : Bool} (h : w.ownsRow base 4 1 v (l.length + 1) (l.map Value.bool ++ [.bool y])) : OwnBools w base v (l ++ [y]) := by
  unfold OwnBools
  rw [List.length_append, List.map_append]
  exact h
theorem info_bool' : (Try.prog.info? 4).map (fun i => (i.zero, i.size, i.bytes)) = some (some (.bool false), 1, 1) := by kernel_rfl
end Go.Proofs.Ytlifakbdgmdafaa
