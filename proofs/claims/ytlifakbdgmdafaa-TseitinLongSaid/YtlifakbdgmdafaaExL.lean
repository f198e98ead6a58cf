/-
  Single operations for the laws' walks: stores of pairs, slices of sets.
-/
import Derived.Test.YtlifakbdgmdafaaEx
import Derived.Test.YtlifakbdgmdafaaOwnSets
namespace Go.Proofs.Ytlifakbdgmdafaa
open Go Go.RowKit
section
variable {P : Program} {ops : Array Oper} {Q : Exit → Act → World → Prop} {S : World → Prop} {r : List (Nat × Nat)} {rest : List Oper} {n : Nat} {m : List (Nat × Value)} {w : World} {i g : Nat} {op : Op} {t T : TypeId} {pos : String} {aft : Array Edge} {gd : Option (Nat × Bool)} {u0 u1 v0 v1 : Value}
theorem below_put {B g : Nat} {w : World} (h : B ≤ g) (i : Nat) (u : Value) : Below B w (w.setCell ⟨g, i, none⟩ u) := (Below.refl _ _).setCell h _
theorem blk2_put (hk : Blk w g T #[u0, u1]) : Blk ((w.setCell ⟨g, 0, none⟩ v0).setCell ⟨g, 1, none⟩ v1) g T #[v0, v1] := by
  have h := (hk.put 0 v0).put 1 v1
  simpa using h
theorem wl_store2 (hr : ∀ ρ, Reads m ρ → (execOp ρ ⟨none, op, t, pos, aft, gd⟩).run P w = .ok .skip ((w.setCell ⟨g, 0, none⟩ v0).setCell ⟨g, 1, none⟩ v1)) (hg : wantedM ops m gd = some true) (hk : Blk w g T #[u0, u1])
    (h : ∀ w', w'.heap.size = w.heap.size → (∀ B, B ≤ g → Below B w w') → Blk w' g T #[v0, v1] → wl P ops Q rest n m w') : wl P ops Q (⟨none, op, t, pos, aft, gd⟩ :: rest) n m w :=
  wl_none hr hg (h _ (by simp [World.setCell]) (fun B hB => (below_put hB 0 v0).trans (below_put hB 1 v1)) (blk2_put hk))
theorem wt2_store2 (ho : ops[i]? = some ⟨none, op, t, pos, aft, gd⟩) (hr : ∀ ρ, Reads m ρ → (execOp ρ ⟨none, op, t, pos, aft, gd⟩).run P w = .ok .skip ((w.setCell ⟨g, 0, none⟩ v0).setCell ⟨g, 1, none⟩ v1)) (hg : wantedM ops m gd = some true) (hk : Blk w g T #[u0, u1])
    (h : ∀ w', w'.heap.size = w.heap.size → (∀ B, B ≤ g → Below B w w') → Blk w' g T #[v0, v1] → S w' ∧ wt P ops Q S r n m w') : wt P ops Q S ((i, 2) :: r) n m w := by
  obtain ⟨h1, h2⟩ := h _ (by simp [World.setCell]) (fun B hB => (below_put hB 0 v0).trans (below_put hB 1 v1)) (blk2_put hk)
  exact wt2_none ho hr hg h1 h2
end
section
variable {ρ : Operand → Value} {d : Option Tmp} {x y : Operand} {t : TypeId} {pos : String} {aft : Array Edge} {gd : Option (Nat × Bool)} {w : World}
theorem ex_storeTheory {g : Nat} {u0 u1 : Value} {k : Int} {A : Option Addr} {l c : Nat} (hx : ρ x = .pointer (some ⟨g, 0, none⟩)) (hy : ρ y = .agg #[.int .i64 k, .slice A l c]) (h : Blk w g 29 #[u0, u1]) :
    (execOp ρ ⟨d, .store 29 x y, t, pos, aft, gd⟩).run Try.prog w = .ok .skip ((w.setCell ⟨g, 0, none⟩ (.int .i64 k)).setCell ⟨g, 1, none⟩ (.slice A l c)) := by
  have q0 := h.cell 0
  have q1 := h.cell 1
  have f0 := h.free 0
  have f1 := h.free 1
  simp at q0 q1
  simp [go_sem, hx, hy, q0, q1, f0, f1]
theorem ex_storeSet {g : Nat} {u0 u1 : Value} {a b : Int} (hx : ρ x = .pointer (some ⟨g, 0, none⟩)) (hy : ρ y = .agg #[.int .u64 a, .int .u64 b]) (h : Blk w g 38 #[u0, u1]) :
    (execOp ρ ⟨d, .store 38 x y, t, pos, aft, gd⟩).run Try.prog w = .ok .skip ((w.setCell ⟨g, 0, none⟩ (.int .u64 a)).setCell ⟨g, 1, none⟩ (.int .u64 b)) := by
  have q0 := h.cell 0
  have q1 := h.cell 1
  have f0 := h.free 0
  have f1 := h.free 1
  simp at q0 q1
  simp [go_sem, hx, hy, q0, q1, f0, f1]
theorem ex_buildSet1 {a b : Int} (hx : ρ x = .agg #[.int .u64 a, .int .u64 b]) : (execOp ρ ⟨d, .buildSlice 46 1 #[(0, x)], t, pos, aft, gd⟩).run Try.prog w = .ok (.value (.slice (some ⟨w.heap.size, 0, none⟩) 1 1)) (w.alloc (.cells #[.int .u64 a, .int .u64 b] 38)) := by
  simp [go_sem, hx]
end
section
variable {ops : Array Oper} {Q : Exit → Act → World → Prop} {rest : List Oper} {n : Nat} {m : List (Nat × Value)} {w : World} {d : Nat} {t : TypeId} {pos : String} {aft : Array Edge} {gd : Option (Nat × Bool)}
theorem run_append_set {v : Value} {l : List VS} {y : VS} {g base : Nat} (ty : TypeId) (hown : OwnSets w base v l) (hk : Blk w g 38 #[.int .u64 (y.a.toNat : Int), .int .u64 (y.b.toNat : Int)]) (hlen : l.length ≤ 1099511627776) (hbase : base ≤ w.heap.size) :
    ∃ A c w', (Builtin.append_ #[46, 46] ty #[v, .slice (some ⟨g, 0, none⟩) 1 1]).run Try.prog w = .ok (.slice A (l.length + 1) c) w' ∧ OwnSets w' base (.slice A (l.length + 1) c) (l ++ [y]) ∧ w.grownBy w' v.ownBlock := by
  obtain ⟨i, hi, hz, hsz, hb⟩ := info_parts info_set'
  obtain ⟨v', w', hrun, h2, h3, _, h5⟩ := run_append_own_at (P := Try.prog) (w := w) base 46 ty 38 i _ 2 16 Try.underlying46 hi hz hsz hb rfl (by decide) v _ _ hown ⟨g, 0, none⟩ 1 1 [.int .u64 (y.a.toNat : Int), .int .u64 (y.b.toNat : Int)] rfl
    (fun j u hu => by
      have hadd : (⟨g, 0, none⟩ : Addr).add j = ⟨g, j, none⟩ := by unfold Addr.add; split <;> simp_all
      rw [hadd, hk.cell j]
      simpa using hu)
    (by intro u hu; simp at hu; rcases hu with rfl | rfl <;> rfl) (by unfold maxLen; omega) (by omega) hbase
  obtain ⟨A, c, rfl⟩ := own_form h2
  exact ⟨A, c, w', hrun, OwnSets.cast h2, h3⟩
theorem exec_append_set {ρ : Operand → Value} {d : Option Tmp} {x y : Operand} {v u : Value} {w' : World} {V : Value} (hx : ρ x = v) (hy : ρ y = u) (h : (Builtin.append_ #[46, 46] t #[v, u]).run Try.prog w = .ok V w') :
    (execOp ρ ⟨d, .call ⟨.builtin .append, #[x, y], #[46, 46]⟩, t, pos, aft, gd⟩).run Try.prog w = .ok (.value V) w' := by
  unfold execOp
  simp only [resolve, invoke, builtin, Sem.run_bind, Sem.run_pure, Result.andThen_ok, List.map_toArray, List.map_cons, List.map_nil, hx, hy, h]
theorem wl_append_set {x y : Operand} {v : Value} {l : List VS} {yv : VS} {g base : Nat} (hx : ev m x = some v) (hy : ev m y = some (.slice (some ⟨g, 0, none⟩) 1 1)) (hg : wantedM ops m gd = some true) (hd : Nat.blt d n = true) (hown : OwnSets w base v l) (hk : Blk w g 38 #[.int .u64 (yv.a.toNat : Int), .int .u64 (yv.b.toNat : Int)]) (hlen : l.length ≤ 1099511627776) (hbase : base ≤ w.heap.size)
    (h : ∀ A c w', OwnSets w' base (.slice A (l.length + 1) c) (l ++ [yv]) → w.grownBy w' v.ownBlock → wl Try.prog ops Q rest n ((d, .slice A (l.length + 1) c) :: m) w') :
    wl Try.prog ops Q (⟨some d, .call ⟨.builtin .append, #[x, y], #[46, 46]⟩, t, pos, aft, gd⟩ :: rest) n m w := by
  obtain ⟨A, c, w', h1, h2, h3⟩ := run_append_set t hown hk hlen hbase
  exact wl_val (fun ρ e => exec_append_set (e _ _ hx) (e _ _ hy) h1) hg hd (h A c w' h2 h3)
end
end Go.Proofs.Ytlifakbdgmdafaa
