/-
  What single operations do, whatever the frame; steps of a region that is walked along a list (RegL). More single operations (circuits, sets); steps of a region whose loads and calls keep a class of worlds. Single operations for the walk by single steps (Sx2): new blocks, lengths, sums, comparisons. Single operations for the walk by single steps: append to a slice of the call's own, gates, fields of states.
-/
import Derived.Test.YtlifakbdgmdafaaOwn
import Derived.Test.YtlifakbdgmdafaaSx
import Derived.Test.YtlifakbdgmdafaaEnc
namespace Go.Proofs.Ytlifakbdgmdafaa
open Go Go.RowKit
/-- A call of f enters f's text. -/
def Ent (f : FuncId) : Prop := ∀ args w, (callFunc f args).run Try.prog w = .ok (.enter f args) w
theorem ent_of {f : FuncId} {fn : Func} {c : Code} (hf : Try.prog.funcs[f]? = some fn) (hname : (fn.name == "runtime.NumGoroutine") = false) (hb : fn.body = some c) : Ent f := fun args w => by
  have h1 : fn.name ≠ "runtime.NumGoroutine" := by simpa using hname
  simp [callFunc, hf, h1, hb]
theorem ent_holds : Ent 81 := ent_of Try.func81 (by kernel_rfl) rfl
theorem ent_fresh : Ent 80 := ent_of Try.func80 (by kernel_rfl) rfl
theorem ent_add : Ent 67 := ent_of Try.func67 (by kernel_rfl) rfl
theorem ent_sum : Ent 85 := ent_of Try.func85 (by kernel_rfl) rfl
section
variable {ρ : Operand → Value} {d : Option Tmp} {x y z : Operand} {t : TypeId} {pos : String} {aft : Array Edge} {gd : Option (Nat × Bool)} {w : World}
theorem ex_move {v : Value} (hx : ρ x = v) : (execOp ρ ⟨d, .move x, t, pos, aft, gd⟩).run Try.prog w = .ok (.value v) w := by
  simp [go_sem, hx]
theorem ex_assign {v : Value} (hx : ρ x = v) : (execOp ρ ⟨d, .assign x, t, pos, aft, gd⟩).run Try.prog w = .ok (.value v) w := by
  simp [go_sem, hx]
theorem ex_int {p : Addr} {v : Int} (hx : ρ x = .pointer (some p)) (h : w.cell? p = some (.int .i64 v)) : (execOp ρ ⟨d, .load 3 x, t, pos, aft, gd⟩).run Try.prog w = .ok (.value (.int .i64 v)) w := by
  simp [go_sem, hx, h]
theorem ex_bool {p : Addr} {v : Bool} (hx : ρ x = .pointer (some p)) (h : w.cell? p = some (.bool v)) : (execOp ρ ⟨d, .load 4 x, t, pos, aft, gd⟩).run Try.prog w = .ok (.value (.bool v)) w := by
  simp [go_sem, hx, h]
theorem ex_ints {p : Addr} {v : Value} (hx : ρ x = .pointer (some p)) (h : w.cell? p = some v) : (execOp ρ ⟨d, .load 30 x, t, pos, aft, gd⟩).run Try.prog w = .ok (.value v) w := by
  simp [go_sem, hx, h]
theorem ex_index {g o n c : Nat} {i : Int} (hx : ρ x = .slice (some ⟨g, o, none⟩) n c) (hy : ρ y = .int .i64 i) (h0 : 0 ≤ i) (h1 : i < n) : (execOp ρ ⟨d, .indexAddr 30 x y, t, pos, aft, gd⟩).run Try.prog w = .ok (.value (.pointer (some ⟨g, o + i.toNat, none⟩))) w := by
  simp [go_sem, hx, hy, h0, h1]
theorem ex_index0 {g n c : Nat} {i : Nat} (hx : ρ x = .slice (some ⟨g, 0, none⟩) n c) (hy : ρ y = .int .i64 (i : Int)) (h1 : i < n) : (execOp ρ ⟨d, .indexAddr 30 x y, t, pos, aft, gd⟩).run Try.prog w = .ok (.value (.pointer (some ⟨g, i, none⟩))) w := by
  rw [ex_index hx hy (by omega) (by omega)]; simp
theorem ex_neg {v : Int} (hx : ρ x = .int .i64 v) (h : IntKind.i64.wrap (-v) = -v) : (execOp ρ ⟨d, .unOp .neg 3 x, t, pos, aft, gd⟩).run Try.prog w = .ok (.value (.int .i64 (-v))) w := by
  simp [go_sem, hx, h]
theorem ex_not {b : Bool} (hx : ρ x = .bool b) : (execOp ρ ⟨d, .unOp .not 4 x, t, pos, aft, gd⟩).run Try.prog w = .ok (.value (.bool (!b))) w := by
  simp [go_sem, hx]
theorem ex_eqb {b b' : Bool} (hx : ρ x = .bool b) (hy : ρ y = .bool b') : (execOp ρ ⟨d, .binOp .eql 4 x y 4, t, pos, aft, gd⟩).run Try.prog w = .ok (.value (.bool (b == b'))) w := by
  simp [go_sem, hx, hy]
theorem ex_neb {b b' : Bool} (hx : ρ x = .bool b) (hy : ρ y = .bool b') : (execOp ρ ⟨d, .binOp .neq 4 x y 4, t, pos, aft, gd⟩).run Try.prog w = .ok (.value (.bool (b != b'))) w := by
  cases b <;> cases b' <;> simp [go_sem, hx, hy]
theorem ex_kind {g o : Nat} (hx : ρ x = .pointer (some ⟨g, o, none⟩)) : (execOp ρ ⟨d, .fieldAddr 44 x 0, t, pos, aft, gd⟩).run Try.prog w = .ok (.value (.pointer (some ⟨g, o, none⟩))) w := by
  simp [go_sem, hx]
theorem ex_lit {g o : Nat} (hx : ρ x = .pointer (some ⟨g, o, none⟩)) : (execOp ρ ⟨d, .fieldAddr 44 x 1, t, pos, aft, gd⟩).run Try.prog w = .ok (.value (.pointer (some ⟨g, o + 1, none⟩))) w := by
  simp [go_sem, hx]
theorem ex_extract {vs : Array Value} {v : Value} {i : Nat} (hx : ρ x = .tuple vs) (hi : vs[i]? = some v) : (execOp ρ ⟨d, .extract x i, t, pos, aft, gd⟩).run Try.prog w = .ok (.value v) w := by
  simp [go_sem, hx, hi]
theorem ex_state {g : Nat} {v0 v1 v2 v3 v4 v5 v6 : Value} (hx : ρ x = .pointer (some ⟨g, 0, none⟩)) (h : Blk w g 63 #[v0, v1, v2, v3, v4, v5, v6]) : (execOp ρ ⟨d, .load 63 x, t, pos, aft, gd⟩).run Try.prog w = .ok (.value (.agg #[v0, v1, v2, v3, v4, v5, v6])) w := by
  have q0 := h.cell 0
  have q1 := h.cell 1
  have q2 := h.cell 2
  have q3 := h.cell 3
  have q4 := h.cell 4
  have q5 := h.cell 5
  have q6 := h.cell 6
  simp at q0 q1 q2 q3 q4 q5 q6
  simp [go_sem, hx, q0, q1, q2, q3, q4, q5, q6]
theorem ex_store {g : Nat} {u0 u1 u2 u3 u4 u5 u6 : Value} {n a b : Int} {A B C : Option Addr} {nA cA nB cB nC cC : Nat} {cl : Bool} (hx : ρ x = .pointer (some ⟨g, 0, none⟩)) (hy : ρ y = .agg #[.int .i64 n, .slice A nA cA, .slice B nB cB, .int .u64 a, .int .u64 b, .slice C nC cC, .bool cl]) (h : Blk w g 63 #[u0, u1, u2, u3, u4, u5, u6]) :
    (execOp ρ ⟨d, .store 63 x y, t, pos, aft, gd⟩).run Try.prog w = .ok .skip (((((((w.setCell ⟨g, 0, none⟩ (.int .i64 n)).setCell ⟨g, 1, none⟩ (.slice A nA cA)).setCell ⟨g, 2, none⟩ (.slice B nB cB)).setCell ⟨g, 3, none⟩ (.int .u64 a)).setCell ⟨g, 4, none⟩ (.int .u64 b)).setCell ⟨g, 5, none⟩ (.slice C nC cC)).setCell ⟨g, 6, none⟩ (.bool cl)) := by
  have q0 := h.cell 0
  have q1 := h.cell 1
  have q2 := h.cell 2
  have q3 := h.cell 3
  have q4 := h.cell 4
  have q5 := h.cell 5
  have q6 := h.cell 6
  have f0 := h.free 0
  have f1 := h.free 1
  have f2 := h.free 2
  have f3 := h.free 3
  have f4 := h.free 4
  have f5 := h.free 5
  have f6 := h.free 6
  simp at q0 q1 q2 q3 q4 q5 q6
  simp [go_sem, hx, hy, q0, q1, q2, q3, q4, q5, q6, f0, f1, f2, f3, f4, f5, f6]
theorem ex_build1 {v0 : Int} (hx : ρ x = .int .i64 v0) : (execOp ρ ⟨d, .buildSlice 30 1 #[(0, x)], t, pos, aft, gd⟩).run Try.prog w = .ok (.value (.slice (some ⟨w.heap.size, 0, none⟩) 1 1)) (w.alloc (.cells (intCells [v0]) 3)) := by
  simp [go_sem, hx, intCells]
theorem ex_build2 {v0 v1 : Int} (hx : ρ x = .int .i64 v0) (hy : ρ y = .int .i64 v1) : (execOp ρ ⟨d, .buildSlice 30 2 #[(0, x), (1, y)], t, pos, aft, gd⟩).run Try.prog w = .ok (.value (.slice (some ⟨w.heap.size, 0, none⟩) 2 2)) (w.alloc (.cells (intCells [v0, v1]) 3)) := by
  simp [go_sem, hx, hy, intCells]
theorem ex_build3 {v0 v1 v2 : Int} (hx : ρ x = .int .i64 v0) (hy : ρ y = .int .i64 v1) (hz : ρ z = .int .i64 v2) : (execOp ρ ⟨d, .buildSlice 30 3 #[(0, x), (1, y), (2, z)], t, pos, aft, gd⟩).run Try.prog w = .ok (.value (.slice (some ⟨w.heap.size, 0, none⟩) 3 3)) (w.alloc (.cells (intCells [v0, v1, v2]) 3)) := by
  simp [go_sem, hx, hy, hz, intCells]
theorem ex_call {f : FuncId} {xs : Array Operand} {ts : Array TypeId} {args : Array Value} (he : Ent f) (hf : ρ (.func f) = .func (.func f) #[] #[]) (h : xs.map ρ = args) : (execOp ρ ⟨d, .call ⟨.value (.func f), xs, ts⟩, t, pos, aft, gd⟩).run Try.prog w = .ok (.enter f args) w := by
  subst h
  simp [go_sem, hf, he _ _]
end
section
variable {ops : Array Oper} {Q : Exit → Act → World → Prop} {S : World → Prop} {i : Nat} {r : List (Nat × Nat)} {a : Act} {w w' : World} {d : Option Tmp} {op : Op} {t : TypeId} {pos : String} {aft : Array Edge} {v : Value}
/-- An operation that may make memory, and yields. -/
theorem t2_val (ho : ops[i]? = some ⟨d, op, t, pos, aft, none⟩) (hr : (execOp a.eval ⟨d, op, t, pos, aft, none⟩).run Try.prog w = .ok (.value v) w') (hS : S w') (h : wpT Try.prog ops Q S r (a.put d v) w') : wpT Try.prog ops Q S ((i, 2) :: r) a w :=
  t2 ho (fun K hK => by
    rw [if_pos (by simp [Region.wanted])]
    unfold Oper.wp
    rw [hr]
    exact hK.out _ _ hS (fun _ => h))
theorem t2_calls {f : FuncId} {xs : Array Operand} {ts : Array TypeId} {args : Array Value} (ho : ops[i]? = some ⟨d, .call ⟨.value (.func f), xs, ts⟩, t, pos, aft, none⟩) (he : Ent f) (hargs : xs.map a.eval = args)
    (h : Calls Try.prog f args w fun e w' => ∃ v, e = .returned v ∧ S w' ∧ wpT Try.prog ops Q S r (a.put d v) w') : wpT Try.prog ops Q S ((i, 2) :: r) a w :=
  t2 ho (fun K hK => by
    rw [if_pos (by simp [Region.wanted])]
    unfold Oper.wp
    rw [ex_call he rfl hargs]
    refine h.mono ?_
    rintro e w' ⟨v, rfl, hS, hh⟩
    exact hK.out _ _ hS (fun _ => hh))
theorem t2_call2 {f : FuncId} {x y : Operand} {u v : Value} {ts : Array TypeId} (ho : ops[i]? = some ⟨d, .call ⟨.value (.func f), #[x, y], ts⟩, t, pos, aft, none⟩) (he : Ent f) (hx : a.eval x = u) (hy : a.eval y = v)
    (h : Calls Try.prog f #[u, v] w fun e w' => ∃ v, e = .returned v ∧ S w' ∧ wpT Try.prog ops Q S r (a.put d v) w') : wpT Try.prog ops Q S ((i, 2) :: r) a w := t2_calls ho he (by simp [hx, hy]) h
theorem t2_call3 {f : FuncId} {x y z : Operand} {u v p : Value} {ts : Array TypeId} (ho : ops[i]? = some ⟨d, .call ⟨.value (.func f), #[x, y, z], ts⟩, t, pos, aft, none⟩) (he : Ent f) (hx : a.eval x = u) (hy : a.eval y = v) (hz : a.eval z = p)
    (h : Calls Try.prog f #[u, v, p] w fun e w' => ∃ v, e = .returned v ∧ S w' ∧ wpT Try.prog ops Q S r (a.put d v) w') : wpT Try.prog ops Q S ((i, 2) :: r) a w := t2_calls ho he (by simp [hx, hy, hz]) h
theorem t2_call4 {f : FuncId} {x y z x4 : Operand} {u v p p4 : Value} {ts : Array TypeId} (ho : ops[i]? = some ⟨d, .call ⟨.value (.func f), #[x, y, z, x4], ts⟩, t, pos, aft, none⟩) (he : Ent f) (hx : a.eval x = u) (hy : a.eval y = v) (hz : a.eval z = p) (h4 : a.eval x4 = p4)
    (h : Calls Try.prog f #[u, v, p, p4] w fun e w' => ∃ v, e = .returned v ∧ S w' ∧ wpT Try.prog ops Q S r (a.put d v) w') : wpT Try.prog ops Q S ((i, 2) :: r) a w := t2_calls ho he (by simp [hx, hy, hz, h4]) h
/-- A store, or what comes behind it. -/
theorem t3_skip (ho : ops[i]? = some ⟨none, op, t, pos, aft, none⟩) (hr : (execOp a.eval ⟨none, op, t, pos, aft, none⟩).run Try.prog w = .ok .skip w') (h : wpT Try.prog ops Q S r a w') : wpT Try.prog ops Q S ((i, 3) :: r) a w :=
  t3 ho (fun K hK => by
    rw [if_pos (by simp [Region.wanted])]
    unfold Oper.wp
    rw [hr]
    exact hK.out _ _ h)
theorem t3_val (ho : ops[i]? = some ⟨d, op, t, pos, aft, none⟩) (hr : (execOp a.eval ⟨d, op, t, pos, aft, none⟩).run Try.prog w = .ok (.value v) w') (h : wpT Try.prog ops Q S r (a.put d v) w') : wpT Try.prog ops Q S ((i, 3) :: r) a w :=
  t3 ho (fun K hK => by
    rw [if_pos (by simp [Region.wanted])]
    unfold Oper.wp
    rw [hr]
    exact hK.out _ _ h)
end
end Go.Proofs.Ytlifakbdgmdafaa

namespace Go.Proofs.Ytlifakbdgmdafaa
open Go Go.RowKit
section
variable {ρ : Operand → Value} {d : Option Tmp} {x y z : Operand} {t : TypeId} {pos : String} {aft : Array Edge} {gd : Option (Nat × Bool)} {w : World}
theorem ex_circ {g o : Nat} {v0 v1 : Value} (hx : ρ x = .pointer (some ⟨g, o, none⟩)) (h0 : w.cell? ⟨g, o, none⟩ = some v0) (h1 : w.cell? ⟨g, o + 1, none⟩ = some v1) : (execOp ρ ⟨d, .load 24 x, t, pos, aft, gd⟩).run Try.prog w = .ok (.value (.agg #[v0, v1])) w := by
  simp [go_sem, hx, h0, h1]
theorem ex_theory {g o : Nat} {v0 v1 : Value} (hx : ρ x = .pointer (some ⟨g, o, none⟩)) (h0 : w.cell? ⟨g, o, none⟩ = some v0) (h1 : w.cell? ⟨g, o + 1, none⟩ = some v1) : (execOp ρ ⟨d, .load 29 x, t, pos, aft, gd⟩).run Try.prog w = .ok (.value (.agg #[v0, v1])) w := by
  simp [go_sem, hx, h0, h1]
theorem ex_set {g o : Nat} {v0 v1 : Value} (hx : ρ x = .pointer (some ⟨g, o, none⟩)) (h0 : w.cell? ⟨g, o, none⟩ = some v0) (h1 : w.cell? ⟨g, o + 1, none⟩ = some v1) : (execOp ρ ⟨d, .load 38 x, t, pos, aft, gd⟩).run Try.prog w = .ok (.value (.agg #[v0, v1])) w := by
  simp [go_sem, hx, h0, h1]
theorem ex_sidx {g o n c i : Nat} (hx : ρ x = .slice (some ⟨g, o, none⟩) n c) (hy : ρ y = .int .i64 (i : Int)) (h1 : i < n) : (execOp ρ ⟨d, .indexAddr 46 x y, t, pos, aft, gd⟩).run Try.prog w = .ok (.value (.pointer (some ⟨g, o + i * 2, none⟩))) w := by
  simp [go_sem, hx, hy, h1]
theorem ex_pick {b : Bool} {u v : Value} (hx : ρ x = .bool b) (hy : ρ y = u) (hz : ρ z = v) : (execOp ρ ⟨d, .pick x y z, t, pos, aft, gd⟩).run Try.prog w = .ok (.value (if b then u else v)) w := by
  cases b <;> simp [go_sem, hx, hy, hz]
theorem ex_pick1 {u : Value} (hx : ρ x = .bool true) (hy : ρ y = u) : (execOp ρ ⟨d, .pick x y z, t, pos, aft, gd⟩).run Try.prog w = .ok (.value u) w := by
  simp [go_sem, hx, hy]
theorem ex_pick0 {v : Value} (hx : ρ x = .bool false) (hz : ρ z = v) : (execOp ρ ⟨d, .pick x y z, t, pos, aft, gd⟩).run Try.prog w = .ok (.value v) w := by
  simp [go_sem, hx, hz]
theorem ex_nesame {p q : Int} (hx : ρ x = .agg #[.int .u64 p, .int .u64 q]) (hy : ρ y = .agg #[.int .u64 p, .int .u64 q]) (hr : ∀ W, (Op.equalIn 10000 38 (.agg #[.int .u64 p, .int .u64 q]) (.agg #[.int .u64 p, .int .u64 q])).run Try.prog W = .ok true W) : (execOp ρ ⟨d, .binOp .neq 38 x y 38, t, pos, aft, gd⟩).run Try.prog w = .ok (.value (.bool false)) w := by
  simp [go_sem, hx, hy, hr]
theorem ex_circN {g o : Nat} (hx : ρ x = .pointer (some ⟨g, o, none⟩)) : (execOp ρ ⟨d, .fieldAddr 24 x 0, t, pos, aft, gd⟩).run Try.prog w = .ok (.value (.pointer (some ⟨g, o, none⟩))) w := by
  simp [go_sem, hx]
end
section
variable {ops : Array Oper} {C : World → Prop} {Q : Act → Prop} {a : Act} {o : Oper} {rest : List Oper} {d : Option Tmp} {t : TypeId} {pos : String} {aft : Array Edge} {gd : Option (Nat × Bool)} {v : Value}
theorem qs_val (hw : Region.wanted o (yielded ops a.tmps) = true) (h : ∀ W, C W → (execOp a.eval o).run Try.prog W = .ok (.value v) W) (hr : wpQuiet Try.prog ops C Q rest (a.put o.dst v)) : wpQuiet Try.prog ops C Q (o :: rest) a :=
  q_step v hw (fun W hW => by unfold Oper.quietAt; rw [h W hW]; exact ⟨rfl, rfl⟩) hr
theorem qs_calls {f : FuncId} {xs : Array Operand} {ts : Array TypeId} {args : Array Value} (hw : Region.wanted ⟨d, .call ⟨.value (.func f), xs, ts⟩, t, pos, aft, gd⟩ (yielded ops a.tmps) = true) (he : Ent f) (hargs : xs.map a.eval = args)
    (h : ∀ W, C W → Calls Try.prog f args W fun e w' => e = .returned v ∧ C w') (hr : wpQuiet Try.prog ops C Q rest (a.put d v)) : wpQuiet Try.prog ops C Q (⟨d, .call ⟨.value (.func f), xs, ts⟩, t, pos, aft, gd⟩ :: rest) a :=
  q_step v hw (fun W hW => by unfold Oper.quietAt; rw [ex_call he rfl hargs]; exact ⟨rfl, h W hW⟩) hr
theorem qs_call1 {f : FuncId} {x : Operand} {u : Value} {ts : Array TypeId} (hw : Region.wanted ⟨d, .call ⟨.value (.func f), #[x], ts⟩, t, pos, aft, gd⟩ (yielded ops a.tmps) = true) (he : Ent f) (hx : a.eval x = u)
    (h : ∀ W, C W → Calls Try.prog f #[u] W fun e w' => e = .returned v ∧ C w') (hr : wpQuiet Try.prog ops C Q rest (a.put d v)) : wpQuiet Try.prog ops C Q (⟨d, .call ⟨.value (.func f), #[x], ts⟩, t, pos, aft, gd⟩ :: rest) a := qs_calls hw he (by simp [hx]) h hr
theorem qs_call2 {f : FuncId} {x y : Operand} {u p : Value} {ts : Array TypeId} (hw : Region.wanted ⟨d, .call ⟨.value (.func f), #[x, y], ts⟩, t, pos, aft, gd⟩ (yielded ops a.tmps) = true) (he : Ent f) (hx : a.eval x = u) (hy : a.eval y = p)
    (h : ∀ W, C W → Calls Try.prog f #[u, p] W fun e w' => e = .returned v ∧ C w') (hr : wpQuiet Try.prog ops C Q rest (a.put d v)) : wpQuiet Try.prog ops C Q (⟨d, .call ⟨.value (.func f), #[x, y], ts⟩, t, pos, aft, gd⟩ :: rest) a := qs_calls hw he (by simp [hx, hy]) h hr
end
end Go.Proofs.Ytlifakbdgmdafaa

namespace Go.Proofs.Ytlifakbdgmdafaa
open Go Go.RowKit
section
variable {P : Program} {ops : Array Oper} {Q : Exit → Act → World → Prop} {S : World → Prop} {r : List (Nat × Nat)} {rest : List Oper} {n : Nat} {m : List (Nat × Value)} {w w' : World} {i d : Nat} {op : Op} {t T : TypeId} {pos : String} {aft : Array Edge} {gd : Option (Nat × Bool)} {v : Value} {cs : Array Value}
/-- A new block; its number is named. -/
theorem wl_new (hr : ∀ ρ, Reads m ρ → (execOp ρ ⟨some d, op, t, pos, aft, gd⟩).run P w = .ok (.value (.pointer (some ⟨w.heap.size, 0, none⟩))) (w.alloc (.cells cs T))) (hg : wantedM ops m gd = some true) (hd : Nat.blt d n = true)
    (h : ∀ g w', Below w.heap.size w w' → Blk w' g T cs → w.heap.size = g → w'.heap.size = g + 1 → wl P ops Q rest n ((d, .pointer (some ⟨g, 0, none⟩)) :: m) w') :
    wl P ops Q (⟨some d, op, t, pos, aft, gd⟩ :: rest) n m w :=
  wl_val hr hg hd (h _ _ ((Below.refl _ _).alloc (Nat.le_refl _) _) (Blk.new _ _ _) rfl (by simp))
theorem wl_newslice {k c : Nat} (hr : ∀ ρ, Reads m ρ → (execOp ρ ⟨some d, op, t, pos, aft, gd⟩).run P w = .ok (.value (.slice (some ⟨w.heap.size, 0, none⟩) k c)) (w.alloc (.cells cs T))) (hg : wantedM ops m gd = some true) (hd : Nat.blt d n = true)
    (h : ∀ g w', Below w.heap.size w w' → Blk w' g T cs → w.heap.size = g → w'.heap.size = g + 1 → wl P ops Q rest n ((d, .slice (some ⟨g, 0, none⟩) k c) :: m) w') :
    wl P ops Q (⟨some d, op, t, pos, aft, gd⟩ :: rest) n m w :=
  wl_val hr hg hd (h _ _ ((Below.refl _ _).alloc (Nat.le_refl _) _) (Blk.new _ _ _) rfl (by simp))
theorem xw_then {K : Act → World → Prop} (h : xw (fun _ a w => K a w) .normal n m w) : xw (Exit.then K Q) .normal n m w := h
end
section
variable {ρ : Operand → Value} {d : Option Tmp} {x y z : Operand} {t : TypeId} {pos : String} {aft : Array Edge} {gd : Option (Nat × Bool)} {w : World}
theorem ex_boxState {v0 v1 v2 v3 v4 v5 v6 : Value} (hx : ρ x = .agg #[v0, v1, v2, v3, v4, v5, v6]) : (execOp ρ ⟨d, .box 63 x, t, pos, aft, gd⟩).run Try.prog w = .ok (.value (.pointer (some ⟨w.heap.size, 0, none⟩))) (w.alloc (.cells #[v0, v1, v2, v3, v4, v5, v6] 63)) := by
  simp [go_sem, hx]
theorem ex_boxGate {v0 v1 v2 : Value} (hx : ρ x = .agg #[v0, v1, v2]) : (execOp ρ ⟨d, .box 44 x, t, pos, aft, gd⟩).run Try.prog w = .ok (.value (.pointer (some ⟨w.heap.size, 0, none⟩))) (w.alloc (.cells #[v0, v1, v2] 44)) := by
  simp [go_sem, hx]
theorem ex_boxCirc {v0 v1 : Value} (hx : ρ x = .agg #[v0, v1]) : (execOp ρ ⟨d, .box 24 x, t, pos, aft, gd⟩).run Try.prog w = .ok (.value (.pointer (some ⟨w.heap.size, 0, none⟩))) (w.alloc (.cells #[v0, v1] 24)) := by
  simp [go_sem, hx]
theorem ex_boxSet {v0 v1 : Value} (hx : ρ x = .agg #[v0, v1]) : (execOp ρ ⟨d, .box 38 x, t, pos, aft, gd⟩).run Try.prog w = .ok (.value (.pointer (some ⟨w.heap.size, 0, none⟩))) (w.alloc (.cells #[v0, v1] 38)) := by
  simp [go_sem, hx]
theorem ex_allocState : (execOp ρ ⟨d, .alloc 63, t, pos, aft, gd⟩).run Try.prog w = .ok (.value (.pointer (some ⟨w.heap.size, 0, none⟩))) (w.alloc (.cells #[.int .i64 0, .slice none 0 0, .slice none 0 0, .int .u64 0, .int .u64 0, .slice none 0 0, .bool false] 63)) := by
  simp [go_sem]
theorem ex_allocSet : (execOp ρ ⟨d, .alloc 38, t, pos, aft, gd⟩).run Try.prog w = .ok (.value (.pointer (some ⟨w.heap.size, 0, none⟩))) (w.alloc (.cells #[.int .u64 0, .int .u64 0] 38)) := by
  simp [go_sem]
theorem ex_allocTheory : (execOp ρ ⟨d, .alloc 29, t, pos, aft, gd⟩).run Try.prog w = .ok (.value (.pointer (some ⟨w.heap.size, 0, none⟩))) (w.alloc (.cells #[.int .i64 0, .slice none 0 0] 29)) := by
  simp [go_sem]
theorem ex_lenI {A : Option Addr} {k c : Nat} (hx : ρ x = .slice A k c) : (execOp ρ ⟨d, .call ⟨.builtin .len, #[x], #[30]⟩, t, pos, aft, gd⟩).run Try.prog w = .ok (.value (.int .i64 (k : Int))) w := by
  simp [go_sem, hx]
theorem ex_lenG {A : Option Addr} {k c : Nat} (hx : ρ x = .slice A k c) : (execOp ρ ⟨d, .call ⟨.builtin .len, #[x], #[22]⟩, t, pos, aft, gd⟩).run Try.prog w = .ok (.value (.int .i64 (k : Int))) w := by
  simp [go_sem, hx]
theorem ex_lenR {A : Option Addr} {k c : Nat} (hx : ρ x = .slice A k c) : (execOp ρ ⟨d, .call ⟨.builtin .len, #[x], #[27]⟩, t, pos, aft, gd⟩).run Try.prog w = .ok (.value (.int .i64 (k : Int))) w := by
  simp [go_sem, hx]
theorem ex_lenS {A : Option Addr} {k c : Nat} (hx : ρ x = .slice A k c) : (execOp ρ ⟨d, .call ⟨.builtin .len, #[x], #[46]⟩, t, pos, aft, gd⟩).run Try.prog w = .ok (.value (.int .i64 (k : Int))) w := by
  simp [go_sem, hx]
theorem ex_lenB {A : Option Addr} {k c : Nat} (hx : ρ x = .slice A k c) : (execOp ρ ⟨d, .call ⟨.builtin .len, #[x], #[61]⟩, t, pos, aft, gd⟩).run Try.prog w = .ok (.value (.int .i64 (k : Int))) w := by
  simp [go_sem, hx]
theorem ex_add {u v : Int} (hx : ρ x = .int .i64 u) (hy : ρ y = .int .i64 v) (h : IntKind.i64.wrap (u + v) = u + v) : (execOp ρ ⟨d, .binOp .add 3 x y 3, t, pos, aft, gd⟩).run Try.prog w = .ok (.value (.int .i64 (u + v))) w := by
  simp [go_sem, hx, hy, h]
theorem ex_sub {u v : Int} (hx : ρ x = .int .i64 u) (hy : ρ y = .int .i64 v) (h : IntKind.i64.wrap (u - v) = u - v) : (execOp ρ ⟨d, .binOp .sub 3 x y 3, t, pos, aft, gd⟩).run Try.prog w = .ok (.value (.int .i64 (u - v))) w := by
  simp [go_sem, hx, hy, h]
theorem ex_mul {u v : Int} (hx : ρ x = .int .i64 u) (hy : ρ y = .int .i64 v) (h : IntKind.i64.wrap (u * v) = u * v) : (execOp ρ ⟨d, .binOp .mul 3 x y 3, t, pos, aft, gd⟩).run Try.prog w = .ok (.value (.int .i64 (u * v))) w := by
  simp [go_sem, hx, hy, h]
theorem wrap_in {u : Int} (h0 : -9223372036854775808 ≤ u) (h1 : u ≤ 9223372036854775807) : IntKind.i64.wrap u = u := by rw [IntKind.wrap_i64]; omega
theorem ex_inc {k : Nat} (hx : ρ x = .int .i64 (k : Int)) (hy : ρ y = .int .i64 1) (h : k < 4611686018427387904) : (execOp ρ ⟨d, .binOp .add 3 x y 3, t, pos, aft, gd⟩).run Try.prog w = .ok (.value (.int .i64 ((k + 1 : Nat) : Int))) w := by
  rw [ex_add hx hy (wrap_in (by omega) (by omega))]; rfl
theorem ex_lss1 {u v : Int} (hx : ρ x = .int .i64 u) (hy : ρ y = .int .i64 v) (h : u < v) : (execOp ρ ⟨d, .binOp .lss 3 x y 3, t, pos, aft, gd⟩).run Try.prog w = .ok (.value (.bool true)) w := by
  simp [go_sem, hx, hy, h]
theorem ex_lss0 {u v : Int} (hx : ρ x = .int .i64 u) (hy : ρ y = .int .i64 v) (h : v ≤ u) : (execOp ρ ⟨d, .binOp .lss 3 x y 3, t, pos, aft, gd⟩).run Try.prog w = .ok (.value (.bool false)) w := by
  have h' : ¬ u < v := by omega
  simp [go_sem, hx, hy, h']
theorem ex_gtr1 {u v : Int} (hx : ρ x = .int .i64 u) (hy : ρ y = .int .i64 v) (h : v < u) : (execOp ρ ⟨d, .binOp .gtr 3 x y 3, t, pos, aft, gd⟩).run Try.prog w = .ok (.value (.bool true)) w := by
  simp [go_sem, hx, hy, h]
theorem ex_gtr0 {u v : Int} (hx : ρ x = .int .i64 u) (hy : ρ y = .int .i64 v) (h : u ≤ v) : (execOp ρ ⟨d, .binOp .gtr 3 x y 3, t, pos, aft, gd⟩).run Try.prog w = .ok (.value (.bool false)) w := by
  have h' : ¬ v < u := by omega
  simp [go_sem, hx, hy, h']
theorem ex_leq1 {u v : Int} (hx : ρ x = .int .i64 u) (hy : ρ y = .int .i64 v) (h : u ≤ v) : (execOp ρ ⟨d, .binOp .leq 3 x y 3, t, pos, aft, gd⟩).run Try.prog w = .ok (.value (.bool true)) w := by
  simp [go_sem, hx, hy, h]
theorem ex_leq0 {u v : Int} (hx : ρ x = .int .i64 u) (hy : ρ y = .int .i64 v) (h : v < u) : (execOp ρ ⟨d, .binOp .leq 3 x y 3, t, pos, aft, gd⟩).run Try.prog w = .ok (.value (.bool false)) w := by
  simp [go_sem, hx, hy, h]
theorem ex_geq1 {u v : Int} (hx : ρ x = .int .i64 u) (hy : ρ y = .int .i64 v) (h : v ≤ u) : (execOp ρ ⟨d, .binOp .geq 3 x y 3, t, pos, aft, gd⟩).run Try.prog w = .ok (.value (.bool true)) w := by
  simp [go_sem, hx, hy, h]
theorem ex_geq0 {u v : Int} (hx : ρ x = .int .i64 u) (hy : ρ y = .int .i64 v) (h : u < v) : (execOp ρ ⟨d, .binOp .geq 3 x y 3, t, pos, aft, gd⟩).run Try.prog w = .ok (.value (.bool false)) w := by
  simp [go_sem, hx, hy, h]
theorem ex_eql1 {u v : Int} (hx : ρ x = .int .i64 u) (hy : ρ y = .int .i64 v) (h : u = v) : (execOp ρ ⟨d, .binOp .eql 3 x y 3, t, pos, aft, gd⟩).run Try.prog w = .ok (.value (.bool true)) w := by
  subst h
  simp [go_sem, hx, hy]
theorem ex_eql0 {u v : Int} (hx : ρ x = .int .i64 u) (hy : ρ y = .int .i64 v) (h : u ≠ v) : (execOp ρ ⟨d, .binOp .eql 3 x y 3, t, pos, aft, gd⟩).run Try.prog w = .ok (.value (.bool false)) w := by
  simp [go_sem, hx, hy, h]
theorem ex_neq1 {u v : Int} (hx : ρ x = .int .i64 u) (hy : ρ y = .int .i64 v) (h : u ≠ v) : (execOp ρ ⟨d, .binOp .neq 3 x y 3, t, pos, aft, gd⟩).run Try.prog w = .ok (.value (.bool true)) w := by
  simp [go_sem, hx, hy, h]
theorem ex_neq0 {u v : Int} (hx : ρ x = .int .i64 u) (hy : ρ y = .int .i64 v) (h : u = v) : (execOp ρ ⟨d, .binOp .neq 3 x y 3, t, pos, aft, gd⟩).run Try.prog w = .ok (.value (.bool false)) w := by
  subst h
  simp [go_sem, hx, hy]
end
end Go.Proofs.Ytlifakbdgmdafaa

namespace Go.Proofs.Ytlifakbdgmdafaa
open Go Go.RowKit
section
variable {ops : Array Oper} {Q : Exit → Act → World → Prop} {S : World → Prop} {r : List (Nat × Nat)} {rest : List Oper} {n : Nat} {m : List (Nat × Value)} {w : World} {i d : Nat} {t : TypeId} {pos : String} {aft : Array Edge} {gd : Option (Nat × Bool)}
/-- 'append(v, y)' where y's one cell lies in block g. -/
theorem run_append_int {v : Value} {l : List Int} {y : Int} {g base : Nat} (ty : TypeId) (hown : OwnInts w base v l) (hk : Blk w g 3 #[.int .i64 y]) (hlen : l.length ≤ 1099511627776) (hbase : base ≤ w.heap.size) :
    ∃ A c w', (Builtin.append_ #[30, 30] ty #[v, .slice (some ⟨g, 0, none⟩) 1 1]).run Try.prog w = .ok (.slice A (l.length + 1) c) w' ∧ OwnInts w' base (.slice A (l.length + 1) c) (l ++ [y]) ∧ w.grownBy w' v.ownBlock ∧ ((Value.slice A (l.length + 1) c).ownBlock = v.ownBlock ∨ (Value.slice A (l.length + 1) c).ownBlock = some w.heap.size) := by
  obtain ⟨i, hi, hz, hsz, hb⟩ := info_parts info_int
  obtain ⟨v', w', hrun, h2, h3, _, h5⟩ := run_append_own_at (P := Try.prog) (w := w) base 30 ty 3 i _ 1 8 Try.underlying30 hi hz hsz hb rfl (by decide) v _ _ hown ⟨g, 0, none⟩ 1 1 [.int .i64 y] rfl
    (fun j u hu => by
      have hadd : (⟨g, 0, none⟩ : Addr).add j = ⟨g, j, none⟩ := by unfold Addr.add; split <;> simp_all
      rw [hadd, hk.cell j]
      simpa using hu)
    (by intro u hu; simp at hu; subst hu; rfl) (by unfold maxLen; omega) (by omega) hbase
  obtain ⟨A, c, rfl⟩ := own_form h2
  exact ⟨A, c, w', hrun, OwnInts.cast h2, h3, h5⟩
theorem exec_append_int {ρ : Operand → Value} {d : Option Tmp} {x y : Operand} {v u : Value} {w' : World} {V : Value} (hx : ρ x = v) (hy : ρ y = u) (h : (Builtin.append_ #[30, 30] t #[v, u]).run Try.prog w = .ok V w') :
    (execOp ρ ⟨d, .call ⟨.builtin .append, #[x, y], #[30, 30]⟩, t, pos, aft, gd⟩).run Try.prog w = .ok (.value V) w' := by
  unfold execOp
  simp only [resolve, invoke, builtin, Sem.run_bind, Sem.run_pure, Result.andThen_ok, List.map_toArray, List.map_cons, List.map_nil, hx, hy, h]
theorem wl_append {x y : Operand} {v : Value} {l : List Int} {yv : Int} {g base : Nat} (hx : ev m x = some v) (hy : ev m y = some (.slice (some ⟨g, 0, none⟩) 1 1)) (hg : wantedM ops m gd = some true) (hd : Nat.blt d n = true) (hown : OwnInts w base v l) (hk : Blk w g 3 #[.int .i64 yv]) (hlen : l.length ≤ 1099511627776) (hbase : base ≤ w.heap.size)
    (h : ∀ A c w', OwnInts w' base (.slice A (l.length + 1) c) (l ++ [yv]) → w.grownBy w' v.ownBlock → ((Value.slice A (l.length + 1) c).ownBlock = v.ownBlock ∨ (Value.slice A (l.length + 1) c).ownBlock = some w.heap.size) → wl Try.prog ops Q rest n ((d, .slice A (l.length + 1) c) :: m) w') :
    wl Try.prog ops Q (⟨some d, .call ⟨.builtin .append, #[x, y], #[30, 30]⟩, t, pos, aft, gd⟩ :: rest) n m w := by
  obtain ⟨A, c, w', h1, h2, h3, h4⟩ := run_append_int t hown hk hlen hbase
  exact wl_val (fun ρ e => exec_append_int (e _ _ hx) (e _ _ hy) h1) hg hd (h A c w' h2 h3 h4)
theorem wt2_append {x y : Operand} {v : Value} {l : List Int} {yv : Int} {g base : Nat} (ho : ops[i]? = some ⟨some d, .call ⟨.builtin .append, #[x, y], #[30, 30]⟩, t, pos, aft, gd⟩) (hx : ev m x = some v) (hy : ev m y = some (.slice (some ⟨g, 0, none⟩) 1 1)) (hg : wantedM ops m gd = some true) (hd : Nat.blt d n = true) (hown : OwnInts w base v l) (hk : Blk w g 3 #[.int .i64 yv]) (hlen : l.length ≤ 1099511627776) (hbase : base ≤ w.heap.size)
    (h : ∀ A c w', OwnInts w' base (.slice A (l.length + 1) c) (l ++ [yv]) → w.grownBy w' v.ownBlock → ((Value.slice A (l.length + 1) c).ownBlock = v.ownBlock ∨ (Value.slice A (l.length + 1) c).ownBlock = some w.heap.size) → S w' ∧ wt Try.prog ops Q S r n ((d, .slice A (l.length + 1) c) :: m) w') :
    wt Try.prog ops Q S ((i, 2) :: r) n m w := by
  obtain ⟨A, c, w', h1, h2, h3, h4⟩ := run_append_int t hown hk hlen hbase
  obtain ⟨h5, h6⟩ := h A c w' h2 h3 h4
  exact wt2 ho (fun ρ e => exec_append_int (e _ _ hx) (e _ _ hy) h1) hg hd h5 h6
end
section
variable {ρ : Operand → Value} {d : Option Tmp} {x y : Operand} {t : TypeId} {pos : String} {aft : Array Edge} {gd : Option (Nat × Bool)} {w : World}
theorem ex_rows {p : Addr} {v : Value} (hx : ρ x = .pointer (some p)) (h : w.cell? p = some v) : (execOp ρ ⟨d, .load 27 x, t, pos, aft, gd⟩).run Try.prog w = .ok (.value v) w := by
  simp [go_sem, hx, h]
theorem ex_gates {p : Addr} {v : Value} (hx : ρ x = .pointer (some p)) (h : w.cell? p = some v) : (execOp ρ ⟨d, .load 22 x, t, pos, aft, gd⟩).run Try.prog w = .ok (.value v) w := by
  simp [go_sem, hx, h]
theorem ex_gate {g o : Nat} {v0 v1 v2 : Value} (hx : ρ x = .pointer (some ⟨g, o, none⟩)) (h0 : w.cell? ⟨g, o, none⟩ = some v0) (h1 : w.cell? ⟨g, o + 1, none⟩ = some v1) (h2 : w.cell? ⟨g, o + 2, none⟩ = some v2) : (execOp ρ ⟨d, .load 44 x, t, pos, aft, gd⟩).run Try.prog w = .ok (.value (.agg #[v0, v1, v2])) w := by
  simp [go_sem, hx, h0, h1, h2]
theorem ex_gidx {g o n c i : Nat} (hx : ρ x = .slice (some ⟨g, o, none⟩) n c) (hy : ρ y = .int .i64 (i : Int)) (h1 : i < n) : (execOp ρ ⟨d, .indexAddr 22 x y, t, pos, aft, gd⟩).run Try.prog w = .ok (.value (.pointer (some ⟨g, o + i * 3, none⟩))) w := by
  simp [go_sem, hx, hy, h1]
theorem ex_iidx {g o n c i : Nat} (hx : ρ x = .slice (some ⟨g, o, none⟩) n c) (hy : ρ y = .int .i64 (i : Int)) (h1 : i < n) : (execOp ρ ⟨d, .indexAddr 30 x y, t, pos, aft, gd⟩).run Try.prog w = .ok (.value (.pointer (some ⟨g, o + i, none⟩))) w := by
  simp [go_sem, hx, hy, h1]
theorem ex_ridx {g o n c i : Nat} (hx : ρ x = .slice (some ⟨g, o, none⟩) n c) (hy : ρ y = .int .i64 (i : Int)) (h1 : i < n) : (execOp ρ ⟨d, .indexAddr 27 x y, t, pos, aft, gd⟩).run Try.prog w = .ok (.value (.pointer (some ⟨g, o + i, none⟩))) w := by
  simp [go_sem, hx, hy, h1]
theorem ex_ridx0 {g n c i : Nat} (hx : ρ x = .slice (some ⟨g, 0, none⟩) n c) (hy : ρ y = .int .i64 (i : Int)) (h1 : i < n) : (execOp ρ ⟨d, .indexAddr 27 x y, t, pos, aft, gd⟩).run Try.prog w = .ok (.value (.pointer (some ⟨g, i, none⟩))) w := by
  rw [ex_ridx hx hy h1]; simp
theorem ex_gateF2 {g o : Nat} (hx : ρ x = .pointer (some ⟨g, o, none⟩)) : (execOp ρ ⟨d, .fieldAddr 44 x 2, t, pos, aft, gd⟩).run Try.prog w = .ok (.value (.pointer (some ⟨g, o + 2, none⟩))) w := by
  simp [go_sem, hx]
theorem ex_circF1 {g o : Nat} (hx : ρ x = .pointer (some ⟨g, o, none⟩)) : (execOp ρ ⟨d, .fieldAddr 24 x 1, t, pos, aft, gd⟩).run Try.prog w = .ok (.value (.pointer (some ⟨g, o + 1, none⟩))) w := by
  simp [go_sem, hx]
theorem ex_theoryF0 {g o : Nat} (hx : ρ x = .pointer (some ⟨g, o, none⟩)) : (execOp ρ ⟨d, .fieldAddr 29 x 0, t, pos, aft, gd⟩).run Try.prog w = .ok (.value (.pointer (some ⟨g, o, none⟩))) w := by
  simp [go_sem, hx]
theorem ex_theoryF1 {g o : Nat} (hx : ρ x = .pointer (some ⟨g, o, none⟩)) : (execOp ρ ⟨d, .fieldAddr 29 x 1, t, pos, aft, gd⟩).run Try.prog w = .ok (.value (.pointer (some ⟨g, o + 1, none⟩))) w := by
  simp [go_sem, hx]
theorem ex_stateF0 {g o : Nat} (hx : ρ x = .pointer (some ⟨g, o, none⟩)) : (execOp ρ ⟨d, .fieldAddr 63 x 0, t, pos, aft, gd⟩).run Try.prog w = .ok (.value (.pointer (some ⟨g, o, none⟩))) w := by
  simp [go_sem, hx]
theorem ex_stateF1 {g o : Nat} (hx : ρ x = .pointer (some ⟨g, o, none⟩)) : (execOp ρ ⟨d, .fieldAddr 63 x 1, t, pos, aft, gd⟩).run Try.prog w = .ok (.value (.pointer (some ⟨g, o + 2, none⟩))) w := by
  simp [go_sem, hx]
theorem ex_stateF2 {g o : Nat} (hx : ρ x = .pointer (some ⟨g, o, none⟩)) : (execOp ρ ⟨d, .fieldAddr 63 x 2, t, pos, aft, gd⟩).run Try.prog w = .ok (.value (.pointer (some ⟨g, o + 3, none⟩))) w := by
  simp [go_sem, hx]
theorem ex_stateF4 {g o : Nat} (hx : ρ x = .pointer (some ⟨g, o, none⟩)) : (execOp ρ ⟨d, .fieldAddr 63 x 4, t, pos, aft, gd⟩).run Try.prog w = .ok (.value (.pointer (some ⟨g, o + 6, none⟩))) w := by
  simp [go_sem, hx]
theorem ex_buildTheory0 {v : Int} (hx : ρ x = .int .i64 v) : (execOp ρ ⟨d, .build 29 #[(0, x)], t, pos, aft, gd⟩).run Try.prog w = .ok (.value (.agg #[.int .i64 v, .slice none 0 0])) w := by
  simp [go_sem, hx]
theorem ex_buildState02 {a b p q : Value} (hx : ρ x = .agg #[a, b]) (hy : ρ y = .agg #[p, q]) : (execOp ρ ⟨d, .build 63 #[(0, x), (2, y)], t, pos, aft, gd⟩).run Try.prog w = .ok (.value (.agg #[a, b, .slice none 0 0, p, q, .slice none 0 0, .bool false])) w := by
  simp [go_sem, hx, hy]
theorem ex_storeSlice {p : Addr} {A : Option Addr} {k c : Nat} {u : Value} (hx : ρ x = .pointer (some p)) (hy : ρ y = .slice A k c) (h : w.cell? p = some u) (hf : w.frozen? p = false) : (execOp ρ ⟨d, .store 30 x y, t, pos, aft, gd⟩).run Try.prog w = .ok .skip (w.setCell p (.slice A k c)) := by
  simp [go_sem, hx, hy, h, hf]
theorem ex_neqE1 {u v : Int} (hx : ρ x = .int .i64 u) (hy : ρ y = .int .i64 v) (h : u ≠ v) : (execOp ρ ⟨d, .binOp .neq 31 x y 31, t, pos, aft, gd⟩).run Try.prog w = .ok (.value (.bool true)) w := by
  simp [go_sem, hx, hy, h]
theorem ex_neqE0 {u v : Int} (hx : ρ x = .int .i64 u) (hy : ρ y = .int .i64 v) (h : u = v) : (execOp ρ ⟨d, .binOp .neq 31 x y 31, t, pos, aft, gd⟩).run Try.prog w = .ok (.value (.bool false)) w := by
  subst h
  simp [go_sem, hx, hy]
theorem ex_eqlE {u v : Int} (hx : ρ x = .int .i64 u) (hy : ρ y = .int .i64 v) : (execOp ρ ⟨d, .binOp .eql 31 x y 31, t, pos, aft, gd⟩).run Try.prog w = .ok (.value (.bool (u == v))) w := by
  simp [go_sem, hx, hy]
end
end Go.Proofs.Ytlifakbdgmdafaa
