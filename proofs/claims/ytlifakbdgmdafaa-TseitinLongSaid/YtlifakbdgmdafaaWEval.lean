/-
  What lit.Holds, lit.Any, circ.value and circ.Eval compute.
-/
import Derived.Test.YtlifakbdgmdafaaWCheck
import Derived.Test.YtlifakbdgmdafaaWSets2
import Derived.Test.YtlifakbdgmdafaaEval
namespace Go.Proofs.Ytlifakbdgmdafaa
open Go Go.RowKit

set_option maxRecDepth 100000 in
set_option maxHeartbeats 1600000 in
theorem lit_Holds (a b : BitVec 64) (l : Int) (w : World) :
    Calls Try.prog 73 #[(.agg #[.int .u64 ((a).toNat : Int), .int .u64 ((b).toNat : Int)]), (.int .i64 (l))] w fun e w' => e = .returned (.bool (litHolds ⟨a, b⟩ l)) ∧ Below w.heap.size w w' := by
  unfold litHolds
  have hr := litVar_range l
  have k1 : ∀ w, Calls Try.prog 79 #[(.int .i64 (l))] w fun e w' => e = .returned (.int .i64 (litVar l)) ∧ w = w' := lit_Var l
  have k2 : ∀ w, Calls Try.prog 39 #[(.agg #[.int .u64 ((a).toNat : Int), .int .u64 ((b).toNat : Int)]), (.int .i64 (litVar l))] w fun e w' => e = .returned (.bool (VS.has ⟨a, b⟩ (litVar l))) ∧ Below w.heap.size w w' := vars_has a b _
  generalize VS.has ⟨a, b⟩ (litVar l) = y at k2 ⊢
  generalize litVar l = x at k1 k2 hr ⊢
  have K1 := Lib.hid k1
  have K2 := Lib.hid k2
  clear k1 k2
  by_cases h : x = 0
  · subst h
    simp only [ne_eq, not_true_eq_false, decide_false, Bool.false_and]
    go_enter Try.func73, Try.ntmps73
    go_wp2
    go_quiet ((go_at_call 79; exact Calls.quiet_of_same ((K1.out _).mono fun _ _ h => ⟨h.1, h.2.symm⟩)))
    go_wp2
    go_ret
    exact ⟨rfl, below_drewN (by go_grown) _⟩
  · have h1 : (x != 0) = true := by simp [h]
    have h2 : decide (x ≠ 0) = true := by simp [h]
    rw [h2, Bool.true_and]
    clear h h2
    go_enter Try.func73, Try.ntmps73
    go_wp2
    have blk := Blk.new w 38 #[.int .u64 (a.toNat : Int), .int .u64 (b.toNat : Int)]
    have hw : Below w.heap.size w (w.alloc (.cells #[.int .u64 (a.toNat : Int), .int .u64 (b.toNat : Int)] 38)) := by go_grown
    generalize w.alloc (.cells #[.int .u64 (a.toNat : Int), .int .u64 (b.toNat : Int)] 38) = w1 at *
    have C0 := blk.later 0 _ rfl
    have C1 := blk.later 1 _ rfl
    have hb0 : Below w1.heap.size w1 w1.drew := (Below.refl _ _).drew
    go_region_held3 (fun w' => w'.cell? ⟨w.heap.size, 0, none⟩ = some (.int .u64 (a.toNat : Int)) ∧ w'.cell? ⟨w.heap.size, 1, none⟩ = some (.int .u64 (b.toNat : Int)) ∧ Below w1.heap.size w1 w') (go_keep)
      (first | (go_at_call 79; refine (K1.out _).mono ?_; rintro e w' ⟨rfl, rfl⟩) | (go_at_call 39; refine (kept (w1 := w1) (K2.out _) (by simp [*])).mono ?_; rintro e w' ⟨rfl, hB⟩))
    go_wp2
    go_ret
    exact ⟨rfl, hw.trans (Below.mono (by assumption) hw.size)⟩

theorem any_one (a b : BitVec 64) (x : Int) (ad : Addr) (w : World) (h0 : w.cell? ⟨ad.block, 0, none⟩ = some (.int .u64 (a.toNat : Int))) (h1 : w.cell? ⟨ad.block, 1, none⟩ = some (.int .u64 (b.toNat : Int))) (hs : ad = ⟨ad.block, 0, none⟩) :
    Calls Try.prog 75 #[.int .i64 x, .pointer (some ad)] w fun e w' => e = .returned (.bool (litHolds ⟨a, b⟩ x)) ∧ Below w.heap.size w w' := by
  obtain ⟨g, o, sp⟩ := ad
  simp only at h0 h1 hs
  obtain ⟨rfl, rfl⟩ : o = 0 ∧ sp = none := by simpa using hs
  clear hs
  have K := Lib.hid (lit_Holds a b x)
  go_enter Try.func75, Try.ntmps75
  go_wp2_with (go_at_call 73; refine (K.out _).mono ?_; rintro e w' ⟨rfl, hbb⟩)
  go_ret
  exact ⟨rfl, hbb⟩
theorem call_any_one (args : Array Value) (w : World) : (callFunc 75 args).run Try.prog w = .ok (.enter 75 args) w := by kernel_rfl

theorem lit_Any (a b : BitVec 64) (w : World) (B : Nat) (V : Value) (l : List Int) (hB : B ≤ w.heap.size) (hl : IntsV w B V l) :
    Calls Try.prog 53 #[(.agg #[.int .u64 ((a).toNat : Int), .int .u64 ((b).toNat : Int)]), V] w fun e w' => e = .returned (.bool (l.any (litHolds ⟨a, b⟩))) ∧ Below w.heap.size w w' := by
  have k : ∀ w1, Below w.heap.size w w1 → Blk w1 w.heap.size 38 #[.int .u64 (a.toNat : Int), .int .u64 (b.toNat : Int)] →
      Calls Try.prog 74 #[V, .func (.func 75) #[] #[.pointer (some ⟨w.heap.size, 0, none⟩)]] w1 fun e w' => e = .returned (.bool (l.any (litHolds ⟨a, b⟩))) ∧ Below w1.heap.size w1 w' :=
    fun w1 hw hblk => contains_func _ _ _ w1 B V l (Nat.le_trans hB hw.size) (hl.below (hw.mono hB)) call_any_one (fun i x w' _ hb => any_one a b x _ w' (hblk.later 0 _ rfl w' hb) (hblk.later 1 _ rfl w' hb) rfl)
  generalize l.any (litHolds ⟨a, b⟩) = y at k ⊢
  have K := Lib.hid k
  clear k
  go_enter Try.func53, Try.ntmps53
  go_wp2_with (go_at_call 74; refine (K.out _ (by go_grown) (by exact Blk.new _ _ _)).mono ?_; rintro e w' ⟨rfl, hbb⟩)
  go_ret
  exact ⟨rfl, Below.trans (by go_grown) (hbb.mono (by simp))⟩
end Go.Proofs.Ytlifakbdgmdafaa
