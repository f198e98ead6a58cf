/-
  TseitinOnly returns true, whatever the circuit and the sets: an assignment is a model of the theory exactly if it is what Extend returns.
-/
import Derived.Test.YtlifakbdgmdafaaPost2
import Derived.Test.YtlifakbdgmdafaaOnly
import Derived.Test.YtlifakbdgmdafaaWWorks
namespace Go.Proofs.Ytlifakbdgmdafaa.tseitinOnly
open Go.ChangeShapes Go.WideShapes Go.ChangeAt Go.RowKit

theorem own : ownKnob Try.prog.godebug = none := by kernel_rfl

set_option maxRecDepth 100000 in
theorem lifted (os : Os) (started : os.Started) (H : Type) (enc : TypeId × Value → H) :
    ReturnsInHanded {} Try.checked os 10 .any (Rows.tseitinOnlySpec.pre6 enc Try.prog Try.f10 Rows.tseitinOnlyRow.domain false) (Rows.tseitinOnlySpec.post enc Try.prog Try.f10 false true false false) := by
  refine returnsInHanded_of_change (C := Try.checked) own started (by kernel_rfl) Try.func10
    (ChangeSpec.witness6 (enc := enc) (C := Try.checked) false ⟨#[], #[.agg #[.int .i64 0, .slice none 0 0], .agg #[.int .u64 0, .int .u64 0], .agg #[.int .u64 0, .int .u64 0]], []⟩ 8 (by kernel_rfl) (by kernel_rfl) (by kernel_rfl) (by kernel_rfl)) ?_
  intro W base args ds gs before hval0 hW hcnd _
  have hval : ∀ (j : Nat) t v, Try.f10.params[j]? = some t → args[j]? = some v → Value.okWide Try.prog W .any base t v := hval0
  have hW' := hW
  obtain ⟨p, q, hA0, hV, rfl, hfz, hnd⟩ := hW
  have hA : DataW.TrodAll enc Try.prog W 0 (fun _ => true) true Try.f10.params.toList args.toList ds p := hA0
  have hK := hA
  rw [Try.params10] at hA hval
  obtain ⟨rfl, rfl⟩ := trodVars_none hV
  obtain ⟨v0, vs0, d0, ds0, p0, q0, hargs, rfl, rfl, h0, r0⟩ := trodAll_cons hA
  obtain ⟨v1, vs1, d1, ds1, p1, q1, rfl, rfl, rfl, h1, r1⟩ := trodAll_cons r0
  obtain ⟨v2, vs2, d2, ds2, p2, q2, rfl, rfl, rfl, h2, r2⟩ := trodAll_cons r1
  obtain ⟨rfl, rfl, rfl⟩ := trodAll_nil r2
  obtain rfl : args = #[v0, v1, v2] := by cases args; simp_all
  obtain ⟨N0, V0, gs0, rfl, hg0, hN0, hM0⟩ := open_circuit (hval 0 _ v0 rfl rfl) h0
  obtain ⟨s1, rfl⟩ := open_set (hval 1 _ v1 rfl rfl) h1
  obtain ⟨s2, rfl⟩ := open_set (hval 2 _ v2 rfl rfl) h2
  clear hA0 hval0
  refine (only_ok works_ok N0 V0 gs0 s1 s2 W W.heap.size (Nat.le_refl _) hg0 hN0 hM0).mono fun e W' ⟨he, hb⟩ => ?_
  subst he
  exact ⟨_, rfl, law_post2 rfl hW' hK (trodAll_cons_mk (shut_bool Try.underlying4 _) trodAll_mk0) rfl rfl (by kernel_rfl) hb⟩

theorem over : Rows.tseitinOnlyRow.holds Try.pinned (OpenSpec.ofChange Rows.tseitinOnlySpec) :=
  OpenClaim.holds_of_wide 10 Try.f10 rfl rfl rfl rfl rfl rfl rfl ⟨rfl, rfl, rfl, rfl, rfl⟩ rfl rfl rfl rfl rfl (by kernel_rfl) Try.func10 (by kernel_rfl)
    (of_decide_eq_true (by kernel_rfl)) (by unfold Func.isWrapper; first | (rw [if_pos (by decide +kernel)]; kernel_rfl) | (rw [if_neg (by decide +kernel)]; exact ⟨rfl, rfl⟩))
    (fun os started H enc _ => lifted os started H enc)

theorem proved : Rows.TseitinOnlySaid :=
  over
#print axioms proved
end Go.Proofs.Ytlifakbdgmdafaa.tseitinOnly
