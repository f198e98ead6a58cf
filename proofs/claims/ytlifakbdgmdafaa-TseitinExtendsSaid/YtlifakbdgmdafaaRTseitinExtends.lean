/-
  TseitinExtends returns true, whatever the circuit and the set: models are extended as the reference says, and other assignments are not.
-/
import Derived.Test.YtlifakbdgmdafaaPost2
import Derived.Test.YtlifakbdgmdafaaEncLaw
import Derived.Test.YtlifakbdgmdafaaWWorks
namespace Go.Proofs.Ytlifakbdgmdafaa.tseitinExtends
open Go.ChangeShapes Go.WideShapes Go.ChangeAt Go.RowKit

theorem own : ownKnob Try.prog.godebug = none := by kernel_rfl

set_option maxRecDepth 100000 in
theorem lifted (os : Os) (started : os.Started) (H : Type) (enc : TypeId × Value → H) :
    ReturnsInHanded {} Try.checked os 4 .any (Rows.tseitinExtendsSpec.pre6 enc Try.prog Try.f4 Rows.tseitinExtendsRow.domain false) (Rows.tseitinExtendsSpec.post enc Try.prog Try.f4 false true false false) := by
  refine returnsInHanded_of_change (C := Try.checked) own started (by kernel_rfl) Try.func4
    (ChangeSpec.witness6 (enc := enc) (C := Try.checked) false ⟨#[], #[.agg #[.int .i64 0, .slice none 0 0], .agg #[.int .u64 0, .int .u64 0]], []⟩ 8 (by kernel_rfl) (by kernel_rfl) (by kernel_rfl) (by kernel_rfl)) ?_
  intro W base args ds gs before hval0 hW hcnd _
  have hval : ∀ (j : Nat) t v, Try.f4.params[j]? = some t → args[j]? = some v → Value.okWide Try.prog W .any base t v := hval0
  have hW' := hW
  obtain ⟨p, q, hA0, hV, rfl, hfz, hnd⟩ := hW
  have hA : DataW.TrodAll enc Try.prog W 0 (fun _ => true) true Try.f4.params.toList args.toList ds p := hA0
  have hK := hA
  rw [Try.params4] at hA hval
  obtain ⟨rfl, rfl⟩ := trodVars_none hV
  obtain ⟨v0, vs0, d0, ds0, p0, q0, hargs, rfl, rfl, h0, r0⟩ := trodAll_cons hA
  obtain ⟨v1, vs1, d1, ds1, p1, q1, rfl, rfl, rfl, h1, r1⟩ := trodAll_cons r0
  obtain ⟨rfl, rfl, rfl⟩ := trodAll_nil r1
  obtain rfl : args = #[v0, v1] := by cases args; simp_all
  obtain ⟨N0, V0, gs0, rfl, hg0, hN0, hM0⟩ := open_circuit (hval 0 _ v0 rfl rfl) h0
  obtain ⟨s1, rfl⟩ := open_set (hval 1 _ v1 rfl rfl) h1
  clear hA0 hval0
  refine (extends_ok works_ok N0 V0 gs0 s1 W W.heap.size (Nat.le_refl _) hg0 hN0 hM0).mono fun e W' ⟨he, hb⟩ => ?_
  subst he
  exact ⟨_, rfl, law_post2 rfl hW' hK (trodAll_cons_mk (shut_bool Try.underlying4 _) trodAll_mk0) rfl rfl (by kernel_rfl) hb⟩

theorem over : Rows.tseitinExtendsRow.holds Try.pinned (OpenSpec.ofChange Rows.tseitinExtendsSpec) :=
  OpenClaim.holds_of_wide 4 Try.f4 rfl rfl rfl rfl rfl rfl rfl ⟨rfl, rfl, rfl, rfl, rfl⟩ rfl rfl rfl rfl rfl (by kernel_rfl) Try.func4 (by kernel_rfl)
    (of_decide_eq_true (by kernel_rfl)) (by unfold Func.isWrapper; first | (rw [if_pos (by decide +kernel)]; kernel_rfl) | (rw [if_neg (by decide +kernel)]; exact ⟨rfl, rfl⟩))
    (fun os started H enc _ => lifted os started H enc)

theorem proved : Rows.TseitinExtendsSaid :=
  over
#print axioms proved
end Go.Proofs.Ytlifakbdgmdafaa.tseitinExtends
