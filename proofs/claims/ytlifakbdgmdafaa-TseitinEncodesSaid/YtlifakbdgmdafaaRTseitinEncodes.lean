/-
  TseitinEncodes returns true, whatever the circuit: circuits are encoded, or refused, as the reference says.
-/
import Derived.Test.YtlifakbdgmdafaaPost2
import Derived.Test.YtlifakbdgmdafaaEncLaw
import Derived.Test.YtlifakbdgmdafaaWWorks
namespace Go.Proofs.Ytlifakbdgmdafaa.tseitinEncodes
open Go.ChangeShapes Go.WideShapes Go.ChangeAt Go.RowKit

theorem own : ownKnob Try.prog.godebug = none := by kernel_rfl

set_option maxRecDepth 100000 in
theorem lifted (os : Os) (started : os.Started) (H : Type) (enc : TypeId × Value → H) :
    ReturnsInHanded {} Try.checked os 3 .any (Rows.tseitinEncodesSpec.pre6 enc Try.prog Try.f3 Rows.tseitinEncodesRow.domain false) (Rows.tseitinEncodesSpec.post enc Try.prog Try.f3 false true false false) := by
  refine returnsInHanded_of_change (C := Try.checked) own started (by kernel_rfl) Try.func3
    (ChangeSpec.witness6 (enc := enc) (C := Try.checked) false ⟨#[], #[.agg #[.int .i64 0, .slice none 0 0]], []⟩ 8 (by kernel_rfl) (by kernel_rfl) (by kernel_rfl) (by kernel_rfl)) ?_
  intro W base args ds gs before hval0 hW hcnd _
  have hval : ∀ (j : Nat) t v, Try.f3.params[j]? = some t → args[j]? = some v → Value.okWide Try.prog W .any base t v := hval0
  have hW' := hW
  obtain ⟨p, q, hA0, hV, rfl, hfz, hnd⟩ := hW
  have hA : DataW.TrodAll enc Try.prog W 0 (fun _ => true) true Try.f3.params.toList args.toList ds p := hA0
  have hK := hA
  rw [Try.params3] at hA hval
  obtain ⟨rfl, rfl⟩ := trodVars_none hV
  obtain ⟨v0, vs0, d0, ds0, p0, q0, hargs, rfl, rfl, h0, r0⟩ := trodAll_cons hA
  obtain ⟨rfl, rfl, rfl⟩ := trodAll_nil r0
  obtain rfl : args = #[v0] := by cases args; simp_all
  obtain ⟨N0, V0, gs0, rfl, hg0, hN0, hM0⟩ := open_circuit (hval 0 _ v0 rfl rfl) h0
  clear hA0 hval0
  refine (encodes_ok works_ok N0 V0 gs0 W W.heap.size (Nat.le_refl _) hg0).mono fun e W' ⟨he, hb⟩ => ?_
  subst he
  exact ⟨_, rfl, law_post2 rfl hW' hK (trodAll_cons_mk (shut_bool Try.underlying4 _) trodAll_mk0) rfl rfl (by kernel_rfl) hb⟩

theorem over : Rows.tseitinEncodesRow.holds Try.pinned (OpenSpec.ofChange Rows.tseitinEncodesSpec) :=
  OpenClaim.holds_of_wide 3 Try.f3 rfl rfl rfl rfl rfl rfl rfl ⟨rfl, rfl, rfl, rfl, rfl⟩ rfl rfl rfl rfl rfl (by kernel_rfl) Try.func3 (by kernel_rfl)
    (of_decide_eq_true (by kernel_rfl)) (by unfold Func.isWrapper; first | (rw [if_pos (by decide +kernel)]; kernel_rfl) | (rw [if_neg (by decide +kernel)]; exact ⟨rfl, rfl⟩))
    (fun os started H enc _ => lifted os started H enc)

theorem proved : Rows.TseitinEncodesSaid :=
  over
#print axioms proved
end Go.Proofs.Ytlifakbdgmdafaa.tseitinEncodes
