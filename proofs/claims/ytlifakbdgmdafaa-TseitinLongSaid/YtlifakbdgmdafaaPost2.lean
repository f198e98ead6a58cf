/-
  The row's last step: arguments that read as before.
-/
import Derived.Test.YtlifakbdgmdafaaPost
import Derived.Test.YtlifakbdgmdafaaOpen
namespace Go.Proofs.Ytlifakbdgmdafaa
open Go Go.ChangeShapes Go.WideShapes Go.ChangeAt Go.RowKit

theorem carryAll {H : Type} {enc : TypeId × Value → H} {W W' : World} (hb : Below W.heap.size W W') : ∀ {ts : List TypeId} {vs : List Value} {ds : List (DataW H)} {ps : List MemPlace},
    DataW.TrodAll enc Try.prog W 0 (fun _ => true) true ts vs ds ps → (∀ x ∈ ps, x.block < W.heap.size) → ts.all (fun t => Try.prog.readableRec t && decide (t < Try.prog.types.size)) = true →
    DataW.TrodAll enc Try.prog W' 0 (fun b => decide (b < W.heap.size)) true ts vs ds ps := by
  intro ts
  induction ts with
  | nil =>
    intro vs ds ps h _ _
    obtain ⟨rfl, rfl, rfl⟩ := trodAll_nil h
    exact trodAll_mk0
  | cons t ts ih =>
    intro vs ds ps h hlt hts
    obtain ⟨v0, vs0, d0, ds0, p0, q0, rfl, rfl, rfl, h0, r0⟩ := trodAll_cons h
    simp only [List.all_cons, Bool.and_eq_true, decide_eq_true_eq] at hts
    exact trodAll_cons_mk (Below.trod laidOut hts.1.1 hts.1.2 h0 hb (fun x hx => hlt x (List.mem_append_left _ hx))) (ih r0 (fun x hx => hlt x (List.mem_append_right _ hx)) hts.2)

theorem law_post2 {H : Type} {enc : TypeId × Value → H} {f : Func} {s : ChangeSpec} {W W' : World} {args : Array Value} {v : Value} {ds : List (DataW H)} {p : List MemPlace} (hvars : s.vars = [])
    (hW : DataW.Whole enc Try.prog f.params.toList s.vars false W args.toList ds [] (p ++ []))
    (hA : DataW.TrodAll enc Try.prog W 0 (fun _ => true) true f.params.toList args.toList ds p)
    (hres : DataW.TrodAll enc Try.prog W' W.heap.size (fun _ => false) false f.resultTypes.toList (v.resultList f.resultTypes.size) (s.fn H (ds ++ [])).results [])
    (hfa : (s.fn H (ds ++ [])).args = ds) (hfv : (s.fn H (ds ++ [])).vars = []) (hts : f.params.toList.all (fun t => Try.prog.readableRec t && decide (t < Try.prog.types.size)) = true) (hb : Below W.heap.size W W') : s.post enc Try.prog f false true false false W args v W' := by
  have hlt : ∀ p' ∈ p ++ [], p'.block < W.heap.size := fun p' hp => hW.lt p' hp
  have hlt' : ∀ x ∈ p, x.block < W.heap.size := fun x hx => hlt x (by simpa using hx)
  have h2 := carryAll hb hA hlt' hts
  refine ⟨ds, [], p ++ [], [], p, [], hW, hres, ?_, ?_, World.keptBut_mono (fun p' hp => ⟨hp, .inr (.inl (by simpa using hp))⟩) (hb.frame (· ∈ p ++ [])), fun h => by cases h⟩
  · rw [hfa]; exact h2
  · rw [hfv, hvars]; rfl
end Go.Proofs.Ytlifakbdgmdafaa
