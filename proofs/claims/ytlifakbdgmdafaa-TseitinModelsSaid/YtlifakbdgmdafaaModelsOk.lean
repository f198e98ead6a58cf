/-
  TseitinModels returns true.
-/
import Derived.Test.YtlifakbdgmdafaaModelsLaw
import Derived.Test.YtlifakbdgmdafaaModelsLaw2
import Derived.Test.YtlifakbdgmdafaaWExtend
namespace Go.Proofs.Ytlifakbdgmdafaa
open Go Go.RowKit

theorem models_ok (hworks : WorksOk) (N : Int) (V : Value) (gs : List Gate) (w : World) (B : Nat) (hB : B ≤ w.heap.size) (hg : GatesV w B V gs) :
    Calls Try.prog 6 #[.agg #[.int .i64 N, V]] w fun e w' => e = .returned (.bool true) ∧ Below w.heap.size w w' := by
  by_cases h : (decide (gs.length ≤ 60) && gs.all fun g => decide (g.inp.length ≤ 150)) = true ∧ (encodeOf N gs).e = 0 ∧ (encodeOf N gs).n ≤ 11
  · obtain ⟨h1, h2, h3⟩ := h
    obtain ⟨b1, b2, _, _⟩ := enc_bounds h2
    obtain ⟨n0, rfl⟩ : ∃ n0 : Nat, N = (n0 : Int) := ⟨N.toNat, by omega⟩
    obtain ⟨n1, hn⟩ : ∃ n1 : Nat, (encodeOf n0 gs).n = (n1 : Int) := ⟨(encodeOf n0 gs).n.toNat, by omega⟩
    exact models_main hworks (fun N V gs a w B h1 h2 h3 h4 h5 => tseitin_extend N V gs a w B h1 h2 h3 h4 h5) n0 n1 V gs w B hB hg h1 h2 hn (by omega)
  · refine models_early hworks N V gs w B hB hg (fun h1 => ?_)
    by_cases h2 : (encodeOf N gs).e = 0
    · right
      exact Int.lt_of_not_ge (fun h3 => h ⟨h1, h2, h3⟩)
    · exact .inl h2
end Go.Proofs.Ytlifakbdgmdafaa
