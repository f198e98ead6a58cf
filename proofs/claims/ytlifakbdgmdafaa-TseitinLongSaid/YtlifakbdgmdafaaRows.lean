/-
  No cell of these rows narrows 'for every input' (looked for: loops, veiled, ifaces, maps, wideKeys, modest, calm, conditions, laid).
  DERIVED. THE GIVEN ROWS OF THIS SEAT. 8 by the template 'for every input the law returns true; each argument reads behind the call as it read before'; 0 by the template 'total and deterministic' (their statements: YtlifakbdgmdafaaTotals.lean).
  GIVEN WITH THE SEED: the statements are not yours to turn. If you find one false, say at which input.
  Laid BY PROGRAM, IN A SANDBOX (cutbox-rows.mjs): the forced cells as the released guide's own fill.sh prints them over the translation 04217708d97aa26e… (all of the seat's roots in one cut). By AI agents, Wed Nov 11 2026. No macro, syntax, notation, axiom, sorry.
-/
import Derived.Test.YtlifakbdgmdafaaChecked
import GoSem.Claim
import GoSem.ClaimJoined
import GoSem.ClaimMapViews
import Derived.JoinedTies
import Derived.KernelRfl
namespace Go.Proofs.Ytlifakbdgmdafaa
/- THE CELL 'sum', in the pinned program and in every row, IS THE sha256 OF THE DUMP (.gsa) THAT YtlifakbdgmdafaaProg.lean LOADS. Nothing in Lean hashes anything: it is a label: what it is worth is what the hold of that sum in a sandbox is worth. -/
noncomputable def Try.pinned : Pinned := { name := "ytlifakbdgmdafaa", sum := "04217708d97aa26ef8ac95ab6ca28454405531ab528f89276c27c4eb696c2cad", checked := Try.checked }
namespace Rows
def none {H : Type} : Left H := { results := [], args := [] }

/-- 'censuslaw10.TseitinEncodes': WHATEVER THE INPUT: true; the input reads as it did. -/
def tseitinEncodesSpec : ChangeSpec := { name := "tseitinEncodes", fn := fun _ => fun
  | [d] => { results := [.lit (.bool true)], args := [d] }
  | _ => none }
def tseitinEncodesRow : OpenClaim := { program := "ytlifakbdgmdafaa", sum := "04217708d97aa26ef8ac95ab6ca28454405531ab528f89276c27c4eb696c2cad", func := "census/censuslaw10.TseitinEncodes", spec := "tseitinEncodes", unfollowed := true, recurses := true, apart := false }
def TseitinEncodesSaid : Prop := tseitinEncodesRow.holds Try.pinned (OpenSpec.ofChange tseitinEncodesSpec)

/-- ITS FALSE NEIGHBOUR: 'it returns false'. Refute it at one input. -/
def tseitinEncodesWrong : ChangeSpec := { name := "tseitinEncodes", fn := fun _ => fun
  | [d] => { results := [.lit (.bool false)], args := [d] }
  | _ => none }
def TseitinEncodesWrongFalsely : Prop := tseitinEncodesRow.holds Try.pinned (OpenSpec.ofChange tseitinEncodesWrong)

/-- 'censuslaw10.TseitinExtends': WHATEVER THE INPUT: true; the input reads as it did. -/
def tseitinExtendsSpec : ChangeSpec := { name := "tseitinExtends", fn := fun _ => fun
  | [d1, d2] => { results := [.lit (.bool true)], args := [d1, d2] }
  | _ => none }
def tseitinExtendsRow : OpenClaim := { program := "ytlifakbdgmdafaa", sum := "04217708d97aa26ef8ac95ab6ca28454405531ab528f89276c27c4eb696c2cad", func := "census/censuslaw10.TseitinExtends", spec := "tseitinExtends", unfollowed := true, recurses := true, apart := false }
def TseitinExtendsSaid : Prop := tseitinExtendsRow.holds Try.pinned (OpenSpec.ofChange tseitinExtendsSpec)

/-- ITS FALSE NEIGHBOUR: 'it returns false'. Refute it at one input. -/
def tseitinExtendsWrong : ChangeSpec := { name := "tseitinExtends", fn := fun _ => fun
  | [d1, d2] => { results := [.lit (.bool false)], args := [d1, d2] }
  | _ => none }
def TseitinExtendsWrongFalsely : Prop := tseitinExtendsRow.holds Try.pinned (OpenSpec.ofChange tseitinExtendsWrong)

/-- 'censuslaw10.TseitinLong': WHATEVER THE INPUT: true; the input reads as it did. -/
def tseitinLongSpec : ChangeSpec := { name := "tseitinLong", fn := fun _ => fun
  | [d1, d2, d3, d4] => { results := [.lit (.bool true)], args := [d1, d2, d3, d4] }
  | _ => none }
def tseitinLongRow : OpenClaim := { program := "ytlifakbdgmdafaa", sum := "04217708d97aa26ef8ac95ab6ca28454405531ab528f89276c27c4eb696c2cad", func := "census/censuslaw10.TseitinLong", spec := "tseitinLong", unfollowed := true, recurses := true, apart := false }
def TseitinLongSaid : Prop := tseitinLongRow.holds Try.pinned (OpenSpec.ofChange tseitinLongSpec)

/-- ITS FALSE NEIGHBOUR: 'it returns false'. Refute it at one input. -/
def tseitinLongWrong : ChangeSpec := { name := "tseitinLong", fn := fun _ => fun
  | [d1, d2, d3, d4] => { results := [.lit (.bool false)], args := [d1, d2, d3, d4] }
  | _ => none }
def TseitinLongWrongFalsely : Prop := tseitinLongRow.holds Try.pinned (OpenSpec.ofChange tseitinLongWrong)

/-- 'censuslaw10.TseitinModels': WHATEVER THE INPUT: true; the input reads as it did. -/
def tseitinModelsSpec : ChangeSpec := { name := "tseitinModels", fn := fun _ => fun
  | [d] => { results := [.lit (.bool true)], args := [d] }
  | _ => none }
def tseitinModelsRow : OpenClaim := { program := "ytlifakbdgmdafaa", sum := "04217708d97aa26ef8ac95ab6ca28454405531ab528f89276c27c4eb696c2cad", func := "census/censuslaw10.TseitinModels", spec := "tseitinModels", unfollowed := true, recurses := true, apart := false }
def TseitinModelsSaid : Prop := tseitinModelsRow.holds Try.pinned (OpenSpec.ofChange tseitinModelsSpec)

/-- ITS FALSE NEIGHBOUR: 'it returns false'. Refute it at one input. -/
def tseitinModelsWrong : ChangeSpec := { name := "tseitinModels", fn := fun _ => fun
  | [d] => { results := [.lit (.bool false)], args := [d] }
  | _ => none }
def TseitinModelsWrongFalsely : Prop := tseitinModelsRow.holds Try.pinned (OpenSpec.ofChange tseitinModelsWrong)

/-- 'censuslaw10.TseitinGates': WHATEVER THE INPUT: true; the input reads as it did. -/
def tseitinGatesSpec : ChangeSpec := { name := "tseitinGates", fn := fun _ => fun
  | [d1, d2] => { results := [.lit (.bool true)], args := [d1, d2] }
  | _ => none }
def tseitinGatesRow : OpenClaim := { program := "ytlifakbdgmdafaa", sum := "04217708d97aa26ef8ac95ab6ca28454405531ab528f89276c27c4eb696c2cad", func := "census/censuslaw10.TseitinGates", spec := "tseitinGates", unfollowed := true, recurses := true, apart := false }
def TseitinGatesSaid : Prop := tseitinGatesRow.holds Try.pinned (OpenSpec.ofChange tseitinGatesSpec)

/-- ITS FALSE NEIGHBOUR: 'it returns false'. Refute it at one input. -/
def tseitinGatesWrong : ChangeSpec := { name := "tseitinGates", fn := fun _ => fun
  | [d1, d2] => { results := [.lit (.bool false)], args := [d1, d2] }
  | _ => none }
def TseitinGatesWrongFalsely : Prop := tseitinGatesRow.holds Try.pinned (OpenSpec.ofChange tseitinGatesWrong)

/-- 'censuslaw10.TseitinSizes': WHATEVER THE INPUT: true; the input reads as it did. -/
def tseitinSizesSpec : ChangeSpec := { name := "tseitinSizes", fn := fun _ => fun
  | [d] => { results := [.lit (.bool true)], args := [d] }
  | _ => none }
def tseitinSizesRow : OpenClaim := { program := "ytlifakbdgmdafaa", sum := "04217708d97aa26ef8ac95ab6ca28454405531ab528f89276c27c4eb696c2cad", func := "census/censuslaw10.TseitinSizes", spec := "tseitinSizes", unfollowed := true, recurses := true, apart := false }
def TseitinSizesSaid : Prop := tseitinSizesRow.holds Try.pinned (OpenSpec.ofChange tseitinSizesSpec)

/-- ITS FALSE NEIGHBOUR: 'it returns false'. Refute it at one input. -/
def tseitinSizesWrong : ChangeSpec := { name := "tseitinSizes", fn := fun _ => fun
  | [d] => { results := [.lit (.bool false)], args := [d] }
  | _ => none }
def TseitinSizesWrongFalsely : Prop := tseitinSizesRow.holds Try.pinned (OpenSpec.ofChange tseitinSizesWrong)

/-- 'censuslaw10.TseitinKnown': WHATEVER THE INPUT: true; the input reads as it did. -/
def tseitinKnownSpec : ChangeSpec := { name := "tseitinKnown", fn := fun _ => fun
  | [] => { results := [.lit (.bool true)], args := [] }
  | _ => none }
def tseitinKnownRow : OpenClaim := { program := "ytlifakbdgmdafaa", sum := "04217708d97aa26ef8ac95ab6ca28454405531ab528f89276c27c4eb696c2cad", func := "census/censuslaw10.TseitinKnown", spec := "tseitinKnown", unfollowed := true, recurses := true, apart := false }
def TseitinKnownSaid : Prop := tseitinKnownRow.holds Try.pinned (OpenSpec.ofChange tseitinKnownSpec)

/-- ITS FALSE NEIGHBOUR: 'it returns false'. Refute it at one input. -/
def tseitinKnownWrong : ChangeSpec := { name := "tseitinKnown", fn := fun _ => fun
  | [] => { results := [.lit (.bool false)], args := [] }
  | _ => none }
def TseitinKnownWrongFalsely : Prop := tseitinKnownRow.holds Try.pinned (OpenSpec.ofChange tseitinKnownWrong)

/-- 'censuslaw10.TseitinOnly': WHATEVER THE INPUT: true; the input reads as it did. -/
def tseitinOnlySpec : ChangeSpec := { name := "tseitinOnly", fn := fun _ => fun
  | [d1, d2, d3] => { results := [.lit (.bool true)], args := [d1, d2, d3] }
  | _ => none }
def tseitinOnlyRow : OpenClaim := { program := "ytlifakbdgmdafaa", sum := "04217708d97aa26ef8ac95ab6ca28454405531ab528f89276c27c4eb696c2cad", func := "census/censuslaw10.TseitinOnly", spec := "tseitinOnly", unfollowed := true, recurses := true, apart := false }
def TseitinOnlySaid : Prop := tseitinOnlyRow.holds Try.pinned (OpenSpec.ofChange tseitinOnlySpec)

/-- ITS FALSE NEIGHBOUR: 'it returns false'. Refute it at one input. -/
def tseitinOnlyWrong : ChangeSpec := { name := "tseitinOnly", fn := fun _ => fun
  | [d1, d2, d3] => { results := [.lit (.bool false)], args := [d1, d2, d3] }
  | _ => none }
def TseitinOnlyWrongFalsely : Prop := tseitinOnlyRow.holds Try.pinned (OpenSpec.ofChange tseitinOnlyWrong)

/- THE SECOND FORM. 'bulk': how many values and letters a reading holds, each counted each time it is reached (what is shared counts as often as it is met; a slice's spare places count too). A statement '..UptoSaid' is the law's where the arguments, and the package variables that the reading takes, are together of bulk at most 1048576: NARROWER than '..Said'. Prove '..Said' where nothing that the law and all that it calls make is longer than what came in: it says more and counts as full. Else prove '..UptoSaid'. A law counts once. -/
mutual
def uptoBulk {H : Type} : DataW H → Nat
  | .lit (.string bytes) => bytes.length + 1
  | .lit _ => 1
  | .nil => 1
  | .ptr d => uptoBulk d + 1
  | .slice elems spare => uptoBulkAll elems + uptoBulkAll spare + 1
  | .agg parts => uptoBulkAll parts + 1
  | .iface _ d => uptoBulk d + 1
  | .map entries => uptoBulkEntries entries + 1
  | .held _ => 1
def uptoBulkAll {H : Type} : List (DataW H) → Nat
  | [] => 0
  | d :: r => uptoBulk d + uptoBulkAll r
def uptoBulkEntries {H : Type} : List (Lit × DataW H) → Nat
  | [] => 0
  | x :: r => uptoBulkEntry x + uptoBulkEntries r
def uptoBulkEntry {H : Type} : Lit × DataW H → Nat
  | (.string bytes, d) => bytes.length + uptoBulk d + 1
  | (_, d) => uptoBulk d + 1
 end
def uptoSmall : (H : Type) → List (DataW H) → Bool := fun _ ds => decide (uptoBulkAll ds ≤ 1048576)
def OpenSpec.upto (s : _root_.Go.ChangeSpec) : _root_.Go.OpenSpec := { _root_.Go.OpenSpec.ofChange s with cond := some uptoSmall }

/-- 'censuslaw10.TseitinEncodes', WHERE WHAT IT READS IS OF BULK AT MOST 1048576: true; the input reads as it did. -/
def tseitinEncodesUptoRow : OpenClaim := { program := "ytlifakbdgmdafaa", sum := "04217708d97aa26ef8ac95ab6ca28454405531ab528f89276c27c4eb696c2cad", func := "census/censuslaw10.TseitinEncodes", spec := "tseitinEncodes", unfollowed := true, recurses := true, apart := false, narrowed := true }
def TseitinEncodesUptoSaid : Prop := tseitinEncodesUptoRow.holds Try.pinned (OpenSpec.upto tseitinEncodesSpec)

/-- 'censuslaw10.TseitinExtends', WHERE WHAT IT READS IS OF BULK AT MOST 1048576: true; the input reads as it did. -/
def tseitinExtendsUptoRow : OpenClaim := { program := "ytlifakbdgmdafaa", sum := "04217708d97aa26ef8ac95ab6ca28454405531ab528f89276c27c4eb696c2cad", func := "census/censuslaw10.TseitinExtends", spec := "tseitinExtends", unfollowed := true, recurses := true, apart := false, narrowed := true }
def TseitinExtendsUptoSaid : Prop := tseitinExtendsUptoRow.holds Try.pinned (OpenSpec.upto tseitinExtendsSpec)

/-- 'censuslaw10.TseitinLong', WHERE WHAT IT READS IS OF BULK AT MOST 1048576: true; the input reads as it did. -/
def tseitinLongUptoRow : OpenClaim := { program := "ytlifakbdgmdafaa", sum := "04217708d97aa26ef8ac95ab6ca28454405531ab528f89276c27c4eb696c2cad", func := "census/censuslaw10.TseitinLong", spec := "tseitinLong", unfollowed := true, recurses := true, apart := false, narrowed := true }
def TseitinLongUptoSaid : Prop := tseitinLongUptoRow.holds Try.pinned (OpenSpec.upto tseitinLongSpec)

/-- 'censuslaw10.TseitinModels', WHERE WHAT IT READS IS OF BULK AT MOST 1048576: true; the input reads as it did. -/
def tseitinModelsUptoRow : OpenClaim := { program := "ytlifakbdgmdafaa", sum := "04217708d97aa26ef8ac95ab6ca28454405531ab528f89276c27c4eb696c2cad", func := "census/censuslaw10.TseitinModels", spec := "tseitinModels", unfollowed := true, recurses := true, apart := false, narrowed := true }
def TseitinModelsUptoSaid : Prop := tseitinModelsUptoRow.holds Try.pinned (OpenSpec.upto tseitinModelsSpec)

/-- 'censuslaw10.TseitinGates', WHERE WHAT IT READS IS OF BULK AT MOST 1048576: true; the input reads as it did. -/
def tseitinGatesUptoRow : OpenClaim := { program := "ytlifakbdgmdafaa", sum := "04217708d97aa26ef8ac95ab6ca28454405531ab528f89276c27c4eb696c2cad", func := "census/censuslaw10.TseitinGates", spec := "tseitinGates", unfollowed := true, recurses := true, apart := false, narrowed := true }
def TseitinGatesUptoSaid : Prop := tseitinGatesUptoRow.holds Try.pinned (OpenSpec.upto tseitinGatesSpec)

/-- 'censuslaw10.TseitinSizes', WHERE WHAT IT READS IS OF BULK AT MOST 1048576: true; the input reads as it did. -/
def tseitinSizesUptoRow : OpenClaim := { program := "ytlifakbdgmdafaa", sum := "04217708d97aa26ef8ac95ab6ca28454405531ab528f89276c27c4eb696c2cad", func := "census/censuslaw10.TseitinSizes", spec := "tseitinSizes", unfollowed := true, recurses := true, apart := false, narrowed := true }
def TseitinSizesUptoSaid : Prop := tseitinSizesUptoRow.holds Try.pinned (OpenSpec.upto tseitinSizesSpec)

/-- 'censuslaw10.TseitinKnown', WHERE WHAT IT READS IS OF BULK AT MOST 1048576: true; the input reads as it did. -/
def tseitinKnownUptoRow : OpenClaim := { program := "ytlifakbdgmdafaa", sum := "04217708d97aa26ef8ac95ab6ca28454405531ab528f89276c27c4eb696c2cad", func := "census/censuslaw10.TseitinKnown", spec := "tseitinKnown", unfollowed := true, recurses := true, apart := false, narrowed := true }
def TseitinKnownUptoSaid : Prop := tseitinKnownUptoRow.holds Try.pinned (OpenSpec.upto tseitinKnownSpec)

/-- 'censuslaw10.TseitinOnly', WHERE WHAT IT READS IS OF BULK AT MOST 1048576: true; the input reads as it did. -/
def tseitinOnlyUptoRow : OpenClaim := { program := "ytlifakbdgmdafaa", sum := "04217708d97aa26ef8ac95ab6ca28454405531ab528f89276c27c4eb696c2cad", func := "census/censuslaw10.TseitinOnly", spec := "tseitinOnly", unfollowed := true, recurses := true, apart := false, narrowed := true }
def TseitinOnlyUptoSaid : Prop := tseitinOnlyUptoRow.holds Try.pinned (OpenSpec.upto tseitinOnlySpec)

end Rows
end Go.Proofs.Ytlifakbdgmdafaa
