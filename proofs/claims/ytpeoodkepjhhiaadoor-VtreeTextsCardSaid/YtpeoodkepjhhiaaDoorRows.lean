/-
  NARROWER THAN 'FOR EVERY INPUT', by the rows' own cells (each row's printed sentence says how): VtreeMeets: laid · VtreeReads: laid · VtreeTexts: laid · VtreeMakes: laid · VtreeDepth: laid · VtreeMoves: laid · VtreeBack: laid · VtreeChecks: laid · VtreeAbove: laid · VtreeKeeps: laid · VtreeKnown: laid.
  DERIVED. THE GIVEN ROWS OF THIS SEAT. 11 by the template 'for every input the law returns true; each argument reads behind the call as it read before'; 0 by the template 'total and deterministic' (their statements: YtpeoodkepjhhiaaDoorTotals.lean).
  GIVEN WITH THE SEED: the statements are not yours to turn. If you find one false, say at which input.
  Laid BY PROGRAM, IN A SANDBOX (cutbox-rows.mjs): the forced cells as the released guide's own fill.sh prints them over the translation 8ec75cf3addc2faf… (all of the seat's roots in one cut). By AI agents, Wed Nov 11 2026. No macro, syntax, notation, axiom, sorry.
-/
import Derived.Test.YtpeoodkepjhhiaaDoorChecked
import GoSem.Claim
import GoSem.ClaimJoined
import GoSem.ClaimMapViews
import Derived.JoinedTies
import Derived.KernelRfl
namespace Go.Proofs.YtpeoodkepjhhiaaDoor
/- THE CELL 'sum', in the pinned program and in every row, IS THE sha256 OF THE DUMP (.gsa) THAT YtpeoodkepjhhiaaDoorProg.lean LOADS. Nothing in Lean hashes anything: it is a label: what it is worth is what the hold of that sum in a sandbox is worth. -/
noncomputable def Tryd.pinned : Pinned := { name := "ytpeoodkepjhhiaadoor", sum := "8ec75cf3addc2fafe59c642972ac0794a2ed796f51ff6539db9e1d015db3ed2d", checked := Tryd.checked }
namespace Rows
def none {H : Type} : Left H := { results := [], args := [] }

/- WHAT THE LISTED PACKAGE-LEVEL VARIABLES READ AS WHEN THE CALL BEGINS. Each datum BY PROGRAM (the guide's laid-datum.mjs) off the statement by which the dump's own 'gosem.cut.vars' lays the variable. In a bare row this is a premise. The card (YtpeoodkepjhhiaaDoorCards.lean) ties it to the program's text. -/
def laid_math_bits_deBruijn32tab {H : Type} : DataW H := .agg [.lit (.int .u8 0), .lit (.int .u8 1), .lit (.int .u8 28), .lit (.int .u8 2), .lit (.int .u8 29), .lit (.int .u8 14), .lit (.int .u8 24), .lit (.int .u8 3), .lit (.int .u8 30), .lit (.int .u8 22), .lit (.int .u8 20), .lit (.int .u8 15), .lit (.int .u8 25), .lit (.int .u8 17), .lit (.int .u8 4), .lit (.int .u8 8), .lit (.int .u8 31), .lit (.int .u8 27), .lit (.int .u8 13), .lit (.int .u8 23), .lit (.int .u8 21), .lit (.int .u8 19), .lit (.int .u8 16), .lit (.int .u8 7), .lit (.int .u8 26), .lit (.int .u8 12), .lit (.int .u8 18), .lit (.int .u8 6), .lit (.int .u8 11), .lit (.int .u8 5), .lit (.int .u8 10), .lit (.int .u8 9)]
def laid_math_bits_deBruijn64tab {H : Type} : DataW H := .agg [.lit (.int .u8 0), .lit (.int .u8 1), .lit (.int .u8 56), .lit (.int .u8 2), .lit (.int .u8 57), .lit (.int .u8 49), .lit (.int .u8 28), .lit (.int .u8 3), .lit (.int .u8 61), .lit (.int .u8 58), .lit (.int .u8 42), .lit (.int .u8 50), .lit (.int .u8 38), .lit (.int .u8 29), .lit (.int .u8 17), .lit (.int .u8 4), .lit (.int .u8 62), .lit (.int .u8 47), .lit (.int .u8 59), .lit (.int .u8 36), .lit (.int .u8 45), .lit (.int .u8 43), .lit (.int .u8 51), .lit (.int .u8 22), .lit (.int .u8 53), .lit (.int .u8 39), .lit (.int .u8 33), .lit (.int .u8 30), .lit (.int .u8 24), .lit (.int .u8 18), .lit (.int .u8 12), .lit (.int .u8 5), .lit (.int .u8 63), .lit (.int .u8 55), .lit (.int .u8 48), .lit (.int .u8 27), .lit (.int .u8 60), .lit (.int .u8 41), .lit (.int .u8 37), .lit (.int .u8 16), .lit (.int .u8 46), .lit (.int .u8 35), .lit (.int .u8 44), .lit (.int .u8 21), .lit (.int .u8 52), .lit (.int .u8 32), .lit (.int .u8 23), .lit (.int .u8 11), .lit (.int .u8 54), .lit (.int .u8 26), .lit (.int .u8 40), .lit (.int .u8 15), .lit (.int .u8 34), .lit (.int .u8 20), .lit (.int .u8 31), .lit (.int .u8 10), .lit (.int .u8 25), .lit (.int .u8 14), .lit (.int .u8 19), .lit (.int .u8 9), .lit (.int .u8 13), .lit (.int .u8 8), .lit (.int .u8 7), .lit (.int .u8 6)]
def laid_internal_strconv_uint64pow10 {H : Type} : DataW H := .agg [.lit (.int .u64 1), .lit (.int .u64 10), .lit (.int .u64 100), .lit (.int .u64 1000), .lit (.int .u64 10000), .lit (.int .u64 100000), .lit (.int .u64 1000000), .lit (.int .u64 10000000), .lit (.int .u64 100000000), .lit (.int .u64 1000000000), .lit (.int .u64 10000000000), .lit (.int .u64 100000000000), .lit (.int .u64 1000000000000), .lit (.int .u64 10000000000000), .lit (.int .u64 100000000000000), .lit (.int .u64 1000000000000000), .lit (.int .u64 10000000000000000), .lit (.int .u64 100000000000000000), .lit (.int .u64 1000000000000000000), .lit (.int .u64 10000000000000000000)]

/-- 'censuslaw25.VtreeMeets': WHATEVER THE INPUT: true; the input reads as it did. -/
def vtreeMeetsSpec : ChangeSpec := { name := "vtreeMeets", fn := fun _ => fun
  | [d1, d2, d3] => { results := [.lit (.bool true)], args := [d1, d2, d3] }
  | _ => none }
def vtreeMeetsRow : OpenClaim := { program := "ytpeoodkepjhhiaadoor", sum := "8ec75cf3addc2fafe59c642972ac0794a2ed796f51ff6539db9e1d015db3ed2d", func := "census/censuslaw25.VtreeMeets", spec := "vtreeMeets", inPlace := ["internal/abi.NoEscape"], unfollowed := true, recurses := true, named := ["internal/strconv.uint64pow10", "math/bits.deBruijn32tab", "math/bits.deBruijn64tab"], plainKeys := false, apart := false, laid := [("math/bits.deBruijn32tab", laid_math_bits_deBruijn32tab), ("math/bits.deBruijn64tab", laid_math_bits_deBruijn64tab), ("internal/strconv.uint64pow10", laid_internal_strconv_uint64pow10)] }
def VtreeMeetsSaid : Prop := vtreeMeetsRow.holds Tryd.pinned (OpenSpec.ofChange vtreeMeetsSpec)

/-- ITS FALSE NEIGHBOUR: 'it returns false'. Refute it at one input. -/
def vtreeMeetsWrong : ChangeSpec := { name := "vtreeMeets", fn := fun _ => fun
  | [d1, d2, d3] => { results := [.lit (.bool false)], args := [d1, d2, d3] }
  | _ => none }
def VtreeMeetsWrongFalsely : Prop := vtreeMeetsRow.holds Tryd.pinned (OpenSpec.ofChange vtreeMeetsWrong)

/-- 'censuslaw25.VtreeReads': WHATEVER THE INPUT: true; the input reads as it did. -/
def vtreeReadsSpec : ChangeSpec := { name := "vtreeReads", fn := fun _ => fun
  | [d] => { results := [.lit (.bool true)], args := [d] }
  | _ => none }
def vtreeReadsRow : OpenClaim := { program := "ytpeoodkepjhhiaadoor", sum := "8ec75cf3addc2fafe59c642972ac0794a2ed796f51ff6539db9e1d015db3ed2d", func := "census/censuslaw25.VtreeReads", spec := "vtreeReads", inPlace := ["internal/abi.NoEscape"], unfollowed := true, recurses := true, named := ["internal/strconv.uint64pow10", "math/bits.deBruijn32tab", "math/bits.deBruijn64tab"], plainKeys := false, apart := false, laid := [("math/bits.deBruijn32tab", laid_math_bits_deBruijn32tab), ("math/bits.deBruijn64tab", laid_math_bits_deBruijn64tab), ("internal/strconv.uint64pow10", laid_internal_strconv_uint64pow10)] }
def VtreeReadsSaid : Prop := vtreeReadsRow.holds Tryd.pinned (OpenSpec.ofChange vtreeReadsSpec)

/-- ITS FALSE NEIGHBOUR: 'it returns false'. Refute it at one input. -/
def vtreeReadsWrong : ChangeSpec := { name := "vtreeReads", fn := fun _ => fun
  | [d] => { results := [.lit (.bool false)], args := [d] }
  | _ => none }
def VtreeReadsWrongFalsely : Prop := vtreeReadsRow.holds Tryd.pinned (OpenSpec.ofChange vtreeReadsWrong)

/-- 'censuslaw25.VtreeTexts': WHATEVER THE INPUT: true; the input reads as it did. -/
def vtreeTextsSpec : ChangeSpec := { name := "vtreeTexts", fn := fun _ => fun
  | [d1, d2, d3] => { results := [.lit (.bool true)], args := [d1, d2, d3] }
  | _ => none }
def vtreeTextsRow : OpenClaim := { program := "ytpeoodkepjhhiaadoor", sum := "8ec75cf3addc2fafe59c642972ac0794a2ed796f51ff6539db9e1d015db3ed2d", func := "census/censuslaw25.VtreeTexts", spec := "vtreeTexts", inPlace := ["internal/abi.NoEscape"], unfollowed := true, recurses := true, named := ["internal/strconv.uint64pow10", "math/bits.deBruijn32tab", "math/bits.deBruijn64tab"], plainKeys := false, apart := false, laid := [("math/bits.deBruijn32tab", laid_math_bits_deBruijn32tab), ("math/bits.deBruijn64tab", laid_math_bits_deBruijn64tab), ("internal/strconv.uint64pow10", laid_internal_strconv_uint64pow10)] }
def VtreeTextsSaid : Prop := vtreeTextsRow.holds Tryd.pinned (OpenSpec.ofChange vtreeTextsSpec)

/-- ITS FALSE NEIGHBOUR: 'it returns false'. Refute it at one input. -/
def vtreeTextsWrong : ChangeSpec := { name := "vtreeTexts", fn := fun _ => fun
  | [d1, d2, d3] => { results := [.lit (.bool false)], args := [d1, d2, d3] }
  | _ => none }
def VtreeTextsWrongFalsely : Prop := vtreeTextsRow.holds Tryd.pinned (OpenSpec.ofChange vtreeTextsWrong)

/-- 'censuslaw25.VtreeMakes': WHATEVER THE INPUT: true; the input reads as it did. -/
def vtreeMakesSpec : ChangeSpec := { name := "vtreeMakes", fn := fun _ => fun
  | [d] => { results := [.lit (.bool true)], args := [d] }
  | _ => none }
def vtreeMakesRow : OpenClaim := { program := "ytpeoodkepjhhiaadoor", sum := "8ec75cf3addc2fafe59c642972ac0794a2ed796f51ff6539db9e1d015db3ed2d", func := "census/censuslaw25.VtreeMakes", spec := "vtreeMakes", inPlace := ["internal/abi.NoEscape"], unfollowed := true, recurses := true, named := ["internal/strconv.uint64pow10", "math/bits.deBruijn32tab", "math/bits.deBruijn64tab"], plainKeys := false, apart := false, laid := [("math/bits.deBruijn32tab", laid_math_bits_deBruijn32tab), ("math/bits.deBruijn64tab", laid_math_bits_deBruijn64tab), ("internal/strconv.uint64pow10", laid_internal_strconv_uint64pow10)] }
def VtreeMakesSaid : Prop := vtreeMakesRow.holds Tryd.pinned (OpenSpec.ofChange vtreeMakesSpec)

/-- ITS FALSE NEIGHBOUR: 'it returns false'. Refute it at one input. -/
def vtreeMakesWrong : ChangeSpec := { name := "vtreeMakes", fn := fun _ => fun
  | [d] => { results := [.lit (.bool false)], args := [d] }
  | _ => none }
def VtreeMakesWrongFalsely : Prop := vtreeMakesRow.holds Tryd.pinned (OpenSpec.ofChange vtreeMakesWrong)

/-- 'censuslaw25.VtreeDepth': WHATEVER THE INPUT: true; the input reads as it did. -/
def vtreeDepthSpec : ChangeSpec := { name := "vtreeDepth", fn := fun _ => fun
  | [d1, d2] => { results := [.lit (.bool true)], args := [d1, d2] }
  | _ => none }
def vtreeDepthRow : OpenClaim := { program := "ytpeoodkepjhhiaadoor", sum := "8ec75cf3addc2fafe59c642972ac0794a2ed796f51ff6539db9e1d015db3ed2d", func := "census/censuslaw25.VtreeDepth", spec := "vtreeDepth", inPlace := ["internal/abi.NoEscape"], unfollowed := true, recurses := true, named := ["internal/strconv.uint64pow10", "math/bits.deBruijn32tab", "math/bits.deBruijn64tab"], plainKeys := false, apart := false, laid := [("math/bits.deBruijn32tab", laid_math_bits_deBruijn32tab), ("math/bits.deBruijn64tab", laid_math_bits_deBruijn64tab), ("internal/strconv.uint64pow10", laid_internal_strconv_uint64pow10)] }
def VtreeDepthSaid : Prop := vtreeDepthRow.holds Tryd.pinned (OpenSpec.ofChange vtreeDepthSpec)

/-- ITS FALSE NEIGHBOUR: 'it returns false'. Refute it at one input. -/
def vtreeDepthWrong : ChangeSpec := { name := "vtreeDepth", fn := fun _ => fun
  | [d1, d2] => { results := [.lit (.bool false)], args := [d1, d2] }
  | _ => none }
def VtreeDepthWrongFalsely : Prop := vtreeDepthRow.holds Tryd.pinned (OpenSpec.ofChange vtreeDepthWrong)

/-- 'censuslaw25.VtreeMoves': WHATEVER THE INPUT: true; the input reads as it did. -/
def vtreeMovesSpec : ChangeSpec := { name := "vtreeMoves", fn := fun _ => fun
  | [d1, d2] => { results := [.lit (.bool true)], args := [d1, d2] }
  | _ => none }
def vtreeMovesRow : OpenClaim := { program := "ytpeoodkepjhhiaadoor", sum := "8ec75cf3addc2fafe59c642972ac0794a2ed796f51ff6539db9e1d015db3ed2d", func := "census/censuslaw25.VtreeMoves", spec := "vtreeMoves", inPlace := ["internal/abi.NoEscape"], unfollowed := true, recurses := true, named := ["internal/strconv.uint64pow10", "math/bits.deBruijn32tab", "math/bits.deBruijn64tab"], plainKeys := false, apart := false, laid := [("math/bits.deBruijn32tab", laid_math_bits_deBruijn32tab), ("math/bits.deBruijn64tab", laid_math_bits_deBruijn64tab), ("internal/strconv.uint64pow10", laid_internal_strconv_uint64pow10)] }
def VtreeMovesSaid : Prop := vtreeMovesRow.holds Tryd.pinned (OpenSpec.ofChange vtreeMovesSpec)

/-- ITS FALSE NEIGHBOUR: 'it returns false'. Refute it at one input. -/
def vtreeMovesWrong : ChangeSpec := { name := "vtreeMoves", fn := fun _ => fun
  | [d1, d2] => { results := [.lit (.bool false)], args := [d1, d2] }
  | _ => none }
def VtreeMovesWrongFalsely : Prop := vtreeMovesRow.holds Tryd.pinned (OpenSpec.ofChange vtreeMovesWrong)

/-- 'censuslaw25.VtreeBack': WHATEVER THE INPUT: true; the input reads as it did. -/
def vtreeBackSpec : ChangeSpec := { name := "vtreeBack", fn := fun _ => fun
  | [d1, d2, d3] => { results := [.lit (.bool true)], args := [d1, d2, d3] }
  | _ => none }
def vtreeBackRow : OpenClaim := { program := "ytpeoodkepjhhiaadoor", sum := "8ec75cf3addc2fafe59c642972ac0794a2ed796f51ff6539db9e1d015db3ed2d", func := "census/censuslaw25.VtreeBack", spec := "vtreeBack", inPlace := ["internal/abi.NoEscape"], unfollowed := true, recurses := true, named := ["internal/strconv.uint64pow10", "math/bits.deBruijn32tab", "math/bits.deBruijn64tab"], plainKeys := false, apart := false, laid := [("math/bits.deBruijn32tab", laid_math_bits_deBruijn32tab), ("math/bits.deBruijn64tab", laid_math_bits_deBruijn64tab), ("internal/strconv.uint64pow10", laid_internal_strconv_uint64pow10)] }
def VtreeBackSaid : Prop := vtreeBackRow.holds Tryd.pinned (OpenSpec.ofChange vtreeBackSpec)

/-- ITS FALSE NEIGHBOUR: 'it returns false'. Refute it at one input. -/
def vtreeBackWrong : ChangeSpec := { name := "vtreeBack", fn := fun _ => fun
  | [d1, d2, d3] => { results := [.lit (.bool false)], args := [d1, d2, d3] }
  | _ => none }
def VtreeBackWrongFalsely : Prop := vtreeBackRow.holds Tryd.pinned (OpenSpec.ofChange vtreeBackWrong)

/-- 'censuslaw25.VtreeChecks': WHATEVER THE INPUT: true; the input reads as it did. -/
def vtreeChecksSpec : ChangeSpec := { name := "vtreeChecks", fn := fun _ => fun
  | [d] => { results := [.lit (.bool true)], args := [d] }
  | _ => none }
def vtreeChecksRow : OpenClaim := { program := "ytpeoodkepjhhiaadoor", sum := "8ec75cf3addc2fafe59c642972ac0794a2ed796f51ff6539db9e1d015db3ed2d", func := "census/censuslaw25.VtreeChecks", spec := "vtreeChecks", inPlace := ["internal/abi.NoEscape"], unfollowed := true, recurses := true, named := ["internal/strconv.uint64pow10", "math/bits.deBruijn32tab", "math/bits.deBruijn64tab"], plainKeys := false, apart := false, laid := [("math/bits.deBruijn32tab", laid_math_bits_deBruijn32tab), ("math/bits.deBruijn64tab", laid_math_bits_deBruijn64tab), ("internal/strconv.uint64pow10", laid_internal_strconv_uint64pow10)] }
def VtreeChecksSaid : Prop := vtreeChecksRow.holds Tryd.pinned (OpenSpec.ofChange vtreeChecksSpec)

/-- ITS FALSE NEIGHBOUR: 'it returns false'. Refute it at one input. -/
def vtreeChecksWrong : ChangeSpec := { name := "vtreeChecks", fn := fun _ => fun
  | [d] => { results := [.lit (.bool false)], args := [d] }
  | _ => none }
def VtreeChecksWrongFalsely : Prop := vtreeChecksRow.holds Tryd.pinned (OpenSpec.ofChange vtreeChecksWrong)

/-- 'censuslaw25.VtreeAbove': WHATEVER THE INPUT: true; the input reads as it did. -/
def vtreeAboveSpec : ChangeSpec := { name := "vtreeAbove", fn := fun _ => fun
  | [d1, d2, d3, d4] => { results := [.lit (.bool true)], args := [d1, d2, d3, d4] }
  | _ => none }
def vtreeAboveRow : OpenClaim := { program := "ytpeoodkepjhhiaadoor", sum := "8ec75cf3addc2fafe59c642972ac0794a2ed796f51ff6539db9e1d015db3ed2d", func := "census/censuslaw25.VtreeAbove", spec := "vtreeAbove", inPlace := ["internal/abi.NoEscape"], unfollowed := true, recurses := true, named := ["internal/strconv.uint64pow10", "math/bits.deBruijn32tab", "math/bits.deBruijn64tab"], plainKeys := false, apart := false, laid := [("math/bits.deBruijn32tab", laid_math_bits_deBruijn32tab), ("math/bits.deBruijn64tab", laid_math_bits_deBruijn64tab), ("internal/strconv.uint64pow10", laid_internal_strconv_uint64pow10)] }
def VtreeAboveSaid : Prop := vtreeAboveRow.holds Tryd.pinned (OpenSpec.ofChange vtreeAboveSpec)

/-- ITS FALSE NEIGHBOUR: 'it returns false'. Refute it at one input. -/
def vtreeAboveWrong : ChangeSpec := { name := "vtreeAbove", fn := fun _ => fun
  | [d1, d2, d3, d4] => { results := [.lit (.bool false)], args := [d1, d2, d3, d4] }
  | _ => none }
def VtreeAboveWrongFalsely : Prop := vtreeAboveRow.holds Tryd.pinned (OpenSpec.ofChange vtreeAboveWrong)

/-- 'censuslaw25.VtreeKeeps': WHATEVER THE INPUT: true; the input reads as it did. -/
def vtreeKeepsSpec : ChangeSpec := { name := "vtreeKeeps", fn := fun _ => fun
  | [d1, d2, d3] => { results := [.lit (.bool true)], args := [d1, d2, d3] }
  | _ => none }
def vtreeKeepsRow : OpenClaim := { program := "ytpeoodkepjhhiaadoor", sum := "8ec75cf3addc2fafe59c642972ac0794a2ed796f51ff6539db9e1d015db3ed2d", func := "census/censuslaw25.VtreeKeeps", spec := "vtreeKeeps", inPlace := ["internal/abi.NoEscape"], unfollowed := true, recurses := true, named := ["internal/strconv.uint64pow10", "math/bits.deBruijn32tab", "math/bits.deBruijn64tab"], plainKeys := false, apart := false, laid := [("math/bits.deBruijn32tab", laid_math_bits_deBruijn32tab), ("math/bits.deBruijn64tab", laid_math_bits_deBruijn64tab), ("internal/strconv.uint64pow10", laid_internal_strconv_uint64pow10)] }
def VtreeKeepsSaid : Prop := vtreeKeepsRow.holds Tryd.pinned (OpenSpec.ofChange vtreeKeepsSpec)

/-- ITS FALSE NEIGHBOUR: 'it returns false'. Refute it at one input. -/
def vtreeKeepsWrong : ChangeSpec := { name := "vtreeKeeps", fn := fun _ => fun
  | [d1, d2, d3] => { results := [.lit (.bool false)], args := [d1, d2, d3] }
  | _ => none }
def VtreeKeepsWrongFalsely : Prop := vtreeKeepsRow.holds Tryd.pinned (OpenSpec.ofChange vtreeKeepsWrong)

/-- 'censuslaw25.VtreeKnown': WHATEVER THE INPUT: true; the input reads as it did. -/
def vtreeKnownSpec : ChangeSpec := { name := "vtreeKnown", fn := fun _ => fun
  | [] => { results := [.lit (.bool true)], args := [] }
  | _ => none }
def vtreeKnownRow : OpenClaim := { program := "ytpeoodkepjhhiaadoor", sum := "8ec75cf3addc2fafe59c642972ac0794a2ed796f51ff6539db9e1d015db3ed2d", func := "census/censuslaw25.VtreeKnown", spec := "vtreeKnown", inPlace := ["internal/abi.NoEscape"], unfollowed := true, recurses := true, named := ["internal/strconv.uint64pow10", "math/bits.deBruijn32tab", "math/bits.deBruijn64tab"], plainKeys := false, apart := false, laid := [("math/bits.deBruijn32tab", laid_math_bits_deBruijn32tab), ("math/bits.deBruijn64tab", laid_math_bits_deBruijn64tab), ("internal/strconv.uint64pow10", laid_internal_strconv_uint64pow10)] }
def VtreeKnownSaid : Prop := vtreeKnownRow.holds Tryd.pinned (OpenSpec.ofChange vtreeKnownSpec)

/-- ITS FALSE NEIGHBOUR: 'it returns false'. Refute it at one input. -/
def vtreeKnownWrong : ChangeSpec := { name := "vtreeKnown", fn := fun _ => fun
  | [] => { results := [.lit (.bool false)], args := [] }
  | _ => none }
def VtreeKnownWrongFalsely : Prop := vtreeKnownRow.holds Tryd.pinned (OpenSpec.ofChange vtreeKnownWrong)

/- THE SECOND FORM. 'bulk': how many values and letters a reading holds, each counted each time it is reached (what is shared counts as often as it is met; a slice's spare places count too). A statement '..UptoSaid' is the law's where the arguments, and the package variables that the reading takes, are together of bulk at most 1048576: NARROWER than '..Said'. Prove '..Said' where nothing that the law and all that it calls make is longer than what came in: it says more and counts as full. Else prove '..UptoSaid'. A law counts once. -/
mutual
def uptoBulk {H : Type} : DataW H → Nat
  | .lit (.string bytes) => bytes.length + 1
  | .lit _ => 1
  | .nil => 1
  | .ptr d => uptoBulk d + 1
  | .slice elems spare => uptoBulkAll elems + uptoBulkAll spare + 1
  | .agg parts => uptoBulkAll parts + 1
  | .iface _ d => uptoBulk d + 1
  | .map entries => uptoBulkEntries entries + 1
  | .held _ => 1
def uptoBulkAll {H : Type} : List (DataW H) → Nat
  | [] => 0
  | d :: r => uptoBulk d + uptoBulkAll r
def uptoBulkEntries {H : Type} : List (Lit × DataW H) → Nat
  | [] => 0
  | x :: r => uptoBulkEntry x + uptoBulkEntries r
def uptoBulkEntry {H : Type} : Lit × DataW H → Nat
  | (.string bytes, d) => bytes.length + uptoBulk d + 1
  | (_, d) => uptoBulk d + 1
 end
def uptoSmall : (H : Type) → List (DataW H) → Bool := fun _ ds => decide (uptoBulkAll ds ≤ 1048576)
def OpenSpec.upto (s : _root_.Go.ChangeSpec) : _root_.Go.OpenSpec := { _root_.Go.OpenSpec.ofChange s with cond := some uptoSmall }

/-- 'censuslaw25.VtreeMeets', WHERE WHAT IT READS IS OF BULK AT MOST 1048576: true; the input reads as it did. -/
def vtreeMeetsUptoRow : OpenClaim := { program := "ytpeoodkepjhhiaadoor", sum := "8ec75cf3addc2fafe59c642972ac0794a2ed796f51ff6539db9e1d015db3ed2d", func := "census/censuslaw25.VtreeMeets", spec := "vtreeMeets", inPlace := ["internal/abi.NoEscape"], unfollowed := true, recurses := true, named := ["internal/strconv.uint64pow10", "math/bits.deBruijn32tab", "math/bits.deBruijn64tab"], plainKeys := false, apart := false, laid := [("math/bits.deBruijn32tab", laid_math_bits_deBruijn32tab), ("math/bits.deBruijn64tab", laid_math_bits_deBruijn64tab), ("internal/strconv.uint64pow10", laid_internal_strconv_uint64pow10)], narrowed := true }
def VtreeMeetsUptoSaid : Prop := vtreeMeetsUptoRow.holds Tryd.pinned (OpenSpec.upto vtreeMeetsSpec)

/-- 'censuslaw25.VtreeReads', WHERE WHAT IT READS IS OF BULK AT MOST 1048576: true; the input reads as it did. -/
def vtreeReadsUptoRow : OpenClaim := { program := "ytpeoodkepjhhiaadoor", sum := "8ec75cf3addc2fafe59c642972ac0794a2ed796f51ff6539db9e1d015db3ed2d", func := "census/censuslaw25.VtreeReads", spec := "vtreeReads", inPlace := ["internal/abi.NoEscape"], unfollowed := true, recurses := true, named := ["internal/strconv.uint64pow10", "math/bits.deBruijn32tab", "math/bits.deBruijn64tab"], plainKeys := false, apart := false, laid := [("math/bits.deBruijn32tab", laid_math_bits_deBruijn32tab), ("math/bits.deBruijn64tab", laid_math_bits_deBruijn64tab), ("internal/strconv.uint64pow10", laid_internal_strconv_uint64pow10)], narrowed := true }
def VtreeReadsUptoSaid : Prop := vtreeReadsUptoRow.holds Tryd.pinned (OpenSpec.upto vtreeReadsSpec)

/-- 'censuslaw25.VtreeTexts', WHERE WHAT IT READS IS OF BULK AT MOST 1048576: true; the input reads as it did. -/
def vtreeTextsUptoRow : OpenClaim := { program := "ytpeoodkepjhhiaadoor", sum := "8ec75cf3addc2fafe59c642972ac0794a2ed796f51ff6539db9e1d015db3ed2d", func := "census/censuslaw25.VtreeTexts", spec := "vtreeTexts", inPlace := ["internal/abi.NoEscape"], unfollowed := true, recurses := true, named := ["internal/strconv.uint64pow10", "math/bits.deBruijn32tab", "math/bits.deBruijn64tab"], plainKeys := false, apart := false, laid := [("math/bits.deBruijn32tab", laid_math_bits_deBruijn32tab), ("math/bits.deBruijn64tab", laid_math_bits_deBruijn64tab), ("internal/strconv.uint64pow10", laid_internal_strconv_uint64pow10)], narrowed := true }
def VtreeTextsUptoSaid : Prop := vtreeTextsUptoRow.holds Tryd.pinned (OpenSpec.upto vtreeTextsSpec)

/-- 'censuslaw25.VtreeMakes', WHERE WHAT IT READS IS OF BULK AT MOST 1048576: true; the input reads as it did. -/
def vtreeMakesUptoRow : OpenClaim := { program := "ytpeoodkepjhhiaadoor", sum := "8ec75cf3addc2fafe59c642972ac0794a2ed796f51ff6539db9e1d015db3ed2d", func := "census/censuslaw25.VtreeMakes", spec := "vtreeMakes", inPlace := ["internal/abi.NoEscape"], unfollowed := true, recurses := true, named := ["internal/strconv.uint64pow10", "math/bits.deBruijn32tab", "math/bits.deBruijn64tab"], plainKeys := false, apart := false, laid := [("math/bits.deBruijn32tab", laid_math_bits_deBruijn32tab), ("math/bits.deBruijn64tab", laid_math_bits_deBruijn64tab), ("internal/strconv.uint64pow10", laid_internal_strconv_uint64pow10)], narrowed := true }
def VtreeMakesUptoSaid : Prop := vtreeMakesUptoRow.holds Tryd.pinned (OpenSpec.upto vtreeMakesSpec)

/-- 'censuslaw25.VtreeDepth', WHERE WHAT IT READS IS OF BULK AT MOST 1048576: true; the input reads as it did. -/
def vtreeDepthUptoRow : OpenClaim := { program := "ytpeoodkepjhhiaadoor", sum := "8ec75cf3addc2fafe59c642972ac0794a2ed796f51ff6539db9e1d015db3ed2d", func := "census/censuslaw25.VtreeDepth", spec := "vtreeDepth", inPlace := ["internal/abi.NoEscape"], unfollowed := true, recurses := true, named := ["internal/strconv.uint64pow10", "math/bits.deBruijn32tab", "math/bits.deBruijn64tab"], plainKeys := false, apart := false, laid := [("math/bits.deBruijn32tab", laid_math_bits_deBruijn32tab), ("math/bits.deBruijn64tab", laid_math_bits_deBruijn64tab), ("internal/strconv.uint64pow10", laid_internal_strconv_uint64pow10)], narrowed := true }
def VtreeDepthUptoSaid : Prop := vtreeDepthUptoRow.holds Tryd.pinned (OpenSpec.upto vtreeDepthSpec)

/-- 'censuslaw25.VtreeMoves', WHERE WHAT IT READS IS OF BULK AT MOST 1048576: true; the input reads as it did. -/
def vtreeMovesUptoRow : OpenClaim := { program := "ytpeoodkepjhhiaadoor", sum := "8ec75cf3addc2fafe59c642972ac0794a2ed796f51ff6539db9e1d015db3ed2d", func := "census/censuslaw25.VtreeMoves", spec := "vtreeMoves", inPlace := ["internal/abi.NoEscape"], unfollowed := true, recurses := true, named := ["internal/strconv.uint64pow10", "math/bits.deBruijn32tab", "math/bits.deBruijn64tab"], plainKeys := false, apart := false, laid := [("math/bits.deBruijn32tab", laid_math_bits_deBruijn32tab), ("math/bits.deBruijn64tab", laid_math_bits_deBruijn64tab), ("internal/strconv.uint64pow10", laid_internal_strconv_uint64pow10)], narrowed := true }
def VtreeMovesUptoSaid : Prop := vtreeMovesUptoRow.holds Tryd.pinned (OpenSpec.upto vtreeMovesSpec)

/-- 'censuslaw25.VtreeBack', WHERE WHAT IT READS IS OF BULK AT MOST 1048576: true; the input reads as it did. -/
def vtreeBackUptoRow : OpenClaim := { program := "ytpeoodkepjhhiaadoor", sum := "8ec75cf3addc2fafe59c642972ac0794a2ed796f51ff6539db9e1d015db3ed2d", func := "census/censuslaw25.VtreeBack", spec := "vtreeBack", inPlace := ["internal/abi.NoEscape"], unfollowed := true, recurses := true, named := ["internal/strconv.uint64pow10", "math/bits.deBruijn32tab", "math/bits.deBruijn64tab"], plainKeys := false, apart := false, laid := [("math/bits.deBruijn32tab", laid_math_bits_deBruijn32tab), ("math/bits.deBruijn64tab", laid_math_bits_deBruijn64tab), ("internal/strconv.uint64pow10", laid_internal_strconv_uint64pow10)], narrowed := true }
def VtreeBackUptoSaid : Prop := vtreeBackUptoRow.holds Tryd.pinned (OpenSpec.upto vtreeBackSpec)

/-- 'censuslaw25.VtreeChecks', WHERE WHAT IT READS IS OF BULK AT MOST 1048576: true; the input reads as it did. -/
def vtreeChecksUptoRow : OpenClaim := { program := "ytpeoodkepjhhiaadoor", sum := "8ec75cf3addc2fafe59c642972ac0794a2ed796f51ff6539db9e1d015db3ed2d", func := "census/censuslaw25.VtreeChecks", spec := "vtreeChecks", inPlace := ["internal/abi.NoEscape"], unfollowed := true, recurses := true, named := ["internal/strconv.uint64pow10", "math/bits.deBruijn32tab", "math/bits.deBruijn64tab"], plainKeys := false, apart := false, laid := [("math/bits.deBruijn32tab", laid_math_bits_deBruijn32tab), ("math/bits.deBruijn64tab", laid_math_bits_deBruijn64tab), ("internal/strconv.uint64pow10", laid_internal_strconv_uint64pow10)], narrowed := true }
def VtreeChecksUptoSaid : Prop := vtreeChecksUptoRow.holds Tryd.pinned (OpenSpec.upto vtreeChecksSpec)

/-- 'censuslaw25.VtreeAbove', WHERE WHAT IT READS IS OF BULK AT MOST 1048576: true; the input reads as it did. -/
def vtreeAboveUptoRow : OpenClaim := { program := "ytpeoodkepjhhiaadoor", sum := "8ec75cf3addc2fafe59c642972ac0794a2ed796f51ff6539db9e1d015db3ed2d", func := "census/censuslaw25.VtreeAbove", spec := "vtreeAbove", inPlace := ["internal/abi.NoEscape"], unfollowed := true, recurses := true, named := ["internal/strconv.uint64pow10", "math/bits.deBruijn32tab", "math/bits.deBruijn64tab"], plainKeys := false, apart := false, laid := [("math/bits.deBruijn32tab", laid_math_bits_deBruijn32tab), ("math/bits.deBruijn64tab", laid_math_bits_deBruijn64tab), ("internal/strconv.uint64pow10", laid_internal_strconv_uint64pow10)], narrowed := true }
def VtreeAboveUptoSaid : Prop := vtreeAboveUptoRow.holds Tryd.pinned (OpenSpec.upto vtreeAboveSpec)

/-- 'censuslaw25.VtreeKeeps', WHERE WHAT IT READS IS OF BULK AT MOST 1048576: true; the input reads as it did. -/
def vtreeKeepsUptoRow : OpenClaim := { program := "ytpeoodkepjhhiaadoor", sum := "8ec75cf3addc2fafe59c642972ac0794a2ed796f51ff6539db9e1d015db3ed2d", func := "census/censuslaw25.VtreeKeeps", spec := "vtreeKeeps", inPlace := ["internal/abi.NoEscape"], unfollowed := true, recurses := true, named := ["internal/strconv.uint64pow10", "math/bits.deBruijn32tab", "math/bits.deBruijn64tab"], plainKeys := false, apart := false, laid := [("math/bits.deBruijn32tab", laid_math_bits_deBruijn32tab), ("math/bits.deBruijn64tab", laid_math_bits_deBruijn64tab), ("internal/strconv.uint64pow10", laid_internal_strconv_uint64pow10)], narrowed := true }
def VtreeKeepsUptoSaid : Prop := vtreeKeepsUptoRow.holds Tryd.pinned (OpenSpec.upto vtreeKeepsSpec)

/-- 'censuslaw25.VtreeKnown', WHERE WHAT IT READS IS OF BULK AT MOST 1048576: true; the input reads as it did. -/
def vtreeKnownUptoRow : OpenClaim := { program := "ytpeoodkepjhhiaadoor", sum := "8ec75cf3addc2fafe59c642972ac0794a2ed796f51ff6539db9e1d015db3ed2d", func := "census/censuslaw25.VtreeKnown", spec := "vtreeKnown", inPlace := ["internal/abi.NoEscape"], unfollowed := true, recurses := true, named := ["internal/strconv.uint64pow10", "math/bits.deBruijn32tab", "math/bits.deBruijn64tab"], plainKeys := false, apart := false, laid := [("math/bits.deBruijn32tab", laid_math_bits_deBruijn32tab), ("math/bits.deBruijn64tab", laid_math_bits_deBruijn64tab), ("internal/strconv.uint64pow10", laid_internal_strconv_uint64pow10)], narrowed := true }
def VtreeKnownUptoSaid : Prop := vtreeKnownUptoRow.holds Tryd.pinned (OpenSpec.upto vtreeKnownSpec)

end Rows
end Go.Proofs.YtpeoodkepjhhiaaDoor
