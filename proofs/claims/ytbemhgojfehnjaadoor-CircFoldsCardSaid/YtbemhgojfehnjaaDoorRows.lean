/-
  NARROWER THAN 'FOR EVERY INPUT', by the rows' own cells (each row's printed sentence says how): CircEvals: laid · CircFolds: laid · CircSames: laid · CircKeeps: laid · CircSimple: laid · CircTwice: laid · CircLong: laid · CircKnown: laid · CircChecks: laid · CircVars: laid.
  DERIVED. THE GIVEN ROWS OF THIS SEAT. 10 by the template 'for every input the law returns true; each argument reads behind the call as it read before'; 0 by the template 'total and deterministic' (their statements: YtbemhgojfehnjaaDoorTotals.lean).
  GIVEN WITH THE SEED: the statements are not yours to turn. If you find one false, say at which input.
  Laid BY PROGRAM, IN A SANDBOX (cutbox-rows.mjs): the forced cells as the released guide's own fill.sh prints them over the translation 13a12d3deb02d386… (all of the seat's roots in one cut). By AI agents, Wed Nov 11 2026. No macro, syntax, notation, axiom, sorry.
-/
import Derived.Test.YtbemhgojfehnjaaDoorChecked
import GoSem.Claim
import GoSem.ClaimJoined
import GoSem.ClaimMapViews
import Derived.JoinedTies
import Derived.KernelRfl
namespace Go.Proofs.YtbemhgojfehnjaaDoor
/- THE CELL 'sum', in the pinned program and in every row, IS THE sha256 OF THE DUMP (.gsa) THAT YtbemhgojfehnjaaDoorProg.lean LOADS. Nothing in Lean hashes anything: it is a label: what it is worth is what the hold of that sum in a sandbox is worth. -/
noncomputable def Tryd.pinned : Pinned := { name := "ytbemhgojfehnjaadoor", sum := "13a12d3deb02d386d655369e1029a4d701beb048bb5bebb477674c27aa508065", checked := Tryd.checked }
namespace Rows
def none {H : Type} : Left H := { results := [], args := [] }

/- WHAT THE LISTED PACKAGE-LEVEL VARIABLES READ AS WHEN THE CALL BEGINS. Each datum BY PROGRAM (the guide's laid-datum.mjs) off the statement by which the dump's own 'gosem.cut.vars' lays the variable. In a bare row this is a premise. The card (YtbemhgojfehnjaaDoorCards.lean) ties it to the program's text. -/
def laid_math_bits_deBruijn32tab {H : Type} : DataW H := .agg [.lit (.int .u8 0), .lit (.int .u8 1), .lit (.int .u8 28), .lit (.int .u8 2), .lit (.int .u8 29), .lit (.int .u8 14), .lit (.int .u8 24), .lit (.int .u8 3), .lit (.int .u8 30), .lit (.int .u8 22), .lit (.int .u8 20), .lit (.int .u8 15), .lit (.int .u8 25), .lit (.int .u8 17), .lit (.int .u8 4), .lit (.int .u8 8), .lit (.int .u8 31), .lit (.int .u8 27), .lit (.int .u8 13), .lit (.int .u8 23), .lit (.int .u8 21), .lit (.int .u8 19), .lit (.int .u8 16), .lit (.int .u8 7), .lit (.int .u8 26), .lit (.int .u8 12), .lit (.int .u8 18), .lit (.int .u8 6), .lit (.int .u8 11), .lit (.int .u8 5), .lit (.int .u8 10), .lit (.int .u8 9)]
def laid_math_bits_deBruijn64tab {H : Type} : DataW H := .agg [.lit (.int .u8 0), .lit (.int .u8 1), .lit (.int .u8 56), .lit (.int .u8 2), .lit (.int .u8 57), .lit (.int .u8 49), .lit (.int .u8 28), .lit (.int .u8 3), .lit (.int .u8 61), .lit (.int .u8 58), .lit (.int .u8 42), .lit (.int .u8 50), .lit (.int .u8 38), .lit (.int .u8 29), .lit (.int .u8 17), .lit (.int .u8 4), .lit (.int .u8 62), .lit (.int .u8 47), .lit (.int .u8 59), .lit (.int .u8 36), .lit (.int .u8 45), .lit (.int .u8 43), .lit (.int .u8 51), .lit (.int .u8 22), .lit (.int .u8 53), .lit (.int .u8 39), .lit (.int .u8 33), .lit (.int .u8 30), .lit (.int .u8 24), .lit (.int .u8 18), .lit (.int .u8 12), .lit (.int .u8 5), .lit (.int .u8 63), .lit (.int .u8 55), .lit (.int .u8 48), .lit (.int .u8 27), .lit (.int .u8 60), .lit (.int .u8 41), .lit (.int .u8 37), .lit (.int .u8 16), .lit (.int .u8 46), .lit (.int .u8 35), .lit (.int .u8 44), .lit (.int .u8 21), .lit (.int .u8 52), .lit (.int .u8 32), .lit (.int .u8 23), .lit (.int .u8 11), .lit (.int .u8 54), .lit (.int .u8 26), .lit (.int .u8 40), .lit (.int .u8 15), .lit (.int .u8 34), .lit (.int .u8 20), .lit (.int .u8 31), .lit (.int .u8 10), .lit (.int .u8 25), .lit (.int .u8 14), .lit (.int .u8 19), .lit (.int .u8 9), .lit (.int .u8 13), .lit (.int .u8 8), .lit (.int .u8 7), .lit (.int .u8 6)]
def laid_internal_strconv_uint64pow10 {H : Type} : DataW H := .agg [.lit (.int .u64 1), .lit (.int .u64 10), .lit (.int .u64 100), .lit (.int .u64 1000), .lit (.int .u64 10000), .lit (.int .u64 100000), .lit (.int .u64 1000000), .lit (.int .u64 10000000), .lit (.int .u64 100000000), .lit (.int .u64 1000000000), .lit (.int .u64 10000000000), .lit (.int .u64 100000000000), .lit (.int .u64 1000000000000), .lit (.int .u64 10000000000000), .lit (.int .u64 100000000000000), .lit (.int .u64 1000000000000000), .lit (.int .u64 10000000000000000), .lit (.int .u64 100000000000000000), .lit (.int .u64 1000000000000000000), .lit (.int .u64 10000000000000000000)]

/-- 'censuslaw07.CircEvals': WHATEVER THE INPUT: true; the input reads as it did. -/
def circEvalsSpec : ChangeSpec := { name := "circEvals", fn := fun _ => fun
  | [d1, d2] => { results := [.lit (.bool true)], args := [d1, d2] }
  | _ => none }
def circEvalsRow : OpenClaim := { program := "ytbemhgojfehnjaadoor", sum := "13a12d3deb02d386d655369e1029a4d701beb048bb5bebb477674c27aa508065", func := "census/censuslaw07.CircEvals", spec := "circEvals", unfollowed := true, recurses := true, named := ["internal/strconv.uint64pow10", "math/bits.deBruijn32tab", "math/bits.deBruijn64tab"], apart := false, laid := [("math/bits.deBruijn32tab", laid_math_bits_deBruijn32tab), ("math/bits.deBruijn64tab", laid_math_bits_deBruijn64tab), ("internal/strconv.uint64pow10", laid_internal_strconv_uint64pow10)] }
def CircEvalsSaid : Prop := circEvalsRow.holds Tryd.pinned (OpenSpec.ofChange circEvalsSpec)

/-- ITS FALSE NEIGHBOUR: 'it returns false'. Refute it at one input. -/
def circEvalsWrong : ChangeSpec := { name := "circEvals", fn := fun _ => fun
  | [d1, d2] => { results := [.lit (.bool false)], args := [d1, d2] }
  | _ => none }
def CircEvalsWrongFalsely : Prop := circEvalsRow.holds Tryd.pinned (OpenSpec.ofChange circEvalsWrong)

/-- 'censuslaw07.CircFolds': WHATEVER THE INPUT: true; the input reads as it did. -/
def circFoldsSpec : ChangeSpec := { name := "circFolds", fn := fun _ => fun
  | [d] => { results := [.lit (.bool true)], args := [d] }
  | _ => none }
def circFoldsRow : OpenClaim := { program := "ytbemhgojfehnjaadoor", sum := "13a12d3deb02d386d655369e1029a4d701beb048bb5bebb477674c27aa508065", func := "census/censuslaw07.CircFolds", spec := "circFolds", unfollowed := true, recurses := true, named := ["internal/strconv.uint64pow10", "math/bits.deBruijn32tab", "math/bits.deBruijn64tab"], apart := false, laid := [("math/bits.deBruijn32tab", laid_math_bits_deBruijn32tab), ("math/bits.deBruijn64tab", laid_math_bits_deBruijn64tab), ("internal/strconv.uint64pow10", laid_internal_strconv_uint64pow10)] }
def CircFoldsSaid : Prop := circFoldsRow.holds Tryd.pinned (OpenSpec.ofChange circFoldsSpec)

/-- ITS FALSE NEIGHBOUR: 'it returns false'. Refute it at one input. -/
def circFoldsWrong : ChangeSpec := { name := "circFolds", fn := fun _ => fun
  | [d] => { results := [.lit (.bool false)], args := [d] }
  | _ => none }
def CircFoldsWrongFalsely : Prop := circFoldsRow.holds Tryd.pinned (OpenSpec.ofChange circFoldsWrong)

/-- 'censuslaw07.CircSames': WHATEVER THE INPUT: true; the input reads as it did. -/
def circSamesSpec : ChangeSpec := { name := "circSames", fn := fun _ => fun
  | [d1, d2] => { results := [.lit (.bool true)], args := [d1, d2] }
  | _ => none }
def circSamesRow : OpenClaim := { program := "ytbemhgojfehnjaadoor", sum := "13a12d3deb02d386d655369e1029a4d701beb048bb5bebb477674c27aa508065", func := "census/censuslaw07.CircSames", spec := "circSames", unfollowed := true, recurses := true, named := ["internal/strconv.uint64pow10", "math/bits.deBruijn32tab", "math/bits.deBruijn64tab"], apart := false, laid := [("math/bits.deBruijn32tab", laid_math_bits_deBruijn32tab), ("math/bits.deBruijn64tab", laid_math_bits_deBruijn64tab), ("internal/strconv.uint64pow10", laid_internal_strconv_uint64pow10)] }
def CircSamesSaid : Prop := circSamesRow.holds Tryd.pinned (OpenSpec.ofChange circSamesSpec)

/-- ITS FALSE NEIGHBOUR: 'it returns false'. Refute it at one input. -/
def circSamesWrong : ChangeSpec := { name := "circSames", fn := fun _ => fun
  | [d1, d2] => { results := [.lit (.bool false)], args := [d1, d2] }
  | _ => none }
def CircSamesWrongFalsely : Prop := circSamesRow.holds Tryd.pinned (OpenSpec.ofChange circSamesWrong)

/-- 'censuslaw07.CircKeeps': WHATEVER THE INPUT: true; the input reads as it did. -/
def circKeepsSpec : ChangeSpec := { name := "circKeeps", fn := fun _ => fun
  | [d1, d2] => { results := [.lit (.bool true)], args := [d1, d2] }
  | _ => none }
def circKeepsRow : OpenClaim := { program := "ytbemhgojfehnjaadoor", sum := "13a12d3deb02d386d655369e1029a4d701beb048bb5bebb477674c27aa508065", func := "census/censuslaw07.CircKeeps", spec := "circKeeps", unfollowed := true, recurses := true, named := ["internal/strconv.uint64pow10", "math/bits.deBruijn32tab", "math/bits.deBruijn64tab"], apart := false, laid := [("math/bits.deBruijn32tab", laid_math_bits_deBruijn32tab), ("math/bits.deBruijn64tab", laid_math_bits_deBruijn64tab), ("internal/strconv.uint64pow10", laid_internal_strconv_uint64pow10)] }
def CircKeepsSaid : Prop := circKeepsRow.holds Tryd.pinned (OpenSpec.ofChange circKeepsSpec)

/-- ITS FALSE NEIGHBOUR: 'it returns false'. Refute it at one input. -/
def circKeepsWrong : ChangeSpec := { name := "circKeeps", fn := fun _ => fun
  | [d1, d2] => { results := [.lit (.bool false)], args := [d1, d2] }
  | _ => none }
def CircKeepsWrongFalsely : Prop := circKeepsRow.holds Tryd.pinned (OpenSpec.ofChange circKeepsWrong)

/-- 'censuslaw07.CircSimple': WHATEVER THE INPUT: true; the input reads as it did. -/
def circSimpleSpec : ChangeSpec := { name := "circSimple", fn := fun _ => fun
  | [d] => { results := [.lit (.bool true)], args := [d] }
  | _ => none }
def circSimpleRow : OpenClaim := { program := "ytbemhgojfehnjaadoor", sum := "13a12d3deb02d386d655369e1029a4d701beb048bb5bebb477674c27aa508065", func := "census/censuslaw07.CircSimple", spec := "circSimple", unfollowed := true, recurses := true, named := ["internal/strconv.uint64pow10", "math/bits.deBruijn32tab", "math/bits.deBruijn64tab"], apart := false, laid := [("math/bits.deBruijn32tab", laid_math_bits_deBruijn32tab), ("math/bits.deBruijn64tab", laid_math_bits_deBruijn64tab), ("internal/strconv.uint64pow10", laid_internal_strconv_uint64pow10)] }
def CircSimpleSaid : Prop := circSimpleRow.holds Tryd.pinned (OpenSpec.ofChange circSimpleSpec)

/-- ITS FALSE NEIGHBOUR: 'it returns false'. Refute it at one input. -/
def circSimpleWrong : ChangeSpec := { name := "circSimple", fn := fun _ => fun
  | [d] => { results := [.lit (.bool false)], args := [d] }
  | _ => none }
def CircSimpleWrongFalsely : Prop := circSimpleRow.holds Tryd.pinned (OpenSpec.ofChange circSimpleWrong)

/-- 'censuslaw07.CircTwice': WHATEVER THE INPUT: true; the input reads as it did. -/
def circTwiceSpec : ChangeSpec := { name := "circTwice", fn := fun _ => fun
  | [d] => { results := [.lit (.bool true)], args := [d] }
  | _ => none }
def circTwiceRow : OpenClaim := { program := "ytbemhgojfehnjaadoor", sum := "13a12d3deb02d386d655369e1029a4d701beb048bb5bebb477674c27aa508065", func := "census/censuslaw07.CircTwice", spec := "circTwice", unfollowed := true, recurses := true, named := ["internal/strconv.uint64pow10", "math/bits.deBruijn32tab", "math/bits.deBruijn64tab"], apart := false, laid := [("math/bits.deBruijn32tab", laid_math_bits_deBruijn32tab), ("math/bits.deBruijn64tab", laid_math_bits_deBruijn64tab), ("internal/strconv.uint64pow10", laid_internal_strconv_uint64pow10)] }
def CircTwiceSaid : Prop := circTwiceRow.holds Tryd.pinned (OpenSpec.ofChange circTwiceSpec)

/-- ITS FALSE NEIGHBOUR: 'it returns false'. Refute it at one input. -/
def circTwiceWrong : ChangeSpec := { name := "circTwice", fn := fun _ => fun
  | [d] => { results := [.lit (.bool false)], args := [d] }
  | _ => none }
def CircTwiceWrongFalsely : Prop := circTwiceRow.holds Tryd.pinned (OpenSpec.ofChange circTwiceWrong)

/-- 'censuslaw07.CircLong': WHATEVER THE INPUT: true; the input reads as it did. -/
def circLongSpec : ChangeSpec := { name := "circLong", fn := fun _ => fun
  | [] => { results := [.lit (.bool true)], args := [] }
  | _ => none }
def circLongRow : OpenClaim := { program := "ytbemhgojfehnjaadoor", sum := "13a12d3deb02d386d655369e1029a4d701beb048bb5bebb477674c27aa508065", func := "census/censuslaw07.CircLong", spec := "circLong", unfollowed := true, recurses := true, named := ["internal/strconv.uint64pow10", "math/bits.deBruijn32tab", "math/bits.deBruijn64tab"], apart := false, laid := [("math/bits.deBruijn32tab", laid_math_bits_deBruijn32tab), ("math/bits.deBruijn64tab", laid_math_bits_deBruijn64tab), ("internal/strconv.uint64pow10", laid_internal_strconv_uint64pow10)] }
def CircLongSaid : Prop := circLongRow.holds Tryd.pinned (OpenSpec.ofChange circLongSpec)

/-- ITS FALSE NEIGHBOUR: 'it returns false'. Refute it at one input. -/
def circLongWrong : ChangeSpec := { name := "circLong", fn := fun _ => fun
  | [] => { results := [.lit (.bool false)], args := [] }
  | _ => none }
def CircLongWrongFalsely : Prop := circLongRow.holds Tryd.pinned (OpenSpec.ofChange circLongWrong)

/-- 'censuslaw07.CircKnown': WHATEVER THE INPUT: true; the input reads as it did. -/
def circKnownSpec : ChangeSpec := { name := "circKnown", fn := fun _ => fun
  | [] => { results := [.lit (.bool true)], args := [] }
  | _ => none }
def circKnownRow : OpenClaim := { program := "ytbemhgojfehnjaadoor", sum := "13a12d3deb02d386d655369e1029a4d701beb048bb5bebb477674c27aa508065", func := "census/censuslaw07.CircKnown", spec := "circKnown", unfollowed := true, recurses := true, named := ["internal/strconv.uint64pow10", "math/bits.deBruijn32tab", "math/bits.deBruijn64tab"], apart := false, laid := [("math/bits.deBruijn32tab", laid_math_bits_deBruijn32tab), ("math/bits.deBruijn64tab", laid_math_bits_deBruijn64tab), ("internal/strconv.uint64pow10", laid_internal_strconv_uint64pow10)] }
def CircKnownSaid : Prop := circKnownRow.holds Tryd.pinned (OpenSpec.ofChange circKnownSpec)

/-- ITS FALSE NEIGHBOUR: 'it returns false'. Refute it at one input. -/
def circKnownWrong : ChangeSpec := { name := "circKnown", fn := fun _ => fun
  | [] => { results := [.lit (.bool false)], args := [] }
  | _ => none }
def CircKnownWrongFalsely : Prop := circKnownRow.holds Tryd.pinned (OpenSpec.ofChange circKnownWrong)

/-- 'censuslaw07.CircChecks': WHATEVER THE INPUT: true; the input reads as it did. -/
def circChecksSpec : ChangeSpec := { name := "circChecks", fn := fun _ => fun
  | [d] => { results := [.lit (.bool true)], args := [d] }
  | _ => none }
def circChecksRow : OpenClaim := { program := "ytbemhgojfehnjaadoor", sum := "13a12d3deb02d386d655369e1029a4d701beb048bb5bebb477674c27aa508065", func := "census/censuslaw07.CircChecks", spec := "circChecks", unfollowed := true, recurses := true, named := ["internal/strconv.uint64pow10", "math/bits.deBruijn32tab", "math/bits.deBruijn64tab"], apart := false, laid := [("math/bits.deBruijn32tab", laid_math_bits_deBruijn32tab), ("math/bits.deBruijn64tab", laid_math_bits_deBruijn64tab), ("internal/strconv.uint64pow10", laid_internal_strconv_uint64pow10)] }
def CircChecksSaid : Prop := circChecksRow.holds Tryd.pinned (OpenSpec.ofChange circChecksSpec)

/-- ITS FALSE NEIGHBOUR: 'it returns false'. Refute it at one input. -/
def circChecksWrong : ChangeSpec := { name := "circChecks", fn := fun _ => fun
  | [d] => { results := [.lit (.bool false)], args := [d] }
  | _ => none }
def CircChecksWrongFalsely : Prop := circChecksRow.holds Tryd.pinned (OpenSpec.ofChange circChecksWrong)

/-- 'censuslaw07.CircVars': WHATEVER THE INPUT: true; the input reads as it did. -/
def circVarsSpec : ChangeSpec := { name := "circVars", fn := fun _ => fun
  | [d1, d2, d3] => { results := [.lit (.bool true)], args := [d1, d2, d3] }
  | _ => none }
def circVarsRow : OpenClaim := { program := "ytbemhgojfehnjaadoor", sum := "13a12d3deb02d386d655369e1029a4d701beb048bb5bebb477674c27aa508065", func := "census/censuslaw07.CircVars", spec := "circVars", unfollowed := true, recurses := true, named := ["internal/strconv.uint64pow10", "math/bits.deBruijn32tab", "math/bits.deBruijn64tab"], apart := false, laid := [("math/bits.deBruijn32tab", laid_math_bits_deBruijn32tab), ("math/bits.deBruijn64tab", laid_math_bits_deBruijn64tab), ("internal/strconv.uint64pow10", laid_internal_strconv_uint64pow10)] }
def CircVarsSaid : Prop := circVarsRow.holds Tryd.pinned (OpenSpec.ofChange circVarsSpec)

/-- ITS FALSE NEIGHBOUR: 'it returns false'. Refute it at one input. -/
def circVarsWrong : ChangeSpec := { name := "circVars", fn := fun _ => fun
  | [d1, d2, d3] => { results := [.lit (.bool false)], args := [d1, d2, d3] }
  | _ => none }
def CircVarsWrongFalsely : Prop := circVarsRow.holds Tryd.pinned (OpenSpec.ofChange circVarsWrong)

/- THE SECOND FORM. 'bulk': how many values and letters a reading holds, each counted each time it is reached (what is shared counts as often as it is met; a slice's spare places count too). A statement '..UptoSaid' is the law's where the arguments, and the package variables that the reading takes, are together of bulk at most 1048576: NARROWER than '..Said'. Prove '..Said' where nothing that the law and all that it calls make is longer than what came in: it says more and counts as full. Else prove '..UptoSaid'. A law counts once. -/
mutual
def uptoBulk {H : Type} : DataW H → Nat
  | .lit (.string bytes) => bytes.length + 1
  | .lit _ => 1
  | .nil => 1
  | .ptr d => uptoBulk d + 1
  | .slice elems spare => uptoBulkAll elems + uptoBulkAll spare + 1
  | .agg parts => uptoBulkAll parts + 1
  | .iface _ d => uptoBulk d + 1
  | .map entries => uptoBulkEntries entries + 1
  | .held _ => 1
def uptoBulkAll {H : Type} : List (DataW H) → Nat
  | [] => 0
  | d :: r => uptoBulk d + uptoBulkAll r
def uptoBulkEntries {H : Type} : List (Lit × DataW H) → Nat
  | [] => 0
  | x :: r => uptoBulkEntry x + uptoBulkEntries r
def uptoBulkEntry {H : Type} : Lit × DataW H → Nat
  | (.string bytes, d) => bytes.length + uptoBulk d + 1
  | (_, d) => uptoBulk d + 1
 end
def uptoSmall : (H : Type) → List (DataW H) → Bool := fun _ ds => decide (uptoBulkAll ds ≤ 1048576)
def OpenSpec.upto (s : _root_.Go.ChangeSpec) : _root_.Go.OpenSpec := { _root_.Go.OpenSpec.ofChange s with cond := some uptoSmall }

/-- 'censuslaw07.CircEvals', WHERE WHAT IT READS IS OF BULK AT MOST 1048576: true; the input reads as it did. -/
def circEvalsUptoRow : OpenClaim := { program := "ytbemhgojfehnjaadoor", sum := "13a12d3deb02d386d655369e1029a4d701beb048bb5bebb477674c27aa508065", func := "census/censuslaw07.CircEvals", spec := "circEvals", unfollowed := true, recurses := true, named := ["internal/strconv.uint64pow10", "math/bits.deBruijn32tab", "math/bits.deBruijn64tab"], apart := false, laid := [("math/bits.deBruijn32tab", laid_math_bits_deBruijn32tab), ("math/bits.deBruijn64tab", laid_math_bits_deBruijn64tab), ("internal/strconv.uint64pow10", laid_internal_strconv_uint64pow10)], narrowed := true }
def CircEvalsUptoSaid : Prop := circEvalsUptoRow.holds Tryd.pinned (OpenSpec.upto circEvalsSpec)

/-- 'censuslaw07.CircFolds', WHERE WHAT IT READS IS OF BULK AT MOST 1048576: true; the input reads as it did. -/
def circFoldsUptoRow : OpenClaim := { program := "ytbemhgojfehnjaadoor", sum := "13a12d3deb02d386d655369e1029a4d701beb048bb5bebb477674c27aa508065", func := "census/censuslaw07.CircFolds", spec := "circFolds", unfollowed := true, recurses := true, named := ["internal/strconv.uint64pow10", "math/bits.deBruijn32tab", "math/bits.deBruijn64tab"], apart := false, laid := [("math/bits.deBruijn32tab", laid_math_bits_deBruijn32tab), ("math/bits.deBruijn64tab", laid_math_bits_deBruijn64tab), ("internal/strconv.uint64pow10", laid_internal_strconv_uint64pow10)], narrowed := true }
def CircFoldsUptoSaid : Prop := circFoldsUptoRow.holds Tryd.pinned (OpenSpec.upto circFoldsSpec)

/-- 'censuslaw07.CircSames', WHERE WHAT IT READS IS OF BULK AT MOST 1048576: true; the input reads as it did. -/
def circSamesUptoRow : OpenClaim := { program := "ytbemhgojfehnjaadoor", sum := "13a12d3deb02d386d655369e1029a4d701beb048bb5bebb477674c27aa508065", func := "census/censuslaw07.CircSames", spec := "circSames", unfollowed := true, recurses := true, named := ["internal/strconv.uint64pow10", "math/bits.deBruijn32tab", "math/bits.deBruijn64tab"], apart := false, laid := [("math/bits.deBruijn32tab", laid_math_bits_deBruijn32tab), ("math/bits.deBruijn64tab", laid_math_bits_deBruijn64tab), ("internal/strconv.uint64pow10", laid_internal_strconv_uint64pow10)], narrowed := true }
def CircSamesUptoSaid : Prop := circSamesUptoRow.holds Tryd.pinned (OpenSpec.upto circSamesSpec)

/-- 'censuslaw07.CircKeeps', WHERE WHAT IT READS IS OF BULK AT MOST 1048576: true; the input reads as it did. -/
def circKeepsUptoRow : OpenClaim := { program := "ytbemhgojfehnjaadoor", sum := "13a12d3deb02d386d655369e1029a4d701beb048bb5bebb477674c27aa508065", func := "census/censuslaw07.CircKeeps", spec := "circKeeps", unfollowed := true, recurses := true, named := ["internal/strconv.uint64pow10", "math/bits.deBruijn32tab", "math/bits.deBruijn64tab"], apart := false, laid := [("math/bits.deBruijn32tab", laid_math_bits_deBruijn32tab), ("math/bits.deBruijn64tab", laid_math_bits_deBruijn64tab), ("internal/strconv.uint64pow10", laid_internal_strconv_uint64pow10)], narrowed := true }
def CircKeepsUptoSaid : Prop := circKeepsUptoRow.holds Tryd.pinned (OpenSpec.upto circKeepsSpec)

/-- 'censuslaw07.CircSimple', WHERE WHAT IT READS IS OF BULK AT MOST 1048576: true; the input reads as it did. -/
def circSimpleUptoRow : OpenClaim := { program := "ytbemhgojfehnjaadoor", sum := "13a12d3deb02d386d655369e1029a4d701beb048bb5bebb477674c27aa508065", func := "census/censuslaw07.CircSimple", spec := "circSimple", unfollowed := true, recurses := true, named := ["internal/strconv.uint64pow10", "math/bits.deBruijn32tab", "math/bits.deBruijn64tab"], apart := false, laid := [("math/bits.deBruijn32tab", laid_math_bits_deBruijn32tab), ("math/bits.deBruijn64tab", laid_math_bits_deBruijn64tab), ("internal/strconv.uint64pow10", laid_internal_strconv_uint64pow10)], narrowed := true }
def CircSimpleUptoSaid : Prop := circSimpleUptoRow.holds Tryd.pinned (OpenSpec.upto circSimpleSpec)

/-- 'censuslaw07.CircTwice', WHERE WHAT IT READS IS OF BULK AT MOST 1048576: true; the input reads as it did. -/
def circTwiceUptoRow : OpenClaim := { program := "ytbemhgojfehnjaadoor", sum := "13a12d3deb02d386d655369e1029a4d701beb048bb5bebb477674c27aa508065", func := "census/censuslaw07.CircTwice", spec := "circTwice", unfollowed := true, recurses := true, named := ["internal/strconv.uint64pow10", "math/bits.deBruijn32tab", "math/bits.deBruijn64tab"], apart := false, laid := [("math/bits.deBruijn32tab", laid_math_bits_deBruijn32tab), ("math/bits.deBruijn64tab", laid_math_bits_deBruijn64tab), ("internal/strconv.uint64pow10", laid_internal_strconv_uint64pow10)], narrowed := true }
def CircTwiceUptoSaid : Prop := circTwiceUptoRow.holds Tryd.pinned (OpenSpec.upto circTwiceSpec)

/-- 'censuslaw07.CircLong', WHERE WHAT IT READS IS OF BULK AT MOST 1048576: true; the input reads as it did. -/
def circLongUptoRow : OpenClaim := { program := "ytbemhgojfehnjaadoor", sum := "13a12d3deb02d386d655369e1029a4d701beb048bb5bebb477674c27aa508065", func := "census/censuslaw07.CircLong", spec := "circLong", unfollowed := true, recurses := true, named := ["internal/strconv.uint64pow10", "math/bits.deBruijn32tab", "math/bits.deBruijn64tab"], apart := false, laid := [("math/bits.deBruijn32tab", laid_math_bits_deBruijn32tab), ("math/bits.deBruijn64tab", laid_math_bits_deBruijn64tab), ("internal/strconv.uint64pow10", laid_internal_strconv_uint64pow10)], narrowed := true }
def CircLongUptoSaid : Prop := circLongUptoRow.holds Tryd.pinned (OpenSpec.upto circLongSpec)

/-- 'censuslaw07.CircKnown', WHERE WHAT IT READS IS OF BULK AT MOST 1048576: true; the input reads as it did. -/
def circKnownUptoRow : OpenClaim := { program := "ytbemhgojfehnjaadoor", sum := "13a12d3deb02d386d655369e1029a4d701beb048bb5bebb477674c27aa508065", func := "census/censuslaw07.CircKnown", spec := "circKnown", unfollowed := true, recurses := true, named := ["internal/strconv.uint64pow10", "math/bits.deBruijn32tab", "math/bits.deBruijn64tab"], apart := false, laid := [("math/bits.deBruijn32tab", laid_math_bits_deBruijn32tab), ("math/bits.deBruijn64tab", laid_math_bits_deBruijn64tab), ("internal/strconv.uint64pow10", laid_internal_strconv_uint64pow10)], narrowed := true }
def CircKnownUptoSaid : Prop := circKnownUptoRow.holds Tryd.pinned (OpenSpec.upto circKnownSpec)

/-- 'censuslaw07.CircChecks', WHERE WHAT IT READS IS OF BULK AT MOST 1048576: true; the input reads as it did. -/
def circChecksUptoRow : OpenClaim := { program := "ytbemhgojfehnjaadoor", sum := "13a12d3deb02d386d655369e1029a4d701beb048bb5bebb477674c27aa508065", func := "census/censuslaw07.CircChecks", spec := "circChecks", unfollowed := true, recurses := true, named := ["internal/strconv.uint64pow10", "math/bits.deBruijn32tab", "math/bits.deBruijn64tab"], apart := false, laid := [("math/bits.deBruijn32tab", laid_math_bits_deBruijn32tab), ("math/bits.deBruijn64tab", laid_math_bits_deBruijn64tab), ("internal/strconv.uint64pow10", laid_internal_strconv_uint64pow10)], narrowed := true }
def CircChecksUptoSaid : Prop := circChecksUptoRow.holds Tryd.pinned (OpenSpec.upto circChecksSpec)

/-- 'censuslaw07.CircVars', WHERE WHAT IT READS IS OF BULK AT MOST 1048576: true; the input reads as it did. -/
def circVarsUptoRow : OpenClaim := { program := "ytbemhgojfehnjaadoor", sum := "13a12d3deb02d386d655369e1029a4d701beb048bb5bebb477674c27aa508065", func := "census/censuslaw07.CircVars", spec := "circVars", unfollowed := true, recurses := true, named := ["internal/strconv.uint64pow10", "math/bits.deBruijn32tab", "math/bits.deBruijn64tab"], apart := false, laid := [("math/bits.deBruijn32tab", laid_math_bits_deBruijn32tab), ("math/bits.deBruijn64tab", laid_math_bits_deBruijn64tab), ("internal/strconv.uint64pow10", laid_internal_strconv_uint64pow10)], narrowed := true }
def CircVarsUptoSaid : Prop := circVarsUptoRow.holds Tryd.pinned (OpenSpec.upto circVarsSpec)

end Rows
end Go.Proofs.YtbemhgojfehnjaaDoor
