/-
  NARROWER THAN 'FOR EVERY INPUT', by the rows' own cells (each row's printed sentence says how): ParamsPrimes: laid · ParamsGroups: laid · RsagroupDraws: laid · AccumulatorHandles: laid · ShamirEvals: laid · ShamirSplits: laid · ShamirCombines: laid · ShamirInterpolates: laid · ShamirRestores: laid · ShamirHides: laid · TopRevokes: laid.
  DERIVED. THE GIVEN ROWS OF THIS SEAT. 11 by the template 'for every input the law returns true; each argument reads behind the call as it read before'; 0 by the template 'total and deterministic' (their statements: YteifbhmfjchfjaaGreatDoorTotals.lean).
  GIVEN WITH THE SEED: the statements are not yours to turn. If you find one false, say at which input.
  Laid BY PROGRAM, IN A SANDBOX (cutbox-rows.mjs): the forced cells as the released guide's own fill.sh prints them over the translation 1e60845655c7e763… (all of the seat's roots in one cut). By AI agents, Wed Nov 11 2026. No macro, syntax, notation, axiom, sorry.
-/
import Derived.Test.YteifbhmfjchfjaaGreatDoorChecked
import GoSem.Claim
import GoSem.ClaimJoined
import GoSem.ClaimMapViews
import Derived.JoinedTies
import Derived.KernelRfl
namespace Go.Proofs.YteifbhmfjchfjaaGreatDoor
/- THE CELL 'sum', in the pinned program and in every row, IS THE sha256 OF THE DUMP (.gsa) THAT YteifbhmfjchfjaaGreatDoorProg.lean LOADS. Nothing in Lean hashes anything: it is a label: what it is worth is what the hold of that sum in a sandbox is worth. -/
noncomputable def Tryz.pinned : Pinned := { name := "yteifbhmfjchfjaagreatdoor", sum := "1e60845655c7e7635caee9468efe4f741d42841eecf68f0999abd49c1c60fdb9", checked := Tryz.checked }
namespace Rows
def none {H : Type} : Left H := { results := [], args := [] }

/- WHAT THE LISTED PACKAGE-LEVEL VARIABLES READ AS WHEN THE CALL BEGINS. Each datum BY PROGRAM (the guide's laid-datum.mjs) off the statement by which the dump's own 'gosem.cut.vars' lays the variable. In a bare row this is a premise. The card (YteifbhmfjchfjaaGreatDoorCards.lean) ties it to the program's text. -/
def laid_math_bits_deBruijn32tab {H : Type} : DataW H := .agg [.lit (.int .u8 0), .lit (.int .u8 1), .lit (.int .u8 28), .lit (.int .u8 2), .lit (.int .u8 29), .lit (.int .u8 14), .lit (.int .u8 24), .lit (.int .u8 3), .lit (.int .u8 30), .lit (.int .u8 22), .lit (.int .u8 20), .lit (.int .u8 15), .lit (.int .u8 25), .lit (.int .u8 17), .lit (.int .u8 4), .lit (.int .u8 8), .lit (.int .u8 31), .lit (.int .u8 27), .lit (.int .u8 13), .lit (.int .u8 23), .lit (.int .u8 21), .lit (.int .u8 19), .lit (.int .u8 16), .lit (.int .u8 7), .lit (.int .u8 26), .lit (.int .u8 12), .lit (.int .u8 18), .lit (.int .u8 6), .lit (.int .u8 11), .lit (.int .u8 5), .lit (.int .u8 10), .lit (.int .u8 9)]
def laid_math_bits_deBruijn64tab {H : Type} : DataW H := .agg [.lit (.int .u8 0), .lit (.int .u8 1), .lit (.int .u8 56), .lit (.int .u8 2), .lit (.int .u8 57), .lit (.int .u8 49), .lit (.int .u8 28), .lit (.int .u8 3), .lit (.int .u8 61), .lit (.int .u8 58), .lit (.int .u8 42), .lit (.int .u8 50), .lit (.int .u8 38), .lit (.int .u8 29), .lit (.int .u8 17), .lit (.int .u8 4), .lit (.int .u8 62), .lit (.int .u8 47), .lit (.int .u8 59), .lit (.int .u8 36), .lit (.int .u8 45), .lit (.int .u8 43), .lit (.int .u8 51), .lit (.int .u8 22), .lit (.int .u8 53), .lit (.int .u8 39), .lit (.int .u8 33), .lit (.int .u8 30), .lit (.int .u8 24), .lit (.int .u8 18), .lit (.int .u8 12), .lit (.int .u8 5), .lit (.int .u8 63), .lit (.int .u8 55), .lit (.int .u8 48), .lit (.int .u8 27), .lit (.int .u8 60), .lit (.int .u8 41), .lit (.int .u8 37), .lit (.int .u8 16), .lit (.int .u8 46), .lit (.int .u8 35), .lit (.int .u8 44), .lit (.int .u8 21), .lit (.int .u8 52), .lit (.int .u8 32), .lit (.int .u8 23), .lit (.int .u8 11), .lit (.int .u8 54), .lit (.int .u8 26), .lit (.int .u8 40), .lit (.int .u8 15), .lit (.int .u8 34), .lit (.int .u8 20), .lit (.int .u8 31), .lit (.int .u8 10), .lit (.int .u8 25), .lit (.int .u8 14), .lit (.int .u8 19), .lit (.int .u8 9), .lit (.int .u8 13), .lit (.int .u8 8), .lit (.int .u8 7), .lit (.int .u8 6)]
def laid_internal_strconv_uint64pow10 {H : Type} : DataW H := .agg [.lit (.int .u64 1), .lit (.int .u64 10), .lit (.int .u64 100), .lit (.int .u64 1000), .lit (.int .u64 10000), .lit (.int .u64 100000), .lit (.int .u64 1000000), .lit (.int .u64 10000000), .lit (.int .u64 100000000), .lit (.int .u64 1000000000), .lit (.int .u64 10000000000), .lit (.int .u64 100000000000), .lit (.int .u64 1000000000000), .lit (.int .u64 10000000000000), .lit (.int .u64 100000000000000), .lit (.int .u64 1000000000000000), .lit (.int .u64 10000000000000000), .lit (.int .u64 100000000000000000), .lit (.int .u64 1000000000000000000), .lit (.int .u64 10000000000000000000)]

/-- 'dominolaw11.ParamsPrimes': WHATEVER THE INPUT: true; the input reads as it did. -/
def paramsPrimesSpec : ChangeSpec := { name := "paramsPrimes", fn := fun _ => fun
  | [d1, d2] => { results := [.lit (.bool true)], args := [d1, d2] }
  | _ => none }
def paramsPrimesRow : OpenClaim := { program := "yteifbhmfjchfjaagreatdoor", sum := "1e60845655c7e7635caee9468efe4f741d42841eecf68f0999abd49c1c60fdb9", func := "domino/dominolaw11.ParamsPrimes", spec := "paramsPrimes", inPlace := ["internal/bytealg.abigen_runtime_cmpstring"], unfollowed := true, recurses := true, named := ["internal/strconv.uint64pow10", "math/bits.deBruijn32tab", "math/bits.deBruijn64tab", "math/bits.divideError", "math/bits.overflowError"], apart := false, laid := [("math/bits.deBruijn32tab", laid_math_bits_deBruijn32tab), ("math/bits.deBruijn64tab", laid_math_bits_deBruijn64tab), ("internal/strconv.uint64pow10", laid_internal_strconv_uint64pow10)] }
def ParamsPrimesSaid : Prop := paramsPrimesRow.holds Tryz.pinned (OpenSpec.ofChange paramsPrimesSpec)

/-- ITS FALSE NEIGHBOUR: 'it returns false'. Refute it at one input. -/
def paramsPrimesWrong : ChangeSpec := { name := "paramsPrimes", fn := fun _ => fun
  | [d1, d2] => { results := [.lit (.bool false)], args := [d1, d2] }
  | _ => none }
def ParamsPrimesWrongFalsely : Prop := paramsPrimesRow.holds Tryz.pinned (OpenSpec.ofChange paramsPrimesWrong)

/-- 'dominolaw11.ParamsGroups': WHATEVER THE INPUT: true; the input reads as it did. -/
def paramsGroupsSpec : ChangeSpec := { name := "paramsGroups", fn := fun _ => fun
  | [d1, d2] => { results := [.lit (.bool true)], args := [d1, d2] }
  | _ => none }
def paramsGroupsRow : OpenClaim := { program := "yteifbhmfjchfjaagreatdoor", sum := "1e60845655c7e7635caee9468efe4f741d42841eecf68f0999abd49c1c60fdb9", func := "domino/dominolaw11.ParamsGroups", spec := "paramsGroups", inPlace := ["internal/bytealg.abigen_runtime_cmpstring"], unfollowed := true, recurses := true, named := ["internal/strconv.uint64pow10", "math/bits.deBruijn32tab", "math/bits.deBruijn64tab", "math/bits.divideError", "math/bits.overflowError"], apart := false, laid := [("math/bits.deBruijn32tab", laid_math_bits_deBruijn32tab), ("math/bits.deBruijn64tab", laid_math_bits_deBruijn64tab), ("internal/strconv.uint64pow10", laid_internal_strconv_uint64pow10)] }
def ParamsGroupsSaid : Prop := paramsGroupsRow.holds Tryz.pinned (OpenSpec.ofChange paramsGroupsSpec)

/-- ITS FALSE NEIGHBOUR: 'it returns false'. Refute it at one input. -/
def paramsGroupsWrong : ChangeSpec := { name := "paramsGroups", fn := fun _ => fun
  | [d1, d2] => { results := [.lit (.bool false)], args := [d1, d2] }
  | _ => none }
def ParamsGroupsWrongFalsely : Prop := paramsGroupsRow.holds Tryz.pinned (OpenSpec.ofChange paramsGroupsWrong)

/-- 'dominolaw10.RsagroupDraws': WHATEVER THE INPUT: true; the input reads as it did. -/
def rsagroupDrawsSpec : ChangeSpec := { name := "rsagroupDraws", fn := fun _ => fun
  | [d1, d2] => { results := [.lit (.bool true)], args := [d1, d2] }
  | _ => none }
def rsagroupDrawsRow : OpenClaim := { program := "yteifbhmfjchfjaagreatdoor", sum := "1e60845655c7e7635caee9468efe4f741d42841eecf68f0999abd49c1c60fdb9", func := "domino/dominolaw10.RsagroupDraws", spec := "rsagroupDraws", inPlace := ["internal/bytealg.abigen_runtime_cmpstring"], unfollowed := true, recurses := true, named := ["math/bits.deBruijn64tab", "math/bits.divideError", "math/bits.overflowError", "internal/strconv.uint64pow10", "math/bits.deBruijn32tab"], apart := false, laid := [("math/bits.deBruijn32tab", laid_math_bits_deBruijn32tab), ("math/bits.deBruijn64tab", laid_math_bits_deBruijn64tab), ("internal/strconv.uint64pow10", laid_internal_strconv_uint64pow10)] }
def RsagroupDrawsSaid : Prop := rsagroupDrawsRow.holds Tryz.pinned (OpenSpec.ofChange rsagroupDrawsSpec)

/-- ITS FALSE NEIGHBOUR: 'it returns false'. Refute it at one input. -/
def rsagroupDrawsWrong : ChangeSpec := { name := "rsagroupDraws", fn := fun _ => fun
  | [d1, d2] => { results := [.lit (.bool false)], args := [d1, d2] }
  | _ => none }
def RsagroupDrawsWrongFalsely : Prop := rsagroupDrawsRow.holds Tryz.pinned (OpenSpec.ofChange rsagroupDrawsWrong)

/-- 'dominolaw35.AccumulatorHandles': WHATEVER THE INPUT: true; the input reads as it did. -/
def accumulatorHandlesSpec : ChangeSpec := { name := "accumulatorHandles", fn := fun _ => fun
  | [d1, d2, d3] => { results := [.lit (.bool true)], args := [d1, d2, d3] }
  | _ => none }
def accumulatorHandlesRow : OpenClaim := { program := "yteifbhmfjchfjaagreatdoor", sum := "1e60845655c7e7635caee9468efe4f741d42841eecf68f0999abd49c1c60fdb9", func := "domino/dominolaw35.AccumulatorHandles", spec := "accumulatorHandles", inPlace := ["internal/bytealg.abigen_runtime_cmpstring"], unfollowed := true, recurses := true, named := ["math/bits.divideError", "math/bits.overflowError", "math/bits.deBruijn64tab", "internal/strconv.uint64pow10", "math/bits.deBruijn32tab"], apart := false, laid := [("math/bits.deBruijn32tab", laid_math_bits_deBruijn32tab), ("math/bits.deBruijn64tab", laid_math_bits_deBruijn64tab), ("internal/strconv.uint64pow10", laid_internal_strconv_uint64pow10)] }
def AccumulatorHandlesSaid : Prop := accumulatorHandlesRow.holds Tryz.pinned (OpenSpec.ofChange accumulatorHandlesSpec)

/-- ITS FALSE NEIGHBOUR: 'it returns false'. Refute it at one input. -/
def accumulatorHandlesWrong : ChangeSpec := { name := "accumulatorHandles", fn := fun _ => fun
  | [d1, d2, d3] => { results := [.lit (.bool false)], args := [d1, d2, d3] }
  | _ => none }
def AccumulatorHandlesWrongFalsely : Prop := accumulatorHandlesRow.holds Tryz.pinned (OpenSpec.ofChange accumulatorHandlesWrong)

/-- 'dominolaw19.ShamirEvals': WHATEVER THE INPUT: true; the input reads as it did. -/
def shamirEvalsSpec : ChangeSpec := { name := "shamirEvals", fn := fun _ => fun
  | [d] => { results := [.lit (.bool true)], args := [d] }
  | _ => none }
def shamirEvalsRow : OpenClaim := { program := "yteifbhmfjchfjaagreatdoor", sum := "1e60845655c7e7635caee9468efe4f741d42841eecf68f0999abd49c1c60fdb9", func := "domino/dominolaw19.ShamirEvals", spec := "shamirEvals", inPlace := ["internal/bytealg.abigen_runtime_cmpstring"], unfollowed := true, recurses := true, named := ["math/bits.deBruijn64tab", "math/bits.divideError", "math/bits.overflowError", "internal/strconv.uint64pow10", "math/bits.deBruijn32tab"], apart := false, laid := [("math/bits.deBruijn32tab", laid_math_bits_deBruijn32tab), ("math/bits.deBruijn64tab", laid_math_bits_deBruijn64tab), ("internal/strconv.uint64pow10", laid_internal_strconv_uint64pow10)] }
def ShamirEvalsSaid : Prop := shamirEvalsRow.holds Tryz.pinned (OpenSpec.ofChange shamirEvalsSpec)

/-- ITS FALSE NEIGHBOUR: 'it returns false'. Refute it at one input. -/
def shamirEvalsWrong : ChangeSpec := { name := "shamirEvals", fn := fun _ => fun
  | [d] => { results := [.lit (.bool false)], args := [d] }
  | _ => none }
def ShamirEvalsWrongFalsely : Prop := shamirEvalsRow.holds Tryz.pinned (OpenSpec.ofChange shamirEvalsWrong)

/-- 'dominolaw19.ShamirSplits': WHATEVER THE INPUT: true; the input reads as it did. -/
def shamirSplitsSpec : ChangeSpec := { name := "shamirSplits", fn := fun _ => fun
  | [d1, d2] => { results := [.lit (.bool true)], args := [d1, d2] }
  | _ => none }
def shamirSplitsRow : OpenClaim := { program := "yteifbhmfjchfjaagreatdoor", sum := "1e60845655c7e7635caee9468efe4f741d42841eecf68f0999abd49c1c60fdb9", func := "domino/dominolaw19.ShamirSplits", spec := "shamirSplits", inPlace := ["internal/bytealg.abigen_runtime_cmpstring"], unfollowed := true, recurses := true, named := ["math/bits.deBruijn64tab", "math/bits.divideError", "math/bits.overflowError", "internal/strconv.uint64pow10", "math/bits.deBruijn32tab"], apart := false, laid := [("math/bits.deBruijn32tab", laid_math_bits_deBruijn32tab), ("math/bits.deBruijn64tab", laid_math_bits_deBruijn64tab), ("internal/strconv.uint64pow10", laid_internal_strconv_uint64pow10)] }
def ShamirSplitsSaid : Prop := shamirSplitsRow.holds Tryz.pinned (OpenSpec.ofChange shamirSplitsSpec)

/-- ITS FALSE NEIGHBOUR: 'it returns false'. Refute it at one input. -/
def shamirSplitsWrong : ChangeSpec := { name := "shamirSplits", fn := fun _ => fun
  | [d1, d2] => { results := [.lit (.bool false)], args := [d1, d2] }
  | _ => none }
def ShamirSplitsWrongFalsely : Prop := shamirSplitsRow.holds Tryz.pinned (OpenSpec.ofChange shamirSplitsWrong)

/-- 'dominolaw19.ShamirCombines': WHATEVER THE INPUT: true; the input reads as it did. -/
def shamirCombinesSpec : ChangeSpec := { name := "shamirCombines", fn := fun _ => fun
  | [d1, d2, d3] => { results := [.lit (.bool true)], args := [d1, d2, d3] }
  | _ => none }
def shamirCombinesRow : OpenClaim := { program := "yteifbhmfjchfjaagreatdoor", sum := "1e60845655c7e7635caee9468efe4f741d42841eecf68f0999abd49c1c60fdb9", func := "domino/dominolaw19.ShamirCombines", spec := "shamirCombines", inPlace := ["internal/bytealg.abigen_runtime_cmpstring"], unfollowed := true, recurses := true, named := ["math/bits.deBruijn64tab", "math/bits.divideError", "math/bits.overflowError", "internal/strconv.uint64pow10", "math/bits.deBruijn32tab"], apart := false, laid := [("math/bits.deBruijn32tab", laid_math_bits_deBruijn32tab), ("math/bits.deBruijn64tab", laid_math_bits_deBruijn64tab), ("internal/strconv.uint64pow10", laid_internal_strconv_uint64pow10)] }
def ShamirCombinesSaid : Prop := shamirCombinesRow.holds Tryz.pinned (OpenSpec.ofChange shamirCombinesSpec)

/-- ITS FALSE NEIGHBOUR: 'it returns false'. Refute it at one input. -/
def shamirCombinesWrong : ChangeSpec := { name := "shamirCombines", fn := fun _ => fun
  | [d1, d2, d3] => { results := [.lit (.bool false)], args := [d1, d2, d3] }
  | _ => none }
def ShamirCombinesWrongFalsely : Prop := shamirCombinesRow.holds Tryz.pinned (OpenSpec.ofChange shamirCombinesWrong)

/-- 'dominolaw19.ShamirInterpolates': WHATEVER THE INPUT: true; the input reads as it did. -/
def shamirInterpolatesSpec : ChangeSpec := { name := "shamirInterpolates", fn := fun _ => fun
  | [d] => { results := [.lit (.bool true)], args := [d] }
  | _ => none }
def shamirInterpolatesRow : OpenClaim := { program := "yteifbhmfjchfjaagreatdoor", sum := "1e60845655c7e7635caee9468efe4f741d42841eecf68f0999abd49c1c60fdb9", func := "domino/dominolaw19.ShamirInterpolates", spec := "shamirInterpolates", inPlace := ["internal/bytealg.abigen_runtime_cmpstring"], unfollowed := true, recurses := true, named := ["math/bits.deBruijn64tab", "math/bits.divideError", "math/bits.overflowError", "internal/strconv.uint64pow10", "math/bits.deBruijn32tab"], apart := false, laid := [("math/bits.deBruijn32tab", laid_math_bits_deBruijn32tab), ("math/bits.deBruijn64tab", laid_math_bits_deBruijn64tab), ("internal/strconv.uint64pow10", laid_internal_strconv_uint64pow10)] }
def ShamirInterpolatesSaid : Prop := shamirInterpolatesRow.holds Tryz.pinned (OpenSpec.ofChange shamirInterpolatesSpec)

/-- ITS FALSE NEIGHBOUR: 'it returns false'. Refute it at one input. -/
def shamirInterpolatesWrong : ChangeSpec := { name := "shamirInterpolates", fn := fun _ => fun
  | [d] => { results := [.lit (.bool false)], args := [d] }
  | _ => none }
def ShamirInterpolatesWrongFalsely : Prop := shamirInterpolatesRow.holds Tryz.pinned (OpenSpec.ofChange shamirInterpolatesWrong)

/-- 'dominolaw19.ShamirRestores': WHATEVER THE INPUT: true; the input reads as it did. -/
def shamirRestoresSpec : ChangeSpec := { name := "shamirRestores", fn := fun _ => fun
  | [d1, d2, d3] => { results := [.lit (.bool true)], args := [d1, d2, d3] }
  | _ => none }
def shamirRestoresRow : OpenClaim := { program := "yteifbhmfjchfjaagreatdoor", sum := "1e60845655c7e7635caee9468efe4f741d42841eecf68f0999abd49c1c60fdb9", func := "domino/dominolaw19.ShamirRestores", spec := "shamirRestores", inPlace := ["internal/bytealg.abigen_runtime_cmpstring"], unfollowed := true, recurses := true, named := ["math/bits.deBruijn64tab", "math/bits.divideError", "math/bits.overflowError", "internal/strconv.uint64pow10", "math/bits.deBruijn32tab"], apart := false, laid := [("math/bits.deBruijn32tab", laid_math_bits_deBruijn32tab), ("math/bits.deBruijn64tab", laid_math_bits_deBruijn64tab), ("internal/strconv.uint64pow10", laid_internal_strconv_uint64pow10)] }
def ShamirRestoresSaid : Prop := shamirRestoresRow.holds Tryz.pinned (OpenSpec.ofChange shamirRestoresSpec)

/-- ITS FALSE NEIGHBOUR: 'it returns false'. Refute it at one input. -/
def shamirRestoresWrong : ChangeSpec := { name := "shamirRestores", fn := fun _ => fun
  | [d1, d2, d3] => { results := [.lit (.bool false)], args := [d1, d2, d3] }
  | _ => none }
def ShamirRestoresWrongFalsely : Prop := shamirRestoresRow.holds Tryz.pinned (OpenSpec.ofChange shamirRestoresWrong)

/-- 'dominolaw19.ShamirHides': WHATEVER THE INPUT: true; the input reads as it did. -/
def shamirHidesSpec : ChangeSpec := { name := "shamirHides", fn := fun _ => fun
  | [d1, d2, d3] => { results := [.lit (.bool true)], args := [d1, d2, d3] }
  | _ => none }
def shamirHidesRow : OpenClaim := { program := "yteifbhmfjchfjaagreatdoor", sum := "1e60845655c7e7635caee9468efe4f741d42841eecf68f0999abd49c1c60fdb9", func := "domino/dominolaw19.ShamirHides", spec := "shamirHides", inPlace := ["internal/bytealg.abigen_runtime_cmpstring"], unfollowed := true, recurses := true, named := ["math/bits.deBruijn64tab", "math/bits.divideError", "math/bits.overflowError", "internal/strconv.uint64pow10", "math/bits.deBruijn32tab"], apart := false, laid := [("math/bits.deBruijn32tab", laid_math_bits_deBruijn32tab), ("math/bits.deBruijn64tab", laid_math_bits_deBruijn64tab), ("internal/strconv.uint64pow10", laid_internal_strconv_uint64pow10)] }
def ShamirHidesSaid : Prop := shamirHidesRow.holds Tryz.pinned (OpenSpec.ofChange shamirHidesSpec)

/-- ITS FALSE NEIGHBOUR: 'it returns false'. Refute it at one input. -/
def shamirHidesWrong : ChangeSpec := { name := "shamirHides", fn := fun _ => fun
  | [d1, d2, d3] => { results := [.lit (.bool false)], args := [d1, d2, d3] }
  | _ => none }
def ShamirHidesWrongFalsely : Prop := shamirHidesRow.holds Tryz.pinned (OpenSpec.ofChange shamirHidesWrong)

/-- 'dominotop.TopRevokes': WHATEVER THE INPUT: true; the input reads as it did. -/
def topRevokesSpec : ChangeSpec := { name := "topRevokes", fn := fun _ => fun
  | [d] => { results := [.lit (.bool true)], args := [d] }
  | _ => none }
def topRevokesRow : OpenClaim := { program := "yteifbhmfjchfjaagreatdoor", sum := "1e60845655c7e7635caee9468efe4f741d42841eecf68f0999abd49c1c60fdb9", func := "domino/dominotop.TopRevokes", spec := "topRevokes", inPlace := ["internal/bytealg.abigen_runtime_cmpstring"], unfollowed := true, recurses := true, named := ["math/bits.deBruijn64tab", "math/bits.divideError", "math/bits.overflowError"], apart := false, laid := [("math/bits.deBruijn64tab", laid_math_bits_deBruijn64tab)] }
def TopRevokesSaid : Prop := topRevokesRow.holds Tryz.pinned (OpenSpec.ofChange topRevokesSpec)

/-- ITS FALSE NEIGHBOUR: 'it returns false'. Refute it at one input. -/
def topRevokesWrong : ChangeSpec := { name := "topRevokes", fn := fun _ => fun
  | [d] => { results := [.lit (.bool false)], args := [d] }
  | _ => none }
def TopRevokesWrongFalsely : Prop := topRevokesRow.holds Tryz.pinned (OpenSpec.ofChange topRevokesWrong)

/- THE SECOND FORM. 'bulk': how many values and letters a reading holds, each counted each time it is reached (what is shared counts as often as it is met; a slice's spare places count too). A statement '..UptoSaid' is the law's where the arguments, and the package variables that the reading takes, are together of bulk at most 1048576: NARROWER than '..Said'. Prove '..Said' where nothing that the law and all that it calls make is longer than what came in: it says more and counts as full. Else prove '..UptoSaid'. A law counts once. -/
mutual
def uptoBulk {H : Type} : DataW H → Nat
  | .lit (.string bytes) => bytes.length + 1
  | .lit _ => 1
  | .nil => 1
  | .ptr d => uptoBulk d + 1
  | .slice elems spare => uptoBulkAll elems + uptoBulkAll spare + 1
  | .agg parts => uptoBulkAll parts + 1
  | .iface _ d => uptoBulk d + 1
  | .map entries => uptoBulkEntries entries + 1
  | .held _ => 1
def uptoBulkAll {H : Type} : List (DataW H) → Nat
  | [] => 0
  | d :: r => uptoBulk d + uptoBulkAll r
def uptoBulkEntries {H : Type} : List (Lit × DataW H) → Nat
  | [] => 0
  | x :: r => uptoBulkEntry x + uptoBulkEntries r
def uptoBulkEntry {H : Type} : Lit × DataW H → Nat
  | (.string bytes, d) => bytes.length + uptoBulk d + 1
  | (_, d) => uptoBulk d + 1
 end
def uptoSmall : (H : Type) → List (DataW H) → Bool := fun _ ds => decide (uptoBulkAll ds ≤ 1048576)
def OpenSpec.upto (s : _root_.Go.ChangeSpec) : _root_.Go.OpenSpec := { _root_.Go.OpenSpec.ofChange s with cond := some uptoSmall }

/-- 'dominolaw11.ParamsPrimes', WHERE WHAT IT READS IS OF BULK AT MOST 1048576: true; the input reads as it did. -/
def paramsPrimesUptoRow : OpenClaim := { program := "yteifbhmfjchfjaagreatdoor", sum := "1e60845655c7e7635caee9468efe4f741d42841eecf68f0999abd49c1c60fdb9", func := "domino/dominolaw11.ParamsPrimes", spec := "paramsPrimes", inPlace := ["internal/bytealg.abigen_runtime_cmpstring"], unfollowed := true, recurses := true, named := ["internal/strconv.uint64pow10", "math/bits.deBruijn32tab", "math/bits.deBruijn64tab", "math/bits.divideError", "math/bits.overflowError"], apart := false, laid := [("math/bits.deBruijn32tab", laid_math_bits_deBruijn32tab), ("math/bits.deBruijn64tab", laid_math_bits_deBruijn64tab), ("internal/strconv.uint64pow10", laid_internal_strconv_uint64pow10)], narrowed := true }
def ParamsPrimesUptoSaid : Prop := paramsPrimesUptoRow.holds Tryz.pinned (OpenSpec.upto paramsPrimesSpec)

/-- 'dominolaw11.ParamsGroups', WHERE WHAT IT READS IS OF BULK AT MOST 1048576: true; the input reads as it did. -/
def paramsGroupsUptoRow : OpenClaim := { program := "yteifbhmfjchfjaagreatdoor", sum := "1e60845655c7e7635caee9468efe4f741d42841eecf68f0999abd49c1c60fdb9", func := "domino/dominolaw11.ParamsGroups", spec := "paramsGroups", inPlace := ["internal/bytealg.abigen_runtime_cmpstring"], unfollowed := true, recurses := true, named := ["internal/strconv.uint64pow10", "math/bits.deBruijn32tab", "math/bits.deBruijn64tab", "math/bits.divideError", "math/bits.overflowError"], apart := false, laid := [("math/bits.deBruijn32tab", laid_math_bits_deBruijn32tab), ("math/bits.deBruijn64tab", laid_math_bits_deBruijn64tab), ("internal/strconv.uint64pow10", laid_internal_strconv_uint64pow10)], narrowed := true }
def ParamsGroupsUptoSaid : Prop := paramsGroupsUptoRow.holds Tryz.pinned (OpenSpec.upto paramsGroupsSpec)

/-- 'dominolaw10.RsagroupDraws', WHERE WHAT IT READS IS OF BULK AT MOST 1048576: true; the input reads as it did. -/
def rsagroupDrawsUptoRow : OpenClaim := { program := "yteifbhmfjchfjaagreatdoor", sum := "1e60845655c7e7635caee9468efe4f741d42841eecf68f0999abd49c1c60fdb9", func := "domino/dominolaw10.RsagroupDraws", spec := "rsagroupDraws", inPlace := ["internal/bytealg.abigen_runtime_cmpstring"], unfollowed := true, recurses := true, named := ["math/bits.deBruijn64tab", "math/bits.divideError", "math/bits.overflowError", "internal/strconv.uint64pow10", "math/bits.deBruijn32tab"], apart := false, laid := [("math/bits.deBruijn32tab", laid_math_bits_deBruijn32tab), ("math/bits.deBruijn64tab", laid_math_bits_deBruijn64tab), ("internal/strconv.uint64pow10", laid_internal_strconv_uint64pow10)], narrowed := true }
def RsagroupDrawsUptoSaid : Prop := rsagroupDrawsUptoRow.holds Tryz.pinned (OpenSpec.upto rsagroupDrawsSpec)

/-- 'dominolaw35.AccumulatorHandles', WHERE WHAT IT READS IS OF BULK AT MOST 1048576: true; the input reads as it did. -/
def accumulatorHandlesUptoRow : OpenClaim := { program := "yteifbhmfjchfjaagreatdoor", sum := "1e60845655c7e7635caee9468efe4f741d42841eecf68f0999abd49c1c60fdb9", func := "domino/dominolaw35.AccumulatorHandles", spec := "accumulatorHandles", inPlace := ["internal/bytealg.abigen_runtime_cmpstring"], unfollowed := true, recurses := true, named := ["math/bits.divideError", "math/bits.overflowError", "math/bits.deBruijn64tab", "internal/strconv.uint64pow10", "math/bits.deBruijn32tab"], apart := false, laid := [("math/bits.deBruijn32tab", laid_math_bits_deBruijn32tab), ("math/bits.deBruijn64tab", laid_math_bits_deBruijn64tab), ("internal/strconv.uint64pow10", laid_internal_strconv_uint64pow10)], narrowed := true }
def AccumulatorHandlesUptoSaid : Prop := accumulatorHandlesUptoRow.holds Tryz.pinned (OpenSpec.upto accumulatorHandlesSpec)

/-- 'dominolaw19.ShamirEvals', WHERE WHAT IT READS IS OF BULK AT MOST 1048576: true; the input reads as it did. -/
def shamirEvalsUptoRow : OpenClaim := { program := "yteifbhmfjchfjaagreatdoor", sum := "1e60845655c7e7635caee9468efe4f741d42841eecf68f0999abd49c1c60fdb9", func := "domino/dominolaw19.ShamirEvals", spec := "shamirEvals", inPlace := ["internal/bytealg.abigen_runtime_cmpstring"], unfollowed := true, recurses := true, named := ["math/bits.deBruijn64tab", "math/bits.divideError", "math/bits.overflowError", "internal/strconv.uint64pow10", "math/bits.deBruijn32tab"], apart := false, laid := [("math/bits.deBruijn32tab", laid_math_bits_deBruijn32tab), ("math/bits.deBruijn64tab", laid_math_bits_deBruijn64tab), ("internal/strconv.uint64pow10", laid_internal_strconv_uint64pow10)], narrowed := true }
def ShamirEvalsUptoSaid : Prop := shamirEvalsUptoRow.holds Tryz.pinned (OpenSpec.upto shamirEvalsSpec)

/-- 'dominolaw19.ShamirSplits', WHERE WHAT IT READS IS OF BULK AT MOST 1048576: true; the input reads as it did. -/
def shamirSplitsUptoRow : OpenClaim := { program := "yteifbhmfjchfjaagreatdoor", sum := "1e60845655c7e7635caee9468efe4f741d42841eecf68f0999abd49c1c60fdb9", func := "domino/dominolaw19.ShamirSplits", spec := "shamirSplits", inPlace := ["internal/bytealg.abigen_runtime_cmpstring"], unfollowed := true, recurses := true, named := ["math/bits.deBruijn64tab", "math/bits.divideError", "math/bits.overflowError", "internal/strconv.uint64pow10", "math/bits.deBruijn32tab"], apart := false, laid := [("math/bits.deBruijn32tab", laid_math_bits_deBruijn32tab), ("math/bits.deBruijn64tab", laid_math_bits_deBruijn64tab), ("internal/strconv.uint64pow10", laid_internal_strconv_uint64pow10)], narrowed := true }
def ShamirSplitsUptoSaid : Prop := shamirSplitsUptoRow.holds Tryz.pinned (OpenSpec.upto shamirSplitsSpec)

/-- 'dominolaw19.ShamirCombines', WHERE WHAT IT READS IS OF BULK AT MOST 1048576: true; the input reads as it did. -/
def shamirCombinesUptoRow : OpenClaim := { program := "yteifbhmfjchfjaagreatdoor", sum := "1e60845655c7e7635caee9468efe4f741d42841eecf68f0999abd49c1c60fdb9", func := "domino/dominolaw19.ShamirCombines", spec := "shamirCombines", inPlace := ["internal/bytealg.abigen_runtime_cmpstring"], unfollowed := true, recurses := true, named := ["math/bits.deBruijn64tab", "math/bits.divideError", "math/bits.overflowError", "internal/strconv.uint64pow10", "math/bits.deBruijn32tab"], apart := false, laid := [("math/bits.deBruijn32tab", laid_math_bits_deBruijn32tab), ("math/bits.deBruijn64tab", laid_math_bits_deBruijn64tab), ("internal/strconv.uint64pow10", laid_internal_strconv_uint64pow10)], narrowed := true }
def ShamirCombinesUptoSaid : Prop := shamirCombinesUptoRow.holds Tryz.pinned (OpenSpec.upto shamirCombinesSpec)

/-- 'dominolaw19.ShamirInterpolates', WHERE WHAT IT READS IS OF BULK AT MOST 1048576: true; the input reads as it did. -/
def shamirInterpolatesUptoRow : OpenClaim := { program := "yteifbhmfjchfjaagreatdoor", sum := "1e60845655c7e7635caee9468efe4f741d42841eecf68f0999abd49c1c60fdb9", func := "domino/dominolaw19.ShamirInterpolates", spec := "shamirInterpolates", inPlace := ["internal/bytealg.abigen_runtime_cmpstring"], unfollowed := true, recurses := true, named := ["math/bits.deBruijn64tab", "math/bits.divideError", "math/bits.overflowError", "internal/strconv.uint64pow10", "math/bits.deBruijn32tab"], apart := false, laid := [("math/bits.deBruijn32tab", laid_math_bits_deBruijn32tab), ("math/bits.deBruijn64tab", laid_math_bits_deBruijn64tab), ("internal/strconv.uint64pow10", laid_internal_strconv_uint64pow10)], narrowed := true }
def ShamirInterpolatesUptoSaid : Prop := shamirInterpolatesUptoRow.holds Tryz.pinned (OpenSpec.upto shamirInterpolatesSpec)

/-- 'dominolaw19.ShamirRestores', WHERE WHAT IT READS IS OF BULK AT MOST 1048576: true; the input reads as it did. -/
def shamirRestoresUptoRow : OpenClaim := { program := "yteifbhmfjchfjaagreatdoor", sum := "1e60845655c7e7635caee9468efe4f741d42841eecf68f0999abd49c1c60fdb9", func := "domino/dominolaw19.ShamirRestores", spec := "shamirRestores", inPlace := ["internal/bytealg.abigen_runtime_cmpstring"], unfollowed := true, recurses := true, named := ["math/bits.deBruijn64tab", "math/bits.divideError", "math/bits.overflowError", "internal/strconv.uint64pow10", "math/bits.deBruijn32tab"], apart := false, laid := [("math/bits.deBruijn32tab", laid_math_bits_deBruijn32tab), ("math/bits.deBruijn64tab", laid_math_bits_deBruijn64tab), ("internal/strconv.uint64pow10", laid_internal_strconv_uint64pow10)], narrowed := true }
def ShamirRestoresUptoSaid : Prop := shamirRestoresUptoRow.holds Tryz.pinned (OpenSpec.upto shamirRestoresSpec)

/-- 'dominolaw19.ShamirHides', WHERE WHAT IT READS IS OF BULK AT MOST 1048576: true; the input reads as it did. -/
def shamirHidesUptoRow : OpenClaim := { program := "yteifbhmfjchfjaagreatdoor", sum := "1e60845655c7e7635caee9468efe4f741d42841eecf68f0999abd49c1c60fdb9", func := "domino/dominolaw19.ShamirHides", spec := "shamirHides", inPlace := ["internal/bytealg.abigen_runtime_cmpstring"], unfollowed := true, recurses := true, named := ["math/bits.deBruijn64tab", "math/bits.divideError", "math/bits.overflowError", "internal/strconv.uint64pow10", "math/bits.deBruijn32tab"], apart := false, laid := [("math/bits.deBruijn32tab", laid_math_bits_deBruijn32tab), ("math/bits.deBruijn64tab", laid_math_bits_deBruijn64tab), ("internal/strconv.uint64pow10", laid_internal_strconv_uint64pow10)], narrowed := true }
def ShamirHidesUptoSaid : Prop := shamirHidesUptoRow.holds Tryz.pinned (OpenSpec.upto shamirHidesSpec)

/-- 'dominotop.TopRevokes', WHERE WHAT IT READS IS OF BULK AT MOST 1048576: true; the input reads as it did. -/
def topRevokesUptoRow : OpenClaim := { program := "yteifbhmfjchfjaagreatdoor", sum := "1e60845655c7e7635caee9468efe4f741d42841eecf68f0999abd49c1c60fdb9", func := "domino/dominotop.TopRevokes", spec := "topRevokes", inPlace := ["internal/bytealg.abigen_runtime_cmpstring"], unfollowed := true, recurses := true, named := ["math/bits.deBruijn64tab", "math/bits.divideError", "math/bits.overflowError"], apart := false, laid := [("math/bits.deBruijn64tab", laid_math_bits_deBruijn64tab)], narrowed := true }
def TopRevokesUptoSaid : Prop := topRevokesUptoRow.holds Tryz.pinned (OpenSpec.upto topRevokesSpec)

end Rows
end Go.Proofs.YteifbhmfjchfjaaGreatDoor
