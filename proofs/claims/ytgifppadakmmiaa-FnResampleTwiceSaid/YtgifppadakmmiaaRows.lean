/-
  No cell of these rows narrows 'for every input' (looked for: loops, veiled, ifaces, maps, wideKeys, modest, calm, conditions, laid).
  DERIVED. THE GIVEN ROWS OF THIS SEAT. 17 by the template 'for every input the law returns true; each argument reads behind the call as it read before'; 0 by the template 'total and deterministic' (their statements: YtgifppadakmmiaaTotals.lean).
  GIVEN WITH THE SEED: the statements are not yours to turn. If you find one false, say at which input.
  Laid BY PROGRAM, IN A SANDBOX (cutbox-rows.mjs): the forced cells as the released guide's own fill.sh prints them over the translation 089e019dfbae190a… (all of the seat's roots in one cut). By AI agents, Wed Nov 11 2026. No macro, syntax, notation, axiom, sorry.
-/
import Derived.Test.YtgifppadakmmiaaChecked
import GoSem.Claim
import GoSem.ClaimJoined
import GoSem.ClaimMapViews
import Derived.JoinedTies
import Derived.KernelRfl
namespace Go.Proofs.Ytgifppadakmmiaa
/- THE CELL 'sum', in the pinned program and in every row, IS THE sha256 OF THE DUMP (.gsa) THAT YtgifppadakmmiaaProg.lean LOADS. Nothing in Lean hashes anything: it is a label: what it is worth is what the hold of that sum in a sandbox is worth. -/
noncomputable def Try.pinned : Pinned := { name := "ytgifppadakmmiaa", sum := "089e019dfbae190a9e85a1304d9b03be65b0f95ec465f7c6829b589bccd88da2", checked := Try.checked }
namespace Rows
def none {H : Type} : Left H := { results := [], args := [] }

/-- 'laws.FnQuantileOverMore': WHATEVER THE INPUT: true; the input reads as it did. -/
def fnQuantileOverMoreSpec : ChangeSpec := { name := "fnQuantileOverMore", fn := fun _ => fun
  | [d] => { results := [.lit (.bool true)], args := [d] }
  | _ => none }
def fnQuantileOverMoreRow : OpenClaim := { program := "ytgifppadakmmiaa", sum := "089e019dfbae190a9e85a1304d9b03be65b0f95ec465f7c6829b589bccd88da2", func := "loop.example/metricstore/laws.FnQuantileOverMore", spec := "fnQuantileOverMore", unfollowed := true, recurses := true, apart := false }
def FnQuantileOverMoreSaid : Prop := fnQuantileOverMoreRow.holds Try.pinned (OpenSpec.ofChange fnQuantileOverMoreSpec)

/-- ITS FALSE NEIGHBOUR: 'it returns false'. Refute it at one input. -/
def fnQuantileOverMoreWrong : ChangeSpec := { name := "fnQuantileOverMore", fn := fun _ => fun
  | [d] => { results := [.lit (.bool false)], args := [d] }
  | _ => none }
def FnQuantileOverMoreWrongFalsely : Prop := fnQuantileOverMoreRow.holds Try.pinned (OpenSpec.ofChange fnQuantileOverMoreWrong)

/-- 'laws.FnExactValidHead': WHATEVER THE INPUT: true; the input reads as it did. -/
def fnExactValidHeadSpec : ChangeSpec := { name := "fnExactValidHead", fn := fun _ => fun
  | [d] => { results := [.lit (.bool true)], args := [d] }
  | _ => none }
def fnExactValidHeadRow : OpenClaim := { program := "ytgifppadakmmiaa", sum := "089e019dfbae190a9e85a1304d9b03be65b0f95ec465f7c6829b589bccd88da2", func := "loop.example/metricstore/laws.FnExactValidHead", spec := "fnExactValidHead", apart := false }
def FnExactValidHeadSaid : Prop := fnExactValidHeadRow.holds Try.pinned (OpenSpec.ofChange fnExactValidHeadSpec)

/-- ITS FALSE NEIGHBOUR: 'it returns false'. Refute it at one input. -/
def fnExactValidHeadWrong : ChangeSpec := { name := "fnExactValidHead", fn := fun _ => fun
  | [d] => { results := [.lit (.bool false)], args := [d] }
  | _ => none }
def FnExactValidHeadWrongFalsely : Prop := fnExactValidHeadRow.holds Try.pinned (OpenSpec.ofChange fnExactValidHeadWrong)

/-- 'laws.FnExactRateOver': WHATEVER THE INPUT: true; the input reads as it did. -/
def fnExactRateOverSpec : ChangeSpec := { name := "fnExactRateOver", fn := fun _ => fun
  | [d1, d2, d3] => { results := [.lit (.bool true)], args := [d1, d2, d3] }
  | _ => none }
def fnExactRateOverRow : OpenClaim := { program := "ytgifppadakmmiaa", sum := "089e019dfbae190a9e85a1304d9b03be65b0f95ec465f7c6829b589bccd88da2", func := "loop.example/metricstore/laws.FnExactRateOver", spec := "fnExactRateOver", unfollowed := true, recurses := true, apart := false }
def FnExactRateOverSaid : Prop := fnExactRateOverRow.holds Try.pinned (OpenSpec.ofChange fnExactRateOverSpec)

/-- ITS FALSE NEIGHBOUR: 'it returns false'. Refute it at one input. -/
def fnExactRateOverWrong : ChangeSpec := { name := "fnExactRateOver", fn := fun _ => fun
  | [d1, d2, d3] => { results := [.lit (.bool false)], args := [d1, d2, d3] }
  | _ => none }
def FnExactRateOverWrongFalsely : Prop := fnExactRateOverRow.holds Try.pinned (OpenSpec.ofChange fnExactRateOverWrong)

/-- 'laws.FnExactResample': WHATEVER THE INPUT: true; the input reads as it did. -/
def fnExactResampleSpec : ChangeSpec := { name := "fnExactResample", fn := fun _ => fun
  | [d1, d2, d3, d4] => { results := [.lit (.bool true)], args := [d1, d2, d3, d4] }
  | _ => none }
def fnExactResampleRow : OpenClaim := { program := "ytgifppadakmmiaa", sum := "089e019dfbae190a9e85a1304d9b03be65b0f95ec465f7c6829b589bccd88da2", func := "loop.example/metricstore/laws.FnExactResample", spec := "fnExactResample", unfollowed := true, recurses := true, apart := false }
def FnExactResampleSaid : Prop := fnExactResampleRow.holds Try.pinned (OpenSpec.ofChange fnExactResampleSpec)

/-- ITS FALSE NEIGHBOUR: 'it returns false'. Refute it at one input. -/
def fnExactResampleWrong : ChangeSpec := { name := "fnExactResample", fn := fun _ => fun
  | [d1, d2, d3, d4] => { results := [.lit (.bool false)], args := [d1, d2, d3, d4] }
  | _ => none }
def FnExactResampleWrongFalsely : Prop := fnExactResampleRow.holds Try.pinned (OpenSpec.ofChange fnExactResampleWrong)

/-- 'laws.FnSumOver': WHATEVER THE INPUT: true; the input reads as it did. -/
def fnSumOverSpec : ChangeSpec := { name := "fnSumOver", fn := fun _ => fun
  | [d] => { results := [.lit (.bool true)], args := [d] }
  | _ => none }
def fnSumOverRow : OpenClaim := { program := "ytgifppadakmmiaa", sum := "089e019dfbae190a9e85a1304d9b03be65b0f95ec465f7c6829b589bccd88da2", func := "loop.example/metricstore/laws.FnSumOver", spec := "fnSumOver", unfollowed := true, recurses := true, apart := false }
def FnSumOverSaid : Prop := fnSumOverRow.holds Try.pinned (OpenSpec.ofChange fnSumOverSpec)

/-- ITS FALSE NEIGHBOUR: 'it returns false'. Refute it at one input. -/
def fnSumOverWrong : ChangeSpec := { name := "fnSumOver", fn := fun _ => fun
  | [d] => { results := [.lit (.bool false)], args := [d] }
  | _ => none }
def FnSumOverWrongFalsely : Prop := fnSumOverRow.holds Try.pinned (OpenSpec.ofChange fnSumOverWrong)

/-- 'laws.FnResample': WHATEVER THE INPUT: true; the input reads as it did. -/
def fnResampleSpec : ChangeSpec := { name := "fnResample", fn := fun _ => fun
  | [d] => { results := [.lit (.bool true)], args := [d] }
  | _ => none }
def fnResampleRow : OpenClaim := { program := "ytgifppadakmmiaa", sum := "089e019dfbae190a9e85a1304d9b03be65b0f95ec465f7c6829b589bccd88da2", func := "loop.example/metricstore/laws.FnResample", spec := "fnResample", unfollowed := true, recurses := true, apart := false }
def FnResampleSaid : Prop := fnResampleRow.holds Try.pinned (OpenSpec.ofChange fnResampleSpec)

/-- ITS FALSE NEIGHBOUR: 'it returns false'. Refute it at one input. -/
def fnResampleWrong : ChangeSpec := { name := "fnResample", fn := fun _ => fun
  | [d] => { results := [.lit (.bool false)], args := [d] }
  | _ => none }
def FnResampleWrongFalsely : Prop := fnResampleRow.holds Try.pinned (OpenSpec.ofChange fnResampleWrong)

/-- 'laws.FnResampleNone': WHATEVER THE INPUT: true; the input reads as it did. -/
def fnResampleNoneSpec : ChangeSpec := { name := "fnResampleNone", fn := fun _ => fun
  | [d] => { results := [.lit (.bool true)], args := [d] }
  | _ => none }
def fnResampleNoneRow : OpenClaim := { program := "ytgifppadakmmiaa", sum := "089e019dfbae190a9e85a1304d9b03be65b0f95ec465f7c6829b589bccd88da2", func := "loop.example/metricstore/laws.FnResampleNone", spec := "fnResampleNone", unfollowed := true, recurses := true, apart := false }
def FnResampleNoneSaid : Prop := fnResampleNoneRow.holds Try.pinned (OpenSpec.ofChange fnResampleNoneSpec)

/-- ITS FALSE NEIGHBOUR: 'it returns false'. Refute it at one input. -/
def fnResampleNoneWrong : ChangeSpec := { name := "fnResampleNone", fn := fun _ => fun
  | [d] => { results := [.lit (.bool false)], args := [d] }
  | _ => none }
def FnResampleNoneWrongFalsely : Prop := fnResampleNoneRow.holds Try.pinned (OpenSpec.ofChange fnResampleNoneWrong)

/-- 'laws.FnResampleTwice': WHATEVER THE INPUT: true; the input reads as it did. -/
def fnResampleTwiceSpec : ChangeSpec := { name := "fnResampleTwice", fn := fun _ => fun
  | [d] => { results := [.lit (.bool true)], args := [d] }
  | _ => none }
def fnResampleTwiceRow : OpenClaim := { program := "ytgifppadakmmiaa", sum := "089e019dfbae190a9e85a1304d9b03be65b0f95ec465f7c6829b589bccd88da2", func := "loop.example/metricstore/laws.FnResampleTwice", spec := "fnResampleTwice", unfollowed := true, recurses := true, apart := false }
def FnResampleTwiceSaid : Prop := fnResampleTwiceRow.holds Try.pinned (OpenSpec.ofChange fnResampleTwiceSpec)

/-- ITS FALSE NEIGHBOUR: 'it returns false'. Refute it at one input. -/
def fnResampleTwiceWrong : ChangeSpec := { name := "fnResampleTwice", fn := fun _ => fun
  | [d] => { results := [.lit (.bool false)], args := [d] }
  | _ => none }
def FnResampleTwiceWrongFalsely : Prop := fnResampleTwiceRow.holds Try.pinned (OpenSpec.ofChange fnResampleTwiceWrong)

/-- 'laws.FnResets': WHATEVER THE INPUT: true; the input reads as it did. -/
def fnResetsSpec : ChangeSpec := { name := "fnResets", fn := fun _ => fun
  | [d] => { results := [.lit (.bool true)], args := [d] }
  | _ => none }
def fnResetsRow : OpenClaim := { program := "ytgifppadakmmiaa", sum := "089e019dfbae190a9e85a1304d9b03be65b0f95ec465f7c6829b589bccd88da2", func := "loop.example/metricstore/laws.FnResets", spec := "fnResets", unfollowed := true, recurses := true, apart := false }
def FnResetsSaid : Prop := fnResetsRow.holds Try.pinned (OpenSpec.ofChange fnResetsSpec)

/-- ITS FALSE NEIGHBOUR: 'it returns false'. Refute it at one input. -/
def fnResetsWrong : ChangeSpec := { name := "fnResets", fn := fun _ => fun
  | [d] => { results := [.lit (.bool false)], args := [d] }
  | _ => none }
def FnResetsWrongFalsely : Prop := fnResetsRow.holds Try.pinned (OpenSpec.ofChange fnResetsWrong)

/-- 'laws.FnExactAllPoints': WHATEVER THE INPUT: true; the input reads as it did. -/
def fnExactAllPointsSpec : ChangeSpec := { name := "fnExactAllPoints", fn := fun _ => fun
  | [d] => { results := [.lit (.bool true)], args := [d] }
  | _ => none }
def fnExactAllPointsRow : OpenClaim := { program := "ytgifppadakmmiaa", sum := "089e019dfbae190a9e85a1304d9b03be65b0f95ec465f7c6829b589bccd88da2", func := "loop.example/metricstore/laws.FnExactAllPoints", spec := "fnExactAllPoints", apart := false }
def FnExactAllPointsSaid : Prop := fnExactAllPointsRow.holds Try.pinned (OpenSpec.ofChange fnExactAllPointsSpec)

/-- ITS FALSE NEIGHBOUR: 'it returns false'. Refute it at one input. -/
def fnExactAllPointsWrong : ChangeSpec := { name := "fnExactAllPoints", fn := fun _ => fun
  | [d] => { results := [.lit (.bool false)], args := [d] }
  | _ => none }
def FnExactAllPointsWrongFalsely : Prop := fnExactAllPointsRow.holds Try.pinned (OpenSpec.ofChange fnExactAllPointsWrong)

/-- 'laws.FnRateOverScale': WHATEVER THE INPUT: true; the input reads as it did. -/
def fnRateOverScaleSpec : ChangeSpec := { name := "fnRateOverScale", fn := fun _ => fun
  | [d] => { results := [.lit (.bool true)], args := [d] }
  | _ => none }
def fnRateOverScaleRow : OpenClaim := { program := "ytgifppadakmmiaa", sum := "089e019dfbae190a9e85a1304d9b03be65b0f95ec465f7c6829b589bccd88da2", func := "loop.example/metricstore/laws.FnRateOverScale", spec := "fnRateOverScale", unfollowed := true, recurses := true, apart := false }
def FnRateOverScaleSaid : Prop := fnRateOverScaleRow.holds Try.pinned (OpenSpec.ofChange fnRateOverScaleSpec)

/-- ITS FALSE NEIGHBOUR: 'it returns false'. Refute it at one input. -/
def fnRateOverScaleWrong : ChangeSpec := { name := "fnRateOverScale", fn := fun _ => fun
  | [d] => { results := [.lit (.bool false)], args := [d] }
  | _ => none }
def FnRateOverScaleWrongFalsely : Prop := fnRateOverScaleRow.holds Try.pinned (OpenSpec.ofChange fnRateOverScaleWrong)

/-- 'laws.FnRateOverSplit': WHATEVER THE INPUT: true; the input reads as it did. -/
def fnRateOverSplitSpec : ChangeSpec := { name := "fnRateOverSplit", fn := fun _ => fun
  | [d] => { results := [.lit (.bool true)], args := [d] }
  | _ => none }
def fnRateOverSplitRow : OpenClaim := { program := "ytgifppadakmmiaa", sum := "089e019dfbae190a9e85a1304d9b03be65b0f95ec465f7c6829b589bccd88da2", func := "loop.example/metricstore/laws.FnRateOverSplit", spec := "fnRateOverSplit", unfollowed := true, recurses := true, apart := false }
def FnRateOverSplitSaid : Prop := fnRateOverSplitRow.holds Try.pinned (OpenSpec.ofChange fnRateOverSplitSpec)

/-- ITS FALSE NEIGHBOUR: 'it returns false'. Refute it at one input. -/
def fnRateOverSplitWrong : ChangeSpec := { name := "fnRateOverSplit", fn := fun _ => fun
  | [d] => { results := [.lit (.bool false)], args := [d] }
  | _ => none }
def FnRateOverSplitWrongFalsely : Prop := fnRateOverSplitRow.holds Try.pinned (OpenSpec.ofChange fnRateOverSplitWrong)

/-- 'laws.FnSumOverRollUp': WHATEVER THE INPUT: true; the input reads as it did. -/
def fnSumOverRollUpSpec : ChangeSpec := { name := "fnSumOverRollUp", fn := fun _ => fun
  | [d] => { results := [.lit (.bool true)], args := [d] }
  | _ => none }
def fnSumOverRollUpRow : OpenClaim := { program := "ytgifppadakmmiaa", sum := "089e019dfbae190a9e85a1304d9b03be65b0f95ec465f7c6829b589bccd88da2", func := "loop.example/metricstore/laws.FnSumOverRollUp", spec := "fnSumOverRollUp", unfollowed := true, recurses := true, apart := false }
def FnSumOverRollUpSaid : Prop := fnSumOverRollUpRow.holds Try.pinned (OpenSpec.ofChange fnSumOverRollUpSpec)

/-- ITS FALSE NEIGHBOUR: 'it returns false'. Refute it at one input. -/
def fnSumOverRollUpWrong : ChangeSpec := { name := "fnSumOverRollUp", fn := fun _ => fun
  | [d] => { results := [.lit (.bool false)], args := [d] }
  | _ => none }
def FnSumOverRollUpWrongFalsely : Prop := fnSumOverRollUpRow.holds Try.pinned (OpenSpec.ofChange fnSumOverRollUpWrong)

/-- 'laws.FnExactCloseHead': WHATEVER THE INPUT: true; the input reads as it did. -/
def fnExactCloseHeadSpec : ChangeSpec := { name := "fnExactCloseHead", fn := fun _ => fun
  | [d] => { results := [.lit (.bool true)], args := [d] }
  | _ => none }
def fnExactCloseHeadRow : OpenClaim := { program := "ytgifppadakmmiaa", sum := "089e019dfbae190a9e85a1304d9b03be65b0f95ec465f7c6829b589bccd88da2", func := "loop.example/metricstore/laws.FnExactCloseHead", spec := "fnExactCloseHead", apart := false }
def FnExactCloseHeadSaid : Prop := fnExactCloseHeadRow.holds Try.pinned (OpenSpec.ofChange fnExactCloseHeadSpec)

/-- ITS FALSE NEIGHBOUR: 'it returns false'. Refute it at one input. -/
def fnExactCloseHeadWrong : ChangeSpec := { name := "fnExactCloseHead", fn := fun _ => fun
  | [d] => { results := [.lit (.bool false)], args := [d] }
  | _ => none }
def FnExactCloseHeadWrongFalsely : Prop := fnExactCloseHeadRow.holds Try.pinned (OpenSpec.ofChange fnExactCloseHeadWrong)

/-- 'laws.FnRateOver': WHATEVER THE INPUT: true; the input reads as it did. -/
def fnRateOverSpec : ChangeSpec := { name := "fnRateOver", fn := fun _ => fun
  | [d] => { results := [.lit (.bool true)], args := [d] }
  | _ => none }
def fnRateOverRow : OpenClaim := { program := "ytgifppadakmmiaa", sum := "089e019dfbae190a9e85a1304d9b03be65b0f95ec465f7c6829b589bccd88da2", func := "loop.example/metricstore/laws.FnRateOver", spec := "fnRateOver", unfollowed := true, recurses := true, apart := false }
def FnRateOverSaid : Prop := fnRateOverRow.holds Try.pinned (OpenSpec.ofChange fnRateOverSpec)

/-- ITS FALSE NEIGHBOUR: 'it returns false'. Refute it at one input. -/
def fnRateOverWrong : ChangeSpec := { name := "fnRateOver", fn := fun _ => fun
  | [d] => { results := [.lit (.bool false)], args := [d] }
  | _ => none }
def FnRateOverWrongFalsely : Prop := fnRateOverRow.holds Try.pinned (OpenSpec.ofChange fnRateOverWrong)

/-- 'laws.FnExactQuantileOver': WHATEVER THE INPUT: true; the input reads as it did. -/
def fnExactQuantileOverSpec : ChangeSpec := { name := "fnExactQuantileOver", fn := fun _ => fun
  | [d1, d2, d3, d4] => { results := [.lit (.bool true)], args := [d1, d2, d3, d4] }
  | _ => none }
def fnExactQuantileOverRow : OpenClaim := { program := "ytgifppadakmmiaa", sum := "089e019dfbae190a9e85a1304d9b03be65b0f95ec465f7c6829b589bccd88da2", func := "loop.example/metricstore/laws.FnExactQuantileOver", spec := "fnExactQuantileOver", unfollowed := true, recurses := true, apart := false }
def FnExactQuantileOverSaid : Prop := fnExactQuantileOverRow.holds Try.pinned (OpenSpec.ofChange fnExactQuantileOverSpec)

/-- ITS FALSE NEIGHBOUR: 'it returns false'. Refute it at one input. -/
def fnExactQuantileOverWrong : ChangeSpec := { name := "fnExactQuantileOver", fn := fun _ => fun
  | [d1, d2, d3, d4] => { results := [.lit (.bool false)], args := [d1, d2, d3, d4] }
  | _ => none }
def FnExactQuantileOverWrongFalsely : Prop := fnExactQuantileOverRow.holds Try.pinned (OpenSpec.ofChange fnExactQuantileOverWrong)

/-- 'laws.FnQuantileOver': WHATEVER THE INPUT: true; the input reads as it did. -/
def fnQuantileOverSpec : ChangeSpec := { name := "fnQuantileOver", fn := fun _ => fun
  | [d] => { results := [.lit (.bool true)], args := [d] }
  | _ => none }
def fnQuantileOverRow : OpenClaim := { program := "ytgifppadakmmiaa", sum := "089e019dfbae190a9e85a1304d9b03be65b0f95ec465f7c6829b589bccd88da2", func := "loop.example/metricstore/laws.FnQuantileOver", spec := "fnQuantileOver", unfollowed := true, recurses := true, apart := false }
def FnQuantileOverSaid : Prop := fnQuantileOverRow.holds Try.pinned (OpenSpec.ofChange fnQuantileOverSpec)

/-- ITS FALSE NEIGHBOUR: 'it returns false'. Refute it at one input. -/
def fnQuantileOverWrong : ChangeSpec := { name := "fnQuantileOver", fn := fun _ => fun
  | [d] => { results := [.lit (.bool false)], args := [d] }
  | _ => none }
def FnQuantileOverWrongFalsely : Prop := fnQuantileOverRow.holds Try.pinned (OpenSpec.ofChange fnQuantileOverWrong)

/- THE SECOND FORM. 'bulk': how many values and letters a reading holds, each counted each time it is reached (what is shared counts as often as it is met; a slice's spare places count too). A statement '..UptoSaid' is the law's where the arguments, and the package variables that the reading takes, are together of bulk at most 1048576: NARROWER than '..Said'. Prove '..Said' where nothing that the law and all that it calls make is longer than what came in: it says more and counts as full. Else prove '..UptoSaid'. A law counts once. -/
mutual
def uptoBulk {H : Type} : DataW H → Nat
  | .lit (.string bytes) => bytes.length + 1
  | .lit _ => 1
  | .nil => 1
  | .ptr d => uptoBulk d + 1
  | .slice elems spare => uptoBulkAll elems + uptoBulkAll spare + 1
  | .agg parts => uptoBulkAll parts + 1
  | .iface _ d => uptoBulk d + 1
  | .map entries => uptoBulkEntries entries + 1
  | .held _ => 1
def uptoBulkAll {H : Type} : List (DataW H) → Nat
  | [] => 0
  | d :: r => uptoBulk d + uptoBulkAll r
def uptoBulkEntries {H : Type} : List (Lit × DataW H) → Nat
  | [] => 0
  | x :: r => uptoBulkEntry x + uptoBulkEntries r
def uptoBulkEntry {H : Type} : Lit × DataW H → Nat
  | (.string bytes, d) => bytes.length + uptoBulk d + 1
  | (_, d) => uptoBulk d + 1
 end
def uptoSmall : (H : Type) → List (DataW H) → Bool := fun _ ds => decide (uptoBulkAll ds ≤ 1048576)
def OpenSpec.upto (s : _root_.Go.ChangeSpec) : _root_.Go.OpenSpec := { _root_.Go.OpenSpec.ofChange s with cond := some uptoSmall }

/-- 'laws.FnQuantileOverMore', WHERE WHAT IT READS IS OF BULK AT MOST 1048576: true; the input reads as it did. -/
def fnQuantileOverMoreUptoRow : OpenClaim := { program := "ytgifppadakmmiaa", sum := "089e019dfbae190a9e85a1304d9b03be65b0f95ec465f7c6829b589bccd88da2", func := "loop.example/metricstore/laws.FnQuantileOverMore", spec := "fnQuantileOverMore", unfollowed := true, recurses := true, apart := false, narrowed := true }
def FnQuantileOverMoreUptoSaid : Prop := fnQuantileOverMoreUptoRow.holds Try.pinned (OpenSpec.upto fnQuantileOverMoreSpec)

/-- 'laws.FnExactValidHead', WHERE WHAT IT READS IS OF BULK AT MOST 1048576: true; the input reads as it did. -/
def fnExactValidHeadUptoRow : OpenClaim := { program := "ytgifppadakmmiaa", sum := "089e019dfbae190a9e85a1304d9b03be65b0f95ec465f7c6829b589bccd88da2", func := "loop.example/metricstore/laws.FnExactValidHead", spec := "fnExactValidHead", apart := false, narrowed := true }
def FnExactValidHeadUptoSaid : Prop := fnExactValidHeadUptoRow.holds Try.pinned (OpenSpec.upto fnExactValidHeadSpec)

/-- 'laws.FnExactRateOver', WHERE WHAT IT READS IS OF BULK AT MOST 1048576: true; the input reads as it did. -/
def fnExactRateOverUptoRow : OpenClaim := { program := "ytgifppadakmmiaa", sum := "089e019dfbae190a9e85a1304d9b03be65b0f95ec465f7c6829b589bccd88da2", func := "loop.example/metricstore/laws.FnExactRateOver", spec := "fnExactRateOver", unfollowed := true, recurses := true, apart := false, narrowed := true }
def FnExactRateOverUptoSaid : Prop := fnExactRateOverUptoRow.holds Try.pinned (OpenSpec.upto fnExactRateOverSpec)

/-- 'laws.FnExactResample', WHERE WHAT IT READS IS OF BULK AT MOST 1048576: true; the input reads as it did. -/
def fnExactResampleUptoRow : OpenClaim := { program := "ytgifppadakmmiaa", sum := "089e019dfbae190a9e85a1304d9b03be65b0f95ec465f7c6829b589bccd88da2", func := "loop.example/metricstore/laws.FnExactResample", spec := "fnExactResample", unfollowed := true, recurses := true, apart := false, narrowed := true }
def FnExactResampleUptoSaid : Prop := fnExactResampleUptoRow.holds Try.pinned (OpenSpec.upto fnExactResampleSpec)

/-- 'laws.FnSumOver', WHERE WHAT IT READS IS OF BULK AT MOST 1048576: true; the input reads as it did. -/
def fnSumOverUptoRow : OpenClaim := { program := "ytgifppadakmmiaa", sum := "089e019dfbae190a9e85a1304d9b03be65b0f95ec465f7c6829b589bccd88da2", func := "loop.example/metricstore/laws.FnSumOver", spec := "fnSumOver", unfollowed := true, recurses := true, apart := false, narrowed := true }
def FnSumOverUptoSaid : Prop := fnSumOverUptoRow.holds Try.pinned (OpenSpec.upto fnSumOverSpec)

/-- 'laws.FnResample', WHERE WHAT IT READS IS OF BULK AT MOST 1048576: true; the input reads as it did. -/
def fnResampleUptoRow : OpenClaim := { program := "ytgifppadakmmiaa", sum := "089e019dfbae190a9e85a1304d9b03be65b0f95ec465f7c6829b589bccd88da2", func := "loop.example/metricstore/laws.FnResample", spec := "fnResample", unfollowed := true, recurses := true, apart := false, narrowed := true }
def FnResampleUptoSaid : Prop := fnResampleUptoRow.holds Try.pinned (OpenSpec.upto fnResampleSpec)

/-- 'laws.FnResampleNone', WHERE WHAT IT READS IS OF BULK AT MOST 1048576: true; the input reads as it did. -/
def fnResampleNoneUptoRow : OpenClaim := { program := "ytgifppadakmmiaa", sum := "089e019dfbae190a9e85a1304d9b03be65b0f95ec465f7c6829b589bccd88da2", func := "loop.example/metricstore/laws.FnResampleNone", spec := "fnResampleNone", unfollowed := true, recurses := true, apart := false, narrowed := true }
def FnResampleNoneUptoSaid : Prop := fnResampleNoneUptoRow.holds Try.pinned (OpenSpec.upto fnResampleNoneSpec)

/-- 'laws.FnResampleTwice', WHERE WHAT IT READS IS OF BULK AT MOST 1048576: true; the input reads as it did. -/
def fnResampleTwiceUptoRow : OpenClaim := { program := "ytgifppadakmmiaa", sum := "089e019dfbae190a9e85a1304d9b03be65b0f95ec465f7c6829b589bccd88da2", func := "loop.example/metricstore/laws.FnResampleTwice", spec := "fnResampleTwice", unfollowed := true, recurses := true, apart := false, narrowed := true }
def FnResampleTwiceUptoSaid : Prop := fnResampleTwiceUptoRow.holds Try.pinned (OpenSpec.upto fnResampleTwiceSpec)

/-- 'laws.FnResets', WHERE WHAT IT READS IS OF BULK AT MOST 1048576: true; the input reads as it did. -/
def fnResetsUptoRow : OpenClaim := { program := "ytgifppadakmmiaa", sum := "089e019dfbae190a9e85a1304d9b03be65b0f95ec465f7c6829b589bccd88da2", func := "loop.example/metricstore/laws.FnResets", spec := "fnResets", unfollowed := true, recurses := true, apart := false, narrowed := true }
def FnResetsUptoSaid : Prop := fnResetsUptoRow.holds Try.pinned (OpenSpec.upto fnResetsSpec)

/-- 'laws.FnExactAllPoints', WHERE WHAT IT READS IS OF BULK AT MOST 1048576: true; the input reads as it did. -/
def fnExactAllPointsUptoRow : OpenClaim := { program := "ytgifppadakmmiaa", sum := "089e019dfbae190a9e85a1304d9b03be65b0f95ec465f7c6829b589bccd88da2", func := "loop.example/metricstore/laws.FnExactAllPoints", spec := "fnExactAllPoints", apart := false, narrowed := true }
def FnExactAllPointsUptoSaid : Prop := fnExactAllPointsUptoRow.holds Try.pinned (OpenSpec.upto fnExactAllPointsSpec)

/-- 'laws.FnRateOverScale', WHERE WHAT IT READS IS OF BULK AT MOST 1048576: true; the input reads as it did. -/
def fnRateOverScaleUptoRow : OpenClaim := { program := "ytgifppadakmmiaa", sum := "089e019dfbae190a9e85a1304d9b03be65b0f95ec465f7c6829b589bccd88da2", func := "loop.example/metricstore/laws.FnRateOverScale", spec := "fnRateOverScale", unfollowed := true, recurses := true, apart := false, narrowed := true }
def FnRateOverScaleUptoSaid : Prop := fnRateOverScaleUptoRow.holds Try.pinned (OpenSpec.upto fnRateOverScaleSpec)

/-- 'laws.FnRateOverSplit', WHERE WHAT IT READS IS OF BULK AT MOST 1048576: true; the input reads as it did. -/
def fnRateOverSplitUptoRow : OpenClaim := { program := "ytgifppadakmmiaa", sum := "089e019dfbae190a9e85a1304d9b03be65b0f95ec465f7c6829b589bccd88da2", func := "loop.example/metricstore/laws.FnRateOverSplit", spec := "fnRateOverSplit", unfollowed := true, recurses := true, apart := false, narrowed := true }
def FnRateOverSplitUptoSaid : Prop := fnRateOverSplitUptoRow.holds Try.pinned (OpenSpec.upto fnRateOverSplitSpec)

/-- 'laws.FnSumOverRollUp', WHERE WHAT IT READS IS OF BULK AT MOST 1048576: true; the input reads as it did. -/
def fnSumOverRollUpUptoRow : OpenClaim := { program := "ytgifppadakmmiaa", sum := "089e019dfbae190a9e85a1304d9b03be65b0f95ec465f7c6829b589bccd88da2", func := "loop.example/metricstore/laws.FnSumOverRollUp", spec := "fnSumOverRollUp", unfollowed := true, recurses := true, apart := false, narrowed := true }
def FnSumOverRollUpUptoSaid : Prop := fnSumOverRollUpUptoRow.holds Try.pinned (OpenSpec.upto fnSumOverRollUpSpec)

/-- 'laws.FnExactCloseHead', WHERE WHAT IT READS IS OF BULK AT MOST 1048576: true; the input reads as it did. -/
def fnExactCloseHeadUptoRow : OpenClaim := { program := "ytgifppadakmmiaa", sum := "089e019dfbae190a9e85a1304d9b03be65b0f95ec465f7c6829b589bccd88da2", func := "loop.example/metricstore/laws.FnExactCloseHead", spec := "fnExactCloseHead", apart := false, narrowed := true }
def FnExactCloseHeadUptoSaid : Prop := fnExactCloseHeadUptoRow.holds Try.pinned (OpenSpec.upto fnExactCloseHeadSpec)

/-- 'laws.FnRateOver', WHERE WHAT IT READS IS OF BULK AT MOST 1048576: true; the input reads as it did. -/
def fnRateOverUptoRow : OpenClaim := { program := "ytgifppadakmmiaa", sum := "089e019dfbae190a9e85a1304d9b03be65b0f95ec465f7c6829b589bccd88da2", func := "loop.example/metricstore/laws.FnRateOver", spec := "fnRateOver", unfollowed := true, recurses := true, apart := false, narrowed := true }
def FnRateOverUptoSaid : Prop := fnRateOverUptoRow.holds Try.pinned (OpenSpec.upto fnRateOverSpec)

/-- 'laws.FnExactQuantileOver', WHERE WHAT IT READS IS OF BULK AT MOST 1048576: true; the input reads as it did. -/
def fnExactQuantileOverUptoRow : OpenClaim := { program := "ytgifppadakmmiaa", sum := "089e019dfbae190a9e85a1304d9b03be65b0f95ec465f7c6829b589bccd88da2", func := "loop.example/metricstore/laws.FnExactQuantileOver", spec := "fnExactQuantileOver", unfollowed := true, recurses := true, apart := false, narrowed := true }
def FnExactQuantileOverUptoSaid : Prop := fnExactQuantileOverUptoRow.holds Try.pinned (OpenSpec.upto fnExactQuantileOverSpec)

/-- 'laws.FnQuantileOver', WHERE WHAT IT READS IS OF BULK AT MOST 1048576: true; the input reads as it did. -/
def fnQuantileOverUptoRow : OpenClaim := { program := "ytgifppadakmmiaa", sum := "089e019dfbae190a9e85a1304d9b03be65b0f95ec465f7c6829b589bccd88da2", func := "loop.example/metricstore/laws.FnQuantileOver", spec := "fnQuantileOver", unfollowed := true, recurses := true, apart := false, narrowed := true }
def FnQuantileOverUptoSaid : Prop := fnQuantileOverUptoRow.holds Try.pinned (OpenSpec.upto fnQuantileOverSpec)

end Rows
end Go.Proofs.Ytgifppadakmmiaa
