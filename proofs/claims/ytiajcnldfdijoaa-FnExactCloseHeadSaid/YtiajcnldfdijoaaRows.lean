/-
  No cell of these rows narrows 'for every input' (looked for: loops, veiled, ifaces, maps, wideKeys, modest, calm, conditions, laid).
  DERIVED. THE GIVEN ROWS OF THIS SEAT. 5 by the template 'for every input the law returns true; each argument reads behind the call as it read before'; 0 by the template 'total and deterministic' (their statements: YtiajcnldfdijoaaTotals.lean).
  GIVEN WITH THE SEED: the statements are not yours to turn. If you find one false, say at which input.
  Laid BY PROGRAM, IN A SANDBOX (cutbox-rows.mjs): the forced cells as the released guide's own fill.sh prints them over the translation 3d3c5a98e3384ea6… (all of the seat's roots in one cut). By AI agents, Wed Nov 11 2026. No macro, syntax, notation, axiom, sorry.
-/
import Derived.Test.YtiajcnldfdijoaaChecked
import GoSem.Claim
import GoSem.ClaimJoined
import GoSem.ClaimMapViews
import Derived.JoinedTies
import Derived.KernelRfl
namespace Go.Proofs.Ytiajcnldfdijoaa
/- THE CELL 'sum', in the pinned program and in every row, IS THE sha256 OF THE DUMP (.gsa) THAT YtiajcnldfdijoaaProg.lean LOADS. Nothing in Lean hashes anything: it is a label: what it is worth is what the hold of that sum in a sandbox is worth. -/
noncomputable def Try.pinned : Pinned := { name := "ytiajcnldfdijoaa", sum := "3d3c5a98e3384ea654463ff785c88ed2189eb6615ab7b9b96d180fc5d4ea90de", checked := Try.checked }
namespace Rows
def none {H : Type} : Left H := { results := [], args := [] }

/-- 'laws.FnQuantileOverMore': WHATEVER THE INPUT: true; the input reads as it did. -/
def fnQuantileOverMoreSpec : ChangeSpec := { name := "fnQuantileOverMore", fn := fun _ => fun
  | [d] => { results := [.lit (.bool true)], args := [d] }
  | _ => none }
def fnQuantileOverMoreRow : OpenClaim := { program := "ytiajcnldfdijoaa", sum := "3d3c5a98e3384ea654463ff785c88ed2189eb6615ab7b9b96d180fc5d4ea90de", func := "loop.example/metricstore/laws.FnQuantileOverMore", spec := "fnQuantileOverMore", unfollowed := true, recurses := true, apart := false }
def FnQuantileOverMoreSaid : Prop := fnQuantileOverMoreRow.holds Try.pinned (OpenSpec.ofChange fnQuantileOverMoreSpec)

/-- ITS FALSE NEIGHBOUR: 'it returns false'. Refute it at one input. -/
def fnQuantileOverMoreWrong : ChangeSpec := { name := "fnQuantileOverMore", fn := fun _ => fun
  | [d] => { results := [.lit (.bool false)], args := [d] }
  | _ => none }
def FnQuantileOverMoreWrongFalsely : Prop := fnQuantileOverMoreRow.holds Try.pinned (OpenSpec.ofChange fnQuantileOverMoreWrong)

/-- 'laws.FnSumOverRollUp': WHATEVER THE INPUT: true; the input reads as it did. -/
def fnSumOverRollUpSpec : ChangeSpec := { name := "fnSumOverRollUp", fn := fun _ => fun
  | [d] => { results := [.lit (.bool true)], args := [d] }
  | _ => none }
def fnSumOverRollUpRow : OpenClaim := { program := "ytiajcnldfdijoaa", sum := "3d3c5a98e3384ea654463ff785c88ed2189eb6615ab7b9b96d180fc5d4ea90de", func := "loop.example/metricstore/laws.FnSumOverRollUp", spec := "fnSumOverRollUp", unfollowed := true, recurses := true, apart := false }
def FnSumOverRollUpSaid : Prop := fnSumOverRollUpRow.holds Try.pinned (OpenSpec.ofChange fnSumOverRollUpSpec)

/-- ITS FALSE NEIGHBOUR: 'it returns false'. Refute it at one input. -/
def fnSumOverRollUpWrong : ChangeSpec := { name := "fnSumOverRollUp", fn := fun _ => fun
  | [d] => { results := [.lit (.bool false)], args := [d] }
  | _ => none }
def FnSumOverRollUpWrongFalsely : Prop := fnSumOverRollUpRow.holds Try.pinned (OpenSpec.ofChange fnSumOverRollUpWrong)

/-- 'laws.FnExactCloseHead': WHATEVER THE INPUT: true; the input reads as it did. -/
def fnExactCloseHeadSpec : ChangeSpec := { name := "fnExactCloseHead", fn := fun _ => fun
  | [d] => { results := [.lit (.bool true)], args := [d] }
  | _ => none }
def fnExactCloseHeadRow : OpenClaim := { program := "ytiajcnldfdijoaa", sum := "3d3c5a98e3384ea654463ff785c88ed2189eb6615ab7b9b96d180fc5d4ea90de", func := "loop.example/metricstore/laws.FnExactCloseHead", spec := "fnExactCloseHead", apart := false }
def FnExactCloseHeadSaid : Prop := fnExactCloseHeadRow.holds Try.pinned (OpenSpec.ofChange fnExactCloseHeadSpec)

/-- ITS FALSE NEIGHBOUR: 'it returns false'. Refute it at one input. -/
def fnExactCloseHeadWrong : ChangeSpec := { name := "fnExactCloseHead", fn := fun _ => fun
  | [d] => { results := [.lit (.bool false)], args := [d] }
  | _ => none }
def FnExactCloseHeadWrongFalsely : Prop := fnExactCloseHeadRow.holds Try.pinned (OpenSpec.ofChange fnExactCloseHeadWrong)

/-- 'laws.FnExactQuantileOver': WHATEVER THE INPUT: true; the input reads as it did. -/
def fnExactQuantileOverSpec : ChangeSpec := { name := "fnExactQuantileOver", fn := fun _ => fun
  | [d1, d2, d3, d4] => { results := [.lit (.bool true)], args := [d1, d2, d3, d4] }
  | _ => none }
def fnExactQuantileOverRow : OpenClaim := { program := "ytiajcnldfdijoaa", sum := "3d3c5a98e3384ea654463ff785c88ed2189eb6615ab7b9b96d180fc5d4ea90de", func := "loop.example/metricstore/laws.FnExactQuantileOver", spec := "fnExactQuantileOver", unfollowed := true, recurses := true, apart := false }
def FnExactQuantileOverSaid : Prop := fnExactQuantileOverRow.holds Try.pinned (OpenSpec.ofChange fnExactQuantileOverSpec)

/-- ITS FALSE NEIGHBOUR: 'it returns false'. Refute it at one input. -/
def fnExactQuantileOverWrong : ChangeSpec := { name := "fnExactQuantileOver", fn := fun _ => fun
  | [d1, d2, d3, d4] => { results := [.lit (.bool false)], args := [d1, d2, d3, d4] }
  | _ => none }
def FnExactQuantileOverWrongFalsely : Prop := fnExactQuantileOverRow.holds Try.pinned (OpenSpec.ofChange fnExactQuantileOverWrong)

/-- 'laws.FnQuantileOver': WHATEVER THE INPUT: true; the input reads as it did. -/
def fnQuantileOverSpec : ChangeSpec := { name := "fnQuantileOver", fn := fun _ => fun
  | [d] => { results := [.lit (.bool true)], args := [d] }
  | _ => none }
def fnQuantileOverRow : OpenClaim := { program := "ytiajcnldfdijoaa", sum := "3d3c5a98e3384ea654463ff785c88ed2189eb6615ab7b9b96d180fc5d4ea90de", func := "loop.example/metricstore/laws.FnQuantileOver", spec := "fnQuantileOver", unfollowed := true, recurses := true, apart := false }
def FnQuantileOverSaid : Prop := fnQuantileOverRow.holds Try.pinned (OpenSpec.ofChange fnQuantileOverSpec)

/-- ITS FALSE NEIGHBOUR: 'it returns false'. Refute it at one input. -/
def fnQuantileOverWrong : ChangeSpec := { name := "fnQuantileOver", fn := fun _ => fun
  | [d] => { results := [.lit (.bool false)], args := [d] }
  | _ => none }
def FnQuantileOverWrongFalsely : Prop := fnQuantileOverRow.holds Try.pinned (OpenSpec.ofChange fnQuantileOverWrong)

/- THE SECOND FORM. 'bulk': how many values and letters a reading holds, each counted each time it is reached (what is shared counts as often as it is met; a slice's spare places count too). A statement '..UptoSaid' is the law's where the arguments, and the package variables that the reading takes, are together of bulk at most 1048576: NARROWER than '..Said'. Prove '..Said' where nothing that the law and all that it calls make is longer than what came in: it says more and counts as full. Else prove '..UptoSaid'. A law counts once. -/
mutual
def uptoBulk {H : Type} : DataW H → Nat
  | .lit (.string bytes) => bytes.length + 1
  | .lit _ => 1
  | .nil => 1
  | .ptr d => uptoBulk d + 1
  | .slice elems spare => uptoBulkAll elems + uptoBulkAll spare + 1
  | .agg parts => uptoBulkAll parts + 1
  | .iface _ d => uptoBulk d + 1
  | .map entries => uptoBulkEntries entries + 1
  | .held _ => 1
def uptoBulkAll {H : Type} : List (DataW H) → Nat
  | [] => 0
  | d :: r => uptoBulk d + uptoBulkAll r
def uptoBulkEntries {H : Type} : List (Lit × DataW H) → Nat
  | [] => 0
  | x :: r => uptoBulkEntry x + uptoBulkEntries r
def uptoBulkEntry {H : Type} : Lit × DataW H → Nat
  | (.string bytes, d) => bytes.length + uptoBulk d + 1
  | (_, d) => uptoBulk d + 1
 end
def uptoSmall : (H : Type) → List (DataW H) → Bool := fun _ ds => decide (uptoBulkAll ds ≤ 1048576)
def OpenSpec.upto (s : _root_.Go.ChangeSpec) : _root_.Go.OpenSpec := { _root_.Go.OpenSpec.ofChange s with cond := some uptoSmall }

/-- 'laws.FnQuantileOverMore', WHERE WHAT IT READS IS OF BULK AT MOST 1048576: true; the input reads as it did. -/
def fnQuantileOverMoreUptoRow : OpenClaim := { program := "ytiajcnldfdijoaa", sum := "3d3c5a98e3384ea654463ff785c88ed2189eb6615ab7b9b96d180fc5d4ea90de", func := "loop.example/metricstore/laws.FnQuantileOverMore", spec := "fnQuantileOverMore", unfollowed := true, recurses := true, apart := false, narrowed := true }
def FnQuantileOverMoreUptoSaid : Prop := fnQuantileOverMoreUptoRow.holds Try.pinned (OpenSpec.upto fnQuantileOverMoreSpec)

/-- 'laws.FnSumOverRollUp', WHERE WHAT IT READS IS OF BULK AT MOST 1048576: true; the input reads as it did. -/
def fnSumOverRollUpUptoRow : OpenClaim := { program := "ytiajcnldfdijoaa", sum := "3d3c5a98e3384ea654463ff785c88ed2189eb6615ab7b9b96d180fc5d4ea90de", func := "loop.example/metricstore/laws.FnSumOverRollUp", spec := "fnSumOverRollUp", unfollowed := true, recurses := true, apart := false, narrowed := true }
def FnSumOverRollUpUptoSaid : Prop := fnSumOverRollUpUptoRow.holds Try.pinned (OpenSpec.upto fnSumOverRollUpSpec)

/-- 'laws.FnExactCloseHead', WHERE WHAT IT READS IS OF BULK AT MOST 1048576: true; the input reads as it did. -/
def fnExactCloseHeadUptoRow : OpenClaim := { program := "ytiajcnldfdijoaa", sum := "3d3c5a98e3384ea654463ff785c88ed2189eb6615ab7b9b96d180fc5d4ea90de", func := "loop.example/metricstore/laws.FnExactCloseHead", spec := "fnExactCloseHead", apart := false, narrowed := true }
def FnExactCloseHeadUptoSaid : Prop := fnExactCloseHeadUptoRow.holds Try.pinned (OpenSpec.upto fnExactCloseHeadSpec)

/-- 'laws.FnExactQuantileOver', WHERE WHAT IT READS IS OF BULK AT MOST 1048576: true; the input reads as it did. -/
def fnExactQuantileOverUptoRow : OpenClaim := { program := "ytiajcnldfdijoaa", sum := "3d3c5a98e3384ea654463ff785c88ed2189eb6615ab7b9b96d180fc5d4ea90de", func := "loop.example/metricstore/laws.FnExactQuantileOver", spec := "fnExactQuantileOver", unfollowed := true, recurses := true, apart := false, narrowed := true }
def FnExactQuantileOverUptoSaid : Prop := fnExactQuantileOverUptoRow.holds Try.pinned (OpenSpec.upto fnExactQuantileOverSpec)

/-- 'laws.FnQuantileOver', WHERE WHAT IT READS IS OF BULK AT MOST 1048576: true; the input reads as it did. -/
def fnQuantileOverUptoRow : OpenClaim := { program := "ytiajcnldfdijoaa", sum := "3d3c5a98e3384ea654463ff785c88ed2189eb6615ab7b9b96d180fc5d4ea90de", func := "loop.example/metricstore/laws.FnQuantileOver", spec := "fnQuantileOver", unfollowed := true, recurses := true, apart := false, narrowed := true }
def FnQuantileOverUptoSaid : Prop := fnQuantileOverUptoRow.holds Try.pinned (OpenSpec.upto fnQuantileOverSpec)

end Rows
end Go.Proofs.Ytiajcnldfdijoaa
