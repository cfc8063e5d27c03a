/-
  No cell of these rows narrows 'for every input' (looked for: loops, veiled, ifaces, maps, wideKeys, modest, calm, conditions, laid).
  DERIVED. THE GIVEN ROWS OF THIS SEAT. 11 by the template 'for every input the law returns true; each argument reads behind the call as it read before'; 0 by the template 'total and deterministic' (their statements: YtheckdenoomhjaaTotals.lean).
  GIVEN WITH THE SEED: the statements are not yours to turn. If you find one false, say at which input.
  Laid BY PROGRAM, IN A SANDBOX (cutbox-rows.mjs): the forced cells as the released guide's own fill.sh prints them over the translation 584bd00833f5074b… (all of the seat's roots in one cut). By AI agents, Wed Nov 11 2026. No macro, syntax, notation, axiom, sorry.
-/
import Derived.Test.YtheckdenoomhjaaChecked
import GoSem.Claim
import GoSem.ClaimJoined
import GoSem.ClaimMapViews
import Derived.JoinedTies
import Derived.KernelRfl
namespace Go.Proofs.Ytheckdenoomhjaa
/- THE CELL 'sum', in the pinned program and in every row, IS THE sha256 OF THE DUMP (.gsa) THAT YtheckdenoomhjaaProg.lean LOADS. Nothing in Lean hashes anything: it is a label: what it is worth is what the hold of that sum in a sandbox is worth. -/
noncomputable def Try.pinned : Pinned := { name := "ytheckdenoomhjaa", sum := "584bd00833f5074b0eca266419ea278839a0a64102335cef210a4a9acbe8d7c0", checked := Try.checked }
namespace Rows
def none {H : Type} : Left H := { results := [], args := [] }

/-- 'laws.FnValidTiers': WHATEVER THE INPUT: true; the input reads as it did. -/
def fnValidTiersSpec : ChangeSpec := { name := "fnValidTiers", fn := fun _ => fun
  | [d] => { results := [.lit (.bool true)], args := [d] }
  | _ => none }
def fnValidTiersRow : OpenClaim := { program := "ytheckdenoomhjaa", sum := "584bd00833f5074b0eca266419ea278839a0a64102335cef210a4a9acbe8d7c0", func := "loop.example/metricstore/laws.FnValidTiers", spec := "fnValidTiers", apart := false }
def FnValidTiersSaid : Prop := fnValidTiersRow.holds Try.pinned (OpenSpec.ofChange fnValidTiersSpec)

/-- ITS FALSE NEIGHBOUR: 'it returns false'. Refute it at one input. -/
def fnValidTiersWrong : ChangeSpec := { name := "fnValidTiers", fn := fun _ => fun
  | [d] => { results := [.lit (.bool false)], args := [d] }
  | _ => none }
def FnValidTiersWrongFalsely : Prop := fnValidTiersRow.holds Try.pinned (OpenSpec.ofChange fnValidTiersWrong)

/-- 'laws.FnExactValidTiers': WHATEVER THE INPUT: true; the input reads as it did. -/
def fnExactValidTiersSpec : ChangeSpec := { name := "fnExactValidTiers", fn := fun _ => fun
  | [d] => { results := [.lit (.bool true)], args := [d] }
  | _ => none }
def fnExactValidTiersRow : OpenClaim := { program := "ytheckdenoomhjaa", sum := "584bd00833f5074b0eca266419ea278839a0a64102335cef210a4a9acbe8d7c0", func := "loop.example/metricstore/laws.FnExactValidTiers", spec := "fnExactValidTiers", apart := false }
def FnExactValidTiersSaid : Prop := fnExactValidTiersRow.holds Try.pinned (OpenSpec.ofChange fnExactValidTiersSpec)

/-- ITS FALSE NEIGHBOUR: 'it returns false'. Refute it at one input. -/
def fnExactValidTiersWrong : ChangeSpec := { name := "fnExactValidTiers", fn := fun _ => fun
  | [d] => { results := [.lit (.bool false)], args := [d] }
  | _ => none }
def FnExactValidTiersWrongFalsely : Prop := fnExactValidTiersRow.holds Try.pinned (OpenSpec.ofChange fnExactValidTiersWrong)

/-- 'laws.FnExactTierFor': WHATEVER THE INPUT: true; the input reads as it did. -/
def fnExactTierForSpec : ChangeSpec := { name := "fnExactTierFor", fn := fun _ => fun
  | [d1, d2, d3] => { results := [.lit (.bool true)], args := [d1, d2, d3] }
  | _ => none }
def fnExactTierForRow : OpenClaim := { program := "ytheckdenoomhjaa", sum := "584bd00833f5074b0eca266419ea278839a0a64102335cef210a4a9acbe8d7c0", func := "loop.example/metricstore/laws.FnExactTierFor", spec := "fnExactTierFor", apart := false }
def FnExactTierForSaid : Prop := fnExactTierForRow.holds Try.pinned (OpenSpec.ofChange fnExactTierForSpec)

/-- ITS FALSE NEIGHBOUR: 'it returns false'. Refute it at one input. -/
def fnExactTierForWrong : ChangeSpec := { name := "fnExactTierFor", fn := fun _ => fun
  | [d1, d2, d3] => { results := [.lit (.bool false)], args := [d1, d2, d3] }
  | _ => none }
def FnExactTierForWrongFalsely : Prop := fnExactTierForRow.holds Try.pinned (OpenSpec.ofChange fnExactTierForWrong)

/-- 'laws.FnExactTierCost': WHATEVER THE INPUT: true; the input reads as it did. -/
def fnExactTierCostSpec : ChangeSpec := { name := "fnExactTierCost", fn := fun _ => fun
  | [d1, d2] => { results := [.lit (.bool true)], args := [d1, d2] }
  | _ => none }
def fnExactTierCostRow : OpenClaim := { program := "ytheckdenoomhjaa", sum := "584bd00833f5074b0eca266419ea278839a0a64102335cef210a4a9acbe8d7c0", func := "loop.example/metricstore/laws.FnExactTierCost", spec := "fnExactTierCost", apart := false }
def FnExactTierCostSaid : Prop := fnExactTierCostRow.holds Try.pinned (OpenSpec.ofChange fnExactTierCostSpec)

/-- ITS FALSE NEIGHBOUR: 'it returns false'. Refute it at one input. -/
def fnExactTierCostWrong : ChangeSpec := { name := "fnExactTierCost", fn := fun _ => fun
  | [d1, d2] => { results := [.lit (.bool false)], args := [d1, d2] }
  | _ => none }
def FnExactTierCostWrongFalsely : Prop := fnExactTierCostRow.holds Try.pinned (OpenSpec.ofChange fnExactTierCostWrong)

/-- 'laws.FnOldestKept': WHATEVER THE INPUT: true; the input reads as it did. -/
def fnOldestKeptSpec : ChangeSpec := { name := "fnOldestKept", fn := fun _ => fun
  | [d] => { results := [.lit (.bool true)], args := [d] }
  | _ => none }
def fnOldestKeptRow : OpenClaim := { program := "ytheckdenoomhjaa", sum := "584bd00833f5074b0eca266419ea278839a0a64102335cef210a4a9acbe8d7c0", func := "loop.example/metricstore/laws.FnOldestKept", spec := "fnOldestKept", apart := false }
def FnOldestKeptSaid : Prop := fnOldestKeptRow.holds Try.pinned (OpenSpec.ofChange fnOldestKeptSpec)

/-- ITS FALSE NEIGHBOUR: 'it returns false'. Refute it at one input. -/
def fnOldestKeptWrong : ChangeSpec := { name := "fnOldestKept", fn := fun _ => fun
  | [d] => { results := [.lit (.bool false)], args := [d] }
  | _ => none }
def FnOldestKeptWrongFalsely : Prop := fnOldestKeptRow.holds Try.pinned (OpenSpec.ofChange fnOldestKeptWrong)

/-- 'laws.FnOldestKeptLater': WHATEVER THE INPUT: true; the input reads as it did. -/
def fnOldestKeptLaterSpec : ChangeSpec := { name := "fnOldestKeptLater", fn := fun _ => fun
  | [d] => { results := [.lit (.bool true)], args := [d] }
  | _ => none }
def fnOldestKeptLaterRow : OpenClaim := { program := "ytheckdenoomhjaa", sum := "584bd00833f5074b0eca266419ea278839a0a64102335cef210a4a9acbe8d7c0", func := "loop.example/metricstore/laws.FnOldestKeptLater", spec := "fnOldestKeptLater", apart := false }
def FnOldestKeptLaterSaid : Prop := fnOldestKeptLaterRow.holds Try.pinned (OpenSpec.ofChange fnOldestKeptLaterSpec)

/-- ITS FALSE NEIGHBOUR: 'it returns false'. Refute it at one input. -/
def fnOldestKeptLaterWrong : ChangeSpec := { name := "fnOldestKeptLater", fn := fun _ => fun
  | [d] => { results := [.lit (.bool false)], args := [d] }
  | _ => none }
def FnOldestKeptLaterWrongFalsely : Prop := fnOldestKeptLaterRow.holds Try.pinned (OpenSpec.ofChange fnOldestKeptLaterWrong)

/-- 'laws.FnOldestKeptNow': WHATEVER THE INPUT: true; the input reads as it did. -/
def fnOldestKeptNowSpec : ChangeSpec := { name := "fnOldestKeptNow", fn := fun _ => fun
  | [d] => { results := [.lit (.bool true)], args := [d] }
  | _ => none }
def fnOldestKeptNowRow : OpenClaim := { program := "ytheckdenoomhjaa", sum := "584bd00833f5074b0eca266419ea278839a0a64102335cef210a4a9acbe8d7c0", func := "loop.example/metricstore/laws.FnOldestKeptNow", spec := "fnOldestKeptNow", apart := false }
def FnOldestKeptNowSaid : Prop := fnOldestKeptNowRow.holds Try.pinned (OpenSpec.ofChange fnOldestKeptNowSpec)

/-- ITS FALSE NEIGHBOUR: 'it returns false'. Refute it at one input. -/
def fnOldestKeptNowWrong : ChangeSpec := { name := "fnOldestKeptNow", fn := fun _ => fun
  | [d] => { results := [.lit (.bool false)], args := [d] }
  | _ => none }
def FnOldestKeptNowWrongFalsely : Prop := fnOldestKeptNowRow.holds Try.pinned (OpenSpec.ofChange fnOldestKeptNowWrong)

/-- 'laws.FnTierFor': WHATEVER THE INPUT: true; the input reads as it did. -/
def fnTierForSpec : ChangeSpec := { name := "fnTierFor", fn := fun _ => fun
  | [d] => { results := [.lit (.bool true)], args := [d] }
  | _ => none }
def fnTierForRow : OpenClaim := { program := "ytheckdenoomhjaa", sum := "584bd00833f5074b0eca266419ea278839a0a64102335cef210a4a9acbe8d7c0", func := "loop.example/metricstore/laws.FnTierFor", spec := "fnTierFor", apart := false }
def FnTierForSaid : Prop := fnTierForRow.holds Try.pinned (OpenSpec.ofChange fnTierForSpec)

/-- ITS FALSE NEIGHBOUR: 'it returns false'. Refute it at one input. -/
def fnTierForWrong : ChangeSpec := { name := "fnTierFor", fn := fun _ => fun
  | [d] => { results := [.lit (.bool false)], args := [d] }
  | _ => none }
def FnTierForWrongFalsely : Prop := fnTierForRow.holds Try.pinned (OpenSpec.ofChange fnTierForWrong)

/-- 'laws.FnTierForLater': WHATEVER THE INPUT: true; the input reads as it did. -/
def fnTierForLaterSpec : ChangeSpec := { name := "fnTierForLater", fn := fun _ => fun
  | [d] => { results := [.lit (.bool true)], args := [d] }
  | _ => none }
def fnTierForLaterRow : OpenClaim := { program := "ytheckdenoomhjaa", sum := "584bd00833f5074b0eca266419ea278839a0a64102335cef210a4a9acbe8d7c0", func := "loop.example/metricstore/laws.FnTierForLater", spec := "fnTierForLater", apart := false }
def FnTierForLaterSaid : Prop := fnTierForLaterRow.holds Try.pinned (OpenSpec.ofChange fnTierForLaterSpec)

/-- ITS FALSE NEIGHBOUR: 'it returns false'. Refute it at one input. -/
def fnTierForLaterWrong : ChangeSpec := { name := "fnTierForLater", fn := fun _ => fun
  | [d] => { results := [.lit (.bool false)], args := [d] }
  | _ => none }
def FnTierForLaterWrongFalsely : Prop := fnTierForLaterRow.holds Try.pinned (OpenSpec.ofChange fnTierForLaterWrong)

/-- 'laws.FnTierForNow': WHATEVER THE INPUT: true; the input reads as it did. -/
def fnTierForNowSpec : ChangeSpec := { name := "fnTierForNow", fn := fun _ => fun
  | [d] => { results := [.lit (.bool true)], args := [d] }
  | _ => none }
def fnTierForNowRow : OpenClaim := { program := "ytheckdenoomhjaa", sum := "584bd00833f5074b0eca266419ea278839a0a64102335cef210a4a9acbe8d7c0", func := "loop.example/metricstore/laws.FnTierForNow", spec := "fnTierForNow", apart := false }
def FnTierForNowSaid : Prop := fnTierForNowRow.holds Try.pinned (OpenSpec.ofChange fnTierForNowSpec)

/-- ITS FALSE NEIGHBOUR: 'it returns false'. Refute it at one input. -/
def fnTierForNowWrong : ChangeSpec := { name := "fnTierForNow", fn := fun _ => fun
  | [d] => { results := [.lit (.bool false)], args := [d] }
  | _ => none }
def FnTierForNowWrongFalsely : Prop := fnTierForNowRow.holds Try.pinned (OpenSpec.ofChange fnTierForNowWrong)

/-- 'laws.FnTierCost': WHATEVER THE INPUT: true; the input reads as it did. -/
def fnTierCostSpec : ChangeSpec := { name := "fnTierCost", fn := fun _ => fun
  | [d] => { results := [.lit (.bool true)], args := [d] }
  | _ => none }
def fnTierCostRow : OpenClaim := { program := "ytheckdenoomhjaa", sum := "584bd00833f5074b0eca266419ea278839a0a64102335cef210a4a9acbe8d7c0", func := "loop.example/metricstore/laws.FnTierCost", spec := "fnTierCost", apart := false }
def FnTierCostSaid : Prop := fnTierCostRow.holds Try.pinned (OpenSpec.ofChange fnTierCostSpec)

/-- ITS FALSE NEIGHBOUR: 'it returns false'. Refute it at one input. -/
def fnTierCostWrong : ChangeSpec := { name := "fnTierCost", fn := fun _ => fun
  | [d] => { results := [.lit (.bool false)], args := [d] }
  | _ => none }
def FnTierCostWrongFalsely : Prop := fnTierCostRow.holds Try.pinned (OpenSpec.ofChange fnTierCostWrong)

/- THE SECOND FORM. 'bulk': how many values and letters a reading holds, each counted each time it is reached (what is shared counts as often as it is met; a slice's spare places count too). A statement '..UptoSaid' is the law's where the arguments, and the package variables that the reading takes, are together of bulk at most 1048576: NARROWER than '..Said'. Prove '..Said' where nothing that the law and all that it calls make is longer than what came in: it says more and counts as full. Else prove '..UptoSaid'. A law counts once. -/
mutual
def uptoBulk {H : Type} : DataW H → Nat
  | .lit (.string bytes) => bytes.length + 1
  | .lit _ => 1
  | .nil => 1
  | .ptr d => uptoBulk d + 1
  | .slice elems spare => uptoBulkAll elems + uptoBulkAll spare + 1
  | .agg parts => uptoBulkAll parts + 1
  | .iface _ d => uptoBulk d + 1
  | .map entries => uptoBulkEntries entries + 1
  | .held _ => 1
def uptoBulkAll {H : Type} : List (DataW H) → Nat
  | [] => 0
  | d :: r => uptoBulk d + uptoBulkAll r
def uptoBulkEntries {H : Type} : List (Lit × DataW H) → Nat
  | [] => 0
  | x :: r => uptoBulkEntry x + uptoBulkEntries r
def uptoBulkEntry {H : Type} : Lit × DataW H → Nat
  | (.string bytes, d) => bytes.length + uptoBulk d + 1
  | (_, d) => uptoBulk d + 1
 end
def uptoSmall : (H : Type) → List (DataW H) → Bool := fun _ ds => decide (uptoBulkAll ds ≤ 1048576)
def OpenSpec.upto (s : _root_.Go.ChangeSpec) : _root_.Go.OpenSpec := { _root_.Go.OpenSpec.ofChange s with cond := some uptoSmall }

/-- 'laws.FnValidTiers', WHERE WHAT IT READS IS OF BULK AT MOST 1048576: true; the input reads as it did. -/
def fnValidTiersUptoRow : OpenClaim := { program := "ytheckdenoomhjaa", sum := "584bd00833f5074b0eca266419ea278839a0a64102335cef210a4a9acbe8d7c0", func := "loop.example/metricstore/laws.FnValidTiers", spec := "fnValidTiers", apart := false, narrowed := true }
def FnValidTiersUptoSaid : Prop := fnValidTiersUptoRow.holds Try.pinned (OpenSpec.upto fnValidTiersSpec)

/-- 'laws.FnExactValidTiers', WHERE WHAT IT READS IS OF BULK AT MOST 1048576: true; the input reads as it did. -/
def fnExactValidTiersUptoRow : OpenClaim := { program := "ytheckdenoomhjaa", sum := "584bd00833f5074b0eca266419ea278839a0a64102335cef210a4a9acbe8d7c0", func := "loop.example/metricstore/laws.FnExactValidTiers", spec := "fnExactValidTiers", apart := false, narrowed := true }
def FnExactValidTiersUptoSaid : Prop := fnExactValidTiersUptoRow.holds Try.pinned (OpenSpec.upto fnExactValidTiersSpec)

/-- 'laws.FnExactTierFor', WHERE WHAT IT READS IS OF BULK AT MOST 1048576: true; the input reads as it did. -/
def fnExactTierForUptoRow : OpenClaim := { program := "ytheckdenoomhjaa", sum := "584bd00833f5074b0eca266419ea278839a0a64102335cef210a4a9acbe8d7c0", func := "loop.example/metricstore/laws.FnExactTierFor", spec := "fnExactTierFor", apart := false, narrowed := true }
def FnExactTierForUptoSaid : Prop := fnExactTierForUptoRow.holds Try.pinned (OpenSpec.upto fnExactTierForSpec)

/-- 'laws.FnExactTierCost', WHERE WHAT IT READS IS OF BULK AT MOST 1048576: true; the input reads as it did. -/
def fnExactTierCostUptoRow : OpenClaim := { program := "ytheckdenoomhjaa", sum := "584bd00833f5074b0eca266419ea278839a0a64102335cef210a4a9acbe8d7c0", func := "loop.example/metricstore/laws.FnExactTierCost", spec := "fnExactTierCost", apart := false, narrowed := true }
def FnExactTierCostUptoSaid : Prop := fnExactTierCostUptoRow.holds Try.pinned (OpenSpec.upto fnExactTierCostSpec)

/-- 'laws.FnOldestKept', WHERE WHAT IT READS IS OF BULK AT MOST 1048576: true; the input reads as it did. -/
def fnOldestKeptUptoRow : OpenClaim := { program := "ytheckdenoomhjaa", sum := "584bd00833f5074b0eca266419ea278839a0a64102335cef210a4a9acbe8d7c0", func := "loop.example/metricstore/laws.FnOldestKept", spec := "fnOldestKept", apart := false, narrowed := true }
def FnOldestKeptUptoSaid : Prop := fnOldestKeptUptoRow.holds Try.pinned (OpenSpec.upto fnOldestKeptSpec)

/-- 'laws.FnOldestKeptLater', WHERE WHAT IT READS IS OF BULK AT MOST 1048576: true; the input reads as it did. -/
def fnOldestKeptLaterUptoRow : OpenClaim := { program := "ytheckdenoomhjaa", sum := "584bd00833f5074b0eca266419ea278839a0a64102335cef210a4a9acbe8d7c0", func := "loop.example/metricstore/laws.FnOldestKeptLater", spec := "fnOldestKeptLater", apart := false, narrowed := true }
def FnOldestKeptLaterUptoSaid : Prop := fnOldestKeptLaterUptoRow.holds Try.pinned (OpenSpec.upto fnOldestKeptLaterSpec)

/-- 'laws.FnOldestKeptNow', WHERE WHAT IT READS IS OF BULK AT MOST 1048576: true; the input reads as it did. -/
def fnOldestKeptNowUptoRow : OpenClaim := { program := "ytheckdenoomhjaa", sum := "584bd00833f5074b0eca266419ea278839a0a64102335cef210a4a9acbe8d7c0", func := "loop.example/metricstore/laws.FnOldestKeptNow", spec := "fnOldestKeptNow", apart := false, narrowed := true }
def FnOldestKeptNowUptoSaid : Prop := fnOldestKeptNowUptoRow.holds Try.pinned (OpenSpec.upto fnOldestKeptNowSpec)

/-- 'laws.FnTierFor', WHERE WHAT IT READS IS OF BULK AT MOST 1048576: true; the input reads as it did. -/
def fnTierForUptoRow : OpenClaim := { program := "ytheckdenoomhjaa", sum := "584bd00833f5074b0eca266419ea278839a0a64102335cef210a4a9acbe8d7c0", func := "loop.example/metricstore/laws.FnTierFor", spec := "fnTierFor", apart := false, narrowed := true }
def FnTierForUptoSaid : Prop := fnTierForUptoRow.holds Try.pinned (OpenSpec.upto fnTierForSpec)

/-- 'laws.FnTierForLater', WHERE WHAT IT READS IS OF BULK AT MOST 1048576: true; the input reads as it did. -/
def fnTierForLaterUptoRow : OpenClaim := { program := "ytheckdenoomhjaa", sum := "584bd00833f5074b0eca266419ea278839a0a64102335cef210a4a9acbe8d7c0", func := "loop.example/metricstore/laws.FnTierForLater", spec := "fnTierForLater", apart := false, narrowed := true }
def FnTierForLaterUptoSaid : Prop := fnTierForLaterUptoRow.holds Try.pinned (OpenSpec.upto fnTierForLaterSpec)

/-- 'laws.FnTierForNow', WHERE WHAT IT READS IS OF BULK AT MOST 1048576: true; the input reads as it did. -/
def fnTierForNowUptoRow : OpenClaim := { program := "ytheckdenoomhjaa", sum := "584bd00833f5074b0eca266419ea278839a0a64102335cef210a4a9acbe8d7c0", func := "loop.example/metricstore/laws.FnTierForNow", spec := "fnTierForNow", apart := false, narrowed := true }
def FnTierForNowUptoSaid : Prop := fnTierForNowUptoRow.holds Try.pinned (OpenSpec.upto fnTierForNowSpec)

/-- 'laws.FnTierCost', WHERE WHAT IT READS IS OF BULK AT MOST 1048576: true; the input reads as it did. -/
def fnTierCostUptoRow : OpenClaim := { program := "ytheckdenoomhjaa", sum := "584bd00833f5074b0eca266419ea278839a0a64102335cef210a4a9acbe8d7c0", func := "loop.example/metricstore/laws.FnTierCost", spec := "fnTierCost", apart := false, narrowed := true }
def FnTierCostUptoSaid : Prop := fnTierCostUptoRow.holds Try.pinned (OpenSpec.upto fnTierCostSpec)

end Rows
end Go.Proofs.Ytheckdenoomhjaa
