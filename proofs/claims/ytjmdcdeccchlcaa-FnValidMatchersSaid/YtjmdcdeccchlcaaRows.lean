/-
  No cell of these rows narrows 'for every input' (looked for: loops, veiled, ifaces, maps, wideKeys, modest, calm, conditions, laid).
  DERIVED. THE GIVEN ROWS OF THIS SEAT. 12 by the template 'for every input the law returns true; each argument reads behind the call as it read before'; 0 by the template 'total and deterministic' (their statements: YtjmdcdeccchlcaaTotals.lean).
  GIVEN WITH THE SEED: the statements are not yours to turn. If you find one false, say at which input.
  Laid BY PROGRAM, IN A SANDBOX (cutbox-rows.mjs): the forced cells as the released guide's own fill.sh prints them over the translation eb30d81293dfa816… (all of the seat's roots in one cut). By AI agents, Wed Nov 11 2026. No macro, syntax, notation, axiom, sorry.
-/
import Derived.Test.YtjmdcdeccchlcaaChecked
import GoSem.Claim
import GoSem.ClaimJoined
import GoSem.ClaimMapViews
import Derived.JoinedTies
import Derived.KernelRfl
namespace Go.Proofs.Ytjmdcdeccchlcaa
/- THE CELL 'sum', in the pinned program and in every row, IS THE sha256 OF THE DUMP (.gsa) THAT YtjmdcdeccchlcaaProg.lean LOADS. Nothing in Lean hashes anything: it is a label: what it is worth is what the hold of that sum in a sandbox is worth. -/
noncomputable def Try.pinned : Pinned := { name := "ytjmdcdeccchlcaa", sum := "eb30d81293dfa8165122bc9ddfd905d8db74361712317327d5edd294899c3568", checked := Try.checked }
namespace Rows
def none {H : Type} : Left H := { results := [], args := [] }

/-- 'laws.FnValidMatchers': WHATEVER THE INPUT: true; the input reads as it did. -/
def fnValidMatchersSpec : ChangeSpec := { name := "fnValidMatchers", fn := fun _ => fun
  | [d] => { results := [.lit (.bool true)], args := [d] }
  | _ => none }
def fnValidMatchersRow : OpenClaim := { program := "ytjmdcdeccchlcaa", sum := "eb30d81293dfa8165122bc9ddfd905d8db74361712317327d5edd294899c3568", func := "loop.example/metricstore/laws.FnValidMatchers", spec := "fnValidMatchers", apart := false }
def FnValidMatchersSaid : Prop := fnValidMatchersRow.holds Try.pinned (OpenSpec.ofChange fnValidMatchersSpec)

/-- ITS FALSE NEIGHBOUR: 'it returns false'. Refute it at one input. -/
def fnValidMatchersWrong : ChangeSpec := { name := "fnValidMatchers", fn := fun _ => fun
  | [d] => { results := [.lit (.bool false)], args := [d] }
  | _ => none }
def FnValidMatchersWrongFalsely : Prop := fnValidMatchersRow.holds Try.pinned (OpenSpec.ofChange fnValidMatchersWrong)

/-- 'laws.FnValidLabels': WHATEVER THE INPUT: true; the input reads as it did. -/
def fnValidLabelsSpec : ChangeSpec := { name := "fnValidLabels", fn := fun _ => fun
  | [d] => { results := [.lit (.bool true)], args := [d] }
  | _ => none }
def fnValidLabelsRow : OpenClaim := { program := "ytjmdcdeccchlcaa", sum := "eb30d81293dfa8165122bc9ddfd905d8db74361712317327d5edd294899c3568", func := "loop.example/metricstore/laws.FnValidLabels", spec := "fnValidLabels", apart := false }
def FnValidLabelsSaid : Prop := fnValidLabelsRow.holds Try.pinned (OpenSpec.ofChange fnValidLabelsSpec)

/-- ITS FALSE NEIGHBOUR: 'it returns false'. Refute it at one input. -/
def fnValidLabelsWrong : ChangeSpec := { name := "fnValidLabels", fn := fun _ => fun
  | [d] => { results := [.lit (.bool false)], args := [d] }
  | _ => none }
def FnValidLabelsWrongFalsely : Prop := fnValidLabelsRow.holds Try.pinned (OpenSpec.ofChange fnValidLabelsWrong)

/-- 'laws.FnExactValidLabels': WHATEVER THE INPUT: true; the input reads as it did. -/
def fnExactValidLabelsSpec : ChangeSpec := { name := "fnExactValidLabels", fn := fun _ => fun
  | [d] => { results := [.lit (.bool true)], args := [d] }
  | _ => none }
def fnExactValidLabelsRow : OpenClaim := { program := "ytjmdcdeccchlcaa", sum := "eb30d81293dfa8165122bc9ddfd905d8db74361712317327d5edd294899c3568", func := "loop.example/metricstore/laws.FnExactValidLabels", spec := "fnExactValidLabels", apart := false }
def FnExactValidLabelsSaid : Prop := fnExactValidLabelsRow.holds Try.pinned (OpenSpec.ofChange fnExactValidLabelsSpec)

/-- ITS FALSE NEIGHBOUR: 'it returns false'. Refute it at one input. -/
def fnExactValidLabelsWrong : ChangeSpec := { name := "fnExactValidLabels", fn := fun _ => fun
  | [d] => { results := [.lit (.bool false)], args := [d] }
  | _ => none }
def FnExactValidLabelsWrongFalsely : Prop := fnExactValidLabelsRow.holds Try.pinned (OpenSpec.ofChange fnExactValidLabelsWrong)

/-- 'laws.FnExactValidMatchers': WHATEVER THE INPUT: true; the input reads as it did. -/
def fnExactValidMatchersSpec : ChangeSpec := { name := "fnExactValidMatchers", fn := fun _ => fun
  | [d] => { results := [.lit (.bool true)], args := [d] }
  | _ => none }
def fnExactValidMatchersRow : OpenClaim := { program := "ytjmdcdeccchlcaa", sum := "eb30d81293dfa8165122bc9ddfd905d8db74361712317327d5edd294899c3568", func := "loop.example/metricstore/laws.FnExactValidMatchers", spec := "fnExactValidMatchers", apart := false }
def FnExactValidMatchersSaid : Prop := fnExactValidMatchersRow.holds Try.pinned (OpenSpec.ofChange fnExactValidMatchersSpec)

/-- ITS FALSE NEIGHBOUR: 'it returns false'. Refute it at one input. -/
def fnExactValidMatchersWrong : ChangeSpec := { name := "fnExactValidMatchers", fn := fun _ => fun
  | [d] => { results := [.lit (.bool false)], args := [d] }
  | _ => none }
def FnExactValidMatchersWrongFalsely : Prop := fnExactValidMatchersRow.holds Try.pinned (OpenSpec.ofChange fnExactValidMatchersWrong)

/-- 'laws.FnLabelValue': WHATEVER THE INPUT: true; the input reads as it did. -/
def fnLabelValueSpec : ChangeSpec := { name := "fnLabelValue", fn := fun _ => fun
  | [d] => { results := [.lit (.bool true)], args := [d] }
  | _ => none }
def fnLabelValueRow : OpenClaim := { program := "ytjmdcdeccchlcaa", sum := "eb30d81293dfa8165122bc9ddfd905d8db74361712317327d5edd294899c3568", func := "loop.example/metricstore/laws.FnLabelValue", spec := "fnLabelValue", apart := false }
def FnLabelValueSaid : Prop := fnLabelValueRow.holds Try.pinned (OpenSpec.ofChange fnLabelValueSpec)

/-- ITS FALSE NEIGHBOUR: 'it returns false'. Refute it at one input. -/
def fnLabelValueWrong : ChangeSpec := { name := "fnLabelValue", fn := fun _ => fun
  | [d] => { results := [.lit (.bool false)], args := [d] }
  | _ => none }
def FnLabelValueWrongFalsely : Prop := fnLabelValueRow.holds Try.pinned (OpenSpec.ofChange fnLabelValueWrong)

/-- 'laws.FnExactLabelValue': WHATEVER THE INPUT: true; the input reads as it did. -/
def fnExactLabelValueSpec : ChangeSpec := { name := "fnExactLabelValue", fn := fun _ => fun
  | [d1, d2] => { results := [.lit (.bool true)], args := [d1, d2] }
  | _ => none }
def fnExactLabelValueRow : OpenClaim := { program := "ytjmdcdeccchlcaa", sum := "eb30d81293dfa8165122bc9ddfd905d8db74361712317327d5edd294899c3568", func := "loop.example/metricstore/laws.FnExactLabelValue", spec := "fnExactLabelValue", apart := false }
def FnExactLabelValueSaid : Prop := fnExactLabelValueRow.holds Try.pinned (OpenSpec.ofChange fnExactLabelValueSpec)

/-- ITS FALSE NEIGHBOUR: 'it returns false'. Refute it at one input. -/
def fnExactLabelValueWrong : ChangeSpec := { name := "fnExactLabelValue", fn := fun _ => fun
  | [d1, d2] => { results := [.lit (.bool false)], args := [d1, d2] }
  | _ => none }
def FnExactLabelValueWrongFalsely : Prop := fnExactLabelValueRow.holds Try.pinned (OpenSpec.ofChange fnExactLabelValueWrong)

/-- 'laws.FnKeepLabels': WHATEVER THE INPUT: true; the input reads as it did. -/
def fnKeepLabelsSpec : ChangeSpec := { name := "fnKeepLabels", fn := fun _ => fun
  | [d] => { results := [.lit (.bool true)], args := [d] }
  | _ => none }
def fnKeepLabelsRow : OpenClaim := { program := "ytjmdcdeccchlcaa", sum := "eb30d81293dfa8165122bc9ddfd905d8db74361712317327d5edd294899c3568", func := "loop.example/metricstore/laws.FnKeepLabels", spec := "fnKeepLabels", apart := false }
def FnKeepLabelsSaid : Prop := fnKeepLabelsRow.holds Try.pinned (OpenSpec.ofChange fnKeepLabelsSpec)

/-- ITS FALSE NEIGHBOUR: 'it returns false'. Refute it at one input. -/
def fnKeepLabelsWrong : ChangeSpec := { name := "fnKeepLabels", fn := fun _ => fun
  | [d] => { results := [.lit (.bool false)], args := [d] }
  | _ => none }
def FnKeepLabelsWrongFalsely : Prop := fnKeepLabelsRow.holds Try.pinned (OpenSpec.ofChange fnKeepLabelsWrong)

/-- 'laws.FnKeepLabelsAll': WHATEVER THE INPUT: true; the input reads as it did. -/
def fnKeepLabelsAllSpec : ChangeSpec := { name := "fnKeepLabelsAll", fn := fun _ => fun
  | [d] => { results := [.lit (.bool true)], args := [d] }
  | _ => none }
def fnKeepLabelsAllRow : OpenClaim := { program := "ytjmdcdeccchlcaa", sum := "eb30d81293dfa8165122bc9ddfd905d8db74361712317327d5edd294899c3568", func := "loop.example/metricstore/laws.FnKeepLabelsAll", spec := "fnKeepLabelsAll", apart := false }
def FnKeepLabelsAllSaid : Prop := fnKeepLabelsAllRow.holds Try.pinned (OpenSpec.ofChange fnKeepLabelsAllSpec)

/-- ITS FALSE NEIGHBOUR: 'it returns false'. Refute it at one input. -/
def fnKeepLabelsAllWrong : ChangeSpec := { name := "fnKeepLabelsAll", fn := fun _ => fun
  | [d] => { results := [.lit (.bool false)], args := [d] }
  | _ => none }
def FnKeepLabelsAllWrongFalsely : Prop := fnKeepLabelsAllRow.holds Try.pinned (OpenSpec.ofChange fnKeepLabelsAllWrong)

/-- 'laws.FnKeepLabelsTwice': WHATEVER THE INPUT: true; the input reads as it did. -/
def fnKeepLabelsTwiceSpec : ChangeSpec := { name := "fnKeepLabelsTwice", fn := fun _ => fun
  | [d] => { results := [.lit (.bool true)], args := [d] }
  | _ => none }
def fnKeepLabelsTwiceRow : OpenClaim := { program := "ytjmdcdeccchlcaa", sum := "eb30d81293dfa8165122bc9ddfd905d8db74361712317327d5edd294899c3568", func := "loop.example/metricstore/laws.FnKeepLabelsTwice", spec := "fnKeepLabelsTwice", apart := false }
def FnKeepLabelsTwiceSaid : Prop := fnKeepLabelsTwiceRow.holds Try.pinned (OpenSpec.ofChange fnKeepLabelsTwiceSpec)

/-- ITS FALSE NEIGHBOUR: 'it returns false'. Refute it at one input. -/
def fnKeepLabelsTwiceWrong : ChangeSpec := { name := "fnKeepLabelsTwice", fn := fun _ => fun
  | [d] => { results := [.lit (.bool false)], args := [d] }
  | _ => none }
def FnKeepLabelsTwiceWrongFalsely : Prop := fnKeepLabelsTwiceRow.holds Try.pinned (OpenSpec.ofChange fnKeepLabelsTwiceWrong)

/-- 'laws.FnCompareLabelsThree': WHATEVER THE INPUT: true; the input reads as it did. -/
def fnCompareLabelsThreeSpec : ChangeSpec := { name := "fnCompareLabelsThree", fn := fun _ => fun
  | [d] => { results := [.lit (.bool true)], args := [d] }
  | _ => none }
def fnCompareLabelsThreeRow : OpenClaim := { program := "ytjmdcdeccchlcaa", sum := "eb30d81293dfa8165122bc9ddfd905d8db74361712317327d5edd294899c3568", func := "loop.example/metricstore/laws.FnCompareLabelsThree", spec := "fnCompareLabelsThree", inPlace := ["internal/bytealg.abigen_runtime_cmpstring"], unfollowed := true, recurses := true, apart := false }
def FnCompareLabelsThreeSaid : Prop := fnCompareLabelsThreeRow.holds Try.pinned (OpenSpec.ofChange fnCompareLabelsThreeSpec)

/-- ITS FALSE NEIGHBOUR: 'it returns false'. Refute it at one input. -/
def fnCompareLabelsThreeWrong : ChangeSpec := { name := "fnCompareLabelsThree", fn := fun _ => fun
  | [d] => { results := [.lit (.bool false)], args := [d] }
  | _ => none }
def FnCompareLabelsThreeWrongFalsely : Prop := fnCompareLabelsThreeRow.holds Try.pinned (OpenSpec.ofChange fnCompareLabelsThreeWrong)

/-- 'laws.FnExactCompareLabels': WHATEVER THE INPUT: true; the input reads as it did. -/
def fnExactCompareLabelsSpec : ChangeSpec := { name := "fnExactCompareLabels", fn := fun _ => fun
  | [d1, d2] => { results := [.lit (.bool true)], args := [d1, d2] }
  | _ => none }
def fnExactCompareLabelsRow : OpenClaim := { program := "ytjmdcdeccchlcaa", sum := "eb30d81293dfa8165122bc9ddfd905d8db74361712317327d5edd294899c3568", func := "loop.example/metricstore/laws.FnExactCompareLabels", spec := "fnExactCompareLabels", inPlace := ["internal/bytealg.abigen_runtime_cmpstring"], unfollowed := true, recurses := true, apart := false }
def FnExactCompareLabelsSaid : Prop := fnExactCompareLabelsRow.holds Try.pinned (OpenSpec.ofChange fnExactCompareLabelsSpec)

/-- ITS FALSE NEIGHBOUR: 'it returns false'. Refute it at one input. -/
def fnExactCompareLabelsWrong : ChangeSpec := { name := "fnExactCompareLabels", fn := fun _ => fun
  | [d1, d2] => { results := [.lit (.bool false)], args := [d1, d2] }
  | _ => none }
def FnExactCompareLabelsWrongFalsely : Prop := fnExactCompareLabelsRow.holds Try.pinned (OpenSpec.ofChange fnExactCompareLabelsWrong)

/-- 'laws.FnExactKeepLabels': WHATEVER THE INPUT: true; the input reads as it did. -/
def fnExactKeepLabelsSpec : ChangeSpec := { name := "fnExactKeepLabels", fn := fun _ => fun
  | [d1, d2] => { results := [.lit (.bool true)], args := [d1, d2] }
  | _ => none }
def fnExactKeepLabelsRow : OpenClaim := { program := "ytjmdcdeccchlcaa", sum := "eb30d81293dfa8165122bc9ddfd905d8db74361712317327d5edd294899c3568", func := "loop.example/metricstore/laws.FnExactKeepLabels", spec := "fnExactKeepLabels", apart := false }
def FnExactKeepLabelsSaid : Prop := fnExactKeepLabelsRow.holds Try.pinned (OpenSpec.ofChange fnExactKeepLabelsSpec)

/-- ITS FALSE NEIGHBOUR: 'it returns false'. Refute it at one input. -/
def fnExactKeepLabelsWrong : ChangeSpec := { name := "fnExactKeepLabels", fn := fun _ => fun
  | [d1, d2] => { results := [.lit (.bool false)], args := [d1, d2] }
  | _ => none }
def FnExactKeepLabelsWrongFalsely : Prop := fnExactKeepLabelsRow.holds Try.pinned (OpenSpec.ofChange fnExactKeepLabelsWrong)

/- THE SECOND FORM. 'bulk': how many values and letters a reading holds, each counted each time it is reached (what is shared counts as often as it is met; a slice's spare places count too). A statement '..UptoSaid' is the law's where the arguments, and the package variables that the reading takes, are together of bulk at most 1048576: NARROWER than '..Said'. Prove '..Said' where nothing that the law and all that it calls make is longer than what came in: it says more and counts as full. Else prove '..UptoSaid'. A law counts once. -/
mutual
def uptoBulk {H : Type} : DataW H → Nat
  | .lit (.string bytes) => bytes.length + 1
  | .lit _ => 1
  | .nil => 1
  | .ptr d => uptoBulk d + 1
  | .slice elems spare => uptoBulkAll elems + uptoBulkAll spare + 1
  | .agg parts => uptoBulkAll parts + 1
  | .iface _ d => uptoBulk d + 1
  | .map entries => uptoBulkEntries entries + 1
  | .held _ => 1
def uptoBulkAll {H : Type} : List (DataW H) → Nat
  | [] => 0
  | d :: r => uptoBulk d + uptoBulkAll r
def uptoBulkEntries {H : Type} : List (Lit × DataW H) → Nat
  | [] => 0
  | x :: r => uptoBulkEntry x + uptoBulkEntries r
def uptoBulkEntry {H : Type} : Lit × DataW H → Nat
  | (.string bytes, d) => bytes.length + uptoBulk d + 1
  | (_, d) => uptoBulk d + 1
 end
def uptoSmall : (H : Type) → List (DataW H) → Bool := fun _ ds => decide (uptoBulkAll ds ≤ 1048576)
def OpenSpec.upto (s : _root_.Go.ChangeSpec) : _root_.Go.OpenSpec := { _root_.Go.OpenSpec.ofChange s with cond := some uptoSmall }

/-- 'laws.FnValidMatchers', WHERE WHAT IT READS IS OF BULK AT MOST 1048576: true; the input reads as it did. -/
def fnValidMatchersUptoRow : OpenClaim := { program := "ytjmdcdeccchlcaa", sum := "eb30d81293dfa8165122bc9ddfd905d8db74361712317327d5edd294899c3568", func := "loop.example/metricstore/laws.FnValidMatchers", spec := "fnValidMatchers", apart := false, narrowed := true }
def FnValidMatchersUptoSaid : Prop := fnValidMatchersUptoRow.holds Try.pinned (OpenSpec.upto fnValidMatchersSpec)

/-- 'laws.FnValidLabels', WHERE WHAT IT READS IS OF BULK AT MOST 1048576: true; the input reads as it did. -/
def fnValidLabelsUptoRow : OpenClaim := { program := "ytjmdcdeccchlcaa", sum := "eb30d81293dfa8165122bc9ddfd905d8db74361712317327d5edd294899c3568", func := "loop.example/metricstore/laws.FnValidLabels", spec := "fnValidLabels", apart := false, narrowed := true }
def FnValidLabelsUptoSaid : Prop := fnValidLabelsUptoRow.holds Try.pinned (OpenSpec.upto fnValidLabelsSpec)

/-- 'laws.FnExactValidLabels', WHERE WHAT IT READS IS OF BULK AT MOST 1048576: true; the input reads as it did. -/
def fnExactValidLabelsUptoRow : OpenClaim := { program := "ytjmdcdeccchlcaa", sum := "eb30d81293dfa8165122bc9ddfd905d8db74361712317327d5edd294899c3568", func := "loop.example/metricstore/laws.FnExactValidLabels", spec := "fnExactValidLabels", apart := false, narrowed := true }
def FnExactValidLabelsUptoSaid : Prop := fnExactValidLabelsUptoRow.holds Try.pinned (OpenSpec.upto fnExactValidLabelsSpec)

/-- 'laws.FnExactValidMatchers', WHERE WHAT IT READS IS OF BULK AT MOST 1048576: true; the input reads as it did. -/
def fnExactValidMatchersUptoRow : OpenClaim := { program := "ytjmdcdeccchlcaa", sum := "eb30d81293dfa8165122bc9ddfd905d8db74361712317327d5edd294899c3568", func := "loop.example/metricstore/laws.FnExactValidMatchers", spec := "fnExactValidMatchers", apart := false, narrowed := true }
def FnExactValidMatchersUptoSaid : Prop := fnExactValidMatchersUptoRow.holds Try.pinned (OpenSpec.upto fnExactValidMatchersSpec)

/-- 'laws.FnLabelValue', WHERE WHAT IT READS IS OF BULK AT MOST 1048576: true; the input reads as it did. -/
def fnLabelValueUptoRow : OpenClaim := { program := "ytjmdcdeccchlcaa", sum := "eb30d81293dfa8165122bc9ddfd905d8db74361712317327d5edd294899c3568", func := "loop.example/metricstore/laws.FnLabelValue", spec := "fnLabelValue", apart := false, narrowed := true }
def FnLabelValueUptoSaid : Prop := fnLabelValueUptoRow.holds Try.pinned (OpenSpec.upto fnLabelValueSpec)

/-- 'laws.FnExactLabelValue', WHERE WHAT IT READS IS OF BULK AT MOST 1048576: true; the input reads as it did. -/
def fnExactLabelValueUptoRow : OpenClaim := { program := "ytjmdcdeccchlcaa", sum := "eb30d81293dfa8165122bc9ddfd905d8db74361712317327d5edd294899c3568", func := "loop.example/metricstore/laws.FnExactLabelValue", spec := "fnExactLabelValue", apart := false, narrowed := true }
def FnExactLabelValueUptoSaid : Prop := fnExactLabelValueUptoRow.holds Try.pinned (OpenSpec.upto fnExactLabelValueSpec)

/-- 'laws.FnKeepLabels', WHERE WHAT IT READS IS OF BULK AT MOST 1048576: true; the input reads as it did. -/
def fnKeepLabelsUptoRow : OpenClaim := { program := "ytjmdcdeccchlcaa", sum := "eb30d81293dfa8165122bc9ddfd905d8db74361712317327d5edd294899c3568", func := "loop.example/metricstore/laws.FnKeepLabels", spec := "fnKeepLabels", apart := false, narrowed := true }
def FnKeepLabelsUptoSaid : Prop := fnKeepLabelsUptoRow.holds Try.pinned (OpenSpec.upto fnKeepLabelsSpec)

/-- 'laws.FnKeepLabelsAll', WHERE WHAT IT READS IS OF BULK AT MOST 1048576: true; the input reads as it did. -/
def fnKeepLabelsAllUptoRow : OpenClaim := { program := "ytjmdcdeccchlcaa", sum := "eb30d81293dfa8165122bc9ddfd905d8db74361712317327d5edd294899c3568", func := "loop.example/metricstore/laws.FnKeepLabelsAll", spec := "fnKeepLabelsAll", apart := false, narrowed := true }
def FnKeepLabelsAllUptoSaid : Prop := fnKeepLabelsAllUptoRow.holds Try.pinned (OpenSpec.upto fnKeepLabelsAllSpec)

/-- 'laws.FnKeepLabelsTwice', WHERE WHAT IT READS IS OF BULK AT MOST 1048576: true; the input reads as it did. -/
def fnKeepLabelsTwiceUptoRow : OpenClaim := { program := "ytjmdcdeccchlcaa", sum := "eb30d81293dfa8165122bc9ddfd905d8db74361712317327d5edd294899c3568", func := "loop.example/metricstore/laws.FnKeepLabelsTwice", spec := "fnKeepLabelsTwice", apart := false, narrowed := true }
def FnKeepLabelsTwiceUptoSaid : Prop := fnKeepLabelsTwiceUptoRow.holds Try.pinned (OpenSpec.upto fnKeepLabelsTwiceSpec)

/-- 'laws.FnCompareLabelsThree', WHERE WHAT IT READS IS OF BULK AT MOST 1048576: true; the input reads as it did. -/
def fnCompareLabelsThreeUptoRow : OpenClaim := { program := "ytjmdcdeccchlcaa", sum := "eb30d81293dfa8165122bc9ddfd905d8db74361712317327d5edd294899c3568", func := "loop.example/metricstore/laws.FnCompareLabelsThree", spec := "fnCompareLabelsThree", inPlace := ["internal/bytealg.abigen_runtime_cmpstring"], unfollowed := true, recurses := true, apart := false, narrowed := true }
def FnCompareLabelsThreeUptoSaid : Prop := fnCompareLabelsThreeUptoRow.holds Try.pinned (OpenSpec.upto fnCompareLabelsThreeSpec)

/-- 'laws.FnExactCompareLabels', WHERE WHAT IT READS IS OF BULK AT MOST 1048576: true; the input reads as it did. -/
def fnExactCompareLabelsUptoRow : OpenClaim := { program := "ytjmdcdeccchlcaa", sum := "eb30d81293dfa8165122bc9ddfd905d8db74361712317327d5edd294899c3568", func := "loop.example/metricstore/laws.FnExactCompareLabels", spec := "fnExactCompareLabels", inPlace := ["internal/bytealg.abigen_runtime_cmpstring"], unfollowed := true, recurses := true, apart := false, narrowed := true }
def FnExactCompareLabelsUptoSaid : Prop := fnExactCompareLabelsUptoRow.holds Try.pinned (OpenSpec.upto fnExactCompareLabelsSpec)

/-- 'laws.FnExactKeepLabels', WHERE WHAT IT READS IS OF BULK AT MOST 1048576: true; the input reads as it did. -/
def fnExactKeepLabelsUptoRow : OpenClaim := { program := "ytjmdcdeccchlcaa", sum := "eb30d81293dfa8165122bc9ddfd905d8db74361712317327d5edd294899c3568", func := "loop.example/metricstore/laws.FnExactKeepLabels", spec := "fnExactKeepLabels", apart := false, narrowed := true }
def FnExactKeepLabelsUptoSaid : Prop := fnExactKeepLabelsUptoRow.holds Try.pinned (OpenSpec.upto fnExactKeepLabelsSpec)

end Rows
end Go.Proofs.Ytjmdcdeccchlcaa
