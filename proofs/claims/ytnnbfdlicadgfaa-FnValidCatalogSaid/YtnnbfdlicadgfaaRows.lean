/-
  No cell of these rows narrows 'for every input' (looked for: loops, veiled, ifaces, maps, wideKeys, modest, calm, conditions, laid).
  DERIVED. THE GIVEN ROWS OF THIS SEAT. 12 by the template 'for every input the law returns true; each argument reads behind the call as it read before'; 0 by the template 'total and deterministic' (their statements: YtnnbfdlicadgfaaTotals.lean).
  GIVEN WITH THE SEED: the statements are not yours to turn. If you find one false, say at which input.
  Laid BY PROGRAM, IN A SANDBOX (cutbox-rows.mjs): the forced cells as the released guide's own fill.sh prints them over the translation 898a7534885b2b43… (all of the seat's roots in one cut). By AI agents, Wed Nov 11 2026. No macro, syntax, notation, axiom, sorry.
-/
import Derived.Test.YtnnbfdlicadgfaaChecked
import GoSem.Claim
import GoSem.ClaimJoined
import GoSem.ClaimMapViews
import Derived.JoinedTies
import Derived.KernelRfl
namespace Go.Proofs.Ytnnbfdlicadgfaa
/- THE CELL 'sum', in the pinned program and in every row, IS THE sha256 OF THE DUMP (.gsa) THAT YtnnbfdlicadgfaaProg.lean LOADS. Nothing in Lean hashes anything: it is a label: what it is worth is what the hold of that sum in a sandbox is worth. -/
noncomputable def Try.pinned : Pinned := { name := "ytnnbfdlicadgfaa", sum := "898a7534885b2b43fd1a6341a22595a3b53d891aad396b7f822e3ee5af2a2281", checked := Try.checked }
namespace Rows
def none {H : Type} : Left H := { results := [], args := [] }

/-- 'laws.FnMatchesAll': WHATEVER THE INPUT: true; the input reads as it did. -/
def fnMatchesAllSpec : ChangeSpec := { name := "fnMatchesAll", fn := fun _ => fun
  | [d] => { results := [.lit (.bool true)], args := [d] }
  | _ => none }
def fnMatchesAllRow : OpenClaim := { program := "ytnnbfdlicadgfaa", sum := "898a7534885b2b43fd1a6341a22595a3b53d891aad396b7f822e3ee5af2a2281", func := "loop.example/metricstore/laws.FnMatchesAll", spec := "fnMatchesAll", apart := false }
def FnMatchesAllSaid : Prop := fnMatchesAllRow.holds Try.pinned (OpenSpec.ofChange fnMatchesAllSpec)

/-- ITS FALSE NEIGHBOUR: 'it returns false'. Refute it at one input. -/
def fnMatchesAllWrong : ChangeSpec := { name := "fnMatchesAll", fn := fun _ => fun
  | [d] => { results := [.lit (.bool false)], args := [d] }
  | _ => none }
def FnMatchesAllWrongFalsely : Prop := fnMatchesAllRow.holds Try.pinned (OpenSpec.ofChange fnMatchesAllWrong)

/-- 'laws.FnMatchesAllNot': WHATEVER THE INPUT: true; the input reads as it did. -/
def fnMatchesAllNotSpec : ChangeSpec := { name := "fnMatchesAllNot", fn := fun _ => fun
  | [d] => { results := [.lit (.bool true)], args := [d] }
  | _ => none }
def fnMatchesAllNotRow : OpenClaim := { program := "ytnnbfdlicadgfaa", sum := "898a7534885b2b43fd1a6341a22595a3b53d891aad396b7f822e3ee5af2a2281", func := "loop.example/metricstore/laws.FnMatchesAllNot", spec := "fnMatchesAllNot", apart := false }
def FnMatchesAllNotSaid : Prop := fnMatchesAllNotRow.holds Try.pinned (OpenSpec.ofChange fnMatchesAllNotSpec)

/-- ITS FALSE NEIGHBOUR: 'it returns false'. Refute it at one input. -/
def fnMatchesAllNotWrong : ChangeSpec := { name := "fnMatchesAllNot", fn := fun _ => fun
  | [d] => { results := [.lit (.bool false)], args := [d] }
  | _ => none }
def FnMatchesAllNotWrongFalsely : Prop := fnMatchesAllNotRow.holds Try.pinned (OpenSpec.ofChange fnMatchesAllNotWrong)

/-- 'laws.FnMatchesAllValue': WHATEVER THE INPUT: true; the input reads as it did. -/
def fnMatchesAllValueSpec : ChangeSpec := { name := "fnMatchesAllValue", fn := fun _ => fun
  | [d] => { results := [.lit (.bool true)], args := [d] }
  | _ => none }
def fnMatchesAllValueRow : OpenClaim := { program := "ytnnbfdlicadgfaa", sum := "898a7534885b2b43fd1a6341a22595a3b53d891aad396b7f822e3ee5af2a2281", func := "loop.example/metricstore/laws.FnMatchesAllValue", spec := "fnMatchesAllValue", apart := false }
def FnMatchesAllValueSaid : Prop := fnMatchesAllValueRow.holds Try.pinned (OpenSpec.ofChange fnMatchesAllValueSpec)

/-- ITS FALSE NEIGHBOUR: 'it returns false'. Refute it at one input. -/
def fnMatchesAllValueWrong : ChangeSpec := { name := "fnMatchesAllValue", fn := fun _ => fun
  | [d] => { results := [.lit (.bool false)], args := [d] }
  | _ => none }
def FnMatchesAllValueWrongFalsely : Prop := fnMatchesAllValueRow.holds Try.pinned (OpenSpec.ofChange fnMatchesAllValueWrong)

/-- 'laws.FnCompareLabels': WHATEVER THE INPUT: true; the input reads as it did. -/
def fnCompareLabelsSpec : ChangeSpec := { name := "fnCompareLabels", fn := fun _ => fun
  | [d] => { results := [.lit (.bool true)], args := [d] }
  | _ => none }
def fnCompareLabelsRow : OpenClaim := { program := "ytnnbfdlicadgfaa", sum := "898a7534885b2b43fd1a6341a22595a3b53d891aad396b7f822e3ee5af2a2281", func := "loop.example/metricstore/laws.FnCompareLabels", spec := "fnCompareLabels", inPlace := ["internal/bytealg.abigen_runtime_cmpstring"], unfollowed := true, recurses := true, apart := false }
def FnCompareLabelsSaid : Prop := fnCompareLabelsRow.holds Try.pinned (OpenSpec.ofChange fnCompareLabelsSpec)

/-- ITS FALSE NEIGHBOUR: 'it returns false'. Refute it at one input. -/
def fnCompareLabelsWrong : ChangeSpec := { name := "fnCompareLabels", fn := fun _ => fun
  | [d] => { results := [.lit (.bool false)], args := [d] }
  | _ => none }
def FnCompareLabelsWrongFalsely : Prop := fnCompareLabelsRow.holds Try.pinned (OpenSpec.ofChange fnCompareLabelsWrong)

/-- 'laws.FnValidCatalog': WHATEVER THE INPUT: true; the input reads as it did. -/
def fnValidCatalogSpec : ChangeSpec := { name := "fnValidCatalog", fn := fun _ => fun
  | [d] => { results := [.lit (.bool true)], args := [d] }
  | _ => none }
def fnValidCatalogRow : OpenClaim := { program := "ytnnbfdlicadgfaa", sum := "898a7534885b2b43fd1a6341a22595a3b53d891aad396b7f822e3ee5af2a2281", func := "loop.example/metricstore/laws.FnValidCatalog", spec := "fnValidCatalog", unfollowed := true, recurses := true, apart := false }
def FnValidCatalogSaid : Prop := fnValidCatalogRow.holds Try.pinned (OpenSpec.ofChange fnValidCatalogSpec)

/-- ITS FALSE NEIGHBOUR: 'it returns false'. Refute it at one input. -/
def fnValidCatalogWrong : ChangeSpec := { name := "fnValidCatalog", fn := fun _ => fun
  | [d] => { results := [.lit (.bool false)], args := [d] }
  | _ => none }
def FnValidCatalogWrongFalsely : Prop := fnValidCatalogRow.holds Try.pinned (OpenSpec.ofChange fnValidCatalogWrong)

/-- 'laws.FnExactValidCatalog': WHATEVER THE INPUT: true; the input reads as it did. -/
def fnExactValidCatalogSpec : ChangeSpec := { name := "fnExactValidCatalog", fn := fun _ => fun
  | [d] => { results := [.lit (.bool true)], args := [d] }
  | _ => none }
def fnExactValidCatalogRow : OpenClaim := { program := "ytnnbfdlicadgfaa", sum := "898a7534885b2b43fd1a6341a22595a3b53d891aad396b7f822e3ee5af2a2281", func := "loop.example/metricstore/laws.FnExactValidCatalog", spec := "fnExactValidCatalog", unfollowed := true, recurses := true, apart := false }
def FnExactValidCatalogSaid : Prop := fnExactValidCatalogRow.holds Try.pinned (OpenSpec.ofChange fnExactValidCatalogSpec)

/-- ITS FALSE NEIGHBOUR: 'it returns false'. Refute it at one input. -/
def fnExactValidCatalogWrong : ChangeSpec := { name := "fnExactValidCatalog", fn := fun _ => fun
  | [d] => { results := [.lit (.bool false)], args := [d] }
  | _ => none }
def FnExactValidCatalogWrongFalsely : Prop := fnExactValidCatalogRow.holds Try.pinned (OpenSpec.ofChange fnExactValidCatalogWrong)

/-- 'laws.FnExactFindSeries': WHATEVER THE INPUT: true; the input reads as it did. -/
def fnExactFindSeriesSpec : ChangeSpec := { name := "fnExactFindSeries", fn := fun _ => fun
  | [d1, d2] => { results := [.lit (.bool true)], args := [d1, d2] }
  | _ => none }
def fnExactFindSeriesRow : OpenClaim := { program := "ytnnbfdlicadgfaa", sum := "898a7534885b2b43fd1a6341a22595a3b53d891aad396b7f822e3ee5af2a2281", func := "loop.example/metricstore/laws.FnExactFindSeries", spec := "fnExactFindSeries", unfollowed := true, recurses := true, apart := false }
def FnExactFindSeriesSaid : Prop := fnExactFindSeriesRow.holds Try.pinned (OpenSpec.ofChange fnExactFindSeriesSpec)

/-- ITS FALSE NEIGHBOUR: 'it returns false'. Refute it at one input. -/
def fnExactFindSeriesWrong : ChangeSpec := { name := "fnExactFindSeries", fn := fun _ => fun
  | [d1, d2] => { results := [.lit (.bool false)], args := [d1, d2] }
  | _ => none }
def FnExactFindSeriesWrongFalsely : Prop := fnExactFindSeriesRow.holds Try.pinned (OpenSpec.ofChange fnExactFindSeriesWrong)

/-- 'laws.FnExactMatchesAll': WHATEVER THE INPUT: true; the input reads as it did. -/
def fnExactMatchesAllSpec : ChangeSpec := { name := "fnExactMatchesAll", fn := fun _ => fun
  | [d1, d2] => { results := [.lit (.bool true)], args := [d1, d2] }
  | _ => none }
def fnExactMatchesAllRow : OpenClaim := { program := "ytnnbfdlicadgfaa", sum := "898a7534885b2b43fd1a6341a22595a3b53d891aad396b7f822e3ee5af2a2281", func := "loop.example/metricstore/laws.FnExactMatchesAll", spec := "fnExactMatchesAll", apart := false }
def FnExactMatchesAllSaid : Prop := fnExactMatchesAllRow.holds Try.pinned (OpenSpec.ofChange fnExactMatchesAllSpec)

/-- ITS FALSE NEIGHBOUR: 'it returns false'. Refute it at one input. -/
def fnExactMatchesAllWrong : ChangeSpec := { name := "fnExactMatchesAll", fn := fun _ => fun
  | [d1, d2] => { results := [.lit (.bool false)], args := [d1, d2] }
  | _ => none }
def FnExactMatchesAllWrongFalsely : Prop := fnExactMatchesAllRow.holds Try.pinned (OpenSpec.ofChange fnExactMatchesAllWrong)

/-- 'laws.FnFindSeries': WHATEVER THE INPUT: true; the input reads as it did. -/
def fnFindSeriesSpec : ChangeSpec := { name := "fnFindSeries", fn := fun _ => fun
  | [d] => { results := [.lit (.bool true)], args := [d] }
  | _ => none }
def fnFindSeriesRow : OpenClaim := { program := "ytnnbfdlicadgfaa", sum := "898a7534885b2b43fd1a6341a22595a3b53d891aad396b7f822e3ee5af2a2281", func := "loop.example/metricstore/laws.FnFindSeries", spec := "fnFindSeries", unfollowed := true, recurses := true, apart := false }
def FnFindSeriesSaid : Prop := fnFindSeriesRow.holds Try.pinned (OpenSpec.ofChange fnFindSeriesSpec)

/-- ITS FALSE NEIGHBOUR: 'it returns false'. Refute it at one input. -/
def fnFindSeriesWrong : ChangeSpec := { name := "fnFindSeries", fn := fun _ => fun
  | [d] => { results := [.lit (.bool false)], args := [d] }
  | _ => none }
def FnFindSeriesWrongFalsely : Prop := fnFindSeriesRow.holds Try.pinned (OpenSpec.ofChange fnFindSeriesWrong)

/-- 'laws.FnFindSeriesNone': WHATEVER THE INPUT: true; the input reads as it did. -/
def fnFindSeriesNoneSpec : ChangeSpec := { name := "fnFindSeriesNone", fn := fun _ => fun
  | [d] => { results := [.lit (.bool true)], args := [d] }
  | _ => none }
def fnFindSeriesNoneRow : OpenClaim := { program := "ytnnbfdlicadgfaa", sum := "898a7534885b2b43fd1a6341a22595a3b53d891aad396b7f822e3ee5af2a2281", func := "loop.example/metricstore/laws.FnFindSeriesNone", spec := "fnFindSeriesNone", unfollowed := true, recurses := true, apart := false }
def FnFindSeriesNoneSaid : Prop := fnFindSeriesNoneRow.holds Try.pinned (OpenSpec.ofChange fnFindSeriesNoneSpec)

/-- ITS FALSE NEIGHBOUR: 'it returns false'. Refute it at one input. -/
def fnFindSeriesNoneWrong : ChangeSpec := { name := "fnFindSeriesNone", fn := fun _ => fun
  | [d] => { results := [.lit (.bool false)], args := [d] }
  | _ => none }
def FnFindSeriesNoneWrongFalsely : Prop := fnFindSeriesNoneRow.holds Try.pinned (OpenSpec.ofChange fnFindSeriesNoneWrong)

/-- 'laws.FnPostingsAll': WHATEVER THE INPUT: true; the input reads as it did. -/
def fnPostingsAllSpec : ChangeSpec := { name := "fnPostingsAll", fn := fun _ => fun
  | [d] => { results := [.lit (.bool true)], args := [d] }
  | _ => none }
def fnPostingsAllRow : OpenClaim := { program := "ytnnbfdlicadgfaa", sum := "898a7534885b2b43fd1a6341a22595a3b53d891aad396b7f822e3ee5af2a2281", func := "loop.example/metricstore/laws.FnPostingsAll", spec := "fnPostingsAll", unfollowed := true, recurses := true, apart := false }
def FnPostingsAllSaid : Prop := fnPostingsAllRow.holds Try.pinned (OpenSpec.ofChange fnPostingsAllSpec)

/-- ITS FALSE NEIGHBOUR: 'it returns false'. Refute it at one input. -/
def fnPostingsAllWrong : ChangeSpec := { name := "fnPostingsAll", fn := fun _ => fun
  | [d] => { results := [.lit (.bool false)], args := [d] }
  | _ => none }
def FnPostingsAllWrongFalsely : Prop := fnPostingsAllRow.holds Try.pinned (OpenSpec.ofChange fnPostingsAllWrong)

/-- 'laws.FnPostings': WHATEVER THE INPUT: true; the input reads as it did. -/
def fnPostingsSpec : ChangeSpec := { name := "fnPostings", fn := fun _ => fun
  | [d] => { results := [.lit (.bool true)], args := [d] }
  | _ => none }
def fnPostingsRow : OpenClaim := { program := "ytnnbfdlicadgfaa", sum := "898a7534885b2b43fd1a6341a22595a3b53d891aad396b7f822e3ee5af2a2281", func := "loop.example/metricstore/laws.FnPostings", spec := "fnPostings", unfollowed := true, recurses := true, apart := false }
def FnPostingsSaid : Prop := fnPostingsRow.holds Try.pinned (OpenSpec.ofChange fnPostingsSpec)

/-- ITS FALSE NEIGHBOUR: 'it returns false'. Refute it at one input. -/
def fnPostingsWrong : ChangeSpec := { name := "fnPostings", fn := fun _ => fun
  | [d] => { results := [.lit (.bool false)], args := [d] }
  | _ => none }
def FnPostingsWrongFalsely : Prop := fnPostingsRow.holds Try.pinned (OpenSpec.ofChange fnPostingsWrong)

/- THE SECOND FORM. 'bulk': how many values and letters a reading holds, each counted each time it is reached (what is shared counts as often as it is met; a slice's spare places count too). A statement '..UptoSaid' is the law's where the arguments, and the package variables that the reading takes, are together of bulk at most 1048576: NARROWER than '..Said'. Prove '..Said' where nothing that the law and all that it calls make is longer than what came in: it says more and counts as full. Else prove '..UptoSaid'. A law counts once. -/
mutual
def uptoBulk {H : Type} : DataW H → Nat
  | .lit (.string bytes) => bytes.length + 1
  | .lit _ => 1
  | .nil => 1
  | .ptr d => uptoBulk d + 1
  | .slice elems spare => uptoBulkAll elems + uptoBulkAll spare + 1
  | .agg parts => uptoBulkAll parts + 1
  | .iface _ d => uptoBulk d + 1
  | .map entries => uptoBulkEntries entries + 1
  | .held _ => 1
def uptoBulkAll {H : Type} : List (DataW H) → Nat
  | [] => 0
  | d :: r => uptoBulk d + uptoBulkAll r
def uptoBulkEntries {H : Type} : List (Lit × DataW H) → Nat
  | [] => 0
  | x :: r => uptoBulkEntry x + uptoBulkEntries r
def uptoBulkEntry {H : Type} : Lit × DataW H → Nat
  | (.string bytes, d) => bytes.length + uptoBulk d + 1
  | (_, d) => uptoBulk d + 1
 end
def uptoSmall : (H : Type) → List (DataW H) → Bool := fun _ ds => decide (uptoBulkAll ds ≤ 1048576)
def OpenSpec.upto (s : _root_.Go.ChangeSpec) : _root_.Go.OpenSpec := { _root_.Go.OpenSpec.ofChange s with cond := some uptoSmall }

/-- 'laws.FnMatchesAll', WHERE WHAT IT READS IS OF BULK AT MOST 1048576: true; the input reads as it did. -/
def fnMatchesAllUptoRow : OpenClaim := { program := "ytnnbfdlicadgfaa", sum := "898a7534885b2b43fd1a6341a22595a3b53d891aad396b7f822e3ee5af2a2281", func := "loop.example/metricstore/laws.FnMatchesAll", spec := "fnMatchesAll", apart := false, narrowed := true }
def FnMatchesAllUptoSaid : Prop := fnMatchesAllUptoRow.holds Try.pinned (OpenSpec.upto fnMatchesAllSpec)

/-- 'laws.FnMatchesAllNot', WHERE WHAT IT READS IS OF BULK AT MOST 1048576: true; the input reads as it did. -/
def fnMatchesAllNotUptoRow : OpenClaim := { program := "ytnnbfdlicadgfaa", sum := "898a7534885b2b43fd1a6341a22595a3b53d891aad396b7f822e3ee5af2a2281", func := "loop.example/metricstore/laws.FnMatchesAllNot", spec := "fnMatchesAllNot", apart := false, narrowed := true }
def FnMatchesAllNotUptoSaid : Prop := fnMatchesAllNotUptoRow.holds Try.pinned (OpenSpec.upto fnMatchesAllNotSpec)

/-- 'laws.FnMatchesAllValue', WHERE WHAT IT READS IS OF BULK AT MOST 1048576: true; the input reads as it did. -/
def fnMatchesAllValueUptoRow : OpenClaim := { program := "ytnnbfdlicadgfaa", sum := "898a7534885b2b43fd1a6341a22595a3b53d891aad396b7f822e3ee5af2a2281", func := "loop.example/metricstore/laws.FnMatchesAllValue", spec := "fnMatchesAllValue", apart := false, narrowed := true }
def FnMatchesAllValueUptoSaid : Prop := fnMatchesAllValueUptoRow.holds Try.pinned (OpenSpec.upto fnMatchesAllValueSpec)

/-- 'laws.FnCompareLabels', WHERE WHAT IT READS IS OF BULK AT MOST 1048576: true; the input reads as it did. -/
def fnCompareLabelsUptoRow : OpenClaim := { program := "ytnnbfdlicadgfaa", sum := "898a7534885b2b43fd1a6341a22595a3b53d891aad396b7f822e3ee5af2a2281", func := "loop.example/metricstore/laws.FnCompareLabels", spec := "fnCompareLabels", inPlace := ["internal/bytealg.abigen_runtime_cmpstring"], unfollowed := true, recurses := true, apart := false, narrowed := true }
def FnCompareLabelsUptoSaid : Prop := fnCompareLabelsUptoRow.holds Try.pinned (OpenSpec.upto fnCompareLabelsSpec)

/-- 'laws.FnValidCatalog', WHERE WHAT IT READS IS OF BULK AT MOST 1048576: true; the input reads as it did. -/
def fnValidCatalogUptoRow : OpenClaim := { program := "ytnnbfdlicadgfaa", sum := "898a7534885b2b43fd1a6341a22595a3b53d891aad396b7f822e3ee5af2a2281", func := "loop.example/metricstore/laws.FnValidCatalog", spec := "fnValidCatalog", unfollowed := true, recurses := true, apart := false, narrowed := true }
def FnValidCatalogUptoSaid : Prop := fnValidCatalogUptoRow.holds Try.pinned (OpenSpec.upto fnValidCatalogSpec)

/-- 'laws.FnExactValidCatalog', WHERE WHAT IT READS IS OF BULK AT MOST 1048576: true; the input reads as it did. -/
def fnExactValidCatalogUptoRow : OpenClaim := { program := "ytnnbfdlicadgfaa", sum := "898a7534885b2b43fd1a6341a22595a3b53d891aad396b7f822e3ee5af2a2281", func := "loop.example/metricstore/laws.FnExactValidCatalog", spec := "fnExactValidCatalog", unfollowed := true, recurses := true, apart := false, narrowed := true }
def FnExactValidCatalogUptoSaid : Prop := fnExactValidCatalogUptoRow.holds Try.pinned (OpenSpec.upto fnExactValidCatalogSpec)

/-- 'laws.FnExactFindSeries', WHERE WHAT IT READS IS OF BULK AT MOST 1048576: true; the input reads as it did. -/
def fnExactFindSeriesUptoRow : OpenClaim := { program := "ytnnbfdlicadgfaa", sum := "898a7534885b2b43fd1a6341a22595a3b53d891aad396b7f822e3ee5af2a2281", func := "loop.example/metricstore/laws.FnExactFindSeries", spec := "fnExactFindSeries", unfollowed := true, recurses := true, apart := false, narrowed := true }
def FnExactFindSeriesUptoSaid : Prop := fnExactFindSeriesUptoRow.holds Try.pinned (OpenSpec.upto fnExactFindSeriesSpec)

/-- 'laws.FnExactMatchesAll', WHERE WHAT IT READS IS OF BULK AT MOST 1048576: true; the input reads as it did. -/
def fnExactMatchesAllUptoRow : OpenClaim := { program := "ytnnbfdlicadgfaa", sum := "898a7534885b2b43fd1a6341a22595a3b53d891aad396b7f822e3ee5af2a2281", func := "loop.example/metricstore/laws.FnExactMatchesAll", spec := "fnExactMatchesAll", apart := false, narrowed := true }
def FnExactMatchesAllUptoSaid : Prop := fnExactMatchesAllUptoRow.holds Try.pinned (OpenSpec.upto fnExactMatchesAllSpec)

/-- 'laws.FnFindSeries', WHERE WHAT IT READS IS OF BULK AT MOST 1048576: true; the input reads as it did. -/
def fnFindSeriesUptoRow : OpenClaim := { program := "ytnnbfdlicadgfaa", sum := "898a7534885b2b43fd1a6341a22595a3b53d891aad396b7f822e3ee5af2a2281", func := "loop.example/metricstore/laws.FnFindSeries", spec := "fnFindSeries", unfollowed := true, recurses := true, apart := false, narrowed := true }
def FnFindSeriesUptoSaid : Prop := fnFindSeriesUptoRow.holds Try.pinned (OpenSpec.upto fnFindSeriesSpec)

/-- 'laws.FnFindSeriesNone', WHERE WHAT IT READS IS OF BULK AT MOST 1048576: true; the input reads as it did. -/
def fnFindSeriesNoneUptoRow : OpenClaim := { program := "ytnnbfdlicadgfaa", sum := "898a7534885b2b43fd1a6341a22595a3b53d891aad396b7f822e3ee5af2a2281", func := "loop.example/metricstore/laws.FnFindSeriesNone", spec := "fnFindSeriesNone", unfollowed := true, recurses := true, apart := false, narrowed := true }
def FnFindSeriesNoneUptoSaid : Prop := fnFindSeriesNoneUptoRow.holds Try.pinned (OpenSpec.upto fnFindSeriesNoneSpec)

/-- 'laws.FnPostingsAll', WHERE WHAT IT READS IS OF BULK AT MOST 1048576: true; the input reads as it did. -/
def fnPostingsAllUptoRow : OpenClaim := { program := "ytnnbfdlicadgfaa", sum := "898a7534885b2b43fd1a6341a22595a3b53d891aad396b7f822e3ee5af2a2281", func := "loop.example/metricstore/laws.FnPostingsAll", spec := "fnPostingsAll", unfollowed := true, recurses := true, apart := false, narrowed := true }
def FnPostingsAllUptoSaid : Prop := fnPostingsAllUptoRow.holds Try.pinned (OpenSpec.upto fnPostingsAllSpec)

/-- 'laws.FnPostings', WHERE WHAT IT READS IS OF BULK AT MOST 1048576: true; the input reads as it did. -/
def fnPostingsUptoRow : OpenClaim := { program := "ytnnbfdlicadgfaa", sum := "898a7534885b2b43fd1a6341a22595a3b53d891aad396b7f822e3ee5af2a2281", func := "loop.example/metricstore/laws.FnPostings", spec := "fnPostings", unfollowed := true, recurses := true, apart := false, narrowed := true }
def FnPostingsUptoSaid : Prop := fnPostingsUptoRow.holds Try.pinned (OpenSpec.upto fnPostingsSpec)

end Rows
end Go.Proofs.Ytnnbfdlicadgfaa
