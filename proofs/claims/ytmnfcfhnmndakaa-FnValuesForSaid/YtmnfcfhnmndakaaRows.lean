/-
  No cell of these rows narrows 'for every input' (looked for: loops, veiled, ifaces, maps, wideKeys, modest, calm, conditions, laid).
  DERIVED. THE GIVEN ROWS OF THIS SEAT. 11 by the template 'for every input the law returns true; each argument reads behind the call as it read before'; 0 by the template 'total and deterministic' (their statements: YtmnfcfhnmndakaaTotals.lean).
  GIVEN WITH THE SEED: the statements are not yours to turn. If you find one false, say at which input.
  Laid BY PROGRAM, IN A SANDBOX (cutbox-rows.mjs): the forced cells as the released guide's own fill.sh prints them over the translation b413583530beb9b4… (all of the seat's roots in one cut). By AI agents, Wed Nov 11 2026. No macro, syntax, notation, axiom, sorry.
-/
import Derived.Test.YtmnfcfhnmndakaaChecked
import GoSem.Claim
import GoSem.ClaimJoined
import GoSem.ClaimMapViews
import Derived.JoinedTies
import Derived.KernelRfl
namespace Go.Proofs.Ytmnfcfhnmndakaa
/- THE CELL 'sum', in the pinned program and in every row, IS THE sha256 OF THE DUMP (.gsa) THAT YtmnfcfhnmndakaaProg.lean LOADS. Nothing in Lean hashes anything: it is a label: what it is worth is what the hold of that sum in a sandbox is worth. -/
noncomputable def Try.pinned : Pinned := { name := "ytmnfcfhnmndakaa", sum := "b413583530beb9b4e83af9e15fd48993f321d0218d3c005bdbbf25f497de6845", checked := Try.checked }
namespace Rows
def none {H : Type} : Left H := { results := [], args := [] }

/-- 'laws.FnValuesFor': WHATEVER THE INPUT: true; the input reads as it did. -/
def fnValuesForSpec : ChangeSpec := { name := "fnValuesFor", fn := fun _ => fun
  | [d] => { results := [.lit (.bool true)], args := [d] }
  | _ => none }
def fnValuesForRow : OpenClaim := { program := "ytmnfcfhnmndakaa", sum := "b413583530beb9b4e83af9e15fd48993f321d0218d3c005bdbbf25f497de6845", func := "loop.example/metricstore/laws.FnValuesFor", spec := "fnValuesFor", unfollowed := true, recurses := true, apart := false }
def FnValuesForSaid : Prop := fnValuesForRow.holds Try.pinned (OpenSpec.ofChange fnValuesForSpec)

/-- ITS FALSE NEIGHBOUR: 'it returns false'. Refute it at one input. -/
def fnValuesForWrong : ChangeSpec := { name := "fnValuesFor", fn := fun _ => fun
  | [d] => { results := [.lit (.bool false)], args := [d] }
  | _ => none }
def FnValuesForWrongFalsely : Prop := fnValuesForRow.holds Try.pinned (OpenSpec.ofChange fnValuesForWrong)

/-- 'laws.FnExactValuesFor': WHATEVER THE INPUT: true; the input reads as it did. -/
def fnExactValuesForSpec : ChangeSpec := { name := "fnExactValuesFor", fn := fun _ => fun
  | [d1, d2] => { results := [.lit (.bool true)], args := [d1, d2] }
  | _ => none }
def fnExactValuesForRow : OpenClaim := { program := "ytmnfcfhnmndakaa", sum := "b413583530beb9b4e83af9e15fd48993f321d0218d3c005bdbbf25f497de6845", func := "loop.example/metricstore/laws.FnExactValuesFor", spec := "fnExactValuesFor", unfollowed := true, recurses := true, apart := false }
def FnExactValuesForSaid : Prop := fnExactValuesForRow.holds Try.pinned (OpenSpec.ofChange fnExactValuesForSpec)

/-- ITS FALSE NEIGHBOUR: 'it returns false'. Refute it at one input. -/
def fnExactValuesForWrong : ChangeSpec := { name := "fnExactValuesFor", fn := fun _ => fun
  | [d1, d2] => { results := [.lit (.bool false)], args := [d1, d2] }
  | _ => none }
def FnExactValuesForWrongFalsely : Prop := fnExactValuesForRow.holds Try.pinned (OpenSpec.ofChange fnExactValuesForWrong)

/-- 'laws.FnAddSeries': WHATEVER THE INPUT: true; the input reads as it did. -/
def fnAddSeriesSpec : ChangeSpec := { name := "fnAddSeries", fn := fun _ => fun
  | [d] => { results := [.lit (.bool true)], args := [d] }
  | _ => none }
def fnAddSeriesRow : OpenClaim := { program := "ytmnfcfhnmndakaa", sum := "b413583530beb9b4e83af9e15fd48993f321d0218d3c005bdbbf25f497de6845", func := "loop.example/metricstore/laws.FnAddSeries", spec := "fnAddSeries", unfollowed := true, recurses := true, apart := false }
def FnAddSeriesSaid : Prop := fnAddSeriesRow.holds Try.pinned (OpenSpec.ofChange fnAddSeriesSpec)

/-- ITS FALSE NEIGHBOUR: 'it returns false'. Refute it at one input. -/
def fnAddSeriesWrong : ChangeSpec := { name := "fnAddSeries", fn := fun _ => fun
  | [d] => { results := [.lit (.bool false)], args := [d] }
  | _ => none }
def FnAddSeriesWrongFalsely : Prop := fnAddSeriesRow.holds Try.pinned (OpenSpec.ofChange fnAddSeriesWrong)

/-- 'laws.FnAddSeriesFull': WHATEVER THE INPUT: true; the input reads as it did. -/
def fnAddSeriesFullSpec : ChangeSpec := { name := "fnAddSeriesFull", fn := fun _ => fun
  | [d] => { results := [.lit (.bool true)], args := [d] }
  | _ => none }
def fnAddSeriesFullRow : OpenClaim := { program := "ytmnfcfhnmndakaa", sum := "b413583530beb9b4e83af9e15fd48993f321d0218d3c005bdbbf25f497de6845", func := "loop.example/metricstore/laws.FnAddSeriesFull", spec := "fnAddSeriesFull", unfollowed := true, recurses := true, apart := false }
def FnAddSeriesFullSaid : Prop := fnAddSeriesFullRow.holds Try.pinned (OpenSpec.ofChange fnAddSeriesFullSpec)

/-- ITS FALSE NEIGHBOUR: 'it returns false'. Refute it at one input. -/
def fnAddSeriesFullWrong : ChangeSpec := { name := "fnAddSeriesFull", fn := fun _ => fun
  | [d] => { results := [.lit (.bool false)], args := [d] }
  | _ => none }
def FnAddSeriesFullWrongFalsely : Prop := fnAddSeriesFullRow.holds Try.pinned (OpenSpec.ofChange fnAddSeriesFullWrong)

/-- 'laws.FnAddSeriesTwice': WHATEVER THE INPUT: true; the input reads as it did. -/
def fnAddSeriesTwiceSpec : ChangeSpec := { name := "fnAddSeriesTwice", fn := fun _ => fun
  | [d] => { results := [.lit (.bool true)], args := [d] }
  | _ => none }
def fnAddSeriesTwiceRow : OpenClaim := { program := "ytmnfcfhnmndakaa", sum := "b413583530beb9b4e83af9e15fd48993f321d0218d3c005bdbbf25f497de6845", func := "loop.example/metricstore/laws.FnAddSeriesTwice", spec := "fnAddSeriesTwice", unfollowed := true, recurses := true, apart := false }
def FnAddSeriesTwiceSaid : Prop := fnAddSeriesTwiceRow.holds Try.pinned (OpenSpec.ofChange fnAddSeriesTwiceSpec)

/-- ITS FALSE NEIGHBOUR: 'it returns false'. Refute it at one input. -/
def fnAddSeriesTwiceWrong : ChangeSpec := { name := "fnAddSeriesTwice", fn := fun _ => fun
  | [d] => { results := [.lit (.bool false)], args := [d] }
  | _ => none }
def FnAddSeriesTwiceWrongFalsely : Prop := fnAddSeriesTwiceRow.holds Try.pinned (OpenSpec.ofChange fnAddSeriesTwiceWrong)

/-- 'laws.FnExactAddSeries': WHATEVER THE INPUT: true; the input reads as it did. -/
def fnExactAddSeriesSpec : ChangeSpec := { name := "fnExactAddSeries", fn := fun _ => fun
  | [d1, d2] => { results := [.lit (.bool true)], args := [d1, d2] }
  | _ => none }
def fnExactAddSeriesRow : OpenClaim := { program := "ytmnfcfhnmndakaa", sum := "b413583530beb9b4e83af9e15fd48993f321d0218d3c005bdbbf25f497de6845", func := "loop.example/metricstore/laws.FnExactAddSeries", spec := "fnExactAddSeries", unfollowed := true, recurses := true, apart := false }
def FnExactAddSeriesSaid : Prop := fnExactAddSeriesRow.holds Try.pinned (OpenSpec.ofChange fnExactAddSeriesSpec)

/-- ITS FALSE NEIGHBOUR: 'it returns false'. Refute it at one input. -/
def fnExactAddSeriesWrong : ChangeSpec := { name := "fnExactAddSeries", fn := fun _ => fun
  | [d1, d2] => { results := [.lit (.bool false)], args := [d1, d2] }
  | _ => none }
def FnExactAddSeriesWrongFalsely : Prop := fnExactAddSeriesRow.holds Try.pinned (OpenSpec.ofChange fnExactAddSeriesWrong)

/-- 'laws.FnExactPostings': WHATEVER THE INPUT: true; the input reads as it did. -/
def fnExactPostingsSpec : ChangeSpec := { name := "fnExactPostings", fn := fun _ => fun
  | [d1, d2, d3] => { results := [.lit (.bool true)], args := [d1, d2, d3] }
  | _ => none }
def fnExactPostingsRow : OpenClaim := { program := "ytmnfcfhnmndakaa", sum := "b413583530beb9b4e83af9e15fd48993f321d0218d3c005bdbbf25f497de6845", func := "loop.example/metricstore/laws.FnExactPostings", spec := "fnExactPostings", unfollowed := true, recurses := true, apart := false }
def FnExactPostingsSaid : Prop := fnExactPostingsRow.holds Try.pinned (OpenSpec.ofChange fnExactPostingsSpec)

/-- ITS FALSE NEIGHBOUR: 'it returns false'. Refute it at one input. -/
def fnExactPostingsWrong : ChangeSpec := { name := "fnExactPostings", fn := fun _ => fun
  | [d1, d2, d3] => { results := [.lit (.bool false)], args := [d1, d2, d3] }
  | _ => none }
def FnExactPostingsWrongFalsely : Prop := fnExactPostingsRow.holds Try.pinned (OpenSpec.ofChange fnExactPostingsWrong)

/-- 'laws.FnSelectSeries': WHATEVER THE INPUT: true; the input reads as it did. -/
def fnSelectSeriesSpec : ChangeSpec := { name := "fnSelectSeries", fn := fun _ => fun
  | [d] => { results := [.lit (.bool true)], args := [d] }
  | _ => none }
def fnSelectSeriesRow : OpenClaim := { program := "ytmnfcfhnmndakaa", sum := "b413583530beb9b4e83af9e15fd48993f321d0218d3c005bdbbf25f497de6845", func := "loop.example/metricstore/laws.FnSelectSeries", spec := "fnSelectSeries", unfollowed := true, recurses := true, apart := false }
def FnSelectSeriesSaid : Prop := fnSelectSeriesRow.holds Try.pinned (OpenSpec.ofChange fnSelectSeriesSpec)

/-- ITS FALSE NEIGHBOUR: 'it returns false'. Refute it at one input. -/
def fnSelectSeriesWrong : ChangeSpec := { name := "fnSelectSeries", fn := fun _ => fun
  | [d] => { results := [.lit (.bool false)], args := [d] }
  | _ => none }
def FnSelectSeriesWrongFalsely : Prop := fnSelectSeriesRow.holds Try.pinned (OpenSpec.ofChange fnSelectSeriesWrong)

/-- 'laws.FnSelectSeriesMore': WHATEVER THE INPUT: true; the input reads as it did. -/
def fnSelectSeriesMoreSpec : ChangeSpec := { name := "fnSelectSeriesMore", fn := fun _ => fun
  | [d] => { results := [.lit (.bool true)], args := [d] }
  | _ => none }
def fnSelectSeriesMoreRow : OpenClaim := { program := "ytmnfcfhnmndakaa", sum := "b413583530beb9b4e83af9e15fd48993f321d0218d3c005bdbbf25f497de6845", func := "loop.example/metricstore/laws.FnSelectSeriesMore", spec := "fnSelectSeriesMore", unfollowed := true, recurses := true, apart := false }
def FnSelectSeriesMoreSaid : Prop := fnSelectSeriesMoreRow.holds Try.pinned (OpenSpec.ofChange fnSelectSeriesMoreSpec)

/-- ITS FALSE NEIGHBOUR: 'it returns false'. Refute it at one input. -/
def fnSelectSeriesMoreWrong : ChangeSpec := { name := "fnSelectSeriesMore", fn := fun _ => fun
  | [d] => { results := [.lit (.bool false)], args := [d] }
  | _ => none }
def FnSelectSeriesMoreWrongFalsely : Prop := fnSelectSeriesMoreRow.holds Try.pinned (OpenSpec.ofChange fnSelectSeriesMoreWrong)

/-- 'laws.FnSelectSeriesNot': WHATEVER THE INPUT: true; the input reads as it did. -/
def fnSelectSeriesNotSpec : ChangeSpec := { name := "fnSelectSeriesNot", fn := fun _ => fun
  | [d] => { results := [.lit (.bool true)], args := [d] }
  | _ => none }
def fnSelectSeriesNotRow : OpenClaim := { program := "ytmnfcfhnmndakaa", sum := "b413583530beb9b4e83af9e15fd48993f321d0218d3c005bdbbf25f497de6845", func := "loop.example/metricstore/laws.FnSelectSeriesNot", spec := "fnSelectSeriesNot", unfollowed := true, recurses := true, apart := false }
def FnSelectSeriesNotSaid : Prop := fnSelectSeriesNotRow.holds Try.pinned (OpenSpec.ofChange fnSelectSeriesNotSpec)

/-- ITS FALSE NEIGHBOUR: 'it returns false'. Refute it at one input. -/
def fnSelectSeriesNotWrong : ChangeSpec := { name := "fnSelectSeriesNot", fn := fun _ => fun
  | [d] => { results := [.lit (.bool false)], args := [d] }
  | _ => none }
def FnSelectSeriesNotWrongFalsely : Prop := fnSelectSeriesNotRow.holds Try.pinned (OpenSpec.ofChange fnSelectSeriesNotWrong)

/-- 'laws.FnExactSelectSeries': WHATEVER THE INPUT: true; the input reads as it did. -/
def fnExactSelectSeriesSpec : ChangeSpec := { name := "fnExactSelectSeries", fn := fun _ => fun
  | [d1, d2] => { results := [.lit (.bool true)], args := [d1, d2] }
  | _ => none }
def fnExactSelectSeriesRow : OpenClaim := { program := "ytmnfcfhnmndakaa", sum := "b413583530beb9b4e83af9e15fd48993f321d0218d3c005bdbbf25f497de6845", func := "loop.example/metricstore/laws.FnExactSelectSeries", spec := "fnExactSelectSeries", unfollowed := true, recurses := true, apart := false }
def FnExactSelectSeriesSaid : Prop := fnExactSelectSeriesRow.holds Try.pinned (OpenSpec.ofChange fnExactSelectSeriesSpec)

/-- ITS FALSE NEIGHBOUR: 'it returns false'. Refute it at one input. -/
def fnExactSelectSeriesWrong : ChangeSpec := { name := "fnExactSelectSeries", fn := fun _ => fun
  | [d1, d2] => { results := [.lit (.bool false)], args := [d1, d2] }
  | _ => none }
def FnExactSelectSeriesWrongFalsely : Prop := fnExactSelectSeriesRow.holds Try.pinned (OpenSpec.ofChange fnExactSelectSeriesWrong)

/- THE SECOND FORM. 'bulk': how many values and letters a reading holds, each counted each time it is reached (what is shared counts as often as it is met; a slice's spare places count too). A statement '..UptoSaid' is the law's where the arguments, and the package variables that the reading takes, are together of bulk at most 1048576: NARROWER than '..Said'. Prove '..Said' where nothing that the law and all that it calls make is longer than what came in: it says more and counts as full. Else prove '..UptoSaid'. A law counts once. -/
mutual
def uptoBulk {H : Type} : DataW H → Nat
  | .lit (.string bytes) => bytes.length + 1
  | .lit _ => 1
  | .nil => 1
  | .ptr d => uptoBulk d + 1
  | .slice elems spare => uptoBulkAll elems + uptoBulkAll spare + 1
  | .agg parts => uptoBulkAll parts + 1
  | .iface _ d => uptoBulk d + 1
  | .map entries => uptoBulkEntries entries + 1
  | .held _ => 1
def uptoBulkAll {H : Type} : List (DataW H) → Nat
  | [] => 0
  | d :: r => uptoBulk d + uptoBulkAll r
def uptoBulkEntries {H : Type} : List (Lit × DataW H) → Nat
  | [] => 0
  | x :: r => uptoBulkEntry x + uptoBulkEntries r
def uptoBulkEntry {H : Type} : Lit × DataW H → Nat
  | (.string bytes, d) => bytes.length + uptoBulk d + 1
  | (_, d) => uptoBulk d + 1
 end
def uptoSmall : (H : Type) → List (DataW H) → Bool := fun _ ds => decide (uptoBulkAll ds ≤ 1048576)
def OpenSpec.upto (s : _root_.Go.ChangeSpec) : _root_.Go.OpenSpec := { _root_.Go.OpenSpec.ofChange s with cond := some uptoSmall }

/-- 'laws.FnValuesFor', WHERE WHAT IT READS IS OF BULK AT MOST 1048576: true; the input reads as it did. -/
def fnValuesForUptoRow : OpenClaim := { program := "ytmnfcfhnmndakaa", sum := "b413583530beb9b4e83af9e15fd48993f321d0218d3c005bdbbf25f497de6845", func := "loop.example/metricstore/laws.FnValuesFor", spec := "fnValuesFor", unfollowed := true, recurses := true, apart := false, narrowed := true }
def FnValuesForUptoSaid : Prop := fnValuesForUptoRow.holds Try.pinned (OpenSpec.upto fnValuesForSpec)

/-- 'laws.FnExactValuesFor', WHERE WHAT IT READS IS OF BULK AT MOST 1048576: true; the input reads as it did. -/
def fnExactValuesForUptoRow : OpenClaim := { program := "ytmnfcfhnmndakaa", sum := "b413583530beb9b4e83af9e15fd48993f321d0218d3c005bdbbf25f497de6845", func := "loop.example/metricstore/laws.FnExactValuesFor", spec := "fnExactValuesFor", unfollowed := true, recurses := true, apart := false, narrowed := true }
def FnExactValuesForUptoSaid : Prop := fnExactValuesForUptoRow.holds Try.pinned (OpenSpec.upto fnExactValuesForSpec)

/-- 'laws.FnAddSeries', WHERE WHAT IT READS IS OF BULK AT MOST 1048576: true; the input reads as it did. -/
def fnAddSeriesUptoRow : OpenClaim := { program := "ytmnfcfhnmndakaa", sum := "b413583530beb9b4e83af9e15fd48993f321d0218d3c005bdbbf25f497de6845", func := "loop.example/metricstore/laws.FnAddSeries", spec := "fnAddSeries", unfollowed := true, recurses := true, apart := false, narrowed := true }
def FnAddSeriesUptoSaid : Prop := fnAddSeriesUptoRow.holds Try.pinned (OpenSpec.upto fnAddSeriesSpec)

/-- 'laws.FnAddSeriesFull', WHERE WHAT IT READS IS OF BULK AT MOST 1048576: true; the input reads as it did. -/
def fnAddSeriesFullUptoRow : OpenClaim := { program := "ytmnfcfhnmndakaa", sum := "b413583530beb9b4e83af9e15fd48993f321d0218d3c005bdbbf25f497de6845", func := "loop.example/metricstore/laws.FnAddSeriesFull", spec := "fnAddSeriesFull", unfollowed := true, recurses := true, apart := false, narrowed := true }
def FnAddSeriesFullUptoSaid : Prop := fnAddSeriesFullUptoRow.holds Try.pinned (OpenSpec.upto fnAddSeriesFullSpec)

/-- 'laws.FnAddSeriesTwice', WHERE WHAT IT READS IS OF BULK AT MOST 1048576: true; the input reads as it did. -/
def fnAddSeriesTwiceUptoRow : OpenClaim := { program := "ytmnfcfhnmndakaa", sum := "b413583530beb9b4e83af9e15fd48993f321d0218d3c005bdbbf25f497de6845", func := "loop.example/metricstore/laws.FnAddSeriesTwice", spec := "fnAddSeriesTwice", unfollowed := true, recurses := true, apart := false, narrowed := true }
def FnAddSeriesTwiceUptoSaid : Prop := fnAddSeriesTwiceUptoRow.holds Try.pinned (OpenSpec.upto fnAddSeriesTwiceSpec)

/-- 'laws.FnExactAddSeries', WHERE WHAT IT READS IS OF BULK AT MOST 1048576: true; the input reads as it did. -/
def fnExactAddSeriesUptoRow : OpenClaim := { program := "ytmnfcfhnmndakaa", sum := "b413583530beb9b4e83af9e15fd48993f321d0218d3c005bdbbf25f497de6845", func := "loop.example/metricstore/laws.FnExactAddSeries", spec := "fnExactAddSeries", unfollowed := true, recurses := true, apart := false, narrowed := true }
def FnExactAddSeriesUptoSaid : Prop := fnExactAddSeriesUptoRow.holds Try.pinned (OpenSpec.upto fnExactAddSeriesSpec)

/-- 'laws.FnExactPostings', WHERE WHAT IT READS IS OF BULK AT MOST 1048576: true; the input reads as it did. -/
def fnExactPostingsUptoRow : OpenClaim := { program := "ytmnfcfhnmndakaa", sum := "b413583530beb9b4e83af9e15fd48993f321d0218d3c005bdbbf25f497de6845", func := "loop.example/metricstore/laws.FnExactPostings", spec := "fnExactPostings", unfollowed := true, recurses := true, apart := false, narrowed := true }
def FnExactPostingsUptoSaid : Prop := fnExactPostingsUptoRow.holds Try.pinned (OpenSpec.upto fnExactPostingsSpec)

/-- 'laws.FnSelectSeries', WHERE WHAT IT READS IS OF BULK AT MOST 1048576: true; the input reads as it did. -/
def fnSelectSeriesUptoRow : OpenClaim := { program := "ytmnfcfhnmndakaa", sum := "b413583530beb9b4e83af9e15fd48993f321d0218d3c005bdbbf25f497de6845", func := "loop.example/metricstore/laws.FnSelectSeries", spec := "fnSelectSeries", unfollowed := true, recurses := true, apart := false, narrowed := true }
def FnSelectSeriesUptoSaid : Prop := fnSelectSeriesUptoRow.holds Try.pinned (OpenSpec.upto fnSelectSeriesSpec)

/-- 'laws.FnSelectSeriesMore', WHERE WHAT IT READS IS OF BULK AT MOST 1048576: true; the input reads as it did. -/
def fnSelectSeriesMoreUptoRow : OpenClaim := { program := "ytmnfcfhnmndakaa", sum := "b413583530beb9b4e83af9e15fd48993f321d0218d3c005bdbbf25f497de6845", func := "loop.example/metricstore/laws.FnSelectSeriesMore", spec := "fnSelectSeriesMore", unfollowed := true, recurses := true, apart := false, narrowed := true }
def FnSelectSeriesMoreUptoSaid : Prop := fnSelectSeriesMoreUptoRow.holds Try.pinned (OpenSpec.upto fnSelectSeriesMoreSpec)

/-- 'laws.FnSelectSeriesNot', WHERE WHAT IT READS IS OF BULK AT MOST 1048576: true; the input reads as it did. -/
def fnSelectSeriesNotUptoRow : OpenClaim := { program := "ytmnfcfhnmndakaa", sum := "b413583530beb9b4e83af9e15fd48993f321d0218d3c005bdbbf25f497de6845", func := "loop.example/metricstore/laws.FnSelectSeriesNot", spec := "fnSelectSeriesNot", unfollowed := true, recurses := true, apart := false, narrowed := true }
def FnSelectSeriesNotUptoSaid : Prop := fnSelectSeriesNotUptoRow.holds Try.pinned (OpenSpec.upto fnSelectSeriesNotSpec)

/-- 'laws.FnExactSelectSeries', WHERE WHAT IT READS IS OF BULK AT MOST 1048576: true; the input reads as it did. -/
def fnExactSelectSeriesUptoRow : OpenClaim := { program := "ytmnfcfhnmndakaa", sum := "b413583530beb9b4e83af9e15fd48993f321d0218d3c005bdbbf25f497de6845", func := "loop.example/metricstore/laws.FnExactSelectSeries", spec := "fnExactSelectSeries", unfollowed := true, recurses := true, apart := false, narrowed := true }
def FnExactSelectSeriesUptoSaid : Prop := fnExactSelectSeriesUptoRow.holds Try.pinned (OpenSpec.upto fnExactSelectSeriesSpec)

end Rows
end Go.Proofs.Ytmnfcfhnmndakaa
