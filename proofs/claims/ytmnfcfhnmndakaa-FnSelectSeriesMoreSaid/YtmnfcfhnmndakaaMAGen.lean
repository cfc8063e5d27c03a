/-
  DrawMatchesAll.
-/
import Derived.Test.YtmnfcfhnmndakaaMatGen
namespace Go.Proofs.Ytmnfcfhnmndakaa
open Go.RowKit
def DrawLM (w : World) (e : Ending) (w' : World) : Prop :=
  ∃ (A : Option Addr) (c m : Nat) (l : List Lb) (B : Option Addr) (d q : Nat) (want : List Mt), e = .returned (.tuple #[.slice A m c, .slice B q d]) ∧ l.length = m ∧ m ≤ 5 ∧ m ≤ c ∧ SzL l ∧ want.length = q ∧ q ≤ 5 ∧ q ≤ d ∧ SzM want ∧ RdL w' w'.heap.size A l ∧ RdM w' w'.heap.size B want ∧ Below w.heap.size w w'
end Go.Proofs.Ytmnfcfhnmndakaa
