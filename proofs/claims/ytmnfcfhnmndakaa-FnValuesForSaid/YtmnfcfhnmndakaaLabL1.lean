/-
  Walks: FnExactValidLabels, FnExactLabelValue.
-/
import Derived.Test.YtmnfcfhnmndakaaLabCopy
namespace Go.Proofs.Ytmnfcfhnmndakaa
open Go.RowKit
theorem SzL_of {l : List Lb} (h : ∀ i, i < l.length → (at0 l i).1.size ≤ 1048576 ∧ (at0 l i).2.size ≤ 1048576) : SzL l := fun i hi => by have := h i hi; omega
end Go.Proofs.Ytmnfcfhnmndakaa
