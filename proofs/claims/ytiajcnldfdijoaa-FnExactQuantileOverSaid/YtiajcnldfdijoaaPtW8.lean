/-
  Walks: RateOver of both packages.
-/
import Derived.Test.YtiajcnldfdijoaaPtW7
namespace Go.Proofs.Ytiajcnldfdijoaa
open Go.RowKit
theorem growTo_first {l : List (Int × Int)} {k : Nat} (h : k = 0) : growTo l k = growTo l (k + 1) := by subst h; simp [growTo, grow]
theorem growTo_down {l : List (Int × Int)} {k : Nat} (h0 : 0 < k) (h : x2 l k < x2 l (k - 1)) : growTo l (k + 1) = growTo l k + x2 l k := by
  conv => lhs; unfold growTo grow
  rw [if_pos h0, if_pos h]
theorem growTo_up {l : List (Int × Int)} {k : Nat} (h0 : 0 < k) (h : ¬ x2 l k < x2 l (k - 1)) : growTo l (k + 1) = growTo l k + (x2 l k - x2 l (k - 1)) := by
  conv => lhs; unfold growTo grow
  rw [if_pos h0, if_neg h]
theorem tup_ret {v v' : Value} (h : v = v') : Ending.returned v = Ending.returned v' := by rw [h]
end Go.Proofs.Ytiajcnldfdijoaa
