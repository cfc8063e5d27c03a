/-
  Walks: ValueAt of both packages by the plain function.
-/
import Derived.Test.YtiajcnldfdijoaaResFn
import Derived.Test.YtiajcnldfdijoaaPtW3
namespace Go.Proofs.Ytiajcnldfdijoaa
open Go.RowKit
def ValO (l : List (Int × Int)) (t : Int) (w : World) (e : Ending) (w' : World) : Prop := e = .returned (optV (valO l t)) ∧ Below w.heap.size w w'
theorem valTo_hit {l : List (Int × Int)} {t : Int} {k : Nat} (h : x1 l k ≤ t) : valTo l t (k + 1) = some (x2 l k) := if_pos h
theorem valTo_miss {l : List (Int × Int)} {t : Int} {k : Nat} (h : ¬ x1 l k ≤ t) : valTo l t (k + 1) = valTo l t k := if_neg h
end Go.Proofs.Ytiajcnldfdijoaa
