/-
  Walks: strings.Compare, cmp.Or, slices.CompareFunc at labels, CompareLabels of the program.
-/
import Derived.Test.YtmnfcfhnmndakaaCmpFn
import Derived.Test.YtmnfcfhnmndakaaLabCopy
import Derived.Deep.RegionHeld3
import Derived.Lib.Bytealg
namespace Go.Proofs.Ytmnfcfhnmndakaa
open Go.RowKit
def orI (a b : Int) : Int := if a = 0 then b else a
theorem orI_cmp (x y : Lb) : orI (cmpT x.1 y.1) (cmpT x.2 y.2) = cmpX x y := rfl
end Go.Proofs.Ytmnfcfhnmndakaa
