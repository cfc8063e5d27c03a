/-
  Walks: slices.CompareFunc at labels, CompareLabels of both packages.
-/
import Derived.Test.YtmnfcfhnmndakaaCmpW
namespace Go.Proofs.Ytmnfcfhnmndakaa
open Go.RowKit
theorem toInt_any (b : Bool) (w : World) : Calls Try.prog 107 #[.bool b] w fun e w' => e = .returned (.int .i64 (if b then 1 else 0)) ∧ w = w' := by
  cases b with
  | true =>
    go_enter Try.func107, Try.ntmps107
    go_wp2
    go_ret
    exact ⟨rfl, rfl⟩
  | false =>
    go_enter Try.func107, Try.ntmps107
    go_wp2
    go_ret
    exact ⟨rfl, rfl⟩
theorem cmpX_1 {x y : Lb} (h : ltB x.1 y.1 = true) : cmpX x y = -1 := by unfold cmpX; rw [cmpT_lt h]; rfl
theorem cmpX_2 {x y : Lb} (h : ltB y.1 x.1 = true) : cmpX x y = 1 := by unfold cmpX; rw [cmpT_gt h]; rfl
theorem cmpX_3 {x y : Lb} (h1 : ltB x.1 y.1 = false) (h2 : ltB y.1 x.1 = false) : cmpX x y = cmpT x.2 y.2 := by unfold cmpX; rw [if_pos (cmpT_eq h1 h2).1]
theorem ltB_walk {a b : ByteArray} {v : Bool} (h : ltB a b = v) : Op.bytesLess a.toList b.toList = v := h
theorem eqB_of_nn {a b : ByteArray} (h1 : ltB a b = false) (h2 : ltB b a = false) : (a.toList == b.toList) = true := eqB_iff.2 (ltB_total h1 h2)
theorem eqB_of_gt {a b : ByteArray} (h2 : ltB b a = true) : (a.toList == b.toList) = false := eqB_no.2 (by rintro rfl; rw [ltB_irrefl] at h2; cases h2)
end Go.Proofs.Ytmnfcfhnmndakaa
