/-
  Plain functions: the oldest kept buckets, the tier for a time, the cost.
-/
import Derived.Test.YtheckdenoomhjaaTierFn
namespace Go.Proofs.Ytheckdenoomhjaa
open Go.RowKit
def oldI (w k now : Int) : Int := (max (now - k) 0 + w - 1) / w * w
def oldE (l : List (Int × Int)) (now : Int) (i : Nat) : Int := oldI (x1 l i) (x2 l i) now
def oldTo (l : List (Int × Int)) (now : Int) (k : Nat) : List Int := (List.range k).map (oldE l now)
theorem oldTo_len (l : List (Int × Int)) (now : Int) (k : Nat) : (oldTo l now k).length = k := by simp [oldTo]
theorem oldTo_succ (l : List (Int × Int)) (now : Int) (k : Nat) : oldTo l now (k + 1) = oldTo l now k ++ [oldE l now k] := by simp [oldTo, List.range_succ]
theorem xi_oldTo (l : List (Int × Int)) (now : Int) {k i : Nat} (h : i < k) : xi (oldTo l now k) i = oldE l now i := by
  simp [xi, oldTo, List.getD_eq_getElem?_getD, List.getElem?_map, List.getElem?_range h]
theorem round_up (n w : Int) (hw : 1 ≤ w) : n + (w - n % w) % w = (n + w - 1) / w * w := by
  have e1 := Int.emod_nonneg n (b := w) (by omega)
  have e2 := Int.emod_lt_of_pos n (b := w) (by omega)
  have e3 := Int.mul_ediv_add_emod n w
  by_cases h : n % w = 0
  · have e4 : (w - n % w) % w = 0 := by rw [h, Int.sub_zero]; exact Int.emod_self
    have e5 : (n + w - 1) / w = n / w := by
      have : n + w - 1 = (w - 1) + w * (n / w) := by omega
      rw [this, Int.add_mul_ediv_left _ _ (by omega), Int.ediv_eq_zero_of_lt (by omega) (by omega)]; omega
    rw [e4, e5, Int.mul_comm]; omega
  · have e4 : (w - n % w) % w = w - n % w := Int.emod_eq_of_lt (by omega) (by omega)
    have e5 : (n + w - 1) / w = n / w + 1 := by
      have : n + w - 1 = (n % w - 1) + w * (n / w + 1) := by rw [Int.mul_add]; omega
      rw [this, Int.add_mul_ediv_left _ _ (by omega), Int.ediv_eq_zero_of_lt (by omega) (by omega)]; omega
    rw [e4, e5, Int.add_mul, Int.mul_comm (n / w)]; omega
theorem oldI_nonneg (w k now : Int) (hw : 1 ≤ w) : 0 ≤ oldI w k now := by
  unfold oldI
  exact Int.mul_nonneg (Int.ediv_nonneg (by omega) (by omega)) (by omega)
theorem oldI_le (w k now : Int) (hw : 1 ≤ w) : oldI w k now ≤ max (now - k) 0 + w - 1 := by
  unfold oldI
  exact Int.ediv_mul_le _ (by omega)
theorem oldI_ge (w k now : Int) (hw : 1 ≤ w) : max (now - k) 0 ≤ oldI w k now := by
  unfold oldI
  have e := Int.lt_ediv_add_one_mul_self (max (now - k) 0 + w - 1) (b := w) (by omega)
  rw [Int.add_mul] at e; omega
/-- The three machine steps of the rounding, none of which wraps. -/
theorem old_steps (F x : Int) (hx : 1 ≤ x) (hx2 : x ≤ 100) (hF : 0 ≤ F) (hF2 : F ≤ 1000) :
    IntKind.i64.wrap (F + x) = F + x ∧ IntKind.i64.wrap (F + x - 1) = F + x - 1 ∧ IntKind.i64.wrap ((F + x - 1).tdiv x) = (F + x - 1) / x ∧ IntKind.i64.wrap ((F + x - 1) / x * x) = (F + x - 1) / x * x := by
  have h1 : 0 ≤ (F + x - 1) / x := Int.ediv_nonneg (by omega) (by omega)
  have h2 : (F + x - 1) / x * x ≤ F + x - 1 := Int.ediv_mul_le _ (by omega)
  have h3 : 0 ≤ (F + x - 1) / x * x := Int.mul_nonneg h1 (by omega)
  have h4 : (F + x - 1) / x ≤ F + x - 1 := Int.ediv_le_self _ (by omega)
  refine ⟨IntWalk.i64_in _ (by omega), IntWalk.i64_in _ (by omega), ?_, IntWalk.i64_in _ (by omega)⟩
  rw [Int.tdiv_eq_ediv_of_nonneg (by omega)]
  exact IntWalk.i64_in _ (by omega)
end Go.Proofs.Ytheckdenoomhjaa
