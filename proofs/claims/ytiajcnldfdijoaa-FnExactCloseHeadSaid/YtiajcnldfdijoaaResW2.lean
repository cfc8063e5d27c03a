/-
  Walk: Resample of the program.
-/
import Derived.Test.YtiajcnldfdijoaaResW1
import Derived.Test.YtiajcnldfdijoaaPtW4
namespace Go.Proofs.Ytiajcnldfdijoaa
open Go.RowKit
theorem grid_next {fr st t : Int} {k : Nat} (h : t = fr + st * (k : Int)) : t + st = fr + st * ((k + 1 : Nat) : Int) := by
  rw [h, Int.natCast_add, Int.mul_add]; simp; omega
theorem grid_end {fr to st t : Int} {k : Nat} (h : t = fr + st * (k : Int)) (hk : k ≤ 16) (hs : 1 ≤ st) (ht : to ≤ t) : to - fr ≤ st * 16 := by
  have h2 : st * (k : Int) ≤ st * 16 := Int.mul_le_mul_of_nonneg_left (by omega) (by omega)
  omega
theorem grid_over {fr to st t : Int} {k : Nat} (h : t = fr + st * (k : Int)) (hk : k = 16) (ht : t < to) : ¬ to - fr ≤ st * 16 := by
  subst hk
  have : ((16 : Nat) : Int) = 16 := rfl
  rw [this] at h; omega
theorem res_none {l : List (Int × Int)} {fr to st : Int} (h : ¬ (vS l = true ∧ (0 ≤ fr ∧ fr ≤ 1000) ∧ (0 ≤ to ∧ to ≤ 1000) ∧ (1 ≤ st ∧ st ≤ 100))) : resL l fr to st = [] := resL_no fun k => h ⟨k.1, k.2.1, k.2.2.1, k.2.2.2.1⟩
theorem retP_nil {T : TypeId} {w w' : World} {l : List (Int × Int)} (h : l = []) (hb : Below w.heap.size w w') : RetP T w l (.returned (.slice none 0 0)) w' := by
  subst h; exact ⟨none, 0, rfl, World.ownsRow_nil _ _ _ _, hb⟩
theorem ptO_snoc (pre : List (Int × Int)) (t v : Int) : pre ++ ptO t (some v) = pre ++ [(t, v)] := rfl
end Go.Proofs.Ytiajcnldfdijoaa
