/-
  Walks: Resets of both packages.
-/
import Derived.Test.YtiajcnldfdijoaaPtW6
namespace Go.Proofs.Ytiajcnldfdijoaa
open Go.RowKit
theorem resets_ok {l : List (Int × Int)} {fr to : Int} (h : okS l fr to = true) : resets l fr to = dropTo (rngL l fr to) (rngL l fr to).length := by unfold resets; rw [if_pos h]
theorem resets_no {l : List (Int × Int)} {fr to : Int} (h : okS l fr to = false) : resets l fr to = -1 := by unfold resets; rw [h]; rfl
theorem dropTo_yes {l : List (Int × Int)} {k : Nat} (h0 : 0 < k) (h : x2 l k < x2 l (k - 1)) : dropTo l (k + 1) = dropTo l k + 1 := by
  conv => lhs; unfold dropTo drop1
  rw [if_pos h0, if_pos h]
theorem dropTo_no {l : List (Int × Int)} {k : Nat} (h : ¬ x2 l k < x2 l (k - 1)) : dropTo l (k + 1) = dropTo l k := by
  conv => lhs; unfold dropTo drop1
  rw [if_neg h]; split <;> omega
theorem dropTo_end {l : List (Int × Int)} {k : Nat} (h : l.length ≤ k) (hk : k ≤ l.length ∨ k = 1) : dropTo l k = dropTo l l.length := by
  rcases hk with h1 | h1
  · have : k = l.length := by omega
    rw [this]
  · subst h1
    rcases Nat.eq_zero_or_pos l.length with h2 | h2
    · rw [h2]; simp [dropTo, drop1]
    · have : l.length = 1 := by omega
      rw [this]
end Go.Proofs.Ytiajcnldfdijoaa
