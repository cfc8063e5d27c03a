/-
  Plain functions: what the tiers' functions compute.
-/
import Derived.Test.YtheckdenoomhjaaBase
namespace Go.Proofs.Ytheckdenoomhjaa
def okT (l : List (Int × Int)) (k : Nat) : Prop :=
  1 ≤ x1 l k ∧ x1 l k ≤ 100 ∧ x1 l k ≤ x2 l k ∧ x2 l k ≤ 1000 ∧ (0 < k → x1 l (k - 1) < x1 l k ∧ x1 l k % x1 l (k - 1) = 0 ∧ x2 l (k - 1) < x2 l k)
instance (l : List (Int × Int)) (k : Nat) : Decidable (okT l k) := by unfold okT; infer_instance
def okTo (l : List (Int × Int)) (k : Nat) : Prop := ∀ j, j < k → okT l j
def VT (l : List (Int × Int)) : Prop := 1 ≤ l.length ∧ l.length ≤ 4 ∧ okTo l l.length
instance (l : List (Int × Int)) (k : Nat) : Decidable (okTo l k) := by unfold okTo; infer_instance
instance (l : List (Int × Int)) : Decidable (VT l) := by unfold VT; infer_instance
def vT (l : List (Int × Int)) : Bool := decide (VT l)
theorem vT_short {l : List (Int × Int)} (h : l.length < 1) : vT l = false := decide_eq_false fun ⟨a, _, _⟩ => by omega
theorem vT_long {l : List (Int × Int)} (h : 4 < l.length) : vT l = false := decide_eq_false fun ⟨_, a, _⟩ => by omega
theorem vT_bad {l : List (Int × Int)} {k : Nat} (hk : k < l.length) (h : ¬ okT l k) : vT l = false := decide_eq_false fun ⟨_, _, h3⟩ => h (h3 k hk)
theorem vT_good {l : List (Int × Int)} (h1 : 1 ≤ l.length) (h4 : l.length ≤ 4) (h : okTo l l.length) : vT l = true := decide_eq_true ⟨h1, h4, h⟩
theorem VT_of {l : List (Int × Int)} (h : vT l = true) : VT l := of_decide_eq_true h
theorem notVT_of {l : List (Int × Int)} (h : vT l = false) : ¬ VT l := of_decide_eq_false h
theorem okTo_zero (l : List (Int × Int)) : okTo l 0 := fun j hj => absurd hj (by omega)
theorem okTo_succ {l : List (Int × Int)} {k : Nat} (h : okTo l k) (hk : okT l k) : okTo l (k + 1) := fun j hj => by
  rcases Nat.lt_or_ge j k with h1 | h1
  · exact h j h1
  · have : j = k := by omega
    subst this; exact hk
end Go.Proofs.Ytheckdenoomhjaa
