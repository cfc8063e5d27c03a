/-
  Plain functions: what makes a series valid.
-/
import Derived.Test.YtiajcnldfdijoaaInR
namespace Go.Proofs.Ytiajcnldfdijoaa
open Go.RowKit
def okPt (a b : Int) : Bool := inR a 0 1000 && inR b (-1000) 1000
theorem okPt_t {a b : Int} (h : okPt a b = true) : 0 ≤ a ∧ a ≤ 1000 ∧ -1000 ≤ b ∧ b ≤ 1000 := by
  unfold okPt at h; simp only [Bool.and_eq_true] at h
  have := inR_t h.1; have := inR_t h.2; omega
def okP (l : List (Int × Int)) (k : Nat) : Prop := okPt (x1 l k) (x2 l k) = true ∧ (0 < k → x1 l (k - 1) < x1 l k)
def okPo (l : List (Int × Int)) (k : Nat) : Prop := ∀ j, j < k → okP l j
def VS (l : List (Int × Int)) : Prop := l.length ≤ 16 ∧ okPo l l.length
instance (l : List (Int × Int)) (k : Nat) : Decidable (okP l k) := by unfold okP; infer_instance
instance (l : List (Int × Int)) (k : Nat) : Decidable (okPo l k) := by unfold okPo; infer_instance
instance (l : List (Int × Int)) : Decidable (VS l) := by unfold VS; infer_instance
def vS (l : List (Int × Int)) : Bool := decide (VS l)
theorem vS_long {l : List (Int × Int)} (h : 16 < l.length) : vS l = false := decide_eq_false fun ⟨a, _⟩ => by omega
theorem vS_bad {l : List (Int × Int)} {k : Nat} (hk : k < l.length) (h : ¬ okP l k) : vS l = false := decide_eq_false fun ⟨_, h3⟩ => h (h3 k hk)
theorem vS_good {l : List (Int × Int)} (h4 : l.length ≤ 16) (h : okPo l l.length) : vS l = true := decide_eq_true ⟨h4, h⟩
theorem VS_of {l : List (Int × Int)} (h : vS l = true) : VS l := of_decide_eq_true h
theorem okPo_zero (l : List (Int × Int)) : okPo l 0 := fun j hj => absurd hj (by omega)
theorem okPo_succ {l : List (Int × Int)} {k : Nat} (h : okPo l k) (hk : okP l k) : okPo l (k + 1) := fun j hj => by
  rcases Nat.lt_or_ge j k with h1 | h1
  · exact h j h1
  · have : j = k := by omega
    subst this; exact hk
theorem VS_at {l : List (Int × Int)} (h : VS l) {i : Nat} (hi : i < l.length) : 0 ≤ x1 l i ∧ x1 l i ≤ 1000 ∧ -1000 ≤ x2 l i ∧ x2 l i ≤ 1000 := okPt_t (h.2 i hi).1
theorem VS_lt {l : List (Int × Int)} (h : VS l) {i j : Nat} (hij : i < j) (hj : j < l.length) : x1 l i < x1 l j := by
  induction j with
  | zero => omega
  | succ j ih =>
    have h1 := (h.2 (j + 1) hj).2 (by omega)
    rw [Nat.add_sub_cancel] at h1
    rcases Nat.lt_or_ge i j with h2 | h2
    · have := ih h2 (by omega); omega
    · have : i = j := by omega
      subst this; exact h1
end Go.Proofs.Ytiajcnldfdijoaa
