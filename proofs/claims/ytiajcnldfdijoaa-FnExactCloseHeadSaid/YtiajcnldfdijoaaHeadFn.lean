/-
  Plain functions: what makes a head valid.
-/
import Derived.Test.YtiajcnldfdijoaaPtFn3
namespace Go.Proofs.Ytiajcnldfdijoaa
open Go.RowKit
def okH (hw hn : Int) (lo lc : List (Int × Int)) : Prop := (0 ≤ hw ∧ hw ≤ 100) ∧ VS lo ∧ VS lc ∧ (∀ i, i < lo.length → x1 lo i ≤ hn ∧ hn - hw ≤ x1 lo i) ∧ (∀ i, i < lc.length → x1 lc i < hn - hw) ∧ ((lo.length = 0 ∧ hn = -1) ∨ (0 < lo.length ∧ x1 lo (lo.length - 1) = hn))
instance (hw hn : Int) (lo lc : List (Int × Int)) : Decidable (okH hw hn lo lc) := by unfold okH; infer_instance
def vH (hw hn : Int) (lo lc : List (Int × Int)) : Bool := decide (okH hw hn lo lc)
theorem vH_no {hw hn : Int} {lo lc : List (Int × Int)} (h : ¬ okH hw hn lo lc) : vH hw hn lo lc = false := decide_eq_false h
theorem vH_yes {hw hn : Int} {lo lc : List (Int × Int)} (h : okH hw hn lo lc) : vH hw hn lo lc = true := decide_eq_true h
theorem vH_of {hw hn : Int} {lo lc : List (Int × Int)} (h : vH hw hn lo lc = true) : okH hw hn lo lc := of_decide_eq_true h
theorem okH_range {hw hn : Int} {lo lc : List (Int × Int)} (h : okH hw hn lo lc) : -1 ≤ hn ∧ hn ≤ 1000 := by
  obtain ⟨_, h2, _, _, _, h6⟩ := h
  rcases h6 with ⟨_, h⟩ | ⟨h, h7⟩
  · omega
  · have := VS_at h2 (i := lo.length - 1) (by omega); omega
theorem VS_le {l : List (Int × Int)} (h : VS l) {i j : Nat} (hij : i ≤ j) (hj : j < l.length) : x1 l i ≤ x1 l j := by
  rcases Nat.lt_or_ge i j with h1 | h1
  · have := VS_lt h h1 hj; omega
  · have : i = j := by omega
    subst this; exact Int.le_refl _
theorem vH_bad_w {hw hn : Int} {lo lc : List (Int × Int)} (h : ¬ (0 ≤ hw ∧ hw ≤ 100)) : vH hw hn lo lc = false := vH_no fun k => h k.1
theorem vH_bad_o {hw hn : Int} {lo lc : List (Int × Int)} (h : vS lo = false) : vH hw hn lo lc = false := vH_no fun k => by rw [show vS lo = true from decide_eq_true k.2.1] at h; cases h
theorem vH_bad_c {hw hn : Int} {lo lc : List (Int × Int)} (h : vS lc = false) : vH hw hn lo lc = false := vH_no fun k => by rw [show vS lc = true from decide_eq_true k.2.2.1] at h; cases h
theorem vH_empty {hw hn : Int} {lo lc : List (Int × Int)} (h1 : 0 ≤ hw ∧ hw ≤ 100) (h2 : VS lo) (h3 : VS lc) (h4 : lo.length = 0) : vH hw hn lo lc = (decide (hn = -1) && decide (lc.length = 0)) := by
  by_cases a : hn = -1
  · by_cases b : lc.length = 0
    · rw [vH_yes ⟨h1, h2, h3, fun i hi => absurd hi (by omega), fun i hi => absurd hi (by omega), .inl ⟨h4, a⟩⟩, decide_eq_true a, decide_eq_true b]; rfl
    · rw [vH_no (fun k => by have := k.2.2.2.2.1 0 (by omega); have := VS_at h3 (i := 0) (by omega); omega), decide_eq_false b, Bool.and_false]
  · rw [vH_no (fun k => by rcases k.2.2.2.2.2 with h | h <;> omega), decide_eq_false a]; rfl
theorem vH_full {hw hn : Int} {lo lc : List (Int × Int)} (h1 : 0 ≤ hw ∧ hw ≤ 100) (h2 : VS lo) (h3 : VS lc) (h4 : 0 < lo.length) :
    vH hw hn lo lc = (decide (hn = x1 lo (lo.length - 1)) && (decide (hn - hw ≤ x1 lo 0) && (decide (lc.length = 0) || decide (x1 lc (lc.length - 1) < hn - hw)))) := by
  by_cases a : hn = x1 lo (lo.length - 1)
  · by_cases b : hn - hw ≤ x1 lo 0
    · have ho : ∀ i, i < lo.length → x1 lo i ≤ hn ∧ hn - hw ≤ x1 lo i := fun i hi => by
        have := VS_le h2 (i := i) (j := lo.length - 1) (by omega) (by omega)
        have := VS_le h2 (i := 0) (j := i) (by omega) hi
        omega
      rw [decide_eq_true a, decide_eq_true b, Bool.true_and, Bool.true_and]
      by_cases d : lc.length = 0
      · rw [vH_yes ⟨h1, h2, h3, ho, fun i hi => absurd hi (by omega), .inr ⟨h4, a.symm⟩⟩, decide_eq_true d]; rfl
      · rw [decide_eq_false d, Bool.false_or]
        by_cases f : x1 lc (lc.length - 1) < hn - hw
        · rw [decide_eq_true f, vH_yes ⟨h1, h2, h3, ho, fun i hi => by have := VS_le h3 (i := i) (j := lc.length - 1) (by omega) (by omega); omega, .inr ⟨h4, a.symm⟩⟩]
        · rw [decide_eq_false f, vH_no (fun k => f (k.2.2.2.2.1 _ (by omega)))]
    · rw [vH_no (fun k => b (k.2.2.2.1 0 h4).2), decide_eq_false b, Bool.false_and, Bool.and_false]
  · rw [vH_no (fun k => by rcases k.2.2.2.2.2 with h | h <;> omega), decide_eq_false a]; rfl
end Go.Proofs.Ytiajcnldfdijoaa
