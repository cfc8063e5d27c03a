/-
  Plain laws: growth.
-/
import Derived.Test.YtgifppadakmmiaaPtFn4
namespace Go.Proofs.Ytgifppadakmmiaa
open Go.RowKit
def rateB (l : List (Int × Int)) : Bool := decide (rateOk l)
def rateN (l : List (Int × Int)) : Int := if rateOk l then growTo l l.length else 0
theorem rateV_eq (l : List (Int × Int)) : rateV l = .tuple #[.int .i64 (rateN l), .bool (rateB l)] := by
  unfold rateV rateN rateB
  by_cases h : rateOk l
  · rw [if_pos h, if_pos h, decide_eq_true h]
  · rw [if_neg h, if_neg h, decide_eq_false h]
theorem rateN_ok {l : List (Int × Int)} (h : rateOk l) : rateN l = growTo l l.length := if_pos h
theorem rateB_ok {l : List (Int × Int)} (h : rateOk l) : rateB l = true := decide_eq_true h
theorem rateB_no {l : List (Int × Int)} (h : ¬ rateOk l) : rateB l = false := decide_eq_false h
theorem grow_ge {l : List (Int × Int)} {k : Nat} (hp : posTo l (k + 1)) : x2 l k - x2 l 0 ≤ growTo l (k + 1) := by
  induction k with
  | zero => simp [growTo, grow]
  | succ k ih =>
    have h1 := ih (fun j hj => hp j (by omega))
    have h2 := hp k (by omega)
    have h3 : growTo l (k + 1 + 1) = growTo l (k + 1) + grow l (k + 1) := rfl
    have h4 : grow l (k + 1) = if x2 l (k + 1) < x2 l k then x2 l (k + 1) else x2 l (k + 1) - x2 l k := by
      unfold grow; rw [if_pos (by omega), Nat.add_sub_cancel]
    rw [h3, h4]
    split <;> omega
theorem grow_eq {l : List (Int × Int)} {k : Nat} (hd : dropTo l (k + 1) = 0) : growTo l (k + 1) = x2 l k - x2 l 0 := by
  induction k with
  | zero => simp [growTo, grow]
  | succ k ih =>
    have h0 := (dropTo_bd l (k + 1)).1
    have h5 : dropTo l (k + 1 + 1) = dropTo l (k + 1) + drop1 l (k + 1) := rfl
    have h6 : drop1 l (k + 1) = if x2 l (k + 1) < x2 l k then 1 else 0 := by
      unfold drop1; rw [if_pos (by omega), Nat.add_sub_cancel]
    rw [h5, h6] at hd
    have h3 : growTo l (k + 1 + 1) = growTo l (k + 1) + grow l (k + 1) := rfl
    have h4 : grow l (k + 1) = if x2 l (k + 1) < x2 l k then x2 l (k + 1) else x2 l (k + 1) - x2 l k := by
      unfold grow; rw [if_pos (by omega), Nat.add_sub_cancel]
    rw [h3, h4]
    by_cases hg : x2 l (k + 1) < x2 l k
    · rw [if_pos hg] at hd; omega
    · rw [if_neg hg] at hd ⊢
      rw [ih (by omega)]; omega
theorem rate_ge {l : List (Int × Int)} (h : rateOk l) : x2 l (l.length - 1) - x2 l 0 ≤ rateN l := by
  rw [rateN_ok h]
  obtain ⟨k, hk⟩ : ∃ k, l.length = k + 1 := ⟨l.length - 1, by have := h.1; omega⟩
  have hp := h.2
  rw [hk] at hp ⊢
  exact grow_ge hp
theorem rate_eq {l : List (Int × Int)} (h : rateOk l) (hd : dropTo l l.length = 0) : rateN l = x2 l (l.length - 1) - x2 l 0 := by
  rw [rateN_ok h]
  obtain ⟨k, hk⟩ : ∃ k, l.length = k + 1 := ⟨l.length - 1, by have := h.1; omega⟩
  rw [hk] at hd ⊢
  exact grow_eq hd
theorem rate_bd {l : List (Int × Int)} (hB : Bd l) (h : rateOk l) : 0 ≤ rateN l ∧ rateN l ≤ 16000 := by
  rw [rateN_ok h]
  have := growTo_bd hB (Nat.le_refl _) h.2
  have := hB.1
  omega
end Go.Proofs.Ytgifppadakmmiaa
