/-
  Plain laws: sums, splits.
-/
import Derived.Test.YtiajcnldfdijoaaPtFn3
namespace Go.Proofs.Ytiajcnldfdijoaa
open Go.RowKit
theorem sumTo_take (l : List (Int × Int)) {k : Nat} (hk : k ≤ l.length) : sumTo l k = ((l.take k).map Prod.snd).sum := by
  induction k with
  | zero => simp [sumTo]
  | succ k ih =>
    have h : k < l.length := by omega
    unfold sumTo
    rw [ih (by omega), List.take_succ_eq_append_getElem h, List.map_append, List.sum_append, x2_get h]
    simp
theorem sumL_eq (l : List (Int × Int)) : sumL l = (l.map Prod.snd).sum := by
  unfold sumL; rw [sumTo_take l (Nat.le_refl _), List.take_length]
theorem inPart_iff (fr to : Int) (t : Int × Int) : inPart fr to t = true ↔ fr ≤ t.1 ∧ t.1 < to := by
  simp [inPart, inR]; omega
theorem part_cons (t : Int × Int) (l : List (Int × Int)) (fr to : Int) : part (t :: l) fr to = if fr ≤ t.1 ∧ t.1 < to then t :: part l fr to else part l fr to := by
  unfold part
  by_cases h : fr ≤ t.1 ∧ t.1 < to
  · rw [List.filter_cons_of_pos ((inPart_iff _ _ _).2 h), if_pos h]
  · rw [List.filter_cons_of_neg (fun h2 => h ((inPart_iff _ _ _).1 h2)), if_neg h]
theorem sum_split (l : List (Int × Int)) {fr mid to : Int} (h1 : fr ≤ mid) (h2 : mid ≤ to) : sumL (part l fr mid) + sumL (part l mid to) = sumL (part l fr to) := by
  simp only [sumL_eq]
  induction l with
  | nil => simp [part]
  | cons t l ih =>
    simp only [part_cons]
    by_cases a : t.1 < mid
    · rw [if_neg (by omega : ¬ (mid ≤ t.1 ∧ t.1 < to))]
      by_cases b : fr ≤ t.1
      · rw [if_pos ⟨b, a⟩, if_pos ⟨b, by omega⟩]; simp only [List.map_cons, List.sum_cons]; omega
      · rw [if_neg (by omega), if_neg (by omega)]; exact ih
    · rw [if_neg (by omega : ¬ (fr ≤ t.1 ∧ t.1 < mid))]
      by_cases b : t.1 < to
      · rw [if_pos ⟨by omega, b⟩, if_pos ⟨by omega, b⟩]; simp only [List.map_cons, List.sum_cons]; omega
      · rw [if_neg (by omega), if_neg (by omega)]; exact ih
theorem okS_of {l : List (Int × Int)} {fr to fr' to' : Int} (h : okS l fr to = true) (h1 : -2000 ≤ fr') (h2 : fr' ≤ 2000) (h3 : -2000 ≤ to') (h4 : to' ≤ 2000) : okS l fr' to' = true := by
  unfold okS
  rw [(okS_t h).1]
  simp [okR, inR, h1, h2, h3, h4]
theorem rngL_some {l : List (Int × Int)} {fr to : Int} (h : (rngL l fr to).length ≠ 0) : okS l fr to = true := by
  by_cases h1 : okS l fr to = true
  · exact h1
  · rw [rngL_no (by simpa using h1)] at h; exact absurd rfl h
theorem sum_law {l : List (Int × Int)} {fr to : Int} (h : (rngL l fr to).length ≠ 0) (h1 : fr ≤ 40) (h2 : 40 ≤ to) : sumL (rngL l fr 40) + sumL (rngL l 40 to) = sumL (rngL l fr to) := by
  have ho := rngL_some h
  have hR := okR_t (okS_t ho).2
  rw [rngL_ok ho, rngL_ok (okS_of ho hR.1 hR.2.1 (by omega) (by omega)), rngL_ok (okS_of ho (by omega) (by omega) hR.2.2.1 hR.2.2.2)]
  exact sum_split l h1 h2
theorem sumL_bd {l : List (Int × Int)} (h : Bd l) : -16000 ≤ sumL l ∧ sumL l ≤ 16000 := by
  have := sumTo_bd h (Nat.le_refl _)
  have := h.1
  unfold sumL; omega
end Go.Proofs.Ytiajcnldfdijoaa
