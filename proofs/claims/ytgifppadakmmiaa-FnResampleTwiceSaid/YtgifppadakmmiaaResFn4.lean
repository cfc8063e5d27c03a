/-
  Plain law: resampling again changes nothing.
-/
import Derived.Test.YtgifppadakmmiaaResFn3
namespace Go.Proofs.Ytgifppadakmmiaa
open Go.RowKit
theorem resF_has {l : List (Int × Int)} {to st v : Int} (hs : 1 ≤ st) {f j : Nat} {t : Int} (hj : j < f) (ht : t + st * (j : Int) < to) (hv : valO l (t + st * (j : Int)) = some v) : (t + st * (j : Int), v) ∈ resF l to st f t := by
  induction f generalizing t j with
  | zero => omega
  | succ f ih =>
    have hge : 0 ≤ st * (j : Int) := Int.mul_nonneg (by omega) (by omega)
    rw [resF_step l st f (by omega), List.mem_append]
    cases j with
    | zero =>
      left
      simp only [Int.natCast_zero, Int.mul_zero, Int.add_zero] at hv ⊢
      rw [hv]; simp [ptO]
    | succ j =>
      right
      have e : t + st * ((j + 1 : Nat) : Int) = t + st + st * (j : Int) := by rw [Int.natCast_add, Int.mul_add]; simp; omega
      rw [e] at ht hv ⊢
      exact ih (by omega) ht hv
theorem valTo_none {l : List (Int × Int)} {t : Int} {k : Nat} (h : valTo l t k = none) : ∀ j, j < k → t < x1 l j := by
  induction k with
  | zero => intro j hj; omega
  | succ k ih =>
    intro j hj
    by_cases hx : x1 l k ≤ t
    · have e : valTo l t (k + 1) = some (x2 l k) := if_pos hx
      rw [e] at h; cases h
    · have e : valTo l t (k + 1) = valTo l t k := if_neg hx
      rw [e] at h
      rcases Nat.lt_or_ge j k with h1 | h1
      · exact ih h j h1
      · have : j = k := by omega
        subst this; omega
theorem val_again {l : List (Int × Int)} {fr to st : Int} (hok : resOk l fr to st) {j : Nat} (hj : j < 16) (ht : fr + st * (j : Int) < to) : valO (resL l fr to st) (fr + st * (j : Int)) = valO l (fr + st * (j : Int)) := by
  have hS := resL_sorted l fr to st
  have hV := resL_vS l fr to st
  cases hv : valO l (fr + st * (j : Int)) with
  | some v =>
    have hm := resF_has hok.2.2.2.1.1 hj ht hv
    rw [← resL_ok hok] at hm
    obtain ⟨i, hi, e1, e2⟩ := mem_at hm
    simp only at e1 e2
    rw [valO_at (i := i + 1) hV (by omega) (fun a ha => ?_) (fun a ha hb => ?_), if_neg (by omega), Nat.add_sub_cancel, e2]
    · rcases Nat.lt_or_ge a i with h | h
      · have := sorted_at hS h hi; omega
      · have : a = i := by omega
        subst this; omega
    · have := sorted_at hS (i := i) (j := a) (by omega) hb; omega
  | none =>
    rw [valO_ok hok.1] at hv
    have hn := valTo_none hv
    refine valO_none hV fun a ha => ?_
    obtain ⟨_, _, _, _, h4⟩ := resL_at ha
    rw [valO_ok hok.1] at h4
    obtain ⟨i, hi, h5, _⟩ := valTo_mem h4
    have := hn i hi
    omega
theorem resF_again {l L : List (Int × Int)} {fr to st : Int} (h : ∀ j : Nat, j < 16 → fr + st * (j : Int) < to → valO L (fr + st * (j : Int)) = valO l (fr + st * (j : Int))) (f j : Nat) (hf : j + f ≤ 16) : resF L to st f (fr + st * (j : Int)) = resF l to st f (fr + st * (j : Int)) := by
  induction f generalizing j with
  | zero => rfl
  | succ f ih =>
    by_cases ht : fr + st * (j : Int) < to
    · rw [resF_step L st f ht, resF_step l st f ht, h j (by omega) ht]
      have e : fr + st * (j : Int) + st = fr + st * ((j + 1 : Nat) : Int) := by rw [Int.natCast_add, Int.mul_add]; simp; omega
      rw [e, ih (j + 1) (by omega)]
    · rw [resF_end L st _ (by omega), resF_end l st _ (by omega)]
theorem res_again (l : List (Int × Int)) (fr to st : Int) : resL (resL l fr to st) fr to st = resL l fr to st := by
  by_cases hok : resOk l fr to st
  · have hok2 : resOk (resL l fr to st) fr to st := ⟨resL_vS l fr to st, hok.2⟩
    rw [resL_ok hok2]
    have := resF_again (l := l) (L := resL l fr to st) (fr := fr) (to := to) (st := st) (fun j hj ht => val_again hok hj ht) 16 0 (by omega)
    simp only [Int.natCast_zero, Int.mul_zero, Int.add_zero] at this
    rw [this, resL_ok hok]
  · rw [resL_no hok]
    by_cases h2 : resOk [] fr to st
    · rw [resL_ok h2, resF_none h2.1 (fun j hj => absurd hj (by simp))]
    · rw [resL_no h2]
end Go.Proofs.Ytgifppadakmmiaa
