/-
  Plain laws: before the first point there is no value, at it there is one.
-/
import Derived.Test.YtgifppadakmmiaaResFn2
namespace Go.Proofs.Ytgifppadakmmiaa
open Go.RowKit
theorem valO_none {l : List (Int × Int)} {t : Int} (hv : vS l = true) (h : ∀ j, j < l.length → t < x1 l j) : valO l t = none := by
  rw [valO_at (i := 0) hv (by omega) (fun j hj => absurd hj (by omega)) (fun j _ hj => h j hj), if_pos rfl]
theorem resF_none {l : List (Int × Int)} {to st : Int} (hv : vS l = true) (h : ∀ j, j < l.length → to ≤ x1 l j) (f : Nat) (t : Int) : resF l to st f t = [] := by
  induction f generalizing t with
  | zero => rfl
  | succ f ih =>
    by_cases ht : t < to
    · rw [resF_step l st f ht, valO_none hv (fun j hj => by have := h j hj; omega), ih]; rfl
    · exact resF_end l st _ (by omega)
theorem before_none {l : List (Int × Int)} (hv : vS l = true) (fr : Int) : (resL l fr (x1 l 0) 1).length = 0 := by
  by_cases hok : resOk l fr (x1 l 0) 1
  · rw [resL_ok hok, resF_none hv (fun j hj => by
      rcases Nat.eq_zero_or_pos j with h | h
      · rw [h]; exact Int.le_refl _
      · have := VS_lt (VS_of hv) (i := 0) (j := j) h hj; omega)]; rfl
  · rw [resL_no hok]; rfl
theorem valTo_some {l : List (Int × Int)} {t : Int} (h : x1 l 0 ≤ t) (k : Nat) : ∃ v, valTo l t (k + 1) = some v := by
  induction k with
  | zero => exact ⟨x2 l 0, if_pos h⟩
  | succ k ih =>
    by_cases hx : x1 l (k + 1) ≤ t
    · exact ⟨_, if_pos hx⟩
    · obtain ⟨v, hv⟩ := ih
      exact ⟨v, (if_neg hx : valTo l t (k + 1 + 1) = valTo l t (k + 1)).trans hv⟩
theorem at_one {l : List (Int × Int)} (hv : vS l = true) (h0 : 0 < l.length) (h1 : x1 l 0 ≠ 1000) : (resL l (x1 l 0) (x1 l 0 + 1) 1).length = 1 := by
  have hb := VS_at (VS_of hv) h0
  have hok : resOk l (x1 l 0) (x1 l 0 + 1) 1 := ⟨hv, ⟨by omega, by omega⟩, ⟨by omega, by omega⟩, ⟨by omega, by omega⟩, by omega⟩
  rw [resL_ok hok, resF_step l 1 15 (by omega), resF_end l 1 15 (by omega), valO_ok hv]
  obtain ⟨k, hk⟩ : ∃ k, l.length = k + 1 := ⟨l.length - 1, by omega⟩
  obtain ⟨v, hw⟩ := valTo_some (Int.le_refl (x1 l 0)) k
  rw [hk, hw]; rfl
end Go.Proofs.Ytgifppadakmmiaa
