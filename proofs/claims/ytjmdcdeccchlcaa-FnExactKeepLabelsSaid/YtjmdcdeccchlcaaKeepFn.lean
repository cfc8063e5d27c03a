/-
  Plain functions: labels with some names.
-/
import Derived.Test.YtjmdcdeccchlcaaLabFn2
namespace Go.Proofs.Ytjmdcdeccchlcaa
open Go.RowKit
theorem eqB_comm (a b : ByteArray) : eqB a b = eqB b a := by
  rw [Bool.eq_iff_iff, eqB_iff, eqB_iff]; exact ⟨fun h => h.symm, fun h => h.symm⟩
def hasN (names : List ByteArray) (s : ByteArray) : Bool := names.any fun t => eqB t s
theorem hasN_iff {names : List ByteArray} {s : ByteArray} : hasN names s = true ↔ s ∈ names := by
  unfold hasN
  rw [List.any_eq_true]
  constructor
  · rintro ⟨t, h1, h2⟩; rw [eqB_iff] at h2; subst h2; exact h1
  · intro h; exact ⟨s, h, eqB_refl s⟩
def noIn (names : List ByteArray) (s : ByteArray) (k : Nat) : Prop := ∀ j, j < k → eqB s (at0 names j) = false
theorem noIn_zero (names : List ByteArray) (s : ByteArray) : noIn names s 0 := fun j hj => absurd hj (by omega)
theorem noIn_succ {names : List ByteArray} {s : ByteArray} {k : Nat} (h : noIn names s k) (hk : eqB s (at0 names k) = false) : noIn names s (k + 1) := fun j hj => by
  rcases Nat.lt_or_ge j k with h1 | h1
  · exact h j h1
  · have : j = k := by omega
    subst this; exact hk
theorem hasN_none {names : List ByteArray} {s : ByteArray} {k : Nat} (h : noIn names s k) (hk : names.length = k) : hasN names s = false := by
  rcases hq : hasN names s with _ | _
  · rfl
  · obtain ⟨i, hi, e⟩ := mem_at0 (hasN_iff.1 hq)
    have := h i (by omega)
    rw [e, eqB_refl] at this; cases this
theorem hasN_at {names : List ByteArray} {s : ByteArray} {k : Nat} (hk : k < names.length) (h : eqB s (at0 names k) = true) : hasN names s = true := by
  rw [eqB_iff] at h; subst h; exact hasN_iff.2 (at0_mem hk)
theorem hasN_take_zero (names : List ByteArray) (s : ByteArray) : hasN (names.take 0) s = false := rfl
theorem hasN_take_succ {names : List ByteArray} {s : ByteArray} {k : Nat} (hk : k < names.length) : hasN (names.take (k + 1)) s = (hasN (names.take k) s || eqB (at0 names k) s) := by
  rw [take_succ_at names hk]; unfold hasN; rw [List.any_append]; simp
theorem hasN_take_all {names : List ByteArray} {s : ByteArray} {k : Nat} (hk : names.length ≤ k) : hasN (names.take k) s = hasN names s := by rw [List.take_of_length_le hk]
def keepL (l : List Lb) (names : List ByteArray) : List Lb := l.filter fun x => hasN names x.1
def keepV (l : List Lb) (names : List ByteArray) : List Lb := if vL l then keepL l names else []
theorem keepV_no {l : List Lb} {names : List ByteArray} (h : vL l = false) : keepV l names = [] := by unfold keepV; rw [h]; rfl
theorem keepV_ok {l : List Lb} {names : List ByteArray} (h : vL l = true) : keepV l names = keepL l names := by unfold keepV; rw [if_pos h]
theorem keepL_zero (l : List Lb) (names : List ByteArray) : keepL (l.take 0) names = [] := rfl
theorem keepL_yes {l : List Lb} {names : List ByteArray} {k : Nat} (hk : k < l.length) (h : hasN names (at0 l k).1 = true) : keepL (l.take (k + 1)) names = keepL (l.take k) names ++ [((at0 l k).1, (at0 l k).2)] := by
  rw [take_succ_at l hk]; unfold keepL; rw [List.filter_append]; simp [h]
theorem keepL_not {l : List Lb} {names : List ByteArray} {k : Nat} (hk : k < l.length) (h : hasN names (at0 l k).1 = false) : keepL (l.take (k + 1)) names = keepL (l.take k) names := by
  rw [take_succ_at l hk]; unfold keepL; rw [List.filter_append]; simp [h]
theorem keepL_all {l : List Lb} {names : List ByteArray} {k : Nat} (hk : l.length ≤ k) : keepL (l.take k) names = keepL l names := by rw [List.take_of_length_le hk]
theorem keepL_len (l : List Lb) (names : List ByteArray) : (keepL l names).length ≤ l.length := List.length_filter_le _ _
theorem keepL_take_len (l : List Lb) (names : List ByteArray) (k : Nat) : (keepL (l.take k) names).length ≤ k := Nat.le_trans (keepL_len _ _) (by rw [List.length_take]; omega)
theorem keepV_len (l : List Lb) (names : List ByteArray) : (keepV l names).length ≤ l.length := by
  unfold keepV; split
  · exact keepL_len _ _
  · simp
end Go.Proofs.Ytjmdcdeccchlcaa
