/-
  Plain laws: labels with some names.
-/
import Derived.Test.YtjmdcdeccchlcaaKeepFn
namespace Go.Proofs.Ytjmdcdeccchlcaa
open Go.RowKit
theorem keepL_valid {l : List Lb} (h : vL l = true) (names : List ByteArray) : vL (keepL l names) = true := vL_sub h List.filter_sublist
theorem keepV_valid (l : List Lb) (names : List ByteArray) (h : vL l = true) : vL (keepV l names) = true := by rw [keepV_ok h]; exact keepL_valid h names
theorem keepL_twice (l : List Lb) (names : List ByteArray) : keepL (keepL l names) names = keepL l names := by unfold keepL; rw [List.filter_filter]; simp
theorem keepV_twice {l : List Lb} (names : List ByteArray) (h : vL l = true) : keepV (keepV l names) names = keepV l names := by
  rw [keepV_ok (keepV_valid l names h), keepV_ok h, keepL_twice]
theorem keepV_nil {l : List Lb} (h : vL l = true) : keepV l [] = [] := by
  rw [keepV_ok h]; unfold keepL; rw [List.filter_eq_nil_iff]; intro x _; simp [hasN]
/-- All names: those of a list, and those of the labels. -/
theorem keepL_every {l : List Lb} {all : List ByteArray} (h : ∀ x ∈ l, x.1 ∈ all) : keepL l all = l := by
  unfold keepL; rw [List.filter_eq_self]; intro x hx; exact hasN_iff.2 (h x hx)
theorem keepV_every {l : List Lb} {names : List ByteArray} (h : vL l = true) : keepV l (names ++ l.map (·.1)) = l := by
  rw [keepV_ok h]
  exact keepL_every fun x hx => List.mem_append_right _ (List.mem_map_of_mem hx)
theorem SzL_keep {l : List Lb} (h : ∀ i, i < l.length → (at0 l i).1.size ≤ 9223372036854775807 ∧ (at0 l i).2.size ≤ 9223372036854775807) (names : List ByteArray) : ∀ i, i < (keepV l names).length → (at0 (keepV l names) i).1.size ≤ 9223372036854775807 ∧ (at0 (keepV l names) i).2.size ≤ 9223372036854775807 := fun i hi => by
  have hm : at0 (keepV l names) i ∈ keepV l names := at0_mem hi
  have hm2 : at0 (keepV l names) i ∈ l := by
    by_cases hv : vL l = true
    · rw [keepV_ok hv] at hm ⊢; exact (List.mem_filter.1 hm).1
    · rw [keepV_no (by simpa using hv)] at hm; simp at hm
  obtain ⟨j, hj, e⟩ := mem_at0 hm2
  rw [← e]; exact h j hj
end Go.Proofs.Ytjmdcdeccchlcaa
