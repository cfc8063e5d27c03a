/-
  Plain laws: the value of a label among valid labels.
-/
import Derived.Test.YtmnfcfhnmndakaaLabFn2
namespace Go.Proofs.Ytmnfcfhnmndakaa
open Go.RowKit
def hasNm (l : List Lb) (s : ByteArray) : Bool := l.any fun x => eqB x.1 s
theorem hasNm_zero (l : List Lb) (s : ByteArray) : hasNm (l.take 0) s = false := rfl
theorem hasNm_succ {l : List Lb} {s : ByteArray} {k : Nat} (hk : k < l.length) : hasNm (l.take (k + 1)) s = (hasNm (l.take k) s || eqB (at0 l k).1 s) := by
  rw [take_succ_at l hk]; unfold hasNm; rw [List.any_append]; simp
theorem hasNm_all {l : List Lb} {s : ByteArray} {k : Nat} (hk : l.length ≤ k) : hasNm (l.take k) s = hasNm l s := by rw [List.take_of_length_le hk]
theorem valB_own {l : List Lb} (h : vL l = true) {i : Nat} (hi : i < l.length) : valB l (at0 l i).1 = (at0 l i).2 :=
  valB_at (k := i) (fun j hj => eqB_no.2 (VL_ne (VL_of h) (by omega) (by omega) hi)) hi (eqB_refl _)
theorem emB_okW {s : ByteArray} (h : okW s = true) : emB s = false := by
  have h1 := (okW_of h).1
  unfold emB
  rw [Lib.toList_data]
  rcases hq : s.data.toList with _ | ⟨a, b⟩
  · have : s.data.toList.length = 0 := by rw [hq]; rfl
    rw [Array.length_toList] at this
    have h2 : s.size = s.data.size := rfl
    omega
  · rfl
theorem emB_empty : emB ByteArray.empty = true := by unfold emB; rw [Lib.toList_data]; rfl
/-- A label has a value just where there is one of its name. -/
theorem val_em {l : List Lb} (h : vL l = true) (s : ByteArray) : emB (valB l s) = !hasNm l s := by
  rcases hq : hasNm l s with _ | _
  · have : noName l s l.length := fun j hj => by
      rcases hz : eqB (at0 l j).1 s with _ | _
      · rfl
      · have : hasNm l s = true := by
          unfold hasNm; rw [List.any_eq_true]; exact ⟨_, at0_mem hj, hz⟩
        rw [hq] at this; cases this
    rw [valB_none this rfl, emB_empty]; rfl
  · unfold hasNm at hq
    rw [List.any_eq_true] at hq
    obtain ⟨x, hx, he⟩ := hq
    obtain ⟨i, hi, rfl⟩ := mem_at0 hx
    rw [eqB_iff] at he
    subst he
    rw [valB_own h hi, emB_okW ((VL_of h).2 i hi).2.1]; rfl
end Go.Proofs.Ytmnfcfhnmndakaa
