/-
  Plain laws of the order of texts.
-/
import Derived.Test.YtmnfcfhnmndakaaLabFn
import Derived.Lib.Bytealg
namespace Go.Proofs.Ytmnfcfhnmndakaa
open Go.RowKit
open Go.Op (bytesLess)
theorem bl_irrefl : ∀ a : List UInt8, bytesLess a a = false
  | [] => rfl
  | a :: x => by
    have := bl_irrefl x
    simp [bytesLess, this]
theorem bl_trans : ∀ a b c : List UInt8, bytesLess a b = true → bytesLess b c = true → bytesLess a c = true
  | _, _, [], _, h => by simp [bytesLess] at h
  | _, [], _ :: _, h, _ => by simp [bytesLess] at h
  | [], _ :: _, _ :: _, _, _ => rfl
  | a :: x, b :: y, c :: z, h, k => by
    simp only [bytesLess, Bool.or_eq_true, Bool.and_eq_true, decide_eq_true_eq, beq_iff_eq] at h k ⊢
    rcases h with h | ⟨h, h'⟩
    · rcases k with k | ⟨k, _⟩
      · exact .inl (UInt8.lt_trans h k)
      · subst k; exact .inl h
    · subst h
      rcases k with k | ⟨k, k'⟩
      · exact .inl k
      · exact .inr ⟨k, bl_trans x y z h' k'⟩
theorem bl_total : ∀ a b : List UInt8, bytesLess a b = false → bytesLess b a = false → a = b
  | [], [], _, _ => rfl
  | [], _ :: _, h, _ => by simp [bytesLess] at h
  | _ :: _, [], _, h => by simp [bytesLess] at h
  | a :: x, b :: y, h, k => by
    simp only [bytesLess, Bool.or_eq_false_iff, Bool.and_eq_false_iff, decide_eq_false_iff_not, beq_eq_false_iff_ne, ne_eq] at h k
    have h1 : ¬ a.toNat < b.toNat := fun q => h.1 (UInt8.lt_iff_toNat_lt.2 q)
    have h2 : ¬ b.toNat < a.toNat := fun q => k.1 (UInt8.lt_iff_toNat_lt.2 q)
    have e : a = b := UInt8.toNat_inj.1 (by omega)
    subst e
    rcases h.2 with h3 | h3
    · exact absurd rfl h3
    · rcases k.2 with k3 | k3
      · exact absurd rfl k3
      · rw [bl_total x y h3 k3]
theorem bl_asymm {a b : List UInt8} (h : bytesLess a b = true) : bytesLess b a = false := by
  rcases hq : bytesLess b a with _ | _
  · rfl
  · have := bl_trans a b a h hq
    rw [bl_irrefl] at this; cases this
theorem cmp_bl : ∀ a b : List UInt8, Lib.compareBytes a b = if bytesLess a b then -1 else if bytesLess b a then 1 else 0
  | [], [] => by simp [Lib.compareBytes, bytesLess]
  | [], _ :: _ => by simp [Lib.compareBytes, bytesLess]
  | _ :: _, [] => by simp [Lib.compareBytes, bytesLess]
  | a :: x, b :: y => by
    unfold Lib.compareBytes
    by_cases h : a < b
    · simp [bytesLess, h]
    · by_cases k : b < a
      · have e : ¬ a = b := by rintro rfl; exact h k
        have e' : ¬ b = a := fun q => e q.symm
        simp [bytesLess, h, k, e]
      · have h1 : ¬ a.toNat < b.toNat := fun q => h (UInt8.lt_iff_toNat_lt.2 q)
        have h2 : ¬ b.toNat < a.toNat := fun q => k (UInt8.lt_iff_toNat_lt.2 q)
        have e : a = b := UInt8.toNat_inj.1 (by omega)
        subst e
        rw [if_neg h, if_neg k, cmp_bl x y]
        simp [bytesLess]
theorem toList_inj {a b : ByteArray} (h : a.toList = b.toList) : a = b := by
  rw [Lib.toList_data, Lib.toList_data] at h
  exact ByteArray.ext (Array.toList_inj.1 h)
theorem eqB_iff {a b : ByteArray} : eqB a b = true ↔ a = b := by
  unfold eqB
  rw [beq_iff_eq]
  exact ⟨toList_inj, fun h => by rw [h]⟩
theorem eqB_refl (a : ByteArray) : eqB a a = true := eqB_iff.2 rfl
theorem eqB_no {a b : ByteArray} : eqB a b = false ↔ a ≠ b := by
  rw [← Bool.not_eq_true, eqB_iff]
theorem ltB_irrefl (a : ByteArray) : ltB a a = false := bl_irrefl _
theorem ltB_trans {a b c : ByteArray} (h : ltB a b = true) (k : ltB b c = true) : ltB a c = true := bl_trans _ _ _ h k
theorem ltB_asymm {a b : ByteArray} (h : ltB a b = true) : ltB b a = false := bl_asymm h
theorem ltB_total {a b : ByteArray} (h : ltB a b = false) (k : ltB b a = false) : a = b := toList_inj (bl_total _ _ h k)
theorem leB_no {a b : ByteArray} : leB a b = false ↔ ltB b a = true := by
  unfold leB
  constructor
  · intro h
    rw [Bool.or_eq_false_iff] at h
    rcases hq : ltB b a with _ | _
    · have := ltB_total h.1 hq
      exact absurd this (eqB_no.1 h.2)
    · rfl
  · intro h
    rw [ltB_asymm h, Bool.false_or, eqB_no]
    rintro rfl
    rw [ltB_irrefl] at h; cases h
end Go.Proofs.Ytmnfcfhnmndakaa
