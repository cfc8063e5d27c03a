/-
  Plain functions: the numbers of the rows of a catalog that meet a condition.
-/
import Derived.Test.YtmnfcfhnmndakaaCatFn
namespace Go.Proofs.Ytmnfcfhnmndakaa
open Go.RowKit
def noL (l : List Lb) (x : Lb) (k : Nat) : Prop := ∀ j, j < k → at0 l j ≠ x
theorem noL_zero (l : List Lb) (x : Lb) : noL l x 0 := fun j hj => absurd hj (by omega)
theorem noL_succ {l : List Lb} {x : Lb} {k : Nat} (h : noL l x k) (hk : at0 l k ≠ x) : noL l x (k + 1) := fun j hj => by
  rcases Nat.lt_or_ge j k with h1 | h1
  · exact h j h1
  · have : j = k := by omega
    subst this; exact hk
def hasL (l : List Lb) (x : Lb) : Bool := l.any fun y => decide (y = x)
theorem hasL_iff {l : List Lb} {x : Lb} : hasL l x = true ↔ x ∈ l := by
  unfold hasL
  rw [List.any_eq_true]
  constructor
  · rintro ⟨y, hy, e⟩; rw [← of_decide_eq_true e]; exact hy
  · exact fun h => ⟨x, h, decide_eq_true rfl⟩
theorem hasL_no {l : List Lb} {x : Lb} (h : ¬ x ∈ l) : hasL l x = false := by
  rcases e : hasL l x with _ | _
  · rfl
  · exact absurd (hasL_iff.1 e) h
theorem hasL_at {l : List Lb} {x : Lb} {k : Nat} (hk : k < l.length) (h : at0 l k = x) : hasL l x = true := hasL_iff.2 (by rw [← h]; exact at0_mem hk)
theorem hasL_none {l : List Lb} {x : Lb} {k : Nat} (h : noL l x k) (hk : l.length ≤ k) : hasL l x = false := hasL_no fun hm => by
  obtain ⟨i, hi, e⟩ := mem_at0 hm
  exact h i (by omega) e
/-- Whether x is among the first k. -/
def hasTo (l : List Lb) (x : Lb) (k : Nat) : Bool := hasL (l.take k) x
theorem hasTo_zero (l : List Lb) (x : Lb) : hasTo l x 0 = false := by unfold hasTo; rw [List.take_zero]; rfl
theorem hasTo_succ {l : List Lb} {x : Lb} {k : Nat} (hk : k < l.length) (hne : at0 l k ≠ x) : hasTo l x (k + 1) = hasTo l x k := by
  unfold hasTo hasL
  rw [take_succ_at l hk, List.any_append]
  simp [hne]
theorem hasTo_hit {l : List Lb} {x : Lb} {k : Nat} (hk : k < l.length) (h : at0 l k = x) : hasTo l x (k + 1) = true :=
  hasL_iff.2 (by rw [take_succ_at l hk, h]; simp)
theorem hasTo_fresh {l : List Lb} {x : Lb} {k : Nat} (hv : vL l = true) (hk : k < l.length) (h : at0 l k = x) : hasTo l x k = false := hasL_no fun hm => by
  obtain ⟨i, hi, e⟩ := mem_at0 hm
  rw [List.length_take] at hi
  rw [at0_take _ (by omega)] at e
  exact VL_ne (VL_of hv) (i := i) (j := k) (by omega) (by omega) hk (by rw [e, h])
theorem hasTo_end {l : List Lb} {x : Lb} {k : Nat} (hk : l.length = k) : hasTo l x k = hasL l x := by unfold hasTo; rw [List.take_of_length_le (by omega)]
/-- The numbers below k of the rows that meet f. -/
def posTo (f : List Lb → Bool) (C : Ct) : Nat → List Int
  | 0 => []
  | k + 1 => posTo f C k ++ (if f (at0 C k) then [(k : Int)] else [])
theorem posTo_yes {f : List Lb → Bool} {C : Ct} {k : Nat} (h : f (at0 C k) = true) : posTo f C (k + 1) = posTo f C k ++ [(k : Int)] := by
  show posTo f C k ++ _ = _; rw [if_pos h]
theorem posTo_no {f : List Lb → Bool} {C : Ct} {k : Nat} (h : f (at0 C k) = false) : posTo f C (k + 1) = posTo f C k := by
  show posTo f C k ++ _ = _; rw [if_neg (by rw [h]; simp), List.append_nil]
theorem posTo_len (f : List Lb → Bool) (C : Ct) : ∀ k, (posTo f C k).length ≤ k
  | 0 => Nat.le_refl _
  | k + 1 => by
    have := posTo_len f C k
    rcases h : f (at0 C k) with _ | _
    · rw [posTo_no h]; omega
    · rw [posTo_yes h, List.length_append, List.length_singleton]; omega
theorem posTo_mem {f : List Lb → Bool} {C : Ct} {x : Int} : ∀ {k : Nat}, x ∈ posTo f C k ↔ ∃ i : Nat, i < k ∧ x = (i : Int) ∧ f (at0 C i) = true
  | 0 => by constructor; intro h; exact absurd h (by simp [posTo]); rintro ⟨i, hi, _⟩; omega
  | k + 1 => by
    have ih := posTo_mem (f := f) (C := C) (x := x) (k := k)
    rcases h : f (at0 C k) with _ | _
    · rw [posTo_no h, ih]
      constructor
      · rintro ⟨i, hi, h1, h2⟩; exact ⟨i, by omega, h1, h2⟩
      · rintro ⟨i, hi, h1, h2⟩
        rcases Nat.lt_or_ge i k with h3 | h3
        · exact ⟨i, h3, h1, h2⟩
        · have : i = k := by omega
          subst this; rw [h] at h2; cases h2
    · rw [posTo_yes h, List.mem_append, List.mem_singleton, ih]
      constructor
      · rintro (⟨i, hi, h1, h2⟩ | h1)
        · exact ⟨i, by omega, h1, h2⟩
        · exact ⟨k, by omega, h1, h⟩
      · rintro ⟨i, hi, h1, h2⟩
        rcases Nat.lt_or_ge i k with h3 | h3
        · exact .inl ⟨i, h3, h1, h2⟩
        · have : i = k := by omega
          subst this; exact .inr h1
theorem posTo_ext {f f' : List Lb → Bool} {C : Ct} : ∀ {k : Nat}, (∀ i, i < k → f (at0 C i) = f' (at0 C i)) → posTo f C k = posTo f' C k
  | 0, _ => rfl
  | k + 1, h => by
    show posTo f C k ++ _ = posTo f' C k ++ _
    rw [posTo_ext (fun i hi => h i (by omega)), h k (by omega)]
def psV (C : Ct) (x : Lb) : List Int := if vC C = true then posTo (fun l => hasL l x) C C.length else []
theorem psV_no {C : Ct} {x : Lb} (h : vC C = false) : psV C x = [] := if_neg fun k => by rw [h] at k; cases k
theorem psV_ok {C : Ct} {x : Lb} (h : vC C = true) : psV C x = posTo (fun l => hasL l x) C C.length := if_pos h
def slV (C : Ct) (want : List Mt) (f : List Lb → Bool) : List Int := if vC C = true ∧ vM want = true then posTo f C C.length else []
theorem slV_no1 {C : Ct} {want : List Mt} {f : List Lb → Bool} (h : vC C = false) : slV C want f = [] := if_neg fun k => by rw [h] at k; cases k.1
theorem slV_no2 {C : Ct} {want : List Mt} {f : List Lb → Bool} (h : vM want = false) : slV C want f = [] := if_neg fun k => by rw [h] at k; cases k.2
theorem slV_ok {C : Ct} {want : List Mt} {f : List Lb → Bool} (h : vC C = true) (h' : vM want = true) : slV C want f = posTo f C C.length := if_pos ⟨h, h'⟩
end Go.Proofs.Ytmnfcfhnmndakaa
