/-
  Plain functions: what makes labels and matchers valid.
-/
import Derived.Test.YtmnfcfhnmndakaaOrdFn
namespace Go.Proofs.Ytmnfcfhnmndakaa
open Go.RowKit
def okLb (l : List Lb) (k : Nat) : Prop := okW (at0 l k).1 = true ∧ okW (at0 l k).2 = true ∧ (0 < k → leB (at0 l k).1 (at0 l (k - 1)).1 = false)
instance (l : List Lb) (k : Nat) : Decidable (okLb l k) := by unfold okLb; infer_instance
def okLo (l : List Lb) (k : Nat) : Prop := ∀ j, j < k → okLb l j
instance (l : List Lb) (k : Nat) : Decidable (okLo l k) := by unfold okLo; infer_instance
def VL (l : List Lb) : Prop := l.length ≤ 4 ∧ okLo l l.length
instance (l : List Lb) : Decidable (VL l) := by unfold VL; infer_instance
def vL (l : List Lb) : Bool := decide (VL l)
theorem okLo_zero (l : List Lb) : okLo l 0 := fun j hj => absurd hj (by omega)
theorem okLo_succ {l : List Lb} {k : Nat} (h : okLo l k) (hk : okLb l k) : okLo l (k + 1) := fun j hj => by
  rcases Nat.lt_or_ge j k with h1 | h1
  · exact h j h1
  · have : j = k := by omega
    subst this; exact hk
theorem vL_long {l : List Lb} (h : 4 < l.length) : vL l = false := decide_eq_false fun hh => by have := hh.1; omega
theorem vL_bad {l : List Lb} {k : Nat} (hk : k < l.length) (h : ¬ okLb l k) : vL l = false := decide_eq_false fun hh => h (hh.2 k hk)
theorem vL_good {l : List Lb} {k : Nat} (h4 : l.length ≤ 4) (h : okLo l k) (hk : l.length = k) : vL l = true := decide_eq_true ⟨h4, by rw [hk]; exact h⟩
theorem VL_of {l : List Lb} (h : vL l = true) : VL l := of_decide_eq_true h
theorem VL_lt {l : List Lb} (h : VL l) {i j : Nat} (hij : i < j) (hj : j < l.length) : ltB (at0 l i).1 (at0 l j).1 = true := by
  induction j with
  | zero => omega
  | succ j ih =>
    have h1 := leB_no.1 ((h.2 (j + 1) hj).2.2 (by omega))
    rw [Nat.add_sub_cancel] at h1
    rcases Nat.lt_or_ge i j with h2 | h2
    · exact ltB_trans (ih h2 (by omega)) h1
    · have : i = j := by omega
      subst this; exact h1
theorem VL_ne {l : List Lb} (h : VL l) {i j : Nat} (hij : i ≠ j) (hi : i < l.length) (hj : j < l.length) : (at0 l i).1 ≠ (at0 l j).1 := fun e => by
  rcases Nat.lt_or_ge i j with h1 | h1
  · have := VL_lt h h1 hj
    rw [e, ltB_irrefl] at this; cases this
  · have := VL_lt h (show j < i by omega) hi
    rw [e, ltB_irrefl] at this; cases this
/-- What ascends by pairs is valid. -/
theorem VL_mk {l : List Lb} (h4 : l.length ≤ 4) (h1 : ∀ i, i < l.length → okW (at0 l i).1 = true ∧ okW (at0 l i).2 = true) (h2 : ∀ i j, i < j → j < l.length → ltB (at0 l i).1 (at0 l j).1 = true) : vL l = true :=
  decide_eq_true ⟨h4, fun i hi => ⟨(h1 i hi).1, (h1 i hi).2, fun h0 => leB_no.2 (h2 (i - 1) i (by omega) hi)⟩⟩
theorem vL_nil : vL [] = true := rfl
/-- A part of valid labels is valid. -/
theorem vL_sub {l l' : List Lb} (h : vL l = true) (hs : l'.Sublist l) : vL l' = true := by
  have hV := VL_of h
  have hp : l.Pairwise (fun a b => ltB a.1 b.1 = true) := List.pairwise_iff_getElem.2 fun i j hi hj hij => by
    have := VL_lt hV hij hj
    rwa [at0_get hi, at0_get hj] at this
  have hp' := hp.sublist hs
  refine VL_mk (Nat.le_trans hs.length_le hV.1) (fun i hi => ?_) (fun i j hij hj => ?_)
  · obtain ⟨j, hj, e⟩ := mem_at0 (hs.subset (at0_mem hi))
    rw [← e]
    exact ⟨(hV.2 j hj).1, (hV.2 j hj).2.1⟩
  · have := List.pairwise_iff_getElem.1 hp' i j (by omega) hj hij
    rw [at0_get (by omega), at0_get hj]; exact this

def emB (s : ByteArray) : Bool := s.toList.isEmpty
def okMb (x : Mt) : Bool := okW x.1 && (emB x.2.1 || okW x.2.1)
def okMo (l : List Mt) (k : Nat) : Prop := ∀ j, j < k → okMb (at0 l j) = true
instance (l : List Mt) (k : Nat) : Decidable (okMo l k) := by unfold okMo; infer_instance
def VM (l : List Mt) : Prop := l.length ≤ 4 ∧ okMo l l.length
instance (l : List Mt) : Decidable (VM l) := by unfold VM; infer_instance
def vM (l : List Mt) : Bool := decide (VM l)
theorem okMo_zero (l : List Mt) : okMo l 0 := fun j hj => absurd hj (by omega)
theorem okMo_succ {l : List Mt} {k : Nat} (h : okMo l k) (hk : okMb (at0 l k) = true) : okMo l (k + 1) := fun j hj => by
  rcases Nat.lt_or_ge j k with h1 | h1
  · exact h j h1
  · have : j = k := by omega
    subst this; exact hk
theorem vM_long {l : List Mt} (h : 4 < l.length) : vM l = false := decide_eq_false fun hh => by have := hh.1; omega
theorem vM_bad {l : List Mt} {k : Nat} (hk : k < l.length) (h : okMb (at0 l k) = false) : vM l = false := decide_eq_false fun hh => by
  have := hh.2 k hk
  rw [h] at this; cases this
theorem vM_good {l : List Mt} {k : Nat} (h4 : l.length ≤ 4) (h : okMo l k) (hk : l.length = k) : vM l = true := decide_eq_true ⟨h4, by rw [hk]; exact h⟩
theorem VM_of {l : List Mt} (h : vM l = true) : VM l := of_decide_eq_true h

/-! The value of a label. -/
def valB : List Lb → ByteArray → ByteArray
  | [], _ => ByteArray.empty
  | x :: l, s => if eqB x.1 s then x.2 else valB l s
def lvB (l : List Lb) (s : ByteArray) : ByteArray := if vL l then valB l s else ByteArray.empty
def noName (l : List Lb) (s : ByteArray) (k : Nat) : Prop := ∀ j, j < k → eqB (at0 l j).1 s = false
theorem noName_zero (l : List Lb) (s : ByteArray) : noName l s 0 := fun j hj => absurd hj (by omega)
theorem noName_succ {l : List Lb} {s : ByteArray} {k : Nat} (h : noName l s k) (hk : eqB (at0 l k).1 s = false) : noName l s (k + 1) := fun j hj => by
  rcases Nat.lt_or_ge j k with h1 | h1
  · exact h j h1
  · have : j = k := by omega
    subst this; exact hk
theorem valB_none {l : List Lb} {s : ByteArray} {k : Nat} (h : noName l s k) (hk : l.length = k) : valB l s = ByteArray.empty := by
  induction l generalizing k with
  | nil => rfl
  | cons x l ih =>
    have h0 : eqB x.1 s = false := h 0 (by simp at hk; omega)
    show (if eqB x.1 s then x.2 else valB l s) = _
    rw [h0]
    exact ih (k := k - 1) (fun j hj => h (j + 1) (by omega)) (by simp at hk; omega)
theorem valB_at {l : List Lb} {s : ByteArray} {k : Nat} (h : noName l s k) (hk : k < l.length) (he : eqB (at0 l k).1 s = true) : valB l s = (at0 l k).2 := by
  induction l generalizing k with
  | nil => simp at hk
  | cons x l ih =>
    show (if eqB x.1 s then x.2 else valB l s) = _
    cases k with
    | zero =>
      have he' : eqB x.1 s = true := he
      rw [he']; rfl
    | succ k =>
      have h0 : eqB x.1 s = false := h 0 (by omega)
      rw [h0]
      exact ih (k := k) (fun j hj => h (j + 1) (by omega)) (by simp at hk; omega) he
theorem lvB_no {l : List Lb} {s : ByteArray} (h : vL l = false) : lvB l s = ByteArray.empty := by unfold lvB; rw [h]; rfl
theorem lvB_ok {l : List Lb} {s : ByteArray} (h : vL l = true) : lvB l s = valB l s := by unfold lvB; rw [if_pos h]
end Go.Proofs.Ytmnfcfhnmndakaa
