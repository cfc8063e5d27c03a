/-
  Catalogs: rows of labels, plain functions on them.
-/
import Derived.Test.YtmnfcfhnmndakaaEqL
namespace Go.Proofs.Ytmnfcfhnmndakaa
open Go.RowKit
abbrev Ct := List (List Lb)
/-- A catalog that is read: a row of slices of labels. -/
def RdC (w : World) (B : Nat) (A : Option Addr) (C : Ct) : Prop :=
  0 < C.length → ∃ b off, A = some ⟨b, off, none⟩ ∧ b < B ∧ ∀ i, i < C.length → ∃ a m c, w.cell? ⟨b, off + i, none⟩ = some (.slice a m c) ∧ (at0 C i).length = m ∧ m ≤ c ∧ RdL w B a (at0 C i)
section
variable {w w' : World} {B B' : Nat} {A : Option Addr} {C : Ct}
theorem RdC.below (h : RdC w B A C) (hb : Below B w w') : RdC w' B A C := fun h0 => by
  obtain ⟨b, off, e, hlt, hc⟩ := h h0
  refine ⟨b, off, e, hlt, fun i hi => ?_⟩
  obtain ⟨a, m, c, h1, h2, h3, h4⟩ := hc i hi
  exact ⟨a, m, c, (hb.cell (p := ⟨b, off + i, none⟩) hlt).trans h1, h2, h3, RdG.below h4 hb⟩
theorem RdC.mono (h : RdC w B A C) (hB : B ≤ B') : RdC w B' A C := fun h0 => by
  obtain ⟨b, off, e, hlt, hc⟩ := h h0
  refine ⟨b, off, e, Nat.lt_of_lt_of_le hlt hB, fun i hi => ?_⟩
  obtain ⟨a, m, c, h1, h2, h3, h4⟩ := hc i hi
  exact ⟨a, m, c, h1, h2, h3, RdG.mono h4 hB⟩
theorem RdC.next (h : RdC w w.heap.size A C) (hb : Below w.heap.size w w') : RdC w' w'.heap.size A C := (h.below hb).mono hb.size
theorem RdC.take (h : RdC w B A C) (k : Nat) : RdC w B A (C.take k) := fun h0 => by
  rw [List.length_take] at h0
  obtain ⟨b, off, e, hlt, hc⟩ := h (by omega)
  refine ⟨b, off, e, hlt, fun i hi => ?_⟩
  rw [List.length_take] at hi
  rw [at0_take _ (by omega)]
  exact hc i (by omega)
theorem RdC.nil (A : Option Addr) (B : Nat) (w : World) : RdC w B A [] := fun h0 => absurd h0 (by simp)
theorem RdC.at_ (h : RdC w B A C) {n : Nat} (hn : C.length = n) {k : Nat} (hk : k < n) : ∃ b off, A = some ⟨b, off, none⟩ ∧ b < B ∧ ∃ a m c, w.cell? ⟨b, off + k, none⟩ = some (.slice a m c) ∧ (at0 C k).length = m ∧ m ≤ c ∧ RdL w B a (at0 C k) := by
  obtain ⟨b, off, e, hlt, hc⟩ := h (by omega)
  exact ⟨b, off, e, hlt, hc k (by omega)⟩
end
def SzC (C : Ct) : Prop := ∀ i, i < C.length → SzL (at0 C i)

/-! The place of labels. -/
def noC (C : Ct) (l : List Lb) (k : Nat) : Prop := ∀ j, j < k → at0 C j ≠ l
instance (C : Ct) (l : List Lb) (k : Nat) : Decidable (noC C l k) := by unfold noC; infer_instance
theorem noC_zero (C : Ct) (l : List Lb) : noC C l 0 := fun j hj => absurd hj (by omega)
theorem noC_succ {C : Ct} {l : List Lb} {k : Nat} (h : noC C l k) (hk : at0 C k ≠ l) : noC C l (k + 1) := fun j hj => by
  rcases Nat.lt_or_ge j k with h1 | h1
  · exact h j h1
  · have : j = k := by omega
    subst this; exact hk
theorem noC_le {C : Ct} {l : List Lb} {k m : Nat} (h : noC C l k) (hm : m ≤ k) : noC C l m := fun j hj => h j (by omega)
theorem noC_take {C : Ct} {l : List Lb} {k m : Nat} (hm : m ≤ k) : noC (C.take k) l m ↔ noC C l m :=
  ⟨fun h j hj => by rw [← at0_take C (k := k) (by omega)]; exact h j hj, fun h j hj => by rw [at0_take C (k := k) (by omega)]; exact h j hj⟩
def plc : Ct → List Lb → Int
  | [], _ => -1
  | x :: t, l => if x = l then 0 else if plc t l < 0 then -1 else plc t l + 1
theorem at0_zero {x : List Lb} {t : Ct} : at0 (x :: t) 0 = x := rfl
theorem at0_succ {x : List Lb} {t : Ct} {k : Nat} : at0 (x :: t) (k + 1) = at0 t k := by simp [at0]
theorem plc_hit : ∀ {C : Ct} {l : List Lb} {k : Nat}, k < C.length → noC C l k → at0 C k = l → plc C l = k
  | [], _, _, h, _, _ => absurd h (by simp)
  | x :: t, l, 0, _, _, h => by rw [at0_zero] at h; unfold plc; rw [if_pos h]; rfl
  | x :: t, l, k + 1, h, hn, he => by
    have h0 : x ≠ l := hn 0 (by omega)
    have := plc_hit (C := t) (l := l) (k := k) (by simpa using h) (fun j hj => by have := hn (j + 1) (by omega); rwa [at0_succ] at this) (by rwa [at0_succ] at he)
    unfold plc; rw [if_neg h0, this, if_neg (by omega)]; omega
theorem plc_miss : ∀ {C : Ct} {l : List Lb} {k : Nat}, noC C l k → C.length ≤ k → plc C l = -1
  | [], _, _, _, _ => rfl
  | x :: t, l, k, hn, hk => by
    rw [List.length_cons] at hk
    have h0 : x ≠ l := hn 0 (by omega)
    have := plc_miss (C := t) (l := l) (k := k - 1) (fun j hj => by have := hn (j + 1) (by omega); rwa [at0_succ] at this) (by omega)
    unfold plc; rw [if_neg h0, this, if_pos (by omega)]
theorem plc_cases : ∀ (C : Ct) (l : List Lb), (plc C l = -1 ∧ noC C l C.length) ∨ ∃ k, k < C.length ∧ plc C l = ((k : Nat) : Int) ∧ noC C l k ∧ at0 C k = l := fun C l => by
  by_cases h : noC C l C.length
  · exact .inl ⟨plc_miss h (Nat.le_refl _), h⟩
  · refine .inr ?_
    have : ∀ k, k ≤ C.length → ¬ noC C l k → ∃ j, j < k ∧ noC C l j ∧ at0 C j = l := by
      intro k
      induction k with
      | zero => exact fun _ h => absurd (noC_zero C l) h
      | succ k ih =>
        intro hk hn
        by_cases h1 : noC C l k
        · by_cases h2 : at0 C k = l
          · exact ⟨k, by omega, h1, h2⟩
          · exact absurd (noC_succ h1 h2) hn
        · obtain ⟨j, hj, h3, h4⟩ := ih (by omega) h1
          exact ⟨j, by omega, h3, h4⟩
    obtain ⟨j, hj, h3, h4⟩ := this _ (Nat.le_refl _) h
    exact ⟨j, hj, plc_hit hj h3 h4, h3, h4⟩
theorem plc_bd (C : Ct) (l : List Lb) : -1 ≤ plc C l ∧ plc C l < C.length := by
  rcases plc_cases C l with ⟨h, _⟩ | ⟨k, hk, h, _⟩ <;> omega
theorem plc_take {C : Ct} {l : List Lb} {k : Nat} (hk : k ≤ C.length) : plc (C.take k) l < 0 ↔ noC C l k := by
  have hl : (C.take k).length = k := by rw [List.length_take]; omega
  rcases plc_cases (C.take k) l with ⟨h, h1⟩ | ⟨j, hj, h, h1, h2⟩
  · rw [hl, noC_take (Nat.le_refl _)] at h1
    exact ⟨fun _ => h1, fun _ => by omega⟩
  · refine ⟨fun h3 => absurd h3 (by omega), fun h3 => ?_⟩
    rw [hl] at hj
    rw [at0_take _ hj] at h2
    exact absurd h2 (h3 j hj)

/-! Valid catalogs. -/
def okCo (C : Ct) (k : Nat) : Prop := ∀ j, j < k → vL (at0 C j) = true ∧ noC C (at0 C j) j
instance (C : Ct) (k : Nat) : Decidable (okCo C k) := by unfold okCo; infer_instance
def VC (C : Ct) : Prop := C.length ≤ 8 ∧ okCo C C.length
instance (C : Ct) : Decidable (VC C) := by unfold VC; infer_instance
def vC (C : Ct) : Bool := decide (VC C)
theorem okCo_zero (C : Ct) : okCo C 0 := fun j hj => absurd hj (by omega)
theorem okCo_succ {C : Ct} {k : Nat} (h : okCo C k) (hv : vL (at0 C k) = true) (hn : noC C (at0 C k) k) : okCo C (k + 1) := fun j hj => by
  rcases Nat.lt_or_ge j k with h1 | h1
  · exact h j h1
  · have : j = k := by omega
    subst this; exact ⟨hv, hn⟩
theorem vC_long {C : Ct} (h : 8 < C.length) : vC C = false := decide_eq_false fun k => by have := k.1; omega
theorem vC_bad1 {C : Ct} {k : Nat} (hk : k < C.length) (h : vL (at0 C k) = false) : vC C = false := decide_eq_false fun q => by have := (q.2 k hk).1; rw [h] at this; cases this
theorem vC_bad2 {C : Ct} {k : Nat} (hk : k < C.length) (h : ¬ noC C (at0 C k) k) : vC C = false := decide_eq_false fun q => h (q.2 k hk).2
theorem vC_good {C : Ct} {k : Nat} (h8 : C.length ≤ 8) (h : okCo C k) (hk : C.length = k) : vC C = true := decide_eq_true ⟨h8, by rw [hk]; exact h⟩
theorem VC_of {C : Ct} (h : vC C = true) : VC C := of_decide_eq_true h
theorem vC_take {C : Ct} (h : vC C = true) (k : Nat) : vC (C.take k) = true := by
  have hV := VC_of h
  have hl : (C.take k).length = min k C.length := List.length_take
  refine vC_good (k := (C.take k).length) (by rw [hl]; have := hV.1; omega) (fun j hj => ?_) rfl
  rw [hl] at hj
  rw [at0_take _ (by omega)]
  exact ⟨(hV.2 j (by omega)).1, (noC_take (by omega)).2 (hV.2 j (by omega)).2⟩
theorem vC_twice {C : Ct} (h : 0 < C.length) : vC (C ++ [at0 C 0]) = false :=
  vC_bad2 (k := C.length) (by simp) (fun hn => by
    rw [at0_append_r _ _ (Nat.le_refl _), Nat.sub_self] at hn
    have h0 := hn 0 h
    rw [at0_append _ _ h] at h0
    exact h0 rfl)
theorem vC_own {C : Ct} (h : vC C = true) {k : Nat} (hk : k < C.length) : plc C (at0 C k) = k := plc_hit hk ((VC_of h).2 k hk).2 rfl
end Go.Proofs.Ytmnfcfhnmndakaa
