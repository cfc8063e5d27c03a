/-
  Plain functions: the tier for a time; the cost.
-/
import Derived.Test.YtheckdenoomhjaaTierFn2
import Derived.Test.YtheckdenoomhjaaTierW1
namespace Go.Proofs.Ytheckdenoomhjaa
open Go.RowKit
def noneTo (l : List (Int × Int)) (now fr : Int) (k : Nat) : Prop := ∀ j, j < k → fr < oldE l now j
theorem noneTo_zero (l : List (Int × Int)) (now fr : Int) : noneTo l now fr 0 := fun j hj => absurd hj (by omega)
theorem noneTo_succ {l : List (Int × Int)} {now fr : Int} {k : Nat} (h : noneTo l now fr k) (hk : fr < oldE l now k) : noneTo l now fr (k + 1) := fun j hj => by
  rcases Nat.lt_or_ge j k with h1 | h1
  · exact h j h1
  · have : j = k := by omega
    subst this; exact hk
def findT (l : List (Int × Int)) (now fr : Int) : Int := match (List.range l.length).find? (fun i => decide (oldE l now i ≤ fr)) with | some i => (i : Int) | none => -1
def okArgs (l : List (Int × Int)) (now : Int) : Bool := vT l && inR now 0 1000
def tierF (l : List (Int × Int)) (now fr : Int) : Int := if okArgs l now && inR fr 0 1000 then findT l now fr else -1
theorem find_range (p : Nat → Bool) : ∀ (n k : Nat), k < n → (∀ j, j < k → p j = false) → p k = true → (List.range n).find? p = some k := by
  intro n
  induction n with
  | zero => intro k h; omega
  | succ n ih =>
    intro k hk h1 h2
    rw [List.range_succ, List.find?_append]
    rcases Nat.lt_or_ge k n with h | h
    · rw [ih k h h1 h2]; rfl
    · have e : k = n := by omega
      subst e
      have : (List.range k).find? p = none := by
        rw [List.find?_eq_none]
        intro x hx
        have := h1 x (List.mem_range.1 hx)
        simp [this]
      rw [this]
      simp [h2]
theorem find_range_none (p : Nat → Bool) (n : Nat) (h : ∀ j, j < n → p j = false) : (List.range n).find? p = none := by
  rw [List.find?_eq_none]
  intro x hx
  have := h x (List.mem_range.1 hx)
  simp [this]
theorem findT_hit {l : List (Int × Int)} {now fr : Int} {k : Nat} (hk : k < l.length) (h : noneTo l now fr k) (hf : oldE l now k ≤ fr) : findT l now fr = k := by
  unfold findT
  rw [find_range _ _ k hk (fun j hj => by have := h j hj; simp; omega) (by simpa using hf)]
theorem findT_none {l : List (Int × Int)} {now fr : Int} (h : noneTo l now fr l.length) : findT l now fr = -1 := by
  unfold findT
  rw [find_range_none _ _ (fun j hj => by have := h j hj; simp; omega)]
theorem findT_cases (l : List (Int × Int)) (now fr : Int) : (findT l now fr = -1 ∧ noneTo l now fr l.length) ∨ ∃ k : Nat, findT l now fr = k ∧ k < l.length ∧ noneTo l now fr k ∧ oldE l now k ≤ fr := by
  have key : ∀ m, m ≤ l.length → noneTo l now fr m ∨ ∃ k : Nat, k < m ∧ noneTo l now fr k ∧ oldE l now k ≤ fr := by
    intro m
    induction m with
    | zero => intro _; exact .inl (noneTo_zero _ _ _)
    | succ m ih =>
      intro hm
      rcases ih (by omega) with h | ⟨k, h1, h2, h3⟩
      · rcases (by omega : fr < oldE l now m ∨ oldE l now m ≤ fr) with h4 | h4
        · exact .inl (noneTo_succ h h4)
        · exact .inr ⟨m, by omega, h, h4⟩
      · exact .inr ⟨k, by omega, h2, h3⟩
  rcases key l.length (Nat.le_refl _) with h | ⟨k, h1, h2, h3⟩
  · exact .inl ⟨findT_none h, h⟩
  · exact .inr ⟨k, findT_hit h1 h2 h3, h1, h2, h3⟩
def costE (l : List (Int × Int)) (now : Int) (i : Nat) : Int := if oldE l now i ≤ now then (now - oldE l now i) / x1 l i + 1 else 0
def costTo (l : List (Int × Int)) (now : Int) : Nat → Int
  | 0 => 0
  | k + 1 => costTo l now k + costE l now k
def tierC (l : List (Int × Int)) (now : Int) : Int := if okArgs l now then costTo l now l.length else -1
theorem costE_bd {l : List (Int × Int)} {now : Int} {i : Nat} (hx : 1 ≤ x1 l i) (h0 : 0 ≤ now) (h1 : now ≤ 1000) : 0 ≤ costE l now i ∧ costE l now i ≤ 1001 := by
  unfold costE
  split
  · have a := oldI_nonneg (x1 l i) (x2 l i) now hx
    have b : 0 ≤ (now - oldE l now i) / x1 l i := Int.ediv_nonneg (by omega) (by omega)
    have c : (now - oldE l now i) / x1 l i ≤ now - oldE l now i := Int.ediv_le_self _ (by omega)
    have d : 0 ≤ oldE l now i := a
    omega
  · omega
theorem costTo_bd {l : List (Int × Int)} {now : Int} (h0 : 0 ≤ now) (h1 : now ≤ 1000) : ∀ k : Nat, (∀ i, i < k → 1 ≤ x1 l i) → 0 ≤ costTo l now k ∧ costTo l now k ≤ 1001 * k := by
  intro k
  induction k with
  | zero => intro _; simp [costTo]
  | succ k ih =>
    intro h
    have a := ih (fun i hi => h i (by omega))
    have b := costE_bd (now := now) (h k (by omega)) h0 h1
    simp only [costTo]
    omega
theorem VT_pos {l : List (Int × Int)} (h : VT l) {i : Nat} (hi : i < l.length) : 1 ≤ x1 l i ∧ x1 l i ≤ 100 ∧ 1 ≤ x2 l i ∧ x2 l i ≤ 1000 := by
  obtain ⟨a, b, c, d, _⟩ := h.2.2 i hi
  omega
end Go.Proofs.Ytheckdenoomhjaa
