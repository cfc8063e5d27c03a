/-
  Plain functions: sums, growth and resets of a list of points.
-/
import Derived.Test.YtiajcnldfdijoaaPtFn2
namespace Go.Proofs.Ytiajcnldfdijoaa
open Go.RowKit
def Bd (l : List (Int × Int)) : Prop := l.length ≤ 16 ∧ ∀ i, i < l.length → 0 ≤ x1 l i ∧ x1 l i ≤ 1000 ∧ -1000 ≤ x2 l i ∧ x2 l i ≤ 1000
theorem Bd_nil : Bd [] := ⟨by simp, fun i hi => absurd hi (by simp)⟩
theorem Bd_VS {l : List (Int × Int)} (h : VS l) : Bd l := ⟨h.1, fun _ hi => VS_at h hi⟩
theorem part_at {l : List (Int × Int)} {fr to : Int} {i : Nat} (h : i < (part l fr to).length) : ∃ j, j < l.length ∧ x1 (part l fr to) i = x1 l j ∧ x2 (part l fr to) i = x2 l j ∧ fr ≤ x1 l j ∧ x1 l j < to := by
  have hm : (part l fr to)[i] ∈ part l fr to := List.getElem_mem h
  have h2 := List.mem_filter.1 hm
  obtain ⟨j, hj, e1, e2⟩ := mem_at h2.1
  have e3 := h2.2
  simp only [inPart, inR, Bool.and_eq_true, decide_eq_true_eq] at e3
  exact ⟨j, hj, by rw [x1_get h, e1], by rw [x2_get h, e2], by omega, by omega⟩
theorem rngL_len (l : List (Int × Int)) (fr to : Int) : (rngL l fr to).length ≤ l.length := by
  unfold rngL; split
  · exact part_len l fr to
  · simp
theorem rngL_bd (l : List (Int × Int)) (fr to : Int) : Bd (rngL l fr to) := by
  by_cases ho : okS l fr to = true
  · have hV := VS_of (okS_t ho).1
    rw [rngL_ok ho]
    refine ⟨Nat.le_trans (part_len l fr to) hV.1, fun i hi => ?_⟩
    obtain ⟨j, hj, e1, e2, _⟩ := part_at hi
    rw [e1, e2]
    exact VS_at hV hj
  · rw [rngL_no (by simpa using ho)]; exact Bd_nil
def sumTo (l : List (Int × Int)) : Nat → Int
  | 0 => 0
  | k + 1 => sumTo l k + x2 l k
def sumL (l : List (Int × Int)) : Int := sumTo l l.length
theorem sumTo_bd {l : List (Int × Int)} (h : Bd l) {k : Nat} (hk : k ≤ l.length) : -1000 * (k : Int) ≤ sumTo l k ∧ sumTo l k ≤ 1000 * (k : Int) := by
  induction k with
  | zero => simp [sumTo]
  | succ k ih =>
    have := ih (by omega)
    have := h.2 k (by omega)
    unfold sumTo
    omega
def grow (l : List (Int × Int)) (k : Nat) : Int := if 0 < k then (if x2 l k < x2 l (k - 1) then x2 l k else x2 l k - x2 l (k - 1)) else 0
def growTo (l : List (Int × Int)) : Nat → Int
  | 0 => 0
  | k + 1 => growTo l k + grow l k
def posTo (l : List (Int × Int)) (k : Nat) : Prop := ∀ j, j < k → 0 ≤ x2 l j
instance (l : List (Int × Int)) (k : Nat) : Decidable (posTo l k) := by unfold posTo; infer_instance
theorem posTo_zero (l : List (Int × Int)) : posTo l 0 := fun j hj => absurd hj (by omega)
theorem posTo_succ {l : List (Int × Int)} {k : Nat} (h : posTo l k) (hk : 0 ≤ x2 l k) : posTo l (k + 1) := fun j hj => by
  rcases Nat.lt_or_ge j k with h1 | h1
  · exact h j h1
  · have : j = k := by omega
    subst this; exact hk
theorem growTo_bd {l : List (Int × Int)} (h : Bd l) {k : Nat} (hk : k ≤ l.length) (hp : posTo l k) : 0 ≤ growTo l k ∧ growTo l k ≤ 1000 * (k : Int) := by
  induction k with
  | zero => simp [growTo]
  | succ k ih =>
    have h1 := ih (by omega) (fun j hj => hp j (by omega))
    have h2 := h.2 k (by omega)
    have h3 := hp k (by omega)
    unfold growTo grow
    by_cases h0 : 0 < k
    · have h4 := hp (k - 1) (by omega)
      rw [if_pos h0]
      split <;> omega
    · rw [if_neg h0]; omega
def rateOk (l : List (Int × Int)) : Prop := 2 ≤ l.length ∧ posTo l l.length
instance (l : List (Int × Int)) : Decidable (rateOk l) := by unfold rateOk; infer_instance
def rateV (l : List (Int × Int)) : Value := if rateOk l then .tuple #[.int .i64 (growTo l l.length), .bool true] else .tuple #[.int .i64 0, .bool false]
theorem rateV_short {l : List (Int × Int)} (h : l.length < 2) : rateV l = .tuple #[.int .i64 0, .bool false] := if_neg fun h2 => by have := h2.1; omega
theorem rateV_neg {l : List (Int × Int)} {k : Nat} (hk : k < l.length) (h : ¬ 0 ≤ x2 l k) : rateV l = .tuple #[.int .i64 0, .bool false] := if_neg fun h2 => h (h2.2 k hk)
theorem rateV_good {l : List (Int × Int)} (h2 : 2 ≤ l.length) (h : posTo l l.length) : rateV l = .tuple #[.int .i64 (growTo l l.length), .bool true] := if_pos ⟨h2, h⟩
def drop1 (l : List (Int × Int)) (k : Nat) : Int := if 0 < k then (if x2 l k < x2 l (k - 1) then 1 else 0) else 0
def dropTo (l : List (Int × Int)) : Nat → Int
  | 0 => 0
  | k + 1 => dropTo l k + drop1 l k
theorem dropTo_bd (l : List (Int × Int)) (k : Nat) : 0 ≤ dropTo l k ∧ dropTo l k ≤ (k : Int) := by
  induction k with
  | zero => simp [dropTo]
  | succ k ih =>
    unfold dropTo drop1
    split
    · split <;> omega
    · omega
def resets (l : List (Int × Int)) (fr to : Int) : Int := if okS l fr to then dropTo (rngL l fr to) (rngL l fr to).length else -1
end Go.Proofs.Ytiajcnldfdijoaa
