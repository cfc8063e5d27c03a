/-
  Plain laws of quantiles.
-/
import Derived.Test.YtiajcnldfdijoaaQuFn
namespace Go.Proofs.Ytiajcnldfdijoaa
open Go.RowKit
theorem qI_zero (n : Nat) : qI 0 n = 0 := by unfold qI; rw [Int.zero_mul]; rfl
theorem qI_top {n : Nat} (h : 0 < n) : qI 100 n = n - 1 := by unfold qI; omega
theorem qI_mono {p : Int} {n : Nat} (h : 0 < n) : qI p n ≤ qI (p + 1) n := by
  unfold qI
  have e : (p + 1) * ((n : Int) - 1) = p * ((n : Int) - 1) + ((n : Int) - 1) := by rw [Int.add_mul, Int.one_mul]
  rw [e]
  generalize p * ((n : Int) - 1) = z
  omega
theorem qI_enough {p : Int} {n : Nat} (h0 : 0 ≤ p) (h1 : p ≤ 100) (hn : 0 < n) : p * (n : Int) ≤ 100 * ((qI p n : Int) + 1) := by
  have h2 := qI_bd h0 h1 hn
  have e : p * (n : Int) = p * ((n : Int) - 1) + p := by rw [Int.mul_sub, Int.mul_one]; omega
  rw [e]
  unfold qI
  generalize p * ((n : Int) - 1) = z at *
  omega
theorem xi_get {l : List Int} {i : Nat} (h : i < l.length) : xi l i = l[i] := by simp [xi, List.getD_eq_getElem?_getD, List.getElem?_eq_getElem h]
section
variable {l : List (Int × Int)} {fr to : Int}
theorem qL_perm : (qL l fr to).Perm (vals (rngL l fr to)) := srt_perm _
theorem qL_asc : Asc (qL l fr to) := srt_asc _
theorem qu_some {k : Nat} (hk : k < (qL l fr to).length) : ∃ i, i < (rngL l fr to).length ∧ x2 (rngL l fr to) i = xi (qL l fr to) k := by
  have h : xi (qL l fr to) k ∈ vals (rngL l fr to) := qL_perm.subset (by rw [xi_get hk]; exact List.getElem_mem hk)
  obtain ⟨i, hi, e⟩ := List.mem_iff_getElem.1 h
  refine ⟨i, by rwa [vals_len] at hi, ?_⟩
  rw [← xi_vals, xi_get hi, e]
theorem qu_bd {i : Nat} (hi : i < (rngL l fr to).length) : xi (qL l fr to) 0 ≤ x2 (rngL l fr to) i ∧ x2 (rngL l fr to) i ≤ xi (qL l fr to) ((qL l fr to).length - 1) := by
  have h : x2 (rngL l fr to) i ∈ qL l fr to := qL_perm.symm.subset (by rw [← xi_vals, xi_get (by rw [vals_len]; exact hi)]; exact List.getElem_mem _)
  obtain ⟨j, hj, e⟩ := List.mem_iff_getElem.1 h
  rw [← xi_get hj] at e
  rw [← e]
  exact ⟨asc_at qL_asc (by omega) hj, asc_at qL_asc (by omega) (by omega)⟩
end
/-- Whether a value is among the first k. -/
def hasX (l : List (Int × Int)) (x : Int) : Nat → Bool
  | 0 => false
  | k + 1 => hasX l x k || (x2 l k == x)
theorem hasX_true {l : List (Int × Int)} {x : Int} : ∀ {k i : Nat}, i < k → x2 l i = x → hasX l x k = true
  | 0, i, h, _ => absurd h (by omega)
  | k + 1, i, h, e => by
    show (hasX l x k || (x2 l k == x)) = true
    rcases Nat.lt_or_ge i k with h1 | h1
    · rw [hasX_true h1 e]; rfl
    · have : i = k := by omega
      subst this; simp [e]
theorem hasX_t {l : List (Int × Int)} {x : Int} {k : Nat} (h : hasX l x k = true) : hasX l x (k + 1) = true := by
  show (hasX l x k || _) = true
  rw [h]; rfl
theorem hasX_f {l : List (Int × Int)} {x : Int} {k : Nat} {b : Bool} (h : hasX l x k = false) (hb : (x2 l k == x) = b) : hasX l x (k + 1) = b := by
  show (hasX l x k || _) = b
  rw [h, hb]; rfl
/-- How many of the first k are not greater. -/
def undr (l : List (Int × Int)) (x : Int) : Nat → Nat
  | 0 => 0
  | k + 1 => if x2 l k ≤ x then undr l x k + 1 else undr l x k
theorem undr_le {l : List (Int × Int)} {x : Int} {k : Nat} (h : x2 l k ≤ x) : undr l x (k + 1) = undr l x k + 1 := if_pos h
theorem undr_gt {l : List (Int × Int)} {x : Int} {k : Nat} (h : ¬ x2 l k ≤ x) : undr l x (k + 1) = undr l x k := if_neg h
theorem undr_bd (l : List (Int × Int)) (x : Int) : ∀ k, undr l x k ≤ k
  | 0 => Nat.le_refl _
  | k + 1 => by
    have := undr_bd l x k
    by_cases h : x2 l k ≤ x
    · rw [undr_le h]; omega
    · rw [undr_gt h]; omega
theorem undr_count {l : List (Int × Int)} {x : Int} : ∀ {k : Nat}, k ≤ l.length → undr l x k = ((vals l).take k).countP (fun y => decide (y ≤ x))
  | 0, _ => by simp [undr]
  | k + 1, h => by
    rw [vals_take (by omega), List.countP_append, ← undr_count (by omega)]
    by_cases h1 : x2 l k ≤ x
    · rw [undr_le h1]; simp [h1]
    · rw [undr_gt h1]; simp [h1]
theorem undr_many {l : List (Int × Int)} {fr to : Int} {k : Nat} (hk : k < (qL l fr to).length) : k + 1 ≤ undr (rngL l fr to) (xi (qL l fr to) k) (rngL l fr to).length := by
  rw [undr_count (Nat.le_refl _), List.take_of_length_le (by rw [vals_len]; exact Nat.le_refl _), ← qL_perm.countP_eq]
  have h1 : ((qL l fr to).take (k + 1)).countP (fun y => decide (y ≤ xi (qL l fr to) k)) = ((qL l fr to).take (k + 1)).length := by
    refine List.countP_eq_length.2 fun y hy => ?_
    obtain ⟨i, hi, rfl⟩ := List.mem_take_iff_getElem.1 hy
    rw [← xi_get]
    exact decide_eq_true (asc_at qL_asc (by omega) hk)
  rw [List.length_take, Nat.min_eq_left (by omega)] at h1
  have h2 : (qL l fr to).countP (fun y => decide (y ≤ xi (qL l fr to) k)) = ((qL l fr to).take (k + 1)).countP (fun y => decide (y ≤ xi (qL l fr to) k)) + ((qL l fr to).drop (k + 1)).countP (fun y => decide (y ≤ xi (qL l fr to) k)) := by
    rw [← List.countP_append, List.take_append_drop]
  omega
theorem undr_law {l : List (Int × Int)} {fr to p : Int} (h0 : 0 ≤ p) (h1 : p ≤ 100) (h : 0 < (rngL l fr to).length) :
    p * ((rngL l fr to).length : Int) ≤ 100 * (undr (rngL l fr to) (xi (qL l fr to) (qI p (rngL l fr to).length)) (rngL l fr to).length : Int) := by
  have hm := qL_len l fr to
  have a := undr_many (l := l) (fr := fr) (to := to) (k := qI p (rngL l fr to).length) (by rw [hm]; exact qI_lt h0 h1 h)
  have b := qI_enough h0 h1 h
  omega
theorem qu_more {l : List (Int × Int)} {fr to p : Int} (h0 : 0 ≤ p) (h1 : p + 1 ≤ 100) (h : 0 < (rngL l fr to).length) :
    xi (qL l fr to) (qI p (rngL l fr to).length) ≤ xi (qL l fr to) (qI (p + 1) (rngL l fr to).length) :=
  asc_at qL_asc (qI_mono h) (by rw [qL_len]; exact qI_lt (by omega) h1 h)
end Go.Proofs.Ytiajcnldfdijoaa
