/-
  Plain: buckets, and what their sums add up to.
-/
import Derived.Test.YtiajcnldfdijoaaPtFn4
import Derived.Test.YtiajcnldfdijoaaRowG
namespace Go.Proofs.Ytiajcnldfdijoaa
open Go.RowKit
/-- Start, Count, Sum, Min, Max. -/
structure Bk where
  st : Int
  ct : Int
  sm : Int
  mn : Int
  mx : Int
instance : Inhabited Bk := ⟨⟨0, 0, 0, 0, 0⟩⟩
def bkE (b : Bk) : Nat → Value
  | 0 => .int .i64 b.st
  | 1 => .int .i64 b.ct
  | 2 => .int .i64 b.sm
  | 3 => .int .i64 b.mn
  | _ => .int .i64 b.mx
theorem range5 (b : Bk) : (List.range 5).map (bkE b) = [.int .i64 b.st, .int .i64 b.ct, .int .i64 b.sm, .int .i64 b.mn, .int .i64 b.mx] := rfl
def bsum (l : List Bk) : Int := (l.map Bk.sm).sum
theorem bsum_nil : bsum [] = 0 := rfl
theorem bsum_snoc (l : List Bk) (b : Bk) : bsum (l ++ [b]) = bsum l + b.sm := by simp [bsum]
theorem bsum_set (x : Bk) : ∀ (l : List Bk) (i : Nat), i < l.length → bsum (l.set i x) = bsum l - (at0 l i).sm + x.sm
  | [], i, h => absurd h (by simp)
  | b :: l, 0, _ => by
    have e : at0 (b :: l) 0 = b := rfl
    rw [e]; simp only [List.set_cons_zero, bsum, List.map_cons, List.sum_cons]; omega
  | b :: l, i + 1, h => by
    have e : at0 (b :: l) (i + 1) = at0 l i := rfl
    have ih := bsum_set x l i (by simpa using h)
    rw [e]; simp only [List.set_cons_succ, bsum, List.map_cons, List.sum_cons] at ih ⊢; omega
/-- The sums add up to S; there are at most k of them, each in 1000 k. -/
def Tot (l : List Bk) (S : Int) (k : Nat) : Prop := bsum l = S ∧ l.length ≤ k ∧ ∀ i, i < l.length → -1000 * (k : Int) ≤ (at0 l i).sm ∧ (at0 l i).sm ≤ 1000 * (k : Int)
theorem Tot.nil : Tot [] 0 0 := ⟨rfl, Nat.le_refl _, fun i hi => absurd hi (by simp)⟩
theorem Tot.snoc {l : List Bk} {S : Int} {k : Nat} (h : Tot l S k) {b : Bk} (h0 : -1000 ≤ b.sm) (h1 : b.sm ≤ 1000) : Tot (l ++ [b]) (S + b.sm) (k + 1) := by
  refine ⟨by rw [bsum_snoc, h.1], by have := h.2.1; simp; omega, fun i hi => ?_⟩
  by_cases hl : i < l.length
  · rw [at0_append _ _ hl]
    have := h.2.2 i hl
    omega
  · have hi' : i = l.length := by simp at hi; omega
    subst hi'
    rw [at0_append_r _ _ (Nat.le_refl _), Nat.sub_self]
    show -1000 * ((k + 1 : Nat) : Int) ≤ b.sm ∧ b.sm ≤ _
    omega
theorem Tot.join {l : List Bk} {S : Int} {k : Nat} (h : Tot l S k) {j : Nat} (hj : j < l.length) {b x : Bk} (h0 : -1000 ≤ b.sm) (h1 : b.sm ≤ 1000) (hx : x.sm = (at0 l j).sm + b.sm) : Tot (l.set j x) (S + b.sm) (k + 1) := by
  refine ⟨by rw [bsum_set x l j hj, h.1, hx]; omega, by rw [List.length_set]; have := h.2.1; omega, fun i hi => ?_⟩
  rw [List.length_set] at hi
  rw [at0_set l x hj]
  have a := h.2.2 i hi
  have b := h.2.2 j hj
  split
  · rw [hx]; omega
  · omega
/-- The sum of the first k sums. -/
def bsTo (l : List Bk) : Nat → Int
  | 0 => 0
  | k + 1 => bsTo l k + (at0 l k).sm
theorem bsTo_take (l : List Bk) : ∀ k, k ≤ l.length → bsTo l k = bsum (l.take k)
  | 0, _ => by simp [bsTo, bsum]
  | k + 1, h => by
    unfold bsTo
    rw [bsTo_take l k (by omega), take_succ_at l (by omega), bsum_snoc]
theorem bsTo_all (l : List Bk) : bsTo l l.length = bsum l := by rw [bsTo_take l _ (Nat.le_refl _), List.take_length]
theorem bsTo_bd {l : List Bk} {S : Int} {k : Nat} (h : Tot l S k) (hk : k ≤ 16) : ∀ j, j ≤ l.length → -16000 * (j : Int) ≤ bsTo l j ∧ bsTo l j ≤ 16000 * (j : Int)
  | 0, _ => by simp [bsTo]
  | j + 1, hj => by
    have a := bsTo_bd h hk j (by omega)
    have b := h.2.2 j (by omega)
    unfold bsTo
    omega
/-- All points of a valid series are in the whole range. -/
theorem rngL_all {l : List (Int × Int)} (h : VS l) (hv : vS l = true) : rngL l 0 1001 = l := by
  have ho : okS l 0 1001 = true := by unfold okS; rw [hv]; rfl
  rw [rngL_ok ho]
  unfold part
  refine List.filter_eq_self.2 fun t ht => (inPart_iff _ _ _).2 ?_
  obtain ⟨i, hi, e1, e2⟩ := mem_at ht
  have := VS_at h hi
  omega
theorem rowB_set (l : List Bk) (x : Bk) {j : Nat} (hj : j < l.length) : (((((rowG bkE 5 l).set (j * 5) (bkE x 0)).set (j * 5 + 1) (bkE x 1)).set (j * 5 + 2) (bkE x 2)).set (j * 5 + 3) (bkE x 3)).set (j * 5 + 4) (bkE x 4) = rowG bkE 5 (l.set j x) := by
  refine List.ext_getElem? fun i => ?_
  by_cases hi : i < l.length * 5
  · rw [rowG_at (l.set j x) (by rw [List.length_set]; exact hi)]
    simp only [List.getElem?_set, List.length_set, rowG_len]
    rw [rowG_at l hi]
    unfold cellsG
    rw [at0_set l x hj]
    by_cases e : i / 5 = j
    · rw [if_pos e]
      have h5 : i % 5 = 0 ∨ i % 5 = 1 ∨ i % 5 = 2 ∨ i % 5 = 3 ∨ i % 5 = 4 := by omega
      have hd : i = i / 5 * 5 + i % 5 := by omega
      rw [e] at hd
      rcases h5 with h | h | h | h | h
      · rw [h]
        rw [if_neg (by omega), if_neg (by omega), if_neg (by omega), if_neg (by omega), if_pos (by omega), if_pos (by omega)]
      · rw [h]
        rw [if_neg (by omega), if_neg (by omega), if_neg (by omega), if_pos (by omega), if_pos (by omega)]
      · rw [h]
        rw [if_neg (by omega), if_neg (by omega), if_pos (by omega), if_pos (by omega)]
      · rw [h]
        rw [if_neg (by omega), if_pos (by omega), if_pos (by omega)]
      · rw [h]
        rw [if_pos (by omega), if_pos (by omega)]
    · rw [if_neg e, if_neg (by omega), if_neg (by omega), if_neg (by omega), if_neg (by omega), if_neg (by omega)]
  · rw [List.getElem?_eq_none (by simp only [List.length_set, rowG_len]; omega), List.getElem?_eq_none (by rw [rowG_len, List.length_set]; omega)]
end Go.Proofs.Ytiajcnldfdijoaa
