/-
  Plain laws: growth in two parts, growth doubled.
-/
import Derived.Test.YtgifppadakmmiaaPtFn5
namespace Go.Proofs.Ytgifppadakmmiaa
open Go.RowKit
theorem VS_sorted {l : List (Int × Int)} (h : VS l) : l.Pairwise (fun a b => a.1 < b.1) :=
  List.pairwise_iff_getElem.2 (fun i j hi hj hij => by rw [← x1_get hi, ← x1_get hj]; exact VS_lt h hij hj)
theorem sorted_lt {l : List (Int × Int)} (h : l.Pairwise (fun a b => a.1 < b.1)) {i j : Nat} (hij : i < j) (hj : j < l.length) : x1 l i < x1 l j := by
  rw [x1_get (by omega), x1_get hj]
  exact List.pairwise_iff_getElem.1 h i j (by omega) hj hij
theorem part_part (l : List (Int × Int)) {fr to fr' to' : Int} (h1 : fr ≤ fr') (h2 : to' ≤ to) : part (part l fr to) fr' to' = part l fr' to' := by
  unfold part
  rw [List.filter_filter]
  congr 1
  funext t
  by_cases h : inPart fr' to' t = true
  · have := (inPart_iff _ _ _).1 h
    rw [h, (inPart_iff fr to t).2 ⟨by omega, by omega⟩]; rfl
  · have : inPart fr' to' t = false := by simpa using h
    rw [this]; simp
theorem growTo_take (l : List (Int × Int)) {k n : Nat} (hk : k ≤ n) : growTo (l.take n) k = growTo l k := by
  induction k with
  | zero => rfl
  | succ k ih =>
    have h : grow (l.take n) k = grow l k := by
      unfold grow; rw [x2_take' l (by omega : k < n), x2_take' l (by omega : k - 1 < n)]
    show growTo (l.take n) k + grow (l.take n) k = growTo l k + grow l k
    rw [ih (by omega), h]
theorem grow_succ (l : List (Int × Int)) (k : Nat) : grow l (k + 1) = if x2 l (k + 1) < x2 l k then x2 l (k + 1) else x2 l (k + 1) - x2 l k := by
  unfold grow; rw [if_pos (by omega), Nat.add_sub_cancel]
theorem growTo_drop (l : List (Int × Int)) (i k : Nat) : growTo (l.drop i) (k + 1) = growTo l (i + k + 1) - growTo l (i + 1) := by
  induction k with
  | zero => simp [growTo, grow]
  | succ k ih =>
    have h : grow (l.drop i) (k + 1) = grow l (i + k + 1) := by
      rw [grow_succ, grow_succ, x2_drop', x2_drop']; rfl
    show growTo (l.drop i) (k + 1) + grow (l.drop i) (k + 1) = growTo l (i + k + 1) + grow l (i + k + 1) - growTo l (i + 1)
    rw [ih, h]; omega
theorem posTo_take {l : List (Int × Int)} {n : Nat} (h : posTo l l.length) (hn : n ≤ l.length) : posTo (l.take n) (l.take n).length := fun j hj => by
  rw [List.length_take] at hj
  rw [x2_take' l (by omega)]; exact h j (by omega)
theorem posTo_drop {l : List (Int × Int)} {n : Nat} (h : posTo l l.length) : posTo (l.drop n) (l.drop n).length := fun j hj => by
  rw [List.length_drop] at hj
  rw [x2_drop']; exact h _ (by omega)
theorem split_law {l : List (Int × Int)} {fr to : Int} (hok : rateOk (rngL l fr to)) (h3 : 3 ≤ (rngL l fr to).length) :
    0 ≤ x1 (rngL l fr to) 1 ∧ x1 (rngL l fr to) 1 ≤ 1000 ∧ rateB (rngL l fr (x1 (rngL l fr to) 1 + 1)) = true ∧ rateB (rngL l (x1 (rngL l fr to) 1) to) = true ∧
      rateN (rngL l fr (x1 (rngL l fr to) 1 + 1)) + rateN (rngL l (x1 (rngL l fr to) 1) to) = rateN (rngL l fr to) := by
  have ho := rngL_some (l := l) (fr := fr) (to := to) (by omega)
  have hR := okR_t (okS_t ho).2
  have hV := VS_of (okS_t ho).1
  have hB := rngL_bd l fr to
  have b1 := hB.2 1 (by omega)
  have e1 := rngL_ok (okS_of (fr' := fr) (to' := x1 (rngL l fr to) 1 + 1) ho hR.1 hR.2.1 (by omega) (by omega))
  have e2 := rngL_ok (okS_of (fr' := x1 (rngL l fr to) 1) (to' := to) ho (by omega) (by omega) hR.2.2.1 hR.2.2.2)
  rw [e1, e2]
  clear e1 e2
  rw [rngL_ok ho] at hok h3 b1 ⊢
  have hL : part l fr to = part l fr to := rfl
  revert hok h3 b1 hL
  generalize hL0 : part l fr to = L
  intro hok h3 b1 _
  have hs : L.Pairwise (fun a b => a.1 < b.1) := by rw [← hL0]; exact (VS_sorted hV).filter _
  have hin : ∀ a, a < L.length → fr ≤ x1 L a ∧ x1 L a < to := fun a ha => by
    subst hL0
    obtain ⟨j, _, e1, _, e3, e4⟩ := part_at ha
    rw [e1]; exact ⟨e3, e4⟩
  have i1 := hin 1 (by omega)
  have p1 : part l fr (x1 L 1 + 1) = L.take 2 := by
    rw [← part_part l (Int.le_refl fr) (by omega : x1 L 1 + 1 ≤ to), hL0, part_eq (i := 0) (j := 2) (by omega) (by omega) (fun a ha => absurd ha (by omega)) (fun a _ ha => (hin a ha).1)
      (fun a ha => ?_) (fun a ha hb => ?_)]
    · rfl
    · rcases Nat.lt_or_ge a 1 with h | h
      · have := sorted_lt hs (i := a) (j := 1) h (by omega); omega
      · have : a = 1 := by omega
        subst this; omega
    · have := sorted_lt hs (i := 1) (j := a) (by omega) hb; omega
  have p2 : part l (x1 L 1) to = L.drop 1 := by
    rw [← part_part l (by omega : fr ≤ x1 L 1) (Int.le_refl to), hL0, part_eq (i := 1) (j := L.length) (by omega) (Nat.le_refl _)
      (fun a ha => sorted_lt hs (by omega) (by omega)) (fun a ha hb => ?_) (fun a ha => (hin a ha).2) (fun a ha hb => absurd hb (by omega)), List.take_length]
    rcases Nat.lt_or_ge 1 a with h | h
    · have := sorted_lt hs (i := 1) (j := a) h hb; omega
    · have : a = 1 := by omega
      subst this; omega
  have r1 : rateOk (L.take 2) := ⟨by rw [List.length_take]; omega, posTo_take hok.2 (by omega)⟩
  have r2 : rateOk (L.drop 1) := ⟨by rw [List.length_drop]; omega, posTo_drop hok.2⟩
  refine ⟨by omega, by omega, ?_, ?_, ?_⟩
  · rw [p1]; exact rateB_ok r1
  · rw [p2]; exact rateB_ok r2
  · rw [p1, p2, rateN_ok r1, rateN_ok r2, rateN_ok hok, List.length_take, List.length_drop, Nat.min_eq_left (by omega), growTo_take L (Nat.le_refl _)]
    obtain ⟨k, hk⟩ : ∃ k, L.length = k + 2 := ⟨L.length - 2, by omega⟩
    rw [hk, show k + 2 - 1 = k + 1 by omega, growTo_drop, show 1 + k + 1 = k + 2 by omega, show 1 + 1 = 2 from rfl]; omega
def dbl (l : List (Int × Int)) : List (Int × Int) := l.map fun t => (t.1, 2 * t.2)
theorem dbl_len (l : List (Int × Int)) : (dbl l).length = l.length := by simp [dbl]
theorem x2_dbl (l : List (Int × Int)) (k : Nat) : x2 (dbl l) k = 2 * x2 l k := by
  by_cases h : k < l.length
  · rw [x2_get h, x2_get (by rw [dbl_len]; exact h)]; simp [dbl]
  · simp [x2, dbl, List.getD_eq_getElem?_getD, List.getElem?_eq_none (by omega : l.length ≤ k)]
theorem part_dbl (l : List (Int × Int)) (fr to : Int) : part (dbl l) fr to = dbl (part l fr to) := by
  unfold part dbl
  rw [List.filter_map]; rfl
theorem growTo_dbl (l : List (Int × Int)) (k : Nat) : growTo (dbl l) k = 2 * growTo l k := by
  induction k with
  | zero => rfl
  | succ k ih =>
    have h : grow (dbl l) k = 2 * grow l k := by
      unfold grow; rw [x2_dbl, x2_dbl]
      split
      · by_cases hg : x2 l k < x2 l (k - 1)
        · rw [if_pos hg, if_pos (by omega)]
        · rw [if_neg hg, if_neg (by omega)]; omega
      · rfl
    show growTo (dbl l) k + grow (dbl l) k = 2 * (growTo l k + grow l k)
    rw [ih, h]; omega
theorem dbl_take (l : List (Int × Int)) {k : Nat} (h : k < l.length) : dbl (l.take (k + 1)) = dbl (l.take k) ++ [(x1 l k, 2 * x2 l k)] := by
  unfold dbl
  rw [List.take_succ_eq_append_getElem h, List.map_append, x1_get h, x2_get h]; rfl
theorem scale_law {l : List (Int × Int)} {fr to : Int} (hok : rateOk (rngL l fr to)) (hv : vS (dbl l) = true) :
    rateB (rngL (dbl l) fr to) = true ∧ rateN (rngL (dbl l) fr to) = 2 * rateN (rngL l fr to) := by
  have ho := rngL_some (l := l) (fr := fr) (to := to) (by have := hok.1; omega)
  have ho2 : okS (dbl l) fr to = true := by unfold okS; rw [hv, (okS_t ho).2]; rfl
  rw [rngL_ok ho2, part_dbl, ← rngL_ok ho]
  have r : rateOk (dbl (rngL l fr to)) := ⟨by rw [dbl_len]; exact hok.1, fun j hj => by
    rw [dbl_len] at hj
    have := hok.2 j hj
    rw [x2_dbl]; omega⟩
  exact ⟨rateB_ok r, by rw [rateN_ok r, rateN_ok hok, dbl_len, growTo_dbl]⟩
end Go.Proofs.Ytgifppadakmmiaa
