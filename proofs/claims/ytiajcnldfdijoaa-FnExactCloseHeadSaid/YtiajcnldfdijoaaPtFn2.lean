/-
  Plain functions: the points in a range.
-/
import Derived.Test.YtiajcnldfdijoaaPtW2
namespace Go.Proofs.Ytiajcnldfdijoaa
open Go.RowKit
def inPart (fr to : Int) (t : Int × Int) : Bool := inR t.1 fr (to - 1)
def part (l : List (Int × Int)) (fr to : Int) : List (Int × Int) := l.filter (inPart fr to)
def rngL (l : List (Int × Int)) (fr to : Int) : List (Int × Int) := if okS l fr to then part l fr to else []
theorem x1_get {l : List (Int × Int)} {i : Nat} (h : i < l.length) : x1 l i = l[i].1 := by simp [x1, List.getD_eq_getElem?_getD, List.getElem?_eq_getElem h]
theorem x2_get {l : List (Int × Int)} {i : Nat} (h : i < l.length) : x2 l i = l[i].2 := by simp [x2, List.getD_eq_getElem?_getD, List.getElem?_eq_getElem h]
theorem mem_at {l : List (Int × Int)} {t : Int × Int} (h : t ∈ l) : ∃ i, i < l.length ∧ x1 l i = t.1 ∧ x2 l i = t.2 := by
  obtain ⟨i, hi, rfl⟩ := List.mem_iff_getElem.1 h
  exact ⟨i, hi, x1_get hi, x2_get hi⟩
theorem x1_take' (l : List (Int × Int)) {k i : Nat} (h : i < k) : x1 (l.take k) i = x1 l i := by simp [x1, List.getD_eq_getElem?_getD, h]
theorem x2_take' (l : List (Int × Int)) {k i : Nat} (h : i < k) : x2 (l.take k) i = x2 l i := by simp [x2, List.getD_eq_getElem?_getD, h]
theorem x1_drop' (l : List (Int × Int)) (k i : Nat) : x1 (l.drop k) i = x1 l (k + i) := by simp [x1, List.getD_eq_getElem?_getD, List.getElem?_drop]
theorem x2_drop' (l : List (Int × Int)) (k i : Nat) : x2 (l.drop k) i = x2 l (k + i) := by simp [x2, List.getD_eq_getElem?_getD, List.getElem?_drop]
theorem part_eq {l : List (Int × Int)} {fr to : Int} {i j : Nat} (hij : i ≤ j) (hj : j ≤ l.length) (h1 : ∀ a, a < i → x1 l a < fr) (h2 : ∀ a, i ≤ a → a < l.length → fr ≤ x1 l a)
    (h3 : ∀ a, a < j → x1 l a < to) (h4 : ∀ a, j ≤ a → a < l.length → to ≤ x1 l a) : part l fr to = (l.take j).drop i := by
  have e : l = l.take i ++ ((l.take j).drop i ++ l.drop j) := by
    rw [← List.append_assoc]
    have : l.take i = (l.take j).take i := by rw [List.take_take, Nat.min_eq_left hij]
    rw [this, List.take_append_drop, List.take_append_drop]
  unfold part
  conv => lhs; rw [e]
  rw [List.filter_append, List.filter_append]
  have f1 : (l.take i).filter (inPart fr to) = [] := by
    rw [List.filter_eq_nil_iff]
    intro t ht
    obtain ⟨a, ha, e1, _⟩ := mem_at ht
    rw [List.length_take] at ha
    rw [x1_take' _ (by omega)] at e1
    have := h1 a (by omega)
    simp [inPart, inR]; omega
  have f3 : (l.drop j).filter (inPart fr to) = [] := by
    rw [List.filter_eq_nil_iff]
    intro t ht
    obtain ⟨a, ha, e1, _⟩ := mem_at ht
    rw [List.length_drop] at ha
    rw [x1_drop'] at e1
    have := h4 (j + a) (by omega) (by omega)
    simp [inPart, inR]; omega
  have f2 : ((l.take j).drop i).filter (inPart fr to) = (l.take j).drop i := by
    rw [List.filter_eq_self]
    intro t ht
    obtain ⟨a, ha, e1, _⟩ := mem_at ht
    rw [List.length_drop, List.length_take] at ha
    rw [x1_drop', x1_take' _ (by omega)] at e1
    have := h2 (i + a) (by omega) (by omega)
    have := h3 (i + a) (by omega)
    simp [inPart, inR]; omega
  rw [f1, f2, f3]; simp
theorem part_none {l : List (Int × Int)} {fr to : Int} (h : to ≤ fr) : part l fr to = [] := by
  unfold part; rw [List.filter_eq_nil_iff]; intro t _; simp [inPart, inR]; omega
theorem part_len (l : List (Int × Int)) (fr to : Int) : (part l fr to).length ≤ l.length := List.length_filter_le _ _
theorem rngL_ok {l : List (Int × Int)} {fr to : Int} (h : okS l fr to = true) : rngL l fr to = part l fr to := by unfold rngL; rw [if_pos h]
theorem rngL_no {l : List (Int × Int)} {fr to : Int} (h : okS l fr to = false) : rngL l fr to = [] := by unfold rngL; rw [h]; rfl
theorem okS_t {l : List (Int × Int)} {fr to : Int} (h : okS l fr to = true) : vS l = true ∧ okR fr to = true := by unfold okS at h; simpa using h
theorem part_take_succ {l : List (Int × Int)} {fr to : Int} {k : Nat} (h : k < l.length) :
    part (l.take (k + 1)) fr to = part (l.take k) fr to ++ (if inR (x1 l k) fr (to - 1) then [(x1 l k, x2 l k)] else []) := by
  unfold part
  rw [List.take_succ_eq_append_getElem h, List.filter_append]
  congr 1
  rw [x1_get h, x2_get h]
  by_cases hp : inR l[k].1 fr (to - 1) = true
  · rw [if_pos hp]; simp [inPart, hp]
  · rw [if_neg hp]; simp [inPart, hp]
theorem Rd2.mid {w : World} {B b off : Nat} {l : List (Int × Int)} (h : Rd2 w B (some ⟨b, off, none⟩) l) (i j : Nat) (hij : i ≤ j) (hj : j ≤ l.length) : Rd2 w B (some ⟨b, off + i * 2, none⟩) ((l.take j).drop i) := by
  intro hm
  obtain ⟨b', off', he, hlt, hc⟩ := h (by rw [List.length_drop, List.length_take] at hm; omega)
  injection he with he
  injection he with e1 e2
  subst e1; subst e2
  refine ⟨b, off + i * 2, rfl, hlt, fun q hq => ?_⟩
  rw [List.length_drop, List.length_take] at hq
  have := hc (i * 2 + q) (by omega)
  rw [Nat.add_assoc, this]
  have e1 : (i * 2 + q) / 2 = i + q / 2 := by omega
  have e2 : (i * 2 + q) % 2 = q % 2 := by omega
  unfold cells2
  rw [x1_drop', x2_drop', x1_take' _ (by omega), x2_take' _ (by omega), e1, e2]
end Go.Proofs.Ytiajcnldfdijoaa
