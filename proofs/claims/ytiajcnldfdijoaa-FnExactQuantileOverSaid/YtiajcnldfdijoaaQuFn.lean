/-
  Plain: sorted integers, quantiles.
-/
import Derived.Test.YtiajcnldfdijoaaPtFn3
namespace Go.Proofs.Ytiajcnldfdijoaa
open Go.RowKit
def Asc (l : List Int) : Prop := l.Pairwise (· ≤ ·)
def srt (l : List Int) : List Int := l.mergeSort fun x y => decide (x ≤ y)
theorem srt_perm (l : List Int) : (srt l).Perm l := List.mergeSort_perm l _
theorem srt_asc (l : List Int) : Asc (srt l) := by
  have h := List.pairwise_mergeSort (le := fun x y : Int => decide (x ≤ y)) (fun a b c h1 h2 => by simp at *; omega) (fun a b => by simp; omega) l
  exact h.imp fun h => by simpa using h
theorem srt_len (l : List Int) : (srt l).length = l.length := (srt_perm l).length_eq
theorem asc_uniq : ∀ {a b : List Int}, Asc a → Asc b → a.Perm b → a = b
  | [], b, _, _, h => by rw [h.symm.eq_nil]
  | x :: a, [], _, _, h => by have := h.length_eq; simp at this
  | x :: a, y :: b, ha, hb, h => by
    have ha' := List.pairwise_cons.1 ha
    have hb' := List.pairwise_cons.1 hb
    have hx : x ∈ y :: b := h.subset (List.mem_cons_self ..)
    have hy : y ∈ x :: a := h.symm.subset (List.mem_cons_self ..)
    have hxy : x = y := by
      have h1 : y ≤ x := by
        rcases List.mem_cons.1 hx with h | h
        · omega
        · exact hb'.1 x h
      have h2 : x ≤ y := by
        rcases List.mem_cons.1 hy with h | h
        · omega
        · exact ha'.1 y h
      omega
    subst hxy
    rw [asc_uniq ha'.2 hb'.2 (List.Perm.cons_inv h)]
theorem asc_srt {a l : List Int} (ha : Asc a) (h : a.Perm l) : a = srt l := asc_uniq ha (srt_asc l) (h.trans (srt_perm l).symm)
theorem asc_at {l : List Int} (h : Asc l) {i j : Nat} (hij : i ≤ j) (hj : j < l.length) : xi l i ≤ xi l j := by
  have e1 : xi l i = l[i] := by simp [xi, List.getD_eq_getElem?_getD, List.getElem?_eq_getElem (show i < l.length by omega)]
  have e2 : xi l j = l[j] := by simp [xi, List.getD_eq_getElem?_getD, List.getElem?_eq_getElem hj]
  rcases Nat.lt_or_ge i j with h1 | h1
  · rw [e1, e2]; exact List.pairwise_iff_getElem.1 h i j (by omega) hj h1
  · have : i = j := by omega
    subst this; exact Int.le_refl _
/-! Insertion: what is behind the place is greater. -/
def InsAt (acc : List Int) (x : Int) (out : List Int) (k : Nat) : Prop := ∃ p q, acc = p ++ q ∧ out = p ++ x :: q ∧ p.length = k ∧ ∀ y ∈ q, x < y
theorem insAt_start (acc : List Int) (x : Int) : InsAt acc x (acc ++ [x]) acc.length := ⟨acc, [], by simp, rfl, rfl, fun y hy => absurd hy (by simp)⟩
theorem xi_mid (p q : List Int) (x : Int) : xi (p ++ x :: q) p.length = x := by simp [xi, List.getD_eq_getElem?_getD]
theorem xi_left (p q : List Int) (y x : Int) : xi (p ++ [y] ++ x :: q) p.length = y := by simp [xi, List.getD_eq_getElem?_getD]
theorem set_mid (p q : List Int) (x y : Int) : (p ++ x :: q).set p.length y = p ++ y :: q := by simp
theorem InsAt.cur {acc out : List Int} {x : Int} {k : Nat} (h : InsAt acc x out k) : xi out k = x ∧ k < out.length ∧ out.length = acc.length + 1 := by
  obtain ⟨p, q, rfl, rfl, rfl, _⟩ := h
  exact ⟨xi_mid p q x, by simp, by simp; omega⟩
theorem InsAt.step {acc out : List Int} {x : Int} {k : Nat} (h : InsAt acc x out (k + 1)) (hlt : x < xi out k) : InsAt acc x ((out.set (k + 1) (xi out k)).set k x) k := by
  obtain ⟨p, q, rfl, rfl, hp, hq⟩ := h
  rcases List.eq_nil_or_concat p with rfl | ⟨p', y, rfl⟩
  · simp at hp
  · have hp' : p'.length = k := by simpa using hp
    rw [List.concat_eq_append] at hlt ⊢
    subst hp'
    rw [xi_left] at hlt ⊢
    refine ⟨p', y :: q, by simp, ?_, rfl, fun z hz => ?_⟩
    · have e1 : (p' ++ [y] ++ x :: q).set (p'.length + 1) y = p' ++ y :: y :: q := by
        have := set_mid (p' ++ [y]) q x y
        rw [List.length_append, List.length_singleton] at this
        rw [this]; simp
      rw [e1, set_mid]
    · rcases List.mem_cons.1 hz with rfl | hz
      · exact hlt
      · exact hq z hz
theorem InsAt.done {acc out : List Int} {x : Int} {k : Nat} (h : InsAt acc x out k) (ha : Asc acc) (hk : k = 0 ∨ xi out (k - 1) ≤ x) : Asc out ∧ out.Perm (acc ++ [x]) := by
  obtain ⟨p, q, rfl, rfl, hp, hq⟩ := h
  refine ⟨?_, ?_⟩
  · have hA := List.pairwise_append.1 ha
    refine List.pairwise_append.2 ⟨hA.1, List.pairwise_cons.2 ⟨fun y hy => by have := hq y hy; omega, hA.2.1⟩, fun a hap b hb => ?_⟩
    have hax : a ≤ x := by
      rcases hk with rfl | hk
      · have := List.length_eq_zero_iff.1 hp; subst this; cases hap
      · rcases List.eq_nil_or_concat p with rfl | ⟨p', y, rfl⟩
        · cases hap
        · rw [List.concat_eq_append] at hk hap hp hA
          have hk' : k - 1 = p'.length := by rw [← hp]; simp
          rw [hk', xi_left] at hk
          have hsp := List.pairwise_append.1 hA.1
          rcases List.mem_append.1 hap with h | h
          · have := hsp.2.2 a h y (by simp); omega
          · have : a = y := by simpa using h
            omega
    rcases List.mem_cons.1 hb with rfl | hb
    · exact hax
    · have := hq b hb; omega
  · have h1 : (p ++ x :: q).Perm (x :: (p ++ q)) := List.perm_middle
    exact h1.trans (List.perm_append_comm (l₁ := [x]))
/-! Quantiles. -/
def vals (l : List (Int × Int)) : List Int := l.map Prod.snd
theorem vals_len (l : List (Int × Int)) : (vals l).length = l.length := List.length_map _
theorem xi_vals (l : List (Int × Int)) (k : Nat) : xi (vals l) k = x2 l k := by
  unfold xi vals x2
  rw [List.getD_eq_getElem?_getD, List.getElem?_map, List.getD_eq_getElem?_getD]
  cases l[k]? <;> rfl
theorem vals_take {l : List (Int × Int)} {k : Nat} (h : k < l.length) : (vals l).take (k + 1) = (vals l).take k ++ [x2 l k] := by
  rw [List.take_succ_eq_append_getElem (by rw [vals_len]; exact h)]
  have : (vals l)[k]'(by rw [vals_len]; exact h) = xi (vals l) k := by simp [xi, List.getD_eq_getElem?_getD, List.getElem?_eq_getElem (show k < (vals l).length by rw [vals_len]; exact h)]
  rw [this, xi_vals]
def qL (l : List (Int × Int)) (fr to : Int) : List Int := srt (vals (rngL l fr to))
theorem qL_len (l : List (Int × Int)) (fr to : Int) : (qL l fr to).length = (rngL l fr to).length := by unfold qL; rw [srt_len, vals_len]
/-- The place among n. -/
def qI (p : Int) (n : Nat) : Nat := ((p * ((n : Int) - 1) + 99) / 100).toNat
theorem qI_bd {p : Int} {n : Nat} (h0 : 0 ≤ p) (h1 : p ≤ 100) (hn : 0 < n) : 0 ≤ p * ((n : Int) - 1) ∧ p * ((n : Int) - 1) ≤ 100 * ((n : Int) - 1) := by
  have hm : 0 ≤ (n : Int) - 1 := by omega
  exact ⟨Int.mul_nonneg h0 hm, Int.mul_le_mul_of_nonneg_right h1 hm⟩
theorem qI_lt {p : Int} {n : Nat} (h0 : 0 ≤ p) (h1 : p ≤ 100) (hn : 0 < n) : qI p n < n := by
  have := qI_bd h0 h1 hn
  unfold qI
  generalize p * ((n : Int) - 1) = z at *
  omega
def quV (l : List (Int × Int)) (fr to p : Int) : Option Int := if (0 ≤ p ∧ p ≤ 100) ∧ 0 < (qL l fr to).length then some (xi (qL l fr to) (qI p (qL l fr to).length)) else none
theorem quV_no1 {l : List (Int × Int)} {fr to p : Int} (h : p < 0 ∨ 100 < p) : quV l fr to p = none := if_neg fun k => by omega
theorem quV_no2 {l : List (Int × Int)} {fr to p : Int} (h : (qL l fr to).length = 0) : quV l fr to p = none := if_neg fun k => by omega
theorem quV_yes {l : List (Int × Int)} {fr to p : Int} (h0 : 0 ≤ p) (h1 : p ≤ 100) (h : 0 < (qL l fr to).length) : quV l fr to p = some (xi (qL l fr to) (qI p (qL l fr to).length)) := if_pos ⟨⟨h0, h1⟩, h⟩
def quN : Option Int → Int | none => 0 | some x => x
theorem quV_t {l : List (Int × Int)} {fr to p : Int} (h : (quV l fr to p).isSome = true) : 0 ≤ p ∧ p ≤ 100 ∧ 0 < (rngL l fr to).length ∧ quN (quV l fr to p) = xi (qL l fr to) (qI p (rngL l fr to).length) := by
  by_cases hc : (0 ≤ p ∧ p ≤ 100) ∧ 0 < (qL l fr to).length
  · rw [quV_yes hc.1.1 hc.1.2 hc.2, qL_len]
    exact ⟨hc.1.1, hc.1.2, by rw [← qL_len]; exact hc.2, rfl⟩
  · unfold quV at h; rw [if_neg hc] at h; cases h
theorem quV_at {l : List (Int × Int)} {fr to p : Int} (h0 : 0 ≤ p) (h1 : p ≤ 100) (h : 0 < (rngL l fr to).length) : quN (quV l fr to p) = xi (qL l fr to) (qI p (rngL l fr to).length) ∧ (quV l fr to p).isSome = true := by
  rw [quV_yes h0 h1 (by rw [qL_len]; exact h), qL_len]
  exact ⟨rfl, rfl⟩
end Go.Proofs.Ytiajcnldfdijoaa
