/-
  Plain functions and laws: the order of labels.
-/
import Derived.Test.YtmnfcfhnmndakaaLabFn2
namespace Go.Proofs.Ytmnfcfhnmndakaa
open Go.RowKit
def cmpT (s t : ByteArray) : Int := if ltB s t then -1 else if ltB t s then 1 else 0
theorem cmpT_lt {s t : ByteArray} (h : ltB s t = true) : cmpT s t = -1 := by unfold cmpT; rw [if_pos h]
theorem cmpT_gt {s t : ByteArray} (h : ltB t s = true) : cmpT s t = 1 := by unfold cmpT; rw [ltB_asymm h, if_neg (by simp), if_pos h]
theorem cmpT_self (s : ByteArray) : cmpT s s = 0 := by unfold cmpT; rw [ltB_irrefl]; rfl
theorem cmpT_eq {s t : ByteArray} (h1 : ltB s t = false) (h2 : ltB t s = false) : cmpT s t = 0 ∧ s = t := by
  have := ltB_total h1 h2
  subst this; exact ⟨cmpT_self s, rfl⟩
theorem cmpT_cases (s t : ByteArray) : (ltB s t = true ∧ cmpT s t = -1 ∧ cmpT t s = 1) ∨ (ltB t s = true ∧ cmpT s t = 1 ∧ cmpT t s = -1) ∨ (s = t ∧ cmpT s t = 0 ∧ cmpT t s = 0) := by
  rcases h1 : ltB s t with _ | _
  · rcases h2 : ltB t s with _ | _
    · have := ltB_total h1 h2
      subst this
      exact .inr (.inr ⟨rfl, cmpT_self s, cmpT_self s⟩)
    · exact .inr (.inl ⟨rfl, cmpT_gt h2, cmpT_lt h2⟩)
  · exact .inl ⟨rfl, cmpT_lt h1, cmpT_gt h1⟩
theorem cmpT_bl (s t : ByteArray) : Lib.compareBytes s.data.toList t.data.toList = cmpT s t := by
  rw [cmp_bl, ← Lib.toList_data, ← Lib.toList_data]; rfl
theorem cmpT_zero {s t : ByteArray} (h : cmpT s t = 0) : s = t := by
  rcases cmpT_cases s t with ⟨_, h1, _⟩ | ⟨_, h1, _⟩ | ⟨h1, _, _⟩
  · omega
  · omega
  · exact h1
theorem cmpT_bd (s t : ByteArray) : -1 ≤ cmpT s t ∧ cmpT s t ≤ 1 := by
  rcases cmpT_cases s t with ⟨_, h1, _⟩ | ⟨_, h1, _⟩ | ⟨_, h1, _⟩ <;> omega
theorem cmpT_neg (s t : ByteArray) : cmpT t s = - cmpT s t := by
  rcases cmpT_cases s t with ⟨_, h1, h2⟩ | ⟨_, h1, h2⟩ | ⟨_, h1, h2⟩ <;> omega
theorem cmpT_trans {s t u : ByteArray} (h1 : cmpT s t ≤ 0) (h2 : cmpT t u ≤ 0) : cmpT s u ≤ 0 ∧ (cmpT s u = 0 → cmpT s t = 0 ∧ cmpT t u = 0) := by
  rcases cmpT_cases s t with ⟨a, a1, _⟩ | ⟨_, a1, _⟩ | ⟨a, a1, _⟩
  · rcases cmpT_cases t u with ⟨b, b1, _⟩ | ⟨_, b1, _⟩ | ⟨b, b1, _⟩
    · rw [cmpT_lt (ltB_trans a b)]; omega
    · omega
    · subst b; omega
  · omega
  · subst a; omega
def cmpX (x y : Lb) : Int := if cmpT x.1 y.1 = 0 then cmpT x.2 y.2 else cmpT x.1 y.1
theorem cmpX_bd (x y : Lb) : -1 ≤ cmpX x y ∧ cmpX x y ≤ 1 := by unfold cmpX; split <;> exact cmpT_bd _ _
theorem cmpX_zero {x y : Lb} (h : cmpX x y = 0) : x = y := by
  unfold cmpX at h
  split at h
  · rename_i h1; exact Prod.ext (cmpT_zero h1) (cmpT_zero h)
  · rename_i h1; exact absurd h h1
theorem cmpX_self (x : Lb) : cmpX x x = 0 := by unfold cmpX; rw [if_pos (cmpT_self _), cmpT_self]
theorem cmpX_neg (x y : Lb) : cmpX y x = - cmpX x y := by
  unfold cmpX
  have := cmpT_neg x.1 y.1
  have := cmpT_neg x.2 y.2
  split <;> split <;> omega
theorem cmpX_trans {x y z : Lb} (h1 : cmpX x y ≤ 0) (h2 : cmpX y z ≤ 0) : cmpX x z ≤ 0 ∧ (cmpX x z = 0 → cmpX x y = 0 ∧ cmpX y z = 0) := by
  by_cases a : cmpT x.1 y.1 = 0
  · have a' := cmpT_zero a
    have e1 : cmpX x y = cmpT x.2 y.2 := if_pos a
    by_cases b : cmpT y.1 z.1 = 0
    · have e2 : cmpX y z = cmpT y.2 z.2 := if_pos b
      have e3 : cmpX x z = cmpT x.2 z.2 := if_pos (by rw [a']; exact b)
      have := cmpT_trans (s := x.2) (t := y.2) (u := z.2) (by omega) (by omega)
      rw [e1, e2, e3]; exact this
    · have e2 : cmpX y z = cmpT y.1 z.1 := if_neg b
      have e3 : cmpX x z = cmpT y.1 z.1 := by unfold cmpX; rw [a', if_neg b]
      omega
  · have e1 : cmpX x y = cmpT x.1 y.1 := if_neg a
    by_cases b : cmpT y.1 z.1 = 0
    · have b' := cmpT_zero b
      have e3 : cmpX x z = cmpT x.1 y.1 := by unfold cmpX; rw [← b', if_neg a]
      omega
    · have e2 : cmpX y z = cmpT y.1 z.1 := if_neg b
      have := cmpT_trans (s := x.1) (t := y.1) (u := z.1) (by omega) (by omega)
      have n0 : ¬ cmpT x.1 z.1 = 0 := fun h => a (this.2 h).1
      have e3 : cmpX x z = cmpT x.1 z.1 := if_neg n0
      omega
def cmpLs : List Lb → List Lb → Int
  | [], [] => 0
  | [], _ :: _ => -1
  | _ :: _, [] => 1
  | x :: l, y :: l' => if cmpX x y = 0 then cmpLs l l' else cmpX x y
theorem cmpLs_bd : ∀ l l' : List Lb, -1 ≤ cmpLs l l' ∧ cmpLs l l' ≤ 1
  | [], [] => by simp [cmpLs]
  | [], _ :: _ => by simp [cmpLs]
  | _ :: _, [] => by simp [cmpLs]
  | x :: l, y :: l' => by
    unfold cmpLs; split
    · exact cmpLs_bd l l'
    · exact cmpX_bd x y
theorem cmpLs_self : ∀ l : List Lb, cmpLs l l = 0
  | [] => rfl
  | x :: l => by unfold cmpLs; rw [if_pos (cmpX_self x)]; exact cmpLs_self l
theorem cmpLs_zero : ∀ {l l' : List Lb}, cmpLs l l' = 0 → l = l'
  | [], [], _ => rfl
  | [], _ :: _, h => by simp [cmpLs] at h
  | _ :: _, [], h => by simp [cmpLs] at h
  | x :: l, y :: l', h => by
    unfold cmpLs at h
    split at h
    · rename_i h1; rw [cmpX_zero h1, cmpLs_zero h]
    · rename_i h1; exact absurd h h1
theorem cmpLs_neg : ∀ l l' : List Lb, cmpLs l' l = - cmpLs l l'
  | [], [] => rfl
  | [], _ :: _ => rfl
  | _ :: _, [] => rfl
  | x :: l, y :: l' => by
    unfold cmpLs
    have h1 := cmpX_neg x y
    have h2 := cmpLs_neg l l'
    split <;> split <;> omega
theorem cmpLs_trans : ∀ {a b c : List Lb}, cmpLs a b ≤ 0 → cmpLs b c ≤ 0 → cmpLs a c ≤ 0
  | [], _, [], _, _ => by simp [cmpLs]
  | [], _, _ :: _, _, _ => by simp [cmpLs]
  | _ :: _, [], _, h, _ => by simp [cmpLs] at h
  | _ :: _, _ :: _, [], _, h => by simp [cmpLs] at h
  | x :: a, y :: b, z :: c, h1, h2 => by
    unfold cmpLs at h1 h2 ⊢
    by_cases hx : cmpX x y = 0
    · rw [if_pos hx] at h1
      have e := cmpX_zero hx
      subst e
      by_cases hy : cmpX x z = 0
      · rw [if_pos hy] at h2 ⊢
        exact cmpLs_trans h1 h2
      · rw [if_neg hy] at h2 ⊢; exact h2
    · rw [if_neg hx] at h1
      by_cases hy : cmpX y z = 0
      · have e := cmpX_zero hy
        subst e
        rw [if_neg hx]; exact h1
      · rw [if_neg hy] at h2
        have := cmpX_trans h1 h2
        rw [if_neg (fun h => hx (this.2 h).1)]; exact this.1
theorem cmpLs_prefix : ∀ {a : List Lb} (k : Nat), k < a.length → cmpLs (a.take k) a = -1
  | [], _, h => by simp at h
  | x :: a, 0, _ => rfl
  | x :: a, k + 1, h => by
    show cmpLs (x :: a.take k) (x :: a) = -1
    unfold cmpLs
    rw [if_pos (cmpX_self x)]
    exact cmpLs_prefix k (by simpa using h)
def cmpV (l l' : List Lb) : Int := if vL l = true ∧ vL l' = true then cmpLs l l' else 0
theorem cmpV_ok {l l' : List Lb} (h : vL l = true) (h' : vL l' = true) : cmpV l l' = cmpLs l l' := if_pos ⟨h, h'⟩
theorem cmpV_no1 {l l' : List Lb} (h : vL l = false) : cmpV l l' = 0 := if_neg fun k => by rw [h] at k; cases k.1
theorem cmpV_no2 {l l' : List Lb} (h : vL l' = false) : cmpV l l' = 0 := if_neg fun k => by rw [h] at k; cases k.2
/-! What a walk by index knows. -/
theorem cmpLs_step {l l' : List Lb} {k : Nat} (h1 : k < l.length) (h2 : k < l'.length) : cmpLs (l.drop k) (l'.drop k) = if cmpX (at0 l k) (at0 l' k) = 0 then cmpLs (l.drop (k + 1)) (l'.drop (k + 1)) else cmpX (at0 l k) (at0 l' k) := by
  rw [List.drop_eq_getElem_cons h1, List.drop_eq_getElem_cons h2, at0_get h1, at0_get h2]; rfl
theorem cmpLs_short {l l' : List Lb} {k : Nat} (h1 : k < l.length) (h2 : l'.length ≤ k) : cmpLs (l.drop k) (l'.drop k) = 1 := by
  rw [List.drop_eq_getElem_cons h1, List.drop_of_length_le h2]; rfl
theorem cmpLs_long {l l' : List Lb} {k : Nat} (h1 : l.length ≤ k) (h2 : k < l'.length) : cmpLs (l.drop k) (l'.drop k) = -1 := by
  rw [List.drop_of_length_le h1, List.drop_eq_getElem_cons h2]; rfl
theorem cmpLs_both {l l' : List Lb} {k : Nat} (h1 : l.length ≤ k) (h2 : l'.length ≤ k) : cmpLs (l.drop k) (l'.drop k) = 0 := by
  rw [List.drop_of_length_le h1, List.drop_of_length_le h2]; rfl
end Go.Proofs.Ytmnfcfhnmndakaa
