/-
  The plain laws of the tiers.
-/
import Derived.Test.YtheckdenoomhjaaTierFn3
namespace Go.Proofs.Ytheckdenoomhjaa
open Go.RowKit
theorem x1_take (l : List (Int × Int)) {k i : Nat} (h : i < k) : x1 (l.take k) i = x1 l i := by simp [x1, List.getD_eq_getElem?_getD, h]
theorem x2_take (l : List (Int × Int)) {k i : Nat} (h : i < k) : x2 (l.take k) i = x2 l i := by simp [x2, List.getD_eq_getElem?_getD, h]
theorem x1_drop (l : List (Int × Int)) (k i : Nat) : x1 (l.drop k) i = x1 l (k + i) := by simp [x1, List.getD_eq_getElem?_getD, List.getElem?_drop]
theorem x2_drop (l : List (Int × Int)) (k i : Nat) : x2 (l.drop k) i = x2 l (k + i) := by simp [x2, List.getD_eq_getElem?_getD, List.getElem?_drop]
theorem Rd2.take {w : World} {B : Nat} {A : Option Addr} {l : List (Int × Int)} (h : Rd2 w B A l) (k : Nat) (hk : k ≤ l.length) : Rd2 w B A (l.take k) := by
  unfold Rd2
  rw [List.length_take, Nat.min_eq_left hk]
  exact (Rd.less h (Nat.mul_le_mul_right _ hk)).congr fun j hj => by
    unfold cells2; rw [x1_take _ (by omega), x2_take _ (by omega)]
theorem Rd2.drop {w : World} {B : Nat} {A : Option Addr} {l : List (Int × Int)} (h : Rd2 w B A l) (k cap : Nat) (hk : k ≤ l.length) (hc : l.length ≤ cap) : Rd2 w B (if cap = k then A else A.map (·.add (k * 2))) (l.drop k) := by
  have := Rd.drop h cap l.length 2 hk hc rfl
  unfold Rd2
  rw [List.length_drop, Nat.sub_mul]
  refine this.congr fun j _ => ?_
  have e1 : (k * 2 + j) / 2 = k + j / 2 := by omega
  have e2 : (k * 2 + j) % 2 = j % 2 := by omega
  unfold cells2; rw [x1_drop, x2_drop, e1, e2]
theorem Rd2.shift {w : World} {B b off : Nat} {l : List (Int × Int)} (h : Rd2 w B (some ⟨b, off, none⟩) l) (k : Nat) (hk : k ≤ l.length) : Rd2 w B (some ⟨b, off + k * 2, none⟩) (l.drop k) := by
  have := h.drop k (l.length + k + 1) hk (by omega)
  rw [if_neg (by omega)] at this
  simp only [Option.map_some, Addr.add] at this
  split at this
  · rename_i h0
    rw [h0, Nat.add_zero]; exact this
  · exact this
theorem vT_take {l : List (Int × Int)} (h : vT l = true) {k : Nat} (h1 : 1 ≤ k) (hk : k ≤ l.length) : vT (l.take k) = true := by
  have H := VT_of h
  refine vT_good (by simp; omega) (by have := H.2.1; simp; omega) fun j hj => ?_
  have hj' : j < k := by simp at hj; omega
  have := H.2.2 j (by omega)
  unfold okT at *
  rw [x1_take _ hj', x2_take _ hj']
  refine ⟨this.1, this.2.1, this.2.2.1, this.2.2.2.1, fun h0 => ?_⟩
  rw [x1_take _ (by omega), x2_take _ (by omega)]
  exact this.2.2.2.2 h0
theorem vT_drop {l : List (Int × Int)} (h : vT l = true) (hk : 2 ≤ l.length) : vT (l.drop 1) = true := by
  have H := VT_of h
  refine vT_good (by simp; omega) (by have := H.2.1; simp; omega) fun j hj => ?_
  have hj' : j + 1 < l.length := by simp at hj; omega
  have := H.2.2 (1 + j) (by omega)
  unfold okT at *
  rw [x1_drop, x2_drop]
  refine ⟨this.1, this.2.1, this.2.2.1, this.2.2.2.1, fun h0 => ?_⟩
  rw [x1_drop, x2_drop, show 1 + (j - 1) = 1 + j - 1 by omega]
  exact this.2.2.2.2 (by omega)
theorem oldE_mod (l : List (Int × Int)) (now : Int) (i : Nat) : oldE l now i % x1 l i = 0 := by unfold oldE oldI; exact Int.mul_emod_left _ _
theorem oldE_ge {l : List (Int × Int)} {now : Int} {i : Nat} (h : 1 ≤ x1 l i) : max 0 (now - x2 l i) ≤ oldE l now i := by have := oldI_ge (x1 l i) (x2 l i) now h; unfold oldE; omega
theorem oldE_lt {l : List (Int × Int)} {now : Int} {i : Nat} (h : 1 ≤ x1 l i) : oldE l now i - x1 l i < max 0 (now - x2 l i) := by have := oldI_le (x1 l i) (x2 l i) now h; unfold oldE; omega
theorem oldE_mono {l : List (Int × Int)} {now now' : Int} {i : Nat} (h : 1 ≤ x1 l i) (hn : now ≤ now') : oldE l now i ≤ oldE l now' i := by
  unfold oldE oldI
  exact Int.mul_le_mul_of_nonneg_right (Int.ediv_le_ediv (by omega) (by omega)) (by omega)
theorem oldE_zero {l : List (Int × Int)} {i : Nat} (h : 1 ≤ x1 l i) (h2 : 0 ≤ x2 l i) : oldE l 0 i = 0 := by
  unfold oldE oldI
  rw [show max (0 - x2 l i) 0 = 0 by omega, Int.ediv_eq_zero_of_lt (by omega) (by omega)]; omega
theorem oldE_now {l : List (Int × Int)} {now : Int} {i : Nat} (h : 1 ≤ x1 l i) (h2 : x1 l i ≤ x2 l i) (h0 : 0 ≤ now) : oldE l now i ≤ now := by
  rcases (by omega : now < x2 l i ∨ x2 l i ≤ now) with h3 | h3
  · have := oldE_mono (l := l) (i := i) h (by omega : now ≤ x2 l i)
    have e : oldE l (x2 l i) i = 0 := by
      unfold oldE oldI
      rw [show max (x2 l i - x2 l i) 0 = 0 by omega, Int.ediv_eq_zero_of_lt (by omega) (by omega)]; omega
    omega
  · have := oldE_lt (l := l) (now := now) (i := i) h
    omega
theorem tierF_nonneg {l : List (Int × Int)} {now fr : Int} (h : 0 ≤ tierF l now fr) : okArgs l now = true ∧ inR fr 0 1000 = true ∧ tierF l now fr = findT l now fr := by
  unfold tierF at *
  by_cases h1 : (okArgs l now && inR fr 0 1000) = true
  · rw [if_pos h1]
    simp only [Bool.and_eq_true] at h1
    exact ⟨h1.1, h1.2, rfl⟩
  · rw [if_neg h1] at h; omega
theorem tierF_later {l : List (Int × Int)} {now fr : Int} (h : 0 ≤ tierF l now fr) (h2 : fr ≠ 1000) : 0 ≤ tierF l now (fr + 1) ∧ tierF l now (fr + 1) ≤ tierF l now fr := by
  obtain ⟨a, b, c⟩ := tierF_nonneg h
  have b' : 0 ≤ fr ∧ fr ≤ 1000 := by simpa [inR] using b
  have d : tierF l now (fr + 1) = findT l now (fr + 1) := by
    unfold tierF; rw [a, show inR (fr + 1) 0 1000 = true by simp [inR]; omega]; rfl
  rw [c] at h ⊢
  rw [d]
  rcases findT_cases l now fr with ⟨e, _⟩ | ⟨k, e, hk, hn, ho⟩
  · omega
  · rcases findT_cases l now (fr + 1) with ⟨e', hn'⟩ | ⟨k', e', hk', hn', ho'⟩
    · have := hn' k hk; omega
    · have : k' ≤ k := by
        rcases Nat.lt_or_ge k k' with h5 | h5
        · have := hn' k h5; omega
        · exact h5
      omega
theorem tierF_now {l : List (Int × Int)} {now : Int} (hv : vT l = true) (h0 : 0 ≤ now) (h1 : now ≤ 1000) : tierF l now now = 0 := by
  have H := VT_of hv
  unfold tierF okArgs
  rw [hv, show inR now 0 1000 = true by simp [inR]; omega]
  have hp := H.2.2 0 (by have := H.1; omega)
  exact findT_hit (k := 0) (by have := H.1; omega) (noneTo_zero _ _ _) (oldE_now hp.1 hp.2.2.1 h0)
theorem costTo_drop (l : List (Int × Int)) (now : Int) : ∀ k, costTo l now (k + 1) = costE l now 0 + costTo (l.drop 1) now k := by
  intro k
  induction k with
  | zero => simp [costTo]
  | succ k ih =>
    have : costE (l.drop 1) now k = costE l now (k + 1) := by unfold costE oldE; rw [x1_drop, x2_drop, show 1 + k = k + 1 by omega]
    simp only [costTo] at ih ⊢
    rw [ih, this]; omega
theorem tierC_split {l : List (Int × Int)} {now : Int} (h : 0 ≤ tierC l now) (h2 : 2 ≤ l.length) : tierC (l.take 1) now + tierC (l.drop 1) now = tierC l now := by
  have ho : okArgs l now = true := by
    unfold tierC at h
    by_cases h1 : okArgs l now = true
    · exact h1
    · rw [if_neg h1] at h; omega
  have ho' := ho
  unfold okArgs at ho'
  simp only [Bool.and_eq_true] at ho'
  have a1 : okArgs (l.take 1) now = true := by unfold okArgs; rw [vT_take ho'.1 (Nat.le_refl _) (by omega), ho'.2]; rfl
  have a2 : okArgs (l.drop 1) now = true := by unfold okArgs; rw [vT_drop ho'.1 h2, ho'.2]; rfl
  unfold tierC
  rw [ho, a1, a2, List.length_take, List.length_drop, Nat.min_eq_left (by omega)]
  simp only [if_true]
  obtain ⟨k, hk⟩ : ∃ k, l.length = k + 1 := ⟨l.length - 1, by omega⟩
  rw [hk, costTo_drop l now k, Nat.add_sub_cancel]
  have : costTo (l.take 1) now 1 = costE l now 0 := by
    simp only [costTo]
    unfold costE oldE; rw [x1_take _ (by omega), x2_take _ (by omega)]; omega
  rw [this]
theorem tierC_bd {l : List (Int × Int)} {now : Int} : -1 ≤ tierC l now ∧ tierC l now ≤ 5000 := by
  unfold tierC
  by_cases h : okArgs l now = true
  · rw [if_pos h]
    unfold okArgs at h
    simp only [Bool.and_eq_true] at h
    have H := VT_of h.1
    have h' : 0 ≤ now ∧ now ≤ 1000 := by simpa [inR] using h.2
    have := costTo_bd (l := l) h'.1 h'.2 l.length (fun i hi => (VT_pos H hi).1)
    have := H.2.1
    omega
  · rw [if_neg h]; omega
end Go.Proofs.Ytheckdenoomhjaa
