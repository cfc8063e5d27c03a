/-
  Plain laws: what lies in a series at the times of a grid.
-/
import Derived.Test.YtgifppadakmmiaaResFn
namespace Go.Proofs.Ytgifppadakmmiaa
open Go.RowKit
theorem resF_mem {l : List (Int × Int)} {to st : Int} (hs : 1 ≤ st) {f : Nat} {t : Int} {p : Int × Int} (h : p ∈ resF l to st f t) : (∃ k : Nat, p.1 = t + st * (k : Int)) ∧ t ≤ p.1 ∧ p.1 < to ∧ valO l p.1 = some p.2 := by
  induction f generalizing t with
  | zero => simp [resF] at h
  | succ f ih =>
    by_cases ht : t < to
    · rw [resF_step l st f ht, List.mem_append] at h
      rcases h with h | h
      · cases hv : valO l t with
        | none => rw [hv] at h; simp [ptO] at h
        | some v =>
          rw [hv] at h
          simp only [ptO, List.mem_singleton] at h
          subst h
          exact ⟨⟨0, by simp⟩, Int.le_refl _, ht, hv⟩
      · obtain ⟨⟨k, hk⟩, h2, h3, h4⟩ := ih h
        refine ⟨⟨k + 1, ?_⟩, by omega, h3, h4⟩
        rw [hk, Int.natCast_add, Int.mul_add]; simp; omega
    · rw [resF_end l st _ (by omega)] at h; simp at h
theorem resF_sorted {l : List (Int × Int)} {to st : Int} (hs : 1 ≤ st) (f : Nat) (t : Int) : (resF l to st f t).Pairwise (fun a b => a.1 < b.1) := by
  induction f generalizing t with
  | zero => simp [resF]
  | succ f ih =>
    by_cases ht : t < to
    · rw [resF_step l st f ht, List.pairwise_append]
      refine ⟨?_, ih _, fun a ha b hb => ?_⟩
      · cases valO l t <;> simp [ptO]
      · have h2 := (resF_mem hs hb).2.1
        cases hv : valO l t with
        | none => rw [hv] at ha; simp [ptO] at ha
        | some v =>
          rw [hv] at ha
          simp only [ptO, List.mem_singleton] at ha
          subst ha
          show t < b.1
          omega
    · rw [resF_end l st _ (by omega)]; simp
theorem valTo_mem {l : List (Int × Int)} {t v : Int} {k : Nat} (h : valTo l t k = some v) : ∃ i, i < k ∧ x1 l i ≤ t ∧ v = x2 l i := by
  induction k with
  | zero => cases h
  | succ k ih =>
    by_cases hx : x1 l k ≤ t
    · have h2 : valTo l t (k + 1) = some (x2 l k) := if_pos hx
      rw [h2] at h
      injection h with h
      exact ⟨k, by omega, hx, h.symm⟩
    · have h2 : valTo l t (k + 1) = valTo l t k := if_neg hx
      rw [h2] at h
      obtain ⟨i, h1, h3, h4⟩ := ih h
      exact ⟨i, by omega, h3, h4⟩
theorem valO_bd {l : List (Int × Int)} {t v : Int} (h : valO l t = some v) : vS l = true ∧ -1000 ≤ v ∧ v ≤ 1000 := by
  by_cases hv : vS l = true
  · rw [valO_ok hv] at h
    obtain ⟨i, hi, _, rfl⟩ := valTo_mem h
    have := VS_at (VS_of hv) hi
    exact ⟨hv, by omega, by omega⟩
  · rw [valO_bad (by simpa using hv)] at h; cases h
theorem sorted_at {l : List (Int × Int)} (h : l.Pairwise (fun a b => a.1 < b.1)) {i j : Nat} (hij : i < j) (hj : j < l.length) : x1 l i < x1 l j := by
  rw [x1_get (by omega), x1_get hj]
  exact List.pairwise_iff_getElem.1 h i j (by omega) hj hij
theorem resL_at {l : List (Int × Int)} {fr to st : Int} {i : Nat} (h : i < (resL l fr to st).length) :
    resOk l fr to st ∧ (∃ k : Nat, x1 (resL l fr to st) i = fr + st * (k : Int)) ∧ fr ≤ x1 (resL l fr to st) i ∧ x1 (resL l fr to st) i < to ∧ valO l (x1 (resL l fr to st) i) = some (x2 (resL l fr to st) i) := by
  by_cases hok : resOk l fr to st
  · have hm : (resL l fr to st)[i] ∈ resL l fr to st := List.getElem_mem h
    rw [x1_get h, x2_get h]
    have h2 : resL l fr to st = resF l to st 16 fr := resL_ok hok
    generalize hp : (resL l fr to st)[i] = p at hm
    rw [h2] at hm
    exact ⟨hok, resF_mem hok.2.2.2.1.1 hm⟩
  · rw [resL_no hok] at h; exact absurd h (by simp)
theorem resL_sorted (l : List (Int × Int)) (fr to st : Int) : (resL l fr to st).Pairwise (fun a b => a.1 < b.1) := by
  by_cases hok : resOk l fr to st
  · rw [resL_ok hok]; exact resF_sorted hok.2.2.2.1.1 _ _
  · rw [resL_no hok]; exact List.Pairwise.nil
theorem resL_vS (l : List (Int × Int)) (fr to st : Int) : vS (resL l fr to st) = true := by
  refine vS_good (resL_len l fr to st) fun i hi => ⟨?_, fun h0 => sorted_at (resL_sorted l fr to st) (by omega) hi⟩
  obtain ⟨hok, _, h2, h3, h4⟩ := resL_at hi
  obtain ⟨_, h5, h6⟩ := valO_bd h4
  have := hok.2.1; have := hok.2.2.1
  unfold okPt inR
  simp; omega
end Go.Proofs.Ytgifppadakmmiaa
