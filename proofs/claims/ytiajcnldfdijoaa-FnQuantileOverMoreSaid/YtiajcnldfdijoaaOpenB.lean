/-
  A slice of bytes among the arguments, opened.
-/
import Derived.Test.YtiajcnldfdijoaaOpen
import Derived.Test.YtiajcnldfdijoaaReader
namespace Go.Proofs.Ytiajcnldfdijoaa
open Go.ChangeShapes Go.WideShapes Go.ChangeAt Go.RowKit Go.Deep
section
variable {H : Type} {enc : TypeId × Value → H} {P : Program} {w : World} {base : Nat} {spare : Nat → Bool} {held : Bool}
theorem open_bytes {t e : TypeId} {fuel : Nat} {A : Option Addr} {n c : Nat} {x : DataW H × List MemPlace} (ht : P.underlying t = some (.slice e)) (he : P.underlying e = some (.int .u8)) (ce : P.cellsOf e = 1)
    (h : DataW.trod enc P w base spare held fuel t [.slice A n c] = some x) : n ≤ 9223372036854775807 ∧ n ≤ c ∧ RdB w w.heap.size A n := by
  rcases open_slice1 ht ce h with ⟨h0, _⟩ | ⟨a, len, cap, m, k, V, D, Pl, hcs, _, hl, hm, hmm, _, hx⟩
  · simp only [List.cons.injEq, Value.slice.injEq, and_true] at h0
    obtain ⟨rfl, rfl, rfl⟩ := h0
    exact ⟨by omega, by omega, fun _ => 0, fun _ => ⟨by show (0 : Int) ≤ 0; omega, by show (0 : Int) ≤ 255; omega⟩, Rd.none_⟩
  · simp only [List.cons.injEq, Value.slice.injEq, and_true] at hcs
    obtain ⟨rfl, rfl, rfl⟩ := hcs
    have hlm : n ≤ m := by rw [hmm]; split <;> omega
    have each : ∀ i, i < m → ∃ z : Int, V i = .int .u8 z ∧ 0 ≤ z ∧ z ≤ 255 := fun i hi => by
      obtain ⟨_, h2⟩ := hx i hi
      obtain ⟨p, hp, _, hw⟩ := DataW.trod_int he h2
      have := bounds_u8 hw
      exact ⟨p, by simpa using hp, this.1, this.2⟩
    obtain ⟨f, hf⟩ := choose_lt each
    refine ⟨by unfold maxLen at hm; omega, by omega, fun j => if j < n then f j else 0, fun j => ?_, Rd.of_add fun j hj => ?_⟩
    · by_cases hj : j < n
      · simp only [hj, if_true]; exact (hf j (by omega)).2
      · simp only [hj, if_false]; omega
    · obtain ⟨hc, _⟩ := hx j (by omega)
      rw [hc, (hf j (by omega)).1]
      simp [hj]
end
end Go.Proofs.Ytiajcnldfdijoaa
