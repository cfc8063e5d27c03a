/-
  Labels, matchers, texts among the arguments, opened.
-/
import Derived.Test.YtmnfcfhnmndakaaOpen
import Derived.Test.YtmnfcfhnmndakaaLabCopy
import Derived.Test.YtmnfcfhnmndakaaLabW3
import Derived.Deep.Strs
namespace Go.Proofs.Ytmnfcfhnmndakaa
open Go.ChangeShapes Go.WideShapes Go.ChangeAt Go.RowKit Go.Deep
section
variable {H : Type} {enc : TypeId × Value → H} {P : Program} {w : World} {base : Nat} {spare : Nat → Bool} {held : Bool}
theorem open_rdG {α : Type} [Inhabited α] (en : α → Nat → Value) (k : Nat) (p : α → Prop) {t e : TypeId} {fuel : Nat} {A : Option Addr} {n c : Nat} {x : DataW H × List MemPlace} (ht : P.underlying t = some (.slice e)) (ce : P.cellsOf e = k) (hk : 0 < k)
    (hel : ∀ m cs y, cs.length = k → DataW.trod enc P w base spare held m e cs = some y → ∃ z : α, p z ∧ ∀ q, q < k → cs[q]? = some (en z q))
    (h : DataW.trod enc P w base spare held fuel t [.slice A n c] = some x) : n ≤ 9223372036854775807 ∧ n ≤ c ∧ ∃ l : List α, l.length = n ∧ (∀ i, i < n → p (at0 l i)) ∧ RdG en k w w.heap.size A l := by
  rcases open_slice ht h with ⟨h0, _⟩ | ⟨a, len, cap, m, fu, D, Pl, hcs, _, hl, hm, hmm, _, hx⟩
  · simp only [List.cons.injEq, Value.slice.injEq, and_true] at h0
    obtain ⟨rfl, rfl, rfl⟩ := h0
    exact ⟨by omega, by omega, [], rfl, fun i hi => absurd hi (by omega), RdG.nil _ _ _ _ rfl⟩
  · simp only [List.cons.injEq, Value.slice.injEq, and_true] at hcs
    obtain ⟨rfl, rfl, rfl⟩ := hcs
    have hlm : n ≤ m := by rw [hmm]; split <;> omega
    rw [ce] at hx
    have each : ∀ i, i < m → ∃ z : α, p z ∧ ∀ q, q < k → w.cell? (a.add (i * k + q)) = some (en z q) := fun i hi => by
      obtain ⟨cs, h1, h2⟩ := hx i hi
      obtain ⟨_, hlen, hcell⟩ := World.cells?_some h1
      obtain ⟨z, hp, hz⟩ := hel _ _ _ hlen h2
      refine ⟨z, hp, fun q hq => ?_⟩
      rw [← add_add, hcell q hq, hz q hq]
    obtain ⟨f, hf⟩ := choose_lt each
    refine ⟨by unfold maxLen at hm; omega, by omega, (List.range n).map f, by simp, fun i hi => ?_, ?_⟩
    · have : at0 ((List.range n).map f) i = f i := by rw [at0_get (by simpa using hi)]; simp
      rw [this]; exact (hf i (by omega)).1
    · refine Rd.of_add fun j hj => ?_
      rw [List.length_map, List.length_range] at hj
      have hjk : j / k < n := (Nat.div_lt_iff_lt_mul hk).2 hj
      have := (hf (j / k) (by omega)).2 (j % k) (Nat.mod_lt _ hk)
      rw [show j / k * k + j % k = j by rw [Nat.mul_comm]; exact Nat.div_add_mod j k] at this
      rw [this]
      unfold cellsG
      rw [at0_get (by simpa using hjk)]
      simp
end
section
variable {H : Type} {enc : TypeId × Value → H} {w : World} {base : Nat} {spare : Nat → Bool} {held : Bool}
set_option maxRecDepth 100000 in
theorem open_labels {fuel : Nat} {A : Option Addr} {n c : Nat} {x : DataW H × List MemPlace}
    (h : DataW.trod enc Try.prog w base spare held fuel 48 [.slice A n c] = some x) : n ≤ 9223372036854775807 ∧ n ≤ c ∧ ∃ l : List Lb, l.length = n ∧ SzL l ∧ RdL w w.heap.size A l := by
  obtain ⟨h1, h2, l, h3, h4, h5⟩ := open_rdG encL 2 (fun z => z.1.size ≤ 9223372036854775807 ∧ z.2.size ≤ 9223372036854775807) Try.underlying48 (by kernel_rfl) (by omega) (fun m cs y hlen hy => by
    obtain ⟨y0, y1, n0, _, _, t0, t1⟩ := trod_struct2 Try.underlying87 hy
    match cs, hlen with
    | [v0, v1], _ =>
      obtain ⟨s0, e0, _, w0⟩ := DataW.trod_string Try.underlying9 t0
      obtain ⟨s1, e1, _, w1⟩ := DataW.trod_string Try.underlying9 t1
      have e0' : [v0] = [Value.string s0] := e0
      have e1' : [v1] = [Value.string s1] := e1
      simp only [List.cons.injEq, and_true] at e0' e1'
      subst e0'; subst e1'
      refine ⟨(s0, s1), ⟨w0, w1⟩, fun q hq => ?_⟩
      match q, hq with
      | 0, _ => rfl
      | 1, _ => rfl) h
  exact ⟨h1, h2, l, h3, fun i hi => h4 i (by omega), h5⟩
set_option maxRecDepth 100000 in
theorem open_strings {fuel : Nat} {A : Option Addr} {n c : Nat} {x : DataW H × List MemPlace}
    (h : DataW.trod enc Try.prog w base spare held fuel 26 [.slice A n c] = some x) : n ≤ 9223372036854775807 ∧ n ≤ c ∧ ∃ l : List ByteArray, l.length = n ∧ (∀ i, i < l.length → (at0 l i).size ≤ 9223372036854775807) ∧ RdS w w.heap.size A l := by
  obtain ⟨h1, h2, l, h3, h4, h5⟩ := open_rdG encS 1 (fun z => z.size ≤ 9223372036854775807) Try.underlying26 (by kernel_rfl) (by omega) (fun m cs y hlen hy => by
    match cs, hlen with
    | [v0], _ =>
      obtain ⟨s0, e0, _, w0⟩ := DataW.trod_string Try.underlying9 hy
      simp only [List.cons.injEq, and_true] at e0
      subst e0
      refine ⟨s0, w0, fun q hq => ?_⟩
      match q, hq with
      | 0, _ => rfl) h
  exact ⟨h1, h2, l, h3, fun i hi => h4 i (by omega), h5⟩
end
end Go.Proofs.Ytmnfcfhnmndakaa
