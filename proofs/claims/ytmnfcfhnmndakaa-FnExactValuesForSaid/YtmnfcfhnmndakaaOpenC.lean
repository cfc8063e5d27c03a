/-
  Catalogs among the arguments, opened.
-/
import Derived.Test.YtmnfcfhnmndakaaOpenM
import Derived.Test.YtmnfcfhnmndakaaCatW3
namespace Go.Proofs.Ytmnfcfhnmndakaa
open Go.ChangeShapes Go.WideShapes Go.ChangeAt Go.RowKit Go.Deep
section
variable {H : Type} {enc : TypeId × Value → H} {w : World} {base : Nat} {spare : Nat → Bool} {held : Bool}
def SlP (w : World) (v : Value) : Prop := ∃ a m c, v = .slice a m c ∧ m ≤ c ∧ ∃ l : List Lb, l.length = m ∧ m ≤ 9223372036854775807 ∧ SzL l ∧ RdL w w.heap.size a l
set_option maxRecDepth 100000 in
theorem open_catalog {fuel : Nat} {A : Option Addr} {n c : Nat} {x : DataW H × List MemPlace}
    (h : DataW.trod enc Try.prog w base spare held fuel 35 [.slice A n c] = some x) : n ≤ 9223372036854775807 ∧ n ≤ c ∧ ∃ C : Ct, C.length = n ∧ SzR C 9223372036854775807 ∧ RdC w w.heap.size A C := by
  obtain ⟨h1, h2, vs, h3, h4, h5⟩ := open_rdG (fun (v : Value) _ => v) 1 (SlP w) Try.underlying35 (by kernel_rfl) (by omega) (fun m cs y hlen hy => by
    match cs, hlen with
    | [v0], _ =>
      have hv : ∃ a m c, v0 = .slice a m c := by
        rcases open_slice Try.underlying48 hy with ⟨h0, _⟩ | ⟨a, len, cap, m, fu, D, Pl, hcs, _⟩
        · simp only [List.cons.injEq, and_true] at h0
          exact ⟨_, _, _, h0⟩
        · simp only [List.cons.injEq, and_true] at hcs
          exact ⟨_, _, _, hcs⟩
      obtain ⟨a, m, c, rfl⟩ := hv
      obtain ⟨k1, k2, l, k3, k4, k5⟩ := open_labels hy
      refine ⟨.slice a m c, ⟨a, m, c, rfl, k2, l, k3, k1, k4, k5⟩, fun q hq => ?_⟩
      match q, hq with
      | 0, _ => rfl) h
  have each : ∀ i, i < n → ∃ l : List Lb, ∃ a m c, at0 vs i = .slice a m c ∧ m ≤ c ∧ l.length = m ∧ m ≤ 9223372036854775807 ∧ SzL l ∧ RdL w w.heap.size a l := fun i hi => by
    obtain ⟨a, m, c, e, k2, l, k3, k1, k4, k5⟩ := h4 i hi
    exact ⟨l, a, m, c, e, k2, k3, k1, k4, k5⟩
  obtain ⟨f, hf⟩ := choose_lt each
  have hat : ∀ i, i < n → at0 ((List.range n).map f) i = f i := fun i hi => by rw [at0_get (by simpa using hi)]; simp
  refine ⟨h1, h2, (List.range n).map f, by simp, fun i hi => ?_, fun h0 => ?_⟩
  · have hi' : i < n := by simpa using hi
    rw [hat i hi']
    obtain ⟨a, m, c, _, _, k3, k1, k4, _⟩ := hf i hi'
    exact ⟨k4, by omega⟩
  · have hn : 0 < n := by simpa using h0
    obtain ⟨b, off, e, hlt, hc⟩ := RdG.at_ h5 (by omega) (by omega)
    refine ⟨b, off, e, hlt, fun i hi => ?_⟩
    have hi' : i < n := by simpa using hi
    obtain ⟨a, m, c, he, k2, k3, _, _, k5⟩ := hf i hi'
    have := hc i 0 (by omega) (by omega)
    rw [Nat.mul_one, Nat.add_zero, he] at this
    rw [hat i hi']
    exact ⟨a, m, c, this, k3, k2, k5⟩
end
end Go.Proofs.Ytmnfcfhnmndakaa
