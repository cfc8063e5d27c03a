/-
  Matchers among the arguments, opened.
-/
import Derived.Test.YtmnfcfhnmndakaaOpenL
namespace Go.Proofs.Ytmnfcfhnmndakaa
open Go.ChangeShapes Go.WideShapes Go.ChangeAt Go.RowKit Go.Deep
section
variable {H : Type} {enc : TypeId × Value → H} {w : World} {base : Nat} {spare : Nat → Bool} {held : Bool}
set_option maxRecDepth 100000 in
theorem open_mats {fuel : Nat} {A : Option Addr} {n c : Nat} {x : DataW H × List MemPlace}
    (h : DataW.trod enc Try.prog w base spare held fuel 66 [.slice A n c] = some x) : n ≤ 9223372036854775807 ∧ n ≤ c ∧ ∃ l : List Mt, l.length = n ∧ SzM l ∧ RdM w w.heap.size A l := by
  obtain ⟨h1, h2, l, h3, h4, h5⟩ := open_rdG encM 3 (fun z => z.1.size ≤ 9223372036854775807 ∧ z.2.1.size ≤ 9223372036854775807) Try.underlying66 (by kernel_rfl) (by omega) (fun m cs y hlen hy => by
    obtain ⟨y0, y1, y2, n0, _, _, t0, t1, t2⟩ := trod_struct3 Try.underlying92 hy
    match cs, hlen with
    | [v0, v1, v2], _ =>
      obtain ⟨s0, e0, _, w0⟩ := DataW.trod_string Try.underlying9 t0
      obtain ⟨s1, e1, _, w1⟩ := DataW.trod_string Try.underlying9 t1
      obtain ⟨s2, e2, _⟩ := DataW.trod_bool Try.underlying4 t2
      have e0' : [v0] = [Value.string s0] := e0
      have e1' : [v1] = [Value.string s1] := e1
      have e2' : [v2] = [Value.bool s2] := e2
      simp only [List.cons.injEq, and_true] at e0' e1' e2'
      subst e0'; subst e1'; subst e2'
      refine ⟨(s0, s1, s2), ⟨w0, w1⟩, fun q hq => ?_⟩
      match q, hq with
      | 0, _ => rfl
      | 1, _ => rfl
      | 2, _ => rfl) h
  exact ⟨h1, h2, l, h3, fun i hi => h4 i (by omega), h5⟩
end
end Go.Proofs.Ytmnfcfhnmndakaa
