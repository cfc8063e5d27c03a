/-
  A head as an argument, opened.
-/
import Derived.Test.YtiajcnldfdijoaaOpen
import Derived.Lib.SmallJoins
namespace Go.Proofs.Ytiajcnldfdijoaa
open Go.ChangeShapes Go.WideShapes Go.ChangeAt Go.RowKit Go.Deep Go.Joins
def HWf (w : World) (hw hn : Int) (A : Option Addr) (n : Nat) (B : Option Addr) (m : Nat) (lo lc : List (Int × Int)) : Prop :=
  (-9223372036854775808 ≤ hw ∧ hw ≤ 9223372036854775807) ∧ (-9223372036854775808 ≤ hn ∧ hn ≤ 9223372036854775807) ∧ (lo.length = n ∧ n ≤ 9223372036854775807 ∧ Rd2 w w.heap.size A lo) ∧ (lc.length = m ∧ m ≤ 9223372036854775807 ∧ Rd2 w w.heap.size B lc)
section
variable {H : Type} {enc : TypeId × Value → H} {w : World} {base : Nat} {spare : Nat → Bool} {held : Bool}
theorem pts_form {fuel : Nat} {v : Value} {x : DataW H × List MemPlace} (h : DataW.trod enc Try.prog w base spare held fuel 40 [v] = some x) : ∃ A n c, v = .slice A n c := by
  rcases open_slice_pairs Try.underlying40 Try.underlying72 (by kernel_rfl) rfl rfl (by kernel_rfl) (by kernel_rfl) h with ⟨h0, _⟩ | ⟨a, len, cap, m, k, V0, V1, D0, D1, P0, P1, hcs, _⟩
  · simp only [List.cons.injEq, and_true] at h0
    exact ⟨_, _, _, h0⟩
  · simp only [List.cons.injEq, and_true] at hcs
    exact ⟨_, _, _, hcs⟩
set_option maxRecDepth 100000 in
theorem open_head {r : Reach} {b0 : Nat} {v : Value} {d : DataW H} {p : List MemPlace} (hv : Value.okWide Try.prog w r b0 42 v) (h : DataW.Trod enc Try.prog w base spare held 42 v d p) :
    ∃ (hw hn : Int) (A : Option Addr) (n c : Nat) (B : Option Addr) (m e : Nat), v = .agg #[.int .i64 hw, .int .i64 hn, .slice A n c, .slice B m e] ∧ ∃ lo lc, HWf w hw hn A n B m lo lc := by
  obtain ⟨v0, v1, v2, v3, y0, y1, y2, y3, k, rfl, rfl, rfl, h0, h1, h2, h3⟩ := open_agg4 Try.underlying42 (by kernel_rfl) (by kernel_rfl) hv h
  obtain ⟨a, ha, _, wa⟩ := DataW.trod_int Try.underlying3 h0
  obtain ⟨b, hb, _, wb⟩ := DataW.trod_int Try.underlying3 h1
  obtain ⟨A, n, c, rfl⟩ := pts_form h2
  obtain ⟨B, m, e, rfl⟩ := pts_form h3
  obtain ⟨q1, lo, q2, q3⟩ := open_rd2 Try.underlying40 Try.underlying72 (by kernel_rfl) rfl rfl (by kernel_rfl) (by kernel_rfl) Try.underlying3 Try.underlying3 h2
  obtain ⟨q4, lc, q5, q6⟩ := open_rd2 Try.underlying40 Try.underlying72 (by kernel_rfl) rfl rfl (by kernel_rfl) (by kernel_rfl) Try.underlying3 Try.underlying3 h3
  simp only [List.cons.injEq, and_true] at ha hb
  subst ha
  subst hb
  exact ⟨a, b, A, n, c, B, m, e, rfl, lo, lc, wf_bounds wa, wf_bounds wb, ⟨q2, q1, q3⟩, ⟨q5, q4, q6⟩⟩
end
end Go.Proofs.Ytiajcnldfdijoaa
