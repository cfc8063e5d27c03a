/-
  Walks: AllPoints of both packages.
-/
import Derived.Test.YtiajcnldfdijoaaHeadL1
import Derived.Test.YtiajcnldfdijoaaResW2
import Derived.Deep.RegionWith
import Derived.Deep.RegionLaw
namespace Go.Proofs.Ytiajcnldfdijoaa
open Go.RowKit
/-- The four cells of a head's block. -/
theorem Blk.four {w : World} {g : Nat} {t : TypeId} {a b c d : Value} (h : Blk w g t #[a, b, c, d]) : w.cell? ⟨g, 0, none⟩ = some a ∧ w.cell? ⟨g, 1, none⟩ = some b ∧ w.cell? ⟨g, 2, none⟩ = some c ∧ w.cell? ⟨g, 3, none⟩ = some d := by
  have a0 := h.cell 0
  have a1 := h.cell 1
  have a2 := h.cell 2
  have a3 := h.cell 3
  simp at a0 a1 a2 a3
  exact ⟨a0, a1, a2, a3⟩
def allL (hw hn : Int) (lo lc : List (Int × Int)) : List (Int × Int) := if vH hw hn lo lc then lc ++ lo else []
theorem allL_yes {hw hn : Int} {lo lc : List (Int × Int)} (h : vH hw hn lo lc = true) : allL hw hn lo lc = lc ++ lo := by unfold allL; rw [if_pos h]
theorem allL_no {hw hn : Int} {lo lc : List (Int × Int)} (h : ¬ vH hw hn lo lc = true) : allL hw hn lo lc = [] := by unfold allL; rw [if_neg h]
theorem Rd2.rdN {w : World} {B : Nat} {A : Option Addr} {l : List (Int × Int)} {n : Nat} (h : Rd2 w B A l) (hn : l.length = n) : Rd w B A (n * 2) (cells2 l) := by rw [← hn]; exact h
end Go.Proofs.Ytiajcnldfdijoaa
