/-
  someNames, DrawKeepLabels.
-/
import Derived.Test.YtmnfcfhnmndakaaLabGen
namespace Go.Proofs.Ytmnfcfhnmndakaa
open Go.RowKit
theorem infoString : (Try.prog.info? 9).map (fun i => (i.zero, i.size, i.bytes)) = some (some (.string ByteArray.empty), 1, 16) := by kernel_rfl
def SzS (l : List ByteArray) : Prop := ∀ i, i < l.length → (at0 l i).size ≤ 9223372036854775807
theorem SzS_nil : SzS [] := fun i hi => absurd hi (by simp)
theorem SzS_snoc {l : List ByteArray} {a : ByteArray} (h : SzS l) (h1 : a.size ≤ 16) : SzS (l ++ [a]) := fun i hi => by
  rw [List.length_append, List.length_singleton] at hi
  rcases Nat.lt_or_ge i l.length with h3 | h3
  · rw [at0_append _ _ h3]; exact h i h3
  · have e : i = l.length := by omega
    subst e
    rw [at0_append_r _ _ (Nat.le_refl _), Nat.sub_self]
    show a.size ≤ _
    omega
def GenS (b : Nat) (d : Int) (w : World) (g : Nat) (p : Int) (e : Ending) (w' : World) : Prop :=
  ∃ (A : Option Addr) (c m : Nat) (l : List ByteArray) (p' : Int), e = .returned (.slice A m c) ∧ l.length = m ∧ m ≤ b ∧ m ≤ c ∧ SzS l ∧ w'.ownsRow w.heap.size 9 1 (.slice A m c) m (rowG encS 1 l) ∧ Rdr w' g p' ∧ p' ≤ p + d ∧ Only g w w'
def DrawLN (w : World) (e : Ending) (w' : World) : Prop :=
  ∃ (A : Option Addr) (c m : Nat) (l : List Lb) (B : Option Addr) (d q : Nat) (names : List ByteArray), e = .returned (.tuple #[.slice A m c, .slice B q d]) ∧ l.length = m ∧ m ≤ 5 ∧ m ≤ c ∧ SzL l ∧ names.length = q ∧ q ≤ 3 ∧ q ≤ d ∧ SzS names ∧ RdL w' w'.heap.size A l ∧ RdS w' w'.heap.size B names ∧ Below w.heap.size w w'
end Go.Proofs.Ytmnfcfhnmndakaa
