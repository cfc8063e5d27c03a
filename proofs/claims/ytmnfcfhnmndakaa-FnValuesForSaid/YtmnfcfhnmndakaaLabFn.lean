/-
  Labels, matchers, texts as rows; plain functions on them.
-/
import Derived.Test.YtmnfcfhnmndakaaRowG
namespace Go.Proofs.Ytmnfcfhnmndakaa
open Go.RowKit
abbrev Lb := ByteArray × ByteArray
abbrev Mt := ByteArray × ByteArray × Bool
def encL (x : Lb) (q : Nat) : Value := .string (if q = 0 then x.1 else x.2)
def encM (x : Mt) (q : Nat) : Value := if q = 0 then .string x.1 else if q = 1 then .string x.2.1 else .bool x.2.2
def encS (x : ByteArray) (_ : Nat) : Value := .string x
theorem one_cellsL (l : List Lb) (j : Nat) : (cellsG encL 2 l j).oneCell' = true := rfl
theorem one_cellsS (l : List ByteArray) (j : Nat) : (cellsG encS 1 l j).oneCell' = true := rfl
theorem one_cellsM (l : List Mt) (j : Nat) : (cellsG encM 3 l j).oneCell' = true := by
  unfold cellsG encM; split
  · rfl
  · split <;> rfl
abbrev RdL (w : World) (B : Nat) (A : Option Addr) (l : List Lb) : Prop := RdG encL 2 w B A l
abbrev RdM (w : World) (B : Nat) (A : Option Addr) (l : List Mt) : Prop := RdG encM 3 w B A l
abbrev RdS (w : World) (B : Nat) (A : Option Addr) (l : List ByteArray) : Prop := RdG encS 1 w B A l
theorem RdL.at_ {w : World} {B : Nat} {A : Option Addr} {l : List Lb} (h : RdL w B A l) (h0 : 0 < l.length) :
    ∃ b off, A = some ⟨b, off, none⟩ ∧ b < B ∧ ∀ i, i < l.length → w.cell? ⟨b, off + i * 2, none⟩ = some (.string (at0 l i).1) ∧ w.cell? ⟨b, off + i * 2 + 1, none⟩ = some (.string (at0 l i).2) := by
  obtain ⟨b, off, e, hb, hc⟩ := RdG.at_ h h0 (by omega)
  exact ⟨b, off, e, hb, fun i hi => ⟨hc i 0 hi (by omega), hc i 1 hi (by omega)⟩⟩
theorem RdM.at_ {w : World} {B : Nat} {A : Option Addr} {l : List Mt} (h : RdM w B A l) (h0 : 0 < l.length) :
    ∃ b off, A = some ⟨b, off, none⟩ ∧ b < B ∧ ∀ i, i < l.length → w.cell? ⟨b, off + i * 3, none⟩ = some (.string (at0 l i).1) ∧ w.cell? ⟨b, off + i * 3 + 1, none⟩ = some (.string (at0 l i).2.1) ∧ w.cell? ⟨b, off + i * 3 + 2, none⟩ = some (.bool (at0 l i).2.2) := by
  obtain ⟨b, off, e, hb, hc⟩ := RdG.at_ h h0 (by omega)
  exact ⟨b, off, e, hb, fun i hi => ⟨hc i 0 hi (by omega), hc i 1 hi (by omega), hc i 2 hi (by omega)⟩⟩
theorem RdS.at_ {w : World} {B : Nat} {A : Option Addr} {l : List ByteArray} (h : RdS w B A l) (h0 : 0 < l.length) :
    ∃ b off, A = some ⟨b, off, none⟩ ∧ b < B ∧ ∀ i, i < l.length → w.cell? ⟨b, off + i, none⟩ = some (.string (at0 l i)) := by
  obtain ⟨b, off, e, hb, hc⟩ := RdG.at_ h h0 (by omega)
  exact ⟨b, off, e, hb, fun i hi => by have := hc i 0 hi (by omega); rwa [Nat.mul_one, Nat.add_zero] at this⟩
theorem rowL_snoc (l : List Lb) (a b : ByteArray) : rowG encL 2 (l ++ [(a, b)]) = rowG encL 2 l ++ [.string a, .string b] := by rw [rowG_snoc]; rfl
theorem rowM_snoc (l : List Mt) (a b : ByteArray) (c : Bool) : rowG encM 3 (l ++ [(a, b, c)]) = rowG encM 3 l ++ [.string a, .string b, .bool c] := by rw [rowG_snoc]; rfl
theorem rowS_snoc (l : List ByteArray) (a : ByteArray) : rowG encS 1 (l ++ [a]) = rowG encS 1 l ++ [.string a] := by rw [rowG_snoc]; rfl

/-! Words. -/
def okC (c : UInt8) : Prop := 97 ≤ (c.toNat : Int) ∧ (c.toNat : Int) ≤ 122
instance (c : UInt8) : Decidable (okC c) := by unfold okC; infer_instance
def okTo (s : ByteArray) (k : Nat) : Prop := ∀ j, (hj : j < s.size) → j < k → okC s[j]
instance (s : ByteArray) (k : Nat) : Decidable (okTo s k) := by
  unfold okTo
  exact decidable_of_iff (∀ j : Fin s.size, j.1 < k → okC s[j.1]) ⟨fun h j hj hk => h ⟨j, hj⟩ hk, fun h j hk => h j.1 j.2 hk⟩
def okWd (s : ByteArray) : Prop := 1 ≤ s.size ∧ s.size ≤ 4 ∧ okTo s s.size
instance (s : ByteArray) : Decidable (okWd s) := by unfold okWd; infer_instance
def okW (s : ByteArray) : Bool := decide (okWd s)
theorem okTo_zero (s : ByteArray) : okTo s 0 := fun j _ hk => absurd hk (by omega)
theorem okTo_succ {s : ByteArray} {k : Nat} (hk : k < s.size) (h : okTo s k) (hc : okC s[k]) : okTo s (k + 1) := fun j hj hjk => by
  rcases Nat.lt_or_ge j k with h1 | h1
  · exact h j hj h1
  · have : j = k := by omega
    subst this; exact hc
theorem okW_yes {s : ByteArray} (h1 : 1 ≤ s.size) (h2 : s.size ≤ 4) {k : Nat} (h3 : okTo s k) (hk : s.size = k) : okW s = true := decide_eq_true ⟨h1, h2, by rw [hk]; exact h3⟩
theorem okW_bad {s : ByteArray} {k : Nat} (hk : k < s.size) (h : ¬ okC s[k]) : okW s = false := decide_eq_false fun hh => h (hh.2.2 k hk hk)
theorem okW_len {s : ByteArray} (h : ¬ (1 ≤ s.size ∧ s.size ≤ 4)) : okW s = false := decide_eq_false fun hh => h ⟨hh.1, hh.2.1⟩
theorem okW_of {s : ByteArray} (h : okW s = true) : okWd s := of_decide_eq_true h

/-! Order of texts. -/
def eqB (a b : ByteArray) : Bool := a.toList == b.toList
def ltB (a b : ByteArray) : Bool := Op.bytesLess a.toList b.toList
def leB (a b : ByteArray) : Bool := ltB a b || eqB a b
end Go.Proofs.Ytmnfcfhnmndakaa
