/-
  Plain functions: labels against matchers.
-/
import Derived.Test.YtmnfcfhnmndakaaLabFn3
namespace Go.Proofs.Ytmnfcfhnmndakaa
open Go.RowKit
def mat1 (l : List Lb) (x : Mt) : Bool := eqB (valB l x.1) x.2.1 != x.2.2
def matTo (l : List Lb) (want : List Mt) (k : Nat) : Prop := ∀ j, j < k → mat1 l (at0 want j) = true
theorem matTo_zero (l : List Lb) (want : List Mt) : matTo l want 0 := fun j hj => absurd hj (by omega)
theorem matTo_succ {l : List Lb} {want : List Mt} {k : Nat} (h : matTo l want k) (hk : mat1 l (at0 want k) = true) : matTo l want (k + 1) := fun j hj => by
  rcases Nat.lt_or_ge j k with h1 | h1
  · exact h j h1
  · have : j = k := by omega
    subst this; exact hk
def matL (l : List Lb) (want : List Mt) : Bool := want.all (mat1 l)
theorem matL_bad {l : List Lb} {want : List Mt} {k : Nat} (hk : k < want.length) (h : mat1 l (at0 want k) = false) : matL l want = false := by
  rcases hq : matL l want with _ | _
  · rfl
  · have := List.all_eq_true.1 hq _ (at0_mem hk)
    rw [h] at this; cases this
theorem matL_good {l : List Lb} {want : List Mt} {k : Nat} (h : matTo l want k) (hk : want.length = k) : matL l want = true := List.all_eq_true.2 fun x hx => by
  obtain ⟨i, hi, rfl⟩ := mem_at0 hx
  exact h i (by omega)
def maV (l : List Lb) (want : List Mt) : Bool := vL l && (vM want && matL l want)
theorem maV_no1 {l : List Lb} {want : List Mt} (h : vL l = false) : maV l want = false := by unfold maV; rw [h]; rfl
theorem maV_no2 {l : List Lb} {want : List Mt} (h : vM want = false) : maV l want = false := by unfold maV; rw [h]; simp
theorem maV_ok {l : List Lb} {want : List Mt} (h : vL l = true) (h' : vM want = true) : maV l want = matL l want := by unfold maV; rw [h, h']; rfl
theorem matL_nil (l : List Lb) : matL l [] = true := rfl
theorem matL_one (l : List Lb) (x : Mt) : matL l [x] = mat1 l x := by unfold matL; simp
theorem matL_succ {l : List Lb} {want : List Mt} {k : Nat} (hk : k < want.length) : matL l (want.take (k + 1)) = (matL l (want.take k) && mat1 l (at0 want k)) := by
  rw [take_succ_at want hk]; unfold matL; rw [List.all_append]; simp
theorem matL_all {l : List Lb} {want : List Mt} {k : Nat} (hk : want.length ≤ k) : matL l (want.take k) = matL l want := by rw [List.take_of_length_le hk]
theorem vM_one {want : List Mt} (h : vM want = true) {k : Nat} (hk : k < want.length) : vM [at0 want k] = true :=
  vM_good (k := 1) (by simp) (fun j hj => by
    have : j = 0 := by omega
    subst this
    exact (VM_of h).2 k hk) rfl
theorem mat1_not (l : List Lb) (x : Mt) : mat1 l (x.1, x.2.1, !x.2.2) = !mat1 l x := by unfold mat1; cases eqB (valB l x.1) x.2.1 <;> cases x.2.2 <;> rfl
/-- Labels match themselves. -/
def ownM (x : Lb) : Mt := (x.1, x.2, false)
theorem own_valid {l : List Lb} (h : vL l = true) : vM (l.map ownM) = true := by
  have hV := VL_of h
  refine vM_good (k := l.length) (by rw [List.length_map]; exact hV.1) (fun j hj => ?_) (by rw [List.length_map])
  rw [at0_map ownM l hj]
  have := hV.2 j hj
  unfold okMb ownM
  rw [this.1, this.2.1]; simp
theorem own_match {l : List Lb} (h : vL l = true) : matL l (l.map ownM) = true :=
  matL_good (k := l.length) (fun j hj => by
    rw [at0_map ownM l hj]
    unfold mat1 ownM
    rw [valB_own h hj, eqB_refl]; rfl) (by rw [List.length_map])
theorem own_all {l : List Lb} (h : vL l = true) : maV l (l.map ownM) = true := by rw [maV_ok h (own_valid h)]; exact own_match h
end Go.Proofs.Ytmnfcfhnmndakaa
