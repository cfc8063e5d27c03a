/-
  Plain functions: the value at a time, a series at the times of a grid.
-/
import Derived.Test.YtiajcnldfdijoaaPtFn3
namespace Go.Proofs.Ytiajcnldfdijoaa
open Go.RowKit
def valTo (l : List (Int × Int)) (t : Int) : Nat → Option Int
  | 0 => none
  | k + 1 => if x1 l k ≤ t then some (x2 l k) else valTo l t k
def valO (l : List (Int × Int)) (t : Int) : Option Int := if vS l then valTo l t l.length else none
def optV : Option Int → Value
  | none => .tuple #[.int .i64 0, .bool false]
  | some v => .tuple #[.int .i64 v, .bool true]
theorem valTo_skip {l : List (Int × Int)} {t : Int} {i : Nat} (d : Nat) (h : ∀ j, i ≤ j → j < i + d → t < x1 l j) : valTo l t (i + d) = valTo l t i := by
  induction d with
  | zero => rfl
  | succ d ih =>
    show (if x1 l (i + d) ≤ t then some (x2 l (i + d)) else valTo l t (i + d)) = _
    rw [if_neg (by have := h (i + d) (by omega) (by omega); omega)]
    exact ih fun j h1 h2 => h j h1 (by omega)
theorem valO_bad {l : List (Int × Int)} {t : Int} (h : vS l = false) : valO l t = none := by unfold valO; rw [h]; rfl
theorem valO_ok {l : List (Int × Int)} {t : Int} (h : vS l = true) : valO l t = valTo l t l.length := by unfold valO; rw [if_pos h]
theorem valO_at {l : List (Int × Int)} {t : Int} {i : Nat} (hv : vS l = true) (hi : i ≤ l.length) (h1 : ∀ j, j < i → x1 l j ≤ t) (h2 : ∀ j, i ≤ j → j < l.length → t < x1 l j) :
    valO l t = if i = 0 then none else some (x2 l (i - 1)) := by
  rw [valO_ok hv]
  obtain ⟨d, hd⟩ : ∃ d, l.length = i + d := ⟨l.length - i, by omega⟩
  rw [hd, valTo_skip d fun j a b => h2 j a (by omega)]
  cases i with
  | zero => rfl
  | succ i =>
    rw [if_neg (by omega), Nat.add_sub_cancel]
    show (if x1 l i ≤ t then some (x2 l i) else valTo l t i) = _
    rw [if_pos (h1 i (by omega))]
def ptO (t : Int) : Option Int → List (Int × Int)
  | none => []
  | some v => [(t, v)]
def resF (l : List (Int × Int)) (to st : Int) : Nat → Int → List (Int × Int)
  | 0, _ => []
  | f + 1, t => if t < to then ptO t (valO l t) ++ resF l to st f (t + st) else []
def resOk (l : List (Int × Int)) (fr to st : Int) : Prop := vS l = true ∧ (0 ≤ fr ∧ fr ≤ 1000) ∧ (0 ≤ to ∧ to ≤ 1000) ∧ (1 ≤ st ∧ st ≤ 100) ∧ to - fr ≤ st * 16
instance (l : List (Int × Int)) (fr to st : Int) : Decidable (resOk l fr to st) := by unfold resOk; infer_instance
def resL (l : List (Int × Int)) (fr to st : Int) : List (Int × Int) := if resOk l fr to st then resF l to st 16 fr else []
theorem resL_ok {l : List (Int × Int)} {fr to st : Int} (h : resOk l fr to st) : resL l fr to st = resF l to st 16 fr := if_pos h
theorem resL_no {l : List (Int × Int)} {fr to st : Int} (h : ¬ resOk l fr to st) : resL l fr to st = [] := if_neg h
theorem resF_end (l : List (Int × Int)) {to t : Int} (st : Int) (f : Nat) (h : to ≤ t) : resF l to st f t = [] := by
  cases f with
  | zero => rfl
  | succ f => show (if t < to then _ else _) = _; rw [if_neg (by omega)]
theorem resF_step (l : List (Int × Int)) {to t : Int} (st : Int) (f : Nat) (h : t < to) : resF l to st (f + 1) t = ptO t (valO l t) ++ resF l to st f (t + st) := by
  show (if t < to then _ else _) = _; rw [if_pos h]
theorem ptO_len (t : Int) (o : Option Int) : (ptO t o).length ≤ 1 := by cases o <;> simp [ptO]
theorem resF_len (l : List (Int × Int)) (to st : Int) (f : Nat) (t : Int) : (resF l to st f t).length ≤ f := by
  induction f generalizing t with
  | zero => simp [resF]
  | succ f ih =>
    by_cases h : t < to
    · rw [resF_step l st f h, List.length_append]
      have := ptO_len t (valO l t)
      have := ih (t + st)
      omega
    · rw [resF_end l st _ (by omega)]; simp
theorem resL_len (l : List (Int × Int)) (fr to st : Int) : (resL l fr to st).length ≤ 16 := by
  unfold resL; split
  · exact resF_len _ _ _ _ _
  · simp
end Go.Proofs.Ytiajcnldfdijoaa
