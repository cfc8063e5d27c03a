/-
  More words: slices of integers that the call makes (append, make).
-/
import Derived.Test.YtiajcnldfdijoaaBase
namespace Go.Proofs.Ytiajcnldfdijoaa
open Go.RowKit
theorem Try.infoInt : (Try.prog.info? 3).map (fun i => (i.zero, i.size, i.bytes)) = some (some (.int .i64 0), 1, 8) := by kernel_rfl

/-- make([]T, 0, n) -/
theorem run_make_cap {P : Program} (t e : TypeId) (i : TypeInfo) (z : Value) (size : Nat) (ht : P.underlying t = some (.slice e)) (hi : P.info? e = some i) (hz : i.zero = some z) (hs : i.size = size)
    (c : Nat) (hbytes : i.bytes * c ≤ 281474976710656) (h63 : c ≤ 9223372036854775807) (w : World) :
    (Instr.makeSlice t (.int .i64 0) (.int .i64 (c : Int))).run P w = .ok (.slice (some ⟨w.heap.size, 0, none⟩) 0 c) (w.alloc (.cells (madeCells z.cells (c * size)) e)) := by
  subst hs
  exact run_make_rowN t e i z ht hi hz .i64 .i64 0 c (Nat.zero_le _) hbytes h63 w

theorem own_made (w : World) (e : TypeId) (size c : Nat) (z : Array Value) {B : Nat} (hB : B ≤ w.heap.size) (hm : c ≤ maxLen) : (w.alloc (.cells (madeCells z (c * size)) e)).ownsRow B e size (.slice (some ⟨w.heap.size, 0, none⟩) 0 c) 0 [] :=
  World.ownsRow_made w _ c hB hm (by simp [madeCells])

/-- What is owned from B on stays owned when nothing but new memory has turned. -/
theorem own_kept {w w1 : World} {v : Value} {e : TypeId} {size n : Nat} {xs : List Value} {B : Nat} (h : w.ownsRow B e size v n xs) (hb : Below w.heap.size w w1) : w1.ownsRow B e size v n xs :=
  h.kept (row := none) ⟨hb.os, hb.tape, hb.output, hb.size, fun k hk _ => hb.block k hk⟩ (by cases v.ownBlock <;> simp)
theorem below_own {a w w1 : World} {v : Value} {e : TypeId} {size n : Nat} {xs : List Value} (hb : Below a.heap.size a w) (h : w.ownsRow a.heap.size e size v n xs) (hg : w.grownBy w1 v.ownBlock) : Below a.heap.size a w1 :=
  hb.grown hg hb.size (fun k hk => (h.lt k hk).1)
theorem below_app {a w w1 : World} {o : Obj} {v : Value} {e : TypeId} {size n : Nat} {xs : List Value} (hb : Below a.heap.size a w) (h : w.ownsRow a.heap.size e size v n xs) (hg : (w.alloc o).drew.grownBy w1 v.ownBlock) : Below a.heap.size a w1 :=
  below_own (kept_alloc hb o).drew (h.alloc o) hg
theorem below_app' {a w w1 : World} {o : Obj} {v : Value} {e : TypeId} {size n : Nat} {xs : List Value} (hb : Below a.heap.size a w) (h : w.ownsRow a.heap.size e size v n xs) (hg : (w.alloc o).grownBy w1 v.ownBlock) : Below a.heap.size a w1 :=
  below_own (kept_alloc hb o) (h.alloc o) hg

/-- The call handed back a slice of the integers l' in memory of its own (or nil). -/
def RetI (w : World) (l' : List Int) (e : Ending) (w' : World) : Prop :=
  ∃ A c, e = .returned (.slice A l'.length c) ∧ w'.ownsRow w.heap.size 3 1 (.slice A l'.length c) l'.length (l'.map (Value.int .i64)) ∧ Below w.heap.size w w'
theorem own_rd1 {w : World} {B : Nat} {t : TypeId} {A : Option Addr} {n c : Nat} {l : List Int} (h : w.ownsRow B t 1 (.slice A n c) n (l.map (Value.int .i64))) (hn : l.length = n) : Rd1 w w.heap.size A l := by
  have := Rd.of_own h (g := cells1 l) (fun j hj => by
    have hj' : j < l.length := by omega
    simp [cells1, xi, List.getD_eq_getElem?_getD, List.getElem?_eq_getElem hj'])
  unfold Rd1
  rw [hn]; simpa using this

/-- The cells of a list of pairs. -/
def cellsL (l : List (Int × Int)) : List Value := (List.range (l.length * 2)).map (cells2 l)
theorem cellsL_len (l : List (Int × Int)) : (cellsL l).length = l.length * 2 := by simp [cellsL]
theorem cellsL_at (l : List (Int × Int)) {j : Nat} (h : j < l.length * 2) : (cellsL l)[j]? = some (cells2 l j) := by
  unfold cellsL; rw [List.getElem?_map, List.getElem?_range h]; rfl
theorem x1_snoc (l : List (Int × Int)) (t : Int × Int) {i : Nat} (h : i < l.length) : x1 (l ++ [t]) i = x1 l i := by simp [x1, List.getD_eq_getElem?_getD, List.getElem?_append_left h]
theorem x2_snoc (l : List (Int × Int)) (t : Int × Int) {i : Nat} (h : i < l.length) : x2 (l ++ [t]) i = x2 l i := by simp [x2, List.getD_eq_getElem?_getD, List.getElem?_append_left h]
theorem x1_last (l : List (Int × Int)) (t : Int × Int) : x1 (l ++ [t]) l.length = t.1 := by simp [x1, List.getD_eq_getElem?_getD]
theorem x2_last (l : List (Int × Int)) (t : Int × Int) : x2 (l ++ [t]) l.length = t.2 := by simp [x2, List.getD_eq_getElem?_getD]
theorem cellsL_snoc (l : List (Int × Int)) (a b : Int) : cellsL (l ++ [(a, b)]) = cellsL l ++ [.int .i64 a, .int .i64 b] := by
  unfold cellsL
  rw [List.length_append, List.length_singleton, Nat.add_mul, Nat.one_mul, List.range_succ, List.range_succ, List.map_append, List.map_append]
  have h1 : (List.range (l.length * 2)).map (cells2 (l ++ [(a, b)])) = (List.range (l.length * 2)).map (cells2 l) := by
    refine List.map_congr_left fun j hj => ?_
    have : j < l.length * 2 := List.mem_range.1 hj
    unfold cells2
    rw [x1_snoc _ _ (by omega), x2_snoc _ _ (by omega)]
  rw [h1]
  simp only [List.map_cons, List.map_nil, List.append_assoc, List.cons_append, List.nil_append]
  rw [cells2_a, cells2_b, x1_last, x2_last]
theorem x1_set (l : List (Int × Int)) (t : Int × Int) (i k : Nat) (hi : i < l.length) : x1 (l.set i t) k = if k = i then t.1 else x1 l k := by
  unfold x1; rw [List.getD_eq_getElem?_getD, List.getElem?_set]
  by_cases h : k = i
  · subst h; simp [hi]
  · rw [if_neg (by omega), if_neg h, List.getD_eq_getElem?_getD]
theorem x2_set (l : List (Int × Int)) (t : Int × Int) (i k : Nat) (hi : i < l.length) : x2 (l.set i t) k = if k = i then t.2 else x2 l k := by
  unfold x2; rw [List.getD_eq_getElem?_getD, List.getElem?_set]
  by_cases h : k = i
  · subst h; simp [hi]
  · rw [if_neg (by omega), if_neg h, List.getD_eq_getElem?_getD]
theorem cellsL_set (l : List (Int × Int)) (a b : Int) (i : Nat) (hi : i < l.length) : ((cellsL l).set (i * 2) (.int .i64 a)).set (i * 2 + 1) (.int .i64 b) = cellsL (l.set i (a, b)) := by
  refine List.ext_getElem? fun j => ?_
  rw [List.getElem?_set, List.getElem?_set, List.length_set, cellsL_len]
  by_cases hj : j < l.length * 2
  · rw [cellsL_at _ hj, cellsL_at _ (by simpa using hj)]
    unfold cells2
    rw [x1_set _ _ _ _ hi, x2_set _ _ _ _ hi]
    by_cases h1 : i * 2 + 1 = j
    · subst h1
      have e1 : (i * 2 + 1) % 2 = 1 := by omega
      have e2 : (i * 2 + 1) / 2 = i := by omega
      rw [if_pos rfl, if_pos hj, e1, e2]; simp
    · rw [if_neg h1]
      by_cases h2 : i * 2 = j
      · subst h2
        have e1 : (i * 2) % 2 = 0 := by omega
        have e2 : (i * 2) / 2 = i := by omega
        rw [if_pos rfl, if_pos (by omega), e1, e2]; simp
      · rw [if_neg h2]
        have h3 : ¬ j / 2 = i := by omega
        simp [h3]
  · rw [List.getElem?_eq_none (by rw [cellsL_len]; omega), List.getElem?_eq_none (by rw [cellsL_len, List.length_set]; omega), if_neg (by omega)]
    split <;> simp; omega
theorem own_rd2 {w : World} {B : Nat} {t : TypeId} {A : Option Addr} {n c : Nat} {l : List (Int × Int)} (h : w.ownsRow B t 2 (.slice A n c) n (cellsL l)) (hn : l.length = n) : Rd2 w w.heap.size A l := by
  have := Rd.of_own h (g := cells2 l) (fun j hj => cellsL_at l (by omega))
  unfold Rd2
  rw [hn]; exact this
/-- The call handed back a slice of pairs in memory of its own (or nil). -/
def RetP (T : TypeId) (w : World) (l' : List (Int × Int)) (e : Ending) (w' : World) : Prop :=
  ∃ A c, e = .returned (.slice A l'.length c) ∧ w'.ownsRow w.heap.size T 2 (.slice A l'.length c) l'.length (cellsL l') ∧ Below w.heap.size w w'
end Go.Proofs.Ytiajcnldfdijoaa
