/-
  More words: slices of integers that the call makes (append, make).
-/
import Derived.Test.YtheckdenoomhjaaBase
namespace Go.Proofs.Ytheckdenoomhjaa
open Go.RowKit
theorem Try.infoInt : (Try.prog.info? 3).map (fun i => (i.zero, i.size, i.bytes)) = some (some (.int .i64 0), 1, 8) := by kernel_rfl

/-- make([]T, 0, n) -/
theorem run_make_cap {P : Program} (t e : TypeId) (i : TypeInfo) (z : Value) (size : Nat) (ht : P.underlying t = some (.slice e)) (hi : P.info? e = some i) (hz : i.zero = some z) (hs : i.size = size)
    (c : Nat) (hbytes : i.bytes * c ≤ 281474976710656) (h63 : c ≤ 9223372036854775807) (w : World) :
    (Instr.makeSlice t (.int .i64 0) (.int .i64 (c : Int))).run P w = .ok (.slice (some ⟨w.heap.size, 0, none⟩) 0 c) (w.alloc (.cells (madeCells z.cells (c * size)) e)) := by
  subst hs
  exact run_make_rowN t e i z ht hi hz .i64 .i64 0 c (Nat.zero_le _) hbytes h63 w

theorem own_made (w : World) (e : TypeId) (size c : Nat) (z : Array Value) {B : Nat} (hB : B ≤ w.heap.size) (hm : c ≤ maxLen) : (w.alloc (.cells (madeCells z (c * size)) e)).ownsRow B e size (.slice (some ⟨w.heap.size, 0, none⟩) 0 c) 0 [] :=
  World.ownsRow_made w _ c hB hm (by simp [madeCells])

/-- What is owned from B on stays owned when nothing but new memory has turned. -/
theorem own_kept {w w1 : World} {v : Value} {e : TypeId} {size n : Nat} {xs : List Value} {B : Nat} (h : w.ownsRow B e size v n xs) (hb : Below w.heap.size w w1) : w1.ownsRow B e size v n xs :=
  h.kept (row := none) ⟨hb.os, hb.tape, hb.output, hb.size, fun k hk _ => hb.block k hk⟩ (by cases v.ownBlock <;> simp)
theorem below_own {a w w1 : World} {v : Value} {e : TypeId} {size n : Nat} {xs : List Value} (hb : Below a.heap.size a w) (h : w.ownsRow a.heap.size e size v n xs) (hg : w.grownBy w1 v.ownBlock) : Below a.heap.size a w1 :=
  hb.grown hg hb.size (fun k hk => (h.lt k hk).1)
theorem below_app {a w w1 : World} {o : Obj} {v : Value} {e : TypeId} {size n : Nat} {xs : List Value} (hb : Below a.heap.size a w) (h : w.ownsRow a.heap.size e size v n xs) (hg : (w.alloc o).drew.grownBy w1 v.ownBlock) : Below a.heap.size a w1 :=
  below_own (kept_alloc hb o).drew (h.alloc o) hg
theorem below_app' {a w w1 : World} {o : Obj} {v : Value} {e : TypeId} {size n : Nat} {xs : List Value} (hb : Below a.heap.size a w) (h : w.ownsRow a.heap.size e size v n xs) (hg : (w.alloc o).grownBy w1 v.ownBlock) : Below a.heap.size a w1 :=
  below_own (kept_alloc hb o) (h.alloc o) hg

/-- The call handed back a slice of the integers l' in memory of its own (or nil). -/
def RetI (w : World) (l' : List Int) (e : Ending) (w' : World) : Prop :=
  ∃ A c, e = .returned (.slice A l'.length c) ∧ w'.ownsRow w.heap.size 3 1 (.slice A l'.length c) l'.length (l'.map (Value.int .i64)) ∧ Below w.heap.size w w'
theorem own_rd1 {w : World} {B : Nat} {t : TypeId} {A : Option Addr} {n c : Nat} {l : List Int} (h : w.ownsRow B t 1 (.slice A n c) n (l.map (Value.int .i64))) (hn : l.length = n) : Rd1 w w.heap.size A l := by
  have := Rd.of_own h (g := cells1 l) (fun j hj => by
    have hj' : j < l.length := by omega
    simp [cells1, xi, List.getD_eq_getElem?_getD, List.getElem?_eq_getElem hj'])
  unfold Rd1
  rw [hn]; simpa using this
end Go.Proofs.Ytheckdenoomhjaa
