/-
  Arguments opened: from what a row's reading says to the words of the walks.
-/
import Derived.Test.YtiajcnldfdijoaaRows
import Derived.Test.YtiajcnldfdijoaaBase
import Derived.ProofKit
import Derived.OpenShut
import Derived.ShutString
import Derived.ChangeOld
import Derived.Deep.SlicePairs
namespace Go.Proofs.Ytiajcnldfdijoaa
open Go.ChangeShapes Go.WideShapes Go.ChangeAt Go.RowKit Go.Deep

theorem own_ : ownKnob Try.prog.godebug = none := by kernel_rfl
theorem laidOut_ : laidOutB Try.prog = true := by kernel_rfl

theorem Rd.of_add {w : World} {a : Addr} {m : Nat} {g : Nat → Value} (h : ∀ j, j < m → w.cell? (a.add j) = some (g j)) : Rd w w.heap.size (some a) m g := by
  intro hm
  have h0 := h 0 hm
  have e0 : a.add 0 = a := by simp [Addr.add]
  rw [e0] at h0
  have hs : a.spot = none := by
    rcases hsp : a.spot with _ | s
    · rfl
    · simp only [World.cell?, hsp, Option.isSome_some, if_true] at h0
      split at h0 <;> cases h0
  have hb : a.block < w.heap.size := World.block_lt_of_cell? w a h0
  obtain ⟨b, off, sp⟩ := a
  simp only at hs hb
  subst hs
  refine ⟨b, off, rfl, hb, fun j hj => ?_⟩
  have := h j hj
  have e : (⟨b, off, none⟩ : Addr).add j = ⟨b, off + j, none⟩ := by
    unfold Addr.add
    split
    · rename_i hz; rw [hz]; simp
    · rfl
  rwa [e] at this

theorem wf_bounds {n : Int} (h : (Lit.int .i64 n).wf = true) : -9223372036854775808 ≤ n ∧ n ≤ 9223372036854775807 := by
  simp [Lit.wf, IntKind.min, IntKind.max, IntKind.bits, IntKind.signed] at h
  omega

section
variable {H : Type} {enc : TypeId × Value → H} {P : Program} {w : World} {base : Nat} {spare : Nat → Bool} {held : Bool}
theorem open_rd2 {t e : TypeId} {f0 f1 : Field} {fuel : Nat} {A : Option Addr} {n c : Nat} {x : DataW H × List MemPlace} (ht : P.underlying t = some (.slice e)) (he : P.underlying e = some (.struct #[f0, f1]))
    (ce : P.cellsOf e = 2) (o0 : f0.offset = 0) (o1 : f1.offset = 1) (c0 : P.cellsOf f0.type = 1) (c1 : P.cellsOf f1.type = 1) (t0 : P.underlying f0.type = some (.int .i64)) (t1 : P.underlying f1.type = some (.int .i64))
    (h : DataW.trod enc P w base spare held fuel t [.slice A n c] = some x) : n ≤ 9223372036854775807 ∧ ∃ l : List (Int × Int), l.length = n ∧ Rd2 w w.heap.size A l := by
  rcases open_slice_pairs ht he ce o0 o1 c0 c1 h with ⟨h0, _⟩ | ⟨a, len, cap, m, k, V0, V1, D0, D1, P0, P1, hcs, _, hl, hm, hmm, _, hx⟩
  · simp only [List.cons.injEq, Value.slice.injEq, and_true] at h0
    obtain ⟨rfl, rfl, rfl⟩ := h0
    exact ⟨by omega, [], rfl, Rd.none_⟩
  · simp only [List.cons.injEq, Value.slice.injEq, and_true] at hcs
    obtain ⟨rfl, rfl, rfl⟩ := hcs
    have hlm : n ≤ m := by rw [hmm]; split <;> omega
    have each : ∀ i, i < m → ∃ q : Int × Int, V0 i = .int .i64 q.1 ∧ V1 i = .int .i64 q.2 := fun i hi => by
      obtain ⟨_, _, h2, h3⟩ := hx i hi
      obtain ⟨p, hp, _⟩ := DataW.trod_int t0 h2
      obtain ⟨q, hq, _⟩ := DataW.trod_int t1 h3
      exact ⟨(p, q), by simpa using hp, by simpa using hq⟩
    obtain ⟨f, hf⟩ := choose_lt each
    refine ⟨by unfold maxLen at hm; omega, (List.range n).map f, by simp, ?_⟩
    refine Rd.of_add fun j hj => ?_
    simp only [List.length_map, List.length_range] at hj
    have hk : j / 2 < m := by omega
    obtain ⟨g0, g1, _, _⟩ := hx (j / 2) hk
    obtain ⟨e0, e1⟩ := hf (j / 2) hk
    have hr : ((List.range n).map f).getD (j / 2) (0, 0) = f (j / 2) := by
      rw [List.getD_eq_getElem?_getD, List.getElem?_map, List.getElem?_range (by omega)]; rfl
    unfold cells2 x1 x2
    rw [hr]
    by_cases hz : j % 2 = 0
    · rw [if_pos hz]
      rw [e0] at g0
      have : j / 2 * 2 = j := by omega
      rwa [this] at g0
    · rw [if_neg hz]
      rw [e1] at g1
      have : j / 2 * 2 + 1 = j := by omega
      rwa [this] at g1
end
end Go.Proofs.Ytiajcnldfdijoaa
