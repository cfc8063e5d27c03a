/-
  Walks: AllPoints of both packages.
-/
import Derived.Test.YtccihfdanbfdeaaHeadL1
import Derived.Test.YtccihfdanbfdeaaResW2
import Derived.Deep.RegionWith
import Derived.Deep.RegionLaw
namespace Go.Proofs.Ytccihfdanbfdeaa
open Go.RowKit
/-- The four cells of a head's block. -/
theorem Blk.four {w : World} {g : Nat} {t : TypeId} {a b c d : Value} (h : Blk w g t #[a, b, c, d]) : w.cell? ⟨g, 0, none⟩ = some a ∧ w.cell? ⟨g, 1, none⟩ = some b ∧ w.cell? ⟨g, 2, none⟩ = some c ∧ w.cell? ⟨g, 3, none⟩ = some d := by
  have a0 := h.cell 0
  have a1 := h.cell 1
  have a2 := h.cell 2
  have a3 := h.cell 3
  simp at a0 a1 a2 a3
  exact ⟨a0, a1, a2, a3⟩
def allL (hw hn : Int) (lo lc : List (Int × Int)) : List (Int × Int) := if vH hw hn lo lc then lc ++ lo else []
theorem allL_yes {hw hn : Int} {lo lc : List (Int × Int)} (h : vH hw hn lo lc = true) : allL hw hn lo lc = lc ++ lo := by unfold allL; rw [if_pos h]
theorem allL_no {hw hn : Int} {lo lc : List (Int × Int)} (h : ¬ vH hw hn lo lc = true) : allL hw hn lo lc = [] := by unfold allL; rw [if_neg h]
theorem Rd2.rdN {w : World} {B : Nat} {A : Option Addr} {l : List (Int × Int)} {n : Nat} (h : Rd2 w B A l) (hn : l.length = n) : Rd w B A (n * 2) (cells2 l) := by rw [← hn]; exact h
set_option maxHeartbeats 4000000 in
theorem allPoints_any (hw hn : Int) (A : Option Addr) (n c : Nat) (B : Option Addr) (m e : Nat) (lo lc : List (Int × Int)) (w : World) (hlo : lo.length = n) (hlc : lc.length = m) (h1 : n ≤ 1048576) (h2 : m ≤ 1048576)
    (hr : Rd2 w w.heap.size A lo) (hr' : Rd2 w w.heap.size B lc) :
    Calls Try.prog 23 #[.agg #[.int .i64 hw, .int .i64 hn, .slice A n c, .slice B m e]] w (RetP 30 w (allL hw hn lo lc)) := by
  obtain ⟨i0, hi, hz0, hz1, hz2⟩ := info_parts infoPoint
  have hbW := kept_alloc (Below.refl w.heap.size w) (Obj.cells #[Value.int .i64 hw, .int .i64 hn, .slice A n c, .slice B m e] 44)
  have bP := Blk.new w 44 #[.int .i64 hw, .int .i64 hn, .slice A n c, .slice B m e]
  have hrW := hr.next hbW
  have hrW' := hr'.next hbW
  have HO := Lib.hid hlo
  have HC := Lib.hid hlc
  have HR := Lib.hid hr
  have HR' := Lib.hid hr'
  clear hlo hlc hr hr'
  go_enter Try.func23, Try.ntmps23
  go_wp2_with fail
  generalize w.alloc (Obj.cells #[Value.int .i64 hw, .int .i64 hn, .slice A n c, .slice B m e] 44) = W1 at *
  refine (validHead_any hw hn A n c B m e lo lc _ HO.out HC.out (by omega) (by omega) hrW hrW').mono ?_
  rintro ee w2 ⟨rfl, hb2⟩
  have kb2 := hbW.trans (hb2.mono hbW.size)
  have bP2 := bP.kept hb2
  clear hrW hrW' hbW bP hb2
  by_cases hv : vH hw hn lo lc = true
  · rw [hv]
    have HA := Lib.hid (allL_yes hv)
    have kbD := kb2.drew
    have bD : Blk w2.drew w.heap.size 44 #[.int .i64 hw, .int .i64 hn, .slice A n c, .slice B m e] := bP2
    have hrD := (HR.out.below kbD).mono kbD.size
    have hrD' := (HR'.out.below kbD).mono kbD.size
    obtain ⟨c0, c1, c2, c3⟩ := bP2.four
    clear hv kb2 bP2
    go_wp2_with fail
    go_region_law (first
      | (refine step_append_rd _ rfl (.tmp 8) (.tmp 10) _ rfl w.heap.size 30 i0 _ 2 16 Try.underlying23 hi hz0 hz1 hz2 rfl (by omega) _ _ _ rfl hown4 _ _ n _ (cells2 lo) rfl (hr4.rdN HO.out) (one_cells2 lo) hx1 hx2 hx3 ?_; intro A5 c5 w5 hown5 hgrow)
      | (go_simp; go_at_call 44; refine (copyPoints_any B m _ lc _ HC.out (by omega) hrD').mono ?_; rintro ee w4 ⟨A4, c4, rfl, hown4', hb4⟩; obtain ⟨d0, d1, d2, d3⟩ := (bD.kept hb4).four; have hr4 := hrD.next hb4; have hown4 := hown4'.mono kbD.size; have hx1 : lc.length + n ≤ maxLen := (by rw [HC.out]; simp only [maxLen]; omega); have hx2 : (lc.length + n) * 16 ≤ 140737488355328 := (by rw [HC.out]; omega); have hx3 := (kbD.trans (hb4.mono kbD.size)).size; clear hown4'))
    all_goals
      have kb5 := below_own (kbD.trans (hb4.mono kbD.size)) hown4 hgrow
      clear hgrow hown4
      go_wp2
      go_ret
      refine ⟨A5, c5, ?_, ?_, kb5⟩
      · rw [HA.out, List.length_append, HO.out]; rfl
      · rw [HA.out, List.length_append, cellsL_append, HO.out]; unfold cellsL at hown5 ⊢; rw [HO.out]; exact hown5
  · have hv' : vH hw hn lo lc = false := by simpa using hv
    rw [hv']
    have HA := Lib.hid (allL_no hv)
    clear hv hv' bP2
    go_wp2
    go_ret
    exact retP_nil HA.out kb2
set_option maxHeartbeats 4000000 in
theorem specAllPoints_any (hw hn : Int) (A : Option Addr) (n c : Nat) (B : Option Addr) (m e : Nat) (lo lc : List (Int × Int)) (w : World) (hlo : lo.length = n) (hlc : lc.length = m) (h1 : n ≤ 1048576) (h2 : m ≤ 1048576)
    (hr : Rd2 w w.heap.size A lo) (hr' : Rd2 w w.heap.size B lc) :
    Calls Try.prog 21 #[.agg #[.int .i64 hw, .int .i64 hn, .slice A n c, .slice B m e]] w (RetP 30 w (allL hw hn lo lc)) := by
  obtain ⟨i0, hi, hz0, hz1, hz2⟩ := info_parts infoPoint
  have hbW := kept_alloc (Below.refl w.heap.size w) (Obj.cells #[Value.int .i64 hw, .int .i64 hn, .slice A n c, .slice B m e] 44)
  have bP := Blk.new w 44 #[.int .i64 hw, .int .i64 hn, .slice A n c, .slice B m e]
  have hrW := hr.next hbW
  have hrW' := hr'.next hbW
  have HO := Lib.hid hlo
  have HC := Lib.hid hlc
  have HR := Lib.hid hr
  have HR' := Lib.hid hr'
  clear hlo hlc hr hr'
  go_enter Try.func21, Try.ntmps21
  go_wp2_with fail
  generalize w.alloc (Obj.cells #[Value.int .i64 hw, .int .i64 hn, .slice A n c, .slice B m e] 44) = W1 at *
  refine (specValidHead_any hw hn A n c B m e lo lc _ HO.out HC.out (by omega) (by omega) hrW hrW').mono ?_
  rintro ee w2 ⟨rfl, hb2⟩
  have kb2 := hbW.trans (hb2.mono hbW.size)
  have bP2 := bP.kept hb2
  clear hrW hrW' hbW bP hb2
  by_cases hv : vH hw hn lo lc = true
  · rw [hv]
    have HA := Lib.hid (allL_yes hv)
    have kbD := (kept_alloc kb2 (Obj.cells #[] 30)).drew
    have bD : Blk ((w2.alloc (Obj.cells #[] 30)).drew) w.heap.size 44 #[.int .i64 hw, .int .i64 hn, .slice A n c, .slice B m e] := bP2.alloc _
    have hO : ((w2.alloc (Obj.cells #[] 30)).drew).ownsRow w.heap.size 30 2 (.slice (some ⟨w2.heap.size, 0, none⟩) 0 0) 0 [] := World.ownsRow_made w2 #[] 0 kb2.size (by unfold maxLen; omega) rfl
    have hrD' := (HR'.out.below kbD).mono kbD.size
    obtain ⟨c0, c1, c2, c3⟩ := bP2.four
    have hlt := bP2.lt
    have HNE := Lib.hid (show some w.heap.size ≠ (Value.slice (some ⟨w2.heap.size, 0, none⟩) 0 0).ownBlock from fun h => by have h2 : w.heap.size = w2.heap.size := Option.some.inj h; omega)
    clear hv bP2
    go_wp2_with fail
    go_region_law (first
      | (refine step_append_rd _ rfl (.tmp 6) (.tmp 8) _ rfl w.heap.size 30 i0 _ 2 16 Try.underlying23 hi hz0 hz1 hz2 rfl (by omega) _ _ _ rfl hO _ _ m _ (cells2 lc) rfl (hrD'.rdN HC.out) (one_cells2 lc) (by simp only [maxLen]; omega) (by omega) kbD.size ?_; intro A4 c4 w4 hown4 hgrow4; obtain ⟨d0, d1, d2, d3⟩ := (bD.grown hgrow4 HNE.out).four; have kb4 := below_own kbD hO hgrow4; have hr4 := (HR.out.below kb4).mono kb4.size; rw [List.nil_append, Nat.zero_add] at hown4; rw [Nat.zero_add]; clear hgrow4)
      | (refine step_append_rd _ rfl (.tmp 9) (.tmp 11) _ rfl w.heap.size 30 i0 _ 2 16 Try.underlying23 hi hz0 hz1 hz2 rfl (by omega) _ _ _ rfl hown4 _ _ n _ (cells2 lo) rfl (hr4.rdN HO.out) (one_cells2 lo) (by simp only [maxLen]; omega) (by omega) kb4.size ?_; intro A5 c5 w5 hown5 hgrow))
    all_goals
      have kb5 := below_own kb4 hown4 hgrow
      clear hgrow hown4
      go_wp2
      go_ret
      refine ⟨A5, c5, ?_, ?_, kb5⟩
      · rw [HA.out, List.length_append, HO.out, HC.out]; rfl
      · rw [HA.out, List.length_append, cellsL_append, HO.out, HC.out]; unfold cellsL at hown5 ⊢; rw [HO.out, HC.out]; exact hown5
  · have hv' : vH hw hn lo lc = false := by simpa using hv
    rw [hv']
    have HA := Lib.hid (allL_no hv)
    clear hv hv' bP2
    go_wp2
    go_ret
    exact retP_nil HA.out kb2
end Go.Proofs.Ytccihfdanbfdeaa
