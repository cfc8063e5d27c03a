/-
  Walk of FnExactValidHead.
-/
import Derived.Test.YtgifppadakmmiaaHeadL1
import Derived.Deep.RegionWith
namespace Go.Proofs.Ytgifppadakmmiaa
open Go.RowKit
/-- The four cells of a head's block. -/
theorem Blk.four {w : World} {g : Nat} {t : TypeId} {a b c d : Value} (h : Blk w g t #[a, b, c, d]) : w.cell? ⟨g, 0, none⟩ = some a ∧ w.cell? ⟨g, 1, none⟩ = some b ∧ w.cell? ⟨g, 2, none⟩ = some c ∧ w.cell? ⟨g, 3, none⟩ = some d := by
  have a0 := h.cell 0
  have a1 := h.cell 1
  have a2 := h.cell 2
  have a3 := h.cell 3
  simp at a0 a1 a2 a3
  exact ⟨a0, a1, a2, a3⟩
set_option maxHeartbeats 4000000 in
theorem fnExactValidHead_any (hw hn : Int) (A : Option Addr) (n c : Nat) (B : Option Addr) (m e : Nat) (lo lc : List (Int × Int)) (w : World) (hf : (-9223372036854775808 ≤ hw ∧ hw ≤ 9223372036854775807) ∧ (-9223372036854775808 ≤ hn ∧ hn ≤ 9223372036854775807) ∧ (lo.length = n ∧ n ≤ 9223372036854775807 ∧ Rd2 w w.heap.size A lo) ∧ (lc.length = m ∧ m ≤ 9223372036854775807 ∧ Rd2 w w.heap.size B lc)) :
    Calls Try.prog 4 #[.agg #[.int .i64 hw, .int .i64 hn, .slice A n c, .slice B m e]] w fun e w' => e = .returned (.bool true) ∧ Below w.heap.size w w' := by
  obtain ⟨_, _, ⟨hlo, h1, hr⟩, ⟨hlc, h2, hr'⟩⟩ := hf
  have HO := Lib.hid hlo
  have HC := Lib.hid hlc
  have HR := Lib.hid hr
  have HR' := Lib.hid hr'
  have kb1 := kept_alloc (Below.refl w.heap.size w) (Obj.cells #[Value.int .i64 hw, .int .i64 hn, .slice A n c, .slice B m e] 34)
  have bP := Blk.new w 34 #[.int .i64 hw, .int .i64 hn, .slice A n c, .slice B m e]
  clear hlo hlc hr hr'
  go_enter Try.func4, Try.ntmps4
  go_wp2_with fail
  generalize w.alloc (Obj.cells #[Value.int .i64 hw, .int .i64 hn, .slice A n c, .slice B m e] 34) = W1 at *
  refine (szHead_any hw hn A n c B m _ _ _ h1 h2 (by omega) (by omega)).mono ?_
  rintro ee w2 ⟨r, rfl, r0, r1, r2, hb2⟩
  have kb2 := kb1.trans (hb2.mono kb1.size)
  have bP2 := bP.kept hb2
  clear bP hb2 kb1
  by_cases hr0 : r < 0
  · clear bP2 r2
    go_wp2
    go_ret
    exact ⟨rfl, kb2⟩
  · have hnm := r2 (by omega)
    have n1 : n ≤ 1048576 := by omega
    have m1 : m ≤ 1048576 := by omega
    clear r2
    obtain ⟨c0, c1, c2, c3⟩ := bP2.four
    have hr2 := (HR.out.below kb2).mono kb2.size
    have hr2' := (HR'.out.below kb2).mono kb2.size
    go_wp2_with fail
    refine (toHead_any hw hn A n c B m _ lo lc _ HO.out HC.out n1 m1 hr2 hr2').mono ?_
    rintro ee w3 ⟨g1, g2, rfl, hg1, hg2, hf1, hf2, hb3⟩
    have kb3 := kb2.trans (hb3.mono kb2.size)
    have bP3 := bP2.kept hb3
    clear bP2 hb3 kb2 c0 c1 c2 c3 hr2 hr2' hg1 hg2
    go_wp2_with fail
    refine (specValidHeadE_any hw hn _ n n _ m m lo lc _ HO.out HC.out (by omega) (by omega) (hf1.rd2 HO.out) (hf2.rd2 HC.out)).mono ?_
    rintro ee w4 ⟨rfl, hb4⟩
    have kb4 := kb3.trans (hb4.mono kb3.size)
    have bP4 := bP3.kept hb4
    obtain ⟨c0, c1, c2, c3⟩ := bP4.four
    have hr4 := (HR.out.below kb4).mono kb4.size
    have hr4' := (HR'.out.below kb4).mono kb4.size
    clear bP3 hb4 kb3 hf1 hf2
    go_wp2_with fail
    refine (toHead_any hw hn A n c B m _ lo lc _ HO.out HC.out n1 m1 hr4 hr4').mono ?_
    rintro ee w5 ⟨g3, g4, rfl, hg3, hg4, hf3, hf4, hb5⟩
    have kb5 := kb4.trans (hb5.mono kb4.size)
    have bP5 := bP4.kept hb5
    clear bP4 hb5 kb4 c0 c1 c2 c3 hr4 hr4' hg3 hg4
    have kb6 := kept_alloc kb5 (Obj.cells #[Value.int .i64 hw, .int .i64 hn, .slice (some ⟨g3, 0, none⟩) n n, .slice (some ⟨g4, 0, none⟩) m m] 38)
    have bQ6 := Blk.new w5 38 #[Value.int .i64 hw, .int .i64 hn, .slice (some ⟨g3, 0, none⟩) n n, .slice (some ⟨g4, 0, none⟩) m m]
    have bP6 := bP5.alloc (Obj.cells #[Value.int .i64 hw, .int .i64 hn, .slice (some ⟨g3, 0, none⟩) n n, .slice (some ⟨g4, 0, none⟩) m m] 38)
    have hf5 := hf3.kept (kept_alloc (Below.refl _ _) (Obj.cells #[Value.int .i64 hw, .int .i64 hn, .slice (some ⟨g3, 0, none⟩) n n, .slice (some ⟨g4, 0, none⟩) m m] 38))
    have hf6 := hf4.kept (kept_alloc (Below.refl _ _) (Obj.cells #[Value.int .i64 hw, .int .i64 hn, .slice (some ⟨g3, 0, none⟩) n n, .slice (some ⟨g4, 0, none⟩) m m] 38))
    clear kb5 bP5 hf3 hf4
    go_wp2_with fail
    generalize w5.alloc (Obj.cells #[Value.int .i64 hw, .int .i64 hn, .slice (some ⟨g3, 0, none⟩) n n, .slice (some ⟨g4, 0, none⟩) m m] 38) = W6 at *
    refine (validHead_any hw hn _ n n _ m m lo lc _ HO.out HC.out (by omega) (by omega) (hf5.rd2 HO.out) (hf6.rd2 HC.out)).mono ?_
    rintro ee w7 ⟨rfl, hb7⟩
    have kb7 := kb6.trans (hb7.mono kb6.size)
    have bP7 := bP6.kept hb7
    have bQ7 := bQ6.kept hb7
    have hf7 := hf5.kept hb7
    have hf8 := hf6.kept hb7
    clear kb6 bP6 bQ6 hf5 hf6 hb7
    obtain ⟨c0, c1, c2, c3⟩ := bP7.four
    obtain ⟨d0, d1, d2, d3⟩ := bQ7.four
    have kbD := kb7.drew
    have hr7 := (HR.out.below kbD).mono kbD.size
    have hr7' := (HR'.out.below kbD).mono kbD.size
    have bQD : Blk w7.drew w5.heap.size 38 #[Value.int .i64 hw, .int .i64 hn, .slice (some ⟨g3, 0, none⟩) n n, .slice (some ⟨g4, 0, none⟩) m m] := bQ7
    have hf7D : Filled w7.drew g3 30 (n * 2) (n * 2) (cells2 lo) := hf7
    have hf8D : Filled w7.drew g4 30 (m * 2) (m * 2) (cells2 lc) := hf8
    clear hf7 hf8 bQ7 bP7 kb7
    go_wp2_with fail
    go_region_with (first
      | (go_at_call 26; refine (toHead_any hw hn A n c B m _ lo lc _ HO.out HC.out n1 m1 hr7 hr7').mono ?_; rintro ee w9 ⟨g5, g6, rfl, hg5, hg6, hf9, hf10, hb9⟩; obtain ⟨d4, d5, d6, d7⟩ := (bQD.kept hb9).four)
      | (go_at_call 28; refine (eqHead_any hw hn _ n n _ m m lo lc _ n _ m _ HO.out HC.out (by omega) (by omega) ((hf7D.kept hb9).rd2 HO.out) ((hf8D.kept hb9).rd2 HC.out) (hf9.rd2 HO.out) (hf10.rd2 HC.out)).mono ?_; rintro ee w11 ⟨rfl, hb11⟩))
    all_goals
      go_wp2
      go_ret
      exact ⟨rfl, kept_trans (kept_trans kbD hb9) hb11⟩
end Go.Proofs.Ytgifppadakmmiaa
