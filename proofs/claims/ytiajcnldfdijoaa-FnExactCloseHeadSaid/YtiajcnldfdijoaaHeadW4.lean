/-
  Walks: CloseHead of both packages.
-/
import Derived.Test.YtiajcnldfdijoaaHeadW3
import Derived.Test.YtiajcnldfdijoaaHeadM
import Derived.Deep.RegionHeld3
namespace Go.Proofs.Ytiajcnldfdijoaa
open Go.RowKit
def opL (hw hn : Int) (lo lc : List (Int × Int)) : List (Int × Int) := if vH hw hn lo lc then lo else []
def clL (hw hn : Int) (lo lc : List (Int × Int)) : List (Int × Int) := if vH hw hn lo lc then lc else []
def clW (hw hn : Int) (lo lc : List (Int × Int)) : Int := if vH hw hn lo lc then hw else 0
def clN (hw hn : Int) (lo lc : List (Int × Int)) : Int := if vH hw hn lo lc then hn else 0
theorem cl_yes {hw hn : Int} {lo lc : List (Int × Int)} (h : vH hw hn lo lc = true) : opL hw hn lo lc = lo ∧ clL hw hn lo lc = lc ∧ clW hw hn lo lc = hw ∧ clN hw hn lo lc = hn := by
  unfold opL clL clW clN; rw [if_pos h, if_pos h, if_pos h, if_pos h]; exact ⟨rfl, rfl, rfl, rfl⟩
theorem cl_no {hw hn : Int} {lo lc : List (Int × Int)} (h : ¬ vH hw hn lo lc = true) : opL hw hn lo lc = [] ∧ clL hw hn lo lc = [] ∧ clW hw hn lo lc = 0 ∧ clN hw hn lo lc = 0 := by
  unfold opL clL clW clN; rw [if_neg h, if_neg h, if_neg h, if_neg h]; exact ⟨rfl, rfl, rfl, rfl⟩
/-- What CloseHead hands back: the closed points, the head without them. -/
def CloseP (w : World) (nilC : Bool) (xw xn : Int) (lo lc : List (Int × Int)) (b : Bool) (e : Ending) (w' : World) : Prop :=
  ∃ A1 c1 A2 c2 A3 c3, e = .returned (.tuple #[.slice A1 lc.length c1, .agg #[.int .i64 xw, .int .i64 xn, .slice A2 lo.length c2, .slice A3 0 c3], .bool b]) ∧ (nilC = true → A3 = none ∧ c3 = 0) ∧
    w'.ownsRow w.heap.size 30 2 (.slice A1 lc.length c1) lc.length (cellsL lc) ∧ w'.ownsRow w.heap.size 30 2 (.slice A2 lo.length c2) lo.length (cellsL lo) ∧
    ((Value.slice A1 lc.length c1).ownBlock = none ∨ (Value.slice A1 lc.length c1).ownBlock ≠ (Value.slice A2 lo.length c2).ownBlock) ∧ Below w.heap.size w w'
theorem own_set {w : World} {v : Value} {e : TypeId} {size n B : Nat} {xs : List Value} (h : w.ownsRow B e size v n xs) {p : Addr} (hp : p.block < B) (u : Value) : (w.setCell p u).ownsRow B e size v n xs :=
  h.kept (row := some p.block) ⟨rfl, rfl, rfl, by simp [World.setCell], fun i _ hne => Below.heap_setCell w p u i (by rintro rfl; exact hne rfl)⟩ (own_far h hp)
theorem own_apart {w w0 : World} {v v0 : Value} {e e0 : TypeId} {size size0 n n0 B B0 : Nat} {xs xs0 : List Value} (h : w.ownsRow B e size v n xs) (h0 : w0.ownsRow B0 e0 size0 v0 n0 xs0) (hB : w0.heap.size ≤ B) : v.ownBlock = none ∨ v.ownBlock ≠ v0.ownBlock := by
  rcases hq : v.ownBlock with _ | q
  · exact .inl rfl
  · refine .inr fun hc => ?_
    have h1 := (h.lt q hq).1
    have h2 := (h0.lt q hc.symm).2
    omega
set_option maxHeartbeats 4000000 in
theorem closeHead_any (hw hn : Int) (A : Option Addr) (n c : Nat) (B : Option Addr) (m e : Nat) (lo lc : List (Int × Int)) (w : World) (hlo : lo.length = n) (hlc : lc.length = m) (h1 : n ≤ 1048576) (h2 : m ≤ 1048576)
    (hr : Rd2 w w.heap.size A lo) (hr' : Rd2 w w.heap.size B lc) :
    Calls Try.prog 20 #[.agg #[.int .i64 hw, .int .i64 hn, .slice A n c, .slice B m e]] w (CloseP w true (clW hw hn lo lc) (clN hw hn lo lc) (opL hw hn lo lc) (clL hw hn lo lc) (vH hw hn lo lc)) := by
  have hbW := kept_alloc (kept_alloc (Below.refl w.heap.size w) (Obj.cells #[Value.int .i64 hw, .int .i64 hn, .slice A n c, .slice B m e] 45)) (Obj.cells #[Value.int .i64 0, .int .i64 0, .slice none 0 0, .slice none 0 0] 45)
  have bP := (Blk.new w 45 #[.int .i64 hw, .int .i64 hn, .slice A n c, .slice B m e]).alloc (Obj.cells #[Value.int .i64 0, .int .i64 0, .slice none 0 0, .slice none 0 0] 45)
  have bR := Blk.new (w.alloc (Obj.cells #[Value.int .i64 hw, .int .i64 hn, .slice A n c, .slice B m e] 45)) 45 #[.int .i64 0, .int .i64 0, .slice none 0 0, .slice none 0 0]
  rw [heap_size_alloc] at bR
  have hrW := hr.next hbW
  have hrW' := hr'.next hbW
  have HO := Lib.hid hlo
  have HC := Lib.hid hlc
  have HR := Lib.hid hr
  have HR' := Lib.hid hr'
  clear hlo hlc hr hr'
  go_enter Try.func20, Try.ntmps20
  go_wp2_with fail
  generalize (w.alloc (Obj.cells #[Value.int .i64 hw, .int .i64 hn, .slice A n c, .slice B m e] 45)).alloc (Obj.cells #[Value.int .i64 0, .int .i64 0, .slice none 0 0, .slice none 0 0] 45) = W1 at *
  refine (validHead_any hw hn A n c B m e lo lc _ HO.out HC.out (by omega) (by omega) hrW hrW').mono ?_
  rintro ee w2 ⟨rfl, hb2⟩
  have kb2 := hbW.trans (hb2.mono hbW.size)
  have bP2 := bP.kept hb2
  have bR2 := bR.kept hb2
  clear hrW hrW' hbW bP bR hb2
  by_cases hv : vH hw hn lo lc = true
  · have HA := Lib.hid (cl_yes hv)
    have HV := Lib.hid hv
    rw [hv]
    have kbE := (kept_alloc kb2 (Obj.cells #[Value.int .i64 0, .int .i64 0, .slice none 0 0, .slice none 0 0] 45)).drew
    have bE : Blk ((w2.alloc (Obj.cells #[Value.int .i64 0, .int .i64 0, .slice none 0 0, .slice none 0 0] 45)).drew) w.heap.size 45 #[.int .i64 hw, .int .i64 hn, .slice A n c, .slice B m e] := bP2.alloc _
    have bRE : Blk ((w2.alloc (Obj.cells #[Value.int .i64 0, .int .i64 0, .slice none 0 0, .slice none 0 0] 45)).drew) (w.heap.size + 1) 45 #[.int .i64 0, .int .i64 0, .slice none 0 0, .slice none 0 0] := bR2.alloc _
    have bSE : Blk ((w2.alloc (Obj.cells #[Value.int .i64 0, .int .i64 0, .slice none 0 0, .slice none 0 0] 45)).drew) w2.heap.size 45 #[.int .i64 0, .int .i64 0, .slice none 0 0, .slice none 0 0] := Blk.new w2 _ _
    have hrE := (HR.out.below kbE).mono kbE.size
    have kbD := kb2.drew
    have bD : Blk w2.drew w.heap.size 45 #[.int .i64 hw, .int .i64 hn, .slice A n c, .slice B m e] := bP2
    have bRD : Blk w2.drew (w.heap.size + 1) 45 #[.int .i64 0, .int .i64 0, .slice none 0 0, .slice none 0 0] := bR2
    have hrD := (HR.out.below kbD).mono kbD.size
    obtain ⟨c0, c1, c2, c3⟩ := bP2.four
    have hlt := bR2.lt
    have n1 : ¬ w.heap.size = w2.heap.size := by omega
    have n2 : ¬ w2.heap.size = w.heap.size := by omega
    clear hv kb2 bP2 bR2
    go_wp2_with fail
    go_region_held3 (fun w' => w'.cell? ⟨w.heap.size, 0, none⟩ = some (.int .i64 hw) ∧ w'.cell? ⟨w.heap.size, 1, none⟩ = some (.int .i64 hn) ∧ w'.cell? ⟨w.heap.size, 2, none⟩ = some (.slice A n c))
      (first | go_keep | exact ⟨d0, d1, d2⟩)
      (first
      | (go_at_call 39; (with_reducible refine (copyPoints_any A n _ lo _ HO.out (by omega) hrD).mono ?_); rintro ee w4 ⟨A4, c4, rfl, hown4, hb4⟩; obtain ⟨d0, d1, d2, d3⟩ := (bD.kept hb4).four; have n3 : ¬ w.heap.size = w4.heap.size := (by have := hb4.size; have : w2.drew.heap.size = w2.heap.size := rfl; omega); have n4 := Ne.symm n3)
      | (go_at_call 39; (with_reducible refine (copyPoints_any A n _ lo _ HO.out (by omega) hrE).mono ?_); rintro ee w4 ⟨A4, c4, rfl, hown4, hb4⟩; obtain ⟨d0, d1, d2, d3⟩ := (bE.kept hb4).four; obtain ⟨s0, s1, s2, s3⟩ := (bSE.kept hb4).four; have f0 := (bSE.kept hb4).frozen 0; have f1 := (bSE.kept hb4).frozen 1; have f2 := (bSE.kept hb4).frozen 2; have f3 := (bSE.kept hb4).frozen 3))
    all_goals go_wp2_with fail
    all_goals first
      | (
          have q4 := bSE.kept hb4
          have hlt4 : w2.heap.size < w4.heap.size := by have := hb4.size; simp at this; omega
          have bS5 : Blk ((((w4.setCell ⟨w2.heap.size, 0, none⟩ (Value.int IntKind.i64 hw)).setCell ⟨w2.heap.size, 1, none⟩ (Value.int IntKind.i64 hn)).setCell ⟨w2.heap.size, 2, none⟩ (Value.slice A4 lo.length c4)).setCell ⟨w2.heap.size, 3, none⟩ (Value.slice none 0 0)) w2.heap.size 45 #[.int .i64 hw, .int .i64 hn, .slice A4 lo.length c4, .slice none 0 0] := by
            have := (((q4.set_ 0 (.int .i64 hw)).set_ 1 (.int .i64 hn)).set_ 2 (.slice A4 lo.length c4)).set_ 3 (.slice none 0 0)
            simpa using this
          have bP5 := ((((bE.kept hb4).other (p := ⟨w2.heap.size, 0, none⟩) (by simp only; omega) (.int .i64 hw)).other (p := ⟨w2.heap.size, 1, none⟩) (by simp only; omega) (.int .i64 hn)).other (p := ⟨w2.heap.size, 2, none⟩) (by simp only; omega) (.slice A4 lo.length c4)).other (p := ⟨w2.heap.size, 3, none⟩) (by simp only; omega) (.slice none 0 0)
          have bR5 := ((((bRE.kept hb4).other (p := ⟨w2.heap.size, 0, none⟩) (by simp only; omega) (.int .i64 hw)).other (p := ⟨w2.heap.size, 1, none⟩) (by simp only; omega) (.int .i64 hn)).other (p := ⟨w2.heap.size, 2, none⟩) (by simp only; omega) (.slice A4 lo.length c4)).other (p := ⟨w2.heap.size, 3, none⟩) (by simp only; omega) (.slice none 0 0)
          have hown5 := own_set (own_set (own_set (own_set hown4 (p := ⟨w2.heap.size, 0, none⟩) (by simp) (.int .i64 hw)) (p := ⟨w2.heap.size, 1, none⟩) (by simp) (.int .i64 hn)) (p := ⟨w2.heap.size, 2, none⟩) (by simp) (.slice A4 lo.length c4)) (p := ⟨w2.heap.size, 3, none⟩) (by simp) (.slice none 0 0)
          have hown5 := hown5.mono (show w2.heap.size ≤ _ by simp)
          have kb5 := ((((kbE.trans (hb4.mono kbE.size)).setCell (p := ⟨w2.heap.size, 0, none⟩) (by simp only; omega) (.int .i64 hw)).setCell (p := ⟨w2.heap.size, 1, none⟩) (by simp only; omega) (.int .i64 hn)).setCell (p := ⟨w2.heap.size, 2, none⟩) (by simp only; omega) (.slice A4 lo.length c4)).setCell (p := ⟨w2.heap.size, 3, none⟩) (by simp only; omega) (.slice none 0 0)
          have hSR : w.heap.size + 1 < w2.heap.size := hlt
          clear q4 hlt4 hown4 hb4 d0 d1 d2 d3 s0 s1 s2 s3 f0 f1 f2 f3 c0 c1 c2 c3 bSE bE bRE bD bRD kbD kbE hrD hrE n1 n2
          generalize ((((w4.setCell ⟨w2.heap.size, 0, none⟩ (Value.int IntKind.i64 hw)).setCell ⟨w2.heap.size, 1, none⟩ (Value.int IntKind.i64 hn)).setCell ⟨w2.heap.size, 2, none⟩ (Value.slice A4 lo.length c4)).setCell ⟨w2.heap.size, 3, none⟩ (Value.slice none 0 0)) = w5 at *
          generalize hgS : w2.heap.size = S at bS5 hSR ⊢)
      | (
          have bS5 : Blk (w4.alloc (Obj.cells #[Value.int IntKind.i64 hw, Value.int IntKind.i64 hn, Value.slice A4 lo.length c4, Value.slice none 0 0] 45)) w4.heap.size 45 #[.int .i64 hw, .int .i64 hn, .slice A4 lo.length c4, .slice none 0 0] := Blk.new w4 _ _
          have bP5 := (bD.kept hb4).alloc (Obj.cells #[Value.int IntKind.i64 hw, Value.int IntKind.i64 hn, Value.slice A4 lo.length c4, Value.slice none 0 0] 45)
          have bR5 := (bRD.kept hb4).alloc (Obj.cells #[Value.int IntKind.i64 hw, Value.int IntKind.i64 hn, Value.slice A4 lo.length c4, Value.slice none 0 0] 45)
          have hown5 := (own_alloc hown4 (Obj.cells #[Value.int IntKind.i64 hw, Value.int IntKind.i64 hn, Value.slice A4 lo.length c4, Value.slice none 0 0] 45)).mono (show w2.heap.size ≤ _ by simp)
          have kb5 := kept_alloc (kbD.trans (hb4.mono kbD.size)) (Obj.cells #[Value.int IntKind.i64 hw, Value.int IntKind.i64 hn, Value.slice A4 lo.length c4, Value.slice none 0 0] 45)
          have hSR : w.heap.size + 1 < w4.heap.size := (bRD.kept hb4).lt
          clear hown4 hb4 d0 d1 d2 d3 c0 c1 c2 c3 bSE bE bRE bD bRD kbD kbE hrD hrE n1 n2 n3 n4
          generalize (w4.alloc (Obj.cells #[Value.int IntKind.i64 hw, Value.int IntKind.i64 hn, Value.slice A4 lo.length c4, Value.slice none 0 0] 45)) = w5 at *
          generalize hgS : w4.heap.size = S at bS5 hSR ⊢)
    all_goals
      clear hgS
      have bP6 : Blk w5.drew w.heap.size 45 #[.int .i64 hw, .int .i64 hn, .slice A n c, .slice B m e] := bP5
      have bR6 : Blk w5.drew (w.heap.size + 1) 45 #[.int .i64 0, .int .i64 0, .slice none 0 0, .slice none 0 0] := bR5
      have bS6 : Blk w5.drew S 45 #[.int .i64 hw, .int .i64 hn, .slice A4 lo.length c4, .slice none 0 0] := bS5
      have kb6 := kb5.drew
      have hr6 := (HR'.out.below kb6).mono kb6.size
      have hown6 : w5.drew.ownsRow w2.heap.size 30 2 (.slice A4 lo.length c4) lo.length (cellsL lo) := hown5
      obtain ⟨c0, c1, c2, c3⟩ := bP5.four
      obtain ⟨s0, s1, s2, s3⟩ := bS5.four
      obtain ⟨r0, r1, r2, r3⟩ := bR5.four
      have g0 := bR5.frozen 0
      have g1 := bR5.frozen 1
      have g2 := bR5.frozen 2
      have g3 := bR5.frozen 3
      have n1 : ¬ w.heap.size + 1 = S := by omega
      have n2 : ¬ S = w.heap.size + 1 := by omega
      clear bP5 bR5 bS5 kb5 hown5
      go_region_held3 (fun w' => w'.cell? ⟨w.heap.size, 3, none⟩ = some (.slice B m e) ∧ w'.cell? ⟨S, 0, none⟩ = some (.int .i64 hw) ∧ w'.cell? ⟨S, 1, none⟩ = some (.int .i64 hn) ∧ w'.cell? ⟨S, 2, none⟩ = some (.slice A4 lo.length c4) ∧ w'.cell? ⟨S, 3, none⟩ = some (.slice none 0 0))
        (first | go_keep | exact ⟨d3, t0, t1, t2, t3⟩)
        (first
        | (go_at_call 39; (with_reducible refine (copyPoints_any B m _ lc _ HC.out (by omega) hr6).mono ?_); rintro ee w7 ⟨A7, c7, rfl, hown7, hb7⟩; obtain ⟨d0, d1, d2, d3⟩ := (bP6.kept hb7).four; obtain ⟨t0, t1, t2, t3⟩ := (bS6.kept hb7).four; obtain ⟨x0, x1, x2, x3⟩ := (bR6.kept hb7).four; have f0 := (bR6.kept hb7).frozen 0; have f1 := (bR6.kept hb7).frozen 1; have f2 := (bR6.kept hb7).frozen 2; have f3 := (bR6.kept hb7).frozen 3))
    all_goals
      have x5 := bR6.lt
      have hA7 := (own_set (own_set (own_set (own_set hown7 (p := ⟨w.heap.size + 1, 0, none⟩) (by simp only; omega) (.int .i64 hw)) (p := ⟨w.heap.size + 1, 1, none⟩) (by simp only; omega) (.int .i64 hn)) (p := ⟨w.heap.size + 1, 2, none⟩) (by simp only; omega) (.slice A4 lo.length c4)) (p := ⟨w.heap.size + 1, 3, none⟩) (by simp only; omega) (.slice none 0 0)).mono kb6.size
      have hA4 := (own_set (own_set (own_set (own_set (own_kept hown6 hb7) (p := ⟨w.heap.size + 1, 0, none⟩) (by simp only; omega) (.int .i64 hw)) (p := ⟨w.heap.size + 1, 1, none⟩) (by simp only; omega) (.int .i64 hn)) (p := ⟨w.heap.size + 1, 2, none⟩) (by simp only; omega) (.slice A4 lo.length c4)) (p := ⟨w.heap.size + 1, 3, none⟩) (by simp only; omega) (.slice none 0 0)).mono (show w.heap.size ≤ w2.heap.size by omega)
      have kb8 := ((((kb6.trans (hb7.mono kb6.size)).setCell (p := ⟨w.heap.size + 1, 0, none⟩) (by simp only; omega) (.int .i64 hw)).setCell (p := ⟨w.heap.size + 1, 1, none⟩) (by simp only; omega) (.int .i64 hn)).setCell (p := ⟨w.heap.size + 1, 2, none⟩) (by simp only; omega) (.slice A4 lo.length c4)).setCell (p := ⟨w.heap.size + 1, 3, none⟩) (by simp only; omega) (.slice none 0 0)
      have hne := own_apart hown7 hown6 (Nat.le_refl _)
      have HX := Lib.hid (And.intro hA7 (And.intro hA4 (And.intro hne kb8)))
      clear hA7 hA4 hne kb8 hown7 hown6 hb7 hr6 bP6 bR6 bS6 kb6 s0 s1 s2 s3 r0 r1 r2 r3 g0 g1 g2 g3 c0 c1 c2 c3
      go_wp2
      refine bodyPost_ret (v := .tuple #[.slice A7 lc.length c7, .agg #[.int .i64 hw, .int .i64 hn, .slice A4 lo.length c4, .slice none 0 0], .bool true]) (by simp [results, go_sem, x0, x1, x2, x3]) rfl ?_
      rw [HA.out.1, HA.out.2.1, HA.out.2.2.1, HA.out.2.2.2, HV.out]
      exact ⟨A7, c7, A4, c4, none, 0, rfl, fun _ => ⟨rfl, rfl⟩, HX.out.1, HX.out.2.1, HX.out.2.2.1, HX.out.2.2.2⟩
  · have hv' : vH hw hn lo lc = false := by simpa using hv
    have HA := Lib.hid (cl_no hv)
    have HV := Lib.hid hv'
    rw [hv']
    have kb3 := kb2
    have f0 := bR2.frozen 0
    have f1 := bR2.frozen 1
    have f2 := bR2.frozen 2
    have f3 := bR2.frozen 3
    obtain ⟨c0, c1, c2, c3⟩ := bR2.four
    have kb8 := (((kb2.setCell (p := ⟨w.heap.size + 1, 0, none⟩) (by simp) (.int .i64 0)).setCell (p := ⟨w.heap.size + 1, 1, none⟩) (by simp) (.int .i64 0)).setCell (p := ⟨w.heap.size + 1, 2, none⟩) (by simp) (.slice none 0 0)).setCell (p := ⟨w.heap.size + 1, 3, none⟩) (by simp) (.slice none 0 0)
    clear hv hv' bP2 bR2
    go_wp2
    refine bodyPost_ret (v := .tuple #[.slice none 0 0, .agg #[.int .i64 0, .int .i64 0, .slice none 0 0, .slice none 0 0], .bool false]) (by simp [results, go_sem, c0, c1, c2, c3]) rfl ?_
    rw [HA.out.1, HA.out.2.1, HA.out.2.2.1, HA.out.2.2.2, HV.out]
    exact ⟨none, 0, none, 0, none, 0, rfl, fun _ => ⟨rfl, rfl⟩, World.ownsRow_nil _ _ _ _, World.ownsRow_nil _ _ _ _, .inl rfl, kb8⟩
end Go.Proofs.Ytiajcnldfdijoaa
