/-
  Walk: ValidHead of the program.
-/
import Derived.Test.YtiajcnldfdijoaaHeadFn
import Derived.Test.YtiajcnldfdijoaaPtW2
namespace Go.Proofs.Ytiajcnldfdijoaa
open Go.RowKit
def hcells (hw hn : Int) (A : Option Addr) (n c : Nat) (B : Option Addr) (m e : Nat) : Array Value := #[.int .i64 hw, .int .i64 hn, .slice A n c, .slice B m e]
set_option maxHeartbeats 2000000 in
theorem validHead_any (hw hn : Int) (A : Option Addr) (n c : Nat) (B : Option Addr) (m e : Nat) (lo lc : List (Int × Int)) (w : World) (hlo : lo.length = n) (hlc : lc.length = m) (h1 : n ≤ 1000000000000) (h2 : m ≤ 1000000000000)
    (hr : Rd2 w w.heap.size A lo) (hr' : Rd2 w w.heap.size B lc) :
    Calls Try.prog 44 #[.agg #[.int .i64 hw, .int .i64 hn, .slice A n c, .slice B m e]] w fun e w' => e = .returned (.bool (vH hw hn lo lc)) ∧ Below w.heap.size w w' := by
  have HO := Lib.hid hlo
  have HC := Lib.hid hlc
  have hbW := kept_alloc (Below.refl w.heap.size w) (Obj.cells #[Value.int .i64 hw, .int .i64 hn, .slice A n c, .slice B m e] 45)
  have c0 : (w.alloc (Obj.cells #[Value.int .i64 hw, .int .i64 hn, .slice A n c, .slice B m e] 45)).cell? ⟨w.heap.size, 0, none⟩ = some (.int .i64 hw) := by simp
  have c1 : (w.alloc (Obj.cells #[Value.int .i64 hw, .int .i64 hn, .slice A n c, .slice B m e] 45)).cell? ⟨w.heap.size, 1, none⟩ = some (.int .i64 hn) := by simp
  have c2 : (w.alloc (Obj.cells #[Value.int .i64 hw, .int .i64 hn, .slice A n c, .slice B m e] 45)).cell? ⟨w.heap.size, 2, none⟩ = some (.slice A n c) := by simp
  have c3 : (w.alloc (Obj.cells #[Value.int .i64 hw, .int .i64 hn, .slice A n c, .slice B m e] 45)).cell? ⟨w.heap.size, 3, none⟩ = some (.slice B m e) := by simp
  have hl : w.heap.size < (w.alloc (Obj.cells #[Value.int .i64 hw, .int .i64 hn, .slice A n c, .slice B m e] 45)).heap.size := by simp
  have hrW := hr.next hbW
  have hrW' := hr'.next hbW
  clear hlo hlc hr hr'
  by_cases hw0 : 0 ≤ hw ∧ hw ≤ 100
  · obtain ⟨w0, w1⟩ := hw0
    have t1 : decide (hw < 0) = false := decide_eq_false (by omega)
    have t2 : decide (100 < hw) = false := decide_eq_false (by omega)
    by_cases ho : vS lo = true
    · by_cases hcc : vS lc = true
      · have HV := Lib.hid (VS_of ho)
        have HVC := Lib.hid (VS_of hcc)
        have HW := Lib.hid (And.intro w0 w1)
        go_enter Try.func44, Try.ntmps44
        go_wp2_with fail
        refine (validSeries_any A n c lo _ HO.out h1 hrW).mono ?_
        rintro e w2 ⟨rfl, hb1⟩
        rw [ho]
        rw [← hb1.cell (p := ⟨w.heap.size, 3, none⟩) hl] at c3
        have hr1' := hrW'.next hb1
        go_wp2_with fail
        refine (validSeries_any B m _ lc _ HC.out h2 hr1').mono ?_
        rintro e w3 ⟨rfl, hb2⟩
        rw [hcc]
        have hs2 := hb1.size
        have hs3 := hb2.size
        rw [← hb1.cell (p := ⟨w.heap.size, 0, none⟩) hl] at c0
        rw [← hb1.cell (p := ⟨w.heap.size, 1, none⟩) hl] at c1
        rw [← hb1.cell (p := ⟨w.heap.size, 2, none⟩) hl] at c2
        rw [← hb2.cell (p := ⟨w.heap.size, 0, none⟩) (by simp; omega)] at c0
        rw [← hb2.cell (p := ⟨w.heap.size, 1, none⟩) (by simp; omega)] at c1
        rw [← hb2.cell (p := ⟨w.heap.size, 2, none⟩) (by simp; omega)] at c2
        rw [← hb2.cell (p := ⟨w.heap.size, 3, none⟩) (by simp; omega)] at c3
        have hr3 := (hrW.next hb1).next hb2
        have hr3' := hr1'.next hb2
        have hbF := kept_trans (hbW.trans (hb1.mono hbW.size)) hb2
        have HF := Lib.hid hbF
        clear hb1 hb2 hrW hrW' hr1' hbW hbF hs2 hs3 hl ho hcc
        generalize hgs : w.heap.size = g at *
        have HG := Lib.hid hgs
        clear hgs
        by_cases hn0 : n = 0
        · have hnz : decide ((0 : Int) < (n : Int)) = false := decide_eq_false (by omega)
          have hnz2 : decide (0 < n) = false := decide_eq_false (by omega)
          have HE := Lib.hid (vH_empty (hn := hn) HW.out HV.out HVC.out (by rw [HO.out]; exact hn0))
          by_cases ha : hn = -1
          · have hax : (hn != -1) = false := by simp [ha]
            have hsub : IntKind.i64.wrap (-1 - hw) = -1 - hw := IntWalk.i64_in _ (by omega)
            by_cases hm0 : m = 0
            · have hmz : ((m : Int) == 0) = true := by simp [hm0]
              have HX := Lib.hid (And.intro ha hm0)
              clear hn0 ha hm0 hr3 hr3'
              go_wp2
              go_ret
              exact ⟨ret_bool (by rw [HE.out, HC.out, HX.out.1, HX.out.2]; rfl), by rw [HG.out]; exact HF.out⟩
            · have hmz : ((m : Int) == 0) = false := by simp [hm0]
              obtain ⟨b, off, rfl, _, hc'⟩ := hr3'.at_ (by rw [HC.out]; omega)
              have q1 := (hc' (m - 1) (by rw [HC.out]; omega)).1
              have hx := VS_at HVC.out (i := m - 1) (by rw [HC.out]; omega)
              have hs1 : IntKind.i64.wrap ((m : Int) - 1) = (m : Int) - 1 := IntWalk.i64_in _ (by omega)
              have hs3 : ((m : Int) - 1).toNat = m - 1 := by omega
              have hk1 : (1 : Int) ≤ (m : Int) := by omega
              have hk2 : (m : Int) - 1 < (m : Int) := by omega
              have d1 : decide (x1 lc (m - 1) < -1 - hw) = false := decide_eq_false (by omega)
              have HX := Lib.hid (And.intro ha hm0)
              clear hn0 ha hm0 hr3 hr3' hc' hx
              go_wp2
              go_ret
              exact ⟨ret_bool (by rw [HE.out, HC.out, decide_eq_false HX.out.2, Bool.and_false]), by rw [HG.out]; exact HF.out⟩
          · have hax : (hn != -1) = true := by simp [ha]
            have HX := Lib.hid ha
            clear hn0 ha hr3 hr3'
            go_wp2
            go_ret
            exact ⟨ret_bool (by rw [HE.out, decide_eq_false HX.out, Bool.false_and]), by rw [HG.out]; exact HF.out⟩
        · have hnz : decide ((0 : Int) < (n : Int)) = true := decide_eq_true (by omega)
          have hnz2 : decide (0 < n) = true := decide_eq_true (by omega)
          have hnz3 : (0 : Int) < (n : Int) := by omega
          have hnz4 : 0 < n := by omega
          have HE := Lib.hid (vH_full (hn := hn) HW.out HV.out HVC.out (by rw [HO.out]; exact hnz4))
          obtain ⟨b, off, rfl, _, hc'⟩ := hr3.at_ (by rw [HO.out]; omega)
          have q1 := (hc' (n - 1) (by rw [HO.out]; omega)).1
          have q0 := (hc' 0 (by rw [HO.out]; omega)).1
          rw [Nat.zero_mul, Nat.add_zero] at q0
          have hx := VS_at HV.out (i := n - 1) (by rw [HO.out]; omega)
          have hs1 : IntKind.i64.wrap ((n : Int) - 1) = (n : Int) - 1 := IntWalk.i64_in _ (by omega)
          have hs3 : ((n : Int) - 1).toNat = n - 1 := by omega
          have hk1 : (1 : Int) ≤ (n : Int) := by omega
          have hk2 : (n : Int) - 1 < (n : Int) := by omega
          have hsub : IntKind.i64.wrap (x1 lo (n - 1) - hw) = x1 lo (n - 1) - hw := IntWalk.i64_in _ (by omega)
          clear hc' hx hn0 hr3
          by_cases ha : hn = x1 lo (n - 1)
          · have hax : (hn != x1 lo (n - 1)) = false := by simp [ha]
            by_cases hb0 : hn - hw ≤ x1 lo 0
            · have d1 : decide (x1 lo 0 < x1 lo (n - 1) - hw) = false := decide_eq_false (by omega)
              by_cases hm0 : m = 0
              · have hmz : ((m : Int) == 0) = true := by simp [hm0]
                have HX := Lib.hid (And.intro ha (And.intro hb0 hm0))
                clear ha hb0 hm0 hr3'
                go_wp2
                go_ret
                exact ⟨ret_bool (by rw [HE.out, HO.out, HC.out, decide_eq_true HX.out.1, decide_eq_true HX.out.2.1, decide_eq_true HX.out.2.2]; rfl), by rw [HG.out]; exact HF.out⟩
              · have hmz : ((m : Int) == 0) = false := by simp [hm0]
                obtain ⟨b', off', rfl, _, hc'⟩ := hr3'.at_ (by rw [HC.out]; omega)
                have q2 := (hc' (m - 1) (by rw [HC.out]; omega)).1
                have hs1' : IntKind.i64.wrap ((m : Int) - 1) = (m : Int) - 1 := IntWalk.i64_in _ (by omega)
                have hs3' : ((m : Int) - 1).toNat = m - 1 := by omega
                have hk1' : (1 : Int) ≤ (m : Int) := by omega
                have hk2' : (m : Int) - 1 < (m : Int) := by omega
                have HX := Lib.hid (And.intro ha (And.intro hb0 hm0))
                clear ha hb0 hm0 hr3' hc'
                go_wp2
                go_ret
                exact ⟨ret_bool (by rw [HE.out, HO.out, HC.out, decide_eq_true HX.out.1, decide_eq_true HX.out.2.1, decide_eq_false HX.out.2.2, Bool.true_and, Bool.true_and, Bool.false_or, ← HX.out.1]), by rw [HG.out]; exact HF.out⟩
            · have d1 : decide (x1 lo 0 < x1 lo (n - 1) - hw) = true := decide_eq_true (by omega)
              have HX := Lib.hid (And.intro ha hb0)
              clear ha hb0 hr3'
              go_wp2
              go_ret
              exact ⟨ret_bool (by rw [HE.out, decide_eq_false (by have := HX.out.2; omega : ¬ hn - hw ≤ x1 lo 0), Bool.false_and, Bool.and_false]), by rw [HG.out]; exact HF.out⟩
          · have hax : (hn != x1 lo (n - 1)) = true := by simp [ha]
            have HX := Lib.hid ha
            clear ha hr3'
            go_wp2
            go_ret
            exact ⟨ret_bool (by rw [HE.out, HO.out, decide_eq_false HX.out, Bool.false_and]), by rw [HG.out]; exact HF.out⟩
      · have hc' : vS lc = false := by simpa using hcc
        go_enter Try.func44, Try.ntmps44
        go_wp2_with fail
        refine (validSeries_any A n c lo _ HO.out h1 hrW).mono ?_
        rintro e w1 ⟨rfl, hb1⟩
        rw [ho]
        rw [← hb1.cell (p := ⟨w.heap.size, 3, none⟩) hl] at c3
        have hr1' := hrW'.next hb1
        go_wp2_with fail
        refine (validSeries_any B m _ lc _ HC.out h2 hr1').mono ?_
        rintro e w2 ⟨rfl, hb2⟩
        rw [hc']
        go_wp2
        go_ret
        exact ⟨ret_bool (vH_bad_c hc').symm, kept_trans (hbW.trans (hb1.mono hbW.size)) hb2⟩
    · have ho' : vS lo = false := by simpa using ho
      go_enter Try.func44, Try.ntmps44
      go_wp2_with fail
      refine (validSeries_any A n c lo _ HO.out h1 hrW).mono ?_
      rintro e w1 ⟨rfl, hb1⟩
      rw [ho']
      go_wp2
      go_ret
      exact ⟨ret_bool (vH_bad_o ho').symm, hbW.trans (hb1.mono hbW.size)⟩
  · have HW := Lib.hid hw0
    by_cases hw1 : hw < 0
    · clear hw0
      go_enter Try.func44, Try.ntmps44
      go_wp2
      go_ret
      exact ⟨ret_bool (vH_bad_w HW.out).symm, hbW⟩
    · have hw2 : 100 < hw := by omega
      clear hw0
      go_enter Try.func44, Try.ntmps44
      go_wp2
      go_ret
      exact ⟨ret_bool (vH_bad_w HW.out).symm, hbW⟩
end Go.Proofs.Ytiajcnldfdijoaa
