/-
  Walk: validHead of the reference.
-/
import Derived.Test.YtiajcnldfdijoaaHeadW1
namespace Go.Proofs.Ytiajcnldfdijoaa
open Go.RowKit
theorem vH_end {hw hn : Int} {lo lc : List (Int × Int)} (h1 : 0 ≤ hw ∧ hw ≤ 100) (h2 : VS lo) (h3 : VS lc) (h4 : ∀ i, i < lo.length → x1 lo i ≤ hn ∧ hn - hw ≤ x1 lo i) (h5 : ∀ i, i < lc.length → x1 lc i < hn - hw) :
    vH hw hn lo lc = decide ((lo.length = 0 ∧ hn = -1) ∨ (0 < lo.length ∧ x1 lo (lo.length - 1) = hn)) := by
  by_cases h : (lo.length = 0 ∧ hn = -1) ∨ (0 < lo.length ∧ x1 lo (lo.length - 1) = hn)
  · rw [decide_eq_true h, vH_yes ⟨h1, h2, h3, h4, h5, h⟩]
  · rw [decide_eq_false h, vH_no fun k => h k.2.2.2.2.2]
theorem vH_bad_n {hw hn : Int} {lo lc : List (Int × Int)} (h : ¬ (-1 ≤ hn ∧ hn ≤ 1000)) : vH hw hn lo lc = false := vH_no fun k => h (okH_range k)
theorem inR_split {a lo hi : Int} : inR a lo hi = true ↔ lo ≤ a ∧ a ≤ hi := by unfold inR; simp
theorem end_iff {l : List (Int × Int)} {k : Nat} {hn : Int} (hk : l.length = k) (h : 0 < k) : ((l.length = 0 ∧ hn = -1) ∨ (0 < l.length ∧ x1 l (l.length - 1) = hn)) ↔ x1 l (k - 1) = hn := by
  rw [hk]
  refine ⟨fun h2 => ?_, fun h2 => .inr ⟨h, h2⟩⟩
  rcases h2 with h3 | h3
  · omega
  · exact h3.2
set_option maxHeartbeats 4000000 in
theorem specValidHead_any (hw hn : Int) (A : Option Addr) (n c : Nat) (B : Option Addr) (m e : Nat) (lo lc : List (Int × Int)) (w : World) (hlo : lo.length = n) (hlc : lc.length = m) (h1 : n ≤ 1000000000000) (h2 : m ≤ 1000000000000)
    (hr : Rd2 w w.heap.size A lo) (hr' : Rd2 w w.heap.size B lc) :
    Calls Try.prog 43 #[.agg #[.int .i64 hw, .int .i64 hn, .slice A n c, .slice B m e]] w fun e w' => e = .returned (.bool (vH hw hn lo lc)) ∧ Below w.heap.size w w' := by
  have HO := Lib.hid hlo
  have HC := Lib.hid hlc
  have hbW := kept_alloc (Below.refl w.heap.size w) (Obj.cells #[Value.int .i64 hw, .int .i64 hn, .slice A n c, .slice B m e] 45)
  have c0 : (w.alloc (Obj.cells #[Value.int .i64 hw, .int .i64 hn, .slice A n c, .slice B m e] 45)).cell? ⟨w.heap.size, 0, none⟩ = some (.int .i64 hw) := by simp
  have c1 : (w.alloc (Obj.cells #[Value.int .i64 hw, .int .i64 hn, .slice A n c, .slice B m e] 45)).cell? ⟨w.heap.size, 1, none⟩ = some (.int .i64 hn) := by simp
  have c2 : (w.alloc (Obj.cells #[Value.int .i64 hw, .int .i64 hn, .slice A n c, .slice B m e] 45)).cell? ⟨w.heap.size, 2, none⟩ = some (.slice A n c) := by simp
  have c3 : (w.alloc (Obj.cells #[Value.int .i64 hw, .int .i64 hn, .slice A n c, .slice B m e] 45)).cell? ⟨w.heap.size, 3, none⟩ = some (.slice B m e) := by simp
  have hl : w.heap.size < (w.alloc (Obj.cells #[Value.int .i64 hw, .int .i64 hn, .slice A n c, .slice B m e] 45)).heap.size := by simp
  have hrW := hr.next hbW
  have hrW' := hr'.next hbW
  clear hlo hlc hr hr'
  by_cases hw0 : inR hw 0 100 = true
  · by_cases hn0 : inR hn (-1) 1000 = true
    · have HW := Lib.hid (inR_split.1 hw0)
      have HNN := Lib.hid (inR_split.1 hn0)
      by_cases ho : vS lo = true
      · by_cases hcc : vS lc = true
        · have HV := Lib.hid (VS_of ho)
          have HVC := Lib.hid (VS_of hcc)
          go_enter Try.func43, Try.ntmps43
          go_wp2_with fail
          refine (inRange_any _ _ _ _).mono ?_
          rintro e w' ⟨rfl, rfl⟩
          rw [hw0]
          go_wp2_with fail
          refine (inRange_any _ _ _ _).mono ?_
          rintro e w' ⟨rfl, rfl⟩
          rw [hn0]
          go_wp2_with fail
          refine (specValidSeries_any A n c lo _ HO.out h1 hrW).mono ?_
          rintro e w2 ⟨rfl, hb1⟩
          rw [ho]
          rw [← hb1.cell (p := ⟨w.heap.size, 3, none⟩) hl] at c3
          have hr1' := hrW'.next hb1
          go_wp2_with fail
          refine (specValidSeries_any B m _ lc _ HC.out h2 hr1').mono ?_
          rintro e w3 ⟨rfl, hb2⟩
          rw [hcc]
          have hs2 := hb1.size
          have hs3 := hb2.size
          rw [← hb1.cell (p := ⟨w.heap.size, 0, none⟩) hl] at c0
          rw [← hb1.cell (p := ⟨w.heap.size, 1, none⟩) hl] at c1
          rw [← hb1.cell (p := ⟨w.heap.size, 2, none⟩) hl] at c2
          rw [← hb2.cell (p := ⟨w.heap.size, 0, none⟩) (by simp; omega)] at c0
          rw [← hb2.cell (p := ⟨w.heap.size, 1, none⟩) (by simp; omega)] at c1
          rw [← hb2.cell (p := ⟨w.heap.size, 2, none⟩) (by simp; omega)] at c2
          rw [← hb2.cell (p := ⟨w.heap.size, 3, none⟩) (by simp; omega)] at c3
          have hr3 := (hrW.next hb1).next hb2
          have hr3' := hr1'.next hb2
          have hbF := kept_trans (hbW.trans (hb1.mono hbW.size)) hb2
          have hg3 : w.heap.size < w3.heap.size := by omega
          clear hb1 hb2 hrW hrW' hr1' hbW hs2 hs3 hl ho hcc
          have hsub : IntKind.i64.wrap (hn - hw) = hn - hw := IntWalk.i64_in _ (by have := HW.out; have := HNN.out; omega)
          have hbG : Below w.heap.size w w3 := hbF
          have HF := Lib.hid hbF
          clear hbF hbG
          generalize hgs : w.heap.size = g at c0 c1 c2 c3 hg3
          have HG := Lib.hid hgs
          clear hgs
          go_wp2
          go_loopw [3] (fun i wr => ∃ k : Nat, k ≤ n ∧ i = .int .i64 k ∧ (∀ j, j < k → x1 lo j ≤ hn ∧ hn - hw ≤ x1 lo j) ∧ Below w3.heap.size w3 wr) (fun i _ => n - (intOf i).toNat)
          case atStart => exact ⟨0, by omega, rfl, fun j hj => absurd hj (by omega), Below.refl _ _⟩
          case round =>
            obtain ⟨k, hk, rfl, hall, hb⟩ := hrel
            have HA := Lib.hid hall
            clear hall
            rw [← hb.cell (p := ⟨g, 0, none⟩) hg3] at c0
            rw [← hb.cell (p := ⟨g, 1, none⟩) hg3] at c1
            rw [← hb.cell (p := ⟨g, 2, none⟩) hg3] at c2
            rw [← hb.cell (p := ⟨g, 3, none⟩) hg3] at c3
            have hr4 := hr3.next hb
            have hr4' := hr3'.next hb
            have hg4 : g < wr.heap.size := Nat.lt_of_lt_of_le hg3 hb.size
            have HB1 := Lib.hid hb
            clear hr3 hr3' hb
            by_cases hlt : k < n
            · clear hr4'
              obtain ⟨b, off, rfl, hbb, hc'⟩ := hr4.at_ (by rw [HO.out]; omega)
              have q0 := (hc' k (by rw [HO.out]; exact hlt)).1
              have hki : (k : Int) < (n : Int) := by omega
              clear hc' hr4
              by_cases ha : x1 lo k ≤ hn
              · have d1 : decide (hn < x1 lo k) = false := decide_eq_false (by omega)
                by_cases hb0 : hn - hw ≤ x1 lo k
                · have d2 : decide (x1 lo k < hn - hw) = false := decide_eq_false (by omega)
                  have HX := Lib.hid (And.intro ha hb0)
                  clear ha hb0
                  go_wp2_with fail
                  go_quiet (fail)
                  go_wp2
                  go_roundw
                  case rel =>
                    refine ⟨k + 1, by omega, by go_num, fun j hj => ?_, kept_drewN HB1.out _⟩
                    rcases Nat.lt_or_ge j k with h | h
                    · exact HA.out j h
                    · have : j = k := by omega
                      subst this; exact HX.out
                  case measure => simp [intOf]; omega
                · have d2 : decide (x1 lo k < hn - hw) = true := decide_eq_true (by omega)
                  have HX := Lib.hid (vH_no (hw := hw) (lc := lc) fun kk => hb0 (kk.2.2.2.1 k (by rw [HO.out]; exact hlt)).2)
                  clear ha hb0
                  go_wp2_with fail
                  go_quiet (fail)
                  go_wp2
                  go_ret
                  exact ⟨ret_bool HX.out.symm, kept_drewN (kept_trans HF.out HB1.out) _⟩
              · have d1 : decide (hn < x1 lo k) = true := decide_eq_true (by omega)
                have HX := Lib.hid (vH_no (hw := hw) (lc := lc) fun kk => ha (kk.2.2.2.1 k (by rw [HO.out]; exact hlt)).1)
                clear ha
                go_wp2_with fail
                go_quiet (fail)
                go_wp2
                go_ret
                exact ⟨ret_bool HX.out.symm, kept_drewN (kept_trans HF.out HB1.out) _⟩
            · have e : k = n := by omega
              subst e
              clear hlt hk
              go_wp2
              go_loopw [4] (fun i wr' => ∃ k2 : Nat, k2 ≤ m ∧ i = .int .i64 k2 ∧ (∀ j, j < k2 → x1 lc j < hn - hw) ∧ Below wr.heap.size wr wr') (fun i _ => m - (intOf i).toNat)
              case atStart => exact ⟨0, by omega, rfl, fun j hj => absurd hj (by omega), Below.refl _ _⟩
              case round =>
                obtain ⟨k2, hk2, rfl, hall2, hb2⟩ := hrel
                have HA2 := Lib.hid hall2
                clear hall2
                rw [← hb2.cell (p := ⟨g, 0, none⟩) hg4] at c0
                rw [← hb2.cell (p := ⟨g, 1, none⟩) hg4] at c1
                rw [← hb2.cell (p := ⟨g, 2, none⟩) hg4] at c2
                rw [← hb2.cell (p := ⟨g, 3, none⟩) hg4] at c3
                have hr5 := hr4.next hb2
                have hr5' := hr4'.next hb2
                have HB2 := Lib.hid hb2
                clear hr4 hr4' hb2
                by_cases hlt : k2 < m
                · clear hr5
                  obtain ⟨b, off, rfl, hbb, hc'⟩ := hr5'.at_ (by rw [HC.out]; omega)
                  have q0 := (hc' k2 (by rw [HC.out]; exact hlt)).1
                  have hki : (k2 : Int) < (m : Int) := by omega
                  clear hc' hr5'
                  by_cases ha : x1 lc k2 < hn - hw
                  · have d1 : decide (hn - hw ≤ x1 lc k2) = false := decide_eq_false (by omega)
                    have HX := Lib.hid ha
                    clear ha
                    go_wp2_with fail
                    go_quiet (fail)
                    go_wp2
                    go_roundw
                    case rel =>
                      refine ⟨k2 + 1, by omega, by go_num, fun j hj => ?_, kept_drewN HB2.out _⟩
                      rcases Nat.lt_or_ge j k2 with h | h
                      · exact HA2.out j h
                      · have : j = k2 := by omega
                        subst this; exact HX.out
                    case measure => simp [intOf]; omega
                  · have d1 : decide (hn - hw ≤ x1 lc k2) = true := decide_eq_true (by omega)
                    have HX := Lib.hid (vH_no (hw := hw) (lo := lo) fun kk => ha (kk.2.2.2.2.1 k2 (by rw [HC.out]; exact hlt)))
                    clear ha
                    go_wp2_with fail
                    go_quiet (fail)
                    go_wp2
                    go_ret
                    exact ⟨ret_bool HX.out.symm, kept_drewN (kept_trans (kept_trans HF.out HB1.out) HB2.out) _⟩
                · have e : k2 = m := by omega
                  subst e
                  clear hlt hk2 hr5'
                  have HE := Lib.hid (vH_end HW.out HV.out HVC.out (by rw [HO.out]; exact HA.out) (by rw [HC.out]; exact HA2.out))
                  by_cases hn00 : k = 0
                  · have hz1 : ((k : Int) == 0) = true := by simp [hn00]
                    have hz2 : decide ((0 : Int) < (k : Int)) = false := decide_eq_false (by omega)
                    have hz3 : decide (0 < k) = false := decide_eq_false (by omega)
                    by_cases ha : hn = -1
                    · have hax : (hn == -1) = true := by simp [ha]
                      have HX := Lib.hid (show True = ((lo.length = 0 ∧ hn = -1) ∨ (0 < lo.length ∧ x1 lo (lo.length - 1) = hn)) from (eq_true (.inl ⟨by rw [HO.out]; exact hn00, ha⟩)).symm)
                      clear ha hn00 hr5
                      go_wp2_with fail
                      go_quiet (fail)
                      go_wp2
                      go_ret
                      exact ⟨ret_bool (by rw [HE.out]; exact (decide_eq_true (by rw [← HX.out]; trivial)).symm), kept_drewN (kept_trans (kept_trans HF.out HB1.out) HB2.out) _⟩
                    · have hax : (hn == -1) = false := by simp [ha]
                      have HX := Lib.hid (show ¬ ((lo.length = 0 ∧ hn = -1) ∨ (0 < lo.length ∧ x1 lo (lo.length - 1) = hn)) from fun h => by rw [HO.out] at h; rcases h with h | h <;> omega)
                      clear ha hn00 hr5
                      go_wp2_with fail
                      go_quiet (fail)
                      go_wp2
                      go_ret
                      exact ⟨ret_bool (by rw [HE.out]; exact (decide_eq_false HX.out).symm), kept_drewN (kept_trans (kept_trans HF.out HB1.out) HB2.out) _⟩
                  · have hz1 : ((k : Int) == 0) = false := by simp [hn00]
                    have hz2 : decide ((0 : Int) < (k : Int)) = true := decide_eq_true (by omega)
                    have hz3 : decide (0 < k) = true := decide_eq_true (by omega)
                    obtain ⟨b, off, rfl, hbb, hc'⟩ := hr5.at_ (by rw [HO.out]; omega)
                    have q1 := (hc' (k - 1) (by rw [HO.out]; omega)).1
                    have hs1 : IntKind.i64.wrap ((k : Int) - 1) = (k : Int) - 1 := IntWalk.i64_in _ (by omega)
                    have hs3 : ((k : Int) - 1).toNat = k - 1 := by omega
                    have hk1 : (1 : Int) ≤ (k : Int) := by omega
                    have hk2 : (k : Int) - 1 < (k : Int) := by omega
                    have HX := Lib.hid (end_iff (l := lo) (hn := hn) HO.out (by omega))
                    clear hn00 hr5 hc'
                    go_wp2_with fail
                    go_quiet (fail)
                    go_wp2
                    go_ret
                    refine ⟨ret_bool ?_, kept_drewN (kept_trans (kept_trans HF.out HB1.out) HB2.out) _⟩
                    rw [HE.out]
                    by_cases hq : x1 lo (k - 1) = hn
                    · rw [decide_eq_true (HX.out.2 hq)]; simp [hq]
                    · rw [decide_eq_false (fun h => hq (HX.out.1 h))]; simp [hq]
        · have hc' : vS lc = false := by simpa using hcc
          go_enter Try.func43, Try.ntmps43
          go_wp2_with fail
          refine (inRange_any _ _ _ _).mono ?_
          rintro e w' ⟨rfl, rfl⟩
          rw [hw0]
          go_wp2_with fail
          refine (inRange_any _ _ _ _).mono ?_
          rintro e w' ⟨rfl, rfl⟩
          rw [hn0]
          go_wp2_with fail
          refine (specValidSeries_any A n c lo _ HO.out h1 hrW).mono ?_
          rintro e w1 ⟨rfl, hb1⟩
          rw [ho]
          rw [← hb1.cell (p := ⟨w.heap.size, 3, none⟩) hl] at c3
          have hr1' := hrW'.next hb1
          go_wp2_with fail
          refine (specValidSeries_any B m _ lc _ HC.out h2 hr1').mono ?_
          rintro e w2 ⟨rfl, hb2⟩
          rw [hc']
          go_wp2
          go_ret
          exact ⟨ret_bool (vH_bad_c hc').symm, kept_trans (hbW.trans (hb1.mono hbW.size)) hb2⟩
      · have ho' : vS lo = false := by simpa using ho
        go_enter Try.func43, Try.ntmps43
        go_wp2_with fail
        refine (inRange_any _ _ _ _).mono ?_
        rintro e w' ⟨rfl, rfl⟩
        rw [hw0]
        go_wp2_with fail
        refine (inRange_any _ _ _ _).mono ?_
        rintro e w' ⟨rfl, rfl⟩
        rw [hn0]
        go_wp2_with fail
        refine (specValidSeries_any A n c lo _ HO.out h1 hrW).mono ?_
        rintro e w1 ⟨rfl, hb1⟩
        rw [ho']
        go_wp2
        go_ret
        exact ⟨ret_bool (vH_bad_o ho').symm, hbW.trans (hb1.mono hbW.size)⟩
    · have hn0' : inR hn (-1) 1000 = false := by simpa using hn0
      go_enter Try.func43, Try.ntmps43
      go_wp2_with fail
      refine (inRange_any _ _ _ _).mono ?_
      rintro e w' ⟨rfl, rfl⟩
      rw [hw0]
      go_wp2_with fail
      refine (inRange_any _ _ _ _).mono ?_
      rintro e w' ⟨rfl, rfl⟩
      rw [hn0']
      go_wp2
      go_ret
      exact ⟨ret_bool (vH_bad_n fun h => hn0 (inR_split.2 h)).symm, hbW⟩
  · have hw0' : inR hw 0 100 = false := by simpa using hw0
    go_enter Try.func43, Try.ntmps43
    go_wp2_with fail
    refine (inRange_any _ _ _ _).mono ?_
    rintro e w' ⟨rfl, rfl⟩
    rw [hw0']
    go_wp2
    go_ret
    exact ⟨ret_bool (vH_bad_w fun h => hw0 (inR_split.2 h)).symm, hbW⟩
end Go.Proofs.Ytiajcnldfdijoaa
