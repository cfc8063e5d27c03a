/-
  Walks: spec.validSeries, spec.ValidSeries, the ranges.
-/
import Derived.Test.YtiajcnldfdijoaaPtW1
namespace Go.Proofs.Ytiajcnldfdijoaa
open Go.RowKit
set_option maxHeartbeats 1000000 in
theorem specValidSeries_any (A : Option Addr) (n c : Nat) (l : List (Int × Int)) (w : World) (hn : l.length = n) (hm : n ≤ 1000000000000) (hr : Rd2 w w.heap.size A l) :
    Calls Try.prog 52 #[.slice A n c] w fun e w' => e = .returned (.bool (vS l)) ∧ Below w.heap.size w w' := by
  have HN := Lib.hid hn
  clear hn
  go_enter Try.func52, Try.ntmps52
  go_wp2
  go_loopw [3] (fun i wr => ∃ k : Nat, k ≤ n ∧ i = .int .i64 k ∧ okPo l k ∧ Below w.heap.size w wr) (fun i _ => n - (intOf i).toNat)
  case atStart => exact ⟨0, by omega, rfl, okPo_zero l, Below.refl _ _⟩
  case round =>
    obtain ⟨k, hk, rfl, hok, hb⟩ := hrel
    by_cases hlt : k < n
    · obtain ⟨b, off, rfl, hbb, hc⟩ := hr.at_ (by rw [HN.out]; omega)
      obtain ⟨hc0, hc1⟩ := hc k (by rw [HN.out]; exact hlt)
      rw [← hb.cell (by exact hbb)] at hc0 hc1
      have hbw : b < wr.heap.size := Nat.lt_of_lt_of_le hbb hb.size
      have hln : k < l.length := by rw [HN.out]; exact hlt
      have hki : (k : Int) < (n : Int) := by omega
      have p0 := kin_cell hc0 hbw
      have p1 := kin_cell hc1 hbw
      have hX : 0 < k → wr.cell? ⟨b, off + (k - 1) * 2, none⟩ = some (.int .i64 (x1 l (k - 1))) := fun h => by rw [hb.cell (by exact hbb)]; exact (hc (k - 1) (by rw [HN.out]; omega)).1
      have HX2 := Lib.hid hX
      clear hc hr hX hc0 hc1
      by_cases hv : okPt (x1 l k) (x2 l k) = true
      · by_cases hk0 : k = 0
        · have hz' : decide (0 < k) = false := by simp [hk0]
          have hgood : okP l k := ⟨hv, fun h => absurd hk0 (by omega)⟩
          have H0 := Lib.hid hgood
          clear hk0 hgood
          go_wp2_with fail
          refine wp_region_kin (by kernel_rfl) (by kernel_rfl) ?_
          repeat (go_big_quiet_step ((go_at_call 71; exact kin_call (specValidPoint_any _ _ _))))
          refine wpQuiet_nil ?_
          intro _ hw'
          obtain ⟨⟨wq, hq⟩, hw''⟩ := hw'
          subst hw''
          have hb2 := kept_trans hb hq
          clear p0 p1
          go_wp2
          go_roundw
          case rel => exact ⟨k + 1, by omega, by go_num, okPo_succ hok H0.out, hb2⟩
          case measure => simp [intOf]; omega
        · have hz' : decide (0 < k) = true := by simp; omega
          have hk1 : (1 : Int) ≤ (k : Int) := by omega
          have hk2 : (k : Int) - 1 < (n : Int) := by omega
          have hs1 : IntKind.i64.wrap ((k : Int) - 1) = (k : Int) - 1 := IntWalk.i64_in _ (by omega)
          have hs3 : ((k : Int) - 1).toNat = k - 1 := by omega
          have p2 := kin_cell (HX2.out (by omega)) hbw
          by_cases hg : x1 l (k - 1) < x1 l k
          · have hgood : okP l k := ⟨hv, fun _ => hg⟩
            have H0 := Lib.hid hgood
            have b1 : decide (x1 l k ≤ x1 l (k - 1)) = false := by simp; exact hg
            clear hk0 hgood
            go_wp2_with fail
            refine wp_region_kin (by kernel_rfl) (by kernel_rfl) ?_
            repeat (go_big_quiet_step ((go_at_call 71; exact kin_call (specValidPoint_any _ _ _))))
            refine wpQuiet_nil ?_
            intro _ hw'
            obtain ⟨⟨wq, hq⟩, hw''⟩ := hw'
            subst hw''
            have hb2 := kept_trans hb hq
            clear p0 p1 p2
            go_wp2
            go_roundw
            case rel => exact ⟨k + 1, by omega, by go_num, okPo_succ hok H0.out, hb2⟩
            case measure => simp [intOf]; omega
          · have hbad : ¬ okP l k := fun h => hg (h.2 (by omega))
            have H0 := Lib.hid hbad
            have b1 : decide (x1 l k ≤ x1 l (k - 1)) = true := by simp; omega
            clear hk0 hbad
            go_wp2_with fail
            refine wp_region_kin (by kernel_rfl) (by kernel_rfl) ?_
            repeat (go_big_quiet_step ((go_at_call 71; exact kin_call (specValidPoint_any _ _ _))))
            refine wpQuiet_nil ?_
            intro _ hw'
            obtain ⟨⟨wq, hq⟩, hw''⟩ := hw'
            subst hw''
            have hb2 := kept_trans hb hq
            clear p0 p1 p2
            go_wp2
            go_ret
            exact ⟨ret_bool (vS_bad hln H0.out).symm, hb2⟩
      · have hv' : okPt (x1 l k) (x2 l k) = false := by simpa using hv
        have hbad : ¬ okP l k := fun h => hv h.1
        have H0 := Lib.hid hbad
        clear hv hbad
        go_wp2_with fail
        refine wp_region_kin (by kernel_rfl) (by kernel_rfl) ?_
        repeat (go_big_quiet_step ((go_at_call 71; exact kin_call (specValidPoint_any _ _ _))))
        refine wpQuiet_nil ?_
        intro _ hw'
        obtain ⟨⟨wq, hq⟩, hw''⟩ := hw'
        subst hw''
        have hb2 := kept_trans hb hq
        clear p0 p1
        go_wp2
        go_ret
        exact ⟨ret_bool (vS_bad hln H0.out).symm, hb2⟩
    · clear hr
      go_wp2
      go_ret
      refine ⟨ret_bool ?_, hb⟩
      have e : k = l.length := by rw [HN.out]; omega
      rw [e] at hok
      by_cases g : l.length ≤ 16
      · rw [vS_good g hok]; simp; rw [← HN.out]; omega
      · rw [vS_long (by omega)]; simp; rw [← HN.out]; omega

set_option maxHeartbeats 400000 in
theorem implInRange_any (n : Int) (w : World) : Calls Try.prog 55 #[.int .i64 n] w fun e w' => e = .returned (.bool (inR n (-2000) 2000)) ∧ w = w' := by
  go_enter Try.func55, Try.ntmps55
  go_wp2
  all_goals go_ret
  all_goals exact ⟨ret_bool (by rw [Bool.eq_iff_iff]; simp [inR]; try omega), rfl⟩

def okR (fr to : Int) : Bool := inR fr (-2000) 2000 && inR to (-2000) 2000
theorem okR_t {fr to : Int} (h : okR fr to = true) : -2000 ≤ fr ∧ fr ≤ 2000 ∧ -2000 ≤ to ∧ to ≤ 2000 := by
  unfold okR at h; simp only [Bool.and_eq_true] at h
  have := inR_t h.1; have := inR_t h.2; omega
set_option maxHeartbeats 400000 in
theorem specValidRange_any (fr to : Int) (w : World) : Calls Try.prog 53 #[.int .i64 fr, .int .i64 to] w fun e w' => e = .returned (.bool (okR fr to)) ∧ w = w' := by
  by_cases h : inR fr (-2000) 2000 = true
  · go_enter Try.func53, Try.ntmps53
    go_wp2_with fail
    refine (inRange_any _ _ _ _).mono ?_
    rintro e w1 ⟨rfl, rfl⟩
    rw [h]
    go_wp2_with fail
    refine (inRange_any _ _ _ _).mono ?_
    rintro e w1 ⟨rfl, rfl⟩
    go_wp2
    go_ret
    exact ⟨ret_bool (by unfold okR; rw [h]; rfl), rfl⟩
  · have h' : inR fr (-2000) 2000 = false := by simpa using h
    go_enter Try.func53, Try.ntmps53
    go_wp2_with fail
    refine (inRange_any _ _ _ _).mono ?_
    rintro e w1 ⟨rfl, rfl⟩
    rw [h']
    go_wp2
    go_ret
    exact ⟨ret_bool (by unfold okR; rw [h']; rfl), rfl⟩

def okS (l : List (Int × Int)) (fr to : Int) : Bool := vS l && okR fr to
set_option maxHeartbeats 1000000 in
theorem validRange_any (A : Option Addr) (n c : Nat) (l : List (Int × Int)) (fr to : Int) (w : World) (hn : l.length = n) (hm : n ≤ 1000000000000) (hr : Rd2 w w.heap.size A l) :
    Calls Try.prog 38 #[.slice A n c, .int .i64 fr, .int .i64 to] w fun e w' => e = .returned (.bool (okS l fr to)) ∧ Below w.heap.size w w' := by
  by_cases hv : vS l = true
  · by_cases h : inR fr (-2000) 2000 = true
    · go_enter Try.func38, Try.ntmps38
      go_wp2_with fail
      refine (validSeries_any A n c l _ hn hm hr).mono ?_
      rintro e w1 ⟨rfl, hb1⟩
      rw [hv]
      go_wp2_with fail
      refine (implInRange_any _ _).mono ?_
      rintro e w2 ⟨rfl, rfl⟩
      rw [h]
      go_wp2_with fail
      refine (implInRange_any _ _).mono ?_
      rintro e w2 ⟨rfl, rfl⟩
      go_wp2
      go_ret
      exact ⟨ret_bool (by unfold okS okR; rw [hv, h]; rfl), hb1⟩
    · have h' : inR fr (-2000) 2000 = false := by simpa using h
      go_enter Try.func38, Try.ntmps38
      go_wp2_with fail
      refine (validSeries_any A n c l _ hn hm hr).mono ?_
      rintro e w1 ⟨rfl, hb1⟩
      rw [hv]
      go_wp2_with fail
      refine (implInRange_any _ _).mono ?_
      rintro e w2 ⟨rfl, rfl⟩
      rw [h']
      go_wp2
      go_ret
      exact ⟨ret_bool (by unfold okS okR; rw [hv, h']; rfl), hb1⟩
  · have hv' : vS l = false := by simpa using hv
    go_enter Try.func38, Try.ntmps38
    go_wp2_with fail
    refine (validSeries_any A n c l _ hn hm hr).mono ?_
    rintro e w1 ⟨rfl, hb1⟩
    rw [hv']
    go_wp2
    go_ret
    exact ⟨ret_bool (by unfold okS; rw [hv']; rfl), hb1⟩

end Go.Proofs.Ytiajcnldfdijoaa
