/-
  Walks: spec.validTiers, spec.ValidTiers.
-/
import Derived.Test.YtheckdenoomhjaaTierW1
namespace Go.Proofs.Ytheckdenoomhjaa
open Go.RowKit
theorem inRange_q (n lo hi : Int) (w : World) : Calls Try.prog 35 #[.int .i64 n, .int .i64 lo, .int .i64 hi] w fun e w' => e = .returned (.bool (inR n lo hi)) ∧ w' = w :=
  (inRange_any n lo hi w).mono fun _ _ ⟨he, hw⟩ => ⟨he, hw.symm⟩

set_option maxHeartbeats 1000000 in
theorem specValidTiers_any (A : Option Addr) (n c : Nat) (l : List (Int × Int)) (w : World) (hn : l.length = n) (hm : n ≤ 1000000000000) (hr : Rd2 w w.heap.size A l) :
    Calls Try.prog 32 #[.slice A n c] w fun e w' => e = .returned (.bool (vT l)) ∧ Below w.heap.size w w' := by
  have HN := Lib.hid hn
  clear hn
  go_enter Try.func32, Try.ntmps32
  go_wp2
  go_loopw [3] (fun i wr => ∃ k : Nat, k ≤ n ∧ i = .int .i64 k ∧ okTo l k ∧ Below w.heap.size w wr) (fun i _ => n - (intOf i).toNat)
  case atStart => exact ⟨0, by omega, rfl, okTo_zero l, Below.refl _ _⟩
  case round =>
    obtain ⟨k, hk, rfl, hok, hb⟩ := hrel
    by_cases hlt : k < n
    · obtain ⟨b, off, rfl, hbb, hc⟩ := hr.at_ (by rw [HN.out]; omega)
      obtain ⟨hc0, hc1⟩ := hc k (by rw [HN.out]; exact hlt)
      rw [← hb.cell (by exact hbb)] at hc0 hc1
      have hln : k < l.length := by rw [HN.out]; exact hlt
      have hki : (k : Int) < (n : Int) := by omega
      by_cases hW : inR (x1 l k) 1 100 = true
      · have hW' : 1 ≤ x1 l k ∧ x1 l k ≤ 100 := by simpa [inR] using hW
        obtain ⟨w1, w2⟩ := hW'
        by_cases hK : inR (x2 l k) (x1 l k) 1000 = true
        · have hK' : x1 l k ≤ x2 l k ∧ x2 l k ≤ 1000 := by simpa [inR] using hK
          obtain ⟨k1, k2⟩ := hK'
          by_cases hk0 : k = 0
          · have hz' : decide (0 < k) = false := by simp [hk0]
            have hgood : okT l k := ⟨w1, w2, k1, k2, fun h => absurd hk0 (by omega)⟩
            have H0 := Lib.hid hgood
            clear hk0 hr hc hgood
            go_wp2_with fail
            go_quiet ((go_at_call 35; exact Calls.quiet_of_same (inRange_q _ _ _ _)))
            go_wp2_with fail
            go_quiet (fail)
            go_wp2
            go_roundw
            case rel => exact ⟨k + 1, by omega, by go_num, okTo_succ hok H0.out, by repeat (first | exact hb | refine kept_drewN ?_ _)⟩
            case measure => simp [intOf]; omega
          · have hz' : decide (0 < k) = true := by simp; omega
            have hzi : 0 < k := by omega
            obtain ⟨hd0, hd1⟩ := hc (k - 1) (by rw [HN.out]; omega)
            rw [← hb.cell (by exact hbb)] at hd0 hd1
            have hp := (hok (k - 1) (by omega)).1
            have hk2 : (k : Int) - 1 < (n : Int) := by omega
            have hk1 : (1 : Int) ≤ (k : Int) := by omega
            have hs1 : IntKind.i64.wrap ((k : Int) - 1) = (k : Int) - 1 := IntWalk.i64_in _ (by omega)
            have hs3 : ((k : Int) - 1).toNat = k - 1 := by omega
            have hne : ¬ x1 l (k - 1) = 0 := by omega
            have htm : IntKind.i64.wrap ((x1 l k).tmod (x1 l (k - 1))) = x1 l k % x1 l (k - 1) := by
              rw [Int.tmod_eq_emod_of_nonneg (by omega)]
              have e1 := Int.emod_nonneg (x1 l k) hne
              have e2 := Int.emod_lt_of_pos (x1 l k) (b := x1 l (k - 1)) (by omega)
              have hp2 := (hok (k - 1) (by omega)).2.1
              exact IntWalk.i64_in _ (by omega)
            clear hk0 hr hc
            by_cases g1 : x1 l (k - 1) < x1 l k
            · have b1 : decide (x1 l k ≤ x1 l (k - 1)) = false := by simp; exact g1
              by_cases g2 : x1 l k % x1 l (k - 1) = 0
              · by_cases g3 : x2 l (k - 1) < x2 l k
                · have b3 : decide (x2 l k ≤ x2 l (k - 1)) = false := by simp; exact g3
                  have hgood : okT l k := ⟨w1, w2, k1, k2, fun _ => ⟨g1, g2, g3⟩⟩
                  have H0 := Lib.hid hgood
                  clear hgood
                  go_wp2_with fail
                  go_quiet ((go_at_call 35; exact Calls.quiet_of_same (inRange_q _ _ _ _)))
                  go_wp2_with fail
                  go_quiet (fail)
                  go_wp2
                  go_roundw
                  case rel => exact ⟨k + 1, by omega, by go_num, okTo_succ hok H0.out, by repeat (first | exact hb | refine kept_drewN ?_ _)⟩
                  case measure => simp [intOf]; omega
                · have b3 : decide (x2 l k ≤ x2 l (k - 1)) = true := by simp; omega
                  have hbad : ¬ okT l k := fun h => g3 (h.2.2.2.2 hzi).2.2
                  have HB := Lib.hid hbad
                  clear hbad
                  go_wp2_with fail
                  go_quiet ((go_at_call 35; exact Calls.quiet_of_same (inRange_q _ _ _ _)))
                  go_wp2_with fail
                  go_quiet (fail)
                  go_wp2
                  go_ret
                  exact ⟨ret_bool (vT_bad hln HB.out).symm, by repeat (first | exact hb | refine kept_drewN ?_ _)⟩
              · have b2 : (x1 l k % x1 l (k - 1) != 0) = true := by simp; exact g2
                have b2' : (x1 l k % x1 l (k - 1) == 0) = false := by simp; exact g2
                have hbad : ¬ okT l k := fun h => g2 (h.2.2.2.2 hzi).2.1
                have HB := Lib.hid hbad
                clear hbad
                go_wp2_with fail
                go_quiet ((go_at_call 35; exact Calls.quiet_of_same (inRange_q _ _ _ _)))
                go_wp2_with fail
                go_quiet (fail)
                go_wp2
                go_ret
                exact ⟨ret_bool (vT_bad hln HB.out).symm, by repeat (first | exact hb | refine kept_drewN ?_ _)⟩
            · have b1 : decide (x1 l k ≤ x1 l (k - 1)) = true := by simp; omega
              have hbad : ¬ okT l k := fun h => g1 (h.2.2.2.2 hzi).1
              have HB := Lib.hid hbad
              clear hbad
              go_wp2_with fail
              go_quiet ((go_at_call 35; exact Calls.quiet_of_same (inRange_q _ _ _ _)))
              go_wp2_with fail
              go_quiet (fail)
              go_wp2
              go_ret
              exact ⟨ret_bool (vT_bad hln HB.out).symm, by repeat (first | exact hb | refine kept_drewN ?_ _)⟩
        · have hK' : inR (x2 l k) (x1 l k) 1000 = false := by simpa using hK
          have hbad : ¬ okT l k := by unfold okT; simp [inR] at hK'; omega
          have HB := Lib.hid hbad
          clear hK hbad hr hc
          go_wp2_with fail
          go_quiet ((go_at_call 35; exact Calls.quiet_of_same (inRange_q _ _ _ _)))
          go_wp2
          go_ret
          exact ⟨ret_bool (vT_bad hln HB.out).symm, kept_drewN hb _⟩
      · have hW' : inR (x1 l k) 1 100 = false := by simpa using hW
        have hbad : ¬ okT l k := by unfold okT; simp [inR] at hW'; omega
        have HB := Lib.hid hbad
        clear hW hbad hr hc
        go_wp2_with fail
        go_quiet ((go_at_call 35; exact Calls.quiet_of_same (inRange_q _ _ _ _)))
        go_wp2
        go_ret
        exact ⟨ret_bool (vT_bad hln HB.out).symm, kept_drewN hb _⟩
    · clear hr
      go_wp2_with (go_at_call 35; refine (inRange_any _ _ _ _).mono ?_; rintro e w' ⟨rfl, rfl⟩)
      go_ret
      refine ⟨ret_bool ?_, hb⟩
      have e : k = l.length := by rw [HN.out]; omega
      rw [e] at hok
      by_cases g : 1 ≤ l.length ∧ l.length ≤ 4
      · rw [vT_good g.1 g.2 hok]; simp [inR]; rw [← HN.out]; omega
      · rcases (by omega : l.length < 1 ∨ 4 < l.length) with h | h
        · rw [vT_short h]; simp [inR]; rw [← HN.out]; omega
        · rw [vT_long h]; simp [inR]; rw [← HN.out]; omega

set_option maxHeartbeats 400000 in
theorem specValidTiersE_any (A : Option Addr) (n c : Nat) (l : List (Int × Int)) (w : World) (hn : l.length = n) (hm : n ≤ 1000000000000) (hr : Rd2 w w.heap.size A l) :
    Calls Try.prog 16 #[.slice A n c] w fun e w' => e = .returned (.bool (vT l)) ∧ Below w.heap.size w w' := by
  have HN := Lib.hid hn
  clear hn
  go_enter Try.func16, Try.ntmps16
  go_wp2_with fail
  refine (specValidTiers_any A n c l _ HN.out hm hr).mono ?_
  rintro e w' ⟨rfl, hb⟩
  go_wp2
  go_ret
  exact ⟨rfl, hb⟩
end Go.Proofs.Ytheckdenoomhjaa
