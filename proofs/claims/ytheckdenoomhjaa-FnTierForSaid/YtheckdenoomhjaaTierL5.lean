/-
  Walks of FnOldestKept, FnOldestKeptLater, FnOldestKeptNow.
-/
import Derived.Test.YtheckdenoomhjaaTierGen2
import Derived.Test.YtheckdenoomhjaaTierFn4
import Derived.Test.YtheckdenoomhjaaTierW4
import Derived.Test.YtheckdenoomhjaaEqInts
namespace Go.Proofs.Ytheckdenoomhjaa
open Go.RowKit
theorem oldL_pos {l : List (Int × Int)} {now : Int} (h : (oldL l now).length ≠ 0) : okArgs l now = true := by
  by_cases h1 : okArgs l now = true
  · exact h1
  · rw [oldL_no (by simpa using h1)] at h; exact absurd rfl h

set_option maxHeartbeats 1000000 in
theorem fnOldestKeptNow_any (A : Option Addr) (n c : Nat) (w : World) (hm : n ≤ 9223372036854775807) (hc : n ≤ c) (hr : RdB w w.heap.size A n) :
    Calls Try.prog 9 #[.slice A n c] w fun e w' => e = .returned (.bool true) ∧ Below w.heap.size w w' := by
  by_cases hbig : (1048576 : Int) < n
  · go_enter Try.func9, Try.ntmps9
    go_wp2
    go_ret
    exact ⟨rfl, Below.refl _ _⟩
  · go_enter Try.func9, Try.ntmps9
    go_wp2_with fail
    refine (drawOldestKept_any A n c _ hm hc hr).mono ?_
    rintro e w1 ⟨A2, c2, m, l, x, rfl, hl, hm2, hc2, x0, x1', hrd, hb1⟩
    have HL := Lib.hid hl
    clear hl hr
    go_wp2_with fail
    refine (oldestKept_any A2 m c2 l x _ HL.out (by omega) hrd).mono ?_
    rintro e w2 ⟨A3, c3, rfl, hown, hb2⟩
    have hb3 := kept_trans hb1 hb2
    have hrd3 := hrd.next hb2
    have hi3 := own_rd1 hown rfl
    clear hb1 hb2 hrd hown
    obtain ⟨k, hk⟩ : ∃ k, (oldL l x).length = k := ⟨_, rfl⟩
    have HK := Lib.hid hk
    rw [hk]
    clear hk
    go_wp2_with fail
    refine (specOldestKept_any A2 m c2 l x _ HL.out (by omega) hrd3).mono ?_
    rintro e w4 ⟨A5, c5, rfl, hown5, hb4⟩
    have hb5 := kept_trans hb3 hb4
    have hrd5 := hrd3.next hb4
    have hi5 := hi3.next hb4
    have hj5 := own_rd1 hown5 rfl
    clear hb3 hb4 hrd3 hown5 hi3
    rw [HK.out]
    have hk100 : k ≤ 100 := by
      rw [← HK.out]
      by_cases ho : okArgs l x = true
      · rw [oldL_ok ho, oldTo_len, HL.out]; exact hm2
      · rw [oldL_no (by simpa using ho)]; simp
    go_wp2_with fail
    refine (equalInts_any A3 k c3 (oldL l x) A5 k c5 (oldL l x) _ HK.out HK.out (by omega) hi5 hj5).mono ?_
    rintro e w6 ⟨rfl, hb6⟩
    rw [eqI_refl]
    have hb7 := kept_trans hb5 hb6
    have hrd7 := hrd5.next hb6
    have hi7 := hi5.next hb6
    clear hb5 hb6 hrd5 hi5 hj5
    by_cases hk0 : k = 0
    · have hkz : ((k : Int) == 0) = true := by simp [hk0]
      clear hk0
      go_wp2_with fail
      refine (specOldestKept_any A2 m c2 l x _ HL.out (by omega) hrd7).mono ?_
      rintro e w8 ⟨A9, c9, rfl, hown9, hb8⟩
      have hb9 := kept_trans hb7 hb8
      have hi9 := hi7.next hb8
      have hj9 := own_rd1 hown9 rfl
      clear hb7 hb8 hown9 hi7 hrd7
      rw [HK.out]
      go_wp2_with fail
      refine (equalInts_any A3 k c3 (oldL l x) A9 k c9 (oldL l x) _ HK.out HK.out (by omega) hi9 hj9).mono ?_
      rintro e w10 ⟨rfl, hb10⟩
      rw [eqI_refl]
      go_wp2
      go_ret
      exact ⟨rfl, kept_trans hb9 hb10⟩
    · have hkz : ((k : Int) == 0) = false := by simp [hk0]
      have hok := oldL_pos (l := l) (now := x) (by rw [HK.out]; exact hk0)
      have hvt : vT l = true := by unfold okArgs at hok; simp only [Bool.and_eq_true] at hok; exact hok.1
      have HV := Lib.hid (VT_of hvt)
      have ho0 : okArgs l 0 = true := by unfold okArgs; rw [hvt]; rfl
      have HO := Lib.hid ho0
      clear hk0 hok hvt ho0 hi7
      go_wp2_with fail
      refine (oldestKept_any A2 m c2 l 0 _ HL.out (by omega) hrd7).mono ?_
      rintro e w8 ⟨A9, c9, rfl, hown9, hb8⟩
      have hb9 := kept_trans hb7 hb8
      have hj9 := own_rd1 hown9 rfl
      clear hb7 hb8 hown9 hrd7
      rw [oldL_ok HO.out, HL.out] at hj9
      rw [oldL_ok HO.out, oldTo_len, HL.out]
      go_wp2
      go_loop [7] (fun i => ∃ j : Nat, j ≤ m ∧ i = .int .i64 j) (fun i => m - (intOf i).toNat)
      case atStart => exact ⟨0, by omega, rfl⟩
      case round =>
        obtain ⟨j, hj, rfl⟩ := hrel
        by_cases hlt : j < m
        · obtain ⟨b, off, rfl, hbb, hcell⟩ := hj9.at_ (by rw [oldTo_len]; omega)
          have hc0 := hcell j (by rw [oldTo_len]; exact hlt)
          obtain ⟨o1, o2, o3, o4⟩ := VT_pos HV.out (i := j) (by rw [HL.out]; exact hlt)
          rw [xi_oldTo _ _ hlt, oldE_zero o1 (by omega)] at hc0
          clear hcell hj9
          go_wp2
          go_round
          case rel => exact ⟨j + 1, by omega, by go_num⟩
          case measure => simp [intOf]; omega
        · clear hj9
          go_wp2
          go_ret
          exact ⟨ret_bool (by simp), hb9⟩
end Go.Proofs.Ytheckdenoomhjaa
