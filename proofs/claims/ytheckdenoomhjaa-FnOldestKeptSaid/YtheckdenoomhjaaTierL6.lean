/-
  Walks of FnOldestKept, FnOldestKeptLater.
-/
import Derived.Test.YtheckdenoomhjaaTierGen2
import Derived.Test.YtheckdenoomhjaaTierFn4
import Derived.Test.YtheckdenoomhjaaTierW4
import Derived.Test.YtheckdenoomhjaaTierL5
namespace Go.Proofs.Ytheckdenoomhjaa
open Go.RowKit
set_option maxHeartbeats 1000000 in
theorem fnOldestKeptLater_any (A : Option Addr) (n c : Nat) (w : World) (hm : n ≤ 9223372036854775807) (hc : n ≤ c) (hr : RdB w w.heap.size A n) :
    Calls Try.prog 8 #[.slice A n c] w fun e w' => e = .returned (.bool true) ∧ Below w.heap.size w w' := by
  by_cases hbig : (1048576 : Int) < n
  · go_enter Try.func8, Try.ntmps8
    go_wp2
    go_ret
    exact ⟨rfl, Below.refl _ _⟩
  · go_enter Try.func8, Try.ntmps8
    go_wp2_with fail
    refine (drawOldestKept_any A n c _ hm hc hr).mono ?_
    rintro e w1 ⟨A2, c2, m, l, x, rfl, hl, hm2, hc2, x0, x1', hrd, hb1⟩
    have HL := Lib.hid hl
    clear hl hr
    go_wp2_with fail
    refine (oldestKept_any A2 m c2 l x _ HL.out (by omega) hrd).mono ?_
    rintro e w2 ⟨A3, c3, rfl, hown, hb2⟩
    have hb3 := kept_trans hb1 hb2
    have hrd3 := hrd.next hb2
    have hi3 := own_rd1 hown rfl
    clear hb1 hb2 hrd hown
    obtain ⟨k, hk⟩ : ∃ k, (oldL l x).length = k := ⟨_, rfl⟩
    have HK := Lib.hid hk
    rw [hk]
    clear hk
    go_wp2_with fail
    refine (specOldestKept_any A2 m c2 l x _ HL.out (by omega) hrd3).mono ?_
    rintro e w4 ⟨A5, c5, rfl, hown5, hb4⟩
    have hb5 := kept_trans hb3 hb4
    have hrd5 := hrd3.next hb4
    have hi5 := hi3.next hb4
    have hj5 := own_rd1 hown5 rfl
    clear hb3 hb4 hrd3 hown5 hi3
    rw [HK.out]
    have hk100 : k ≤ 100 := by
      rw [← HK.out]
      by_cases ho : okArgs l x = true
      · rw [oldL_ok ho, oldTo_len, HL.out]; exact hm2
      · rw [oldL_no (by simpa using ho)]; simp
    go_wp2_with fail
    refine (equalInts_any A3 k c3 (oldL l x) A5 k c5 (oldL l x) _ HK.out HK.out (by omega) hi5 hj5).mono ?_
    rintro e w6 ⟨rfl, hb6⟩
    rw [eqI_refl]
    have hb7 := kept_trans hb5 hb6
    have hrd7 := hrd5.next hb6
    have hi7 := hi5.next hb6
    clear hb5 hb6 hrd5 hi5 hj5
    by_cases hk0 : k = 0
    · have hkz : ((k : Int) == 0) = true := by simp [hk0]
      clear hk0
      go_wp2_with fail
      refine (specOldestKept_any A2 m c2 l x _ HL.out (by omega) hrd7).mono ?_
      rintro e w8 ⟨A9, c9, rfl, hown9, hb8⟩
      have hb9 := kept_trans hb7 hb8
      have hi9 := hi7.next hb8
      have hj9 := own_rd1 hown9 rfl
      clear hb7 hb8 hown9 hi7 hrd7
      rw [HK.out]
      go_wp2_with fail
      refine (equalInts_any A3 k c3 (oldL l x) A9 k c9 (oldL l x) _ HK.out HK.out (by omega) hi9 hj9).mono ?_
      rintro e w10 ⟨rfl, hb10⟩
      rw [eqI_refl]
      go_wp2
      go_ret
      exact ⟨rfl, kept_trans hb9 hb10⟩
    · have hkz : ((k : Int) == 0) = false := by simp [hk0]
      have hok := oldL_pos (l := l) (now := x) (by rw [HK.out]; exact hk0)
      have hok' := hok
      unfold okArgs at hok'
      simp only [Bool.and_eq_true] at hok'
      have HV := Lib.hid (VT_of hok'.1)
      have HT := Lib.hid hok'.1
      have hx2 : 0 ≤ x ∧ x ≤ 1000 := by simpa [inR] using hok'.2
      obtain ⟨t1, t2⟩ := hx2
      have hkm : k = m := by rw [← HK.out, oldL_ok hok, oldTo_len, HL.out]
      have HO := Lib.hid hok
      have HM := Lib.hid hkm
      clear hk0 hok hok' hkm
      by_cases hx : x = 1000
      · have hxz : (x == 1000) = true := by simp [hx]
        clear hx
        go_wp2_with fail
        refine (specOldestKept_any A2 m c2 l x _ HL.out (by omega) hrd7).mono ?_
        rintro e w8 ⟨A9, c9, rfl, hown9, hb8⟩
        have hb9 := kept_trans hb7 hb8
        have hi9 := hi7.next hb8
        have hj9 := own_rd1 hown9 rfl
        clear hb7 hb8 hown9 hi7 hrd7
        rw [HK.out]
        go_wp2_with fail
        refine (equalInts_any A3 k c3 (oldL l x) A9 k c9 (oldL l x) _ HK.out HK.out (by omega) hi9 hj9).mono ?_
        rintro e w10 ⟨rfl, hb10⟩
        rw [eqI_refl]
        go_wp2
        go_ret
        exact ⟨rfl, kept_trans hb9 hb10⟩
      · have hxz : (x == 1000) = false := by simp [hx]
        have ho1 : okArgs l (x + 1) = true := by unfold okArgs; rw [HT.out, show inR (x + 1) 0 1000 = true by simp [inR]; omega]; rfl
        have HO1 := Lib.hid ho1
        clear hx ho1
        go_wp2_with fail
        refine (oldestKept_any A2 m c2 l (x + 1) _ HL.out (by omega) hrd7).mono ?_
        rintro e w8 ⟨A9, c9, rfl, hown9, hb8⟩
        have hb9 := kept_trans hb7 hb8
        have hj9 := own_rd1 hown9 rfl
        have hi9 := hi7.next hb8
        clear hb7 hb8 hown9 hrd7 hi7
        rw [oldL_ok HO1.out, HL.out] at hj9
        rw [oldL_ok HO1.out, oldTo_len, HL.out]
        rw [oldL_ok HO.out, HL.out] at hi9
        have hkm : k ≤ m := by rw [HM.out]; exact Nat.le_refl _
        go_wp2
        go_loopw [7] (fun i wr => ∃ j : Nat, j ≤ k ∧ i = .int .i64 j ∧ Below w8.heap.size w8 wr) (fun i _ => k - (intOf i).toNat)
        case atStart => exact ⟨0, by omega, rfl, Below.refl _ _⟩
        case round =>
          obtain ⟨j, hj, rfl, hbr⟩ := hrel
          by_cases hlt : j < k
          · obtain ⟨b, off, rfl, hbb, hcell⟩ := hj9.at_ (by rw [oldTo_len]; omega)
            obtain ⟨b', off', rfl, hbb', hcell'⟩ := hi9.at_ (by rw [oldTo_len]; omega)
            have hc0 := hcell j (by rw [oldTo_len]; omega)
            have hd0 := hcell' j (by rw [oldTo_len]; omega)
            obtain ⟨o1, o2, o3, o4⟩ := VT_pos HV.out (i := j) (by rw [HL.out]; omega)
            have hmono := oldE_mono (l := l) (i := j) o1 (by omega : x ≤ x + 1)
            rw [xi_oldTo _ _ (by omega)] at hc0 hd0
            rw [← hbr.cell (by exact hbb)] at hc0
            rw [← hbr.cell (by exact hbb')] at hd0
            have g1 : decide ((m : Int) ≤ (j : Int)) = false := by simp; omega
            have g2 : decide (oldE l (x + 1) j < oldE l x j) = false := by simp; omega
            have g3 : (j : Int) < (m : Int) := by omega
            have g4 : (j : Int) < (k : Int) := by omega
            have g5 : decide (m ≤ j) = false := by simp; omega
            clear hcell hcell' hj9 hi9 hmono
            go_wp2_with fail
            go_quiet (fail)
            go_wp2
            go_roundw
            case rel => exact ⟨j + 1, by omega, by go_num, kept_drewN hbr _⟩
            case measure => simp [intOf]; omega
          · clear hj9 hi9
            go_wp2
            go_ret
            exact ⟨rfl, kept_trans hb9 hbr⟩

set_option maxHeartbeats 1000000 in
theorem fnOldestKept_any (A : Option Addr) (n c : Nat) (w : World) (hm : n ≤ 9223372036854775807) (hc : n ≤ c) (hr : RdB w w.heap.size A n) :
    Calls Try.prog 7 #[.slice A n c] w fun e w' => e = .returned (.bool true) ∧ Below w.heap.size w w' := by
  by_cases hbig : (1048576 : Int) < n
  · go_enter Try.func7, Try.ntmps7
    go_wp2
    go_ret
    exact ⟨rfl, Below.refl _ _⟩
  · go_enter Try.func7, Try.ntmps7
    go_wp2_with fail
    refine (drawOldestKept_any A n c _ hm hc hr).mono ?_
    rintro e w1 ⟨A2, c2, m, l, x, rfl, hl, hm2, hc2, x0, x1', hrd, hb1⟩
    have HL := Lib.hid hl
    clear hl hr
    go_wp2_with fail
    refine (oldestKept_any A2 m c2 l x _ HL.out (by omega) hrd).mono ?_
    rintro e w2 ⟨A3, c3, rfl, hown, hb2⟩
    have hb3 := kept_trans hb1 hb2
    have hrd3 := hrd.next hb2
    have hi3 := own_rd1 hown rfl
    clear hb1 hb2 hrd hown
    obtain ⟨k, hk⟩ : ∃ k, (oldL l x).length = k := ⟨_, rfl⟩
    have HK := Lib.hid hk
    rw [hk]
    clear hk
    go_wp2_with fail
    refine (specOldestKept_any A2 m c2 l x _ HL.out (by omega) hrd3).mono ?_
    rintro e w4 ⟨A5, c5, rfl, hown5, hb4⟩
    have hb5 := kept_trans hb3 hb4
    have hrd5 := hrd3.next hb4
    have hi5 := hi3.next hb4
    have hj5 := own_rd1 hown5 rfl
    clear hb3 hb4 hrd3 hown5 hi3
    rw [HK.out]
    have hk100 : k ≤ 100 := by
      rw [← HK.out]
      by_cases ho : okArgs l x = true
      · rw [oldL_ok ho, oldTo_len, HL.out]; exact hm2
      · rw [oldL_no (by simpa using ho)]; simp
    go_wp2_with fail
    refine (equalInts_any A3 k c3 (oldL l x) A5 k c5 (oldL l x) _ HK.out HK.out (by omega) hi5 hj5).mono ?_
    rintro e w6 ⟨rfl, hb6⟩
    rw [eqI_refl]
    have hb7 := kept_trans hb5 hb6
    have hrd7 := hrd5.next hb6
    have hi7 := hi5.next hb6
    clear hb5 hb6 hrd5 hi5 hj5
    by_cases hk0 : k = 0
    · have hkz : ((k : Int) == 0) = true := by simp [hk0]
      clear hk0
      go_wp2_with fail
      refine (specOldestKept_any A2 m c2 l x _ HL.out (by omega) hrd7).mono ?_
      rintro e w8 ⟨A9, c9, rfl, hown9, hb8⟩
      have hb9 := kept_trans hb7 hb8
      have hi9 := hi7.next hb8
      have hj9 := own_rd1 hown9 rfl
      clear hb7 hb8 hown9 hi7 hrd7
      rw [HK.out]
      go_wp2_with fail
      refine (equalInts_any A3 k c3 (oldL l x) A9 k c9 (oldL l x) _ HK.out HK.out (by omega) hi9 hj9).mono ?_
      rintro e w10 ⟨rfl, hb10⟩
      rw [eqI_refl]
      go_wp2
      go_ret
      exact ⟨rfl, kept_trans hb9 hb10⟩
    · have hkz : ((k : Int) == 0) = false := by simp [hk0]
      have hok := oldL_pos (l := l) (now := x) (by rw [HK.out]; exact hk0)
      have hok' := hok
      unfold okArgs at hok'
      simp only [Bool.and_eq_true] at hok'
      have HV := Lib.hid (VT_of hok'.1)
      have hx2 : 0 ≤ x ∧ x ≤ 1000 := by simpa [inR] using hok'.2
      obtain ⟨t1, t2⟩ := hx2
      have hkm : k = m := by rw [← HK.out, oldL_ok hok, oldTo_len, HL.out]
      rw [oldL_ok hok, HL.out] at hi7
      have HM := Lib.hid hkm
      have hkm' : k ≤ m := by omega
      clear hk0 hok hok' hkm
      go_wp2
      go_loopw [6] (fun i wr => ∃ j : Nat, j ≤ k ∧ i = .int .i64 j ∧ Below w6.heap.size w6 wr) (fun i _ => k - (intOf i).toNat)
      case atStart => exact ⟨0, by omega, rfl, Below.refl _ _⟩
      case round =>
        obtain ⟨j, hj, rfl, hbr⟩ := hrel
        by_cases hlt : j < k
        · obtain ⟨b, off, rfl, hbb, hcell⟩ := hi7.at_ (by rw [oldTo_len]; omega)
          obtain ⟨b', off', rfl, hbb', hcell'⟩ := hrd7.at_ (by rw [HL.out]; omega)
          have hc0 := hcell j (by rw [oldTo_len]; omega)
          obtain ⟨hd0, hd1⟩ := hcell' j (by rw [HL.out]; omega)
          obtain ⟨o1, o2, o3, o4⟩ := VT_pos HV.out (i := j) (by rw [HL.out]; omega)
          rw [xi_oldTo _ _ (by omega)] at hc0
          rw [← hbr.cell (by exact hbb)] at hc0
          rw [← hbr.cell (by exact hbb')] at hd0 hd1
          have e1 := oldE_mod l x j
          have e2 := oldE_ge (l := l) (now := x) (i := j) o1
          have e3 := oldE_lt (l := l) (now := x) (i := j) o1
          have e4 := oldI_nonneg (x1 l j) (x2 l j) x o1
          have e5 : 0 ≤ oldE l x j := e4
          have e6 := oldI_le (x1 l j) (x2 l j) x o1
          have e7 : oldE l x j ≤ 2000 := by unfold oldE; omega
          have s1 : IntKind.i64.wrap (oldE l x j - x1 l j) = oldE l x j - x1 l j := IntWalk.i64_in _ (by omega)
          have s2 : IntKind.i64.wrap ((oldE l x j).tmod (x1 l j)) = 0 := by
            rw [Int.tmod_eq_emod_of_nonneg e5, e1]; decide
          have s3 : ¬ x1 l j = 0 := by omega
          have g1 : decide ((m : Int) ≤ (j : Int)) = false := by simp; omega
          have g5 : decide (m ≤ j) = false := by simp; omega
          have g3 : (j : Int) < (m : Int) := by omega
          have g4 : (j : Int) < (k : Int) := by omega
          by_cases hf : x ≤ x2 l j
          · have g6 : decide (oldE l x j < 0) = false := by simp; omega
            have g7 : decide (0 ≤ oldE l x j - x1 l j) = false := by simp; omega
            have g8 : decide (x1 l j ≤ oldE l x j) = false := by simp; omega
            clear hcell hcell' hi7 hrd7 e2 e3 e4 e6
            go_wp2_with fail
            go_quiet (fail)
            go_wp2
            go_roundw
            case rel => exact ⟨j + 1, by omega, by go_num, kept_drewN hbr _⟩
            case measure => simp [intOf]; omega
          · have g6 : decide (oldE l x j < x - x2 l j) = false := by simp; omega
            have g7 : decide (x - x2 l j ≤ oldE l x j - x1 l j) = false := by simp; omega
            clear hcell hcell' hi7 hrd7 e2 e3 e4 e6
            go_wp2_with fail
            go_quiet (fail)
            go_wp2
            go_roundw
            case rel => exact ⟨j + 1, by omega, by go_num, kept_drewN hbr _⟩
            case measure => simp [intOf]; omega
        · clear hi7 hrd7
          go_wp2
          go_ret
          exact ⟨ret_bool (by rw [HM.out]; simp), kept_trans hb7 hbr⟩

end Go.Proofs.Ytheckdenoomhjaa
