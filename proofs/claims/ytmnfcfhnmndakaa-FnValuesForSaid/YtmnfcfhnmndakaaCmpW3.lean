/-
  Walks: CompareLabels of the reference.
-/
import Derived.Test.YtmnfcfhnmndakaaCmpW2
namespace Go.Proofs.Ytmnfcfhnmndakaa
open Go.RowKit
set_option maxHeartbeats 4000000 in
theorem specCompare_any (A : Option Addr) (n c : Nat) (l : List Lb) (A' : Option Addr) (n' c' : Nat) (l' : List Lb) (w : World) (hn : l.length = n) (hn' : l'.length = n') (hm : n ≤ 1000000000000) (hm' : n' ≤ 1000000000000)
    (hr : RdL w w.heap.size A l) (hr' : RdL w w.heap.size A' l') :
    Calls Try.prog 93 #[.slice A n c, .slice A' n' c'] w fun e w' => e = .returned (.int .i64 (cmpLs l l')) ∧ Below w.heap.size w w' := by
  have HN := Lib.hid hn
  have HN' := Lib.hid hn'
  clear hn hn'
  go_enter Try.func93, Try.ntmps93
  go_wp2
  go_loopw [5] (fun i wr => ∃ k : Nat, k ≤ n ∧ k ≤ n' ∧ i = .int .i64 k ∧ cmpLs l l' = cmpLs (l.drop k) (l'.drop k) ∧ Below w.heap.size w wr) (fun i _ => n - (intOf i).toNat)
  case atStart => exact ⟨0, by omega, by omega, rfl, rfl, Below.refl _ _⟩
  case round =>
    obtain ⟨k, hk, hk', rfl, he, hb⟩ := hrel
    have HE := Lib.hid he
    clear he
    by_cases hlt : k < n
    · have hki : (k : Int) < (n : Int) := by omega
      by_cases hlt' : k < n'
      · have hki' : (k : Int) < (n' : Int) := by omega
        obtain ⟨b, off, rfl, hbb, hc⟩ := hr.at_ (by rw [HN.out]; omega)
        obtain ⟨hc0, hc1⟩ := hc k (by rw [HN.out]; exact hlt)
        obtain ⟨b', off', rfl, hbb', hc'⟩ := hr'.at_ (by rw [HN'.out]; omega)
        obtain ⟨hd0, hd1⟩ := hc' k (by rw [HN'.out]; exact hlt')
        rw [← hb.cell (by exact hbb)] at hc0 hc1
        rw [← hb.cell (by exact hbb')] at hd0 hd1
        have HS := Lib.hid (cmpLs_step (l := l) (l' := l') (k := k) (by rw [HN.out]; exact hlt) (by rw [HN'.out]; exact hlt'))
        have HB := Lib.hid hb
        clear hc hc' hr hr' hb
        rcases h1 : ltB (at0 l k).1 (at0 l' k).1 with _ | _
        · rcases h2 : ltB (at0 l' k).1 (at0 l k).1 with _ | _
          · rcases h3 : ltB (at0 l k).2 (at0 l' k).2 with _ | _
            · rcases h4 : ltB (at0 l' k).2 (at0 l k).2 with _ | _
              · have HX := Lib.hid (show cmpX (at0 l k) (at0 l' k) = 0 by rw [cmpX_3 h1 h2]; exact (cmpT_eq h3 h4).1)
                have w1 := ltB_walk h1
                have w2 := eqB_of_nn h1 h2
                have w3 := ltB_walk h3
                have w4 := eqB_of_nn h3 h4
                clear h1 h2 h3 h4
                go_wp2_with fail
                go_quiet (fail)
                go_wp2_with fail
                go_quiet (fail)
                go_wp2_with fail
                go_quiet (fail)
                go_wp2_with fail
                go_quiet (fail)
                go_wp2
                go_roundw
                case rel => exact ⟨k + 1, by omega, by omega, by go_num, by rw [HE.out, HS.out, HX.out]; rfl, kept_drewN HB.out _⟩
                case measure => simp [intOf]; omega
              · have HX := Lib.hid (show cmpX (at0 l k) (at0 l' k) = 1 by rw [cmpX_3 h1 h2]; exact cmpT_gt h4)
                have w1 := ltB_walk h1
                have w2 := eqB_of_nn h1 h2
                have w3 := ltB_walk h3
                have w4 := eqB_of_gt h4
                clear h1 h2 h3 h4
                go_wp2_with fail
                go_quiet (fail)
                go_wp2_with fail
                go_quiet (fail)
                go_wp2_with fail
                go_quiet (fail)
                go_wp2_with fail
                go_quiet (fail)
                go_wp2
                go_ret
                exact ⟨ret_int (by rw [HE.out, HS.out, HX.out]; rfl), by repeat' (first | exact HB.out | apply kept_drewN)⟩
            · have HX := Lib.hid (show cmpX (at0 l k) (at0 l' k) = -1 by rw [cmpX_3 h1 h2]; exact cmpT_lt h3)
              have w1 := ltB_walk h1
              have w2 := eqB_of_nn h1 h2
              have w3 := ltB_walk h3
              clear h1 h2 h3
              go_wp2_with fail
              go_quiet (fail)
              go_wp2_with fail
              go_quiet (fail)
              go_wp2_with fail
              go_quiet (fail)
              go_wp2
              go_ret
              exact ⟨ret_int (by rw [HE.out, HS.out, HX.out]; rfl), by repeat' (first | exact HB.out | apply kept_drewN)⟩
          · have HX := Lib.hid (cmpX_2 h2)
            have w1 := ltB_walk h1
            have w2 := eqB_of_gt h2
            clear h1 h2
            go_wp2_with fail
            go_quiet (fail)
            go_wp2_with fail
            go_quiet (fail)
            go_wp2
            go_ret
            exact ⟨ret_int (by rw [HE.out, HS.out, HX.out]; rfl), by repeat' (first | exact HB.out | apply kept_drewN)⟩
        · have HX := Lib.hid (cmpX_1 h1)
          have w1 := ltB_walk h1
          clear h1
          go_wp2_with fail
          go_quiet (fail)
          go_wp2
          go_ret
          exact ⟨ret_int (by rw [HE.out, HS.out, HX.out]; rfl), kept_drewN (HB.out) _⟩
      · have HS := Lib.hid (cmpLs_short (l := l) (l' := l') (k := k) (by rw [HN.out]; exact hlt) (by rw [HN'.out]; omega))
        have hd : decide ((n' : Int) < (n : Int)) = true := decide_eq_true (by omega)
        have hd2 : decide (n' < n) = true := decide_eq_true (by omega)
        have hd3 : decide ((n : Int) < (n' : Int)) = false := decide_eq_false (by omega)
        have hd4 : decide (n < n') = false := decide_eq_false (by omega)
        clear hr hr'
        go_wp2_with fail
        refine (toInt_any _ _).mono ?_
        rintro e w1 ⟨rfl, rfl⟩
        go_wp2_with fail
        refine (toInt_any _ _).mono ?_
        rintro e w1 ⟨rfl, rfl⟩
        go_wp2
        go_ret
        exact ⟨ret_int (by rw [HE.out, HS.out]), hb⟩
    · clear hr hr'
      have hkn : k = n := by omega
      by_cases hlt' : n < n'
      · have HS := Lib.hid (cmpLs_long (l := l) (l' := l') (k := k) (by rw [HN.out]; omega) (by rw [HN'.out]; omega))
        have hd : decide ((n' : Int) < (n : Int)) = false := decide_eq_false (by omega)
        have hd2 : decide (n' < n) = false := decide_eq_false (by omega)
        have hd3 : decide ((n : Int) < (n' : Int)) = true := decide_eq_true (by omega)
        have hd4 : decide (n < n') = true := decide_eq_true (by omega)
        clear hkn
        go_wp2_with fail
        refine (toInt_any _ _).mono ?_
        rintro e w1 ⟨rfl, rfl⟩
        go_wp2_with fail
        refine (toInt_any _ _).mono ?_
        rintro e w1 ⟨rfl, rfl⟩
        go_wp2
        go_ret
        exact ⟨ret_int (by rw [HE.out, HS.out]), hb⟩
      · have HS := Lib.hid (cmpLs_both (l := l) (l' := l') (k := k) (by rw [HN.out]; omega) (by rw [HN'.out]; omega))
        have hd : decide ((n' : Int) < (n : Int)) = false := decide_eq_false (by omega)
        have hd2 : decide (n' < n) = false := decide_eq_false (by omega)
        have hd3 : decide ((n : Int) < (n' : Int)) = false := decide_eq_false (by omega)
        have hd4 : decide (n < n') = false := decide_eq_false (by omega)
        clear hkn
        go_wp2_with fail
        refine (toInt_any _ _).mono ?_
        rintro e w1 ⟨rfl, rfl⟩
        go_wp2_with fail
        refine (toInt_any _ _).mono ?_
        rintro e w1 ⟨rfl, rfl⟩
        go_wp2
        go_ret
        exact ⟨ret_int (by rw [HE.out, HS.out]), hb⟩
end Go.Proofs.Ytmnfcfhnmndakaa
