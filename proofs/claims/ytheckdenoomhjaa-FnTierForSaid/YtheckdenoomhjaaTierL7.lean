/-
  The walk of FnTierFor.
-/
import Derived.Test.YtheckdenoomhjaaTierGen2
import Derived.Test.YtheckdenoomhjaaTierFn4
import Derived.Test.YtheckdenoomhjaaTierW5
import Derived.Test.YtheckdenoomhjaaTierL5
namespace Go.Proofs.Ytheckdenoomhjaa
open Go.RowKit
theorem tierF_bd (l : List (Int × Int)) (now fr : Int) : -1 ≤ tierF l now fr ∧ tierF l now fr < l.length + 1 := by
  unfold tierF
  by_cases h1 : (okArgs l now && inR fr 0 1000) = true
  · rw [if_pos h1]
    rcases findT_cases l now fr with ⟨e, _⟩ | ⟨k, e, hk, _, _⟩ <;> omega
  · rw [if_neg h1]; omega
set_option maxHeartbeats 400000 in
theorem fnTierFor_any (A : Option Addr) (n c : Nat) (w : World) (hm : n ≤ 9223372036854775807) (hc : n ≤ c) (hr : RdB w w.heap.size A n) :
    Calls Try.prog 10 #[.slice A n c] w fun e w' => e = .returned (.bool true) ∧ Below w.heap.size w w' := by
  by_cases hbig : (1048576 : Int) < n
  · go_enter Try.func10, Try.ntmps10
    go_wp2
    go_ret
    exact ⟨rfl, Below.refl _ _⟩
  · go_enter Try.func10, Try.ntmps10
    go_wp2_with fail
    refine (drawTierFor_any A n c _ hm hc hr).mono ?_
    rintro e w1 ⟨A2, c2, m, l, x, y, rfl, hl, hm2, hc2, x0, x1', y0, y1', hrd, hb1⟩
    have HL := Lib.hid hl
    have hm12 : m ≤ 1000000000000 := by omega
    clear hl hr
    go_wp2_with fail
    refine (tierFor_any A2 m c2 l x y _ HL.out hm12 hrd).mono ?_
    rintro e w2 ⟨rfl, hb2⟩
    have hb3 := kept_trans hb1 hb2
    have hrd3 := hrd.next hb2
    clear hb1 hb2 hrd
    go_wp2_with fail
    refine (oldestKept_any A2 m c2 l x _ HL.out hm12 hrd3).mono ?_
    rintro e w4 ⟨A5, c5, rfl, hown5, hb4⟩
    have hb5 := kept_trans hb3 hb4
    have hrd5 := hrd3.next hb4
    have hj5 := own_rd1 hown5 rfl
    clear hb3 hb4 hrd3 hown5
    obtain ⟨k, hk⟩ : ∃ k, (oldL l x).length = k := ⟨_, rfl⟩
    rw [hk]
    have HK := Lib.hid hk
    clear hk
    go_wp2_with fail
    refine (specTierFor_any A2 m c2 l x y _ HL.out hm12 hrd5).mono ?_
    rintro e w6 ⟨rfl, hb6⟩
    have hb7 := kept_trans hb5 hb6
    have hrd7 := hrd5.next hb6
    have hj7 := hj5.next hb6
    clear hb5 hb6 hrd5 hj5
    have hself : (tierF l x y != tierF l x y) = false := by simp
    by_cases hk0 : k = 0
    · have hkz : ((k : Int) == 0) = true := by simp [hk0]
      clear hk0
      go_wp2_with fail
      refine (specTierFor_any A2 m c2 l x y _ HL.out hm12 hrd7).mono ?_
      rintro e w8 ⟨rfl, hb8⟩
      go_wp2
      go_ret
      exact ⟨ret_bool (by simp), kept_trans hb7 hb8⟩
    · have hkz : ((k : Int) == 0) = false := by simp [hk0]
      have hok := oldL_pos (l := l) (now := x) (by rw [HK.out]; exact hk0)
      have hkm : k = m := by rw [← HK.out, oldL_ok hok, oldTo_len, HL.out]
      rw [oldL_ok hok, HL.out] at hj7
      have HM := Lib.hid hkm
      have HO := Lib.hid hok
      have hk100 : k ≤ 100 := by omega
      clear hkm hok hk0
      by_cases hy0 : y < 0
      · go_wp2_with fail
        refine (specTierFor_any A2 m c2 l x y _ HL.out hm12 hrd7).mono ?_
        rintro e w8 ⟨rfl, hb8⟩
        go_wp2
        go_ret
        exact ⟨ret_bool (by simp), kept_trans hb7 hb8⟩
      · by_cases hy1 : 1000 < y
        · go_wp2_with fail
          refine (specTierFor_any A2 m c2 l x y _ HL.out hm12 hrd7).mono ?_
          rintro e w8 ⟨rfl, hb8⟩
          go_wp2
          go_ret
          exact ⟨ret_bool (by simp), kept_trans hb7 hb8⟩
        · have hE : tierF l x y = findT l x y := by unfold tierF; rw [HO.out, show inR y 0 1000 = true by simp [inR]; omega]; rfl
          clear hrd7
          rcases findT_cases l x y with ⟨e1, hn⟩ | ⟨q, e1, hq, hn, ho⟩
          · rw [e1] at hE
            rw [hE]
            have HS := Lib.hid hn
            clear hE hself e1 hn
            go_wp2
            go_loop [8] (fun i => ∃ j : Nat, j ≤ k ∧ i = .int .i64 j) (fun i => k - (intOf i).toNat)
            case atStart => exact ⟨0, by omega, rfl⟩
            case round =>
              obtain ⟨j, hj, rfl⟩ := hrel
              by_cases hlt : j < k
              · obtain ⟨b, off, rfl, hbb, hcell⟩ := hj7.at_ (by rw [oldTo_len, ← HM.out]; omega)
                have hc0 := hcell j (by rw [oldTo_len, ← HM.out]; exact hlt)
                rw [xi_oldTo _ _ (by rw [← HM.out]; exact hlt)] at hc0
                have hgt := HS.out j (by rw [HL.out, ← HM.out]; exact hlt)
                clear hcell hj7
                go_wp2
                go_round
                case rel => exact ⟨j + 1, by omega, by go_num⟩
                case measure => simp [intOf]; omega
              · clear hj7
                go_wp2
                go_ret
                exact ⟨rfl, hb7⟩
          · rw [e1] at hE
            rw [hE]
            have HS := Lib.hid hn
            have hqk : q < k := by rw [HM.out, ← HL.out]; exact hq
            clear hE hself e1 hn
            go_wp2
            go_loop [8] (fun i => ∃ j : Nat, j ≤ k ∧ i = .int .i64 j) (fun i => k - (intOf i).toNat)
            case atStart => exact ⟨0, by omega, rfl⟩
            case round =>
              obtain ⟨j, hj, rfl⟩ := hrel
              obtain ⟨b, off, rfl, hbb, hcell⟩ := hj7.at_ (by rw [oldTo_len, ← HM.out]; omega)
              by_cases hlt : j < k
              · by_cases hjq : j < q
                · have hc0 := hcell j (by rw [oldTo_len, ← HM.out]; exact hlt)
                  rw [xi_oldTo _ _ (by rw [← HM.out]; exact hlt)] at hc0
                  have hgt := HS.out j hjq
                  clear hcell hj7
                  go_wp2
                  go_round
                  case rel => exact ⟨j + 1, by omega, by go_num⟩
                  case measure => simp [intOf]; omega
                · clear hcell hj7
                  go_wp2
                  go_round
                  case rel => exact ⟨j + 1, by omega, by go_num⟩
                  case measure => simp [intOf]; omega
              · have hc0 := hcell q (by rw [oldTo_len, ← HM.out]; exact hqk)
                rw [xi_oldTo _ _ (by rw [← HM.out]; exact hqk)] at hc0
                clear hcell hj7
                go_wp2
                go_ret
                exact ⟨rfl, hb7⟩
end Go.Proofs.Ytheckdenoomhjaa
