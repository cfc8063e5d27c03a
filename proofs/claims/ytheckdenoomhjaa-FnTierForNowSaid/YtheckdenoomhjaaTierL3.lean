/-
  Walks of laws: FnValidTiers, FnTierForLater, FnTierForNow, FnTierCost.
-/
import Derived.Test.YtheckdenoomhjaaTierGen2
import Derived.Test.YtheckdenoomhjaaTierFn4
import Derived.Test.YtheckdenoomhjaaTierW5
import Derived.Test.YtheckdenoomhjaaTierW6
namespace Go.Proofs.Ytheckdenoomhjaa
open Go.RowKit
set_option maxHeartbeats 1000000 in
theorem fnValidTiers_any (A : Option Addr) (n c : Nat) (w : World) (hm : n ≤ 9223372036854775807) (hc : n ≤ c) (hr : RdB w w.heap.size A n) :
    Calls Try.prog 3 #[.slice A n c] w fun e w' => e = .returned (.bool true) ∧ Below w.heap.size w w' := by
  by_cases hbig : (1048576 : Int) < n
  · go_enter Try.func3, Try.ntmps3
    go_wp2
    go_ret
    exact ⟨rfl, Below.refl _ _⟩
  · go_enter Try.func3, Try.ntmps3
    go_wp2_with fail
    refine (drawValidTiers_any A n c _ hm hc hr).mono ?_
    rintro e w1 ⟨A2, c2, m, l, rfl, hl, hm2, hc2, hrd, hb1⟩
    have HL := Lib.hid hl
    clear hl hr
    go_wp2_with fail
    refine (validTiers_any A2 m c2 l _ HL.out (by omega) hrd).mono ?_
    rintro e w2 ⟨rfl, hb2⟩
    have hb3 := kept_trans hb1 hb2
    have hrd3 := hrd.next hb2
    clear hb1 hb2 hrd
    go_wp2_with fail
    refine (specValidTiersE_any A2 m c2 l _ HL.out (by omega) hrd3).mono ?_
    rintro e w4 ⟨rfl, hb4⟩
    have hb5 := kept_trans hb3 hb4
    have hrd5 := hrd3.next hb4
    clear hb3 hb4 hrd3
    by_cases hv : vT l = true
    · have hvv : (true != true) = false := rfl
      rw [hv]
      by_cases h2 : m < 2
      · go_wp2_with fail
        refine (specValidTiersE_any A2 m c2 l _ HL.out (by omega) hrd5).mono ?_
        rintro e w6 ⟨rfl, hb6⟩
        rw [hv]
        go_wp2
        go_ret
        exact ⟨rfl, kept_trans hb5 hb6⟩
      · have hm0 : (m : Int) - 1 ≤ (c2 : Int) := by omega
        obtain ⟨b, off, rfl, _, _⟩ := hrd5.at_ (by rw [HL.out]; omega)
        go_wp2_with fail
        refine (validTiers_any _ (m - 1) c2 (l.take (m - 1)) _ (by rw [List.length_take, HL.out]; omega) (by omega) (hrd5.take _ (by rw [HL.out]; omega))).mono ?_
        rintro e w6 ⟨rfl, hb6⟩
        rw [vT_take hv (by omega) (by rw [HL.out]; omega)]
        have hb7 := kept_trans hb5 hb6
        have hrd7 := hrd5.next hb6
        clear hb5 hb6 hrd5
        go_wp2_with fail
        have hd := hrd7.shift 1 (by rw [HL.out]; omega)
        refine (validTiers_any _ (m - 1) _ (l.drop 1) _ (by rw [List.length_drop, HL.out]) (by omega) hd).mono ?_
        rintro e w8 ⟨rfl, hb8⟩
        rw [vT_drop hv (by rw [HL.out]; omega)]
        go_wp2
        go_ret
        exact ⟨rfl, kept_trans hb7 hb8⟩
    · have hv' : vT l = false := by simpa using hv
      rw [hv']
      go_wp2_with fail
      refine (specValidTiersE_any A2 m c2 l _ HL.out (by omega) hrd5).mono ?_
      rintro e w6 ⟨rfl, hb6⟩
      rw [hv']
      go_wp2
      go_ret
      exact ⟨rfl, kept_trans hb5 hb6⟩

set_option maxHeartbeats 1000000 in
theorem fnTierForLater_any (A : Option Addr) (n c : Nat) (w : World) (hm : n ≤ 9223372036854775807) (hc : n ≤ c) (hr : RdB w w.heap.size A n) :
    Calls Try.prog 11 #[.slice A n c] w fun e w' => e = .returned (.bool true) ∧ Below w.heap.size w w' := by
  by_cases hbig : (1048576 : Int) < n
  · go_enter Try.func11, Try.ntmps11
    go_wp2
    go_ret
    exact ⟨rfl, Below.refl _ _⟩
  · go_enter Try.func11, Try.ntmps11
    go_wp2_with fail
    refine (drawTierFor_any A n c _ hm hc hr).mono ?_
    rintro e w1 ⟨A2, c2, m, l, x, y, rfl, hl, hm2, hc2, x0, x1', y0, y1', hrd, hb1⟩
    have HL := Lib.hid hl
    clear hl hr
    go_wp2_with fail
    refine (tierFor_any A2 m c2 l x y _ HL.out (by omega) hrd).mono ?_
    rintro e w2 ⟨rfl, hb2⟩
    have hb3 := kept_trans hb1 hb2
    have hrd3 := hrd.next hb2
    clear hb1 hb2 hrd
    go_wp2_with fail
    refine (specTierFor_any A2 m c2 l x y _ HL.out (by omega) hrd3).mono ?_
    rintro e w4 ⟨rfl, hb4⟩
    have hb5 := kept_trans hb3 hb4
    have hrd5 := hrd3.next hb4
    clear hb3 hb4 hrd3
    have hself : (tierF l x y != tierF l x y) = false := by simp
    by_cases h1 : 0 ≤ tierF l x y
    · by_cases h2 : y = 1000
      · have hyz : (y == 1000) = true := by simp [h2]
        clear h2
        go_wp2_with fail
        refine (specTierFor_any A2 m c2 l x y _ HL.out (by omega) hrd5).mono ?_
        rintro e w6 ⟨rfl, hb6⟩
        go_wp2
        go_ret
        exact ⟨ret_bool (by simp), kept_trans hb5 hb6⟩
      · have hyz : (y == 1000) = false := by simp [h2]
        obtain ⟨j0, j1⟩ := tierF_later h1 h2
        clear h2
        go_wp2_with fail
        refine (tierFor_any A2 m c2 l x (y + 1) _ HL.out (by omega) hrd5).mono ?_
        rintro e w6 ⟨rfl, hb6⟩
        go_wp2
        go_ret
        exact ⟨ret_bool (by simp; try omega), kept_trans hb5 hb6⟩
    · have h1' : tierF l x y < 0 := by omega
      clear h1
      go_wp2_with fail
      refine (specTierFor_any A2 m c2 l x y _ HL.out (by omega) hrd5).mono ?_
      rintro e w6 ⟨rfl, hb6⟩
      go_wp2
      go_ret
      exact ⟨ret_bool (by simp), kept_trans hb5 hb6⟩

set_option maxHeartbeats 1000000 in
theorem fnTierForNow_any (A : Option Addr) (n c : Nat) (w : World) (hm : n ≤ 9223372036854775807) (hc : n ≤ c) (hr : RdB w w.heap.size A n) :
    Calls Try.prog 12 #[.slice A n c] w fun e w' => e = .returned (.bool true) ∧ Below w.heap.size w w' := by
  by_cases hbig : (1048576 : Int) < n
  · go_enter Try.func12, Try.ntmps12
    go_wp2
    go_ret
    exact ⟨rfl, Below.refl _ _⟩
  · go_enter Try.func12, Try.ntmps12
    go_wp2_with fail
    refine (drawTierFor_any A n c _ hm hc hr).mono ?_
    rintro e w1 ⟨A2, c2, m, l, x, y, rfl, hl, hm2, hc2, x0, x1', y0, y1', hrd, hb1⟩
    have HL := Lib.hid hl
    clear hl hr
    go_wp2_with fail
    refine (tierFor_any A2 m c2 l x y _ HL.out (by omega) hrd).mono ?_
    rintro e w2 ⟨rfl, hb2⟩
    have hb3 := kept_trans hb1 hb2
    have hrd3 := hrd.next hb2
    clear hb1 hb2 hrd
    go_wp2_with fail
    refine (specTierFor_any A2 m c2 l x y _ HL.out (by omega) hrd3).mono ?_
    rintro e w4 ⟨rfl, hb4⟩
    have hb5 := kept_trans hb3 hb4
    have hrd5 := hrd3.next hb4
    clear hb3 hb4 hrd3
    have hself : (tierF l x y != tierF l x y) = false := by simp
    go_wp2_with fail
    refine (validTiers_any A2 m c2 l _ HL.out (by omega) hrd5).mono ?_
    rintro e w6 ⟨rfl, hb6⟩
    have hb7 := kept_trans hb5 hb6
    have hrd7 := hrd5.next hb6
    clear hb5 hb6 hrd5
    by_cases hv : vT l = true
    · rw [hv]
      by_cases h2 : 0 ≤ x ∧ x ≤ 1000
      · obtain ⟨q0, q1⟩ := h2
        go_wp2_with fail
        refine (tierFor_any A2 m c2 l x x _ HL.out (by omega) hrd7).mono ?_
        rintro e w8 ⟨rfl, hb8⟩
        rw [tierF_now hv q0 q1]
        go_wp2
        go_ret
        exact ⟨rfl, kept_trans hb7 hb8⟩
      · rcases (by omega : x < 0 ∨ (0 ≤ x ∧ 1000 < x)) with q | ⟨q, q'⟩
        all_goals
          clear h2
          go_wp2_with fail
          refine (specTierFor_any A2 m c2 l x y _ HL.out (by omega) hrd7).mono ?_
          rintro e w8 ⟨rfl, hb8⟩
          go_wp2
          go_ret
          exact ⟨ret_bool (by simp), kept_trans hb7 hb8⟩
    · have hv' : vT l = false := by simpa using hv
      rw [hv']
      go_wp2_with fail
      refine (specTierFor_any A2 m c2 l x y _ HL.out (by omega) hrd7).mono ?_
      rintro e w8 ⟨rfl, hb8⟩
      go_wp2
      go_ret
      exact ⟨ret_bool (by simp), kept_trans hb7 hb8⟩
end Go.Proofs.Ytheckdenoomhjaa
