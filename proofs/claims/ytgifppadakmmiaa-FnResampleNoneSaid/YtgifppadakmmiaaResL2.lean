/-
  Walk of FnResampleNone.
-/
import Derived.Test.YtgifppadakmmiaaResGen
import Derived.Test.YtgifppadakmmiaaResFn3
import Derived.Test.YtgifppadakmmiaaResW3
namespace Go.Proofs.Ytgifppadakmmiaa
open Go.RowKit
set_option maxHeartbeats 4000000 in
theorem fnResampleNone_any (A : Option Addr) (n c : Nat) (w : World) (hm : n ≤ 9223372036854775807) (hc : n ≤ c) (hr : RdB w w.heap.size A n) :
    Calls Try.prog 9 #[.slice A n c] w fun e w' => e = .returned (.bool true) ∧ Below w.heap.size w w' := by
  by_cases hbig : (1048576 : Int) < n
  · go_enter Try.func9, Try.ntmps9
    go_wp2
    go_ret
    exact ⟨rfl, Below.refl _ _⟩
  · go_enter Try.func9, Try.ntmps9
    go_wp2_with fail
    refine (drawResample_any A n c _ hm hc hr).mono ?_
    rintro e w1 ⟨A2, c2, m2, l, fr, to, st, rfl, hl, hm2, hc2, x0, x1', y0, y1', z0, z1, hrd, hb1⟩
    have HL := Lib.hid hl
    clear hl hr
    go_wp2_with fail
    refine (resample_any A2 m2 c2 l fr to st _ HL.out (by omega) hrd).mono ?_
    rintro e w2 ⟨A3, c3, rfl, hown3, hb2⟩
    have hb3 := kept_trans hb1 hb2
    have hrd3 := hrd.next hb2
    have hs3 := own_rd2 hown3 rfl
    clear hb1 hb2 hrd hown3
    go_wp2_with fail
    refine (specResample_any A2 m2 c2 l fr to st _ HL.out (by omega) hrd3).mono ?_
    rintro e w4 ⟨A5, c5, rfl, hown5, hb4⟩
    have hb5 := kept_trans hb3 hb4
    have hrd5 := hrd3.next hb4
    have hs5 := hs3.next hb4
    have ht5 := own_rd2 hown5 rfl
    have hlen := resL_len l fr to st
    clear hb3 hb4 hrd3 hown5 hs3
    go_wp2_with fail
    refine (equalPoints_same A3 _ c3 A5 c5 _ _ rfl (by omega) hs5 ht5).mono ?_
    rintro e w6 ⟨rfl, hb6⟩
    have hb7 := kept_trans hb5 hb6
    have hrd7 := hrd5.next hb6
    have hs7 := hs5.next hb6
    clear hb5 hb6 hrd5 hs5 ht5
    by_cases hz : m2 = 0
    · have hzz : ((m2 : Int) == 0) = true := by simp [hz]
      clear hz
      go_wp2_with fail
      refine (specResample_any A2 m2 c2 l fr to st _ HL.out (by omega) hrd7).mono ?_
      rintro e w8 ⟨A9, c9, rfl, hown9, hb8⟩
      have hb9 := kept_trans hb7 hb8
      have hs9 := hs7.next hb8
      have ht9 := own_rd2 hown9 rfl
      clear hb7 hb8 hrd7 hown9 hs7
      go_wp2_with fail
      refine (equalPoints_same A3 _ c3 A9 c9 _ _ rfl (by omega) hs9 ht9).mono ?_
      rintro e w10 ⟨rfl, hb10⟩
      go_wp2
      go_ret
      exact ⟨rfl, kept_trans hb9 hb10⟩
    · have hzz : ((m2 : Int) == 0) = false := by simp [hz]
      go_wp2_with fail
      refine (validSeries_any A2 m2 c2 l _ HL.out (by omega) hrd7).mono ?_
      rintro e w7 ⟨rfl, hb8'⟩
      have hb8x := kept_trans hb7 hb8'
      have hrd8x := hrd7.next hb8'
      have hs8x := hs7.next hb8'
      clear hb7 hrd7 hs7 hb8'
      by_cases hv : vS l = true
      · rw [hv]
        have hl0 : 0 < l.length := by rw [HL.out]; omega
        have hb0 := VS_at (VS_of hv) hl0
        obtain ⟨v0, v1, _⟩ := hb0
        have HN1 := Lib.hid fun fr => before_none hv fr
        have HN2 := Lib.hid (at_one hv hl0)
        obtain ⟨b, off, rfl, hbb, hc'⟩ := hrd8x.at_ hl0
        have q0 := (hc' 0 hl0).1
        rw [Nat.zero_mul, Nat.add_zero] at q0
        have hk1 : (0 : Int) < (m2 : Int) := by omega
        have hk2 : 0 < m2 := by omega
        have hw5 : IntKind.i64.wrap (x1 l 0 - 5) = x1 l 0 - 5 := IntWalk.i64_in _ (by omega)
        have hw6 : IntKind.i64.wrap (x1 l 0 + 1) = x1 l 0 + 1 := IntWalk.i64_in _ (by omega)
        clear hc' hz hl0 hs8x
        by_cases hx : 0 < x1 l 0 - 5
        · go_wp2_with fail
          refine (resample_any _ m2 c2 l (x1 l 0 - 5) (x1 l 0) 1 _ HL.out (by omega) hrd8x).mono ?_
          rintro e w9 ⟨A9, c9, rfl, _, hb9⟩
          have hb10 := kept_trans hb8x hb9
          have hrd10 := hrd8x.next hb9
          rw [HN1.out]
          clear hb8x hb9 hrd8x
          by_cases h1000 : x1 l 0 = 1000
          · have hq : (x1 l 0 == 1000) = true := by simp [h1000]
            clear h1000
            go_wp2
            go_ret
            exact ⟨rfl, hb10⟩
          · have hq : (x1 l 0 == 1000) = false := by simp [h1000]
            have HN3 := Lib.hid (HN2.out h1000)
            clear h1000
            go_wp2_with fail
            refine (resample_any _ m2 c2 l (x1 l 0) (x1 l 0 + 1) 1 _ HL.out (by omega) hrd10).mono ?_
            rintro e w11 ⟨A11, c11, rfl, _, hb11⟩
            rw [HN3.out]
            go_wp2
            go_ret
            exact ⟨rfl, kept_trans hb10 hb11⟩
        · go_wp2_with fail
          refine (resample_any _ m2 c2 l (0) (x1 l 0) 1 _ HL.out (by omega) hrd8x).mono ?_
          rintro e w9 ⟨A9, c9, rfl, _, hb9⟩
          have hb10 := kept_trans hb8x hb9
          have hrd10 := hrd8x.next hb9
          rw [HN1.out]
          clear hb8x hb9 hrd8x
          by_cases h1000 : x1 l 0 = 1000
          · have hq : (x1 l 0 == 1000) = true := by simp [h1000]
            clear h1000
            go_wp2
            go_ret
            exact ⟨rfl, hb10⟩
          · have hq : (x1 l 0 == 1000) = false := by simp [h1000]
            have HN3 := Lib.hid (HN2.out h1000)
            clear h1000
            go_wp2_with fail
            refine (resample_any _ m2 c2 l (x1 l 0) (x1 l 0 + 1) 1 _ HL.out (by omega) hrd10).mono ?_
            rintro e w11 ⟨A11, c11, rfl, _, hb11⟩
            rw [HN3.out]
            go_wp2
            go_ret
            exact ⟨rfl, kept_trans hb10 hb11⟩
      · have hv' : vS l = false := by simpa using hv
        rw [hv']
        clear hv hv'
        go_wp2_with fail
        refine (specResample_any A2 m2 c2 l fr to st _ HL.out (by omega) hrd8x).mono ?_
        rintro e w8 ⟨A9, c9, rfl, hown9, hb8⟩
        have hb9 := kept_trans hb8x hb8
        have hs9 := hs8x.next hb8
        have ht9 := own_rd2 hown9 rfl
        clear hb8x hb8 hrd8x hown9 hs8x
        go_wp2_with fail
        refine (equalPoints_same A3 _ c3 A9 c9 _ _ rfl (by omega) hs9 ht9).mono ?_
        rintro e w10 ⟨rfl, hb10⟩
        go_wp2
        go_ret
        exact ⟨rfl, kept_trans hb9 hb10⟩
end Go.Proofs.Ytgifppadakmmiaa
