/-
  Walk of FnResampleTwice.
-/
import Derived.Test.YtgifppadakmmiaaResGen
import Derived.Test.YtgifppadakmmiaaResFn4
import Derived.Test.YtgifppadakmmiaaResW3
namespace Go.Proofs.Ytgifppadakmmiaa
open Go.RowKit
set_option maxHeartbeats 4000000 in
theorem fnResampleTwice_any (A : Option Addr) (n c : Nat) (w : World) (hm : n ≤ 9223372036854775807) (hc : n ≤ c) (hr : RdB w w.heap.size A n) :
    Calls Try.prog 10 #[.slice A n c] w fun e w' => e = .returned (.bool true) ∧ Below w.heap.size w w' := by
  by_cases hbig : (1048576 : Int) < n
  · go_enter Try.func10, Try.ntmps10
    go_wp2
    go_ret
    exact ⟨rfl, Below.refl _ _⟩
  · go_enter Try.func10, Try.ntmps10
    go_wp2_with fail
    refine (drawResample_any A n c _ hm hc hr).mono ?_
    rintro e w1 ⟨A2, c2, m2, l, fr, to, st, rfl, hl, hm2, hc2, x0, x1', y0, y1', z0, z1, hrd, hb1⟩
    have HL := Lib.hid hl
    clear hl hr
    go_wp2_with fail
    refine (resample_any A2 m2 c2 l fr to st _ HL.out (by omega) hrd).mono ?_
    rintro e w2 ⟨A3, c3, rfl, hown3, hb2⟩
    have hb3 := kept_trans hb1 hb2
    have hrd3 := hrd.next hb2
    have hs3 := own_rd2 hown3 rfl
    clear hb1 hb2 hrd hown3
    go_wp2_with fail
    refine (specResample_any A2 m2 c2 l fr to st _ HL.out (by omega) hrd3).mono ?_
    rintro e w4 ⟨A5, c5, rfl, hown5, hb4⟩
    have hb5 := kept_trans hb3 hb4
    have hrd5 := hrd3.next hb4
    have hs5 := hs3.next hb4
    have ht5 := own_rd2 hown5 rfl
    have hlen := resL_len l fr to st
    clear hb3 hb4 hrd3 hown5 hs3
    go_wp2_with fail
    refine (equalPoints_same A3 _ c3 A5 c5 _ _ rfl (by omega) hs5 ht5).mono ?_
    rintro e w6 ⟨rfl, hb6⟩
    have hb7 := kept_trans hb5 hb6
    have hrd7 := hrd5.next hb6
    have hs7 := hs5.next hb6
    clear hb5 hb6 hrd5 hs5 ht5
    by_cases hz : (resL l fr to st).length = 0
    · have hzz : (((resL l fr to st).length : Int) == 0) = true := by simp [hz]
      clear hz
      go_wp2_with fail
      refine (specResample_any A2 m2 c2 l fr to st _ HL.out (by omega) hrd7).mono ?_
      rintro e w8 ⟨A9, c9, rfl, hown9, hb8⟩
      have hb9 := kept_trans hb7 hb8
      have hs9 := hs7.next hb8
      have ht9 := own_rd2 hown9 rfl
      clear hb7 hb8 hrd7 hown9 hs7
      go_wp2_with fail
      refine (equalPoints_same A3 _ c3 A9 c9 _ _ rfl (by omega) hs9 ht9).mono ?_
      rintro e w10 ⟨rfl, hb10⟩
      go_wp2
      go_ret
      exact ⟨rfl, kept_trans hb9 hb10⟩
    · have hzz : (((resL l fr to st).length : Int) == 0) = false := by simp; intro h; exact hz (by simp [h])
      clear hz hrd7
      go_wp2_with fail
      refine (resample_any A3 _ c3 (resL l fr to st) fr to st _ rfl (by omega) hs7).mono ?_
      rintro e w8 ⟨A9, c9, rfl, hown9, hb8⟩
      rw [res_again] at hown9 ⊢
      have hb9 := kept_trans hb7 hb8
      have hs9 := hs7.next hb8
      have ht9 := own_rd2 hown9 rfl
      clear hb7 hb8 hown9 hs7
      go_wp2_with fail
      refine (equalPoints_same A9 _ c9 A3 c3 _ _ rfl (by omega) ht9 hs9).mono ?_
      rintro e w10 ⟨rfl, hb10⟩
      go_wp2
      go_ret
      exact ⟨rfl, kept_trans hb9 hb10⟩
end Go.Proofs.Ytgifppadakmmiaa
