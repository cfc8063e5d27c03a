/-
  Walk of FnSumOver.
-/
import Derived.Test.YtgifppadakmmiaaPtGen3
import Derived.Test.YtgifppadakmmiaaPtFn4
import Derived.Test.YtgifppadakmmiaaPtW8
namespace Go.Proofs.Ytgifppadakmmiaa
open Go.RowKit
set_option maxHeartbeats 2000000 in
theorem fnSumOver_any (A : Option Addr) (n c : Nat) (w : World) (hm : n ≤ 9223372036854775807) (hc : n ≤ c) (hr : RdB w w.heap.size A n) :
    Calls Try.prog 7 #[.slice A n c] w fun e w' => e = .returned (.bool true) ∧ Below w.heap.size w w' := by
  by_cases hbig : (1048576 : Int) < n
  · go_enter Try.func7, Try.ntmps7
    go_wp2
    go_ret
    exact ⟨rfl, Below.refl _ _⟩
  · go_enter Try.func7, Try.ntmps7
    go_wp2_with fail
    refine (drawSumOver_any A n c _ hm hc hr).mono ?_
    rintro e w1 ⟨A2, c2, m, l, x, y, rfl, hl, hm2, hc2, x0, x1', y0, y1', hrd, hb1⟩
    have HL := Lib.hid hl
    clear hl hr
    go_wp2_with fail
    refine (sumOver_any A2 m c2 l x y _ HL.out (by omega) hc2 hrd).mono ?_
    rintro e w2 ⟨rfl, hb2⟩
    have hb3 := kept_trans hb1 hb2
    have hrd3 := hrd.next hb2
    clear hb1 hb2 hrd
    go_wp2_with fail
    refine (specSumOver_any A2 m c2 l x y _ HL.out (by omega) hrd3).mono ?_
    rintro e w4 ⟨rfl, hb4⟩
    have hb5 := kept_trans hb3 hb4
    have hrd5 := hrd3.next hb4
    clear hb3 hb4 hrd3
    by_cases hx : 40 < x
    · go_wp2_with fail
      refine (specSumOver_any A2 m c2 l x y _ HL.out (by omega) hrd5).mono ?_
      rintro e w6 ⟨rfl, hb6⟩
      go_wp2
      go_ret
      exact ⟨rfl, kept_trans hb5 hb6⟩
    · by_cases hy : y < 40
      · go_wp2_with fail
        refine (specSumOver_any A2 m c2 l x y _ HL.out (by omega) hrd5).mono ?_
        rintro e w6 ⟨rfl, hb6⟩
        go_wp2
        go_ret
        exact ⟨rfl, kept_trans hb5 hb6⟩
      · go_wp2_with fail
        refine (rangeOf_any A2 m c2 l x y _ HL.out (by omega) hc2 hrd5).mono ?_
        rintro e w6 ⟨A7, c7, rfl, hown7, hb6⟩
        have hb7 := kept_trans hb5 hb6
        have hrd7 := hrd5.next hb6
        clear hb5 hb6 hrd5 hown7
        by_cases hz : (rngL l x y).length = 0
        · have hzz : (((rngL l x y).length : Int) == 0) = true := by simp [hz]
          clear hz
          go_wp2_with fail
          refine (specSumOver_any A2 m c2 l x y _ HL.out (by omega) hrd7).mono ?_
          rintro e w8 ⟨rfl, hb8⟩
          go_wp2
          go_ret
          exact ⟨rfl, kept_trans hb7 hb8⟩
        · have hzz : (((rngL l x y).length : Int) == 0) = false := by simp; intro h; exact hz (by simp [h])
          have hE := sum_law hz (by omega) (by omega)
          have hB := rngL_bd l x y
          have b0 := sumL_bd hB
          have HE := Lib.hid (show IntKind.i64.wrap (sumL (rngL l x 40) + sumL (rngL l 40 y)) = sumL (rngL l x y) by rw [hE]; exact IntWalk.i64_in _ (by omega))
          have HB := Lib.hid hB
          clear hz hE hB b0
          go_wp2_with fail
          refine (sumOver_any A2 m c2 l x 40 _ HL.out (by omega) hc2 hrd7).mono ?_
          rintro e w8 ⟨rfl, hb8⟩
          have hb9 := kept_trans hb7 hb8
          have hrd9 := hrd7.next hb8
          clear hb7 hb8 hrd7
          go_wp2_with fail
          refine (sumOver_any A2 m c2 l 40 y _ HL.out (by omega) hc2 hrd9).mono ?_
          rintro e w10 ⟨rfl, hb10⟩
          have hb11 := kept_trans hb9 hb10
          have hrd11 := hrd9.next hb10
          have hE := HE.out
          clear hb9 hb10 hrd9
          go_wp2_with fail
          refine (rangeOf_any A2 m c2 l x y _ HL.out (by omega) hc2 hrd11).mono ?_
          rintro e w12 ⟨A13, c13, rfl, hown13, hb12⟩
          have hb13 := kept_trans hb11 hb12
          have hr13 := own_rd2 hown13 rfl
          clear hb11 hb12 hown13 hrd11
          go_wp2_with fail
          refine (sumOf_any A13 _ c13 _ _ rfl HB.out hr13).mono ?_
          rintro e w14 ⟨rfl, hb14⟩
          go_wp2
          go_ret
          exact ⟨rfl, kept_trans hb13 hb14⟩
end Go.Proofs.Ytgifppadakmmiaa
