/-
  Walk of FnRateOver.
-/
import Derived.Test.YtgifppadakmmiaaPtGen3
import Derived.Test.YtgifppadakmmiaaPtFn5
import Derived.Test.YtgifppadakmmiaaPtW8
namespace Go.Proofs.Ytgifppadakmmiaa
open Go.RowKit
set_option maxHeartbeats 4000000 in
theorem fnRateOver_any (A : Option Addr) (n c : Nat) (w : World) (hm : n ≤ 9223372036854775807) (hc : n ≤ c) (hr : RdB w w.heap.size A n) :
    Calls Try.prog 17 #[.slice A n c] w fun e w' => e = .returned (.bool true) ∧ Below w.heap.size w w' := by
  by_cases hbig : (1048576 : Int) < n
  · go_enter Try.func17, Try.ntmps17
    go_wp2
    go_ret
    exact ⟨rfl, Below.refl _ _⟩
  · go_enter Try.func17, Try.ntmps17
    go_wp2_with fail
    refine (drawRateOver_any A n c _ hm hc hr).mono ?_
    rintro e w1 ⟨A2, c2, m2, l, x, y, rfl, hl, hm2, hc2, x0, x1', y0, y1', hrd, hb1⟩
    have HL := Lib.hid hl
    clear hl hr
    go_wp2_with fail
    refine (rateOver_any A2 m2 c2 l x y _ HL.out (by omega) hc2 hrd).mono ?_
    rintro e w2 ⟨rfl, hb2⟩
    rw [rateV_eq]
    have hb3 := kept_trans hb1 hb2
    have hrd3 := hrd.next hb2
    clear hb1 hb2 hrd
    go_wp2_with fail
    refine (specRateOver_any A2 m2 c2 l x y _ HL.out (by omega) hrd3).mono ?_
    rintro e w4 ⟨rfl, hb4⟩
    rw [rateV_eq]
    have hb5 := kept_trans hb3 hb4
    have hrd5 := hrd3.next hb4
    clear hb3 hb4 hrd3
    by_cases hok : rateOk (rngL l x y)
    · have hlen := hok.1
      have ho := rngL_some (l := l) (fr := x) (to := y) (by omega)
      have HR := Lib.hid (resets_ok ho)
      have hB := rngL_bd l x y
      have HB := Lib.hid hB
      have HOK := Lib.hid hok
      rw [rateB_ok hok]
      have hbd := rate_bd hB hok
      have HGE := Lib.hid (rate_ge hok)
      have HEQ := Lib.hid (fun h => rate_eq hok h)
      have hD0 := (dropTo_bd (rngL l x y) (rngL l x y).length).1
      rw [← HR.out] at hD0
      have hlen16 := hB.1
      obtain ⟨nb0, nb1⟩ := hbd
      clear ho hok hB
      go_wp2_with fail
      refine (rangeOf_any A2 m2 c2 l x y _ HL.out (by omega) hc2 hrd5).mono ?_
      rintro e w6 ⟨A6, c6, rfl, hown6, hb6⟩
      have hb7 := kept_trans hb5 hb6
      have hrd7 := hrd5.next hb6
      have hr6 := own_rd2 hown6 rfl
      clear hb5 hb6 hrd5 hown6
      have K0 := fun yy : Kin w6.heap.size w6 => resets_any A2 m2 c2 l x y yy.val HL.out (by omega) hc2 (hrd7.next yy.property)
      generalize hN : rateN (rngL l x y) = N at *
      generalize hD : resets l x y = D at HR HEQ hD0 ⊢
      generalize hl6 : rngL l x y = l6 at *
      clear hN hl6
      simp only [hD] at K0
      have K1 := Lib.hid fun yy : Kin w6.heap.size w6 => kin_call (K0 yy)
      clear hD K0
      generalize hm6 : l6.length = m at *
      have HM := Lib.hid hm6
      clear hm6
      obtain ⟨b, off, rfl, hbb, hc'⟩ := hr6.at_ (by rw [HM.out]; omega)
      have q0 := (hc' 0 (by rw [HM.out]; omega)).2
      have q1 := (hc' (m - 1) (by rw [HM.out]; omega)).2
      rw [Nat.zero_mul, Nat.add_zero] at q0
      have p0 := kin_cell q0 hbb
      have p1 := kin_cell q1 hbb
      have v0 := HB.out.2 0 (by rw [HM.out]; omega)
      have v1 := HB.out.2 (m - 1) (by rw [HM.out]; omega)
      have hs1 : IntKind.i64.wrap ((m : Int) - 1) = (m : Int) - 1 := IntWalk.i64_in _ (by omega)
      have hs3 : ((m : Int) - 1).toNat = m - 1 := by omega
      have hs4 : IntKind.i64.wrap (x2 l6 (m - 1) - x2 l6 0) = x2 l6 (m - 1) - x2 l6 0 := IntWalk.i64_in _ (by omega)
      have hk1 : (1 : Int) ≤ (m : Int) := by omega
      have hk2 : (m : Int) - 1 < (m : Int) := by omega
      have hk3 : (0 : Int) < (m : Int) := by omega
      have d1 : decide ((1 : Int) ≤ (m : Int) - 1) = true := decide_eq_true (by omega)
      have d2 : decide ((0 : Int) ≤ N) = true := decide_eq_true nb0
      have d3 : decide (x2 l6 (m - 1) - x2 l6 0 ≤ N) = true := decide_eq_true (HGE.out)
      clear hc' q0 q1 hr6 v0 v1 nb0 nb1 hrd7
      by_cases hDz : D = 0
      · have d4 : decide (0 < D) = false := by simp [hDz]
        have d5 : (N == x2 l6 (m - 1) - x2 l6 0) = true := by
          rw [HEQ.out (by rw [← HR.out, hDz])]; simp
        clear hDz
        go_wp2_with fail
        refine wp_region_kin (by kernel_rfl) (by kernel_rfl) ?_
        repeat (go_big_quiet_step ((go_at_call 47; with_reducible exact K1.out _)))
        refine wpQuiet_nil ?_
        intro _ hw'
        obtain ⟨⟨wq, hq⟩, hw''⟩ := hw'
        subst hw''
        go_wp2
        go_ret
        exact ⟨rfl, kept_trans hb7 hq⟩
      · have d4 : decide (0 < D) = true := decide_eq_true (by omega)
        clear hDz
        go_wp2_with fail
        refine wp_region_kin (by kernel_rfl) (by kernel_rfl) ?_
        repeat (go_big_quiet_step ((go_at_call 47; with_reducible exact K1.out _)))
        refine wpQuiet_nil ?_
        intro _ hw'
        obtain ⟨⟨wq, hq⟩, hw''⟩ := hw'
        subst hw''
        go_wp2
        go_ret
        exact ⟨rfl, kept_trans hb7 hq⟩
    · rw [rateB_no hok]
      clear hrd5
      go_wp2
      go_ret
      exact ⟨rfl, hb5⟩
end Go.Proofs.Ytgifppadakmmiaa
