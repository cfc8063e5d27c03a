/-
  The walk of FnTierCost.
-/
import Derived.Test.YtheckdenoomhjaaTierGen2
import Derived.Test.YtheckdenoomhjaaTierFn4
import Derived.Test.YtheckdenoomhjaaTierW6
namespace Go.Proofs.Ytheckdenoomhjaa
open Go.RowKit
set_option maxHeartbeats 1000000 in
theorem fnTierCost_any (A : Option Addr) (n c : Nat) (w : World) (hm : n ≤ 9223372036854775807) (hc : n ≤ c) (hr : RdB w w.heap.size A n) :
    Calls Try.prog 13 #[.slice A n c] w fun e w' => e = .returned (.bool true) ∧ Below w.heap.size w w' := by
  by_cases hbig : (1048576 : Int) < n
  · go_enter Try.func13, Try.ntmps13
    go_wp2
    go_ret
    exact ⟨rfl, Below.refl _ _⟩
  · go_enter Try.func13, Try.ntmps13
    go_wp2_with fail
    refine (drawTierCost_any A n c _ hm hc hr).mono ?_
    rintro e w1 ⟨A2, c2, m, l, x, rfl, hl, hm2, hc2, x0, x1', hrd, hb1⟩
    have HL := Lib.hid hl
    clear hl hr
    go_wp2_with fail
    refine (tierCost_any A2 m c2 l x _ HL.out (by omega) hrd).mono ?_
    rintro e w2 ⟨rfl, hb2⟩
    have hb3 := kept_trans hb1 hb2
    have hrd3 := hrd.next hb2
    clear hb1 hb2 hrd
    go_wp2_with fail
    refine (specTierCost_any A2 m c2 l x _ HL.out (by omega) hrd3).mono ?_
    rintro e w4 ⟨rfl, hb4⟩
    have hb5 := kept_trans hb3 hb4
    have hrd5 := hrd3.next hb4
    clear hb3 hb4 hrd3
    have hself : (tierC l x != tierC l x) = false := by simp
    by_cases h1 : tierC l x < 0
    · go_wp2_with fail
      refine (specTierCost_any A2 m c2 l x _ HL.out (by omega) hrd5).mono ?_
      rintro e w6 ⟨rfl, hb6⟩
      go_wp2
      go_ret
      exact ⟨ret_bool (by simp), kept_trans hb5 hb6⟩
    · by_cases h2 : m < 2
      · go_wp2_with fail
        refine (specTierCost_any A2 m c2 l x _ HL.out (by omega) hrd5).mono ?_
        rintro e w6 ⟨rfl, hb6⟩
        go_wp2
        go_ret
        exact ⟨ret_bool (by simp), kept_trans hb5 hb6⟩
      · have HS := Lib.hid (tierC_split (l := l) (now := x) (by omega) (by rw [HL.out]; omega))
        obtain ⟨q0, q1⟩ := tierC_bd (l := l.take 1) (now := x)
        obtain ⟨q2, q3⟩ := tierC_bd (l := l.drop 1) (now := x)
        obtain ⟨b, off, rfl, _, _⟩ := hrd5.at_ (by rw [HL.out]; omega)
        have hd := hrd5.shift 1 (by rw [HL.out]; omega)
        have ht := hrd5.take 1 (by rw [HL.out]; omega)
        have K1 := Lib.hid fun y : Kin w4.heap.size w4 => kin_call (tierCost_any _ 1 c2 (l.take 1) x y.val (by rw [List.length_take, HL.out]; omega) (by omega) (ht.next y.property))
        have K2 := Lib.hid fun y : Kin w4.heap.size w4 => kin_call (tierCost_any _ (m - 1) (c2 - 1) (l.drop 1) x y.val (by rw [List.length_drop, HL.out]) (by omega) (hd.next y.property))
        have hne : ¬ c2 = 1 := by omega
        have h12 : (1 : Int) ≤ (m : Int) := by omega
        have h13 : (1 : Int) ≤ (c2 : Int) := by omega
        have hw : (wrap64 (tierC (l.take 1) x + tierC l.tail x) == tierC l x) = true := by
          rw [← List.drop_one, HS.out, IntWalk.wrap64_in _ (by have := tierC_bd (l := l) (now := x); omega)]; simp
        have HW := Lib.hid hw
        clear hw
        clear hd ht hrd5
        go_wp2_with fail
        refine wp_region_kin (by kernel_rfl) (by kernel_rfl) ?_
        repeat (go_big_quiet_step ((first | (go_at_call 23; with_reducible exact K1.out _) | (go_at_call 23; with_reducible exact K2.out _))))
        refine wpQuiet_nil ?_
        intro _ hw'
        obtain ⟨⟨wq, hq⟩, hw''⟩ := hw'
        subst hw''
        go_wp2
        go_ret
        exact ⟨ret_bool HW.out, kept_trans hb5 hq⟩
end Go.Proofs.Ytheckdenoomhjaa
