/-
  Walk: FnCompareLabels.
-/
import Derived.Test.YtnnbfdlicadgfaaCmpW3
import Derived.Test.YtnnbfdlicadgfaaLabGen4
import Derived.Test.YtnnbfdlicadgfaaLabW3
import Derived.Test.YtnnbfdlicadgfaaEqL
namespace Go.Proofs.Ytnnbfdlicadgfaa
open Go.RowKit
theorem cmpLs_three {a b : List Lb} (ha : vL a = true) (hb : vL b = true) : (cmpV a b = -1 ∧ cmpV b a = 1 ∧ eqLs a b = false) ∨ (cmpV a b = 0 ∧ cmpV b a = 0 ∧ eqLs a b = true) ∨ (cmpV a b = 1 ∧ cmpV b a = -1 ∧ eqLs a b = false) := by
  rw [cmpV_ok ha hb, cmpV_ok hb ha, cmpLs_neg a b]
  have hbd := cmpLs_bd a b
  have hne : cmpLs a b ≠ 0 → eqLs a b = false := fun h => decide_eq_false fun e => h (by rw [e]; exact cmpLs_self _)
  have h : cmpLs a b = -1 ∨ cmpLs a b = 0 ∨ cmpLs a b = 1 := by omega
  rcases h with h | h | h
  · exact .inl ⟨h, by omega, hne (by omega)⟩
  · exact .inr (.inl ⟨h, by omega, by rw [cmpLs_zero h]; exact eqLs_refl _⟩)
  · exact .inr (.inr ⟨h, by omega, hne (by omega)⟩)
theorem cmpV_short {a : List Lb} (ha : vL a = true) {k : Nat} (hk : k < a.length) : cmpV (a.take k) a = -1 := by
  rw [cmpV_ok (vL_sub ha (List.take_sublist k a)) ha]
  exact cmpLs_prefix k hk
set_option maxHeartbeats 4000000 in
theorem fnCompareLabels_any (A : Option Addr) (n c : Nat) (w : World) (hm : n ≤ 9223372036854775807) (hc : n ≤ c) (hr : RdB w w.heap.size A n) :
    Calls Try.prog 6 #[.slice A n c] w fun e w' => e = .returned (.bool true) ∧ Below w.heap.size w w' := by
  by_cases hbig : (1048576 : Int) < n
  · go_enter Try.func6, Try.ntmps6
    go_wp2
    go_ret
    exact ⟨rfl, Below.refl _ _⟩
  · go_enter Try.func6, Try.ntmps6
    go_wp2_with fail
    refine (drawCompareLabels_any A n c _ hm hc hr).mono ?_
    rintro e w1 ⟨A2, c2, m, l, B2, d2, q, l', rfl, hl, hm2, hcap, hsz, hq, hq2, hqd, hsz2, hrd, hrn, hb1⟩
    have HL := Lib.hid (And.intro hl (And.intro hsz (And.intro hq hsz2)))
    clear hl hr hsz hq hsz2
    go_wp2_with fail
    refine (compareLabels_any A2 m c2 l B2 q d2 l' _ HL.out.1 HL.out.2.2.1 hrd hrn).mono ?_
    rintro e w2 ⟨rfl, hb2⟩
    have hb3 := kept_trans hb1 hb2
    have hrd3 := RdG.next hrd hb2
    have hrn3 := RdG.next hrn hb2
    clear hb1 hb2 hrd hrn
    go_wp2_with fail
    refine (specCompareLabels_any A2 m c2 l B2 q d2 l' _ HL.out.1 HL.out.2.2.1 (by omega) (by omega) HL.out.2.1 HL.out.2.2.2 hrd3 hrn3).mono ?_
    rintro e w4 ⟨rfl, hb4⟩
    have hb5 := kept_trans hb3 hb4
    have hrd5 := RdG.next hrd3 hb4
    have hrn5 := RdG.next hrn3 hb4
    clear hb3 hb4 hrd3 hrn3
    go_wp2_with fail
    refine (validLabels_any A2 m c2 l _ HL.out.1 hrd5).mono ?_
    rintro e w6 ⟨rfl, hb6⟩
    have hb7 := kept_trans hb5 hb6
    have hrd7 := RdG.next hrd5 hb6
    have hrn7 := RdG.next hrn5 hb6
    clear hb5 hb6 hrd5 hrn5
    rcases hv : vL l with _ | _
    · clear hv
      go_wp2_with fail
      refine (specCompareLabels_any A2 m c2 l B2 q d2 l' _ HL.out.1 HL.out.2.2.1 (by omega) (by omega) HL.out.2.1 HL.out.2.2.2 hrd7 hrn7).mono ?_
      rintro e w8 ⟨rfl, hb8⟩
      go_wp2
      go_ret
      exact ⟨rfl, kept_trans hb7 hb8⟩
    · have HV := Lib.hid hv
      clear hv
      go_wp2_with fail
      refine (validLabels_any B2 q d2 l' _ HL.out.2.2.1 hrn7).mono ?_
      rintro e w8 ⟨rfl, hb8⟩
      have hb9 := kept_trans hb7 hb8
      have hrd9 := RdG.next hrd7 hb8
      have hrn9 := RdG.next hrn7 hb8
      clear hb7 hb8 hrd7 hrn7
      rcases hv : vL l' with _ | _
      · clear hv
        go_wp2_with fail
        refine (specCompareLabels_any A2 m c2 l B2 q d2 l' _ HL.out.1 HL.out.2.2.1 (by omega) (by omega) HL.out.2.1 HL.out.2.2.2 hrd9 hrn9).mono ?_
        rintro e w10 ⟨rfl, hb10⟩
        go_wp2
        go_ret
        exact ⟨rfl, kept_trans hb9 hb10⟩
      · have HV' := Lib.hid hv
        clear hv
        have H3 := cmpLs_three HV.out HV'.out
        rcases H3 with ⟨h1, h2, h3⟩ | ⟨h1, h2, h3⟩ | ⟨h1, h2, h3⟩
        all_goals
          have H2 := Lib.hid h2
          have H3 := Lib.hid h3
          rw [h1]
          clear h1 h2 h3
          go_wp2_with fail
          refine (compareLabels_any B2 q d2 l' A2 m c2 l _ HL.out.2.2.1 HL.out.1 hrn9 hrd9).mono ?_
          rintro e w10 ⟨rfl, hb10⟩
          rw [H2.out]
          have hb11 := kept_trans hb9 hb10
          have hrd11 := RdG.next hrd9 hb10
          have hrn11 := RdG.next hrn9 hb10
          clear hb9 hb10 hrd9 hrn9
          go_wp2_with fail
          refine (equalLabels_any A2 m c2 l B2 q d2 l' _ HL.out.1 HL.out.2.2.1 (by omega) hrd11 hrn11).mono ?_
          rintro e w12 ⟨rfl, hb12⟩
          rw [H3.out]
          have hb13 := kept_trans hb11 hb12
          have hrd13 := RdG.next hrd11 hb12
          clear hb11 hb12 hrd11 hrn11
          by_cases hm0 : m = 0
          · have hmz : ((m : Int) == 0) = true := by simp [hm0]
            clear hm0
            go_wp2_with fail
            go_ret
            exact ⟨rfl, hb13⟩
          · have hmz : ((m : Int) == 0) = false := by simp [hm0]
            have HK := Lib.hid (cmpV_short HV.out (k := m - 1) (by rw [HL.out.1]; omega))
            have HTL := Lib.hid (show (l.take (m - 1)).length = m - 1 by rw [List.length_take, HL.out.1]; omega)
            obtain ⟨b, off, rfl, hbb, _⟩ := RdL.at_ hrd13 (by rw [HL.out.1]; omega)
            have hw1 : IntKind.i64.wrap ((m : Int) - 1) = ((m - 1 : Nat) : Int) := by rw [show ((m : Int) - 1) = ((m - 1 : Nat) : Int) by omega]; exact IntWalk.i64_in _ (by omega)
            have hw2 : ((m - 1 : Nat) : Int) ≤ (c2 : Int) := by omega
            have hrt := RdG.take (m := m - 1) hrd13
            generalize m - 1 = mm at *
            have hw3 : (mm : Int).toNat = mm := by omega
            clear hm0
            go_wp2_with fail
            refine (compareLabels_any _ mm c2 (l.take mm) _ m c2 l _ HTL.out HL.out.1 hrt hrd13).mono ?_
            rintro e w14 ⟨rfl, hb14⟩
            rw [HK.out]
            go_wp2_with fail
            go_ret
            exact ⟨rfl, kept_trans hb13 hb14⟩
end Go.Proofs.Ytnnbfdlicadgfaa
