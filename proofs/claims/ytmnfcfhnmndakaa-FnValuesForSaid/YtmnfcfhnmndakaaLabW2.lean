/-
  Walks: ValidLabels of both packages.
-/
import Derived.Test.YtmnfcfhnmndakaaLabW1
namespace Go.Proofs.Ytmnfcfhnmndakaa
open Go.RowKit
theorem leB_walk {a b : ByteArray} {v : Bool} (h : leB a b = v) : (Op.bytesLess a.toList b.toList || a.toList == b.toList) = v := h
set_option maxHeartbeats 2000000 in
theorem validLabels_any (A : Option Addr) (n c : Nat) (l : List Lb) (w : World) (hn : l.length = n) (hr : RdL w w.heap.size A l) :
    Calls Try.prog 33 #[.slice A n c] w fun e w' => e = .returned (.bool (vL l)) ∧ Below w.heap.size w w' := by
  have HN := Lib.hid hn
  clear hn
  by_cases h4 : 4 < n
  · go_enter Try.func33, Try.ntmps33
    go_wp2
    go_ret
    exact ⟨ret_bool (vL_long (by rw [HN.out]; exact h4)).symm, Below.refl _ _⟩
  · have hn4 : n ≤ 4 := by omega
    go_enter Try.func33, Try.ntmps33
    go_wp2
    go_loopw [10] (fun i wr => ∃ k : Nat, k ≤ n ∧ i = .int .i64 k ∧ okLo l k ∧ Below w.heap.size w wr) (fun i _ => n - (intOf i).toNat)
    case atStart => exact ⟨0, by omega, rfl, okLo_zero l, Below.refl _ _⟩
    case round =>
      obtain ⟨k, hk, rfl, hok, hb⟩ := hrel
      have HK := Lib.hid hok
      clear hok
      by_cases hlt : k < n
      · have hki : (k : Int) < (n : Int) := by omega
        obtain ⟨b, off, rfl, hbb, hc⟩ := hr.at_ (by rw [HN.out]; omega)
        obtain ⟨hc0, hc1⟩ := hc k (by rw [HN.out]; exact hlt)
        rw [← hb.cell (by exact hbb)] at hc0 hc1
        have hbw : b < wr.heap.size := Nat.lt_of_lt_of_le hbb hb.size
        have hln : k < l.length := by rw [HN.out]; exact hlt
        have hX : 0 < k → wr.cell? ⟨b, off + (k - 1) * 2, none⟩ = some (.string (at0 l (k - 1)).1) := fun h => by rw [hb.cell (by exact hbb)]; exact (hc (k - 1) (by rw [HN.out]; omega)).1
        have HX := Lib.hid hX
        have hbW := kept_alloc hb (Obj.cells #[Value.string (at0 l k).1, Value.string (at0 l k).2] 81)
        have HB := Lib.hid hbW
        clear hc hr hX hb hbW
        rcases hv1 : okW (at0 l k).1 with _ | _
        · have HZ := Lib.hid (vL_bad hln (fun h => by rw [h.1] at hv1; cases hv1))
          have HV := Lib.hid hv1
          clear hv1
          go_wp2_with fail
          refine (validWord_any _ _).mono ?_
          rintro e w1 ⟨rfl, rfl⟩
          rw [HV.out]
          go_wp2
          go_ret
          exact ⟨ret_bool HZ.out.symm, HB.out⟩
        · have HV := Lib.hid hv1
          clear hv1
          rcases hv2 : okW (at0 l k).2 with _ | _
          · have HZ := Lib.hid (vL_bad hln (fun h => by rw [h.2.1] at hv2; cases hv2))
            have HV2 := Lib.hid hv2
            clear hv2
            go_wp2_with fail
            refine (validWord_any _ _).mono ?_
            rintro e w1 ⟨rfl, rfl⟩
            rw [HV.out]
            go_wp2_with fail
            refine (validWord_any _ _).mono ?_
            rintro e w1 ⟨rfl, rfl⟩
            rw [HV2.out]
            go_wp2
            go_ret
            exact ⟨ret_bool HZ.out.symm, HB.out⟩
          · have HV2 := Lib.hid hv2
            clear hv2
            by_cases hk0 : k = 0
            · have hz' : decide (0 < k) = false := by simp [hk0]
              have H0 := Lib.hid (okLo_succ HK.out (k := k) ⟨HV.out, HV2.out, fun h => absurd hk0 (by omega)⟩)
              clear hk0
              go_wp2_with fail
              refine (validWord_any _ _).mono ?_
              rintro e w1 ⟨rfl, rfl⟩
              rw [HV.out]
              go_wp2_with fail
              refine (validWord_any _ _).mono ?_
              rintro e w1 ⟨rfl, rfl⟩
              rw [HV2.out]
              go_wp2_with fail
              go_quiet (fail)
              go_wp2
              go_roundw
              case rel => exact ⟨k + 1, by omega, by go_num, H0.out, kept_drewN HB.out _⟩
              case measure => simp [intOf]; omega
            · have hz' : decide (0 < k) = true := by simp; omega
              have hk1 : (1 : Int) ≤ (k : Int) := by omega
              have hk2 : (k : Int) - 1 < (n : Int) := by omega
              have hs1 : IntKind.i64.wrap ((k : Int) - 1) = (k : Int) - 1 := IntWalk.i64_in _ (by omega)
              have hs3 : ((k : Int) - 1).toNat = k - 1 := by omega
              have hcx := HX.out (by omega)
              rcases hg : leB (at0 l k).1 (at0 l (k - 1)).1 with _ | _
              · have H0 := Lib.hid (okLo_succ HK.out (k := k) ⟨HV.out, HV2.out, fun _ => hg⟩)
                have hgw := leB_walk hg
                clear hk0 hg
                go_wp2_with fail
                refine (validWord_any _ _).mono ?_
                rintro e w1 ⟨rfl, rfl⟩
                rw [HV.out]
                go_wp2_with fail
                refine (validWord_any _ _).mono ?_
                rintro e w1 ⟨rfl, rfl⟩
                rw [HV2.out]
                go_wp2_with fail
                go_quiet (fail)
                go_wp2
                go_roundw
                case rel => exact ⟨k + 1, by omega, by go_num, H0.out, kept_drewN HB.out _⟩
                case measure => simp [intOf]; omega
              · have HZ := Lib.hid (vL_bad hln (fun h => by rw [h.2.2 (by omega)] at hg; cases hg))
                have hgw := leB_walk hg
                clear hk0 hg
                go_wp2_with fail
                refine (validWord_any _ _).mono ?_
                rintro e w1 ⟨rfl, rfl⟩
                rw [HV.out]
                go_wp2_with fail
                refine (validWord_any _ _).mono ?_
                rintro e w1 ⟨rfl, rfl⟩
                rw [HV2.out]
                go_wp2_with fail
                go_quiet (fail)
                go_wp2
                go_ret
                exact ⟨ret_bool HZ.out.symm, kept_drewN HB.out _⟩
      · have HZ := Lib.hid (vL_good (l := l) (by rw [HN.out]; exact hn4) HK.out (by rw [HN.out]; omega))
        clear hr
        go_wp2
        go_ret
        exact ⟨ret_bool HZ.out.symm, hb⟩
/-- No text is longer than Go allows. -/
def SzL (l : List Lb) : Prop := ∀ i, i < l.length → (at0 l i).1.size ≤ 9223372036854775807 ∧ (at0 l i).2.size ≤ 9223372036854775807
theorem specValidWord_q (s : ByteArray) (w : World) (hs : s.size ≤ 9223372036854775807) : Calls Try.prog 92 #[.string s] w fun e w' => e = .returned (.bool (okW s)) ∧ w' = w :=
  (specValidWord_any s w hs).mono fun _ _ ⟨he, hw⟩ => ⟨he, hw.symm⟩
theorem specValidWord_v (s : ByteArray) (v : Bool) (w : World) (hs : s.size ≤ 9223372036854775807) (hv : Hid (okW s = v)) : Calls Try.prog 92 #[.string s] w fun e w' => e = .returned (.bool v) ∧ w' = w := by
  rw [← hv.out]; exact specValidWord_q s w hs
set_option maxHeartbeats 2000000 in
theorem specValidLabels_any (A : Option Addr) (n c : Nat) (l : List Lb) (w : World) (hn : l.length = n) (hm : n ≤ 1000000000000) (hz : SzL l) (hr : RdL w w.heap.size A l) :
    Calls Try.prog 67 #[.slice A n c] w fun e w' => e = .returned (.bool (vL l)) ∧ Below w.heap.size w w' := by
  have HN := Lib.hid hn
  have HSz := Lib.hid hz
  clear hn hz
  go_enter Try.func67, Try.ntmps67
  go_wp2
  go_loopw [3] (fun i wr => ∃ k : Nat, k ≤ n ∧ i = .int .i64 k ∧ okLo l k ∧ Below w.heap.size w wr) (fun i _ => n - (intOf i).toNat)
  case atStart => exact ⟨0, by omega, rfl, okLo_zero l, Below.refl _ _⟩
  case round =>
    obtain ⟨k, hk, rfl, hok, hb⟩ := hrel
    have HK := Lib.hid hok
    clear hok
    by_cases hlt : k < n
    · have hki : (k : Int) < (n : Int) := by omega
      obtain ⟨b, off, rfl, hbb, hc⟩ := hr.at_ (by rw [HN.out]; omega)
      obtain ⟨hc0, hc1⟩ := hc k (by rw [HN.out]; exact hlt)
      rw [← hb.cell (by exact hbb)] at hc0 hc1
      have hln : k < l.length := by rw [HN.out]; exact hlt
      have hX : 0 < k → wr.cell? ⟨b, off + (k - 1) * 2, none⟩ = some (.string (at0 l (k - 1)).1) := fun h => by rw [hb.cell (by exact hbb)]; exact (hc (k - 1) (by rw [HN.out]; omega)).1
      have HX := Lib.hid hX
      obtain ⟨z1, z2⟩ := HSz.out k hln
      have HB := Lib.hid hb
      clear hc hr hX hb
      rcases hv1 : okW (at0 l k).1 with _ | _
      · have HZ := Lib.hid (vL_bad hln (fun h => by rw [h.1] at hv1; cases hv1))
        have HV := Lib.hid hv1
        clear hv1
        go_wp2_with fail
        go_quiet ((go_at_call 92; exact Calls.quiet_of_same (specValidWord_v _ _ _ z1 HV)))
        go_wp2
        go_ret
        exact ⟨ret_bool HZ.out.symm, kept_drewN HB.out _⟩
      · have HV := Lib.hid hv1
        clear hv1
        rcases hv2 : okW (at0 l k).2 with _ | _
        · have HZ := Lib.hid (vL_bad hln (fun h => by rw [h.2.1] at hv2; cases hv2))
          have HV2 := Lib.hid hv2
          clear hv2
          go_wp2_with fail
          go_quiet ((go_at_call 92; exact Calls.quiet_of_same (by first | exact specValidWord_v _ _ _ z1 HV | exact specValidWord_v _ _ _ z2 HV2)))
          go_wp2
          go_ret
          exact ⟨ret_bool HZ.out.symm, kept_drewN HB.out _⟩
        · have HV2 := Lib.hid hv2
          clear hv2
          by_cases hk0 : k = 0
          · have hz' : decide (0 < k) = false := by simp [hk0]
            have H0 := Lib.hid (okLo_succ HK.out (k := k) ⟨HV.out, HV2.out, fun h => absurd hk0 (by omega)⟩)
            clear hk0
            go_wp2_with fail
            go_quiet ((go_at_call 92; exact Calls.quiet_of_same (by first | exact specValidWord_v _ _ _ z1 HV | exact specValidWord_v _ _ _ z2 HV2)))
            go_wp2
            go_roundw
            case rel => exact ⟨k + 1, by omega, by go_num, H0.out, kept_drewN HB.out _⟩
            case measure => simp [intOf]; omega
          · have hz' : decide (0 < k) = true := by simp; omega
            have hk1 : (1 : Int) ≤ (k : Int) := by omega
            have hk2 : (k : Int) - 1 < (n : Int) := by omega
            have hs1 : IntKind.i64.wrap ((k : Int) - 1) = (k : Int) - 1 := IntWalk.i64_in _ (by omega)
            have hs3 : ((k : Int) - 1).toNat = k - 1 := by omega
            have hcx := HX.out (by omega)
            rcases hg : leB (at0 l k).1 (at0 l (k - 1)).1 with _ | _
            · have H0 := Lib.hid (okLo_succ HK.out (k := k) ⟨HV.out, HV2.out, fun _ => hg⟩)
              have hgw := leB_walk hg
              clear hk0 hg
              go_wp2_with fail
              go_quiet ((go_at_call 92; exact Calls.quiet_of_same (by first | exact specValidWord_v _ _ _ z1 HV | exact specValidWord_v _ _ _ z2 HV2)))
              go_wp2
              go_roundw
              case rel => exact ⟨k + 1, by omega, by go_num, H0.out, kept_drewN HB.out _⟩
              case measure => simp [intOf]; omega
            · have HZ := Lib.hid (vL_bad hln (fun h => by rw [h.2.2 (by omega)] at hg; cases hg))
              have hgw := leB_walk hg
              clear hk0 hg
              go_wp2_with fail
              go_quiet ((go_at_call 92; exact Calls.quiet_of_same (by first | exact specValidWord_v _ _ _ z1 HV | exact specValidWord_v _ _ _ z2 HV2)))
              go_wp2
              go_ret
              exact ⟨ret_bool HZ.out.symm, kept_drewN HB.out _⟩
    · by_cases h4 : n ≤ 4
      · have HZ := Lib.hid (vL_good (l := l) (by rw [HN.out]; exact h4) HK.out (by rw [HN.out]; omega))
        have hd : decide ((n : Int) ≤ 4) = true := decide_eq_true (by omega)
        clear hr
        go_wp2
        go_ret
        exact ⟨ret_bool HZ.out.symm, hb⟩
      · have HZ := Lib.hid (vL_long (l := l) (by rw [HN.out]; omega))
        have hd : decide ((n : Int) ≤ 4) = false := decide_eq_false (by omega)
        clear hr
        go_wp2
        go_ret
        exact ⟨ret_bool HZ.out.symm, hb⟩
end Go.Proofs.Ytmnfcfhnmndakaa
