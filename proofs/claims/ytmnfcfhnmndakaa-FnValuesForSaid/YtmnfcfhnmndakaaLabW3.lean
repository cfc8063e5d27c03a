/-
  Walks: ValidMatchers of both packages.
-/
import Derived.Test.YtmnfcfhnmndakaaLabW2
namespace Go.Proofs.Ytmnfcfhnmndakaa
open Go.RowKit
theorem okMb_1 {x : Mt} (h : okW x.1 = false) : okMb x = false := by unfold okMb; rw [h]; rfl
theorem okMb_2 {x : Mt} (h : okW x.1 = true) (h2 : emB x.2.1 = true) : okMb x = true := by unfold okMb; rw [h, h2]; rfl
theorem okMb_3 {x : Mt} {v : Bool} (h : okW x.1 = true) (h2 : emB x.2.1 = false) (h3 : okW x.2.1 = v) : okMb x = v := by unfold okMb; rw [h, h2, h3]; rfl
theorem emB_t {s : ByteArray} (h : emB s = true) : s.toList = [] := List.isEmpty_iff.1 h
set_option maxHeartbeats 2000000 in
theorem validMatchers_any (A : Option Addr) (n c : Nat) (l : List Mt) (w : World) (hn : l.length = n) (hr : RdM w w.heap.size A l) :
    Calls Try.prog 47 #[.slice A n c] w fun e w' => e = .returned (.bool (vM l)) ∧ Below w.heap.size w w' := by
  have HN := Lib.hid hn
  clear hn
  by_cases h4 : 4 < n
  · go_enter Try.func47, Try.ntmps47
    go_wp2
    go_ret
    exact ⟨ret_bool (vM_long (by rw [HN.out]; exact h4)).symm, Below.refl _ _⟩
  · have hn4 : n ≤ 4 := by omega
    go_enter Try.func47, Try.ntmps47
    go_wp2
    go_loopw [10] (fun i wr => ∃ k : Nat, k ≤ n ∧ i = .int .i64 k ∧ okMo l k ∧ Below w.heap.size w wr) (fun i _ => n - (intOf i).toNat)
    case atStart => exact ⟨0, by omega, rfl, okMo_zero l, Below.refl _ _⟩
    case round =>
      obtain ⟨k, hk, rfl, hok, hb⟩ := hrel
      have HK := Lib.hid hok
      clear hok
      by_cases hlt : k < n
      · have hki : (k : Int) < (n : Int) := by omega
        obtain ⟨b, off, rfl, hbb, hc⟩ := hr.at_ (by rw [HN.out]; omega)
        obtain ⟨hc0, hc1, hc2⟩ := hc k (by rw [HN.out]; exact hlt)
        rw [← hb.cell (by exact hbb)] at hc0 hc1 hc2
        have hbw : b < wr.heap.size := Nat.lt_of_lt_of_le hbb hb.size
        have hln : k < l.length := by rw [HN.out]; exact hlt
        have hbW := kept_alloc hb (Obj.cells #[Value.string (at0 l k).1, Value.string (at0 l k).2.1, Value.bool (at0 l k).2.2] 65)
        have HB := Lib.hid hbW
        clear hc hr hb hbW
        rcases hv1 : okW (at0 l k).1 with _ | _
        · have HZ := Lib.hid (vM_bad hln (okMb_1 hv1))
          have HV := Lib.hid hv1
          clear hv1
          go_wp2_with fail
          refine (validWord_any _ _).mono ?_
          rintro e w1 ⟨rfl, rfl⟩
          rw [HV.out]
          go_wp2
          go_ret
          exact ⟨ret_bool HZ.out.symm, HB.out⟩
        · have HV := Lib.hid hv1
          clear hv1
          rcases he : emB (at0 l k).2.1 with _ | _
          · have he1 : (at0 l k).2.1.toList.isEmpty = false := he
            rcases hv2 : okW (at0 l k).2.1 with _ | _
            · have HZ := Lib.hid (vM_bad hln (okMb_3 HV.out he hv2))
              have HV2 := Lib.hid hv2
              clear hv2 he
              go_wp2_with fail
              refine (validWord_any _ _).mono ?_
              rintro e w1 ⟨rfl, rfl⟩
              rw [HV.out]
              go_wp2_with fail
              refine (validWord_any _ _).mono ?_
              rintro e w1 ⟨rfl, rfl⟩
              rw [HV2.out]
              go_wp2
              go_ret
              exact ⟨ret_bool HZ.out.symm, HB.out⟩
            · have H0 := Lib.hid (okMo_succ HK.out (okMb_3 HV.out he hv2))
              have HV2 := Lib.hid hv2
              clear hv2 he
              go_wp2_with fail
              refine (validWord_any _ _).mono ?_
              rintro e w1 ⟨rfl, rfl⟩
              rw [HV.out]
              go_wp2_with fail
              refine (validWord_any _ _).mono ?_
              rintro e w1 ⟨rfl, rfl⟩
              rw [HV2.out]
              go_wp2
              go_roundw
              case rel => exact ⟨k + 1, by omega, by go_num, H0.out, HB.out⟩
              case measure => simp [intOf]; omega
          · have he1 : (at0 l k).2.1.toList = [] := emB_t he
            have H0 := Lib.hid (okMo_succ HK.out (okMb_2 HV.out he))
            clear he
            go_wp2_with fail
            refine (validWord_any _ _).mono ?_
            rintro e w1 ⟨rfl, rfl⟩
            rw [HV.out]
            go_wp2
            go_roundw
            case rel => exact ⟨k + 1, by omega, by go_num, H0.out, HB.out⟩
            case measure => simp [intOf]; omega
      · have HZ := Lib.hid (vM_good (l := l) (by rw [HN.out]; exact hn4) HK.out (by rw [HN.out]; omega))
        clear hr
        go_wp2
        go_ret
        exact ⟨ret_bool HZ.out.symm, hb⟩
def SzM (l : List Mt) : Prop := ∀ i, i < l.length → (at0 l i).1.size ≤ 9223372036854775807 ∧ (at0 l i).2.1.size ≤ 9223372036854775807
set_option maxHeartbeats 2000000 in
theorem specValidMatchers_any (A : Option Addr) (n c : Nat) (l : List Mt) (w : World) (hn : l.length = n) (hm : n ≤ 1000000000000) (hz : SzM l) (hr : RdM w w.heap.size A l) :
    Calls Try.prog 77 #[.slice A n c] w fun e w' => e = .returned (.bool (vM l)) ∧ Below w.heap.size w w' := by
  have HN := Lib.hid hn
  have HSz := Lib.hid hz
  clear hn hz
  go_enter Try.func77, Try.ntmps77
  go_wp2
  go_loopw [3] (fun i wr => ∃ k : Nat, k ≤ n ∧ i = .int .i64 k ∧ okMo l k ∧ Below w.heap.size w wr) (fun i _ => n - (intOf i).toNat)
  case atStart => exact ⟨0, by omega, rfl, okMo_zero l, Below.refl _ _⟩
  case round =>
    obtain ⟨k, hk, rfl, hok, hb⟩ := hrel
    have HK := Lib.hid hok
    clear hok
    by_cases hlt : k < n
    · have hki : (k : Int) < (n : Int) := by omega
      obtain ⟨b, off, rfl, hbb, hc⟩ := hr.at_ (by rw [HN.out]; omega)
      obtain ⟨hc0, hc1, hc2⟩ := hc k (by rw [HN.out]; exact hlt)
      rw [← hb.cell (by exact hbb)] at hc0 hc1 hc2
      have hln : k < l.length := by rw [HN.out]; exact hlt
      obtain ⟨z1, z2⟩ := HSz.out k hln
      have HB := Lib.hid hb
      clear hc hr hb
      rcases hv1 : okW (at0 l k).1 with _ | _
      · have HZ := Lib.hid (vM_bad hln (okMb_1 hv1))
        have HV := Lib.hid hv1
        clear hv1
        go_wp2_with fail
        refine (specValidWord_any _ _ z1).mono ?_
        rintro e w1 ⟨rfl, rfl⟩
        rw [HV.out]
        go_wp2
        go_ret
        exact ⟨ret_bool HZ.out.symm, HB.out⟩
      · have HV := Lib.hid hv1
        clear hv1
        rcases he : emB (at0 l k).2.1 with _ | _
        · have he1 : (at0 l k).2.1.toList.isEmpty = false := he
          rcases hv2 : okW (at0 l k).2.1 with _ | _
          · have HZ := Lib.hid (vM_bad hln (okMb_3 HV.out he hv2))
            have HV2 := Lib.hid hv2
            clear hv2 he
            go_wp2_with fail
            refine (specValidWord_any _ _ z1).mono ?_
            rintro e w1 ⟨rfl, rfl⟩
            rw [HV.out]
            go_wp2_with fail
            refine (specValidWord_any _ _ z2).mono ?_
            rintro e w1 ⟨rfl, rfl⟩
            rw [HV2.out]
            go_wp2
            go_ret
            exact ⟨ret_bool HZ.out.symm, HB.out⟩
          · have H0 := Lib.hid (okMo_succ HK.out (okMb_3 HV.out he hv2))
            have HV2 := Lib.hid hv2
            clear hv2 he
            go_wp2_with fail
            refine (specValidWord_any _ _ z1).mono ?_
            rintro e w1 ⟨rfl, rfl⟩
            rw [HV.out]
            go_wp2_with fail
            refine (specValidWord_any _ _ z2).mono ?_
            rintro e w1 ⟨rfl, rfl⟩
            rw [HV2.out]
            go_wp2
            go_roundw
            case rel => exact ⟨k + 1, by omega, by go_num, H0.out, HB.out⟩
            case measure => simp [intOf]; omega
        · have he1 : (at0 l k).2.1.toList = [] := emB_t he
          have H0 := Lib.hid (okMo_succ HK.out (okMb_2 HV.out he))
          clear he
          go_wp2_with fail
          refine (specValidWord_any _ _ z1).mono ?_
          rintro e w1 ⟨rfl, rfl⟩
          rw [HV.out]
          go_wp2
          go_roundw
          case rel => exact ⟨k + 1, by omega, by go_num, H0.out, HB.out⟩
          case measure => simp [intOf]; omega
    · by_cases h4 : n ≤ 4
      · have HZ := Lib.hid (vM_good (l := l) (by rw [HN.out]; exact h4) HK.out (by rw [HN.out]; omega))
        have hd : decide ((n : Int) ≤ 4) = true := decide_eq_true (by omega)
        clear hr
        go_wp2
        go_ret
        exact ⟨ret_bool HZ.out.symm, hb⟩
      · have HZ := Lib.hid (vM_long (l := l) (by rw [HN.out]; omega))
        have hd : decide ((n : Int) ≤ 4) = false := decide_eq_false (by omega)
        clear hr
        go_wp2
        go_ret
        exact ⟨ret_bool HZ.out.symm, hb⟩
end Go.Proofs.Ytmnfcfhnmndakaa
