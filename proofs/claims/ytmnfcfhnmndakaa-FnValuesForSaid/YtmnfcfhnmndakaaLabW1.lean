/-
  Walks: validWord of both packages.
-/
import Derived.Test.YtmnfcfhnmndakaaLabFn2
import Derived.Test.YtmnfcfhnmndakaaInR
namespace Go.Proofs.Ytmnfcfhnmndakaa
open Go.RowKit
set_option maxHeartbeats 1000000 in
theorem validWord_any (s : ByteArray) (w : World) : Calls Try.prog 71 #[.string s] w fun e w' => e = .returned (.bool (okW s)) ∧ w = w' := by
  by_cases h0 : s.size < 1
  · have HX := Lib.hid (okW_len (s := s) (by omega))
    go_enter Try.func71, Try.ntmps71
    go_wp2
    go_ret
    exact ⟨ret_bool HX.out.symm, rfl⟩
  · by_cases h4 : 4 < s.size
    · have HX := Lib.hid (okW_len (s := s) (by omega))
      go_enter Try.func71, Try.ntmps71
      go_wp2
      go_ret
      exact ⟨ret_bool HX.out.symm, rfl⟩
    · go_enter Try.func71, Try.ntmps71
      go_wp2
      go_loop [14] (fun i => ∃ k : Nat, k ≤ s.size ∧ i = .int .i64 k ∧ okTo s k) (fun i => s.size - (intOf i).toNat)
      case atStart => exact ⟨0, by omega, rfl, okTo_zero s⟩
      case round =>
        obtain ⟨k, hk, rfl, hok⟩ := hrel
        have HK := Lib.hid hok
        clear hok
        by_cases hlt : k < s.size
        · by_cases h1 : ((s[k].toNat : Nat) : Int) < 97
          · have HX := Lib.hid (okW_bad hlt (fun h => by have := h.1; omega))
            go_wp2
            go_ret
            exact ⟨ret_bool HX.out.symm, rfl⟩
          · by_cases h2 : (122 : Int) < ((s[k].toNat : Nat) : Int)
            · have HX := Lib.hid (okW_bad hlt (fun h => by have := h.2; omega))
              go_wp2
              go_ret
              exact ⟨ret_bool HX.out.symm, rfl⟩
            · have HX := Lib.hid (okTo_succ hlt HK.out ⟨by omega, by omega⟩)
              go_wp2
              go_round
              case rel => exact ⟨k + 1, by omega, by go_num, HX.out⟩
              case measure => simp [intOf]; omega
        · have HX := Lib.hid (okW_yes (by omega) (by omega) HK.out (by omega))
          go_wp2
          go_ret
          exact ⟨ret_bool HX.out.symm, rfl⟩
set_option maxHeartbeats 1000000 in
theorem specValidWord_any (s : ByteArray) (w : World) (hs : s.size ≤ 9223372036854775807) : Calls Try.prog 92 #[.string s] w fun e w' => e = .returned (.bool (okW s)) ∧ w = w' := by
  go_enter Try.func92, Try.ntmps92
  go_wp2
  go_loop [3] (fun i => ∃ k : Nat, k ≤ s.size ∧ i = .int .i64 k ∧ okTo s k) (fun i => s.size - (intOf i).toNat)
  case atStart => exact ⟨0, by omega, rfl, okTo_zero s⟩
  case round =>
    obtain ⟨k, hk, rfl, hok⟩ := hrel
    have HK := Lib.hid hok
    clear hok
    by_cases hlt : k < s.size
    · have hb : ((s[k].toNat : Nat) : Int) ≤ 255 := by have := s[k].toNat_lt; omega
      have hb0 : 0 ≤ ((s[k].toNat : Nat) : Int) := by omega
      by_cases hv : inR (s[k].toNat : Int) 97 122 = true
      · have HX := Lib.hid (okTo_succ hlt HK.out (inRS' hv))
        go_wp2_with fail
        refine (inRange_any _ _ _ _).mono ?_
        rintro e w1 ⟨rfl, rfl⟩
        rw [hv]
        go_wp2
        go_round
        case rel => exact ⟨k + 1, by omega, by go_num, HX.out⟩
        case measure => simp [intOf]; omega
      · have hv' : inR (s[k].toNat : Int) 97 122 = false := by simpa using hv
        have HX := Lib.hid (okW_bad hlt (fun h => hv (inRS h.1 h.2)))
        go_wp2_with fail
        refine (inRange_any _ _ _ _).mono ?_
        rintro e w1 ⟨rfl, rfl⟩
        rw [hv']
        go_wp2
        go_ret
        exact ⟨ret_bool HX.out.symm, rfl⟩
    · go_wp2_with fail
      refine (inRange_any _ _ _ _).mono ?_
      rintro e w1 ⟨rfl, rfl⟩
      go_wp2
      go_ret
      refine ⟨ret_bool ?_, rfl⟩
      by_cases hq : 1 ≤ s.size ∧ s.size ≤ 4
      · rw [okW_yes hq.1 hq.2 HK.out (by omega)]; exact inRS (by omega) (by omega)
      · rw [okW_len hq]
        rcases hz : inR (s.size : Int) 1 4 with _ | _
        · rfl
        · have := inRS' hz; exact absurd (⟨by omega, by omega⟩ : 1 ≤ s.size ∧ s.size ≤ 4) hq
end Go.Proofs.Ytmnfcfhnmndakaa
