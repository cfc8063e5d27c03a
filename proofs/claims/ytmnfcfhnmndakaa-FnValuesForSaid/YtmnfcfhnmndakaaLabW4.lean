/-
  Walks: LabelValue of both packages.
-/
import Derived.Test.YtmnfcfhnmndakaaLabW2
namespace Go.Proofs.Ytmnfcfhnmndakaa
open Go.RowKit
theorem eqB_walk {a b : ByteArray} {v : Bool} (h : eqB a b = v) : (a.toList == b.toList) = v := h
theorem ret_str {a b : ByteArray} (h : a = b) : Ending.returned (.string a) = .returned (.string b) := by rw [h]
set_option maxHeartbeats 2000000 in
theorem labelValue_any (A : Option Addr) (n c : Nat) (l : List Lb) (s : ByteArray) (w : World) (hn : l.length = n) (hr : RdL w w.heap.size A l) :
    Calls Try.prog 20 #[.slice A n c, .string s] w fun e w' => e = .returned (.string (lvB l s)) ∧ Below w.heap.size w w' := by
  have HN := Lib.hid hn
  clear hn
  rcases hv : vL l with _ | _
  · have HV := Lib.hid hv
    have HZ := Lib.hid (lvB_no (s := s) hv)
    clear hv
    go_enter Try.func20, Try.ntmps20
    go_wp2_with fail
    refine (validLabels_any A n c l _ HN.out hr).mono ?_
    rintro e w1 ⟨rfl, hb1⟩
    rw [HV.out]
    go_wp2
    go_ret
    exact ⟨ret_str HZ.out.symm, hb1⟩
  · have HV := Lib.hid hv
    have HZ := Lib.hid (lvB_ok (s := s) hv)
    have hn4 : n ≤ 4 := by have := (VL_of hv).1; rw [HN.out] at this; exact this
    clear hv
    go_enter Try.func20, Try.ntmps20
    go_wp2_with fail
    refine (validLabels_any A n c l _ HN.out hr).mono ?_
    rintro e w1 ⟨rfl, hb1⟩
    rw [HV.out]
    go_wp2
    go_loopw [12] (fun i wr => ∃ k : Nat, k ≤ n ∧ i = .int .i64 k ∧ noName l s k ∧ Below w.heap.size w wr) (fun i _ => n - (intOf i).toNat)
    case atStart => exact ⟨0, by omega, rfl, noName_zero l s, hb1⟩
    case round =>
      obtain ⟨k, hk, rfl, hok, hb⟩ := hrel
      have HK := Lib.hid hok
      clear hok hb1
      by_cases hlt : k < n
      · have hki : (k : Int) < (n : Int) := by omega
        obtain ⟨b, off, rfl, hbb, hc⟩ := hr.at_ (by rw [HN.out]; omega)
        obtain ⟨hc0, hc1⟩ := hc k (by rw [HN.out]; exact hlt)
        rw [← hb.cell (by exact hbb)] at hc0 hc1
        have hln : k < l.length := by rw [HN.out]; exact hlt
        have HB := Lib.hid (kept_alloc hb (Obj.cells #[Value.string (at0 l k).1, Value.string (at0 l k).2] 81))
        clear hc hr hb
        rcases he : eqB (at0 l k).1 s with _ | _
        · have H0 := Lib.hid (noName_succ HK.out he)
          have hw := eqB_walk he
          clear he
          go_wp2
          go_roundw
          case rel => exact ⟨k + 1, by omega, by go_num, H0.out, HB.out⟩
          case measure => simp [intOf]; omega
        · have H0 := Lib.hid (valB_at HK.out hln he)
          have hw := eqB_walk he
          clear he
          go_wp2
          go_ret
          exact ⟨ret_str (by rw [HZ.out, H0.out]), HB.out⟩
      · have H0 := Lib.hid (valB_none HK.out (by rw [HN.out]; omega))
        clear hr
        go_wp2
        go_ret
        exact ⟨ret_str (by rw [HZ.out, H0.out]; rfl), hb⟩
set_option maxHeartbeats 2000000 in
theorem valueOf_any (A : Option Addr) (n c : Nat) (l : List Lb) (s : ByteArray) (w : World) (hn : l.length = n) (hm : n ≤ 1000000000000) (hr : RdL w w.heap.size A l) :
    Calls Try.prog 60 #[.slice A n c, .string s] w fun e w' => e = .returned (.string (valB l s)) ∧ w = w' := by
  have HN := Lib.hid hn
  clear hn
  go_enter Try.func60, Try.ntmps60
  go_wp2
  go_loop [5] (fun i => ∃ k : Nat, k ≤ n ∧ i = .int .i64 k ∧ noName l s k) (fun i => n - (intOf i).toNat)
  case atStart => exact ⟨0, by omega, rfl, noName_zero l s⟩
  case round =>
    obtain ⟨k, hk, rfl, hok⟩ := hrel
    have HK := Lib.hid hok
    clear hok
    by_cases hlt : k < n
    · have hki : (k : Int) < (n : Int) := by omega
      obtain ⟨b, off, rfl, hbb, hc⟩ := hr.at_ (by rw [HN.out]; omega)
      obtain ⟨hc0, hc1⟩ := hc k (by rw [HN.out]; exact hlt)
      have hln : k < l.length := by rw [HN.out]; exact hlt
      clear hc hr
      rcases he : eqB (at0 l k).1 s with _ | _
      · have H0 := Lib.hid (noName_succ HK.out he)
        have hw := eqB_walk he
        clear he
        go_wp2
        go_round
        case rel => exact ⟨k + 1, by omega, by go_num, H0.out⟩
        case measure => simp [intOf]; omega
      · have H0 := Lib.hid (valB_at HK.out hln he)
        have hw := eqB_walk he
        clear he
        go_wp2
        go_ret
        exact ⟨ret_str H0.out.symm, rfl⟩
    · have H0 := Lib.hid (valB_none HK.out (by rw [HN.out]; omega))
      clear hr
      go_wp2
      go_ret
      exact ⟨ret_str H0.out.symm, rfl⟩
end Go.Proofs.Ytmnfcfhnmndakaa
