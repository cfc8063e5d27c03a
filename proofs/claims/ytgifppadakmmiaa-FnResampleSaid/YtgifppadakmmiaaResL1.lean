/-
  Walk of FnResample.
-/
import Derived.Test.YtgifppadakmmiaaResGen
import Derived.Test.YtgifppadakmmiaaResFn2
import Derived.Test.YtgifppadakmmiaaResW3
namespace Go.Proofs.Ytgifppadakmmiaa
open Go.RowKit
set_option maxHeartbeats 4000000 in
theorem fnResample_any (A : Option Addr) (n c : Nat) (w : World) (hm : n ≤ 9223372036854775807) (hc : n ≤ c) (hr : RdB w w.heap.size A n) :
    Calls Try.prog 8 #[.slice A n c] w fun e w' => e = .returned (.bool true) ∧ Below w.heap.size w w' := by
  by_cases hbig : (1048576 : Int) < n
  · go_enter Try.func8, Try.ntmps8
    go_wp2
    go_ret
    exact ⟨rfl, Below.refl _ _⟩
  · go_enter Try.func8, Try.ntmps8
    go_wp2_with fail
    refine (drawResample_any A n c _ hm hc hr).mono ?_
    rintro e w1 ⟨A2, c2, m2, l, fr, to, st, rfl, hl, hm2, hc2, x0, x1', y0, y1', z0, z1, hrd, hb1⟩
    have HL := Lib.hid hl
    clear hl hr
    go_wp2_with fail
    refine (resample_any A2 m2 c2 l fr to st _ HL.out (by omega) hrd).mono ?_
    rintro e w2 ⟨A3, c3, rfl, hown3, hb2⟩
    have hb3 := kept_trans hb1 hb2
    have hrd3 := hrd.next hb2
    have hs3 := own_rd2 hown3 rfl
    clear hb1 hb2 hrd hown3
    go_wp2_with fail
    refine (specResample_any A2 m2 c2 l fr to st _ HL.out (by omega) hrd3).mono ?_
    rintro e w4 ⟨A5, c5, rfl, hown5, hb4⟩
    have hb5 := kept_trans hb3 hb4
    have hrd5 := hrd3.next hb4
    have hs5 := hs3.next hb4
    have ht5 := own_rd2 hown5 rfl
    have hlen := resL_len l fr to st
    clear hb3 hb4 hrd3 hown5 hs3
    go_wp2_with fail
    refine (equalPoints_same A3 _ c3 A5 c5 _ _ rfl (by omega) hs5 ht5).mono ?_
    rintro e w6 ⟨rfl, hb6⟩
    have hb7 := kept_trans hb5 hb6
    have hrd7 := hrd5.next hb6
    have hs7 := hs5.next hb6
    clear hb5 hb6 hrd5 hs5 ht5
    by_cases hz : (resL l fr to st).length = 0
    · have hzz : (((resL l fr to st).length : Int) == 0) = true := by simp [hz]
      clear hz
      go_wp2_with fail
      refine (specResample_any A2 m2 c2 l fr to st _ HL.out (by omega) hrd7).mono ?_
      rintro e w8 ⟨A9, c9, rfl, hown9, hb8⟩
      have hb9 := kept_trans hb7 hb8
      have hs9 := hs7.next hb8
      have ht9 := own_rd2 hown9 rfl
      clear hb7 hb8 hrd7 hown9 hs7
      go_wp2_with fail
      refine (equalPoints_same A3 _ c3 A9 c9 _ _ rfl (by omega) hs9 ht9).mono ?_
      rintro e w10 ⟨rfl, hb10⟩
      go_wp2
      go_ret
      exact ⟨rfl, kept_trans hb9 hb10⟩
    · have hzz : (((resL l fr to st).length : Int) == 0) = false := by simp; intro h; exact hz (by simp [h])
      obtain ⟨hok, _⟩ := resL_at (l := l) (fr := fr) (to := to) (st := st) (i := 0) (by omega)
      have HV := Lib.hid (resL_vS l fr to st)
      have HAT := Lib.hid fun i (h : i < (resL l fr to st).length) => (resL_at h).2
      obtain ⟨_, ⟨f0, f1⟩, ⟨t0, t1⟩, ⟨s0, s1⟩, _⟩ := hok
      clear hz
      generalize resL l fr to st = L at *
      generalize hm6 : L.length = m at *
      have HM := Lib.hid hm6
      clear hm6
      go_wp2
      go_loopw [8] (fun i wr => ∃ k : Nat, k ≤ m ∧ i = .int .i64 k ∧ Below w6.heap.size w6 wr) (fun i _ => m - (intOf i).toNat)
      case atStart => exact ⟨0, by omega, rfl, Below.refl _ _⟩
      case round =>
        obtain ⟨k, hk, rfl, hb⟩ := hrel
        by_cases hlt : k < m
        · obtain ⟨⟨q, hq⟩, g1, g2, g3⟩ := HAT.out k (by exact hlt)
          obtain ⟨b, off, rfl, hbb, hc'⟩ := hs7.at_ (by rw [HM.out]; omega)
          obtain ⟨hc0, hc1⟩ := hc' k (by rw [HM.out]; exact hlt)
          rw [← hb.cell (by exact hbb)] at hc0 hc1
          have hr8 := hrd7.next hb
          have HQ := Lib.hid hq
          have H3 := Lib.hid g3
          have hbw : b < wr.heap.size := Nat.lt_of_lt_of_le hbb hb.size
          clear hc' hs7 hrd7 hq g3
          go_wp2_with fail
          refine (valueAtO_any A2 m2 c2 l (x1 L k) _ HL.out (by omega) hr8).mono ?_
          rintro e w8 ⟨rfl, hb8⟩
          rw [H3.out]
          rw [← hb8.cell (by exact hbw)] at hc0 hc1
          have hbN := kept_trans hb hb8
          have hws : IntKind.i64.wrap (x1 L k - fr) = x1 L k - fr := IntWalk.i64_in _ (by omega)
          have hsq : x1 L k - fr = st * (q : Int) := by rw [HQ.out, Int.add_comm, Int.add_sub_cancel]
          have hm0 : (x1 L k - fr).tmod st = 0 := by rw [hsq]; exact Int.mul_tmod_right _ _
          have hm1 : (x1 L k - fr) % st = 0 := by rw [hsq]; exact Int.mul_emod_right _ _
          have hst : ¬ st = 0 := by omega
          have d1 : decide (x1 L k < fr) = false := decide_eq_false (by omega)
          have d2 : decide (to ≤ x1 L k) = false := decide_eq_false (by omega)
          clear hb hb8 hr8 hsq
          unfold optV
          go_wp2
          go_roundw
          case rel => exact ⟨k + 1, by omega, by go_num, hbN⟩
          case measure => simp [intOf]; omega
        · have hs8 := hs7.next hb
          have hbF := kept_trans hb7 hb
          clear hb hrd7 hs7 hb7
          go_wp2_with fail
          refine (validSeries_any A3 m c3 L _ HM.out (by omega) hs8).mono ?_
          rintro e w8 ⟨rfl, hb8⟩
          rw [HV.out]
          go_wp2
          go_ret
          exact ⟨rfl, kept_trans hbF hb8⟩
end Go.Proofs.Ytgifppadakmmiaa
