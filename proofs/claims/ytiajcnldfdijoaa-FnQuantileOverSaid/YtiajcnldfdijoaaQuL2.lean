/-
  Walk of FnQuantileOver.
-/
import Derived.Test.YtiajcnldfdijoaaQuGen
import Derived.Test.YtiajcnldfdijoaaQuFn2
import Derived.Test.YtiajcnldfdijoaaQuW
namespace Go.Proofs.Ytiajcnldfdijoaa
open Go.RowKit
set_option maxHeartbeats 4000000 in
theorem fnQuantileOver_any (A : Option Addr) (n c : Nat) (w : World) (hm : n ≤ 9223372036854775807) (hc : n ≤ c) (hr : RdB w w.heap.size A n) :
    Calls Try.prog 7 #[.slice A n c] w fun e w' => e = .returned (.bool true) ∧ Below w.heap.size w w' := by
  by_cases hbig : (1048576 : Int) < n
  · go_enter Try.func7, Try.ntmps7
    go_wp2
    go_ret
    exact ⟨rfl, Below.refl _ _⟩
  · go_enter Try.func7, Try.ntmps7
    go_wp2_with fail
    refine (drawQuantileOver_any A n c _ hm hc hr).mono ?_
    rintro e w1 ⟨A2, c2, m2, l, x, y, z, rfl, hl, hm2, hc2, x0, x1', y0, y1', z0, z1', hrd, hb1⟩
    have HL := Lib.hid hl
    clear hl hr
    obtain ⟨N, hN⟩ : ∃ N, quN (quV l x y z) = N := ⟨_, rfl⟩
    obtain ⟨b, hb⟩ : ∃ b, (quV l x y z).isSome = b := ⟨_, rfl⟩
    have HN := Lib.hid hN
    have HB := Lib.hid hb
    clear hN hb
    go_wp2_with fail
    refine (quantileOver_any A2 m2 c2 l x y z _ HL.out (by omega) hc2 hrd).mono ?_
    rw [HN.out, HB.out]
    rintro e w2 ⟨rfl, hb2⟩
    have kb2 := kept_trans hb1 hb2
    have hrd2 := hrd.next hb2
    clear hb1 hb2 hrd
    go_wp2_with fail
    refine (specQuantileOver_any A2 m2 c2 l x y z _ HL.out (by omega) hrd2).mono ?_
    rw [HN.out, HB.out]
    rintro e w3 ⟨rfl, hb3⟩
    have kb3 := kept_trans kb2 hb3
    have hrd3 := hrd2.next hb3
    clear kb2 hb3 hrd2
    have hNN : (N != N) = false := by simp
    rcases b with _ | _
    · go_wp2
      go_ret
      exact ⟨rfl, kb3⟩
    · obtain ⟨_, _, hp, hv⟩ := quV_t HB.out
      have hq0 := quV_at (l := l) (fr := x) (to := y) (p := 0) (by omega) (by omega) hp
      have hq1 := quV_at (l := l) (fr := x) (to := y) (p := 100) (by omega) (by omega) hp
      have hsome := qu_some (l := l) (fr := x) (to := y) (k := qI z (rngL l x y).length) (by rw [qL_len]; exact qI_lt (by omega) (by omega) hp)
      rw [← hv, HN.out] at hsome
      have hbd := fun i (hi : i < (rngL l x y).length) => qu_bd (l := l) (fr := x) (to := y) hi
      rw [qI_zero] at hq0
      rw [qI_top hp, ← qL_len] at hq1
      have h16 := (rngL_bd l x y).1
      have HBD := Lib.hid hbd
      have HS := Lib.hid hsome
      have HQ0 := Lib.hid hq0
      have HQ1 := Lib.hid hq1
      clear hp hv hbd hsome hq0 hq1
      go_wp2_with fail
      refine (rangeOf_any A2 m2 c2 l x y _ HL.out (by omega) hc2 hrd3).mono ?_
      rintro e w4 ⟨A4, c4, rfl, hown4, hb4⟩
      have kb4 := kept_trans kb3 hb4
      have hrd4 := hrd3.next hb4
      have hr4 := own_rd2 hown4 rfl
      clear kb3 hb4 hrd3 hown4
      go_wp2_with fail
      refine (quantileOver_any A2 m2 c2 l x y 0 _ HL.out (by omega) hc2 hrd4).mono ?_
      rw [HQ0.out.1, HQ0.out.2]
      rintro e w5 ⟨rfl, hb5⟩
      have kb5 := kept_trans kb4 hb5
      have hrd5 := hrd4.next hb5
      have hr5 := hr4.next hb5
      clear kb4 hb5 hrd4 hr4
      go_wp2_with fail
      refine (quantileOver_any A2 m2 c2 l x y 100 _ HL.out (by omega) hc2 hrd5).mono ?_
      rw [HQ1.out.1, HQ1.out.2]
      rintro e w6 ⟨rfl, hb6⟩
      have kb6 := kept_trans kb5 hb6
      have hr6 := hr5.next hb6
      clear kb5 hb6 hrd5 hr5 HQ0 HQ1 HN HB
      generalize xi (qL l x y) 0 = lo at *
      generalize xi (qL l x y) ((qL l x y).length - 1) = hi at *
      generalize rngL l x y = R at *
      generalize hmm : R.length = mm at *
      have HM := Lib.hid hmm
      clear hmm
      go_wp2
      go_loopw [16, 17] (fun v i wr => ∃ k : Nat, k ≤ mm ∧ i = .int .i64 k ∧ v = .bool (hasX R N k) ∧ Below w6.heap.size w6 wr) (fun _ i _ => mm - (intOf i).toNat)
      case atStart => exact ⟨0, by omega, rfl, rfl, Below.refl _ _⟩
      case round =>
        obtain ⟨k, hk, rfl, rfl, hb⟩ := hrel
        by_cases hlt : k < mm
        · obtain ⟨b, off, rfl, hbb, hc'⟩ := hr6.at_ (by rw [HM.out]; omega)
          have hc1 := (hc' k (by rw [HM.out]; exact hlt)).2
          rw [← hb.cell (by exact hbb)] at hc1
          have hki : (k : Int) < (mm : Int) := by omega
          have hbd := HBD.out k hlt
          have d1 : decide (x2 R k < lo) = false := decide_eq_false (by omega)
          have d2 : decide (hi < x2 R k) = false := decide_eq_false (by omega)
          clear hc' hr6 hbd
          have HK := Lib.hid kb6
          clear kb6
          rcases hx : hasX R N k with _ | _
          · rcases hy : x2 R k == N with _ | _
            · have HX := Lib.hid (hasX_f hx hy)
              clear hx
              go_wp2
              go_roundw
              case rel => exact ⟨k + 1, by omega, by go_num, by rw [HX.out], hb⟩
              case measure => simp [intOf]; omega
            · have HX := Lib.hid (hasX_f hx hy)
              clear hx
              go_wp2
              go_roundw
              case rel => exact ⟨k + 1, by omega, by go_num, by rw [HX.out], hb⟩
              case measure => simp [intOf]; omega
          · have HX := Lib.hid (hasX_t hx)
            clear hx
            go_wp2
            go_roundw
            case rel => exact ⟨k + 1, by omega, by go_num, by rw [HX.out], hb⟩
            case measure => simp [intOf]; omega
        · have hkm : k = mm := by omega
          subst hkm
          obtain ⟨i, hi', he⟩ := HS.out
          have hX := hasX_true hi' he
          rw [hX]
          have kb7 := kept_trans kb6 hb
          clear hr6 hX
          go_wp2
          go_ret
          exact ⟨rfl, kb7⟩
end Go.Proofs.Ytiajcnldfdijoaa
