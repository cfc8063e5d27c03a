/-
  Walks of FnRateOverSplit, FnRateOverScale.
-/
import Derived.Test.YtgifppadakmmiaaPtGen3
import Derived.Test.YtgifppadakmmiaaPtFn6
import Derived.Test.YtgifppadakmmiaaPtW8
import Derived.Deep.RegionHeld3
namespace Go.Proofs.Ytgifppadakmmiaa
open Go.RowKit
set_option maxHeartbeats 4000000 in
theorem fnRateOverSplit_any (A : Option Addr) (n c : Nat) (w : World) (hm : n ≤ 9223372036854775807) (hc : n ≤ c) (hr : RdB w w.heap.size A n) :
    Calls Try.prog 14 #[.slice A n c] w fun e w' => e = .returned (.bool true) ∧ Below w.heap.size w w' := by
  by_cases hbig : (1048576 : Int) < n
  · go_enter Try.func14, Try.ntmps14
    go_wp2
    go_ret
    exact ⟨rfl, Below.refl _ _⟩
  · go_enter Try.func14, Try.ntmps14
    go_wp2_with fail
    refine (drawRateOver_any A n c _ hm hc hr).mono ?_
    rintro e w1 ⟨A2, c2, m2, l, x, y, rfl, hl, hm2, hc2, x0, x1', y0, y1', hrd, hb1⟩
    have HL := Lib.hid hl
    clear hl hr
    go_wp2_with fail
    refine (rateOver_any A2 m2 c2 l x y _ HL.out (by omega) hc2 hrd).mono ?_
    rintro e w2 ⟨rfl, hb2⟩
    rw [rateV_eq]
    have hb3 := kept_trans hb1 hb2
    have hrd3 := hrd.next hb2
    clear hb1 hb2 hrd
    go_wp2_with fail
    refine (specRateOver_any A2 m2 c2 l x y _ HL.out (by omega) hrd3).mono ?_
    rintro e w4 ⟨rfl, hb4⟩
    rw [rateV_eq]
    have hb5 := kept_trans hb3 hb4
    have hrd5 := hrd3.next hb4
    clear hb3 hb4 hrd3
    go_wp2_with fail
    refine (rangeOf_any A2 m2 c2 l x y _ HL.out (by omega) hc2 hrd5).mono ?_
    rintro e w6 ⟨A6, c6, rfl, hown6, hb6⟩
    have hb7 := kept_trans hb5 hb6
    have hrd7 := hrd5.next hb6
    have hr6 := own_rd2 hown6 rfl
    clear hb5 hb6 hrd5 hown6
    by_cases hok : rateOk (rngL l x y)
    · rw [rateB_ok hok]
      by_cases h3 : (rngL l x y).length < 3
      · have d3 : decide (((rngL l x y).length : Int) < 3) = true := decide_eq_true (by omega)
        have H3 := Lib.hid h3
        clear h3 hok hr6
        go_wp2
        go_ret
        exact ⟨rfl, hb7⟩
      · have d3 : decide (((rngL l x y).length : Int) < 3) = false := decide_eq_false (by omega)
        obtain ⟨t0, t1, s1, s2, s3⟩ := split_law hok (by omega)
        have hbd := rate_bd (rngL_bd l x y) hok
        obtain ⟨b, off, rfl, hbb, hc'⟩ := hr6.at_ (by omega)
        have q0 := (hc' 1 (by omega)).1
        rw [show off + 1 * 2 = off + 2 from rfl] at q0
        have hk1 : (1 : Int) < ((rngL l x y).length : Int) := by omega
        have hk2 : 1 < (rngL l x y).length := by omega
        have S1 := Lib.hid s1
        have S2 := Lib.hid s2
        have S3 := Lib.hid (show IntKind.i64.wrap (rateN (rngL l x (x1 (rngL l x y) 1 + 1)) + rateN (rngL l (x1 (rngL l x y) 1) y)) = rateN (rngL l x y) by rw [s3]; exact IntWalk.i64_in _ (by omega))
        have hs1 : IntKind.i64.wrap (x1 (rngL l x y) 1 + 1) = x1 (rngL l x y) 1 + 1 := IntWalk.i64_in _ (by omega)
        clear hc' hr6 hbd s1 s2 s3 hok h3
        go_wp2_with fail
        refine (rateOver_any A2 m2 c2 l x _ _ HL.out (by omega) hc2 hrd7).mono ?_
        rintro e w8 ⟨rfl, hb8⟩
        rw [rateV_eq, S1.out]
        have hb9 := kept_trans hb7 hb8
        have hrd9 := hrd7.next hb8
        clear hb7 hb8 hrd7 q0
        go_wp2_with fail
        refine (rateOver_any A2 m2 c2 l _ y _ HL.out (by omega) hc2 hrd9).mono ?_
        rintro e w10 ⟨rfl, hb10⟩
        rw [rateV_eq, S2.out]
        have hb11 := kept_trans hb9 hb10
        have hS := S3.out
        clear hb9 hb10 hrd9
        go_wp2
        go_ret
        exact ⟨rfl, hb11⟩
    · rw [rateB_no hok]
      clear hr6
      go_wp2
      go_ret
      exact ⟨rfl, hb7⟩

set_option maxHeartbeats 4000000 in
theorem fnRateOverScale_any (A : Option Addr) (n c : Nat) (w : World) (hm : n ≤ 9223372036854775807) (hc : n ≤ c) (hr : RdB w w.heap.size A n) :
    Calls Try.prog 13 #[.slice A n c] w fun e w' => e = .returned (.bool true) ∧ Below w.heap.size w w' := by
  obtain ⟨i0, hi, hz0, hz1, hz2⟩ := info_parts infoPoint
  by_cases hbig : (1048576 : Int) < n
  · go_enter Try.func13, Try.ntmps13
    go_wp2
    go_ret
    exact ⟨rfl, Below.refl _ _⟩
  · go_enter Try.func13, Try.ntmps13
    go_wp2_with fail
    refine (drawRateOver_any A n c _ hm hc hr).mono ?_
    rintro e w1 ⟨A2, c2, m2, l, x, y, rfl, hl, hm2, hc2, x0, x1', y0, y1', hrd, hb1⟩
    have HL := Lib.hid hl
    clear hl hr
    go_wp2_with fail
    refine (rateOver_any A2 m2 c2 l x y _ HL.out (by omega) hc2 hrd).mono ?_
    rintro e w2 ⟨rfl, hb2⟩
    rw [rateV_eq]
    have hb3 := kept_trans hb1 hb2
    have hrd3 := hrd.next hb2
    clear hb1 hb2 hrd
    go_wp2_with fail
    refine (specRateOver_any A2 m2 c2 l x y _ HL.out (by omega) hrd3).mono ?_
    rintro e w4 ⟨rfl, hb4⟩
    rw [rateV_eq]
    have hb5 := kept_trans hb3 hb4
    have hrd5 := hrd3.next hb4
    clear hb3 hb4 hrd3
    by_cases hok : rateOk (rngL l x y)
    · rw [rateB_ok hok]
      have ho := rngL_some (l := l) (fr := x) (to := y) (by have := hok.1; omega)
      have HV := Lib.hid (VS_of (okS_t ho).1)
      have hbd := rate_bd (rngL_bd l x y) hok
      obtain ⟨nb0, nb1⟩ := hbd
      have HOK := Lib.hid hok
      have hm16 : m2 ≤ 16 := by rw [← HL.out]; exact HV.out.1
      clear ho hok
      have hO : (w4.alloc (Obj.cells #[] 30)).ownsRow w4.heap.size 30 2 (.slice (some ⟨w4.heap.size, 0, none⟩) 0 0) 0 (cellsL (dbl (l.take 0))) := World.ownsRow_made w4 #[] 0 (Nat.le_refl _) (by unfold maxLen; omega) rfl
      go_wp2
      go_loopw [10, 11] (fun v i wr => ∃ (k : Nat) (A' : Option Addr) (c' : Nat), k ≤ m2 ∧ i = .int .i64 k ∧ v = .slice A' k c' ∧ wr.ownsRow w4.heap.size 30 2 (.slice A' k c') k (cellsL (dbl (l.take k))) ∧ Below w4.heap.size w4 wr) (fun _ i _ => m2 - (intOf i).toNat)
      case atStart => exact ⟨0, _, _, by omega, rfl, rfl, hO, kept_alloc (Below.refl _ _) _⟩
      case round =>
        obtain ⟨k, A', c', hk, rfl, rfl, hown, hb⟩ := hrel
        clear hO
        by_cases hlt : k < m2
        · have hlt' : k < l.length := by rw [HL.out]; exact hlt
          obtain ⟨b, off, rfl, hbb, hc'⟩ := hrd5.at_ (by omega)
          obtain ⟨hc0, hc1⟩ := hc' k hlt'
          rw [← hb.cell (by exact hbb)] at hc0 hc1
          have hv := VS_at HV.out hlt'
          have hs2 : IntKind.i64.wrap (2 * x2 l k) = 2 * x2 l k := IntWalk.i64_in _ (by omega)
          have HT := Lib.hid (dbl_take l hlt')
          have hne : (Value.slice A' k c').ownBlock ≠ some b := fun h => by have := (hown.lt _ h).1; omega
          have hwr := hb.size
          have hki : (k : Int) < (m2 : Int) := by omega
          have hbw : b < wr.heap.size := by omega
          clear hc' hrd5 hv hlt'
          go_wp2_with fail
          go_region_held3 (fun w' => w'.cell? ⟨b, off + k * 2, none⟩ = some (.int .i64 (x1 l k)) ∧ w'.cell? ⟨b, off + k * 2 + 1, none⟩ = some (.int .i64 (x2 l k)))
            (first | go_keep | (go_split_ands; (repeat' apply And.intro) <;> (rw [hgrow.cell_far _ (by simp; omega) (Ne.symm hne)]; assumption)))
            ((refine step_append_lies _ (by rfl) _ _ _ (by rfl) w4.heap.size 30 i0 _ 2 16 Try.underlying23 hi hz0 hz1 hz2 rfl (by omega) _ k (cellsL (dbl (l.take k))) (by rfl) ((hown.alloc _).drew) ⟨wr.heap.size, 0, none⟩ 1 1 ([.int .i64 (x1 l k), .int .i64 (2 * x2 l k)]) (by rfl) (by rfl) (World.news_of_block (cs := ([.int .i64 (x1 l k), .int .i64 (2 * x2 l k)]).toArray) (t := 30) (fr := (0, 0)) (heap_alloc_new wr _)) (by simp [Value.oneCell']) (by omega) (by simp only [maxLen]; omega) (by omega) (by simp; omega) (wr.heap.size + 1) (by simp) ?_; intro gg cap w2 hown2 hgrow hat hlt2))
          have hbW2 := below_app hb hown hgrow
          clear hown hb hgrow hne hat hc0 hc1
          go_wp2
          go_roundw
          case rel => exact ⟨k + 1, _, _, by omega, by go_num, rfl, by rw [HT.out, cellsL_snoc]; exact hown2, hbW2⟩
          case measure => simp [intOf]; omega
        · have e : k = m2 := by omega
          subst e
          have hT : l.take k = l := List.take_of_length_le (by rw [HL.out]; exact Nat.le_refl _)
          rw [hT] at hown
          have hrdd := own_rd2 hown (by rw [dbl_len]; exact HL.out)
          have hcap := own_cap hown
          have hb9 := kept_trans hb5 hb
          clear hrd5 hown hb hb5 hT
          go_wp2_with fail
          refine (rateOver_any A' k c' (dbl l) x y _ (by rw [dbl_len]; exact HL.out) (by omega) hcap hrdd).mono ?_
          rintro e w8 ⟨rfl, hb8⟩
          rw [rateV_eq]
          have hb11 := kept_trans hb9 hb8
          have hrd11 := hrdd.next hb8
          clear hb9 hb8 hrdd
          go_wp2_with fail
          refine (validSeries_any A' k c' (dbl l) _ (by rw [dbl_len]; exact HL.out) (by omega) hrd11).mono ?_
          rintro e w10 ⟨rfl, hb10⟩
          have hb13 := kept_trans hb11 hb10
          clear hb11 hb10 hrd11
          by_cases hv : vS (dbl l) = true
          · obtain ⟨s1, s2⟩ := scale_law HOK.out hv
            have hs3 : IntKind.i64.wrap (2 * rateN (rngL l x y)) = 2 * rateN (rngL l x y) := IntWalk.i64_in _ (by omega)
            rw [hv, s1, s2]
            clear s1 s2 hv
            go_wp2
            go_ret
            exact ⟨rfl, hb13⟩
          · have hv' : vS (dbl l) = false := by simpa using hv
            rw [hv']
            clear hv hv'
            go_wp2
            go_ret
            exact ⟨rfl, hb13⟩
    · rw [rateB_no hok]
      clear hrd5
      go_wp2
      go_ret
      exact ⟨rfl, hb5⟩
end Go.Proofs.Ytgifppadakmmiaa
