/-
  Walk: Resample of the program.
-/
import Derived.Test.YtccihfdanbfdeaaResW1
import Derived.Test.YtccihfdanbfdeaaPtW4
namespace Go.Proofs.Ytccihfdanbfdeaa
open Go.RowKit
theorem grid_next {fr st t : Int} {k : Nat} (h : t = fr + st * (k : Int)) : t + st = fr + st * ((k + 1 : Nat) : Int) := by
  rw [h, Int.natCast_add, Int.mul_add]; simp; omega
theorem grid_end {fr to st t : Int} {k : Nat} (h : t = fr + st * (k : Int)) (hk : k ≤ 16) (hs : 1 ≤ st) (ht : to ≤ t) : to - fr ≤ st * 16 := by
  have h2 : st * (k : Int) ≤ st * 16 := Int.mul_le_mul_of_nonneg_left (by omega) (by omega)
  omega
theorem grid_over {fr to st t : Int} {k : Nat} (h : t = fr + st * (k : Int)) (hk : k = 16) (ht : t < to) : ¬ to - fr ≤ st * 16 := by
  subst hk
  have : ((16 : Nat) : Int) = 16 := rfl
  rw [this] at h; omega
theorem res_none {l : List (Int × Int)} {fr to st : Int} (h : ¬ (vS l = true ∧ (0 ≤ fr ∧ fr ≤ 1000) ∧ (0 ≤ to ∧ to ≤ 1000) ∧ (1 ≤ st ∧ st ≤ 100))) : resL l fr to st = [] := resL_no fun k => h ⟨k.1, k.2.1, k.2.2.1, k.2.2.2.1⟩
theorem retP_nil {T : TypeId} {w w' : World} {l : List (Int × Int)} (h : l = []) (hb : Below w.heap.size w w') : RetP T w l (.returned (.slice none 0 0)) w' := by
  subst h; exact ⟨none, 0, rfl, World.ownsRow_nil _ _ _ _, hb⟩
theorem ptO_snoc (pre : List (Int × Int)) (t v : Int) : pre ++ ptO t (some v) = pre ++ [(t, v)] := rfl
set_option maxHeartbeats 4000000 in
theorem resample_any (A : Option Addr) (n c : Nat) (l : List (Int × Int)) (fr to st : Int) (w : World) (hn : l.length = n) (hm : n ≤ 1000000000000) (hr : Rd2 w w.heap.size A l) :
    Calls Try.prog 16 #[.slice A n c, .int .i64 fr, .int .i64 to, .int .i64 st] w (RetP 30 w (resL l fr to st)) := by
  obtain ⟨i0, hi, hz0, hz1, hz2⟩ := info_parts infoPoint
  have HN := Lib.hid hn
  clear hn
  by_cases hok : vS l = true ∧ (0 ≤ fr ∧ fr ≤ 1000) ∧ (0 ≤ to ∧ to ≤ 1000) ∧ (1 ≤ st ∧ st ≤ 100)
  · obtain ⟨hv, ⟨f0, f1⟩, ⟨t0, t1⟩, s0, s1⟩ := hok
    have hd1 : decide (fr < 0) = false := decide_eq_false (by omega)
    have hd2 : decide (1000 < fr) = false := decide_eq_false (by omega)
    have hd3 : decide (to < 0) = false := decide_eq_false (by omega)
    have hd4 : decide (1000 < to) = false := decide_eq_false (by omega)
    have hd5 : decide (st < 1) = false := decide_eq_false (by omega)
    have hd6 : decide (100 < st) = false := decide_eq_false (by omega)
    go_enter Try.func16, Try.ntmps16
    go_wp2_with fail
    refine (validSeries_any A n c l _ HN.out hm hr).mono ?_
    rintro e w1 ⟨rfl, hb1⟩
    rw [hv]
    have HV := Lib.hid hv
    clear hv
    go_wp2
    go_loopw [9, 10, 11] (fun v q i wr => ∃ (k m : Nat) (t : Int) (A' : Option Addr) (c' : Nat) (pre : List (Int × Int)), v = .slice A' m c' ∧ q = .int .i64 k ∧ i = .int .i64 t ∧ k ≤ 16 ∧ pre.length = m ∧ m ≤ k ∧ t = fr + st * (k : Int) ∧ 0 ≤ t ∧ t ≤ 1100 ∧
        pre ++ resF l to st (16 - k) t = resF l to st 16 fr ∧ wr.ownsRow w.heap.size 30 2 (.slice A' m c') m (cellsL pre) ∧ Below w.heap.size w wr) (fun _ _ i _ => (1200 - intOf i).toNat)
    case atStart => exact ⟨0, 0, fr, none, 0, [], rfl, rfl, rfl, by omega, rfl, by omega, by simp, by omega, by omega, rfl, World.ownsRow_nil _ _ _ _, hb1⟩
    case round =>
      obtain ⟨k, m, t, A', c', pre, rfl, rfl, rfl, hk, hpm, hmk, ht, ht0, ht1, hpre, hown, hb⟩ := hrel
      have HT := Lib.hid ht
      have HP := Lib.hid hpre
      have HL := Lib.hid hpm
      clear hb1 ht hpre hpm
      by_cases hlt : t < to
      · by_cases hk16 : k = 16
        · have HX := Lib.hid (resL_no (l := l) (fr := fr) (to := to) (st := st) fun kk => grid_over HT.out hk16 hlt kk.2.2.2.2)
          clear hk hr hown
          subst hk16
          go_wp2
          go_ret
          exact retP_nil HX.out hb
        · have hq : decide ((16 : Int) < (k : Int) + 1) = false := decide_eq_false (by omega)
          have hq2 : ¬ (16 : Int) < (k : Int) + 1 := by omega
          have hk15 : k ≤ 15 := by omega
          have hstep := resF_step l st (15 - k) hlt
          rw [show 15 - k + 1 = 16 - k by omega] at hstep
          have HS := Lib.hid hstep
          have hws : IntKind.i64.wrap (t + st) = t + st := IntWalk.i64_in _ (by omega)
          have hr1 := hr.next hb
          clear hk16 hk hstep hr
          rcases hO : valO l t with _ | v
          · have HO := Lib.hid hO
            clear hO
            go_wp2_with fail
            refine (valueAtO_any A n c l t _ HN.out hm hr1).mono ?_
            rintro e w2 ⟨rfl, hb2⟩
            rw [HO.out]
            have hown2 := own_kept hown hb2
            have hbW := kept_trans hb hb2
            clear hown hb hb2 hr1
            unfold optV
            go_wp2
            go_roundw
            case rel =>
              refine ⟨k + 1, m, t + st, A', c', pre, rfl, by go_num, rfl, by omega, HL.out, by omega, grid_next HT.out, by omega, by omega, ?_, hown2, hbW⟩
              rw [← HP.out, HS.out, HO.out, show 16 - (k + 1) = 15 - k by omega]; rfl
            case measure => simp [intOf]; omega
          · have HO := Lib.hid hO
            clear hO
            go_wp2_with fail
            refine (valueAtO_any A n c l t _ HN.out hm hr1).mono ?_
            rintro e w2 ⟨rfl, hb2⟩
            rw [HO.out]
            have hownV := own_kept hown hb2
            have hbW := kept_trans hb hb2
            have hwr := hbW.size
            clear hown hb hb2 hr1
            unfold optV
            go_wp2_with (at_builtin; refine wpList_append_lies _ rfl _ _ _ rfl (w.heap.size) 30 i0 _ 2 16 Try.underlying23 hi hz0 hz1 hz2 rfl (by omega) _ (m) (cellsL pre) rfl ((hownV).alloc _) ⟨w2.heap.size, 0, none⟩ 1 1 ([.int .i64 t, .int .i64 v]) rfl rfl (World.news_of_block (cs := ([.int .i64 t, .int .i64 v]).toArray) (t := 30) (fr := (0, 0)) (heap_alloc_new w2 _)) (by simp [Value.oneCell']) (by omega) (by simp only [maxLen]; omega) (by omega) (by simp; omega) (w2.heap.size + 1) (by simp) ?_; intro gg cap w2 hown2 hgrow hat hlt2)
            have hbW2 := below_app' hbW hownV hgrow
            clear hgrow hat hownV
            go_wp2
            go_roundw
            case rel =>
              refine ⟨k + 1, m + 1, t + st, _, _, pre ++ [(t, v)], rfl, by go_num, rfl, by omega, by rw [List.length_append, HL.out]; rfl, by omega, grid_next HT.out, by omega, by omega, ?_, by rw [cellsL_snoc]; exact hown2, hbW2⟩
              rw [← HP.out, HS.out, HO.out, show 16 - (k + 1) = 15 - k by omega, List.append_assoc]; rfl
            case measure => simp [intOf]; omega
      · have hE := HP.out
        rw [resF_end l st _ (by omega), List.append_nil] at hE
        have HX := Lib.hid (resL_ok (l := l) (fr := fr) (to := to) (st := st) ⟨HV.out, ⟨f0, f1⟩, ⟨t0, t1⟩, ⟨s0, s1⟩, grid_end HT.out hk s0 (by omega)⟩)
        have HE := Lib.hid hE
        clear hE hr
        go_wp2
        go_ret
        refine ⟨A', c', ?_, ?_, hb⟩
        · rw [HX.out, ← HE.out, HL.out]; rfl
        · rw [HX.out, ← HE.out, HL.out]; exact hown
  · have HR := Lib.hid (res_none hok)
    by_cases hv : vS l = true
    · go_enter Try.func16, Try.ntmps16
      go_wp2_with fail
      refine (validSeries_any A n c l _ HN.out hm hr).mono ?_
      rintro e w1 ⟨rfl, hb1⟩
      rw [hv]
      have HB := Lib.hid hb1
      have HK := Lib.hid hok
      have HVV := Lib.hid hv
      clear hok hb1 hr hv
      by_cases a1 : fr < 0
      · have e0 : decide (fr < 0) = true := decide_eq_true a1
        clear a1 
        go_wp2
        go_ret
        exact retP_nil HR.out HB.out
      · have e0 : decide (fr < 0) = false := decide_eq_false a1
        by_cases a2 : 1000 < fr
        · have e1 : decide (1000 < fr) = true := decide_eq_true a2
          clear a2 a1
          go_wp2
          go_ret
          exact retP_nil HR.out HB.out
        · have e1 : decide (1000 < fr) = false := decide_eq_false a2
          by_cases a3 : to < 0
          · have e2 : decide (to < 0) = true := decide_eq_true a3
            clear a3 a1 a2
            go_wp2
            go_ret
            exact retP_nil HR.out HB.out
          · have e2 : decide (to < 0) = false := decide_eq_false a3
            by_cases a4 : 1000 < to
            · have e3 : decide (1000 < to) = true := decide_eq_true a4
              clear a4 a1 a2 a3
              go_wp2
              go_ret
              exact retP_nil HR.out HB.out
            · have e3 : decide (1000 < to) = false := decide_eq_false a4
              by_cases a5 : st < 1
              · have e4 : decide (st < 1) = true := decide_eq_true a5
                clear a5 a1 a2 a3 a4
                go_wp2
                go_ret
                exact retP_nil HR.out HB.out
              · have e4 : decide (st < 1) = false := decide_eq_false a5
                by_cases a6 : 100 < st
                · have e5 : decide (100 < st) = true := decide_eq_true a6
                  clear a6 a1 a2 a3 a4 a5
                  go_wp2
                  go_ret
                  exact retP_nil HR.out HB.out
                · have e5 : decide (100 < st) = false := decide_eq_false a6
                  exact absurd ⟨HVV.out, ⟨by omega, by omega⟩, ⟨by omega, by omega⟩, by omega, by omega⟩ HK.out
    · have hv' : vS l = false := by simpa using hv
      go_enter Try.func16, Try.ntmps16
      go_wp2_with fail
      refine (validSeries_any A n c l _ HN.out hm hr).mono ?_
      rintro e w1 ⟨rfl, hb1⟩
      rw [hv']
      go_wp2
      go_ret
      exact retP_nil HR.out hb1
end Go.Proofs.Ytccihfdanbfdeaa
