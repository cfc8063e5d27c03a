/-
  Walk: Resample of the reference.
-/
import Derived.Test.YtccihfdanbfdeaaResW2
namespace Go.Proofs.Ytccihfdanbfdeaa
open Go.RowKit
theorem inRS {a lo hi : Int} (h1 : lo ≤ a) (h2 : a ≤ hi) : inR a lo hi = true := by unfold inR; simp [h1, h2]
theorem inRS' {a lo hi : Int} (h : inR a lo hi = true) : lo ≤ a ∧ a ≤ hi := by unfold inR at h; simpa using h
set_option maxHeartbeats 4000000 in
theorem specResample_any (A : Option Addr) (n c : Nat) (l : List (Int × Int)) (fr to st : Int) (w : World) (hn : l.length = n) (hm : n ≤ 1000000000000) (hr : Rd2 w w.heap.size A l) :
    Calls Try.prog 14 #[.slice A n c, .int .i64 fr, .int .i64 to, .int .i64 st] w (RetP 30 w (resL l fr to st)) := by
  obtain ⟨i0, hi, hz0, hz1, hz2⟩ := info_parts infoPoint
  have HN := Lib.hid hn
  have kb0 := kept_alloc (Below.refl w.heap.size w) (Obj.cells #[] 30)
  have hO : (w.alloc (Obj.cells #[] 30)).ownsRow w.heap.size 30 2 (.slice (some ⟨w.heap.size, 0, none⟩) 0 0) 0 (cellsL []) := World.ownsRow_made w #[] 0 (Nat.le_refl _) (by unfold maxLen; omega) rfl
  have hr0 := hr.next kb0
  have HRW := Lib.hid hr
  clear hn hr
  go_enter Try.func14, Try.ntmps14
  go_wp2_with fail
  refine (specValidSeries_any A n c l _ HN.out hm hr0).mono ?_
  rintro e w1 ⟨rfl, hb1⟩
  have kb1 := kept_trans kb0 hb1
  have hO1 := own_kept hO hb1
  clear kb0 hO hr0 hb1
  by_cases hv : vS l = true
  · rw [hv]
    have HV := Lib.hid hv
    clear hv
    go_wp2_with fail
    refine (inRange_any _ _ _ _).mono ?_
    rintro e w' ⟨rfl, rfl⟩
    by_cases hf : inR fr 0 1000 = true
    · rw [hf]
      obtain ⟨f0, f1⟩ := inRS' hf
      clear hf
      go_wp2_with fail
      refine (inRange_any _ _ _ _).mono ?_
      rintro e w' ⟨rfl, rfl⟩
      by_cases ht : inR to 0 1000 = true
      · rw [ht]
        obtain ⟨t0, t1⟩ := inRS' ht
        clear ht
        go_wp2_with fail
        refine (inRange_any _ _ _ _).mono ?_
        rintro e w' ⟨rfl, rfl⟩
        by_cases hs : inR st 1 100 = true
        · rw [hs]
          obtain ⟨s0, s1⟩ := inRS' hs
          have hw1 : IntKind.i64.wrap (to - fr) = to - fr := IntWalk.i64_in _ (by omega)
          have hw2 : IntKind.i64.wrap (st * 16) = st * 16 := IntWalk.i64_in _ (by omega)
          clear hs
          by_cases hg : to - fr ≤ st * 16
          · have hd : decide (st * 16 < to - fr) = false := decide_eq_false (by omega)
            have HX := Lib.hid (resL_ok (l := l) (fr := fr) (to := to) (st := st) ⟨HV.out, ⟨f0, f1⟩, ⟨t0, t1⟩, ⟨s0, s1⟩, hg⟩)
            have HG := Lib.hid hg
            clear hg
            go_wp2
            go_loopw [9, 10] (fun v i wr => ∃ (k m : Nat) (t : Int) (A' : Option Addr) (c' : Nat) (pre : List (Int × Int)), v = .slice A' m c' ∧ i = .int .i64 t ∧ k ≤ 16 ∧ pre.length = m ∧ m ≤ k ∧ t = fr + st * (k : Int) ∧ 0 ≤ t ∧ t ≤ 1100 ∧
                pre ++ resF l to st (16 - k) t = resF l to st 16 fr ∧ wr.ownsRow w.heap.size 30 2 (.slice A' m c') m (cellsL pre) ∧ Below w.heap.size w wr) (fun _ i _ => (1200 - intOf i).toNat)
            case atStart => exact ⟨0, 0, fr, _, _, [], rfl, rfl, by omega, rfl, by omega, by simp, by omega, by omega, rfl, hO1, kb1⟩
            case round =>
              obtain ⟨k, m, t, A', c', pre, rfl, rfl, hk, hpm, hmk, ht, ht0, ht1, hpre, hown, hb⟩ := hrel
              have HT := Lib.hid ht
              have HP := Lib.hid hpre
              have HL := Lib.hid hpm
              clear ht hpre hpm hO1 kb1
              by_cases hlt : t < to
              · have hk15 : k ≤ 15 := by
                  rcases Nat.lt_or_ge k 16 with h | h
                  · omega
                  · exact absurd HG.out (grid_over HT.out (by omega) hlt)
                have hstep := resF_step l st (15 - k) hlt
                rw [show 15 - k + 1 = 16 - k by omega] at hstep
                have HS := Lib.hid hstep
                have hws : IntKind.i64.wrap (t + st) = t + st := IntWalk.i64_in _ (by omega)
                have hr2 := HRW.out.next hb
                clear hk hstep
                rcases hO : valO l t with _ | v
                · have HO := Lib.hid hO
                  clear hO
                  go_wp2_with fail
                  refine (specValueAt_any A n c l t _ HN.out hm hr2).mono ?_
                  rintro e w2 ⟨rfl, hb2⟩
                  rw [HO.out]
                  have hown2 := own_kept hown hb2
                  have hbW := kept_trans hb hb2
                  clear hown hb hb2 hr2
                  unfold optV
                  go_wp2
                  go_roundw
                  case rel =>
                    refine ⟨k + 1, m, t + st, A', c', pre, rfl, rfl, by omega, HL.out, by omega, grid_next HT.out, by omega, by omega, ?_, hown2, hbW⟩
                    rw [← HP.out, HS.out, HO.out, show 16 - (k + 1) = 15 - k by omega]; rfl
                  case measure => simp [intOf]; omega
                · have HO := Lib.hid hO
                  clear hO
                  go_wp2_with fail
                  refine (specValueAt_any A n c l t _ HN.out hm hr2).mono ?_
                  rintro e w2 ⟨rfl, hb2⟩
                  rw [HO.out]
                  have hownV := own_kept hown hb2
                  have hbW := kept_trans hb hb2
                  have hwr := hbW.size
                  clear hown hb hb2 hr2
                  unfold optV
                  go_wp2_with (at_builtin; refine wpList_append_lies _ rfl _ _ _ rfl (w.heap.size) 30 i0 _ 2 16 Try.underlying23 hi hz0 hz1 hz2 rfl (by omega) _ (m) (cellsL pre) rfl ((hownV).alloc _) ⟨w2.heap.size, 0, none⟩ 1 1 ([.int .i64 t, .int .i64 v]) rfl rfl (World.news_of_block (cs := ([.int .i64 t, .int .i64 v]).toArray) (t := 30) (fr := (0, 0)) (heap_alloc_new w2 _)) (by simp [Value.oneCell']) (by omega) (by simp only [maxLen]; omega) (by omega) (by simp; omega) (w2.heap.size + 1) (by simp) ?_; intro gg cap w2 hown2 hgrow hat hlt2)
                  have hbW2 := below_app' hbW hownV hgrow
                  clear hgrow hat hownV
                  go_wp2
                  go_roundw
                  case rel =>
                    refine ⟨k + 1, m + 1, t + st, _, _, pre ++ [(t, v)], rfl, rfl, by omega, by rw [List.length_append, HL.out]; rfl, by omega, grid_next HT.out, by omega, by omega, ?_, by rw [cellsL_snoc]; exact hown2, hbW2⟩
                    rw [← HP.out, HS.out, HO.out, show 16 - (k + 1) = 15 - k by omega, List.append_assoc]; rfl
                  case measure => simp [intOf]; omega
              · have hE := HP.out
                rw [resF_end l st _ (by omega), List.append_nil] at hE
                have HE := Lib.hid hE
                clear hE
                go_wp2
                go_ret
                refine ⟨A', c', ?_, ?_, hb⟩
                · rw [HX.out, ← HE.out, HL.out]; rfl
                · rw [HX.out, ← HE.out, HL.out]; exact hown
          · have hd : decide (st * 16 < to - fr) = true := decide_eq_true (by omega)
            have HX := Lib.hid (resL_no (l := l) (fr := fr) (to := to) (st := st) fun kk => hg kk.2.2.2.2)
            clear hg hO1
            go_wp2
            go_ret
            exact retP_nil HX.out kb1
        · have hs' : inR st 1 100 = false := by simpa using hs
          rw [hs']
          have HX := Lib.hid (resL_no (l := l) (fr := fr) (to := to) (st := st) fun kk => hs (inRS kk.2.2.2.1.1 kk.2.2.2.1.2))
          clear hO1 hs hs'
          go_wp2
          go_ret
          exact retP_nil HX.out kb1
      · have ht' : inR to 0 1000 = false := by simpa using ht
        rw [ht']
        have HX := Lib.hid (resL_no (l := l) (fr := fr) (to := to) (st := st) fun kk => ht (inRS kk.2.2.1.1 kk.2.2.1.2))
        clear hO1 ht ht'
        go_wp2
        go_ret
        exact retP_nil HX.out kb1
    · have hf' : inR fr 0 1000 = false := by simpa using hf
      rw [hf']
      have HX := Lib.hid (resL_no (l := l) (fr := fr) (to := to) (st := st) fun kk => hf (inRS kk.2.1.1 kk.2.1.2))
      clear hO1 hf hf'
      go_wp2
      go_ret
      exact retP_nil HX.out kb1
  · have hv' : vS l = false := by simpa using hv
    rw [hv']
    have HX := Lib.hid (resL_no (l := l) (fr := fr) (to := to) (st := st) fun kk => hv kk.1)
    clear hO1 hv hv'
    go_wp2
    go_ret
    exact retP_nil HX.out kb1
end Go.Proofs.Ytccihfdanbfdeaa
