/-
  Walks: validPoint, ValidSeries of both packages.
-/
import Derived.Test.YtiajcnldfdijoaaPtFn
namespace Go.Proofs.Ytiajcnldfdijoaa
open Go.RowKit
set_option maxHeartbeats 400000 in
theorem validPoint_any (a b : Int) (w : World) : Calls Try.prog 41 #[.agg #[.int .i64 a, .int .i64 b]] w fun e w' => e = .returned (.bool (okPt a b)) ∧ Below w.heap.size w w' := by
  go_enter Try.func41, Try.ntmps41
  go_wp2
  all_goals go_ret
  all_goals exact ⟨ret_bool (by rw [Bool.eq_iff_iff]; simp [okPt, inR]; try omega), kept_alloc (Below.refl _ _) _⟩

set_option maxHeartbeats 400000 in
theorem specValidPoint_any (a b : Int) (w : World) : Calls Try.prog 71 #[.agg #[.int .i64 a, .int .i64 b]] w fun e w' => e = .returned (.bool (okPt a b)) ∧ Below w.heap.size w w' := by
  by_cases h : inR a 0 1000 = true
  · go_enter Try.func71, Try.ntmps71
    go_wp2_with fail
    refine (inRange_any _ _ _ _).mono ?_
    rintro e w1 ⟨rfl, rfl⟩
    rw [h]
    go_wp2_with fail
    refine (inRange_any _ _ _ _).mono ?_
    rintro e w1 ⟨rfl, rfl⟩
    go_wp2
    go_ret
    exact ⟨ret_bool (by unfold okPt; rw [h]; rfl), kept_alloc (Below.refl _ _) _⟩
  · have h' : inR a 0 1000 = false := by simpa using h
    go_enter Try.func71, Try.ntmps71
    go_wp2_with fail
    refine (inRange_any _ _ _ _).mono ?_
    rintro e w1 ⟨rfl, rfl⟩
    rw [h']
    go_wp2
    go_ret
    exact ⟨ret_bool (by unfold okPt; rw [h']; rfl), kept_alloc (Below.refl _ _) _⟩

set_option maxHeartbeats 1000000 in
theorem validSeries_any (A : Option Addr) (n c : Nat) (l : List (Int × Int)) (w : World) (hn : l.length = n) (hm : n ≤ 1000000000000) (hr : Rd2 w w.heap.size A l) :
    Calls Try.prog 15 #[.slice A n c] w fun e w' => e = .returned (.bool (vS l)) ∧ Below w.heap.size w w' := by
  have HN := Lib.hid hn
  clear hn
  by_cases h4 : 16 < n
  · go_enter Try.func15, Try.ntmps15
    go_wp2
    go_ret
    exact ⟨ret_bool (vS_long (by rw [HN.out]; exact h4)).symm, Below.refl _ _⟩
  · go_enter Try.func15, Try.ntmps15
    go_wp2
    go_loopw [10] (fun i wr => ∃ k : Nat, k ≤ n ∧ i = .int .i64 k ∧ okPo l k ∧ Below w.heap.size w wr) (fun i _ => n - (intOf i).toNat)
    case atStart => exact ⟨0, by omega, rfl, okPo_zero l, Below.refl _ _⟩
    case round =>
      obtain ⟨k, hk, rfl, hok, hb⟩ := hrel
      by_cases hlt : k < n
      · obtain ⟨b, off, rfl, hbb, hc⟩ := hr.at_ (by rw [HN.out]; omega)
        obtain ⟨hc0, hc1⟩ := hc k (by rw [HN.out]; exact hlt)
        rw [← hb.cell (by exact hbb)] at hc0 hc1
        have hbw : b < wr.heap.size := Nat.lt_of_lt_of_le hbb hb.size
        have hln : k < l.length := by rw [HN.out]; exact hlt
        have hX : 0 < k → wr.cell? ⟨b, off + (k - 1) * 2, none⟩ = some (.int .i64 (x1 l (k - 1))) := fun h => by rw [hb.cell (by exact hbb)]; exact (hc (k - 1) (by rw [HN.out]; omega)).1
        have HX := Lib.hid hX
        clear hc hr hX
        go_wp2_with fail
        have q0 : (wr.alloc (Obj.cells #[Value.int IntKind.i64 (x1 l k), Value.int IntKind.i64 (x2 l k)] 30)).cell? ⟨wr.heap.size, 0, none⟩ = some (.int .i64 (x1 l k)) := by simp
        have q1 : (wr.alloc (Obj.cells #[Value.int IntKind.i64 (x1 l k), Value.int IntKind.i64 (x2 l k)] 30)).cell? ⟨wr.heap.size, 1, none⟩ = some (.int .i64 (x2 l k)) := by simp
        have hbW := kept_alloc hb (Obj.cells #[Value.int IntKind.i64 (x1 l k), Value.int IntKind.i64 (x2 l k)] 30)
        have hX : 0 < k → (wr.alloc (Obj.cells #[Value.int IntKind.i64 (x1 l k), Value.int IntKind.i64 (x2 l k)] 30)).cell? ⟨b, off + (k - 1) * 2, none⟩ = some (.int .i64 (x1 l (k - 1))) := fun h => by
          rw [World.cell?_alloc_lt _ _ ⟨b, off + (k - 1) * 2, none⟩ hbw]; exact HX.out h
        have hlW : wr.heap.size < (wr.alloc (Obj.cells #[Value.int IntKind.i64 (x1 l k), Value.int IntKind.i64 (x2 l k)] 30)).heap.size := by simp
        have HX2 := Lib.hid hX
        clear hX HX hc0 hc1 hb
        generalize (wr.alloc (Obj.cells #[Value.int IntKind.i64 (x1 l k), Value.int IntKind.i64 (x2 l k)] 30)) = W at *
        generalize wr.heap.size = gb at *
        have hbw2 : b < W.heap.size := by omega
        have p0 := kin_cell q0 hlW
        have p1 := kin_cell q1 hlW
        clear q0 q1
        by_cases hv : okPt (x1 l k) (x2 l k) = true
        · by_cases hk0 : k = 0
          · have hz' : decide (0 < k) = false := by simp [hk0]
            have hgood : okP l k := ⟨hv, fun h => absurd hk0 (by omega)⟩
            have H0 := Lib.hid hgood
            clear hk0 hgood
            refine wp_region_kin (by kernel_rfl) (by kernel_rfl) ?_
            repeat (go_big_quiet_step ((go_at_call 41; exact kin_call (validPoint_any _ _ _))))
            refine wpQuiet_nil ?_
            intro _ hw'
            obtain ⟨⟨wq, hq⟩, hw''⟩ := hw'
            subst hw''
            have hb2 := kept_trans hbW hq
            go_wp2
            go_roundw
            case rel => exact ⟨k + 1, by omega, by go_num, okPo_succ hok H0.out, hb2⟩
            case measure => simp [intOf]; omega
          · have hz' : decide (0 < k) = true := by simp; omega
            have hk1 : (1 : Int) ≤ (k : Int) := by omega
            have hk2 : (k : Int) - 1 < (n : Int) := by omega
            have hs1 : IntKind.i64.wrap ((k : Int) - 1) = (k : Int) - 1 := IntWalk.i64_in _ (by omega)
            have hs3 : ((k : Int) - 1).toNat = k - 1 := by omega
            have p2 := kin_cell (HX2.out (by omega)) hbw2
            by_cases hg : x1 l (k - 1) < x1 l k
            · have hgood : okP l k := ⟨hv, fun _ => hg⟩
              have H0 := Lib.hid hgood
              have b1 : decide (x1 l k ≤ x1 l (k - 1)) = false := by simp; exact hg
              clear hk0 hgood
              refine wp_region_kin (by kernel_rfl) (by kernel_rfl) ?_
              repeat (go_big_quiet_step ((go_at_call 41; exact kin_call (validPoint_any _ _ _))))
              refine wpQuiet_nil ?_
              intro _ hw'
              obtain ⟨⟨wq, hq⟩, hw''⟩ := hw'
              subst hw''
              have hb2 := kept_trans hbW hq
              clear p0 p1 p2
              go_wp2
              go_roundw
              case rel => exact ⟨k + 1, by omega, by go_num, okPo_succ hok H0.out, hb2⟩
              case measure => simp [intOf]; omega
            · have hbad : ¬ okP l k := fun h => hg (h.2 (by omega))
              have H0 := Lib.hid hbad
              have b1 : decide (x1 l k ≤ x1 l (k - 1)) = true := by simp; omega
              clear hk0 hbad
              refine wp_region_kin (by kernel_rfl) (by kernel_rfl) ?_
              repeat (go_big_quiet_step ((go_at_call 41; exact kin_call (validPoint_any _ _ _))))
              refine wpQuiet_nil ?_
              intro _ hw'
              obtain ⟨⟨wq, hq⟩, hw''⟩ := hw'
              subst hw''
              have hb2 := kept_trans hbW hq
              clear p0 p1 p2
              go_wp2
              go_ret
              exact ⟨ret_bool (vS_bad hln H0.out).symm, hb2⟩
        · have hv' : okPt (x1 l k) (x2 l k) = false := by simpa using hv
          have hbad : ¬ okP l k := fun h => hv h.1
          have H0 := Lib.hid hbad
          clear hv hbad
          refine wp_region_kin (by kernel_rfl) (by kernel_rfl) ?_
          repeat (go_big_quiet_step ((go_at_call 41; exact kin_call (validPoint_any _ _ _))))
          refine wpQuiet_nil ?_
          intro _ hw'
          obtain ⟨⟨wq, hq⟩, hw''⟩ := hw'
          subst hw''
          have hb2 := kept_trans hbW hq
          clear p0 p1
          go_wp2
          go_ret
          exact ⟨ret_bool (vS_bad hln H0.out).symm, hb2⟩
      · clear hr
        go_wp2
        go_ret
        exact ⟨ret_bool (vS_good (by rw [HN.out]; omega) (by rw [HN.out]; exact (by omega : n = k) ▸ hok)).symm, hb⟩
end Go.Proofs.Ytiajcnldfdijoaa
