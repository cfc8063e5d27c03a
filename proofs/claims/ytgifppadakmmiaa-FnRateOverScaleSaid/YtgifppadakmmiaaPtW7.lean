/-
  Walks: Resets of both packages.
-/
import Derived.Test.YtgifppadakmmiaaPtW6
namespace Go.Proofs.Ytgifppadakmmiaa
open Go.RowKit
theorem resets_ok {l : List (Int × Int)} {fr to : Int} (h : okS l fr to = true) : resets l fr to = dropTo (rngL l fr to) (rngL l fr to).length := by unfold resets; rw [if_pos h]
theorem resets_no {l : List (Int × Int)} {fr to : Int} (h : okS l fr to = false) : resets l fr to = -1 := by unfold resets; rw [h]; rfl
theorem dropTo_yes {l : List (Int × Int)} {k : Nat} (h0 : 0 < k) (h : x2 l k < x2 l (k - 1)) : dropTo l (k + 1) = dropTo l k + 1 := by
  conv => lhs; unfold dropTo drop1
  rw [if_pos h0, if_pos h]
theorem dropTo_no {l : List (Int × Int)} {k : Nat} (h : ¬ x2 l k < x2 l (k - 1)) : dropTo l (k + 1) = dropTo l k := by
  conv => lhs; unfold dropTo drop1
  rw [if_neg h]; split <;> omega
theorem dropTo_end {l : List (Int × Int)} {k : Nat} (h : l.length ≤ k) (hk : k ≤ l.length ∨ k = 1) : dropTo l k = dropTo l l.length := by
  rcases hk with h1 | h1
  · have : k = l.length := by omega
    rw [this]
  · subst h1
    rcases Nat.eq_zero_or_pos l.length with h2 | h2
    · rw [h2]; simp [dropTo, drop1]
    · have : l.length = 1 := by omega
      rw [this]
set_option maxHeartbeats 1000000 in
theorem resets_any (A : Option Addr) (n c : Nat) (l : List (Int × Int)) (fr to : Int) (w : World) (hn : l.length = n) (hm : n ≤ 1000000000000) (hc : n ≤ c) (hr : Rd2 w w.heap.size A l) :
    Calls Try.prog 47 #[.slice A n c, .int .i64 fr, .int .i64 to] w fun e w' => e = .returned (.int .i64 (resets l fr to)) ∧ Below w.heap.size w w' := by
  by_cases ho : okS l fr to = true
  · have hB := rngL_bd l fr to
    have HR := Lib.hid (resets_ok ho)
    have hV := VS_of (okS_t ho).1
    have hR := okR_t (okS_t ho).2
    have hn16 : n ≤ 16 := by rw [← hn]; exact hV.1
    have HO := Lib.hid ho
    clear ho hV
    go_enter Try.func47, Try.ntmps47
    go_wp2_with fail
    refine (validRange_any A n c l fr to _ hn hm hr).mono ?_
    rintro e w0 ⟨rfl, hb0⟩
    rw [HO.out]
    go_wp2_with fail
    refine (rangeOf_any A n c l fr to _ hn hm hc (hr.next hb0)).mono ?_
    rintro e w1 ⟨A6, c6, rfl, hown6, hb1'⟩
    have hr6 := own_rd2 hown6 rfl
    have hb1 := kept_trans hb0 hb1'
    clear hown6 hr hn hm hc HO hb0 hb1' hR hn16
    generalize hl6 : rngL l fr to = l6 at *
    clear hl6
    have HB := Lib.hid hB
    have h16 : l6.length ≤ 16 := hB.1
    clear hB
    generalize hm6 : l6.length = m at *
    have HM := Lib.hid hm6
    clear hm6
    go_wp2
    go_loopw [8, 9] (fun v i wr => ∃ k : Nat, 1 ≤ k ∧ (k ≤ m ∨ k = 1) ∧ i = .int .i64 k ∧ v = .int .i64 (dropTo l6 k) ∧ Below w.heap.size w wr ∧ Below w1.heap.size w1 wr) (fun _ i _ => m + 1 - (intOf i).toNat)
    case atStart => exact ⟨1, by omega, by omega, rfl, rfl, hb1, Below.refl _ _⟩
    case round =>
      obtain ⟨k, hk1', hk, rfl, rfl, hb, hbb1⟩ := hrel
      by_cases hlt : k < m
      · have hlt' : k < l6.length := by rw [HM.out]; exact hlt
        obtain ⟨b, off, rfl, hbb, hc⟩ := hr6.at_ (by omega)
        have hc1 := (hc k hlt').2
        have hd1 := (hc (k - 1) (by omega)).2
        rw [← hbb1.cell (by exact hbb)] at hc1 hd1
        have hki : (k : Int) < (m : Int) := by omega
        have hk1 : (1 : Int) ≤ (k : Int) := by omega
        have hk2 : (k : Int) - 1 < (m : Int) := by omega
        have hs1 : IntKind.i64.wrap ((k : Int) - 1) = (k : Int) - 1 := IntWalk.i64_in _ (by omega)
        have hs3 : ((k : Int) - 1).toNat = k - 1 := by omega
        have e1 := dropTo_bd l6 k
        clear hc hr6 hlt'
        by_cases hg : x2 l6 k < x2 l6 (k - 1)
        · have hs : IntKind.i64.wrap (dropTo l6 k + 1) = dropTo l6 (k + 1) := by
            rw [dropTo_yes (by omega) hg]; exact IntWalk.i64_in _ (by omega)
          have hgd : decide (x2 l6 k < x2 l6 (k - 1)) = true := decide_eq_true hg
          clear hg e1 hk1'
          go_wp2_with fail
          go_quiet (fail)
          go_wp2
          go_roundw
          case rel => exact ⟨k + 1, by omega, by omega, by go_num, rfl, kept_drewN hb _, kept_drewN hbb1 _⟩
          case measure => simp [intOf]; omega
        · have hs : dropTo l6 k = dropTo l6 (k + 1) := (dropTo_no hg).symm
          have hgd : decide (x2 l6 k < x2 l6 (k - 1)) = false := decide_eq_false hg
          clear hg e1 hk1'
          have HS := Lib.hid hs
          clear hs
          go_wp2_with fail
          go_quiet (fail)
          go_wp2
          go_roundw
          case rel => exact ⟨k + 1, by omega, by omega, by go_num, by rw [← HS.out], kept_drewN hb _, kept_drewN hbb1 _⟩
          case measure => simp [intOf]; omega
      · clear hr6
        have HE := Lib.hid (dropTo_end (l := l6) (k := k) (by rw [HM.out]; omega) (by rw [HM.out]; omega))
        go_wp2
        go_ret
        exact ⟨ret_int (by rw [HR.out, HE.out, HM.out]), hb⟩
  · have ho' : okS l fr to = false := by simpa using ho
    have HR := Lib.hid (resets_no ho')
    go_enter Try.func47, Try.ntmps47
    go_wp2_with fail
    refine (validRange_any A n c l fr to _ hn hm hr).mono ?_
    rintro e w0 ⟨rfl, hb0⟩
    rw [ho']
    go_wp2
    go_ret
    exact ⟨ret_int HR.out.symm, hb0⟩

set_option maxHeartbeats 1000000 in
theorem specResets_any (A : Option Addr) (n c : Nat) (l : List (Int × Int)) (fr to : Int) (w : World) (hn : l.length = n) (hm : n ≤ 1000000000000) (hr : Rd2 w w.heap.size A l) :
    Calls Try.prog 48 #[.slice A n c, .int .i64 fr, .int .i64 to] w fun e w' => e = .returned (.int .i64 (resets l fr to)) ∧ Below w.heap.size w w' := by
  by_cases ho : okS l fr to = true
  · have hB := rngL_bd l fr to
    have HR := Lib.hid (resets_ok ho)
    have hV := VS_of (okS_t ho).1
    have hR := okR_t (okS_t ho).2
    have hn16 : n ≤ 16 := by rw [← hn]; exact hV.1
    have HO := Lib.hid ho
    clear ho hV
    go_enter Try.func48, Try.ntmps48
    go_wp2_with fail
    refine (askable_any A n c l fr to _ hn hm hr).mono ?_
    rintro e w0 ⟨rfl, hb0⟩
    rw [HO.out]
    go_wp2_with fail
    refine (part_any A n c l fr to _ hn hn16 (hr.next hb0) (by omega) (by omega)).mono ?_
    rw [← rngL_ok HO.out]
    rintro e w1 ⟨A6, c6, rfl, hown6, hb1'⟩
    have hr6 := own_rd2 hown6 rfl
    have hb1 := kept_trans hb0 hb1'
    clear hown6 hr hn hm HO hb0 hb1' hR hn16
    generalize hl6 : rngL l fr to = l6 at *
    clear hl6
    have HB := Lib.hid hB
    have h16 : l6.length ≤ 16 := hB.1
    clear hB
    generalize hm6 : l6.length = m at *
    have HM := Lib.hid hm6
    clear hm6
    go_wp2
    go_loopw [7, 9] (fun v i wr => ∃ k : Nat, 1 ≤ k ∧ (k ≤ m ∨ k = 1) ∧ i = .int .i64 k ∧ v = .int .i64 (dropTo l6 k) ∧ Below w.heap.size w wr ∧ Below w1.heap.size w1 wr) (fun _ i _ => m + 1 - (intOf i).toNat)
    case atStart => exact ⟨1, by omega, by omega, rfl, rfl, hb1, Below.refl _ _⟩
    case round =>
      obtain ⟨k, hk1', hk, rfl, rfl, hb, hbb1⟩ := hrel
      by_cases hlt : k < m
      · have hlt' : k < l6.length := by rw [HM.out]; exact hlt
        obtain ⟨b, off, rfl, hbb, hc⟩ := hr6.at_ (by omega)
        have hc1 := (hc k hlt').2
        have hd1 := (hc (k - 1) (by omega)).2
        rw [← hbb1.cell (by exact hbb)] at hc1 hd1
        have hki : (k : Int) < (m : Int) := by omega
        have hk1 : (1 : Int) ≤ (k : Int) := by omega
        have hk2 : (k : Int) - 1 < (m : Int) := by omega
        have hs1 : IntKind.i64.wrap ((k : Int) - 1) = (k : Int) - 1 := IntWalk.i64_in _ (by omega)
        have hs3 : ((k : Int) - 1).toNat = k - 1 := by omega
        have e1 := dropTo_bd l6 k
        clear hc hr6 hlt'
        by_cases hg : x2 l6 k < x2 l6 (k - 1)
        · have hs : IntKind.i64.wrap (dropTo l6 k + 1) = dropTo l6 (k + 1) := by
            rw [dropTo_yes (by omega) hg]; exact IntWalk.i64_in _ (by omega)
          have hgd : decide (x2 l6 k < x2 l6 (k - 1)) = true := decide_eq_true hg
          have hbw : b < wr.heap.size := Nat.lt_of_lt_of_le hbb hbb1.size
          have p0 := kin_cell hc1 hbw
          have p1 := kin_cell hd1 hbw
          clear hg e1 hk1' hc1 hd1
          go_wp2_with fail
          refine wp_region_kin (by kernel_rfl) (by kernel_rfl) ?_
          repeat (go_big_quiet_step ((go_at_call 81; exact kin_same (toInt_any _ _))))
          refine wpQuiet_nil ?_
          intro _ hw'
          obtain ⟨⟨wq, hq⟩, hw''⟩ := hw'
          subst hw''
          go_wp2
          go_roundw
          case rel => exact ⟨k + 1, by omega, by omega, by go_num, rfl, kept_trans hb hq, kept_trans hbb1 hq⟩
          case measure => simp [intOf]; omega
        · have hs : dropTo l6 k = dropTo l6 (k + 1) := (dropTo_no hg).symm
          have hgd : decide (x2 l6 k < x2 l6 (k - 1)) = false := decide_eq_false hg
          have hs0 : IntKind.i64.wrap (dropTo l6 k) = dropTo l6 k := IntWalk.i64_in _ (by omega)
          have hbw : b < wr.heap.size := Nat.lt_of_lt_of_le hbb hbb1.size
          have p0 := kin_cell hc1 hbw
          have p1 := kin_cell hd1 hbw
          clear hg e1 hk1' hc1 hd1
          have HS := Lib.hid hs
          clear hs
          go_wp2_with fail
          refine wp_region_kin (by kernel_rfl) (by kernel_rfl) ?_
          repeat (go_big_quiet_step ((go_at_call 81; exact kin_same (toInt_any _ _))))
          refine wpQuiet_nil ?_
          intro _ hw'
          obtain ⟨⟨wq, hq⟩, hw''⟩ := hw'
          subst hw''
          go_wp2
          go_roundw
          case rel => exact ⟨k + 1, by omega, by omega, by go_num, by rw [← HS.out], kept_trans hb hq, kept_trans hbb1 hq⟩
          case measure => simp [intOf]; omega
      · clear hr6
        have HE := Lib.hid (dropTo_end (l := l6) (k := k) (by rw [HM.out]; omega) (by rw [HM.out]; omega))
        go_wp2
        go_ret
        exact ⟨ret_int (by rw [HR.out, HE.out, HM.out]), hb⟩
  · have ho' : okS l fr to = false := by simpa using ho
    have HR := Lib.hid (resets_no ho')
    go_enter Try.func48, Try.ntmps48
    go_wp2_with fail
    refine (askable_any A n c l fr to _ hn hm hr).mono ?_
    rintro e w0 ⟨rfl, hb0⟩
    rw [ho']
    go_wp2
    go_ret
    exact ⟨ret_int HR.out.symm, hb0⟩

end Go.Proofs.Ytgifppadakmmiaa
