/-
  Walks: RateOver of both packages.
-/
import Derived.Test.YtgifppadakmmiaaPtW7
namespace Go.Proofs.Ytgifppadakmmiaa
open Go.RowKit
theorem growTo_first {l : List (Int × Int)} {k : Nat} (h : k = 0) : growTo l k = growTo l (k + 1) := by subst h; simp [growTo, grow]
theorem growTo_down {l : List (Int × Int)} {k : Nat} (h0 : 0 < k) (h : x2 l k < x2 l (k - 1)) : growTo l (k + 1) = growTo l k + x2 l k := by
  conv => lhs; unfold growTo grow
  rw [if_pos h0, if_pos h]
theorem growTo_up {l : List (Int × Int)} {k : Nat} (h0 : 0 < k) (h : ¬ x2 l k < x2 l (k - 1)) : growTo l (k + 1) = growTo l k + (x2 l k - x2 l (k - 1)) := by
  conv => lhs; unfold growTo grow
  rw [if_pos h0, if_neg h]
theorem tup_ret {v v' : Value} (h : v = v') : Ending.returned v = Ending.returned v' := by rw [h]
set_option maxHeartbeats 1000000 in
theorem rateOver_any (A : Option Addr) (n c : Nat) (l : List (Int × Int)) (fr to : Int) (w : World) (hn : l.length = n) (hm : n ≤ 1000000000000) (hc : n ≤ c) (hr : Rd2 w w.heap.size A l) :
    Calls Try.prog 32 #[.slice A n c, .int .i64 fr, .int .i64 to] w fun e w' => e = .returned (rateV (rngL l fr to)) ∧ Below w.heap.size w w' := by
  go_enter Try.func32, Try.ntmps32
  go_wp2_with fail
  refine (rangeOf_any A n c l fr to _ hn hm hc hr).mono ?_
  rintro e w1 ⟨A6, c6, rfl, hown6, hb1⟩
  have hr6 := own_rd2 hown6 rfl
  have hB := rngL_bd l fr to
  clear hown6 hr hn hm hc
  generalize hl6 : rngL l fr to = l6 at *
  have HL := Lib.hid hl6
  clear hl6
  have HB := Lib.hid hB
  have h16 : l6.length ≤ 16 := hB.1
  clear hB
  generalize hm6 : l6.length = m at *
  have HM := Lib.hid hm6
  clear hm6
  by_cases hm2 : m < 2
  · go_wp2
    go_ret2
    exact ⟨tup_ret (by rw [HL.out]; exact (rateV_short (by rw [HM.out]; exact hm2)).symm), hb1⟩
  · go_wp2
    go_loopw [9, 21] (fun v i wr => ∃ k : Nat, k ≤ m ∧ i = .int .i64 k ∧ v = .int .i64 (growTo l6 k) ∧ posTo l6 k ∧ Below w.heap.size w wr ∧ Below w1.heap.size w1 wr) (fun _ i _ => m - (intOf i).toNat)
    case atStart => exact ⟨0, by omega, rfl, rfl, posTo_zero l6, hb1, Below.refl _ _⟩
    case round =>
      obtain ⟨k, hk, rfl, rfl, hpos, hb, hbb1⟩ := hrel
      have HP := Lib.hid hpos
      clear hpos
      by_cases hlt : k < m
      · have hlt' : k < l6.length := by rw [HM.out]; exact hlt
        obtain ⟨b, off, rfl, hbb, hc⟩ := hr6.at_ (by omega)
        obtain ⟨hc0, hc1⟩ := hc k hlt'
        rw [← hbb1.cell (by exact hbb)] at hc0 hc1
        have hbw : b < wr.heap.size := Nat.lt_of_lt_of_le hbb hbb1.size
        have e1 := growTo_bd HB.out (k := k) (by omega) HP.out
        have e2 := HB.out.2 k hlt'
        have HLT := Lib.hid hlt'
        clear hlt'
        by_cases hneg : 0 ≤ x2 l6 k
        · have HPS := Lib.hid (posTo_succ HP.out hneg)
          have tneg : decide (x2 l6 k < 0) = false := decide_eq_false (by omega)
          by_cases hk0 : k = 0
          · have hG := Lib.hid (growTo_first (l := l6) hk0)
            have hk0' : ((k : Int) == 0) = true := by simp [hk0]
            clear hc hr6 e1 e2 hbw hneg hk0
            go_wp2
            go_roundw
            case rel => exact ⟨k + 1, by omega, by go_num, by rw [← hG.out], HPS.out, kept_alloc hb _, kept_alloc hbb1 _⟩
            case measure => simp [intOf]; omega
          · have hk0' : ((k : Int) == 0) = false := by simp; omega
            have hk1 : (1 : Int) ≤ (k : Int) := by omega
            have hk2 : (k : Int) - 1 < (m : Int) := by omega
            have hs1 : IntKind.i64.wrap ((k : Int) - 1) = (k : Int) - 1 := IntWalk.i64_in _ (by omega)
            have hs3 : ((k : Int) - 1).toNat = k - 1 := by omega
            have hd1 := (hc (k - 1) (by have := HLT.out; omega)).2
            rw [← hbb1.cell (by exact hbb)] at hd1
            have e3 := HB.out.2 (k - 1) (by have := HLT.out; omega)
            have e4 := HP.out (k - 1) (by omega)
            have hd2 : ∀ o, (wr.alloc o).cell? ⟨b, off + (k - 1) * 2 + 1, none⟩ = some (.int .i64 (x2 l6 (k - 1))) := fun o => by
              rw [World.cell?_alloc_lt _ _ ⟨b, off + (k - 1) * 2 + 1, none⟩ hbw]; exact hd1
            have HD2 := Lib.hid hd2
            clear hc hr6 hd1 hd2
            by_cases hg : x2 l6 k < x2 l6 (k - 1)
            · have hs : IntKind.i64.wrap (growTo l6 k + x2 l6 k) = growTo l6 (k + 1) := by
                rw [growTo_down (by omega) hg]; exact IntWalk.i64_in _ (by omega)
              have tg : decide (x2 l6 k < x2 l6 (k - 1)) = true := decide_eq_true hg
              clear hg e1 e2 e3 e4 hneg hbw hk0
              go_wp2_with fail
              have hd3 := HD2.out (Obj.cells #[Value.int IntKind.i64 (x1 l6 k), Value.int IntKind.i64 (x2 l6 k)] 30)
              have q1 : (wr.alloc (Obj.cells #[Value.int IntKind.i64 (x1 l6 k), Value.int IntKind.i64 (x2 l6 k)] 30)).cell? ⟨wr.heap.size, 1, none⟩ = some (.int .i64 (x2 l6 k)) := by simp
              have hbW := kept_alloc hb (Obj.cells #[Value.int IntKind.i64 (x1 l6 k), Value.int IntKind.i64 (x2 l6 k)] 30)
              have hbW1 := kept_alloc hbb1 (Obj.cells #[Value.int IntKind.i64 (x1 l6 k), Value.int IntKind.i64 (x2 l6 k)] 30)
              clear hb hbb1 hc0 hc1 HD2
              generalize (wr.alloc (Obj.cells #[Value.int IntKind.i64 (x1 l6 k), Value.int IntKind.i64 (x2 l6 k)] 30)) = W at *
              generalize wr.heap.size = gb at *
              go_quiet (fail)
              go_wp2
              go_roundw
              case rel => exact ⟨k + 1, by omega, by go_num, rfl, HPS.out, by first | exact kept_drewN hbW _ | exact kept_drewN (kept_drewN hbW _) _, by first | exact kept_drewN hbW1 _ | exact kept_drewN (kept_drewN hbW1 _) _⟩
              case measure => simp [intOf]; omega
            · have hs2 : IntKind.i64.wrap (x2 l6 k - x2 l6 (k - 1)) = x2 l6 k - x2 l6 (k - 1) := IntWalk.i64_in _ (by omega)
              have hs : IntKind.i64.wrap (growTo l6 k + (x2 l6 k - x2 l6 (k - 1))) = growTo l6 (k + 1) := by
                rw [growTo_up (by omega) hg]; exact IntWalk.i64_in _ (by omega)
              have tg : decide (x2 l6 k < x2 l6 (k - 1)) = false := decide_eq_false hg
              clear hg e1 e2 e3 e4 hneg hbw hk0
              go_wp2_with fail
              have hd3 := HD2.out (Obj.cells #[Value.int IntKind.i64 (x1 l6 k), Value.int IntKind.i64 (x2 l6 k)] 30)
              have q1 : (wr.alloc (Obj.cells #[Value.int IntKind.i64 (x1 l6 k), Value.int IntKind.i64 (x2 l6 k)] 30)).cell? ⟨wr.heap.size, 1, none⟩ = some (.int .i64 (x2 l6 k)) := by simp
              have hbW := kept_alloc hb (Obj.cells #[Value.int IntKind.i64 (x1 l6 k), Value.int IntKind.i64 (x2 l6 k)] 30)
              have hbW1 := kept_alloc hbb1 (Obj.cells #[Value.int IntKind.i64 (x1 l6 k), Value.int IntKind.i64 (x2 l6 k)] 30)
              clear hb hbb1 hc0 hc1 HD2
              generalize (wr.alloc (Obj.cells #[Value.int IntKind.i64 (x1 l6 k), Value.int IntKind.i64 (x2 l6 k)] 30)) = W at *
              generalize wr.heap.size = gb at *
              go_quiet (fail)
              go_wp2
              go_quiet (fail)
              go_wp2
              go_roundw
              case rel => exact ⟨k + 1, by omega, by go_num, rfl, HPS.out, by first | exact kept_drewN hbW _ | exact kept_drewN (kept_drewN hbW _) _, by first | exact kept_drewN hbW1 _ | exact kept_drewN (kept_drewN hbW1 _) _⟩
              case measure => simp [intOf]; omega
        · have tneg : decide (x2 l6 k < 0) = true := decide_eq_true (by omega)
          have HN2 := Lib.hid (rateV_neg HLT.out hneg)
          clear hc hr6 e1 e2 hneg
          go_wp2
          go_ret2
          exact ⟨tup_ret (by rw [HL.out]; exact HN2.out.symm), kept_alloc hb _⟩
      · clear hr6
        have e : k = m := by omega
        subst e
        have HG := Lib.hid (rateV_good (l := l6) (by rw [HM.out]; omega) (by rw [HM.out]; exact HP.out))
        clear hk hlt
        go_wp2
        go_ret2
        exact ⟨tup_ret (by rw [HL.out, HG.out, HM.out]; rfl), hb⟩

set_option maxHeartbeats 1000000 in
theorem specRateOver_any (A : Option Addr) (n c : Nat) (l : List (Int × Int)) (fr to : Int) (w : World) (hn : l.length = n) (hm : n ≤ 1000000000000) (hr : Rd2 w w.heap.size A l) :
    Calls Try.prog 30 #[.slice A n c, .int .i64 fr, .int .i64 to] w fun e w' => e = .returned (rateV (rngL l fr to)) ∧ Below w.heap.size w w' := by
  go_enter Try.func30, Try.ntmps30
  go_wp2_with fail
  refine (specRangeOf_any A n c l fr to _ hn hm hr).mono ?_
  rintro e w1 ⟨A6, c6, rfl, hown6, hb1⟩
  have hr6 := own_rd2 hown6 rfl
  have hB := rngL_bd l fr to
  clear hown6 hr hn hm
  generalize hl6 : rngL l fr to = l6 at *
  have HL := Lib.hid hl6
  clear hl6
  have HB := Lib.hid hB
  have h16 : l6.length ≤ 16 := hB.1
  clear hB
  generalize hm6 : l6.length = m at *
  have HM := Lib.hid hm6
  clear hm6
  go_wp2
  go_loopw [9, 10] (fun v i wr => ∃ k : Nat, k ≤ m ∧ i = .int .i64 k ∧ v = .int .i64 (growTo l6 k) ∧ posTo l6 k ∧ Below w.heap.size w wr ∧ Below w1.heap.size w1 wr) (fun _ i _ => m - (intOf i).toNat)
  case atStart => exact ⟨0, by omega, rfl, rfl, posTo_zero l6, hb1, Below.refl _ _⟩
  case round =>
    obtain ⟨k, hk, rfl, rfl, hpos, hb, hbb1⟩ := hrel
    have HP := Lib.hid hpos
    clear hpos
    by_cases hlt : k < m
    · have hlt' : k < l6.length := by rw [HM.out]; exact hlt
      obtain ⟨b, off, rfl, hbb, hc⟩ := hr6.at_ (by omega)
      obtain ⟨hc0, hc1⟩ := hc k hlt'
      rw [← hbb1.cell (by exact hbb)] at hc0 hc1
      have e1 := growTo_bd HB.out (k := k) (by omega) HP.out
      have e2 := HB.out.2 k hlt'
      have HLT := Lib.hid hlt'
      have hki : (k : Int) < (m : Int) := by omega
      clear hlt'
      by_cases hneg : 0 ≤ x2 l6 k
      · have HPS := Lib.hid (posTo_succ HP.out hneg)
        have tneg : decide (x2 l6 k < 0) = false := decide_eq_false (by omega)
        by_cases hk0 : k = 0
        · have hG := Lib.hid (growTo_first (l := l6) hk0)
          have hk0' : decide (0 < k) = false := by simp [hk0]
          clear hc hr6 e1 e2 hneg hk0
          go_wp2_with fail
          go_quiet (fail)
          go_wp2
          go_roundw
          case rel => exact ⟨k + 1, by omega, by go_num, by rw [← hG.out], HPS.out, kept_drewN hb _, kept_drewN hbb1 _⟩
          case measure => simp [intOf]; omega
        · have hk0' : decide (0 < k) = true := by simp; omega
          have hk1 : (1 : Int) ≤ (k : Int) := by omega
          have hk2 : (k : Int) - 1 < (m : Int) := by omega
          have hs1 : IntKind.i64.wrap ((k : Int) - 1) = (k : Int) - 1 := IntWalk.i64_in _ (by omega)
          have hs3 : ((k : Int) - 1).toNat = k - 1 := by omega
          have hd1 := (hc (k - 1) (by have := HLT.out; omega)).2
          rw [← hbb1.cell (by exact hbb)] at hd1
          have e3 := HB.out.2 (k - 1) (by have := HLT.out; omega)
          have e4 := HP.out (k - 1) (by omega)
          clear hc hr6
          by_cases hg : x2 l6 k < x2 l6 (k - 1)
          · have hs : IntKind.i64.wrap (growTo l6 k + x2 l6 k) = growTo l6 (k + 1) := by
              rw [growTo_down (by omega) hg]; exact IntWalk.i64_in _ (by omega)
            have tg : decide (x2 l6 (k - 1) ≤ x2 l6 k) = false := decide_eq_false (by omega)
            clear hg e1 e2 e3 e4 hneg hk0
            go_wp2_with fail
            go_quiet (fail)
            go_wp2
            go_roundw
            case rel => exact ⟨k + 1, by omega, by go_num, rfl, HPS.out, kept_drewN hb _, kept_drewN hbb1 _⟩
            case measure => simp [intOf]; omega
          · have hs2 : IntKind.i64.wrap (growTo l6 k + x2 l6 k) = growTo l6 k + x2 l6 k := IntWalk.i64_in _ (by omega)
            have hs : IntKind.i64.wrap (growTo l6 k + x2 l6 k - x2 l6 (k - 1)) = growTo l6 (k + 1) := by
              rw [growTo_up (by omega) hg, Int.add_sub_assoc]; exact IntWalk.i64_in _ (by omega)
            have tg : decide (x2 l6 (k - 1) ≤ x2 l6 k) = true := decide_eq_true (by omega)
            clear hg e1 e2 e3 e4 hneg hk0
            go_wp2_with fail
            go_quiet (fail)
            go_wp2
            go_quiet (fail)
            go_wp2
            go_roundw
            case rel => exact ⟨k + 1, by omega, by go_num, rfl, HPS.out, kept_drewN hb _, kept_drewN hbb1 _⟩
            case measure => simp [intOf]; omega
      · have tneg : decide (x2 l6 k < 0) = true := decide_eq_true (by omega)
        have HN2 := Lib.hid (rateV_neg HLT.out hneg)
        clear hc hr6 e1 e2 hneg
        go_wp2
        go_ret2
        exact ⟨tup_ret (by rw [HL.out]; exact HN2.out.symm), hb⟩
    · clear hr6
      have e : k = m := by omega
      subst e
      by_cases hm2 : k < 2
      · have HG := Lib.hid (rateV_short (l := l6) (by rw [HM.out]; exact hm2))
        clear hk hlt
        go_wp2
        go_ret2
        exact ⟨tup_ret (by rw [HL.out]; exact HG.out.symm), hb⟩
      · have HG := Lib.hid (rateV_good (l := l6) (by rw [HM.out]; omega) (by rw [HM.out]; exact HP.out))
        clear hk hlt
        go_wp2
        go_ret2
        exact ⟨tup_ret (by rw [HL.out, HG.out, HM.out]; rfl), hb⟩
end Go.Proofs.Ytgifppadakmmiaa
