/-
  Walks: SumOver of both packages, sumOf, toInt.
-/
import Derived.Test.YtiajcnldfdijoaaPtW5
import Derived.Test.YtiajcnldfdijoaaPtFn3
namespace Go.Proofs.Ytiajcnldfdijoaa
open Go.RowKit
set_option maxHeartbeats 1000000 in
theorem sumOver_any (A : Option Addr) (n c : Nat) (l : List (Int × Int)) (fr to : Int) (w : World) (hn : l.length = n) (hm : n ≤ 1000000000000) (hc : n ≤ c) (hr : Rd2 w w.heap.size A l) :
    Calls Try.prog 13 #[.slice A n c, .int .i64 fr, .int .i64 to] w fun e w' => e = .returned (.int .i64 (sumL (rngL l fr to))) ∧ Below w.heap.size w w' := by
  go_enter Try.func13, Try.ntmps13
  go_wp2_with fail
  refine (rangeOf_any A n c l fr to _ hn hm hc hr).mono ?_
  rintro e w1 ⟨A6, c6, rfl, hown6, hb1⟩
  have hr6 := own_rd2 hown6 rfl
  have hB := rngL_bd l fr to
  clear hown6 hr hn hm hc
  generalize hl6 : rngL l fr to = l6 at *
  have HL := Lib.hid hl6
  clear hl6
  have HB := Lib.hid hB
  have h16 : l6.length ≤ 16 := hB.1
  clear hB
  generalize hm6 : l6.length = m at *
  have HM := Lib.hid hm6
  clear hm6
  go_wp2
  go_loopw [7, 15] (fun v i wr => ∃ k : Nat, k ≤ m ∧ i = .int .i64 k ∧ v = .int .i64 (sumTo l6 k) ∧ Below w.heap.size w wr ∧ Below w1.heap.size w1 wr) (fun _ i _ => m - (intOf i).toNat)
  case atStart => exact ⟨0, by omega, rfl, rfl, hb1, Below.refl _ _⟩
  case round =>
    obtain ⟨k, hk, rfl, rfl, hb, hbb1⟩ := hrel
    by_cases hlt : k < m
    · have hlt' : k < l6.length := by rw [HM.out]; exact hlt
      obtain ⟨b, off, rfl, hbb, hc⟩ := hr6.at_ (by omega)
      obtain ⟨hc0, hc1⟩ := hc k hlt'
      rw [← hbb1.cell (by exact hbb)] at hc0 hc1
      have e1 := sumTo_bd HB.out (k := k) (by omega)
      have e2 := HB.out.2 k hlt'
      have hs : IntKind.i64.wrap (sumTo l6 k + x2 l6 k) = sumTo l6 (k + 1) := IntWalk.i64_in _ (by omega)
      clear hc hr6 hlt' e1 e2
      go_wp2
      go_roundw
      case rel => exact ⟨k + 1, by omega, by go_num, rfl, kept_alloc hb _, kept_alloc hbb1 _⟩
      case measure => simp [intOf]; omega
    · clear hr6
      go_wp2
      go_ret
      have e : l6.length = k := by rw [HM.out]; omega
      exact ⟨ret_int (by unfold sumL; rw [HL.out, e]), hb⟩

set_option maxHeartbeats 1000000 in
theorem specSumOver_any (A : Option Addr) (n c : Nat) (l : List (Int × Int)) (fr to : Int) (w : World) (hn : l.length = n) (hm : n ≤ 1000000000000) (hr : Rd2 w w.heap.size A l) :
    Calls Try.prog 14 #[.slice A n c, .int .i64 fr, .int .i64 to] w fun e w' => e = .returned (.int .i64 (sumL (rngL l fr to))) ∧ Below w.heap.size w w' := by
  go_enter Try.func14, Try.ntmps14
  go_wp2_with fail
  refine (specRangeOf_any A n c l fr to _ hn hm hr).mono ?_
  rintro e w1 ⟨A6, c6, rfl, hown6, hb1⟩
  have hr6 := own_rd2 hown6 rfl
  have hB := rngL_bd l fr to
  clear hown6 hr hn hm
  generalize hl6 : rngL l fr to = l6 at *
  have HL := Lib.hid hl6
  clear hl6
  have HB := Lib.hid hB
  have h16 : l6.length ≤ 16 := hB.1
  clear hB
  generalize hm6 : l6.length = m at *
  have HM := Lib.hid hm6
  clear hm6
  go_wp2
  go_loopw [7, 9] (fun v i wr => ∃ k : Nat, k ≤ m ∧ i = .int .i64 k ∧ v = .int .i64 (sumTo l6 k) ∧ w1 = wr) (fun _ i _ => m - (intOf i).toNat)
  case atStart => exact ⟨0, by omega, rfl, rfl, rfl⟩
  case round =>
    obtain ⟨k, hk, rfl, rfl, rfl⟩ := hrel
    by_cases hlt : k < m
    · have hlt' : k < l6.length := by rw [HM.out]; exact hlt
      obtain ⟨b, off, rfl, hbb, hc⟩ := hr6.at_ (by omega)
      obtain ⟨hc0, hc1⟩ := hc k hlt'
      have e1 := sumTo_bd HB.out (k := k) (by omega)
      have e2 := HB.out.2 k hlt'
      have hs : IntKind.i64.wrap (sumTo l6 k + x2 l6 k) = sumTo l6 (k + 1) := IntWalk.i64_in _ (by omega)
      clear hc hr6 hlt' e1 e2
      go_wp2
      go_roundw
      case rel => exact ⟨k + 1, by omega, by go_num, rfl, trivial⟩
      case measure => simp [intOf]; omega
    · clear hr6
      go_wp2
      go_ret
      have e : l6.length = k := by rw [HM.out]; omega
      exact ⟨ret_int (by unfold sumL; rw [HL.out, e]), hb1⟩

end Go.Proofs.Ytiajcnldfdijoaa
