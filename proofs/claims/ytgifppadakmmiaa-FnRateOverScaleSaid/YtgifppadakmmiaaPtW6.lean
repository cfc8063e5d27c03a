/-
  Walks: SumOver of both packages, sumOf, toInt.
-/
import Derived.Test.YtgifppadakmmiaaPtW5
import Derived.Test.YtgifppadakmmiaaPtFn3
namespace Go.Proofs.Ytgifppadakmmiaa
open Go.RowKit
set_option maxHeartbeats 1000000 in
theorem sumOver_any (A : Option Addr) (n c : Nat) (l : List (Int × Int)) (fr to : Int) (w : World) (hn : l.length = n) (hm : n ≤ 1000000000000) (hc : n ≤ c) (hr : Rd2 w w.heap.size A l) :
    Calls Try.prog 39 #[.slice A n c, .int .i64 fr, .int .i64 to] w fun e w' => e = .returned (.int .i64 (sumL (rngL l fr to))) ∧ Below w.heap.size w w' := by
  go_enter Try.func39, Try.ntmps39
  go_wp2_with fail
  refine (rangeOf_any A n c l fr to _ hn hm hc hr).mono ?_
  rintro e w1 ⟨A6, c6, rfl, hown6, hb1⟩
  have hr6 := own_rd2 hown6 rfl
  have hB := rngL_bd l fr to
  clear hown6 hr hn hm hc
  generalize hl6 : rngL l fr to = l6 at *
  have HL := Lib.hid hl6
  clear hl6
  have HB := Lib.hid hB
  have h16 : l6.length ≤ 16 := hB.1
  clear hB
  generalize hm6 : l6.length = m at *
  have HM := Lib.hid hm6
  clear hm6
  go_wp2
  go_loopw [7, 15] (fun v i wr => ∃ k : Nat, k ≤ m ∧ i = .int .i64 k ∧ v = .int .i64 (sumTo l6 k) ∧ Below w.heap.size w wr ∧ Below w1.heap.size w1 wr) (fun _ i _ => m - (intOf i).toNat)
  case atStart => exact ⟨0, by omega, rfl, rfl, hb1, Below.refl _ _⟩
  case round =>
    obtain ⟨k, hk, rfl, rfl, hb, hbb1⟩ := hrel
    by_cases hlt : k < m
    · have hlt' : k < l6.length := by rw [HM.out]; exact hlt
      obtain ⟨b, off, rfl, hbb, hc⟩ := hr6.at_ (by omega)
      obtain ⟨hc0, hc1⟩ := hc k hlt'
      rw [← hbb1.cell (by exact hbb)] at hc0 hc1
      have e1 := sumTo_bd HB.out (k := k) (by omega)
      have e2 := HB.out.2 k hlt'
      have hs : IntKind.i64.wrap (sumTo l6 k + x2 l6 k) = sumTo l6 (k + 1) := IntWalk.i64_in _ (by omega)
      clear hc hr6 hlt' e1 e2
      go_wp2
      go_roundw
      case rel => exact ⟨k + 1, by omega, by go_num, rfl, kept_alloc hb _, kept_alloc hbb1 _⟩
      case measure => simp [intOf]; omega
    · clear hr6
      go_wp2
      go_ret
      have e : l6.length = k := by rw [HM.out]; omega
      exact ⟨ret_int (by unfold sumL; rw [HL.out, e]), hb⟩

set_option maxHeartbeats 1000000 in
theorem specSumOver_any (A : Option Addr) (n c : Nat) (l : List (Int × Int)) (fr to : Int) (w : World) (hn : l.length = n) (hm : n ≤ 1000000000000) (hr : Rd2 w w.heap.size A l) :
    Calls Try.prog 40 #[.slice A n c, .int .i64 fr, .int .i64 to] w fun e w' => e = .returned (.int .i64 (sumL (rngL l fr to))) ∧ Below w.heap.size w w' := by
  go_enter Try.func40, Try.ntmps40
  go_wp2_with fail
  refine (specRangeOf_any A n c l fr to _ hn hm hr).mono ?_
  rintro e w1 ⟨A6, c6, rfl, hown6, hb1⟩
  have hr6 := own_rd2 hown6 rfl
  have hB := rngL_bd l fr to
  clear hown6 hr hn hm
  generalize hl6 : rngL l fr to = l6 at *
  have HL := Lib.hid hl6
  clear hl6
  have HB := Lib.hid hB
  have h16 : l6.length ≤ 16 := hB.1
  clear hB
  generalize hm6 : l6.length = m at *
  have HM := Lib.hid hm6
  clear hm6
  go_wp2
  go_loopw [7, 9] (fun v i wr => ∃ k : Nat, k ≤ m ∧ i = .int .i64 k ∧ v = .int .i64 (sumTo l6 k) ∧ w1 = wr) (fun _ i _ => m - (intOf i).toNat)
  case atStart => exact ⟨0, by omega, rfl, rfl, rfl⟩
  case round =>
    obtain ⟨k, hk, rfl, rfl, rfl⟩ := hrel
    by_cases hlt : k < m
    · have hlt' : k < l6.length := by rw [HM.out]; exact hlt
      obtain ⟨b, off, rfl, hbb, hc⟩ := hr6.at_ (by omega)
      obtain ⟨hc0, hc1⟩ := hc k hlt'
      have e1 := sumTo_bd HB.out (k := k) (by omega)
      have e2 := HB.out.2 k hlt'
      have hs : IntKind.i64.wrap (sumTo l6 k + x2 l6 k) = sumTo l6 (k + 1) := IntWalk.i64_in _ (by omega)
      clear hc hr6 hlt' e1 e2
      go_wp2
      go_roundw
      case rel => exact ⟨k + 1, by omega, by go_num, rfl, trivial⟩
      case measure => simp [intOf]; omega
    · clear hr6
      go_wp2
      go_ret
      have e : l6.length = k := by rw [HM.out]; omega
      exact ⟨ret_int (by unfold sumL; rw [HL.out, e]), hb1⟩

set_option maxHeartbeats 1000000 in
theorem sumOf_any (A : Option Addr) (n c : Nat) (l6 : List (Int × Int)) (w : World) (hn : l6.length = n) (hB : Bd l6) (hr : Rd2 w w.heap.size A l6) :
    Calls Try.prog 41 #[.slice A n c] w fun e w' => e = .returned (.int .i64 (sumL l6)) ∧ Below w.heap.size w w' := by
  have HB := Lib.hid hB
  have HM := Lib.hid hn
  have h16 : n ≤ 16 := by rw [← hn]; exact hB.1
  clear hB hn
  go_enter Try.func41, Try.ntmps41
  go_wp2
  go_loopw [3, 4] (fun v i wr => ∃ k : Nat, k ≤ n ∧ i = .int .i64 k ∧ v = .int .i64 (sumTo l6 k) ∧ w = wr) (fun _ i _ => n - (intOf i).toNat)
  case atStart => exact ⟨0, by omega, rfl, rfl, rfl⟩
  case round =>
    obtain ⟨k, hk, rfl, rfl, rfl⟩ := hrel
    by_cases hlt : k < n
    · have hlt' : k < l6.length := by rw [HM.out]; exact hlt
      obtain ⟨b, off, rfl, hbb, hc⟩ := hr.at_ (by omega)
      obtain ⟨hc0, hc1⟩ := hc k hlt'
      have e1 := sumTo_bd HB.out (k := k) (by omega)
      have e2 := HB.out.2 k hlt'
      have hs : IntKind.i64.wrap (sumTo l6 k + x2 l6 k) = sumTo l6 (k + 1) := IntWalk.i64_in _ (by omega)
      clear hc hr hlt' e1 e2
      go_wp2
      go_roundw
      case rel => exact ⟨k + 1, by omega, by go_num, rfl, trivial⟩
      case measure => simp [intOf]; omega
    · clear hr
      go_wp2
      go_ret
      have e : l6.length = k := by rw [HM.out]; omega
      exact ⟨ret_int (by unfold sumL; rw [e]), Below.refl _ _⟩

theorem toInt_any (b : Bool) (w : World) : Calls Try.prog 81 #[.bool b] w fun e w' => e = .returned (.int .i64 (if b then 1 else 0)) ∧ w = w' := by
  cases b with
  | true =>
    go_enter Try.func81, Try.ntmps81
    go_wp2
    go_ret
    exact ⟨rfl, rfl⟩
  | false =>
    go_enter Try.func81, Try.ntmps81
    go_wp2
    go_ret
    exact ⟨rfl, rfl⟩
end Go.Proofs.Ytgifppadakmmiaa
