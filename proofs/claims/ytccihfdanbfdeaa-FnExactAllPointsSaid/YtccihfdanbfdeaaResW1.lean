/-
  Walks: ValueAt of both packages by the plain function.
-/
import Derived.Test.YtccihfdanbfdeaaResFn
import Derived.Test.YtccihfdanbfdeaaPtW3
namespace Go.Proofs.Ytccihfdanbfdeaa
open Go.RowKit
def ValO (l : List (Int × Int)) (t : Int) (w : World) (e : Ending) (w' : World) : Prop := e = .returned (optV (valO l t)) ∧ Below w.heap.size w w'
theorem valueAtO_any (A : Option Addr) (n c : Nat) (l : List (Int × Int)) (t : Int) (w : World) (hn : l.length = n) (hm : n ≤ 1000000000000) (hr : Rd2 w w.heap.size A l) :
    Calls Try.prog 49 #[.slice A n c, .int .i64 t] w fun e w' => e = .returned (optV (valO l t)) ∧ Below w.heap.size w w' := by
  by_cases hv : vS l = true
  · refine (valueAt_any A n c l t w hn (VS_of hv) hr).mono ?_
    rintro e w1 ⟨i, hi, h1, h2, rfl, hb⟩
    refine ⟨?_, hb⟩
    rw [valO_at hv hi h1 h2]
    by_cases h0 : i = 0
    · rw [if_pos h0, if_pos h0]; rfl
    · rw [if_neg h0, if_neg h0]; rfl
  · have hv' : vS l = false := by simpa using hv
    refine (valueAt_bad A n c l t w hn hm hv' hr).mono ?_
    rintro e w1 ⟨rfl, hb⟩
    exact ⟨by rw [valO_bad hv']; rfl, hb⟩

theorem valTo_hit {l : List (Int × Int)} {t : Int} {k : Nat} (h : x1 l k ≤ t) : valTo l t (k + 1) = some (x2 l k) := if_pos h
theorem valTo_miss {l : List (Int × Int)} {t : Int} {k : Nat} (h : ¬ x1 l k ≤ t) : valTo l t (k + 1) = valTo l t k := if_neg h
set_option maxHeartbeats 1000000 in
theorem specValueAt_any (A : Option Addr) (n c : Nat) (l : List (Int × Int)) (t : Int) (w : World) (hn : l.length = n) (hm : n ≤ 1000000000000) (hr : Rd2 w w.heap.size A l) :
    Calls Try.prog 47 #[.slice A n c, .int .i64 t] w fun e w' => e = .returned (optV (valO l t)) ∧ Below w.heap.size w w' := by
  have HN := Lib.hid hn
  by_cases hv : vS l = true
  · have hn16 : n ≤ 16 := by rw [← hn]; exact (VS_of hv).1
    have HV := Lib.hid (valO_ok (t := t) hv)
    clear hn
    go_enter Try.func47, Try.ntmps47
    go_wp2_with fail
    refine (specValidSeries_any A n c l _ HN.out hm hr).mono ?_
    rintro e w1 ⟨rfl, hb1⟩
    rw [hv]
    have hr1 := hr.next hb1
    clear hr hv
    have hw1 : IntKind.i64.wrap ((n : Int) - 1) = (n : Int) - 1 := IntWalk.i64_in _ (by omega)
    go_wp2
    go_loopw [6] (fun i wr => ∃ k : Nat, k ≤ n ∧ i = .int .i64 ((k : Int) - 1) ∧ valTo l t n = valTo l t k ∧ w1 = wr) (fun i _ => (intOf i + 1).toNat)
    case atStart => exact ⟨n, by omega, rfl, rfl, rfl⟩
    case round =>
      obtain ⟨k, hk, rfl, hval, rfl⟩ := hrel
      have HQ := Lib.hid hval
      clear hval
      by_cases hk0 : k = 0
      · have d0 : decide (0 ≤ (k : Int) - 1) = false := decide_eq_false (by omega)
        have d1 : ¬ (0 : Int) ≤ (k : Int) - 1 := by omega
        have HK := Lib.hid hk0
        clear hk0 hr1
        go_wp2
        go_ret2
        exact ⟨by rw [HV.out, HN.out, HQ.out, HK.out]; rfl, hb1⟩
      · have d0 : decide (0 ≤ (k : Int) - 1) = true := decide_eq_true (by omega)
        obtain ⟨b, off, rfl, hbb, hc⟩ := hr1.at_ (by rw [HN.out]; omega)
        obtain ⟨hc0, hc1⟩ := hc (k - 1) (by rw [HN.out]; omega)
        have hk1 : (1 : Int) ≤ (k : Int) := by omega
        have hk2 : (k : Int) - 1 < (n : Int) := by omega
        have hs3 : ((k : Int) - 1).toNat = k - 1 := by omega
        have hk3 : 1 ≤ k := by omega
        have hs1 : IntKind.i64.wrap ((k : Int) - 1 - 1) = (k : Int) - 1 - 1 := IntWalk.i64_in _ (by omega)
        clear hc hr1 hk0
        by_cases hx : x1 l (k - 1) ≤ t
        · have hq : valTo l t k = some (x2 l (k - 1)) := by
            have := valTo_hit hx
            rwa [Nat.sub_add_cancel hk3] at this
          have HX := Lib.hid hq
          clear hq
          go_wp2
          go_ret2
          exact ⟨by rw [HV.out, HN.out, HQ.out, HX.out]; rfl, hb1⟩
        · have hq : valTo l t k = valTo l t (k - 1) := by
            have := valTo_miss hx
            rwa [Nat.sub_add_cancel hk3] at this
          have HX := Lib.hid hq
          clear hq
          go_wp2
          go_roundw
          case rel => exact ⟨k - 1, by omega, by rw [show (((k - 1 : Nat) : Int)) = (k : Int) - 1 by omega], by rw [HQ.out, HX.out], trivial⟩
          case measure => simp [intOf]; omega
  · have hv' : vS l = false := by simpa using hv
    go_enter Try.func47, Try.ntmps47
    go_wp2_with fail
    refine (specValidSeries_any A n c l _ HN.out hm hr).mono ?_
    rintro e w1 ⟨rfl, hb1⟩
    rw [hv']
    go_wp2
    go_ret2
    exact ⟨by rw [valO_bad hv']; rfl, hb1⟩
end Go.Proofs.Ytccihfdanbfdeaa
