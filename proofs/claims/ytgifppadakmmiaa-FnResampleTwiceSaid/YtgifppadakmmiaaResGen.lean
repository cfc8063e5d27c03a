/-
  equalPoints on equal series; the generator DrawResample.
-/
import Derived.Test.YtgifppadakmmiaaPtGen2
import Derived.Test.YtgifppadakmmiaaBase2
namespace Go.Proofs.Ytgifppadakmmiaa
open Go.RowKit
set_option maxHeartbeats 1000000 in
theorem equalPoints_same (A : Option Addr) (n c : Nat) (A' : Option Addr) (c' : Nat) (l : List (Int × Int)) (w : World) (hn : l.length = n) (hm : n ≤ 1000000000000)
    (hr : Rd2 w w.heap.size A l) (hr' : Rd2 w w.heap.size A' l) :
    Calls Try.prog 43 #[.slice A n c, .slice A' n c'] w fun e w' => e = .returned (.bool true) ∧ Below w.heap.size w w' := by
  have HN := Lib.hid hn
  clear hn
  go_enter Try.func43, Try.ntmps43
  go_wp2
  go_loopw [5] (fun i wr => ∃ k : Nat, k ≤ n ∧ i = .int .i64 k ∧ Below w.heap.size w wr) (fun i _ => n - (intOf i).toNat)
  case atStart => exact ⟨0, by omega, rfl, Below.refl _ _⟩
  case round =>
    obtain ⟨k, hk, rfl, hb⟩ := hrel
    by_cases hlt : k < n
    · have hki : (k : Int) < (n : Int) := by omega
      obtain ⟨b, off, rfl, hbb, hc⟩ := hr.at_ (by rw [HN.out]; omega)
      obtain ⟨b', off', rfl, hbb', hc'⟩ := hr'.at_ (by rw [HN.out]; omega)
      obtain ⟨hc0, hc1⟩ := hc k (by rw [HN.out]; exact hlt)
      obtain ⟨hd0, hd1⟩ := hc' k (by rw [HN.out]; exact hlt)
      rw [← hb.cell (by exact hbb)] at hc0 hc1
      rw [← hb.cell (by exact hbb')] at hd0 hd1
      clear hc hc' hr hr'
      go_wp2_with fail
      go_quiet (fail)
      go_wp2
      go_roundw
      case rel => exact ⟨k + 1, by omega, by go_num, kept_drewN hb _⟩
      case measure => simp [intOf]; omega
    · clear hr hr'
      go_wp2
      go_ret
      exact ⟨rfl, hb⟩

def DrawR (w : World) (e : Ending) (w' : World) : Prop :=
  ∃ (A : Option Addr) (c m : Nat) (l : List (Int × Int)) (x y z : Int), e = .returned (.tuple #[.slice A m c, .int .i64 x, .int .i64 y, .int .i64 z]) ∧ l.length = m ∧ m ≤ 100 ∧ m ≤ c ∧ -3000 ≤ x ∧ x ≤ 3000 ∧ -3000 ≤ y ∧ y ≤ 3000 ∧ 0 ≤ z ∧ z ≤ 101 ∧ Rd2 w' w'.heap.size A l ∧ Below w.heap.size w w'
set_option maxHeartbeats 2000000 in
theorem drawResample_any (A : Option Addr) (n c : Nat) (w : World) (hm : n ≤ 9223372036854775807) (hc : n ≤ c) (hr : RdB w w.heap.size A n) :
    Calls Try.prog 42 #[.slice A n c] w (DrawR w) := by
  go_enter Try.func42, Try.ntmps42
  go_wp2_with fail
  refine (newReader_any A n c _ hm hc hr).mono ?_
  rintro e w1 ⟨rfl, hr1, hb1⟩
  have hg1 := hr1.lt
  clear hr
  go_wp2_with fail
  refine (anySeries_any w.heap.size 0 _ (by omega) hr1).mono ?_
  rintro e w2 ⟨A2, c2, m, l, p', rfl, hl, hm2, hc2, hown, hr2, hp2, ho2⟩
  have hb2 := Only.below hb1 ho2 (Nat.le_refl _)
  clear hr1 ho2 hb1
  go_wp2_with fail
  refine (pick_any w.heap.size p' 60 _ (by omega) hr2).mono ?_
  rintro e w3 ⟨a, rfl, a0, a1, _, hr3, ho3⟩
  have a2 := a1 (by omega)
  have hb3 := Only.below hb2 ho3 (Nat.le_refl _)
  have hO3 := Only.own hown ho3 hg1
  clear hown ho3 hb2 hr2 a1
  go_wp2_with fail
  refine (one_lit w.heap.size (p' + 1) [0, 5, 20, 1000, 1001, -1, a] 7 _ _ _ rfl rfl (by omega) (by omega) (by simp) (by omega) hr3).mono ?_
  rintro e w5 ⟨x, rfl, hx, hr5, ho5⟩
  have hx' : -1 ≤ x ∧ x ≤ 1001 := by simp at hx; omega
  obtain ⟨hx0, hx1⟩ := hx'
  have hb5 := Only.below hb3 ho5 (Nat.le_refl _)
  have hO5 := Only.own hO3 ho5 hg1
  clear hO3 ho5 hb3 hr3 hx
  go_wp2_with fail
  refine (one_lit w.heap.size (p' + 1 + 1) [50, 0, 100, 16, -5, 300] 6 _ _ _ rfl rfl (by omega) (by omega) (by simp) (by omega) hr5).mono ?_
  rintro e w6 ⟨d, rfl, hd, hr6, ho6⟩
  have hd' : -5 ≤ d ∧ d ≤ 300 := by simp at hd; omega
  obtain ⟨hd0, hd1⟩ := hd'
  have hb6 := Only.below hb5 ho6 (Nat.le_refl _)
  have hO6 := Only.own hO5 ho6 hg1
  have hxd : IntKind.i64.wrap (x + d) = x + d := IntWalk.i64_in _ (by omega)
  clear hO5 ho6 hb5 hr5 hd
  go_wp2_with fail
  refine (one_lit w.heap.size (p' + 1 + 1 + 1) [10, 5, 1, 20, 0, 101] 6 _ _ _ rfl rfl (by omega) (by omega) (by simp) (by omega) hr6).mono ?_
  rintro e w7 ⟨y, rfl, hy, hr7, ho7⟩
  have hy' : 0 ≤ y ∧ y ≤ 101 := by simp at hy; omega
  have hb7 := Only.below hb6 ho7 (Nat.le_refl _)
  have hrd := own_rd2 (Only.own hO6 ho7 hg1) hl
  clear hO6 ho7 hb6 hr6 hr7 hy
  go_wp2
  refine bodyPost_ret (v := .tuple #[.slice A2 m c2, .int .i64 x, .int .i64 (x + d), .int .i64 y]) (by simp [results, go_sem]) rfl ?_
  exact ⟨A2, c2, m, l, x, x + d, y, rfl, hl, by omega, hc2, by omega, by omega, by omega, by omega, hy'.1, hy'.2, hrd, hb7⟩
end Go.Proofs.Ytgifppadakmmiaa
