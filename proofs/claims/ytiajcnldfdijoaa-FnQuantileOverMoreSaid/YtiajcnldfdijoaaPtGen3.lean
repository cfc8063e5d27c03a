/-
  The generators of the laws' arguments: DrawRangeOf, DrawSumOver, DrawRateOver, DrawResets.
-/
import Derived.Test.YtiajcnldfdijoaaPtGen2
namespace Go.Proofs.Ytiajcnldfdijoaa
open Go.RowKit
def DrawP2 (w : World) (e : Ending) (w' : World) : Prop :=
  ∃ (A : Option Addr) (c m : Nat) (l : List (Int × Int)) (x y : Int), e = .returned (.tuple #[.slice A m c, .int .i64 x, .int .i64 y]) ∧ l.length = m ∧ m ≤ 100 ∧ m ≤ c ∧ -3000 ≤ x ∧ x ≤ 3000 ∧ -3000 ≤ y ∧ y ≤ 3000 ∧ Rd2 w' w'.heap.size A l ∧ Below w.heap.size w w'

set_option maxHeartbeats 2000000 in
theorem drawRangeOf_any (A : Option Addr) (n c : Nat) (w : World) (hm : n ≤ 9223372036854775807) (hc : n ≤ c) (hr : RdB w w.heap.size A n) :
    Calls Try.prog 30 #[.slice A n c] w (DrawP2 w) := by
  go_enter Try.func30, Try.ntmps30
  go_wp2_with fail
  refine (newReader_any A n c _ hm hc hr).mono ?_
  rintro e w1 ⟨rfl, hr1, hb1⟩
  have hg1 := hr1.lt
  clear hr
  go_wp2_with fail
  refine (anySeries_any w.heap.size 0 _ (by omega) hr1).mono ?_
  rintro e w2 ⟨A2, c2, m, l, p', rfl, hl, hm2, hc2, hown, hr2, hp2, ho2⟩
  have hb2 := Only.below hb1 ho2 (Nat.le_refl _)
  clear hr1 ho2 hb1
  go_wp2_with fail
  refine (pick_any w.heap.size p' 60 _ (by omega) hr2).mono ?_
  rintro e w3 ⟨a, rfl, a0, a1, _, hr3, ho3⟩
  have a2 := a1 (by omega)
  have hb3 := Only.below hb2 ho3 (Nat.le_refl _)
  have hO3 := Only.own hown ho3 hg1
  clear hown ho3 hb2 hr2 a1
  go_wp2_with fail
  refine (someEnd_any w.heap.size (p' + 1) _ (by omega) hr3).mono ?_
  rintro e w4 ⟨b, rfl, b0, b1, hr4, ho4⟩
  have hb4 := Only.below hb3 ho4 (Nat.le_refl _)
  have hO4 := Only.own hO3 ho4 hg1
  clear hO3 ho4 hb3 hr3
  go_wp2_with fail
  refine (one_lit w.heap.size (p' + 1 + 2) [0, 5, -10, 20, a, b] 6 _ _ _ rfl rfl (by omega) (by omega) (by simp) (by omega) hr4).mono ?_
  rintro e w5 ⟨x, rfl, hx, hr5, ho5⟩
  have hx' : -3000 ≤ x ∧ x ≤ 3000 := by simp at hx; omega
  have hb5 := Only.below hb4 ho5 (Nat.le_refl _)
  have hO5 := Only.own hO4 ho5 hg1
  clear hO4 ho5 hb4 hr4 hx
  go_wp2_with fail
  refine (someEnd_any w.heap.size (p' + 1 + 2 + 1) _ (by omega) hr5).mono ?_
  rintro e w6 ⟨d, rfl, d0, d1, hr6, ho6⟩
  have hb6 := Only.below hb5 ho6 (Nat.le_refl _)
  have hO6 := Only.own hO5 ho6 hg1
  clear hO5 ho6 hb5 hr5
  go_wp2_with fail
  refine (one_lit w.heap.size (p' + 1 + 2 + 1 + 2) [1001, 100, 50, 2000, x, d] 6 _ _ _ rfl rfl (by omega) (by omega) (by simp) (by omega) hr6).mono ?_
  rintro e w7 ⟨y, rfl, hy, hr7, ho7⟩
  have hy' : -3000 ≤ y ∧ y ≤ 3000 := by simp at hy; omega
  have hb7 := Only.below hb6 ho7 (Nat.le_refl _)
  have hrd := own_rd2 (Only.own hO6 ho7 hg1) hl
  clear hO6 ho7 hb6 hr6 hr7 hy
  go_wp2
  go_ret3
  exact ⟨A2, c2, m, l, x, y, rfl, hl, by omega, hc2, hx'.1, hx'.2, hy'.1, hy'.2, hrd, hb7⟩

set_option maxHeartbeats 1000000 in
theorem drawSumOver_any (A : Option Addr) (n c : Nat) (w : World) (hm : n ≤ 9223372036854775807) (hc : n ≤ c) (hr : RdB w w.heap.size A n) :
    Calls Try.prog 12 #[.slice A n c] w (DrawP2 w) := by
  go_enter Try.func12, Try.ntmps12
  go_wp2_with fail
  refine (drawRangeOf_any A n c _ hm hc hr).mono ?_
  rintro e w1 ⟨A2, c2, m, l, x, y, rfl, hl, hm2, hc2, x0, x1, y0, y1, hrd, hb⟩
  clear hr
  go_wp2
  go_ret3
  exact ⟨A2, c2, m, l, x, y, rfl, hl, hm2, hc2, x0, x1, y0, y1, hrd, hb⟩

end Go.Proofs.Ytiajcnldfdijoaa
