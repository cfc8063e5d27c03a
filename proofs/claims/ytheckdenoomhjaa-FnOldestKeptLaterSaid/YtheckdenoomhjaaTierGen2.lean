/-
  The generators of the laws' arguments: someNow, DrawValidTiers, DrawOldestKept, DrawTierFor, DrawTierCost.
-/
import Derived.Test.YtheckdenoomhjaaTierGen
namespace Go.Proofs.Ytheckdenoomhjaa
open Go.RowKit
def NowPost (w : World) (g : Nat) (p : Int) (e : Ending) (w' : World) : Prop := ∃ x : Int, e = .returned (.int .i64 x) ∧ -1 ≤ x ∧ x ≤ 1001 ∧ Rdr w' g (p + 1 + 1) ∧ Only g w w'
set_option maxHeartbeats 1000000 in
theorem someNow_any (g : Nat) (p : Int) (w : World) (hp : p ≤ 100000000000) (hr : Rdr w g p) :
    Calls Try.prog 38 #[.pointer (some ⟨g, 0, none⟩)] w (NowPost w g p) := by
  go_enter Try.func38, Try.ntmps38
  go_wp2_with fail
  refine (pick_any g p 250 _ (by omega) hr).mono ?_
  rintro e w1 ⟨x, rfl, hx0, hx1, _, hr1, ho1⟩
  have hx2 := hx1 (by omega)
  clear hx1 hr
  go_wp2_with fail
  refine (one_lit g (p + 1) [0, 100, 1000, 37, 500, 1001, -1, 4 * x] 8 _ _ _ rfl rfl (by omega) (by omega) (by simp) (by omega) hr1).mono ?_
  rintro e w2 ⟨y, rfl, hy, hr2, ho2⟩
  have hy' : -1 ≤ y ∧ y ≤ 1001 := by simp at hy; omega
  clear hy
  go_wp2
  go_ret
  exact ⟨y, rfl, hy'.1, hy'.2, hr2, ho1.trans ho2⟩

/-- Drawn pairs. -/
def DrawP (w : World) (e : Ending) (w' : World) : Prop :=
  ∃ (A : Option Addr) (c m : Nat) (l : List (Int × Int)), e = .returned (.slice A m c) ∧ l.length = m ∧ m ≤ 100 ∧ m ≤ c ∧ Rd2 w' w'.heap.size A l ∧ Below w.heap.size w w'
def DrawP1 (w : World) (e : Ending) (w' : World) : Prop :=
  ∃ (A : Option Addr) (c m : Nat) (l : List (Int × Int)) (x : Int), e = .returned (.tuple #[.slice A m c, .int .i64 x]) ∧ l.length = m ∧ m ≤ 100 ∧ m ≤ c ∧ -1000 ≤ x ∧ x ≤ 3000 ∧ Rd2 w' w'.heap.size A l ∧ Below w.heap.size w w'
def DrawP2 (w : World) (e : Ending) (w' : World) : Prop :=
  ∃ (A : Option Addr) (c m : Nat) (l : List (Int × Int)) (x y : Int), e = .returned (.tuple #[.slice A m c, .int .i64 x, .int .i64 y]) ∧ l.length = m ∧ m ≤ 100 ∧ m ≤ c ∧ -1000 ≤ x ∧ x ≤ 3000 ∧ -1000 ≤ y ∧ y ≤ 3000 ∧ Rd2 w' w'.heap.size A l ∧ Below w.heap.size w w'

set_option maxHeartbeats 1000000 in
theorem drawValidTiers_any (A : Option Addr) (n c : Nat) (w : World) (hm : n ≤ 9223372036854775807) (hc : n ≤ c) (hr : RdB w w.heap.size A n) :
    Calls Try.prog 14 #[.slice A n c] w (DrawP w) := by
  go_enter Try.func14, Try.ntmps14
  go_wp2_with fail
  refine (newReader_any A n c _ hm hc hr).mono ?_
  rintro e w1 ⟨rfl, hr1, hb1⟩
  clear hr
  go_wp2_with fail
  refine (anyTiers_any w.heap.size 0 _ (by omega) hr1).mono ?_
  rintro e w2 ⟨A2, c2, m, l, p', rfl, hl, hm2, hc2, hown, hr2, hp2, ho2⟩
  have hb2 := Only.below hb1 ho2 (Nat.le_refl _)
  have hrd := own_rd2 hown hl
  clear hown
  go_wp2
  go_ret
  exact ⟨A2, c2, m, l, rfl, hl, hm2, hc2, hrd, hb2⟩

set_option maxHeartbeats 1000000 in
theorem drawOldestKept_any (A : Option Addr) (n c : Nat) (w : World) (hm : n ≤ 9223372036854775807) (hc : n ≤ c) (hr : RdB w w.heap.size A n) :
    Calls Try.prog 24 #[.slice A n c] w (DrawP1 w) := by
  go_enter Try.func24, Try.ntmps24
  go_wp2_with fail
  refine (newReader_any A n c _ hm hc hr).mono ?_
  rintro e w1 ⟨rfl, hr1, hb1⟩
  clear hr
  go_wp2_with fail
  refine (anyTiers_any w.heap.size 0 _ (by omega) hr1).mono ?_
  rintro e w2 ⟨A2, c2, m, l, p', rfl, hl, hm2, hc2, hown, hr2, hp2, ho2⟩
  have hb2 := Only.below hb1 ho2 (Nat.le_refl _)
  have hg1 := hr1.lt
  clear hr1 ho2 hb1
  go_wp2_with fail
  refine (someNow_any w.heap.size p' _ (by omega) hr2).mono ?_
  rintro e w3 ⟨x, rfl, x0, x1, hr3, ho3⟩
  have hb3 := Only.below hb2 ho3 (Nat.le_refl _)
  have hrd := own_rd2 (Only.own hown ho3 hg1) hl
  clear hown ho3 hb2 hr3 hr2
  go_wp2
  go_ret2
  exact ⟨A2, c2, m, l, x, rfl, hl, hm2, hc2, by omega, by omega, hrd, hb3⟩

set_option maxHeartbeats 1000000 in
theorem drawTierFor_any (A : Option Addr) (n c : Nat) (w : World) (hm : n ≤ 9223372036854775807) (hc : n ≤ c) (hr : RdB w w.heap.size A n) :
    Calls Try.prog 28 #[.slice A n c] w (DrawP2 w) := by
  go_enter Try.func28, Try.ntmps28
  go_wp2_with fail
  refine (newReader_any A n c _ hm hc hr).mono ?_
  rintro e w1 ⟨rfl, hr1, hb1⟩
  clear hr
  go_wp2_with fail
  refine (anyTiers_any w.heap.size 0 _ (by omega) hr1).mono ?_
  rintro e w2 ⟨A2, c2, m, l, p', rfl, hl, hm2, hc2, hown, hr2, hp2, ho2⟩
  have hb2 := Only.below hb1 ho2 (Nat.le_refl _)
  have hg1 := hr1.lt
  clear hr1 ho2 hb1
  go_wp2_with fail
  refine (someNow_any w.heap.size p' _ (by omega) hr2).mono ?_
  rintro e w3 ⟨x, rfl, x0, x1, hr3, ho3⟩
  have hb3 := Only.below hb2 ho3 (Nat.le_refl _)
  have hown3 := Only.own hown ho3 hg1
  clear hown ho3 hb2 hr2
  go_wp2_with fail
  refine (one_lit w.heap.size (p' + 1 + 1) [0, x, x - 10, x - 60, x - 200, 1001, -1] 7 _ _ _ rfl rfl (by omega) (by omega) (by simp) (by omega) hr3).mono ?_
  rintro e w4 ⟨y, rfl, hy, hr4, ho4⟩
  have hy' : -1000 ≤ y ∧ y ≤ 3000 := by simp at hy; omega
  have hb4 := Only.below hb3 ho4 (Nat.le_refl _)
  have hrd := own_rd2 (Only.own hown3 ho4 hg1) hl
  clear hown3 ho4 hb3 hr3 hr4 hy
  go_wp2
  go_ret3
  exact ⟨A2, c2, m, l, x, y, rfl, hl, hm2, hc2, by omega, by omega, hy'.1, hy'.2, hrd, hb4⟩

set_option maxHeartbeats 1000000 in
theorem drawTierCost_any (A : Option Addr) (n c : Nat) (w : World) (hm : n ≤ 9223372036854775807) (hc : n ≤ c) (hr : RdB w w.heap.size A n) :
    Calls Try.prog 29 #[.slice A n c] w (DrawP1 w) := by
  go_enter Try.func29, Try.ntmps29
  go_wp2_with fail
  refine (drawOldestKept_any A n c _ hm hc hr).mono ?_
  rintro e w1 ⟨A2, c2, m, l, x, rfl, hl, hm2, hc2, x0, x1, hrd, hb⟩
  clear hr
  go_wp2
  go_ret2
  exact ⟨A2, c2, m, l, x, rfl, hl, hm2, hc2, x0, x1, hrd, hb⟩
end Go.Proofs.Ytheckdenoomhjaa
