/-
  The generators of series: someValue, someSeries, anySeries, someEnd, counter.
-/
import Derived.Test.YtiajcnldfdijoaaReader
import Derived.Test.YtiajcnldfdijoaaPointCopy
namespace Go.Proofs.Ytiajcnldfdijoaa
open Go.RowKit
/-- A generator handed back a slice of pairs of its own; the reader g has gone on. -/
def GenP (T : TypeId) (w : World) (g : Nat) (p : Int) (e : Ending) (w' : World) : Prop :=
  ∃ (A : Option Addr) (c m : Nat) (l : List (Int × Int)) (p' : Int), e = .returned (.slice A m c) ∧ l.length = m ∧ m ≤ 100 ∧ m ≤ c ∧ w'.ownsRow w.heap.size T 2 (.slice A m c) m (cellsL l) ∧ Rdr w' g p' ∧ p' ≤ p + 1000 ∧ Only g w w'

theorem own_cap {w : World} {B : Nat} {e : TypeId} {size n c : Nat} {A : Option Addr} {xs : List Value} (h : w.ownsRow B e size (.slice A n c) n xs) : n ≤ c := by
  rcases h.2 with ⟨h1, h2⟩ | ⟨_, cap, _, h1, _, _, h2, _⟩
  · omega
  · injection h1 with _ _ h3; omega

def ValPost (w : World) (g : Nat) (p q lo hi : Int) (e : Ending) (w' : World) : Prop := ∃ x : Int, e = .returned (.int .i64 x) ∧ lo ≤ x ∧ x ≤ hi ∧ Rdr w' g (p + q) ∧ Only g w w'
set_option maxHeartbeats 1000000 in
theorem someValue_any (g : Nat) (p : Int) (w : World) (hp : p ≤ 100000000000) (hr : Rdr w g p) :
    Calls Try.prog 72 #[.pointer (some ⟨g, 0, none⟩)] w (ValPost w g p 3 (-1000) 1000) := by
  go_enter Try.func72, Try.ntmps72
  go_wp2_with fail
  refine (pick_any g p 40 _ (by omega) hr).mono ?_
  rintro e w1 ⟨x, rfl, hx0, hx1, _, hr1, ho1⟩
  have hx2 := hx1 (by omega)
  clear hx1 hr
  go_wp2_with fail
  refine (pick_any g (p + 1) 250 _ (by omega) hr1).mono ?_
  rintro e w2 ⟨x', rfl, hx0', hx1, _, hr2, ho2⟩
  have hx2' := hx1 (by omega)
  have ho := ho1.trans ho2
  clear hx1 hr1 ho1 ho2
  go_wp2_with fail
  refine (one_lit g (p + 1 + 1) [0, 1, -1, 5, 10, 100, 1000, -1000, x, 4 * x' - 500] 10 _ _ _ rfl rfl (by omega) (by omega) (by simp) (by omega) hr2).mono ?_
  rintro e w3 ⟨y, rfl, hy, hr3, ho3⟩
  have hy' : -1000 ≤ y ∧ y ≤ 1000 := by simp at hy; omega
  clear hy
  go_wp2
  go_ret
  exact ⟨y, rfl, hy'.1, hy'.2, by rw [show p + 3 = p + 1 + 1 + 1 by omega]; exact hr3, ho.trans ho3⟩

set_option maxHeartbeats 1000000 in
theorem someEnd_any (g : Nat) (p : Int) (w : World) (hp : p ≤ 100000000000) (hr : Rdr w g p) :
    Calls Try.prog 49 #[.pointer (some ⟨g, 0, none⟩)] w (ValPost w g p 2 (-2001) 2001) := by
  go_enter Try.func49, Try.ntmps49
  go_wp2_with fail
  refine (pick_any g p 60 _ (by omega) hr).mono ?_
  rintro e w1 ⟨x, rfl, hx0, hx1, _, hr1, ho1⟩
  have hx2 := hx1 (by omega)
  clear hx1 hr
  go_wp2_with fail
  refine (one_lit g (p + 1) [0, 10, 50, 100, 1001, -5, 2000, 2001, x, 30, -2001] 11 _ _ _ rfl rfl (by omega) (by omega) (by simp) (by omega) hr1).mono ?_
  rintro e w2 ⟨y, rfl, hy, hr2, ho2⟩
  have hy' : -2001 ≤ y ∧ y ≤ 2001 := by simp at hy; omega
  clear hy
  go_wp2
  go_ret
  exact ⟨y, rfl, hy'.1, hy'.2, by rw [show p + 2 = p + 1 + 1 by omega]; exact hr2, ho1.trans ho2⟩

def SerPost (w : World) (g : Nat) (p : Int) (e : Ending) (w' : World) : Prop := ∃ (A : Option Addr) (c m : Nat) (l : List (Int × Int)) (p' : Int), e = .returned (.slice A m c) ∧ l.length = m ∧ m ≤ 16 ∧ m ≤ c ∧ w'.ownsRow w.heap.size 30 2 (.slice A m c) m (cellsL l) ∧ Rdr w' g p' ∧ p' ≤ p + 200 ∧ Only g w w'
set_option maxHeartbeats 4000000 in
theorem someSeries_any (g : Nat) (p : Int) (w : World) (hp : p ≤ 1000000000) (hr : Rdr w g p) :
    Calls Try.prog 59 #[.pointer (some ⟨g, 0, none⟩)] w (SerPost w g p) := by
  have hg := hr.lt
  obtain ⟨i0, hi, hz0, hz1, hz2⟩ := info_parts infoPoint
  have hO : (w.alloc (Obj.cells #[] 30)).ownsRow w.heap.size 30 2 (.slice (some ⟨w.heap.size, 0, none⟩) 0 0) 0 (cellsL []) := World.ownsRow_made w #[] 0 (Nat.le_refl _) (by unfold maxLen; omega) rfl
  have hr0 := hr.kept (kept_alloc (Below.refl _ _) (Obj.cells #[] 30))
  have ho0 := (Only.refl g w).alloc (Obj.cells #[] 30)
  clear hr
  go_enter Try.func59, Try.ntmps59
  go_wp2_with fail
  refine (pick_any g p 20 _ (by omega) hr0).mono ?_
  rintro e w1 ⟨t0, rfl, t00, t01, _, hr1, ho1⟩
  have t02 := t01 (by omega)
  have hO1 := Only.own hO ho1 hg
  have hs1 := ho0.trans ho1
  clear hO hr0 ho0 ho1 t01
  go_wp2_with fail
  refine (one_lit g (p + 1) [1, 5, 10, 7, 20] 5 _ _ _ rfl rfl (by omega) (by omega) (by simp) (by omega) hr1).mono ?_
  rintro e w2 ⟨st, rfl, hst, hr2, ho2⟩
  have hst' : 1 ≤ st ∧ st ≤ 20 := by simp at hst; omega
  obtain ⟨st0, st1⟩ := hst'
  have hO2 := Only.own hO1 ho2 hg
  have hs2 := hs1.trans ho2
  clear hO1 hr1 hs1 ho2 hst
  go_wp2_with fail
  refine (one_lit g (p + 1 + 1) [5, 8, 3, 12, 1, 0, 16] 7 _ _ _ rfl rfl (by omega) (by omega) (by simp) (by omega) hr2).mono ?_
  rintro e w3 ⟨n0, rfl, hn0, hr3, ho3⟩
  have hO3 := Only.own hO2 ho3 hg
  have hs3 := hs2.trans ho3
  clear hO2 hr2 hs2 ho3
  have hn0' : 0 ≤ n0 ∧ n0 ≤ 16 := by simp at hn0; omega
  obtain ⟨n00, n05⟩ := hn0'
  clear hn0
  go_wp2
  go_loopw [3, 4, 6] (fun v a i wr => ∃ (A' : Option Addr) (c' m : Nat) (l' : List (Int × Int)) (x n p' : Int), v = .slice A' m c' ∧ a = .int .i64 x ∧ i = .int .i64 n ∧ l'.length = m ∧ 0 ≤ n ∧ n + m ≤ 16 ∧ 0 ≤ x ∧ x ≤ 1070 ∧
      wr.ownsRow w.heap.size 30 2 (.slice A' m c') m (cellsL l') ∧ Rdr wr g p' ∧ p' ≤ p + 3 + 5 * m ∧ Only g w wr) (fun _ _ i _ => (intOf i).toNat)
  case atStart => exact ⟨_, _, 0, [], t0, n0, _, rfl, rfl, rfl, rfl, n00, by omega, by omega, by omega, hO3, hr3, by omega, hs3⟩
  case round =>
    obtain ⟨A', c', m, l', x, n, p', rfl, rfl, rfl, hlm, hn0, hnm, hx0, hx1, hown, hrr, hpp, hon⟩ := hrel
    clear hO3 hr3 hs3
    have HL := Lib.hid hlm
    clear hlm
    have hwr := hon.size
    by_cases hlt : 0 < n
    · by_cases hx2 : x ≤ 1000
      · go_wp2_with fail
        refine (someValue_any g p' _ (by omega) hrr).mono ?_
        rintro e w4 ⟨y, rfl, y0, y1, hr4, ho4⟩
        have hO4 := Only.own hown ho4 hg
        have hs4 := hon.trans ho4
        have hwr4 := hs4.size
        clear hown hrr hon ho4 hwr
        go_wp2_with (at_builtin; refine wpList_append_lies _ rfl _ _ _ rfl (w.heap.size) 30 i0 _ 2 16 Try.underlying23 hi hz0 hz1 hz2 rfl (by omega) _ (m) (cellsL l') rfl ((hO4).alloc _) ⟨w4.heap.size, 0, none⟩ 1 1 ([.int .i64 x, .int .i64 y]) rfl rfl (World.news_of_block (cs := ([.int .i64 x, .int .i64 y]).toArray) (t := 30) (fr := (0, 0)) (heap_alloc_new w4 _)) (by simp [Value.oneCell']) (by omega) (by simp only [maxLen]; omega) (by omega) (by simp; omega) (w4.heap.size + 1) (by simp) ?_; intro gg cap w2 hown2 hgrow hat hlt2)
        have hrW := rdr_app hr4 hO4 hg hgrow
        have hoW := only_app hs4 hO4 hgrow
        rw [← cellsL_snoc] at hown2
        clear hO4 hgrow hat hr4 hs4 hwr4
        have hxs : IntKind.i64.wrap (x + st) = x + st := IntWalk.i64_in _ (by omega)
        go_wp2_with fail
        refine (pick_any g (p' + 3) 4 _ (by omega) hrW).mono ?_
        rintro e w5 ⟨q, rfl, q0, q1, _, hr5, ho5⟩
        have hO5 := Only.own hown2 ho5 hg
        have hs5 := hoW.trans ho5
        clear hown2 hrW hoW ho5 q1
        by_cases hq : q = 0
        · have hqz : (q == 0) = true := by simp [hq]
          clear hq
          go_wp2_with fail
          refine (one_lit g (p' + 3 + 1) [1, 3, 30, 50] 4 _ _ _ rfl rfl (by omega) (by omega) (by simp) (by omega) hr5).mono ?_
          rintro e w6 ⟨z, rfl, hz, hr6, ho6⟩
          have hz' : 1 ≤ z ∧ z ≤ 50 := by simp at hz; omega
          obtain ⟨z0, z1⟩ := hz'
          have hO6 := Only.own hO5 ho6 hg
          have hs6 := hs5.trans ho6
          have hxs2 : IntKind.i64.wrap (x + st + z) = x + st + z := IntWalk.i64_in _ (by omega)
          clear hO5 hr5 hs5 ho6 hz
          go_wp2
          go_roundw
          case rel => exact ⟨_, _, m + 1, _, _, n - 1, _, rfl, rfl, rfl, by rw [List.length_append, HL.out]; rfl, by omega, by omega, by omega, by omega, hO6, hr6, by omega, hs6⟩
          case measure => simp [intOf]; omega
        · have hqz : (q == 0) = false := by simp [hq]
          clear hq
          go_wp2
          go_roundw
          case rel => exact ⟨_, _, m + 1, _, _, n - 1, _, rfl, rfl, rfl, by rw [List.length_append, HL.out]; rfl, by omega, by omega, by omega, by omega, hO5, hr5, by omega, hs5⟩
          case measure => simp [intOf]; omega
      · have hcap := own_cap hown
        go_wp2
        go_ret
        exact ⟨A', c', m, l', p', rfl, HL.out, by omega, hcap, hown, hrr, by omega, hon⟩
    · have hcap := own_cap hown
      go_wp2
      go_ret
      exact ⟨A', c', m, l', p', rfl, HL.out, by omega, hcap, hown, hrr, by omega, hon⟩
end Go.Proofs.Ytiajcnldfdijoaa
