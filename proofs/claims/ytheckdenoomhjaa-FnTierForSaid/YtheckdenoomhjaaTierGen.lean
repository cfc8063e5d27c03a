/-
  The generators of tiers: anyTiers, someNow, DrawValidTiers, DrawOldestKept, DrawTierFor, DrawTierCost.
-/
import Derived.Test.YtheckdenoomhjaaReader
import Derived.Test.YtheckdenoomhjaaTierCopy
namespace Go.Proofs.Ytheckdenoomhjaa
open Go.RowKit
/-- A generator handed back a slice of pairs of its own; the reader g has gone on. -/
def GenP (T : TypeId) (w : World) (g : Nat) (p : Int) (e : Ending) (w' : World) : Prop :=
  ∃ (A : Option Addr) (c m : Nat) (l : List (Int × Int)) (p' : Int), e = .returned (.slice A m c) ∧ l.length = m ∧ m ≤ 100 ∧ m ≤ c ∧ w'.ownsRow w.heap.size T 2 (.slice A m c) m (cellsL l) ∧ Rdr w' g p' ∧ p' ≤ p + 1000 ∧ Only g w w'

theorem own_cap {w : World} {B : Nat} {e : TypeId} {size n c : Nat} {A : Option Addr} {xs : List Value} (h : w.ownsRow B e size (.slice A n c) n xs) : n ≤ c := by
  rcases h.2 with ⟨h1, h2⟩ | ⟨_, cap, _, h1, _, _, h2, _⟩
  · omega
  · injection h1 with _ _ h3; omega

set_option maxHeartbeats 4000000 in
theorem anyTiers_any (g : Nat) (p : Int) (w : World) (hp : p ≤ 1000000000) (hr : Rdr w g p) :
    Calls Try.prog 30 #[.pointer (some ⟨g, 0, none⟩)] w (GenP 42 w g p) := by
  have hg := hr.lt
  obtain ⟨i0, hi, hz0, hz1, hz2⟩ := info_parts infoTier
  have hO : (w.alloc (Obj.cells #[] 42)).ownsRow w.heap.size 42 2 (.slice (some ⟨w.heap.size, 0, none⟩) 0 0) 0 (cellsL []) := World.ownsRow_made w #[] 0 (Nat.le_refl _) (by unfold maxLen; omega) rfl
  have hr0 := hr.kept (kept_alloc (Below.refl _ _) (Obj.cells #[] 42))
  have ho0 := (Only.refl g w).alloc (Obj.cells #[] 42)
  clear hr
  go_enter Try.func30, Try.ntmps30
  go_wp2_with fail
  refine (one_lit g p [1, 5, 2] 3 _ _ _ rfl rfl (by omega) (by omega) (by simp) (by omega) hr0).mono ?_
  rintro e w1 ⟨wd, rfl, _, hr1, ho1⟩
  have hO1 := Only.own hO ho1 hg
  have hs1 := ho0.trans ho1
  clear hO hr0 ho0 ho1
  go_wp2_with fail
  refine (one_lit g (p + 1) [10, 50, 20] 3 _ _ _ rfl rfl (by omega) (by omega) (by simp) (by omega) hr1).mono ?_
  rintro e w2 ⟨kp, rfl, _, hr2, ho2⟩
  have hO2 := Only.own hO1 ho2 hg
  have hs2 := hs1.trans ho2
  clear hO1 hr1 hs1 ho2
  go_wp2_with fail
  refine (one_lit g (p + 1 + 1) [2, 3, 1, 4, 0, 5] 6 _ _ _ rfl rfl (by omega) (by omega) (by simp) (by omega) hr2).mono ?_
  rintro e w3 ⟨n0, rfl, hn0, hr3, ho3⟩
  have hO3 := Only.own hO2 ho3 hg
  have hs3 := hs2.trans ho3
  clear hO2 hr2 hs2 ho3
  have hn0' : 0 ≤ n0 ∧ n0 ≤ 5 := by simp at hn0; omega
  obtain ⟨n00, n05⟩ := hn0'
  clear hn0
  go_wp2
  go_loopw [3, 4, 5, 6] (fun v a b i wr => ∃ (A' : Option Addr) (c' m : Nat) (l' : List (Int × Int)) (x y n p' : Int), v = .slice A' m c' ∧ a = .int .i64 x ∧ b = .int .i64 y ∧ i = .int .i64 n ∧ l'.length = m ∧ 0 ≤ n ∧ n + m ≤ 5 ∧
      wr.ownsRow w.heap.size 42 2 (.slice A' m c') m (cellsL l') ∧ Rdr wr g p' ∧ p' ≤ p + 3 + 2 * m ∧ Only g w wr) (fun _ _ _ i _ => (intOf i).toNat)
  case atStart => exact ⟨_, _, 0, [], wd, kp, n0, _, rfl, rfl, rfl, rfl, rfl, n00, by omega, hO3, hr3, by omega, hs3⟩
  case round =>
    obtain ⟨A', c', m, l', x, y, n, p', rfl, rfl, rfl, rfl, hlm, hn0, hnm, hown, hrr, hpp, hon⟩ := hrel
    clear hO3 hr3 hs3
    have HL := Lib.hid hlm
    clear hlm
    have hwr := hon.size
    by_cases hlt : 0 < n
    · go_wp2_with (at_builtin; refine wpList_append_lies _ rfl _ _ _ rfl (w.heap.size) 42 i0 _ 2 16 Try.underlying23 hi hz0 hz1 hz2 rfl (by omega) _ (m) (cellsL l') rfl ((hown).alloc _) ⟨wr.heap.size, 0, none⟩ 1 1 ([.int .i64 x, .int .i64 y]) rfl rfl (World.news_of_block (cs := ([.int .i64 x, .int .i64 y]).toArray) (t := 42) (fr := (0, 0)) (heap_alloc_new wr _)) (by simp [Value.oneCell']) (by omega) (by simp only [maxLen]; omega) (by omega) (by simp; omega) (wr.heap.size + 1) (by simp) ?_; intro gg cap w2 hown2 hgrow hat hlt2)
      have hrW := rdr_app hrr hown hg hgrow
      have hoW := only_app hon hown hgrow
      rw [← cellsL_snoc] at hown2
      clear hown hgrow hat hrr hon
      go_wp2_with fail
      refine (one_lit g p' [2, 5, 3] 3 _ _ _ rfl rfl (by omega) (by omega) (by simp) (by omega) hrW).mono ?_
      rintro e w3 ⟨q1, rfl, _, hr3, ho3⟩
      have hO3 := Only.own hown2 ho3 hg
      have hs3 := hoW.trans ho3
      clear hown2 hrW hoW ho3
      go_wp2_with fail
      refine (one_lit g (p' + 1) [50, 100, 300] 3 _ _ _ rfl rfl (by omega) (by omega) (by simp) (by omega) hr3).mono ?_
      rintro e w4 ⟨q2, rfl, _, hr4, ho4⟩
      have hO4 := Only.own hO3 ho4 hg
      have hs4 := hs3.trans ho4
      clear hO3 hr3 hs3 ho4
      go_wp2
      all_goals
        go_roundw
        case rel => exact ⟨_, _, m + 1, _, _, _, n - 1, _, rfl, rfl, rfl, rfl, by rw [List.length_append, HL.out]; rfl, by omega, by omega, hO4, hr4, by omega, hs4⟩
        case measure => simp [intOf]; omega
    · by_cases hm0 : m = 0
      · have hmz : ¬ (0 : Int) < (m : Int) := by omega
        have HM := Lib.hid hm0
        clear hm0
        go_wp2
        go_ret
        exact ⟨A', c', m, l', p', rfl, HL.out, by omega, own_cap hown, hown, hrr, by omega, hon⟩
      · have hmz : (0 : Int) < (m : Int) := by omega
        go_wp2_with fail
        refine (pick_any g p' 14 _ (by omega) hrr).mono ?_
        rintro e w4 ⟨x, rfl, hx0, hx1, _, hr4, ho4⟩
        have hO4 := Only.own hown ho4 hg
        have hs4 := hon.trans ho4
        clear hown hrr hon ho4
        by_cases hx : x = 0
        · have hxz : (x == 0) = true := by simp [hx]
          clear hx
          go_wp2_with fail
          refine (pick_any g (p' + 1) m _ (by omega) hr4).mono ?_
          rintro e w5 ⟨i, rfl, hi0, hi1, _, hr5, ho5⟩
          have hi2 := hi1 (by omega)
          have hO5 := Only.own hO4 ho5 hg
          have hs5 := hs4.trans ho5
          clear hO4 hr4 hs4 ho5 hi1
          go_wp2_with fail
          refine (one_lit g (p' + 1 + 1) [0, 7, 101] 3 _ _ _ rfl rfl (by omega) (by omega) (by simp) (by omega) hr5).mono ?_
          rintro e w6 ⟨q1, rfl, _, hr6, ho6⟩
          have hO6 := Only.own hO5 ho6 hg
          have hs6 := hs5.trans ho6
          clear hO5 hr5 hs5 ho6
          go_wp2_with fail
          refine (one_lit g (p' + 1 + 1 + 1) [5, 1001, 100] 3 _ _ _ rfl rfl (by omega) (by omega) (by simp) (by omega) hr6).mono ?_
          rintro e w7 ⟨q2, rfl, _, hr7, ho7⟩
          have hO7 := Only.own hO6 ho7 hg
          have hs7 := hs6.trans ho7
          clear hO6 hr6 hs6 ho7
          obtain ⟨qb, qc, hv, hqb, hqs⟩ := hO7.form (by omega)
          have hA : A' = some ⟨qb, 0, none⟩ := by injection hv
          subst hA
          have hk : i.toNat < l'.length := by rw [HL.out]; omega
          have hc0 := hO7.cellAt (i.toNat * 2) (by omega)
          have hc1 := hO7.cellAt (i.toNat * 2 + 1) (by omega)
          rw [cellsL_at _ (by omega)] at hc0 hc1
          have hf0 := hO7.frozenAt (i.toNat * 2)
          have hf1 := hO7.frozenAt (i.toNat * 2 + 1)
          have hS1 := hO7.stored (i.toNat * 2) (.int .i64 q1)
          have hS2 := hS1.1.stored (i.toNat * 2 + 1) (.int .i64 q2)
          rw [cellsL_set _ _ _ _ hk] at hS2
          have hW := hs7.grown hS1.2 (fun k hk => by injection hk with hk; omega)
          have hW2 := hW.grown hS2.2 (fun k hk => by injection hk with hk; omega)
          have hR1 := hr7.grown hS1.2 (fun k hk => by injection hk with hk; omega)
          have hR2 := hR1.grown hS2.2 (fun k hk => by injection hk with hk; omega)
          have hX := Lib.hid (And.intro hS2.1 (And.intro hW2 hR2))
          clear hO7 hs7 hr7 hS1 hS2 hW hW2 hR1 hR2 hv
          go_wp2
          go_ret
          exact ⟨_, c', m, _, _, rfl, by rw [List.length_set]; exact HL.out, by omega, own_cap hX.out.1, hX.out.1, hX.out.2.2, by omega, hX.out.2.1⟩
        · have hxz : (x == 0) = false := by simp [hx]
          clear hx
          go_wp2
          go_ret
          exact ⟨A', c', m, l', _, rfl, HL.out, by omega, own_cap hO4, hO4, hr4, by omega, hs4⟩
end Go.Proofs.Ytheckdenoomhjaa
