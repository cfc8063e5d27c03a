/-
  The generators of matchers.
-/
import Derived.Test.YtmnfcfhnmndakaaMatCopy
import Derived.Test.YtmnfcfhnmndakaaLabGen
namespace Go.Proofs.Ytmnfcfhnmndakaa
open Go.RowKit
def GenM (b : Nat) (d : Int) (w : World) (g : Nat) (p : Int) (e : Ending) (w' : World) : Prop :=
  ∃ (A : Option Addr) (c m : Nat) (l : List Mt) (p' : Int), e = .returned (.slice A m c) ∧ l.length = m ∧ m ≤ b ∧ m ≤ c ∧ SzM l ∧ w'.ownsRow w.heap.size 65 3 (.slice A m c) m (rowG encM 3 l) ∧ Rdr w' g p' ∧ p' ≤ p + d ∧ Only g w w'
theorem SzM_nil : SzM [] := fun i hi => absurd hi (by simp)
theorem SzM_snoc {l : List Mt} {a b : ByteArray} {z : Bool} (h : SzM l) (h1 : a.size ≤ 16) (h2 : b.size ≤ 16) : SzM (l ++ [(a, b, z)]) := fun i hi => by
  rw [List.length_append, List.length_singleton] at hi
  rcases Nat.lt_or_ge i l.length with h3 | h3
  · rw [at0_append _ _ h3]; exact h i h3
  · have e : i = l.length := by omega
    subst e
    rw [at0_append_r _ _ (Nat.le_refl _), Nat.sub_self]
    show a.size ≤ _ ∧ b.size ≤ _
    omega
theorem SzM_set {l : List Mt} {a : ByteArray} (h : SzM l) (h1 : a.size ≤ 16) {i : Nat} (hi : i < l.length) : SzM (l.set i (a, (at0 l i).2)) := fun j hj => by
  rw [List.length_set] at hj
  rw [at0_set _ _ hi]
  by_cases e : j = i
  · rw [if_pos e]
    subst e
    have := h j hj
    show a.size ≤ _ ∧ (at0 l j).2.1.size ≤ _
    omega
  · rw [if_neg e]; exact h j hj
theorem rowM_setN (l : List Mt) (a : ByteArray) {i : Nat} (hi : i < l.length) : (rowG encM 3 l).set (i * 3) (.string a) = rowG encM 3 (l.set i (a, (at0 l i).2)) := by
  refine List.ext_getElem? fun j => ?_
  rw [List.getElem?_set, rowG_len]
  by_cases hj : j < l.length * 3
  · rw [rowG_at _ hj, rowG_at _ (by rw [List.length_set]; exact hj)]
    unfold cellsG
    rw [at0_set _ _ hi]
    by_cases e : i * 3 = j
    · subst e
      have e1 : i * 3 / 3 = i := by omega
      have e2 : i * 3 % 3 = 0 := by omega
      rw [if_pos rfl, if_pos hj, e1, e2, if_pos rfl]; rfl
    · rw [if_neg e]
      by_cases e1 : j / 3 = i
      · rw [if_pos e1, e1]
        have e2 : ¬ j % 3 = 0 := by omega
        unfold encM; rw [if_neg e2, if_neg e2]
      · rw [if_neg e1]
  · have hl1 : (rowG encM 3 l).length ≤ j := by rw [rowG_len]; omega
    have hl2 : (rowG encM 3 (l.set i (a, (at0 l i).2))).length ≤ j := by rw [rowG_len, List.length_set]; omega
    rw [List.getElem?_eq_none hl1, List.getElem?_eq_none hl2, if_neg (by omega)]
set_option maxHeartbeats 8000000 in
set_option maxRecDepth 100000 in
theorem anyMatchers_any (g : Nat) (p : Int) (w : World) (hp : p ≤ 800000000) (hr : Rdr w g p) :
    Calls Try.prog 76 #[.pointer (some ⟨g, 0, none⟩)] w (GenM 5 40 w g p) := by
  have hg := hr.lt
  obtain ⟨i0, hi, hz0, hz1, hz2⟩ := info_parts infoMatcher
  have hO : (w.alloc (Obj.cells #[] 65)).ownsRow w.heap.size 65 3 (.slice (some ⟨w.heap.size, 0, none⟩) 0 0) 0 (rowG encM 3 []) := by rw [rowG_nil]; exact World.ownsRow_made w #[] 0 (Nat.le_refl _) (by unfold maxLen; omega) rfl
  have hr0 := hr.kept (kept_alloc (Below.refl _ _) (Obj.cells #[] 65))
  have ho0 := (Only.refl g w).alloc (Obj.cells #[] 65)
  have HS1 := Lib.hid (show ∀ x ∈ ([⟨#[97]⟩, ⟨#[104, 111, 115, 116]⟩, ⟨#[106, 111, 98]⟩, ⟨#[122, 111, 110, 101]⟩, ⟨#[98]⟩] : List ByteArray), x.size ≤ 16 by decide)
  have HS2 := Lib.hid (show ∀ x ∈ ([⟨#[120]⟩, ⟨#[121]⟩, ⟨#[117, 112]⟩, ⟨#[]⟩, ⟨#[120]⟩] : List ByteArray), x.size ≤ 16 by decide)
  have HS3 := Lib.hid (show ∀ x ∈ ([⟨#[]⟩, ⟨#[65]⟩, ⟨#[122, 122, 122, 122, 122]⟩] : List ByteArray), x.size ≤ 16 by decide)
  clear hr
  go_enter Try.func76, Try.ntmps76
  go_wp2_with fail
  refine (one_lit g p [1, 2, 0, 3, 4, 5] 6 _ _ _ rfl rfl (by omega) (by omega) (by simp) (by omega) hr0).mono ?_
  rintro e w1 ⟨t0, rfl, ht0, hr1, ho1⟩
  have ht0' : 0 ≤ t0 ∧ t0 ≤ 5 := by simp at ht0; omega
  obtain ⟨t00, t02⟩ := ht0'
  have hO1 := Only.own hO ho1 hg
  have hs1 := ho0.trans ho1
  clear hO hr0 ho0 ho1 ht0
  go_wp2
  go_loopw [3, 4] (fun v i wr => ∃ (A' : Option Addr) (c' m : Nat) (l' : List Mt) (n p' : Int), v = .slice A' m c' ∧ i = .int .i64 n ∧ l'.length = m ∧ 0 ≤ n ∧ n + m ≤ 5 ∧ SzM l' ∧
      wr.ownsRow w.heap.size 65 3 (.slice A' m c') m (rowG encM 3 l') ∧ Rdr wr g p' ∧ p' ≤ p + 1 + 3 * m ∧ Only g w wr) (fun _ i _ => (intOf i).toNat)
  case atStart => exact ⟨_, _, 0, [], t0, _, rfl, rfl, rfl, t00, by omega, SzM_nil, hO1, hr1, by omega, hs1⟩
  case round =>
    obtain ⟨A', c', m, l', n, p', rfl, rfl, hlm, hn0, hnm, hsz, hown, hrr, hpp, hon⟩ := hrel
    clear hO1 hr1 hs1
    have HL := Lib.hid hlm
    have HSz := Lib.hid hsz
    clear hlm hsz
    by_cases hlt : 0 < n
    · go_wp2_with fail
      refine (of_lit g p' [⟨#[97]⟩, ⟨#[104, 111, 115, 116]⟩, ⟨#[106, 111, 98]⟩, ⟨#[122, 111, 110, 101]⟩, ⟨#[98]⟩] 5 _ _ _ rfl rfl (by omega) (by omega) HS1.out rfl (by omega) hrr).mono ?_
      rintro e w4 ⟨y, rfl, hy, hr4, ho4⟩
      have hO4 := Only.own hown ho4 hg
      have hs4 := hon.trans ho4
      clear hown hrr hon ho4
      go_wp2_with fail
      refine (of_lit g (p' + 1) [⟨#[120]⟩, ⟨#[121]⟩, ⟨#[117, 112]⟩, ⟨#[]⟩, ⟨#[120]⟩] 5 _ _ _ rfl rfl (by omega) (by omega) HS2.out rfl (by omega) hr4).mono ?_
      rintro e w5 ⟨v, rfl, hv, hr5, ho5⟩
      have hO5 := Only.own hO4 ho5 hg
      have hs5 := hs4.trans ho5
      clear hO4 hr4 hs4 ho5
      go_wp2_with fail
      refine (pick_any g (p' + 1 + 1) 3 _ (by omega) hr5).mono ?_
      rintro e w6 ⟨x, rfl, x0, x1', _, hr6, ho6⟩
      have hO6 := Only.own hO5 ho6 hg
      have hs6 := hs5.trans ho6
      have hwr6 := hs6.size
      clear hO5 hr5 hs5 ho6 x1'
      rcases hxb : (x == 0) with _ | _
      · go_wp2_with (at_builtin; refine wpList_append_lies _ rfl _ _ _ rfl (w.heap.size) 65 i0 _ 3 40 Try.underlying57 hi hz0 hz1 hz2 rfl (by omega) _ (m) (rowG encM 3 l') rfl ((hO6).alloc _) ⟨w6.heap.size, 0, none⟩ 1 1 ([.string y, .string v, .bool false]) rfl rfl (World.news_of_block (cs := ([.string y, .string v, .bool false]).toArray) (t := 65) (fr := (0, 0)) (heap_alloc_new w6 _)) (by simp [Value.oneCell']) (by omega) (by simp only [maxLen]; omega) (by omega) (by simp; omega) (w6.heap.size + 1) (by simp) ?_; intro gg cap w2 hown2 hgrow hat hlt2)
        have hrW := rdr_app hr6 hO6 hg hgrow
        have hoW := only_app hs6 hO6 hgrow
        rw [← rowM_snoc] at hown2
        clear hO6 hgrow hat hr6 hs6 hwr6
        go_wp2
        go_roundw
        case rel => exact ⟨_, _, m + 1, _, n - 1, _, rfl, rfl, by rw [List.length_append, HL.out]; rfl, by omega, by omega, SzM_snoc HSz.out hy hv, hown2, hrW, by omega, hoW⟩
        case measure => simp [intOf]; omega
      · go_wp2_with (at_builtin; refine wpList_append_lies _ rfl _ _ _ rfl (w.heap.size) 65 i0 _ 3 40 Try.underlying57 hi hz0 hz1 hz2 rfl (by omega) _ (m) (rowG encM 3 l') rfl ((hO6).alloc _) ⟨w6.heap.size, 0, none⟩ 1 1 ([.string y, .string v, .bool true]) rfl rfl (World.news_of_block (cs := ([.string y, .string v, .bool true]).toArray) (t := 65) (fr := (0, 0)) (heap_alloc_new w6 _)) (by simp [Value.oneCell']) (by omega) (by simp only [maxLen]; omega) (by omega) (by simp; omega) (w6.heap.size + 1) (by simp) ?_; intro gg cap w2 hown2 hgrow hat hlt2)
        have hrW := rdr_app hr6 hO6 hg hgrow
        have hoW := only_app hs6 hO6 hgrow
        rw [← rowM_snoc] at hown2
        clear hO6 hgrow hat hr6 hs6 hwr6
        go_wp2
        go_roundw
        case rel => exact ⟨_, _, m + 1, _, n - 1, _, rfl, rfl, by rw [List.length_append, HL.out]; rfl, by omega, by omega, SzM_snoc HSz.out hy hv, hown2, hrW, by omega, hoW⟩
        case measure => simp [intOf]; omega
    · have hcap := own_cap hown
      by_cases hm0 : m = 0
      · have hmz : decide (0 < m) = false := by simp [hm0]
        clear hm0
        go_wp2
        go_ret
        exact ⟨A', c', m, l', p', rfl, HL.out, by omega, hcap, HSz.out, hown, hrr, by omega, hon⟩
      · have hmz : decide (0 < m) = true := by simp; omega
        have hmp : 0 < m := by omega
        clear hm0
        go_wp2_with fail
        refine (pick_any g p' 16 _ (by omega) hrr).mono ?_
        rintro e w4 ⟨x, rfl, x0, x1', _, hr4, ho4⟩
        have hO4 := Only.own hown ho4 hg
        have hs4 := hon.trans ho4
        clear hown hrr hon ho4 x1'
        by_cases hx : x = 0
        · have hxz : (x == 0) = true := by simp [hx]
          clear hx
          go_wp2_with fail
          refine (of_lit g (p' + 1) [⟨#[]⟩, ⟨#[65]⟩, ⟨#[122, 122, 122, 122, 122]⟩] 3 _ _ _ rfl rfl (by omega) (by omega) HS3.out rfl (by omega) hr4).mono ?_
          rintro e w5 ⟨y, rfl, hy, hr5, ho5⟩
          have hO5 := Only.own hO4 ho5 hg
          have hs5 := hs4.trans ho5
          clear hO4 hr4 hs4 ho5
          obtain ⟨qb, qc, hvv, hqb, hqs⟩ := hO5.form hmp
          have hA : A' = some ⟨qb, 0, none⟩ := by injection hvv
          subst hA
          have hk : 0 < l'.length := by rw [HL.out]; exact hmp
          have hc1 := hO5.cellAt 0 (by omega)
          have hc1' : w5.cell? ⟨qb, 0, none⟩ = some (cellsG encM 3 l' 0) := by rw [rowG_at _ (by omega)] at hc1; exact hc1
          have hf1 := hO5.frozenAt 0
          have hS1 := hO5.stored 0 (.string y)
          have hrow := rowM_setN l' y hk
          rw [Nat.zero_mul] at hrow
          rw [hrow] at hS1
          have hW := hs5.grown hS1.2 (fun k hk => by injection hk with hk; omega)
          have hR1 := hr5.grown hS1.2 (fun k hk => by injection hk with hk; omega)
          have hX := Lib.hid (And.intro hS1.1 (And.intro hW hR1))
          clear hO5 hs5 hr5 hS1 hW hR1 hvv hc1 hrow
          go_wp2
          go_ret
          exact ⟨_, _, m, _, _, rfl, by rw [List.length_set]; exact HL.out, by omega, hcap, SzM_set HSz.out hy hk, hX.out.1, hX.out.2.2, by omega, hX.out.2.1⟩
        · have hxz : (x == 0) = false := by simp [hx]
          clear hx
          go_wp2
          go_ret
          exact ⟨A', c', m, l', _, rfl, HL.out, by omega, hcap, HSz.out, hO4, hr4, by omega, hs4⟩
def DrawM (w : World) (e : Ending) (w' : World) : Prop :=
  ∃ (A : Option Addr) (c m : Nat) (l : List Mt), e = .returned (.slice A m c) ∧ l.length = m ∧ m ≤ 5 ∧ m ≤ c ∧ SzM l ∧ RdM w' w'.heap.size A l ∧ Below w.heap.size w w'
end Go.Proofs.Ytmnfcfhnmndakaa
