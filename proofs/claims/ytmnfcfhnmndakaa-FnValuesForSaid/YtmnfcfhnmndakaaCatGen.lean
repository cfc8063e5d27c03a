/-
  The generators of catalogs: someCatalog, DrawValidCatalog.
-/
import Derived.Test.YtmnfcfhnmndakaaCatW4
namespace Go.Proofs.Ytmnfcfhnmndakaa
open Go.RowKit
def SzN (C : Ct) : Prop := SzR C 5
theorem SzN_nil : SzN [] := fun i hi => absurd hi (by simp)
theorem SzN_snoc {C : Ct} {l : List Lb} (h : SzN C) (h1 : SzL l) (h2 : l.length ≤ 5) : SzN (C ++ [l]) := fun i hi => by
  rw [List.length_append, List.length_singleton] at hi
  rcases Nat.lt_or_ge i C.length with h3 | h3
  · rw [at0_append _ _ h3]; exact h i h3
  · have e : i = C.length := by omega
    subst e
    rw [at0_append_r _ _ (Nat.le_refl _), Nat.sub_self]
    exact ⟨h1, h2⟩
theorem adV_some {C : Ct} {l : List Lb} {D : Ct} {k : Int} (h : adV C l = some (D, k)) (hC : SzN C) (h1 : SzL l) (h2 : l.length ≤ 5) : SzN D ∧ D.length ≤ 8 := by
  unfold adV at h
  split at h
  · rename_i hv
    have h8 := (VC_of hv.1).1
    split at h
    · injection h with h; injection h with h3 h4; subst h3; exact ⟨hC, h8⟩
    · split at h
      · cases h
      · injection h with h; injection h with h3 h4; subst h3
        exact ⟨SzN_snoc hC h1 h2, by rw [List.length_append, List.length_singleton]; omega⟩
  · cases h
def GenC (w : World) (g : Nat) (p : Int) (e : Ending) (w' : World) : Prop :=
  ∃ (A : Option Addr) (c n : Nat) (C : Ct) (vs : List Value) (p' : Int), e = .returned (.slice A n c) ∧ OwnC w.heap.size w' (.slice A n c) n C vs ∧ n ≤ 9 ∧ n ≤ c ∧ SzN C ∧ Rdr w' g p' ∧ p' ≤ p + 1000 ∧ Only g w w'
set_option maxHeartbeats 4000000 in
set_option maxRecDepth 100000 in
theorem someCatalog_any (g : Nat) (p : Int) (w : World) (hp : p ≤ 1000000) (hr : Rdr w g p) :
    Calls Try.prog 55 #[.pointer (some ⟨g, 0, none⟩)] w (GenC w g p) := by
  have hg := hr.lt
  obtain ⟨i0, hi, hz0, hz1, hz2⟩ := info_parts infoSl
  have HO := Lib.hid (OwnC.nil w (Obj.cells #[] 33) (World.ownsRow_made w #[] 0 (Nat.le_refl _) (by unfold maxLen; omega) rfl))
  have hr1 := hr.kept (kept_alloc (Below.refl _ _) (Obj.cells #[] 33))
  have ho1 := (Only.refl g w).alloc (Obj.cells #[] 33)
  clear hr
  go_enter Try.func55, Try.ntmps55
  go_wp2_with fail
  refine (one_lit g p [4, 6, 3, 1, 0, 12] 6 _ _ _ rfl rfl (by omega) (by omega) (by simp) (by omega) hr1).mono ?_
  rintro e w3 ⟨y, rfl, hy, hr3, ho3⟩
  have hy' : 0 ≤ y ∧ y ≤ 12 := by simp at hy; omega
  have HO3 := Lib.hid (HO.out.only ho3 hg)
  have hs3 := ho1.trans ho3
  clear hy hr1 ho1 ho3
  go_wp2
  go_loopw [3, 4] (fun v i wr => ∃ (A' : Option Addr) (c' m : Nat) (C : Ct) (vs : List Value) (r p' : Int), v = .slice A' m c' ∧ i = .int .i64 r ∧ 0 ≤ r ∧ r ≤ 12 ∧ m ≤ 8 ∧ SzN C ∧ OwnC w.heap.size wr (.slice A' m c') m C vs ∧ Rdr wr g p' ∧ p' ≤ p + 1 + 30 * (12 - r) ∧ Only g w wr) (fun _ i _ => (intOf i).toNat)
  case atStart => exact ⟨_, _, 0, [], [], y, _, rfl, rfl, by omega, by omega, by omega, SzN_nil, HO3.out, hr3, by omega, hs3⟩
  case round =>
    obtain ⟨A', c', m, C, vs, r, p', rfl, rfl, r0, r1, hm8, hsz, hown, hrr, hpp, hon⟩ := hrel
    have HSz := Lib.hid hsz
    have HOW := Lib.hid hown
    have hwr := hon.size
    clear hsz hown hr3 hs3
    by_cases hlt : 0 < r
    · go_wp2_with fail
      refine (someLabels_any g p' _ (by omega) hrr).mono ?_
      rintro e w4 ⟨A4, c4, m4, l4, p4, rfl, hl4, hm4, hcap4, hsz4, hown4, hr4, hp4, ho4⟩
      have HL4 := Lib.hid (And.intro hl4 hsz4)
      have HO4 := Lib.hid (HOW.out.only ho4 hg)
      have hrl := own_rdG hown4 hl4
      have hs4 := hon.trans ho4
      have hcap := own_cap HO4.out.2.2.1
      have hrc := HO4.out.rdC
      have HSzT := Lib.hid (HSz.out.mono (b := 1000000000000) (by omega))
      clear hl4 hsz4 hown4 hon ho4 hrr hwr
      go_wp2_with fail
      refine (specAddSeries_any A' m c' C A4 m4 c4 l4 _ HO4.out.1 HL4.out.1 hcap (by omega) (by omega) HSzT.out HL4.out.2 hrc hrl).mono ?_
      rintro e w5 ⟨A5, c5, n5, vs5, rfl, ho5, hb5⟩
      have hr5 := hr4.kept hb5
      have hs5 := hs4.trans (Only.of_below hb5)
      have hs4z := hs4.size
      clear hrl hrc hr4
      rcases hq : adV C l4 with _ | ⟨D, kk⟩
      · have HO5 := Lib.hid (HO4.out.kept hb5)
        clear hs4 hb5 ho5 hq hcap
        go_wp2
        go_roundw
        case rel => exact ⟨_, _, m, C, vs, r - 1, p4, rfl, by go_num, by omega, by omega, by omega, HSz.out, HO5.out, hr5, by omega, hs5⟩
        case measure => simp [intOf]; omega
      · have HQ := Lib.hid (adV_some hq HSz.out HL4.out.2 (by rw [HL4.out.1]; omega))
        have HO5 := Lib.hid (show OwnC w.heap.size w5 (.slice A5 n5 c5) n5 D vs5 by rw [hq] at ho5; exact ho5.mono hs4z)
        have hn5 : n5 ≤ 8 := by rw [← HO5.out.1]; exact HQ.out.2
        clear hs4 hb5 ho5 hq hcap
        go_wp2
        go_roundw
        case rel => exact ⟨_, _, n5, D, vs5, r - 1, p4, rfl, by go_num, by omega, by omega, hn5, HQ.out.1, HO5.out, hr5, by omega, hs5⟩
        case measure => simp [intOf]; omega
    · go_wp2_with fail
      refine (pick_any g p' 16 _ (by omega) hrr).mono ?_
      rintro e w4 ⟨x, rfl, x0, x1', _, hr4, ho4⟩
      have HO4 := Lib.hid (HOW.out.only ho4 hg)
      have hs4 := hon.trans ho4
      have hcap := own_cap HO4.out.2.2.1
      clear hrr hon ho4 x1' hwr
      by_cases hx : x = 0
      · have hxz : (x == 0) = true := by simp [hx]
        clear hx
        go_wp2_with fail
        refine (anyLabels_any g _ _ (by omega) hr4).mono ?_
        rintro e w5 ⟨A5, c5, m5, l5, p5, rfl, hl5, hm5, hcap5, hsz5, hown5, hr5, hp5, ho5⟩
        have HL5 := Lib.hid (And.intro hl5 (And.intro hsz5 hown5))
        have HO5 := Lib.hid (HO4.out.only ho5 hg)
        have hOK := HO5.out.2.2.1
        have hs5 := hs4.trans ho5
        have hwr := hs5.size
        have h45 := ho5.size
        have h4 := hs4.size
        clear hl5 hsz5 hown5 hs4 ho5 hr4
        go_wp2_with (at_builtin; refine wpList_append_lies _ rfl _ _ _ rfl (w.heap.size) 33 i0 _ 1 24 Try.underlying23 hi hz0 hz1 hz2 rfl (by omega) _ (m) (vs) rfl ((hOK).alloc _) ⟨w5.heap.size, 0, none⟩ 1 1 ([.slice A5 m5 c5]) rfl rfl (World.news_of_block (cs := ([.slice A5 m5 c5]).toArray) (t := 33) (fr := (0, 0)) (heap_alloc_new w5 _)) (by simp [Value.oneCell']) (by omega) (by simp only [maxLen]; omega) (by omega) (by simp; omega) (w5.heap.size + 1) (by simp) ?_; intro gg cap w2 hown2 hgrow hat hlt2)
        have hrW := rdr_app hr5 hOK hg hgrow
        have hoW := only_app hs5 hOK hgrow
        have HS := Lib.hid (OwnC.snoc' HO4.out HO5.out h45 HL5.out.1 HL5.out.2.2 h4 hown2 hgrow (by rw [size_alloc1]; exact hat))
        have HZ := Lib.hid (SzN_snoc HSz.out HL5.out.2.1 (by rw [HL5.out.1]; exact hm5))
        have hcap6 := own_cap hown2
        clear hOK hgrow hat hown2 hr5 hs5 hwr
        go_wp2
        go_ret
        exact ⟨_, _, m + 1, _, _, _, rfl, HS.out, by omega, hcap6, HZ.out, hrW, by omega, hoW⟩
      · have hxz : (x == 0) = false := by simp [hx]
        clear hx
        go_wp2
        go_ret
        exact ⟨_, _, m, C, vs, _, rfl, HO4.out, by omega, hcap, HSz.out, hr4, by omega, hs4⟩
/-- A drawn catalog, as the laws take it. -/
def DrawC (w : World) (e : Ending) (w' : World) : Prop :=
  ∃ (A : Option Addr) (c n : Nat) (C : Ct), e = .returned (.slice A n c) ∧ C.length = n ∧ n ≤ 9 ∧ n ≤ c ∧ SzN C ∧ RdC w' w'.heap.size A C ∧ Below w.heap.size w w'
end Go.Proofs.Ytmnfcfhnmndakaa
