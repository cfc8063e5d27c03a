/-
  someNames, DrawKeepLabels.
-/
import Derived.Test.YtjmdcdeccchlcaaLabGen
namespace Go.Proofs.Ytjmdcdeccchlcaa
open Go.RowKit
theorem infoString : (Try.prog.info? 9).map (fun i => (i.zero, i.size, i.bytes)) = some (some (.string ByteArray.empty), 1, 16) := by kernel_rfl
def SzS (l : List ByteArray) : Prop := ∀ i, i < l.length → (at0 l i).size ≤ 9223372036854775807
theorem SzS_nil : SzS [] := fun i hi => absurd hi (by simp)
theorem SzS_snoc {l : List ByteArray} {a : ByteArray} (h : SzS l) (h1 : a.size ≤ 16) : SzS (l ++ [a]) := fun i hi => by
  rw [List.length_append, List.length_singleton] at hi
  rcases Nat.lt_or_ge i l.length with h3 | h3
  · rw [at0_append _ _ h3]; exact h i h3
  · have e : i = l.length := by omega
    subst e
    rw [at0_append_r _ _ (Nat.le_refl _), Nat.sub_self]
    show a.size ≤ _
    omega
def GenS (b : Nat) (d : Int) (w : World) (g : Nat) (p : Int) (e : Ending) (w' : World) : Prop :=
  ∃ (A : Option Addr) (c m : Nat) (l : List ByteArray) (p' : Int), e = .returned (.slice A m c) ∧ l.length = m ∧ m ≤ b ∧ m ≤ c ∧ SzS l ∧ w'.ownsRow w.heap.size 9 1 (.slice A m c) m (rowG encS 1 l) ∧ Rdr w' g p' ∧ p' ≤ p + d ∧ Only g w w'
set_option maxHeartbeats 4000000 in
theorem someNames_any (g : Nat) (p : Int) (w : World) (hp : p ≤ 900000000) (hr : Rdr w g p) :
    Calls Try.prog 57 #[.pointer (some ⟨g, 0, none⟩)] w (GenS 3 10 w g p) := by
  have hg := hr.lt
  obtain ⟨i0, hi, hz0, hz1, hz2⟩ := info_parts infoString
  have hO : (w.alloc (Obj.cells #[] 9)).ownsRow w.heap.size 9 1 (.slice (some ⟨w.heap.size, 0, none⟩) 0 0) 0 (rowG encS 1 []) := by rw [rowG_nil]; exact World.ownsRow_made w #[] 0 (Nat.le_refl _) (by unfold maxLen; omega) rfl
  have hr0 := hr.kept (kept_alloc (Below.refl _ _) (Obj.cells #[] 9))
  have ho0 := (Only.refl g w).alloc (Obj.cells #[] 9)
  have HSS := Lib.hid (show ∀ x ∈ ([⟨#[97]⟩, ⟨#[104, 111, 115, 116]⟩, ⟨#[106, 111, 98]⟩, ⟨#[122, 111, 110, 101]⟩, ⟨#[98]⟩] : List ByteArray), x.size ≤ 16 by decide)
  clear hr
  go_enter Try.func57, Try.ntmps57
  go_wp2_with fail
  refine (pick_any g p 4 _ (by omega) hr0).mono ?_
  rintro e w1 ⟨t0, rfl, t00, t01, _, hr1, ho1⟩
  have t02 := t01 (by omega)
  have hO1 := Only.own hO ho1 hg
  have hs1 := ho0.trans ho1
  clear hO hr0 ho0 ho1 t01
  go_wp2
  go_loopw [3, 4] (fun v i wr => ∃ (A' : Option Addr) (c' m : Nat) (l' : List ByteArray) (n p' : Int), v = .slice A' m c' ∧ i = .int .i64 n ∧ l'.length = m ∧ 0 ≤ n ∧ n + m ≤ 3 ∧ SzS l' ∧
      wr.ownsRow w.heap.size 9 1 (.slice A' m c') m (rowG encS 1 l') ∧ Rdr wr g p' ∧ p' ≤ p + 1 + 2 * m ∧ Only g w wr) (fun _ i _ => (intOf i).toNat)
  case atStart => exact ⟨_, _, 0, [], t0, _, rfl, rfl, rfl, t00, by omega, SzS_nil, hO1, hr1, by omega, hs1⟩
  case round =>
    obtain ⟨A', c', m, l', n, p', rfl, rfl, hlm, hn0, hnm, hsz, hown, hrr, hpp, hon⟩ := hrel
    clear hO1 hr1 hs1
    have HL := Lib.hid hlm
    have HSz := Lib.hid hsz
    clear hlm hsz
    have hwr := hon.size
    by_cases hlt : 0 < n
    · go_wp2_with fail
      refine (of_lit g p' [⟨#[97]⟩, ⟨#[104, 111, 115, 116]⟩, ⟨#[106, 111, 98]⟩, ⟨#[122, 111, 110, 101]⟩, ⟨#[98]⟩] 5 _ _ _ rfl rfl (by omega) (by omega) HSS.out rfl (by omega) hrr).mono ?_
      rintro e w4 ⟨y, rfl, hy, hr4, ho4⟩
      have hO4 := Only.own hown ho4 hg
      have hs4 := hon.trans ho4
      have hwr4 := hs4.size
      clear hown hrr hon ho4 hwr
      go_wp2_with (at_builtin; refine wpList_append_lies _ rfl _ _ _ rfl (w.heap.size) 9 i0 _ 1 16 Try.underlying48 hi hz0 hz1 hz2 rfl (by omega) _ (m) (rowG encS 1 l') rfl ((hO4).alloc _) ⟨w4.heap.size, 0, none⟩ 1 1 ([.string y]) rfl rfl (World.news_of_block (cs := ([.string y]).toArray) (t := 9) (fr := (0, 0)) (heap_alloc_new w4 _)) (by simp [Value.oneCell']) (by omega) (by simp only [maxLen]; omega) (by omega) (by simp; omega) (w4.heap.size + 1) (by simp) ?_; intro gg cap w2 hown2 hgrow hat hlt2)
      have hrW := rdr_app hr4 hO4 hg hgrow
      have hoW := only_app hs4 hO4 hgrow
      rw [← rowS_snoc] at hown2
      clear hO4 hgrow hat hr4 hs4 hwr4
      go_wp2
      go_roundw
      case rel => exact ⟨_, _, m + 1, _, n - 1, _, rfl, rfl, by rw [List.length_append, HL.out]; rfl, by omega, by omega, SzS_snoc HSz.out hy, hown2, hrW, by omega, hoW⟩
      case measure => simp [intOf]; omega
    · have hcap := own_cap hown
      go_wp2
      go_ret
      exact ⟨A', c', m, l', p', rfl, HL.out, by omega, hcap, HSz.out, hown, hrr, by omega, hon⟩
def DrawLN (w : World) (e : Ending) (w' : World) : Prop :=
  ∃ (A : Option Addr) (c m : Nat) (l : List Lb) (B : Option Addr) (d q : Nat) (names : List ByteArray), e = .returned (.tuple #[.slice A m c, .slice B q d]) ∧ l.length = m ∧ m ≤ 5 ∧ m ≤ c ∧ SzL l ∧ names.length = q ∧ q ≤ 3 ∧ q ≤ d ∧ SzS names ∧ RdL w' w'.heap.size A l ∧ RdS w' w'.heap.size B names ∧ Below w.heap.size w w'
set_option maxHeartbeats 1000000 in
theorem drawKeepLabels_any (A : Option Addr) (n c : Nat) (w : World) (hm : n ≤ 9223372036854775807) (hc : n ≤ c) (hr : RdB w w.heap.size A n) :
    Calls Try.prog 30 #[.slice A n c] w (DrawLN w) := by
  go_enter Try.func30, Try.ntmps30
  go_wp2_with fail
  refine (newReader_any A n c _ hm hc hr).mono ?_
  rintro e w1 ⟨rfl, hr1, hb1⟩
  have hg := hr1.lt
  clear hr
  go_wp2_with fail
  refine (anyLabels_any w.heap.size 0 _ (by omega) hr1).mono ?_
  rintro e w2 ⟨A2, c2, m, l, p1, rfl, hl, hm2, hcap, hsz, hown, hr2, hp2, ho2⟩
  have hb2 := Only.below hb1 ho2 (Nat.le_refl _)
  have HS := Lib.hid (And.intro hl hsz)
  clear hl hsz hr1 hb1 ho2
  go_wp2_with fail
  refine (someNames_any w.heap.size p1 _ (by omega) hr2).mono ?_
  rintro e w3 ⟨A3, c3, q, names, p3, rfl, hl3, hm3, hcap3, hsz3, hown3, hr3, hp3, ho3⟩
  have hb3 := Only.below hb2 ho3 (Nat.le_refl _)
  have HX := Lib.hid (And.intro (own_rdG (Only.own hown ho3 hg) HS.out.1) (And.intro (own_rdG hown3 hl3) (And.intro hl3 hsz3)))
  clear hown hown3 ho3 hb2 hr2 hr3 hl3 hsz3
  go_wp2
  go_ret2
  exact ⟨_, _, m, l, _, _, q, names, rfl, HS.out.1, hm2, hcap, HS.out.2, HX.out.2.2.1, hm3, hcap3, HX.out.2.2.2, HX.out.1, HX.out.2.1, hb3⟩
end Go.Proofs.Ytjmdcdeccchlcaa
