/-
  DrawFindSeries.
-/
import Derived.Test.YtmnfcfhnmndakaaCatGen
namespace Go.Proofs.Ytmnfcfhnmndakaa
open Go.RowKit
def DrawCL (w : World) (e : Ending) (w' : World) : Prop :=
  ∃ (A : Option Addr) (c n : Nat) (C : Ct) (B : Option Addr) (d q : Nat) (l : List Lb), e = .returned (.tuple #[.slice A n c, .slice B q d]) ∧ C.length = n ∧ n ≤ 9 ∧ n ≤ c ∧ SzN C ∧ l.length = q ∧ q ≤ 5 ∧ q ≤ d ∧ SzL l ∧ RdC w' w'.heap.size A C ∧ RdL w' w'.heap.size B l ∧ Below w.heap.size w w'
set_option maxHeartbeats 4000000 in
set_option maxRecDepth 100000 in
theorem drawFindSeries_any (A : Option Addr) (n c : Nat) (w : World) (hm : n ≤ 9223372036854775807) (hc : n ≤ c) (hr : RdB w w.heap.size A n) :
    Calls Try.prog 65 #[.slice A n c] w (DrawCL w) := by
  obtain ⟨j0, hj, yz0, yz1, yz2⟩ := info_parts infoLabel
  go_enter Try.func65, Try.ntmps65
  go_wp2_with fail
  refine (newReader_any A n c _ hm hc hr).mono ?_
  rintro e w1 ⟨rfl, hr1, hb1⟩
  have hg := hr1.lt
  clear hr
  go_wp2_with fail
  refine (someCatalog_any w.heap.size 0 _ (by omega) hr1).mono ?_
  rintro e w2 ⟨A2, c2, m, C, vs, p1, rfl, hown, hm2, hcap, hsz, hr2, hp2, ho2⟩
  have hb2 := Only.below hb1 ho2 (Nat.le_refl _)
  have HX := Lib.hid (And.intro hown.1 (And.intro hsz hown))
  clear hown hsz hr1 hb1 ho2
  by_cases hm0 : 0 < m
  · have hmi : (0 : Int) < (m : Int) := by omega
    go_wp2_with fail
    refine (pick_any w.heap.size p1 2 _ (by omega) hr2).mono ?_
    rintro e w3 ⟨x, rfl, x0, x1', _, hr3, ho3⟩
    have HO3 := Lib.hid (HX.out.2.2.only ho3 hg)
    have hb3 := Only.below hb2 ho3 (Nat.le_refl _)
    clear hr2 hb2 ho3 x1'
    by_cases hx : x = 0
    · have hxz : (x == 0) = true := by simp [hx]
      have hbE := kept_alloc (Below.refl w3.heap.size w3) (Obj.cells #[] 81)
      have hE : (w3.alloc (Obj.cells #[] 81)).ownsRow w3.heap.size 81 2 (.slice (some ⟨w3.heap.size, 0, none⟩) 0 0) 0 [] := World.ownsRow_made w3 #[] 0 (Nat.le_refl _) (by unfold maxLen; omega) rfl
      have HOE := Lib.hid hE
      have hrE := hr3.kept hbE
      have HO3E := Lib.hid (HO3.out.kept hbE)
      have hg3 := hr3.lt
      have hbE3 := kept_trans hb3 hbE
      clear hx hE hr3 hb3
      go_wp2_with fail
      refine (pick_any w.heap.size (p1 + 1) m _ (by omega) hrE).mono ?_
      rintro e w4 ⟨y, rfl, y0, y1', _, hr4, ho4⟩
      have y1 := y1' (by omega)
      obtain ⟨yy, rfl⟩ : ∃ yy : Nat, y = (yy : Int) := ⟨y.toNat, by omega⟩
      have hyy : yy < m := by omega
      have HO4 := Lib.hid (HO3E.out.only ho4 hg)
      have HOE4 := Lib.hid (Only.own HOE.out ho4 hg3)
      have hb4 := Only.below hbE3 ho4 (Nat.le_refl _)
      obtain ⟨b, off, rfl, hbb, a5, m5, c5, hcl, hl5, _, hrl⟩ := RdC.at_ HO4.out.rdC HX.out.1 hyy
      have hn5 : m5 ≤ 5 := by rw [← hl5]; exact (HX.out.2.1 yy (by rw [HX.out.1]; exact hyy)).2
      have HR5 := Lib.hid (RdG.rdN hrl hl5)
      have HL5 := Lib.hid hl5
      have hs4 := ho4.size
      have hs3 : w3.heap.size ≤ (w3.alloc (Obj.cells #[] 81)).heap.size := hbE.size
      clear hrE hbE hbE3 hr4 ho4 hl5 hrl y1'
      go_wp2_with (at_builtin; refine wpList_append_rd _ rfl _ _ _ rfl w3.heap.size 81 j0 _ 2 32 Try.underlying33 hj yz0 yz1 yz2 rfl (by omega) _ 0 [] rfl HOE4.out _ _ m5 _ (cellsG encL 2 (at0 C yy)) rfl HR5.out (one_cellsL _) (by simp only [maxLen]; omega) (by omega) (by omega) ?_; intro A6 c6 w6 hown6 hgrow)
      have hb6 : Below w3.heap.size w4 w6 := (Below.refl _ _).grown hgrow (by omega) (fun k hk => (HOE4.out.lt k hk).1)
      have hb7 := hb4.grown hgrow (by omega) (fun k hk => by have := (HOE4.out.lt k hk).1; omega)
      have hs6 := hb6.size
      rw [List.nil_append, Nat.zero_add] at hown6
      have hcap6 := own_cap hown6
      have HRC := Lib.hid (((HO3.out.rdAt HO4.out).below hb6).mono (B' := w6.heap.size) (by omega))
      have HRL := Lib.hid (own_rdG (l := at0 C yy) (by unfold rowG; rw [HL5.out]; exact hown6) HL5.out)
      have HSL := Lib.hid (HX.out.2.1 yy (by rw [HX.out.1]; exact hyy)).1
      clear hb4 hb6 hgrow hown6
      go_wp2
      go_ret2
      exact ⟨_, _, m, C, A6, c6, m5, _, rfl, HX.out.1, hm2, hcap, HX.out.2.1, HL5.out, hn5, hcap6, HSL.out, HRC.out, HRL.out, hb7⟩
    · have hxz : (x == 0) = false := by simp [hx]
      have hg3 := hr3.lt
      clear hx
      go_wp2_with fail
      refine (anyLabels_any w.heap.size (p1 + 1) _ (by omega) hr3).mono ?_
      rintro e w4 ⟨A4, c4, q, l', p4, rfl, hl', hm4, hcap4, hsz4, hown4, hr4, hp4, ho4⟩
      have hb4 := Only.below hb3 ho4 (Nat.le_refl _)
      have HY := Lib.hid (And.intro (HO3.out.only ho4 hg).rdC (And.intro (own_rdG hown4 hl') (And.intro hl' hsz4)))
      clear hown4 ho4 hb3 hr3 hr4 hl' hsz4
      go_wp2
      go_ret2
      exact ⟨_, _, m, C, _, _, q, l', rfl, HX.out.1, hm2, hcap, HX.out.2.1, HY.out.2.2.1, hm4, hcap4, HY.out.2.2.2, HY.out.1, HY.out.2.1, hb4⟩
  · have hmi : ¬ (0 : Int) < (m : Int) := by omega
    go_wp2_with fail
    refine (anyLabels_any w.heap.size p1 _ (by omega) hr2).mono ?_
    rintro e w4 ⟨A4, c4, q, l', p4, rfl, hl', hm4, hcap4, hsz4, hown4, hr4, hp4, ho4⟩
    have hb4 := Only.below hb2 ho4 (Nat.le_refl _)
    have HY := Lib.hid (And.intro (HX.out.2.2.only ho4 hg).rdC (And.intro (own_rdG hown4 hl') (And.intro hl' hsz4)))
    clear hown4 ho4 hb2 hr2 hr4 hl' hsz4
    go_wp2
    go_ret2
    exact ⟨_, _, m, C, _, _, q, l', rfl, HX.out.1, hm2, hcap, HX.out.2.1, HY.out.2.2.1, hm4, hcap4, HY.out.2.2.2, HY.out.1, HY.out.2.1, hb4⟩
end Go.Proofs.Ytmnfcfhnmndakaa
