/-
  DrawCompareLabels.
-/
import Derived.Test.YtnnbfdlicadgfaaLabGen
namespace Go.Proofs.Ytnnbfdlicadgfaa
open Go.RowKit
def DrawLL (w : World) (e : Ending) (w' : World) : Prop :=
  ∃ (A : Option Addr) (c m : Nat) (l : List Lb) (B : Option Addr) (d q : Nat) (l' : List Lb), e = .returned (.tuple #[.slice A m c, .slice B q d]) ∧ l.length = m ∧ m ≤ 5 ∧ m ≤ c ∧ SzL l ∧ l'.length = q ∧ q ≤ 5 ∧ q ≤ d ∧ SzL l' ∧ RdL w' w'.heap.size A l ∧ RdL w' w'.heap.size B l' ∧ Below w.heap.size w w'
set_option maxHeartbeats 2000000 in
set_option maxRecDepth 100000 in
theorem drawCompareLabels_any (A : Option Addr) (n c : Nat) (w : World) (hm : n ≤ 9223372036854775807) (hc : n ≤ c) (hr : RdB w w.heap.size A n) :
    Calls Try.prog 21 #[.slice A n c] w (DrawLL w) := by
  obtain ⟨i0, hi, hz0, hz1, hz2⟩ := info_parts infoLabel
  go_enter Try.func21, Try.ntmps21
  go_wp2_with fail
  refine (newReader_any A n c _ hm hc hr).mono ?_
  rintro e w1 ⟨rfl, hr1, hb1⟩
  have hg := hr1.lt
  clear hr
  go_wp2_with fail
  refine (anyLabels_any w.heap.size 0 _ (by omega) hr1).mono ?_
  rintro e w2 ⟨A2, c2, m, l, p1, rfl, hl, hm2, hcap, hsz, hown, hr2, hp2, ho2⟩
  have hb2 := Only.below hb1 ho2 (Nat.le_refl _)
  have HS := Lib.hid (And.intro hl hsz)
  clear hl hsz hr1 hb1 ho2
  go_wp2_with fail
  refine (pick_any w.heap.size p1 6 _ (by omega) hr2).mono ?_
  rintro e w3 ⟨x, rfl, x0, x1', _, hr3, ho3⟩
  have hO3 := Only.own hown ho3 hg
  have hb3 := Only.below hb2 ho3 (Nat.le_refl _)
  clear hown hr2 hb2 ho3 x1'
  by_cases hx : x = 0
  · have hxz : (x == 0) = true := by simp [hx]
    have hrd := own_rdG hO3 HS.out.1
    have hbE := kept_alloc (Below.refl w3.heap.size w3) (Obj.cells #[] 35)
    have hrE := RdG.next hrd hbE
    have hrE' := hrE.rdN HS.out.1
    have hE : (w3.alloc (Obj.cells #[] 35)).ownsRow w3.heap.size 35 2 (.slice (some ⟨w3.heap.size, 0, none⟩) 0 0) 0 [] := World.ownsRow_made w3 #[] 0 (Nat.le_refl _) (by unfold maxLen; omega) rfl
    have HD := Lib.hid hrd
    have HRE := Lib.hid hrE'
    have HOE := Lib.hid hE
    clear hx hrd hrE hrE' hE
    go_wp2_with (at_builtin; refine wpList_append_rd _ rfl _ _ _ rfl w3.heap.size 35 i0 _ 2 32 Try.underlying23 hi hz0 hz1 hz2 rfl (by omega) _ 0 [] rfl HOE.out _ _ m _ (cellsG encL 2 l) rfl HRE.out (one_cellsL l) (by simp only [maxLen]; omega) (by omega) (by simp) ?_; intro A4 c4 w4 hown4 hgrow)
    have hb4 := below_own hbE HOE.out hgrow
    have hb5 := kept_trans hb3 hb4
    rw [List.nil_append, Nat.zero_add] at hown4
    have hcap4 := own_cap hown4
    have HX := Lib.hid (And.intro (RdG.next HD.out hb4) (own_rdG (l := l) (by unfold rowG; rw [HS.out.1]; exact hown4) HS.out.1))
    clear hb3 hbE hb4 hgrow hO3 hown4 hr3
    go_wp2
    go_ret2
    exact ⟨_, _, m, l, A4, c4, m, l, rfl, HS.out.1, hm2, hcap, HS.out.2, HS.out.1, hm2, hcap4, HS.out.2, HX.out.1, HX.out.2, hb5⟩
  · have hxz : (x == 0) = false := by simp [hx]
    clear hx
    go_wp2_with fail
    refine (anyLabels_any w.heap.size (p1 + 1) _ (by omega) hr3).mono ?_
    rintro e w4 ⟨A4, c4, q, l', p4, rfl, hl', hm4, hcap4, hsz4, hown4, hr4, hp4, ho4⟩
    have hb4 := Only.below hb3 ho4 (Nat.le_refl _)
    have HX := Lib.hid (And.intro (own_rdG (Only.own hO3 ho4 hg) HS.out.1) (And.intro (own_rdG hown4 hl') (And.intro hl' hsz4)))
    clear hown4 hO3 ho4 hb3 hr3 hr4 hl' hsz4
    go_wp2
    go_ret2
    exact ⟨_, _, m, l, _, _, q, l', rfl, HS.out.1, hm2, hcap, HS.out.2, HX.out.2.2.1, hm4, hcap4, HX.out.2.2.2, HX.out.1, HX.out.2.1, hb4⟩
end Go.Proofs.Ytnnbfdlicadgfaa
