/-
  DrawMatchesAll.
-/
import Derived.Test.YtnnbfdlicadgfaaMatGen
namespace Go.Proofs.Ytnnbfdlicadgfaa
open Go.RowKit
def DrawLM (w : World) (e : Ending) (w' : World) : Prop :=
  ∃ (A : Option Addr) (c m : Nat) (l : List Lb) (B : Option Addr) (d q : Nat) (want : List Mt), e = .returned (.tuple #[.slice A m c, .slice B q d]) ∧ l.length = m ∧ m ≤ 5 ∧ m ≤ c ∧ SzL l ∧ want.length = q ∧ q ≤ 5 ∧ q ≤ d ∧ SzM want ∧ RdL w' w'.heap.size A l ∧ RdM w' w'.heap.size B want ∧ Below w.heap.size w w'
set_option maxHeartbeats 1000000 in
set_option maxRecDepth 100000 in
theorem drawMatchesAll_any (A : Option Addr) (n c : Nat) (w : World) (hm : n ≤ 9223372036854775807) (hc : n ≤ c) (hr : RdB w w.heap.size A n) :
    Calls Try.prog 15 #[.slice A n c] w (DrawLM w) := by
  go_enter Try.func15, Try.ntmps15
  go_wp2_with fail
  refine (newReader_any A n c _ hm hc hr).mono ?_
  rintro e w1 ⟨rfl, hr1, hb1⟩
  have hg := hr1.lt
  clear hr
  go_wp2_with fail
  refine (anyLabels_any w.heap.size 0 _ (by omega) hr1).mono ?_
  rintro e w2 ⟨A2, c2, m, l, p1, rfl, hl, hm2, hcap, hsz, hown, hr2, hp2, ho2⟩
  have hb2 := Only.below hb1 ho2 (Nat.le_refl _)
  have HS := Lib.hid (And.intro hl hsz)
  clear hl hsz hr1 hb1 ho2
  go_wp2_with fail
  refine (anyMatchers_any w.heap.size p1 _ (by omega) hr2).mono ?_
  rintro e w3 ⟨A3, c3, q, want, p3, rfl, hl3, hm3, hcap3, hsz3, hown3, hr3, hp3, ho3⟩
  have hb3 := Only.below hb2 ho3 (Nat.le_refl _)
  have HX := Lib.hid (And.intro (own_rdG (Only.own hown ho3 hg) HS.out.1) (And.intro (own_rdG hown3 hl3) (And.intro hl3 hsz3)))
  clear hown hown3 ho3 hb2 hr2 hr3 hl3 hsz3
  go_wp2
  go_ret2
  exact ⟨_, _, m, l, _, _, q, want, rfl, HS.out.1, hm2, hcap, HS.out.2, HX.out.2.2.1, hm3, hcap3, HX.out.2.2.2, HX.out.1, HX.out.2.1, hb3⟩
end Go.Proofs.Ytnnbfdlicadgfaa
