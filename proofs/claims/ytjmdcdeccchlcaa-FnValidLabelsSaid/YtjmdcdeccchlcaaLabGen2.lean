/-
  DrawValidLabels, DrawLabelValue.
-/
import Derived.Test.YtjmdcdeccchlcaaLabGen
namespace Go.Proofs.Ytjmdcdeccchlcaa
open Go.RowKit
set_option maxHeartbeats 1000000 in
theorem drawValidLabels_any (A : Option Addr) (n c : Nat) (w : World) (hm : n ≤ 9223372036854775807) (hc : n ≤ c) (hr : RdB w w.heap.size A n) :
    Calls Try.prog 18 #[.slice A n c] w (DrawL w) := by
  go_enter Try.func18, Try.ntmps18
  go_wp2_with fail
  refine (newReader_any A n c _ hm hc hr).mono ?_
  rintro e w1 ⟨rfl, hr1, hb1⟩
  clear hr
  go_wp2_with fail
  refine (anyLabels_any w.heap.size 0 _ (by omega) hr1).mono ?_
  rintro e w2 ⟨A2, c2, m, l, p1, rfl, hl, hm2, hcap, hsz, hown, hr2, hp2, ho2⟩
  have hb2 := Only.below hb1 ho2 (Nat.le_refl _)
  have hrd := own_rdG hown hl
  have HS := Lib.hid (And.intro hl (And.intro hsz hrd))
  clear hl hsz hrd hr1 hr2 hb1 ho2 hown
  go_wp2
  go_ret
  exact ⟨_, _, m, l, rfl, HS.out.1, hm2, hcap, HS.out.2.1, HS.out.2.2, hb2⟩
def DrawLS (w : World) (e : Ending) (w' : World) : Prop :=
  ∃ (A : Option Addr) (c m : Nat) (l : List Lb) (s : ByteArray), e = .returned (.tuple #[.slice A m c, .string s]) ∧ l.length = m ∧ m ≤ 5 ∧ m ≤ c ∧ SzL l ∧ s.size ≤ 16 ∧ RdL w' w'.heap.size A l ∧ Below w.heap.size w w'
set_option maxHeartbeats 1000000 in
theorem someWord_any (g : Nat) (p : Int) (w : World) (hp : p ≤ 900000000) (hr : Rdr w g p) :
    Calls Try.prog 55 #[.pointer (some ⟨g, 0, none⟩)] w (OfPost w g p) := by
  go_enter Try.func55, Try.ntmps55
  go_wp2_with fail
  refine (of_lit g p [⟨#[97]⟩, ⟨#[98]⟩, ⟨#[106, 111, 98]⟩, ⟨#[104, 111, 115, 116]⟩, ⟨#[122, 111, 110, 101]⟩, ⟨#[99]⟩, ⟨#[120]⟩, ⟨#[117, 112]⟩] 8 _ _ _ rfl rfl (by omega) (by omega) (by decide) rfl (by omega) hr).mono ?_
  rintro e w1 ⟨a, rfl, ha, hr3, ho3⟩
  have HX := Lib.hid ho3
  go_wp2
  go_ret
  exact ⟨a, rfl, ha, hr3, HX.out⟩
set_option maxHeartbeats 1000000 in
theorem drawLabelValue_any (A : Option Addr) (n c : Nat) (w : World) (hm : n ≤ 9223372036854775807) (hc : n ≤ c) (hr : RdB w w.heap.size A n) :
    Calls Try.prog 27 #[.slice A n c] w (DrawLS w) := by
  go_enter Try.func27, Try.ntmps27
  go_wp2_with fail
  refine (newReader_any A n c _ hm hc hr).mono ?_
  rintro e w1 ⟨rfl, hr1, hb1⟩
  have hg := hr1.lt
  clear hr
  go_wp2_with fail
  refine (anyLabels_any w.heap.size 0 _ (by omega) hr1).mono ?_
  rintro e w2 ⟨A2, c2, m, l, p1, rfl, hl, hm2, hcap, hsz, hown, hr2, hp2, ho2⟩
  have hb2 := Only.below hb1 ho2 (Nat.le_refl _)
  have HS := Lib.hid (And.intro hl hsz)
  clear hl hsz hr1 hb1 ho2
  go_wp2_with fail
  refine (someWord_any w.heap.size p1 _ (by omega) hr2).mono ?_
  rintro e w3 ⟨s, rfl, hs, hr3, ho3⟩
  have hb3 := Only.below hb2 ho3 (Nat.le_refl _)
  have hrd := own_rdG (Only.own hown ho3 hg) HS.out.1
  have HX := Lib.hid hrd
  clear hrd hown ho3 hb2 hr2 hr3
  go_wp2
  go_ret2
  exact ⟨_, _, m, l, s, rfl, HS.out.1, hm2, hcap, HS.out.2, hs, HX.out, hb3⟩
end Go.Proofs.Ytjmdcdeccchlcaa
