/-
  DrawValuesFor.
-/
import Derived.Test.YtmnfcfhnmndakaaCatGen
namespace Go.Proofs.Ytmnfcfhnmndakaa
open Go.RowKit
def DrawCV (w : World) (e : Ending) (w' : World) : Prop :=
  ∃ (A : Option Addr) (c n : Nat) (C : Ct) (s : ByteArray), e = .returned (.tuple #[.slice A n c, .string s]) ∧ C.length = n ∧ n ≤ 9 ∧ n ≤ c ∧ SzN C ∧ s.size ≤ 16 ∧ RdC w' w'.heap.size A C ∧ Below w.heap.size w w'
set_option maxHeartbeats 2000000 in
set_option maxRecDepth 100000 in
theorem drawValuesFor_any (A : Option Addr) (n c : Nat) (w : World) (hm : n ≤ 9223372036854775807) (hc : n ≤ c) (hr : RdB w w.heap.size A n) :
    Calls Try.prog 14 #[.slice A n c] w (DrawCV w) := by
  go_enter Try.func14, Try.ntmps14
  go_wp2_with fail
  refine (newReader_any A n c _ hm hc hr).mono ?_
  rintro e w1 ⟨rfl, hr1, hb1⟩
  have hg := hr1.lt
  clear hr
  go_wp2_with fail
  refine (someCatalog_any w.heap.size 0 _ (by omega) hr1).mono ?_
  rintro e w2 ⟨A2, c2, m, C, vs, p1, rfl, hown, hm2, hcap, hsz, hr2, hp2, ho2⟩
  have hb2 := Only.below hb1 ho2 (Nat.le_refl _)
  have HX := Lib.hid (And.intro hown.1 (And.intro hsz hown))
  clear hown hsz hr1 hb1 ho2
  go_wp2_with fail
  refine (of_lit w.heap.size p1 [⟨#[97]⟩, ⟨#[104, 111, 115, 116]⟩, ⟨#[106, 111, 98]⟩, ⟨#[122, 111, 110, 101]⟩, ⟨#[98]⟩, ⟨#[]⟩] 6 _ _ _ rfl rfl (by omega) (by omega) (by decide) rfl (by omega) hr2).mono ?_
  rintro e w3 ⟨s, rfl, hs, hr3, ho3⟩
  have HR := Lib.hid (HX.out.2.2.only ho3 hg).rdC
  have hb3 := Only.below hb2 ho3 (Nat.le_refl _)
  clear hr2 hb2 ho3
  go_wp2
  go_ret2
  exact ⟨A2, c2, m, C, s, rfl, HX.out.1, hm2, hcap, HX.out.2.1, hs, HR.out, hb3⟩
end Go.Proofs.Ytmnfcfhnmndakaa
