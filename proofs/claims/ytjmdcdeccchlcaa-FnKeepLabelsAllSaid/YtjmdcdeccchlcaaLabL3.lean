/-
  Walks: FnKeepLabelsTwice, FnKeepLabelsAll.
-/
import Derived.Test.YtjmdcdeccchlcaaKeepFn2
import Derived.Test.YtjmdcdeccchlcaaKeepW
import Derived.Test.YtjmdcdeccchlcaaLabGen3
import Derived.Test.YtjmdcdeccchlcaaLabW3
import Derived.Test.YtjmdcdeccchlcaaEqL
namespace Go.Proofs.Ytjmdcdeccchlcaa
open Go.RowKit
theorem RetG.own {α : Type} [Inhabited α] {enc : α → Nat → Value} {k : Nat} {T : TypeId} {w w' : World} {l' : List α} {e : Ending} (h : RetG enc k T w l' e w') : ∃ A c, e = .returned (.slice A l'.length c) ∧ RdG enc k w' w'.heap.size A l' ∧ l'.length ≤ c ∧ Below w.heap.size w w' :=
  let ⟨A, c, h1, h2, h3⟩ := h
  ⟨A, c, h1, own_rdG h2 rfl, own_cap h2, h3⟩
set_option maxHeartbeats 4000000 in
theorem fnKeepLabelsTwice_any (A : Option Addr) (n c : Nat) (w : World) (hm : n ≤ 9223372036854775807) (hc : n ≤ c) (hr : RdB w w.heap.size A n) :
    Calls Try.prog 11 #[.slice A n c] w fun e w' => e = .returned (.bool true) ∧ Below w.heap.size w w' := by
  by_cases hbig : (1048576 : Int) < n
  · go_enter Try.func11, Try.ntmps11
    go_wp2
    go_ret
    exact ⟨rfl, Below.refl _ _⟩
  · go_enter Try.func11, Try.ntmps11
    go_wp2_with fail
    refine (drawKeepLabels_any A n c _ hm hc hr).mono ?_
    rintro e w1 ⟨A2, c2, m, l, B2, d2, q, names, rfl, hl, hm2, hcap, hsz, hq, hq2, hqd, hsz2, hrd, hrn, hb1⟩
    have HL := Lib.hid (And.intro hl (And.intro hsz (And.intro hq hsz2)))
    have hkl : (keepV l names).length ≤ 5 := Nat.le_trans (keepV_len l names) (by omega)
    clear hl hr hsz hq hsz2
    go_wp2_with fail
    refine (keepLabels_any A2 m c2 l B2 q d2 names _ HL.out.1 hrd HL.out.2.2.1 (by omega) hrn).mono ?_
    intro e w2 h2
    obtain ⟨A3, c3, rfl, hr3, hcap3, hb2⟩ := h2.own
    have hb3 := kept_trans hb1 hb2
    have hrd3 := hrd.next hb2
    have hrn3 := hrn.next hb2
    clear hb1 hb2 hrd hrn h2
    go_wp2_with fail
    refine (specKeepLabels_any A2 m c2 l B2 q d2 names _ HL.out.1 (by omega) HL.out.2.1 hrd3 HL.out.2.2.1 (by omega) hrn3).mono ?_
    intro e w4 h4
    obtain ⟨A5, c5, rfl, hr5, hcap5, hb4⟩ := h4.own
    have hb5 := kept_trans hb3 hb4
    have hrd5 := hrd3.next hb4
    have hrn5 := hrn3.next hb4
    have hx5 := hr3.next hb4
    clear hb3 hb4 hrd3 hrn3 hr3 h4
    go_wp2_with fail
    refine (equalLabels_any A3 _ c3 _ A5 _ c5 _ _ rfl rfl (by omega) hx5 hr5).mono ?_
    rintro e w6 ⟨rfl, hb6⟩
    rw [eqLs_refl]
    have hb7 := kept_trans hb5 hb6
    have hrd7 := hrd5.next hb6
    have hrn7 := hrn5.next hb6
    have hx7 := hx5.next hb6
    clear hb5 hb6 hrd5 hrn5 hx5 hr5
    go_wp2_with fail
    refine (validLabels_any A2 m c2 l _ HL.out.1 hrd7).mono ?_
    rintro e w8 ⟨rfl, hb8⟩
    have hb9 := kept_trans hb7 hb8
    have hrd9 := hrd7.next hb8
    have hrn9 := hrn7.next hb8
    have hx9 := hx7.next hb8
    clear hb7 hb8 hrd7 hrn7 hx7
    rcases hv : vL l with _ | _
    · clear hv
      go_wp2_with fail
      refine (specKeepLabels_any A2 m c2 l B2 q d2 names _ HL.out.1 (by omega) HL.out.2.1 hrd9 HL.out.2.2.1 (by omega) hrn9).mono ?_
      intro e w10 h10
      obtain ⟨A11, c11, rfl, hr11, hcap11, hb10⟩ := h10.own
      have hb11 := kept_trans hb9 hb10
      have hx11 := hx9.next hb10
      clear hb9 hb10 hrd9 hrn9 hx9 h10
      go_wp2_with fail
      refine (equalLabels_any A3 _ c3 _ A11 _ c11 _ _ rfl rfl (by omega) hx11 hr11).mono ?_
      rintro e w12 ⟨rfl, hb12⟩
      rw [eqLs_refl]
      go_wp2
      go_ret
      exact ⟨rfl, kept_trans hb11 hb12⟩
    · have HT := Lib.hid (keepV_twice names hv)
      have HZ := Lib.hid (keepV_nil hv)
      clear hv
      go_wp2_with fail
      refine (keepLabels_any A3 _ c3 (keepV l names) B2 q d2 names _ rfl hx9 HL.out.2.2.1 (by omega) hrn9).mono ?_
      rw [HT.out]
      intro e w10 h10
      obtain ⟨A11, c11, rfl, hr11, hcap11, hb10⟩ := h10.own
      have hb11 := kept_trans hb9 hb10
      have hx11 := hx9.next hb10
      have hrd11 := hrd9.next hb10
      clear hb9 hb10 hrd9 hrn9 hx9 h10
      go_wp2_with fail
      refine (equalLabels_any A11 _ c11 _ A3 _ c3 _ _ rfl rfl (by omega) hr11 hx11).mono ?_
      rintro e w12 ⟨rfl, hb12⟩
      rw [eqLs_refl]
      have hb13 := kept_trans hb11 hb12
      have hrd13 := hrd11.next hb12
      clear hb11 hb12 hrd11 hx11 hr11
      go_wp2_with fail
      refine (keepLabels_any A2 m c2 l none 0 0 [] _ HL.out.1 hrd13 rfl (by omega) (RdG.nil _ _ _ _ rfl)).mono ?_
      rw [HZ.out]
      intro e w14 h14
      obtain ⟨A15, c15, rfl, hr15, hcap15, hb14⟩ := h14.own
      have hb15 := kept_trans hb13 hb14
      clear hb13 hb14 hrd13 h14 hr15
      go_wp2
      go_ret
      exact ⟨rfl, hb15⟩
end Go.Proofs.Ytjmdcdeccchlcaa
