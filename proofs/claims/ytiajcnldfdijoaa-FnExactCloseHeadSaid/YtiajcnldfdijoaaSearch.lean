/-
  The walk of sort.Search, for a predicate that turns once from false to true.
-/
import Derived.Test.YtiajcnldfdijoaaBase2
import Derived.Laws.Shifts
import Derived.Laws.ShiftsVarLaws
namespace Go.Proofs.Ytiajcnldfdijoaa
open Go.RowKit
def SearchPost (n : Nat) (pr : Nat → Bool) (w : World) (e : Ending) (w' : World) : Prop :=
  ∃ i : Nat, e = .returned (.int .i64 i) ∧ i ≤ n ∧ (∀ j, j < i → pr j = false) ∧ (∀ j, i ≤ j → j < n → pr j = true) ∧ Below w.heap.size w w'
def srchInv (n : Nat) (pr : Nat → Bool) (i j : Nat) : Prop := i ≤ j ∧ j ≤ n ∧ (∀ x, x < i → pr x = false) ∧ (∀ x, j ≤ x → x < n → pr x = true)
theorem srchInv_down {n : Nat} {pr : Nat → Bool} {i j h : Nat} (H : srchInv n pr i j) (h1 : h < j) (h2 : i ≤ h) (hm : ∀ i j, i ≤ j → j < n → pr i = true → pr j = true) (hp : pr h = true) : srchInv n pr i h :=
  ⟨h2, by have := H.2.1; omega, H.2.2.1, fun x q1 q2 => hm h x q1 q2 hp⟩
theorem srchInv_up {n : Nat} {pr : Nat → Bool} {i j h : Nat} (H : srchInv n pr i j) (h1 : h < j) (hm : ∀ i j, i ≤ j → j < n → pr i = true → pr j = true) (hp : pr h = false) : srchInv n pr (h + 1) j := by
  have hjn := H.2.1
  refine ⟨by omega, H.2.1, fun x q1 => ?_, H.2.2.2⟩
  rcases hq : pr x with _ | _
  · rfl
  · have := hm x h (by omega) (by omega) hq
    rw [hp] at this; cases this
set_option maxRecDepth 100000 in
set_option maxHeartbeats 1000000 in
theorem search_any (f : FuncId) (p1 p2 : Value) (n : Nat) (pr : Nat → Bool) (w : World) (hn : n ≤ 1000000000000) (hcf : ∀ (args : Array Value) (W : World), (callFunc f args).run Try.prog W = .ok (.enter f args) W) (hmono : ∀ i j, i ≤ j → j < n → pr i = true → pr j = true)
    (hcl : ∀ (W : World) (j : Nat), j < n → Below w.heap.size w W → Calls Try.prog f #[.int .i64 j, p1, p2] W fun e w' => e = .returned (.bool (pr j)) ∧ Below W.heap.size W w') :
    Calls Try.prog 56 #[.int .i64 n, .func (.func f) #[] #[p1, p2]] w (SearchPost n pr w) := by
  have HC := Lib.hid hcl
  have HM := Lib.hid hmono
  clear hcl hmono
  go_enter Try.func56, Try.ntmps56
  go_wp2
  go_loopw [5, 6] (fun a b wr => ∃ i j : Nat, a = .int .i64 i ∧ b = .int .i64 j ∧ srchInv n pr i j ∧ Below w.heap.size w wr) (fun a b _ => (intOf b - intOf a).toNat)
  case atStart => exact ⟨0, n, rfl, rfl, ⟨by omega, by omega, fun x hx => absurd hx (by omega), fun x h1 h2 => absurd h1 (by omega)⟩, Below.refl _ _⟩
  case round =>
    obtain ⟨i, j, rfl, rfl, hinv, hb⟩ := hrel
    have hij := hinv.1
    have hjn := hinv.2.1
    by_cases hlt : i < j
    · have HI := Lib.hid hinv
      clear hinv
      go_wp2_with fail
      have hh : (i + j) / 2 < j ∧ i ≤ (i + j) / 2 := by omega
      obtain ⟨h1, h2⟩ := hh
      obtain ⟨h, hh⟩ : ∃ h : Nat, (i + j) / 2 = h := ⟨_, rfl⟩
      rw [show ((i : Int) + (j : Int)) / 2 = ((h : Nat) : Int) by omega]
      rw [hh] at h1 h2
      clear hh
      refine (HC.out _ h (by omega) hb).mono ?_
      rintro e w1 ⟨rfl, hb1⟩
      have hb2 := kept_trans hb hb1
      clear hb hb1 hcf
      by_cases hp : pr h = true
      · rw [hp]
        have HP := Lib.hid hp
        clear hp
        go_wp2
        go_roundw
        case rel => exact ⟨i, h, rfl, rfl, srchInv_down HI.out h1 h2 HM.out HP.out, hb2⟩
        case measure => simp [intOf]; omega
      · have hp' : pr h = false := by simpa using hp
        rw [hp']
        have HP := Lib.hid hp'
        clear hp hp'
        go_wp2
        go_roundw
        case rel => exact ⟨h + 1, j, by go_num, rfl, srchInv_up HI.out h1 HM.out HP.out, hb2⟩
        case measure => simp [intOf]; omega
    · go_wp2
      go_ret
      exact ⟨i, rfl, by omega, hinv.2.2.1, fun x h1 h2 => hinv.2.2.2 x (by omega) h2, hb⟩
end Go.Proofs.Ytiajcnldfdijoaa
