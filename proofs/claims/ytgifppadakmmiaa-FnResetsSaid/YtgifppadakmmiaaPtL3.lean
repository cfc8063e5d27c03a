/-
  Walk of FnResets.
-/
import Derived.Test.YtgifppadakmmiaaPtGen3
import Derived.Test.YtgifppadakmmiaaPtFn4
import Derived.Test.YtgifppadakmmiaaPtW8
namespace Go.Proofs.Ytgifppadakmmiaa
open Go.RowKit
theorem dropTo_less (l : List (Int × Int)) (k : Nat) : dropTo l (k + 1) ≤ (k : Int) := by
  induction k with
  | zero => simp [dropTo, drop1]
  | succ k ih =>
    unfold dropTo drop1
    split
    · split <;> omega
    · omega
theorem resets_law {l : List (Int × Int)} (h : dropTo l l.length ≠ 0) : dropTo l l.length < (l.length : Int) := by
  rcases Nat.eq_zero_or_pos l.length with h1 | h1
  · rw [h1] at h; exact absurd rfl h
  · obtain ⟨k, hk⟩ : ∃ k, l.length = k + 1 := ⟨l.length - 1, by omega⟩
    have := dropTo_less l k
    rw [hk]; omega
set_option maxHeartbeats 4000000 in
theorem fnResets_any (A : Option Addr) (n c : Nat) (w : World) (hm : n ≤ 9223372036854775807) (hc : n ≤ c) (hr : RdB w w.heap.size A n) :
    Calls Try.prog 11 #[.slice A n c] w fun e w' => e = .returned (.bool true) ∧ Below w.heap.size w w' := by
  by_cases hbig : (1048576 : Int) < n
  · go_enter Try.func11, Try.ntmps11
    go_wp2
    go_ret
    exact ⟨rfl, Below.refl _ _⟩
  · go_enter Try.func11, Try.ntmps11
    go_wp2_with fail
    refine (drawResets_any A n c _ hm hc hr).mono ?_
    rintro e w1 ⟨A2, c2, m2, l, x, y, rfl, hl, hm2, hc2, x0, x1', y0, y1', hrd, hb1⟩
    have HL := Lib.hid hl
    clear hl hr
    go_wp2_with fail
    refine (resets_any A2 m2 c2 l x y _ HL.out (by omega) hc2 hrd).mono ?_
    rintro e w2 ⟨rfl, hb2⟩
    have hb3 := kept_trans hb1 hb2
    have hrd3 := hrd.next hb2
    clear hb1 hb2 hrd
    go_wp2_with fail
    refine (specResets_any A2 m2 c2 l x y _ HL.out (by omega) hrd3).mono ?_
    rintro e w4 ⟨rfl, hb4⟩
    have hb5 := kept_trans hb3 hb4
    have hrd5 := hrd3.next hb4
    clear hb3 hb4 hrd3
    by_cases ho : okS l x y = true
    · have HR := Lib.hid (resets_ok ho)
      have HO := Lib.hid ho
      have hR0 := (dropTo_bd (rngL l x y) (rngL l x y).length).1
      rw [← HR.out] at hR0
      have hneg : decide (resets l x y < 0) = false := decide_eq_false (by omega)
      clear ho hR0
      go_wp2_with fail
      refine (rangeOf_any A2 m2 c2 l x y _ HL.out (by omega) hc2 hrd5).mono ?_
      rintro e w6 ⟨A6, c6, rfl, hown6, hb6⟩
      have hb1 := kept_trans hb5 hb6
      have hr6 := own_rd2 hown6 rfl
      have hB := rngL_bd l x y
      clear hb5 hb6 hrd5 hown6
      have HQ := Lib.hid hB
      have hQ2 : resets l x y ≠ 0 → resets l x y < ((rngL l x y).length : Int) := by rw [HR.out]; exact resets_law
      have HQ2 := Lib.hid hQ2
      have hRb : 0 ≤ resets l x y ∧ resets l x y ≤ 16 := by
        rw [HR.out]
        have h1 := dropTo_bd (rngL l x y) (rngL l x y).length
        have h2 := hB.1
        omega
      obtain ⟨rb0, rb1⟩ := hRb
      clear hQ2
      generalize hl6 : rngL l x y = l6 at *
      clear hl6
      have HB := Lib.hid hB
      have h16 : l6.length ≤ 16 := hB.1
      clear hB HQ
      generalize hrs : resets l x y = R at *
      clear hrs
      generalize hm6 : l6.length = m at *
      have HM := Lib.hid hm6
      clear hm6
      go_wp2
      go_loopw [8, 9] (fun v i wr => ∃ k : Nat, 1 ≤ k ∧ (k ≤ m ∨ k = 1) ∧ i = .int .i64 k ∧ v = .int .i64 (dropTo l6 k) ∧ Below w.heap.size w wr ∧ Below w6.heap.size w6 wr) (fun _ i _ => m + 1 - (intOf i).toNat)
      case atStart => exact ⟨1, by omega, by omega, rfl, rfl, hb1, Below.refl _ _⟩
      case round =>
        obtain ⟨k, hk1', hk, rfl, rfl, hb, hbb1⟩ := hrel
        by_cases hlt : k < m
        · have hlt' : k < l6.length := by rw [HM.out]; exact hlt
          obtain ⟨b, off, rfl, hbb, hc⟩ := hr6.at_ (by omega)
          have hc1 := (hc k hlt').2
          have hd1 := (hc (k - 1) (by omega)).2
          rw [← hbb1.cell (by exact hbb)] at hc1 hd1
          have hki : (k : Int) < (m : Int) := by omega
          have hk1 : (1 : Int) ≤ (k : Int) := by omega
          have hk2 : (k : Int) - 1 < (m : Int) := by omega
          have hs1 : IntKind.i64.wrap ((k : Int) - 1) = (k : Int) - 1 := IntWalk.i64_in _ (by omega)
          have hs3 : ((k : Int) - 1).toNat = k - 1 := by omega
          have e1 := dropTo_bd l6 k
          clear hc hr6 hlt'
          by_cases hg : x2 l6 k < x2 l6 (k - 1)
          · have hs : IntKind.i64.wrap (dropTo l6 k + 1) = dropTo l6 (k + 1) := by
              rw [dropTo_yes (by omega) hg]; exact IntWalk.i64_in _ (by omega)
            have hgd : decide (x2 l6 k < x2 l6 (k - 1)) = true := decide_eq_true hg
            clear hg e1 hk1'
            go_wp2_with fail
            go_quiet (fail)
            go_wp2
            go_roundw
            case rel => exact ⟨k + 1, by omega, by omega, by go_num, rfl, kept_drewN hb _, kept_drewN hbb1 _⟩
            case measure => simp [intOf]; omega
          · have hs : dropTo l6 k = dropTo l6 (k + 1) := (dropTo_no hg).symm
            have hgd : decide (x2 l6 k < x2 l6 (k - 1)) = false := decide_eq_false hg
            clear hg e1 hk1'
            have HS := Lib.hid hs
            clear hs
            go_wp2_with fail
            go_quiet (fail)
            go_wp2
            go_roundw
            case rel => exact ⟨k + 1, by omega, by omega, by go_num, by rw [← HS.out], kept_drewN hb _, kept_drewN hbb1 _⟩
            case measure => simp [intOf]; omega
        · clear hr6
          have hE : dropTo l6 k = R := by
            rw [dropTo_end (l := l6) (k := k) (by rw [HM.out]; omega) (by rw [HM.out]; omega), HM.out]; exact HR.out.symm
          rw [hE]
          have HE := Lib.hid hE
          clear hE
          by_cases hR0 : R = 0
          · have hRz : (R == 0) = true := by simp [hR0]
            clear hR0
            go_wp2
            go_ret
            exact ⟨rfl, hb⟩
          · have hRz : (R == 0) = false := by simp [hR0]
            have hRl : decide (R < (m : Int)) = true := decide_eq_true (HQ2.out hR0)
            clear hR0
            go_wp2
            go_ret
            exact ⟨rfl, hb⟩
    · have ho' : okS l x y = false := by simpa using ho
      rw [resets_no ho']
      go_wp2_with fail
      refine (specResets_any A2 m2 c2 l x y _ HL.out (by omega) hrd5).mono ?_
      rintro e w6 ⟨rfl, hb6⟩
      rw [resets_no ho']
      go_wp2
      go_ret
      exact ⟨rfl, kept_trans hb5 hb6⟩
end Go.Proofs.Ytgifppadakmmiaa
