/-
  Walk of FnQuantileOverMore.
-/
import Derived.Test.YtiajcnldfdijoaaQuGen
import Derived.Test.YtiajcnldfdijoaaQuFn2
import Derived.Test.YtiajcnldfdijoaaQuW
namespace Go.Proofs.Ytiajcnldfdijoaa
open Go.RowKit
set_option maxHeartbeats 4000000 in
theorem fnQuantileOverMore_any (A : Option Addr) (n c : Nat) (w : World) (hm : n ≤ 9223372036854775807) (hc : n ≤ c) (hr : RdB w w.heap.size A n) :
    Calls Try.prog 3 #[.slice A n c] w fun e w' => e = .returned (.bool true) ∧ Below w.heap.size w w' := by
  by_cases hbig : (1048576 : Int) < n
  · go_enter Try.func3, Try.ntmps3
    go_wp2
    go_ret
    exact ⟨rfl, Below.refl _ _⟩
  · go_enter Try.func3, Try.ntmps3
    go_wp2_with fail
    refine (drawQuantileOver_any A n c _ hm hc hr).mono ?_
    rintro e w1 ⟨A2, c2, m2, l, x, y, z, rfl, hl, hm2, hc2, x0, x1', y0, y1', z0, z1', hrd, hb1⟩
    have HL := Lib.hid hl
    clear hl hr
    obtain ⟨N, hN⟩ : ∃ N, quN (quV l x y z) = N := ⟨_, rfl⟩
    obtain ⟨b, hb⟩ : ∃ b, (quV l x y z).isSome = b := ⟨_, rfl⟩
    have HN := Lib.hid hN
    have HB := Lib.hid hb
    clear hN hb
    go_wp2_with fail
    refine (quantileOver_any A2 m2 c2 l x y z _ HL.out (by omega) hc2 hrd).mono ?_
    rw [HN.out, HB.out]
    rintro e w2 ⟨rfl, hb2⟩
    have kb2 := kept_trans hb1 hb2
    have hrd2 := hrd.next hb2
    clear hb1 hb2 hrd
    go_wp2_with fail
    refine (specQuantileOver_any A2 m2 c2 l x y z _ HL.out (by omega) hrd2).mono ?_
    rw [HN.out, HB.out]
    rintro e w3 ⟨rfl, hb3⟩
    have kb3 := kept_trans kb2 hb3
    have hrd3 := hrd2.next hb3
    clear kb2 hb3 hrd2
    have hNN : (N != N) = false := by simp
    rcases b with _ | _
    · go_wp2
      go_ret
      exact ⟨rfl, kb3⟩
    · obtain ⟨hz0, hz1, hp, hv⟩ := quV_t HB.out
      have hund := undr_law (l := l) (fr := x) (to := y) (p := z) (by omega) (by omega) hp
      rw [← hv, HN.out] at hund
      have hmore : z + 1 ≤ 100 → (quV l x y (z + 1)).isSome = true ∧ N ≤ quN (quV l x y (z + 1)) := fun h => by
        have h1 := quV_at (l := l) (fr := x) (to := y) (p := z + 1) (by omega) h hp
        have h2 := qu_more (l := l) (fr := x) (to := y) (p := z) (by omega) h hp
        rw [← hv, HN.out] at h2
        rw [h1.1]; exact ⟨h1.2, h2⟩
      have h16 := (rngL_bd l x y).1
      have HU := Lib.hid hund
      have HM2 := Lib.hid hmore
      clear hp hv hund hmore
      go_wp2_with fail
      refine (rangeOf_any A2 m2 c2 l x y _ HL.out (by omega) hc2 hrd3).mono ?_
      rintro e w4 ⟨A4, c4, rfl, hown4, hb4⟩
      have kb4 := kept_trans kb3 hb4
      have hrd4 := hrd3.next hb4
      have hr4 := own_rd2 hown4 rfl
      clear kb3 hb4 hrd3 hown4
      obtain ⟨M, hM⟩ : ∃ M, quN (quV l x y (z + 1)) = M := ⟨_, rfl⟩
      obtain ⟨bb, hbb⟩ : ∃ b, (quV l x y (z + 1)).isSome = b := ⟨_, rfl⟩
      have HMM := Lib.hid hM
      have HBB := Lib.hid hbb
      have hmore := HM2.out
      rw [hM, hbb] at hmore
      have HM3 := Lib.hid hmore
      clear hmore hM hbb HM2
      generalize hR : rngL l x y = R at *
      have HR := Lib.hid hR
      clear hR
      generalize hmm : R.length = mm at *
      have HM := Lib.hid hmm
      clear hmm
      go_wp2
      go_loopw [12, 13] (fun v i wr => ∃ k u : Nat, k ≤ mm ∧ u ≤ k ∧ i = .int .i64 k ∧ u = undr R N k ∧ v = .int .i64 u ∧ Below w4.heap.size w4 wr) (fun _ i _ => mm - (intOf i).toNat)
      case atStart => exact ⟨0, 0, by omega, by omega, rfl, rfl, rfl, Below.refl _ _⟩
      case round =>
        obtain ⟨k, u, hk, huk, rfl, hu, rfl, hb⟩ := hrel
        have HUN := Lib.hid hu
        clear hu
        by_cases hlt : k < mm
        · obtain ⟨b, off, rfl, hbb, hc'⟩ := hr4.at_ (by rw [HM.out]; omega)
          have hc1 := (hc' k (by rw [HM.out]; exact hlt)).2
          rw [← hb.cell (by exact hbb)] at hc1
          have hki : (k : Int) < (mm : Int) := by omega
          clear hc' hr4
          have HK := Lib.hid (And.intro kb4 hrd4)
          clear kb4 hrd4
          by_cases hle : x2 R k ≤ N
          · have HX := Lib.hid (undr_le (l := R) (x := N) (k := k) hle)
            have hd : decide (x2 R k ≤ N) = true := decide_eq_true hle
            have hw : IntKind.i64.wrap ((u : Int) + 1) = ((u + 1 : Nat) : Int) := IntWalk.i64_in _ (by omega)
            clear hle
            go_wp2
            go_roundw
            case rel => exact ⟨k + 1, u + 1, by omega, by omega, by go_num, by rw [HX.out, HUN.out], by go_num, hb⟩
            case measure => simp [intOf]; omega
          · have HX := Lib.hid (undr_gt (l := R) (x := N) (k := k) hle)
            have hd : decide (x2 R k ≤ N) = false := decide_eq_false hle
            clear hle
            go_wp2
            go_roundw
            case rel => exact ⟨k + 1, u, by omega, by omega, by go_num, by rw [HX.out, HUN.out], rfl, hb⟩
            case measure => simp [intOf]; omega
        · have hkm : k = mm := by omega
          have kb5 := kept_trans kb4 hb
          have hrd5 := hrd4.next hb
          have hU := HU.out
          rw [← hkm, ← HUN.out] at hU
          have hw1 : IntKind.i64.wrap (z + 1) = z + 1 := IntWalk.i64_in _ (by omega)
          have hzm : 0 ≤ z * (mm : Int) ∧ z * (mm : Int) ≤ 100 * (mm : Int) := ⟨Int.mul_nonneg (by omega) (by omega), Int.mul_le_mul_of_nonneg_right (by omega) (by omega)⟩
          rw [hkm] at hU
          clear hr4 hb kb4 hrd4
          go_wp2_with fail
          refine (quantileOver_any A2 m2 c2 l x y (z + 1) _ HL.out (by omega) hc2 hrd5).mono ?_
          rw [HMM.out, HBB.out]
          rintro e w6 ⟨rfl, hb6⟩
          have kb6 := kept_trans kb5 hb6
          have hw2 : IntKind.i64.wrap (100 * (u : Int)) = 100 * (u : Int) := IntWalk.i64_in _ (by omega)
          have hw3 : IntKind.i64.wrap (z * (mm : Int)) = z * (mm : Int) := IntWalk.i64_in _ (by omega)
          have hd : decide (z * (mm : Int) ≤ 100 * (u : Int)) = true := decide_eq_true hU
          clear kb5 hb6 hrd5
          by_cases hz : z = 100
          · have hz' : (z == 100) = true := by simp [hz]
            clear hz
            go_wp2
            go_ret
            exact ⟨rfl, kb6⟩
          · have hz' : (z == 100) = false := by simp [hz]
            obtain ⟨hbt, hNM⟩ := HM3.out (by omega)
            rw [hbt]
            have hd2 : decide (N ≤ M) = true := decide_eq_true hNM
            clear hz hbt hNM
            go_wp2
            go_ret
            exact ⟨rfl, kb6⟩
end Go.Proofs.Ytiajcnldfdijoaa
