/-
  Walk of FnSumOverRollUp.
-/
import Derived.Test.YtiajcnldfdijoaaPtGen3
import Derived.Test.YtiajcnldfdijoaaPtW8
import Derived.Test.YtiajcnldfdijoaaBkW2
namespace Go.Proofs.Ytiajcnldfdijoaa
open Go.RowKit
set_option maxHeartbeats 4000000 in
set_option maxRecDepth 100000 in
theorem fnSumOverRollUp_any (A : Option Addr) (n c : Nat) (w : World) (hm : n ≤ 9223372036854775807) (hc : n ≤ c) (hr : RdB w w.heap.size A n) :
    Calls Try.prog 4 #[.slice A n c] w fun e w' => e = .returned (.bool true) ∧ Below w.heap.size w w' := by
  by_cases hbig : (1048576 : Int) < n
  · go_enter Try.func4, Try.ntmps4
    go_wp2
    go_ret
    exact ⟨rfl, Below.refl _ _⟩
  · go_enter Try.func4, Try.ntmps4
    go_wp2_with fail
    refine (drawSumOver_any A n c _ hm hc hr).mono ?_
    rintro e w1 ⟨A2, c2, m, l, x, y, rfl, hl, hm2, hc2, x0, x1', y0, y1', hrd, hb1⟩
    have HL := Lib.hid hl
    clear hl hr
    go_wp2_with fail
    refine (sumOver_any A2 m c2 l x y _ HL.out (by omega) hc2 hrd).mono ?_
    rintro e w2 ⟨rfl, hb2⟩
    have hb3 := kept_trans hb1 hb2
    have hrd3 := hrd.next hb2
    clear hb1 hb2 hrd
    go_wp2_with fail
    refine (specSumOver_any A2 m c2 l x y _ HL.out (by omega) hrd3).mono ?_
    rintro e w4 ⟨rfl, hb4⟩
    have hb5 := kept_trans hb3 hb4
    have hrd5 := hrd3.next hb4
    have hSS : (sumL (rngL l x y) != sumL (rngL l x y)) = false := by simp
    clear hb3 hb4 hrd3
    go_wp2_with fail
    refine (validSeries_any A2 m c2 l _ HL.out (by omega) hrd5).mono ?_
    rintro e w6 ⟨rfl, hb6⟩
    have kb6 := kept_trans hb5 hb6
    have hrd6 := hrd5.next hb6
    clear hb5 hb6 hrd5
    rcases hV : vS l with _ | _
    · clear hV
      go_wp2_with fail
      refine (specSumOver_any A2 m c2 l x y _ HL.out (by omega) hrd6).mono ?_
      rintro e w7 ⟨rfl, hb7⟩
      go_wp2
      go_ret
      exact ⟨rfl, kept_trans kb6 hb7⟩
    · have HV := Lib.hid hV
      have hVS := VS_of hV
      have hall := rngL_all hVS hV
      have hbS := sumL_bd (Bd_VS hVS)
      have h16 : m ≤ 16 := by have := hVS.1; rw [HL.out] at this; exact this
      have HA := Lib.hid hall
      clear hV hVS hall
      go_wp2_with fail
      refine (rollUp_any A2 m c2 l _ HL.out HV.out hrd6).mono ?_
      rintro e w7 ⟨A7, c7, z, bs, rfl, hbl, hT, hown, hb7⟩
      have kb7 := kept_trans kb6 hb7
      have hrd7 := hrd6.next hb7
      have hz16 : z ≤ 16 := by have := hT.2.1; omega
      have HT := Lib.hid hT
      have HBL := Lib.hid hbl
      clear kb6 hb7 hrd6 hT hbl
      generalize hsl : sumL l = SL at *
      have HSL := Lib.hid hsl
      clear hsl
      go_wp2
      go_loopw [8, 9] (fun v i wr => ∃ k : Nat, k ≤ z ∧ i = .int .i64 k ∧ v = .int .i64 (bsTo bs k) ∧ Below w7.heap.size w7 wr) (fun _ i _ => z - (intOf i).toNat)
      case atStart => exact ⟨0, by omega, rfl, rfl, Below.refl _ _⟩
      case round =>
        obtain ⟨k, hk, rfl, rfl, hb⟩ := hrel
        by_cases hlt : k < z
        · obtain ⟨g, cap, hv, _, hgl⟩ := hown.form (by omega)
          have hA : A7 = some ⟨g, 0, none⟩ := by injection hv
          subst hA
          obtain ⟨_, _, hc2', _, _⟩ := own_cellsB hown HBL.out hlt rfl
          rw [← hb.cell (by exact hgl)] at hc2'
          have hki : (k : Int) < (z : Int) := by omega
          have hs := bsTo_bd HT.out h16 (k + 1) (by rw [HBL.out]; omega)
          have hE : bsTo bs (k + 1) = bsTo bs k + (at0 bs k).sm := rfl
          rw [hE] at hs
          have hw : IntKind.i64.wrap (bsTo bs k + (at0 bs k).sm) = bsTo bs k + (at0 bs k).sm := IntWalk.i64_in _ (by omega)
          have HE := Lib.hid hE
          clear hv hown hs hE kb7 hrd7
          go_wp2
          go_roundw
          case rel => exact ⟨k + 1, by omega, by go_num, by rw [HE.out], hb⟩
          case measure => simp [intOf]; omega
        · have hkz : k = z := by omega
          have hS : bsTo bs k = SL := by rw [hkz, ← HBL.out, bsTo_all]; exact HT.out.1
          have kb8 := kept_trans kb7 hb
          have hrd8 := hrd7.next hb
          rw [hS]
          clear hown hb kb7 hrd7 hS
          go_wp2_with fail
          refine (sumOver_any A2 m c2 l 0 1001 _ HL.out (by omega) hc2 hrd8).mono ?_
          rw [HA.out, HSL.out]
          rintro e w9 ⟨rfl, hb9⟩
          have kb9 := kept_trans kb8 hb9
          clear kb8 hb9 hrd8
          go_wp2
          go_ret
          exact ⟨rfl, kb9⟩
end Go.Proofs.Ytiajcnldfdijoaa
