/-
  Walk: FnValuesFor.
-/
import Derived.Test.YtmnfcfhnmndakaaVfGen
import Derived.Test.YtmnfcfhnmndakaaVfW2
import Derived.Test.YtmnfcfhnmndakaaPosW
namespace Go.Proofs.Ytmnfcfhnmndakaa
open Go.RowKit
theorem szN_tV {C : Ct} (h : SzN C) : SzR C 1000000000000 := SzR.mono h (by omega)
theorem posTo_mono (f : List Lb → Bool) (C : Ct) : ∀ {k j : Nat}, k ≤ j → (posTo f C k).length ≤ (posTo f C j).length
  | k, 0, h => by have : k = 0 := by omega
                  subst this; exact Nat.le_refl _
  | k, j + 1, h => by
    rcases Nat.lt_or_ge k (j + 1) with h1 | h1
    · have := posTo_mono f C (show k ≤ j by omega)
      rcases hf : f (at0 C j) with _ | _
      · rw [posTo_no hf]; exact this
      · rw [posTo_yes hf, List.length_append]; omega
    · have : k = j + 1 := by omega
      subst this; exact Nat.le_refl _
theorem cntV_bd (C : Ct) (s : ByteArray) (i : Nat) : cntV C s i ≤ C.length := posTo_len _ _ _
set_option maxHeartbeats 8000000 in
set_option maxRecDepth 100000 in
theorem fnValuesFor_any (A : Option Addr) (n c : Nat) (w : World) (hm : n ≤ 9223372036854775807) (hc : n ≤ c) (hr : RdB w w.heap.size A n) :
    Calls Try.prog 3 #[.slice A n c] w fun e w' => e = .returned (.bool true) ∧ Below w.heap.size w w' := by
  by_cases hbig : (1048576 : Int) < n
  · go_enter Try.func3, Try.ntmps3
    go_wp2
    go_ret
    exact ⟨rfl, Below.refl _ _⟩
  · go_enter Try.func3, Try.ntmps3
    go_wp2_with fail
    refine (drawValuesFor_any A n c _ hm hc hr).mono ?_
    rintro e w1 ⟨A2, c2, m, C, s, rfl, hC, hm2, hcap, hsz, hs, hrd, hb1⟩
    have HL := Lib.hid (And.intro hC hsz)
    clear hC hr hsz
    go_wp2_with fail
    refine (valuesFor_any A2 m c2 C s _ HL.out.1 hcap hrd).mono ?_
    rintro e w2 ⟨A3, c3, rfl, hown3, hb2⟩
    have hb3 := kept_trans hb1 hb2
    have hrd3 := RdC.next hrd hb2
    have hri3 := own_rdG hown3 rfl
    clear hb1 hb2 hrd hown3
    go_wp2_with fail
    refine (specValuesFor_any A2 m c2 C s _ HL.out.1 hcap (by omega) (szN_tV HL.out.2) hrd3).mono ?_
    rintro e w4 ⟨A4, c4, rfl, hown4, hb4⟩
    have hb5 := kept_trans hb3 hb4
    have hrd5 := RdC.next hrd3 hb4
    have hri5 := RdG.next hri3 hb4
    have hrj5 := own_rdG hown4 rfl
    have hpl := vfV_len C s
    rw [HL.out.1] at hpl
    clear hb3 hb4 hrd3 hri3 hown4
    generalize hov : vfV C s = out at *
    have HOV := Lib.hid hov
    clear hov
    generalize hz : out.length = z at *
    have HZ := Lib.hid hz
    clear hz
    go_wp2_with fail
    refine (equalTexts_same A3 z c3 A4 c4 out _ HZ.out (by omega) hri5 hrj5).mono ?_
    rintro e w6 ⟨rfl, hb6⟩
    have hb7 := kept_trans hb5 hb6
    have hrd7 := RdC.next hrd5 hb6
    have hri7 := RdG.next hri5 hb6
    clear hb5 hb6 hrd5 hri5 hrj5
    go_wp2_with fail
    refine (validCatalog_any A2 m c2 C _ HL.out.1 hcap hrd7).mono ?_
    rintro e w8 ⟨rfl, hb8⟩
    have hb9 := kept_trans hb7 hb8
    have hrd9 := RdC.next hrd7 hb8
    have hri9 := RdG.next hri7 hb8
    clear hb7 hb8 hrd7 hri7
    rcases hv : vC C with _ | _
    · clear hv
      go_wp2_with fail
      refine (specValuesFor_any A2 m c2 C s _ HL.out.1 hcap (by omega) (szN_tV HL.out.2) hrd9).mono ?_
      rw [HOV.out]
      rintro e w10 ⟨A5, c5, rfl, hown5, hb10⟩
      rw [HZ.out] at hown5 ⊢
      have hb11 := kept_trans hb9 hb10
      have hri11 := RdG.next hri9 hb10
      have hrj11 := own_rdG hown5 HZ.out
      clear hb9 hb10 hrd9 hri9 hown5
      go_wp2_with fail
      refine (equalTexts_same A3 z c3 A5 c5 out _ HZ.out (by omega) hri11 hrj11).mono ?_
      rintro e w12 ⟨rfl, hb12⟩
      go_wp2
      go_ret
      exact ⟨rfl, kept_trans hb11 hb12⟩
    · have HV := Lib.hid hv
      have HR := Lib.hid (And.intro hrd9 (And.intro hri9 hb9))
      clear hv hrd9 hb9 hri9
      go_wp2
      go_loopw [6, 7] (fun v i wr => ∃ k : Nat, k ≤ z ∧ i = .int .i64 k ∧ v = .int .i64 (cntV C s k : Nat) ∧ Below w8.heap.size w8 wr) (fun _ i _ => z - (intOf i).toNat)
      case atStart => exact ⟨0, by omega, rfl, by rw [cntV_zero]; rfl, Below.refl _ _⟩
      case round =>
        obtain ⟨k, hk, rfl, rfl, hb⟩ := hrel
        have HB0 := Lib.hid hb
        clear hb
        by_cases hlt : k < z
        · have hki : (k : Int) < (z : Int) := by omega
          have hkz : k < (vfV C s).length := by rw [HOV.out, HZ.out]; exact hlt
          have hcs := cntV_succ (s := s) HV.out hkz
          have hps := psV_pos (s := s) HV.out hkz
          have hcb := cntV_bd C s (k + 1)
          rw [HOV.out] at hcs hps
          rw [HL.out.1] at hcb
          have hasc := fun (h0 : 0 < k) => vfV_asc (C := C) (s := s) (show k - 1 < k by omega) hkz
          rw [HOV.out] at hasc
          have HASC := Lib.hid hasc
          clear hasc
          have hrk := RdG.next HR.out.2.1 HB0.out
          obtain ⟨b, off, rfl, hbb, hc⟩ := RdS.at_ hrk (by rw [HZ.out]; omega)
          have hc0 := hc k (by rw [HZ.out]; exact hlt)
          have HC := Lib.hid hc
          clear hc hrk hkz
          go_wp2_with fail
          refine (postings_any A2 m c2 C (s, at0 out k) _ HL.out.1 hcap (RdC.next HR.out.1 HB0.out)).mono ?_
          rintro e w10 ⟨A5, c5, rfl, hown5, hb10⟩
          have hb11 := kept_trans HB0.out hb10
          have hd0 := (hb10.cell (p := ⟨b, off + k, none⟩) hbb).trans hc0
          have hd1 := (hb10.cell (p := ⟨b, off + (k - 1), none⟩) hbb).trans (HC.out (k - 1) (by rw [HZ.out]; omega))
          generalize hpz : (psV C (s, at0 out k)).length = pz at *
          have hpw : IntKind.i64.wrap ((cntV C s k : Int) + (pz : Int)) = (cntV C s (k + 1) : Int) := by rw [hcs]; rw [IntWalk.i64_in _ (by omega)]; omega
          have hp0 : ((pz : Int) == 0) = false := by simp; omega
          have HB1 := Lib.hid hb11
          clear hown5 hb10 hc0 hpz hcs hps hcb hb11 hbb
          generalize cntV C s k = ck at *
          generalize hck1 : cntV C s (k + 1) = ck1 at *
          have HCK := Lib.hid hck1
          clear hck1
          rcases k with _ | kk
          · clear hd1
            go_wp2_with fail
            go_quiet (fail)
            go_wp2
            go_roundw
            case rel => exact ⟨0 + 1, by omega, by go_num, by rw [HCK.out], kept_drewN HB1.out _⟩
            case measure => simp [intOf]; omega
          · obtain ⟨hl1, hl2⟩ := gtB_a (HASC.out (by omega))
            rw [Nat.add_sub_cancel] at hd1 hl1 hl2
            have hw1 : IntKind.i64.wrap ((kk : Int) + 1 - 1) = (kk : Int) := by rw [show (kk : Int) + 1 - 1 = (kk : Int) by omega]; exact IntWalk.i64_in _ (by omega)
            have hn1 : ((kk : Int) + 1).toNat = kk + 1 := by omega
            have hn2 : (kk : Int).toNat = kk := by omega
            have hp1 : (0 : Int) < (kk : Int) + 1 := by omega
            have hp2 : (kk : Int) + 1 < (z : Int) := by omega
            have hp3 : (kk : Int) < (z : Int) := by omega
            go_wp2_with fail
            go_quiet (fail)
            go_wp2
            go_roundw
            case rel => exact ⟨kk + 1 + 1, by omega, by go_num, by rw [HCK.out], kept_drewN HB1.out _⟩
            case measure => simp [intOf]; omega
        · have hall := cntV_all (C := C) (s := s) (i := k) HV.out (by rw [HOV.out, HZ.out]; omega)
          have hTb := posTo_len (hasV s) C C.length
          rw [hall]
          rw [HL.out.1] at hTb ⊢
          generalize hT : (posTo (hasV s) C m).length = T at *
          have HT := Lib.hid hT
          clear hall hT
          go_wp2
          go_loopw [6, 9] (fun v i wr => ∃ j q : Nat, j ≤ m ∧ i = .int .i64 j ∧ q = (posTo (hasV s) C j).length ∧ q ≤ T ∧ v = .int .i64 ((T : Int) - (q : Int)) ∧ Below w8.heap.size w8 wr) (fun _ i _ => m - (intOf i).toNat)
          case atStart => exact ⟨0, 0, by omega, rfl, rfl, by omega, by simp, HB0.out⟩
          case round =>
            obtain ⟨j, q, hj, rfl, hq, hqT, rfl, hb⟩ := hrel
            have HQ := Lib.hid hq
            clear hq
            by_cases hjl : j < m
            · have hji : (j : Int) < (m : Int) := by omega
              have hjc : j < C.length := by rw [HL.out.1]; exact hjl
              obtain ⟨b, off, rfl, hbb, a3, m3, c3', hcl, hl3, _, hrl3⟩ := RdC.at_ (RdC.next HR.out.1 hb) HL.out.1 hjl
              have hvl := lvB_ok (s := s) (vC_row HV.out hjc)
              have HL3 := Lib.hid hl3
              clear hl3
              go_wp2_with fail
              refine (labelValue_any a3 m3 c3' (at0 C j) s _ HL3.out hrl3).mono ?_
              rw [hvl]
              rintro e w10 ⟨rfl, hb10⟩
              have hb11 := kept_trans hb hb10
              clear hb hb10 hrl3 hcl hvl
              rcases hh : emB (valB (at0 C j) s) with _ | _
              · have hy : hasV s (at0 C j) = true := by unfold hasV; rw [hh]; rfl
                have he : (valB (at0 C j) s).toList.isEmpty = false := hh
                have HS := Lib.hid (show (posTo (hasV s) C (j + 1)).length = q + 1 by rw [posTo_yes hy, List.length_append, HQ.out]; rfl)
                have hqq := posTo_mono (hasV s) C (show j + 1 ≤ m by omega)
                rw [HT.out, HS.out] at hqq
                have hw : IntKind.i64.wrap ((T : Int) - (q : Int) - 1) = (T : Int) - ((q + 1 : Nat) : Int) := by rw [IntWalk.i64_in _ (by omega)]; omega
                clear hh hy
                go_wp2
                go_roundw
                case rel => exact ⟨j + 1, q + 1, by omega, by go_num, HS.out.symm, hqq, rfl, hb11⟩
                case measure => simp [intOf]; omega
              · have hy : hasV s (at0 C j) = false := by unfold hasV; rw [hh]; rfl
                have he : (valB (at0 C j) s).toList = [] := emB_t hh
                have HS := Lib.hid (show (posTo (hasV s) C (j + 1)).length = q by rw [posTo_no hy, HQ.out])
                clear hh hy
                go_wp2
                go_roundw
                case rel => exact ⟨j + 1, q, by omega, by go_num, HS.out.symm, hqT, rfl, hb11⟩
                case measure => simp [intOf]; omega
            · have hz0 : (T : Int) - (q : Int) = 0 := by
                have hjm : j = m := by omega
                have := HQ.out
                rw [hjm, HT.out] at this
                omega
              have hlast := kept_trans HR.out.2.2 hb
              rw [hz0]
              clear hz0
              go_wp2
              go_ret
              exact ⟨rfl, hlast⟩
end Go.Proofs.Ytmnfcfhnmndakaa
