/-
  Walk: FnMatchesAll.
-/
import Derived.Test.YtnnbfdlicadgfaaMAGen
import Derived.Test.YtnnbfdlicadgfaaMAW
import Derived.Deep.RegionHeld3
import Derived.Deep.RegionLaw
namespace Go.Proofs.Ytnnbfdlicadgfaa
open Go.RowKit
set_option maxHeartbeats 8000000 in
set_option maxRecDepth 100000 in
theorem fnMatchesAll_any (A : Option Addr) (n c : Nat) (w : World) (hm : n ≤ 9223372036854775807) (hc : n ≤ c) (hr : RdB w w.heap.size A n) :
    Calls Try.prog 3 #[.slice A n c] w fun e w' => e = .returned (.bool true) ∧ Below w.heap.size w w' := by
  obtain ⟨i0, hi, hz0, hz1, hz2⟩ := info_parts infoMatcher
  by_cases hbig : (1048576 : Int) < n
  · go_enter Try.func3, Try.ntmps3
    go_wp2
    go_ret
    exact ⟨rfl, Below.refl _ _⟩
  · go_enter Try.func3, Try.ntmps3
    go_wp2_with fail
    refine (drawMatchesAll_any A n c _ hm hc hr).mono ?_
    rintro e w1 ⟨A2, c2, m, l, B2, d2, q, want, rfl, hl, hm2, hcap, hsz, hq, hq2, hqd, hsz2, hrd, hrn, hb1⟩
    have HL := Lib.hid (And.intro hl (And.intro hsz (And.intro hq hsz2)))
    clear hl hr hsz hq hsz2
    go_wp2_with fail
    refine (matchesAll_any A2 m c2 l B2 q d2 want _ HL.out.1 HL.out.2.2.1 hrd hrn).mono ?_
    rintro e w2 ⟨rfl, hb2⟩
    have hb3 := kept_trans hb1 hb2
    have hrd3 := RdG.next hrd hb2
    have hrn3 := RdG.next hrn hb2
    clear hb1 hb2 hrd hrn
    go_wp2_with fail
    refine (specMatchesAll_any A2 m c2 l B2 q d2 want _ HL.out.1 (by omega) HL.out.2.2.1 (by omega) HL.out.2.1 HL.out.2.2.2 hrd3 hrn3).mono ?_
    rintro e w4 ⟨rfl, hb4⟩
    have hb5 := kept_trans hb3 hb4
    have hrd5 := RdG.next hrd3 hb4
    have hrn5 := RdG.next hrn3 hb4
    clear hb3 hb4 hrd3 hrn3
    go_wp2_with fail
    refine (validLabels_any A2 m c2 l _ HL.out.1 hrd5).mono ?_
    rintro e w6 ⟨rfl, hb6⟩
    have hb7 := kept_trans hb5 hb6
    have hrd7 := RdG.next hrd5 hb6
    have hrn7 := RdG.next hrn5 hb6
    clear hb5 hb6 hrd5 hrn5
    rcases hv : vL l with _ | _
    · have HMV := Lib.hid (maV_no1 (want := want) hv)
      clear hv
      go_wp2_with fail
      refine (specMatchesAll_any A2 m c2 l B2 q d2 want _ HL.out.1 (by omega) HL.out.2.2.1 (by omega) HL.out.2.1 HL.out.2.2.2 hrd7 hrn7).mono ?_
      rintro e w8 ⟨rfl, hb8⟩
      rw [HMV.out]
      go_wp2
      go_ret
      exact ⟨rfl, kept_trans hb7 hb8⟩
    · have HV := Lib.hid hv
      clear hv
      go_wp2_with fail
      refine (validMatchers_any B2 q d2 want _ HL.out.2.2.1 hrn7).mono ?_
      rintro e w8 ⟨rfl, hb8⟩
      have hb9 := kept_trans hb7 hb8
      have hrd9 := RdG.next hrd7 hb8
      have hrn9 := RdG.next hrn7 hb8
      clear hb7 hb8 hrd7 hrn7
      rcases hv : vM want with _ | _
      · have HMV := Lib.hid (maV_no2 (l := l) hv)
        clear hv
        go_wp2_with fail
        refine (specMatchesAll_any A2 m c2 l B2 q d2 want _ HL.out.1 (by omega) HL.out.2.2.1 (by omega) HL.out.2.1 HL.out.2.2.2 hrd9 hrn9).mono ?_
        rintro e w10 ⟨rfl, hb10⟩
        rw [HMV.out]
        go_wp2
        go_ret
        exact ⟨rfl, kept_trans hb9 hb10⟩
      · have HVM := Lib.hid hv
        have HMV := Lib.hid (maV_ok HV.out hv)
        clear hv
        have HX := Lib.hid (And.intro hb9 (And.intro hrd9 hrn9))
        have HMN := Lib.hid (show maV l [] = true by rw [maV_ok HV.out rfl]; rfl)
        clear hb9 hrd9 hrn9
        rcases hmv : maV l want with _ | _
        all_goals
          have HMM := Lib.hid hmv
          clear hmv
          go_wp2
          go_loopw [6, 7] (fun v i wr => ∃ (k : Nat), v = .bool (matL l (want.take k)) ∧ i = .int .i64 k ∧ k ≤ q ∧ Below w8.heap.size w8 wr) (fun _ i _ => q - (intOf i).toNat)
          case atStart => exact ⟨0, rfl, rfl, by omega, Below.refl _ _⟩
          case round =>
            obtain ⟨k, rfl, rfl, hk, hb⟩ := hrel
            by_cases hlt : k < q
            · have hki : (k : Int) < (q : Int) := by omega
              have hln : k < want.length := by rw [HL.out.2.2.1]; exact hlt
              have HS := Lib.hid (matL_succ (l := l) hln)
              rcases ha : matL l (want.take k) with _ | _
              · have HAA := Lib.hid ha
                clear ha
                go_wp2
                go_roundw
                case rel => exact ⟨k + 1, by rw [HS.out, HAA.out]; rfl, by go_num, by omega, hb⟩
                case measure => simp [intOf]; omega
              · have HAA := Lib.hid ha
                have HO1 := Lib.hid (show maV l [at0 want k] = mat1 l (at0 want k) by rw [maV_ok HV.out (vM_one HVM.out hln)]; exact matL_one l _)
                have hrr := RdG.to HX.out.2.2 hb
                obtain ⟨b, off, rfl, hbb, hcc⟩ := RdM.at_ hrr (by omega)
                have HR1 := Lib.hid (show RdM wr wr.heap.size (some ⟨b, off + k * 3, none⟩) [at0 want k] from fun _ => ⟨b, off + k * 3, rfl, hbb, fun j hj => by
                  obtain ⟨y0, y1, y2⟩ := hcc k hln
                  match j, hj with
                  | 0, _ => exact y0
                  | 1, _ => exact y1
                  | 2, _ => exact y2⟩)
                have hrl := RdG.to HX.out.2.1 hb
                have hcd : (k : Int) + 1 ≤ (d2 : Int) := by omega
                have hcd2 : ¬ d2 = k := by omega
                have hcd3 : (k : Int) ≤ (k : Int) + 1 := by omega
                clear ha hcc hrr
                go_wp2_with fail
                refine (matchesAll_any A2 m c2 l _ 1 (d2 - k) [at0 want k] _ HL.out.1 rfl hrl HR1.out).mono ?_
                rintro e w10 ⟨rfl, hb10⟩
                rw [HO1.out]
                have hb12 := kept_trans hb hb10
                clear hb hb10 hrl hcd hcd2 hcd3
                go_wp2
                go_roundw
                case rel => exact ⟨k + 1, by rw [HS.out, HAA.out]; rfl, by go_num, by omega, hb12⟩
                case measure => simp [intOf]; omega
            · have HA2 := Lib.hid (matL_all (l := l) (want := want) (k := k) (by rw [HL.out.2.2.1]; omega))
              have hrl := RdG.to HX.out.2.1 hb
              have hall : matL l (want.take k) = maV l want := by rw [HA2.out, HMV.out]
              rw [HMM.out] at hall
              rw [hall]
              clear hall
              go_wp2_with fail
              refine (matchesAll_any A2 m c2 l none 0 0 [] _ HL.out.1 rfl hrl (RdG.nil _ _ _ _ rfl)).mono ?_
              rintro e w10 ⟨rfl, hb10⟩
              rw [HMN.out]
              have hb11 := kept_trans HX.out.1 (kept_trans hb hb10)
              clear hb hb10 hrl
              go_wp2
              go_ret
              exact ⟨rfl, hb11⟩
end Go.Proofs.Ytnnbfdlicadgfaa
