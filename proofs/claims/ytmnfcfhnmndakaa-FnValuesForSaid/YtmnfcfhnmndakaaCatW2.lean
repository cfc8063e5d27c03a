/-
  Walks: placeIn, validCatalog of the spec, FindSeries of both packages.
-/
import Derived.Test.YtmnfcfhnmndakaaCatW1
import Derived.Test.YtmnfcfhnmndakaaCmpW3
namespace Go.Proofs.Ytmnfcfhnmndakaa
open Go.RowKit
/-- Labels whose lengths and texts fit. -/
def SzR (C : Ct) (b : Nat) : Prop := ∀ i, i < C.length → SzL (at0 C i) ∧ (at0 C i).length ≤ b
theorem SzR.take {C : Ct} {b : Nat} (h : SzR C b) (k : Nat) : SzR (C.take k) b := fun i hi => by
  rw [List.length_take] at hi
  rw [at0_take _ (by omega)]
  exact h i (by omega)
theorem ret_as {P : Program} {f : FuncId} {args : Array Value} {w : World} {v v' : Value} (h : Calls P f args w fun e w' => e = .returned v ∧ Below w.heap.size w w') (hv : v = v') : Calls P f args w fun e w' => e = .returned v' ∧ Below w.heap.size w w' := by subst hv; exact h
theorem cmpLs_nz {a b : List Lb} (h : a ≠ b) : (cmpLs a b == 0) = false := by
  rw [beq_eq_false_iff_ne]; exact fun e => h (cmpLs_zero e)
theorem cmpLs_yz {a b : List Lb} (h : a = b) : (cmpLs a b == 0) = true := by
  subst h; rw [beq_iff_eq]; exact cmpLs_self a
theorem kin_rdC {W : World} {A : Option Addr} {C : Ct} (h : RdC W W.heap.size A C) (x : Kin W.heap.size W) : RdC x.val x.val.heap.size A C := (h.below x.property).mono x.property.size
theorem kin_rdL {W : World} {A : Option Addr} {l : List Lb} (h : RdL W W.heap.size A l) (x : Kin W.heap.size W) : RdL x.val x.val.heap.size A l := (RdG.below h x.property).mono x.property.size
set_option maxHeartbeats 1000000 in
theorem placeIn_any (A : Option Addr) (n c : Nat) (C : Ct) (B : Option Addr) (m d : Nat) (l : List Lb) (w : World) (hn : C.length = n) (hm : l.length = m) (hn2 : n ≤ 1000000000000) (hm2 : m ≤ 1000000000000) (hsz : SzR C 1000000000000)
    (hr : RdC w w.heap.size A C) (hr' : RdL w w.heap.size B l) :
    Calls Try.prog 68 #[.slice A n c, .slice B m d] w fun e w' => e = .returned (.int .i64 (plc C l)) ∧ Below w.heap.size w w' := by
  have HN := Lib.hid hn
  have HM := Lib.hid hm
  have HZ := Lib.hid hsz
  have HR := Lib.hid hr
  have HR' := Lib.hid hr'
  clear hn hm hsz hr hr'
  go_enter Try.func68, Try.ntmps68
  go_wp2
  go_loopw [5] (fun i wr => ∃ k : Nat, k ≤ n ∧ i = .int .i64 k ∧ noC C l k ∧ Below w.heap.size w wr) (fun i _ => n - (intOf i).toNat)
  case atStart => exact ⟨0, by omega, rfl, noC_zero C l, Below.refl _ _⟩
  case round =>
    obtain ⟨k, hk, rfl, hs, hb⟩ := hrel
    have HS := Lib.hid hs
    clear hs
    by_cases hlt : k < n
    · have hki : (k : Int) < (n : Int) := by omega
      obtain ⟨b, off, rfl, hbb, a2, m2, c2, hc, hl2, _, hrl⟩ := RdC.at_ (RdC.next HR.out hb) HN.out hlt
      have hrl' := RdG.next HR'.out hb
      have hm3 : m2 ≤ 1000000000000 := by rw [← hl2]; exact (HZ.out k (by rw [HN.out]; exact hlt)).2
      have HL2 := Lib.hid hl2
      clear hl2
      go_wp2_with fail
      refine (specCompare_any a2 m2 c2 (at0 C k) B m d l _ HL2.out HM.out hm3 hm2 hrl hrl').mono ?_
      rintro e w1 ⟨rfl, hb1⟩
      have hb2 := kept_trans hb hb1
      clear hb hb1 hc hrl hrl'
      by_cases he : at0 C k = l
      · have HP := Lib.hid (plc_hit (by rw [HN.out]; exact hlt) HS.out he)
        have hq := cmpLs_yz he
        clear he
        go_wp2
        go_ret
        exact ⟨ret_int HP.out.symm, hb2⟩
      · have HP := Lib.hid (noC_succ HS.out he)
        have hq := cmpLs_nz he
        clear he
        go_wp2
        go_roundw
        case rel => exact ⟨k + 1, by omega, by go_num, HP.out, hb2⟩
        case measure => simp [intOf]; omega
    · have HP := Lib.hid (plc_miss HS.out (by rw [HN.out]; omega))
      go_wp2
      go_ret
      exact ⟨ret_int HP.out.symm, hb⟩
set_option maxHeartbeats 4000000 in
theorem specValidCatalog_any (A : Option Addr) (n c : Nat) (C : Ct) (w : World) (hn : C.length = n) (hc : n ≤ c) (hn2 : n ≤ 1000000000000) (hsz : SzR C 1000000000000) (hr : RdC w w.heap.size A C) :
    Calls Try.prog 59 #[.slice A n c] w fun e w' => e = .returned (.bool (vC C)) ∧ Below w.heap.size w w' := by
  have HN := Lib.hid hn
  have HR := Lib.hid hr
  have HZ := Lib.hid hsz
  clear hn hr hsz
  go_enter Try.func59, Try.ntmps59
  go_wp2
  go_loopw [3] (fun i wr => ∃ k : Nat, k ≤ n ∧ i = .int .i64 k ∧ okCo C k ∧ Below w.heap.size w wr) (fun i _ => n - (intOf i).toNat)
  case atStart => exact ⟨0, by omega, rfl, okCo_zero C, Below.refl _ _⟩
  case round =>
    obtain ⟨k, hk, rfl, hs, hb⟩ := hrel
    have HS := Lib.hid hs
    clear hs
    by_cases hlt : k < n
    · have hki : (k : Int) < (n : Int) := by omega
      have hlc : k < C.length := by rw [HN.out]; exact hlt
      have hrc := RdC.next HR.out hb
      obtain ⟨b, off, rfl, hbb, a2, m2, c2, hcl, hl2, _, hrl⟩ := RdC.at_ hrc HN.out hlt
      have HL2 := Lib.hid hl2
      have HRC := Lib.hid (RdC.take hrc k)
      have HRL := Lib.hid hrl
      have q0 := kin_cell hcl hbb
      have hm3 : m2 ≤ 1000000000000 := by rw [← hl2]; exact (HZ.out k hlc).2
      have HSL := Lib.hid (HZ.out k hlc).1
      have hk1 : (k : Int) ≤ (c : Int) := by omega
      have HT := Lib.hid (show (C.take k).length = k by rw [List.length_take, HN.out]; omega)
      have HZT := Lib.hid (HZ.out.take k)
      have HP := Lib.hid (plc_take (C := C) (l := at0 C k) (k := k) (by rw [HN.out]; exact hk))
      clear hl2 hrl hrc hcl
      rcases hv : vL (at0 C k) with _ | _
      · have HX := Lib.hid (vC_bad1 hlc hv)
        have HV := Lib.hid hv
        clear hv
        go_wp2_with fail
        refine wp_region_kin (by kernel_rfl) (by kernel_rfl) ?_
        repeat (go_big_quiet_step ((go_at_call 67; exact kin_call (ret_as (specValidLabels_any a2 m2 c2 (at0 C k) _ HL2.out hm3 HSL.out (kin_rdL HRL.out _)) (show _ = Value.bool false by rw [HV.out])))))
        refine wpQuiet_nil ?_
        intro _ hw'
        obtain ⟨⟨wq, hq⟩, hw''⟩ := hw'
        subst hw''
        have hb2 := kept_trans hb hq
        clear hb hq q0
        go_wp2
        go_ret
        exact ⟨ret_bool HX.out.symm, hb2⟩
      · have HV := Lib.hid hv
        clear hv
        by_cases hp : plc (C.take k) (at0 C k) < 0
        · have HX := Lib.hid (okCo_succ HS.out HV.out (HP.out.1 hp))
          go_wp2_with fail
          refine wp_region_kin (by kernel_rfl) (by kernel_rfl) ?_
          repeat (go_big_quiet_step ((first | (go_at_call 67; exact kin_call (ret_as (specValidLabels_any a2 m2 c2 (at0 C k) _ HL2.out hm3 HSL.out (kin_rdL HRL.out _)) (show _ = Value.bool true by rw [HV.out]))) | (go_at_call 68; exact kin_call (placeIn_any _ k c (C.take k) a2 m2 c2 (at0 C k) _ HT.out HL2.out (by omega) hm3 HZT.out (kin_rdC HRC.out _) (kin_rdL HRL.out _))))))
          refine wpQuiet_nil ?_
          intro _ hw'
          obtain ⟨⟨wq, hq⟩, hw''⟩ := hw'
          subst hw''
          have hb2 := kept_trans hb hq
          clear hb hq q0
          have hp2 : ¬ 0 ≤ plc (C.take k) (at0 C k) := by omega
          go_wp2
          go_roundw
          case rel => exact ⟨k + 1, by omega, by go_num, HX.out, hb2⟩
          case measure => simp [intOf]; omega
        · have HX := Lib.hid (vC_bad2 hlc (fun h => hp (HP.out.2 h)))
          have hp2 : 0 ≤ plc (C.take k) (at0 C k) := by omega
          go_wp2_with fail
          refine wp_region_kin (by kernel_rfl) (by kernel_rfl) ?_
          repeat (go_big_quiet_step ((first | (go_at_call 67; exact kin_call (ret_as (specValidLabels_any a2 m2 c2 (at0 C k) _ HL2.out hm3 HSL.out (kin_rdL HRL.out _)) (show _ = Value.bool true by rw [HV.out]))) | (go_at_call 68; exact kin_call (placeIn_any _ k c (C.take k) a2 m2 c2 (at0 C k) _ HT.out HL2.out (by omega) hm3 HZT.out (kin_rdC HRC.out _) (kin_rdL HRL.out _))))))
          refine wpQuiet_nil ?_
          intro _ hw'
          obtain ⟨⟨wq, hq⟩, hw''⟩ := hw'
          subst hw''
          have hb2 := kept_trans hb hq
          clear hb hq q0
          go_wp2
          go_ret
          exact ⟨ret_bool HX.out.symm, hb2⟩
    · by_cases h8 : n ≤ 8
      · have HX := Lib.hid (vC_good (by rw [HN.out]; exact h8) HS.out (by rw [HN.out]; omega))
        go_wp2
        go_ret
        exact ⟨ret_bool ((decide_eq_true (by omega)).trans HX.out.symm), hb⟩
      · have HX := Lib.hid (vC_long (C := C) (by rw [HN.out]; omega))
        go_wp2
        go_ret
        exact ⟨ret_bool ((decide_eq_false (by omega)).trans HX.out.symm), hb⟩
/-- The place of labels, where all are valid. -/
def fsV (C : Ct) (l : List Lb) : Int := if vC C = true ∧ vL l = true then plc C l else -1
theorem fsV_no1 {C : Ct} {l : List Lb} (h : vC C = false) : fsV C l = -1 := if_neg fun k => by rw [h] at k; cases k.1
theorem fsV_no2 {C : Ct} {l : List Lb} (h : vL l = false) : fsV C l = -1 := if_neg fun k => by rw [h] at k; cases k.2
theorem fsV_ok {C : Ct} {l : List Lb} (h : vC C = true) (h' : vL l = true) : fsV C l = plc C l := if_pos ⟨h, h'⟩
set_option maxHeartbeats 1000000 in
theorem findSeries_any (A : Option Addr) (n c : Nat) (C : Ct) (B : Option Addr) (m d : Nat) (l : List Lb) (w : World) (hn : C.length = n) (hm : l.length = m) (hc : n ≤ c)
    (hr : RdC w w.heap.size A C) (hr' : RdL w w.heap.size B l) :
    Calls Try.prog 32 #[.slice A n c, .slice B m d] w fun e w' => e = .returned (.int .i64 (fsV C l)) ∧ Below w.heap.size w w' := by
  have HN := Lib.hid hn
  have HM := Lib.hid hm
  clear hn hm
  rcases hv : vC C with _ | _
  · have HF := Lib.hid (fsV_no1 (l := l) hv)
    have HV := Lib.hid hv
    clear hv
    go_enter Try.func32, Try.ntmps32
    go_wp2_with fail
    refine (validCatalog_any A n c C _ HN.out hc hr).mono ?_
    rintro e w1 ⟨rfl, hb1⟩
    rw [HV.out]
    clear hr hr'
    go_wp2
    go_ret
    exact ⟨ret_int HF.out.symm, hb1⟩
  · have HV := Lib.hid hv
    clear hv
    rcases hv2 : vL l with _ | _
    · have HF := Lib.hid (fsV_no2 (C := C) hv2)
      have HV2 := Lib.hid hv2
      clear hv2
      go_enter Try.func32, Try.ntmps32
      go_wp2_with fail
      refine (validCatalog_any A n c C _ HN.out hc hr).mono ?_
      rintro e w1 ⟨rfl, hb1⟩
      rw [HV.out]
      have hr2 := RdG.next hr' hb1
      clear hr hr'
      go_wp2_with fail
      refine (validLabels_any B m d l _ HM.out hr2).mono ?_
      rintro e w2 ⟨rfl, hb2⟩
      rw [HV2.out]
      have hb3 := kept_trans hb1 hb2
      clear hb1 hb2 hr2
      go_wp2
      go_ret
      exact ⟨ret_int HF.out.symm, hb3⟩
    · have HF := Lib.hid (fsV_ok HV.out hv2)
      have HV2 := Lib.hid hv2
      clear hv2
      have hn2 : n ≤ 1000000000000 := by have := (VC_of HV.out).1; rw [HN.out] at this; omega
      have HZ4 := Lib.hid (show ∀ i, i < n → (at0 C i).length ≤ 1000000000000 from fun i hi => by
        have := (VL_of ((VC_of HV.out).2 i (by rw [HN.out]; exact hi)).1).1
        omega)
      go_enter Try.func32, Try.ntmps32
      go_wp2_with fail
      refine (validCatalog_any A n c C _ HN.out hc hr).mono ?_
      rintro e w1 ⟨rfl, hb1⟩
      rw [HV.out]
      have hr1 := RdC.next hr hb1
      have hr2 := RdG.next hr' hb1
      clear hr hr'
      go_wp2_with fail
      refine (validLabels_any B m d l _ HM.out hr2).mono ?_
      rintro e w2 ⟨rfl, hb2⟩
      rw [HV2.out]
      have hb3 := kept_trans hb1 hb2
      have hr3 := RdC.next hr1 hb2
      have hr4 := RdG.next hr2 hb2
      clear hb1 hb2 hr1 hr2
      go_wp2_with fail
      refine (placeOf_any A n c C B m d l _ HN.out HM.out hn2 HZ4.out hr3 hr4).mono ?_
      rintro e w3 ⟨rfl, hb4⟩
      have hb5 := kept_trans hb3 hb4
      clear hb3 hb4 hr3 hr4
      go_wp2
      go_ret
      exact ⟨ret_int HF.out.symm, hb5⟩
end Go.Proofs.Ytmnfcfhnmndakaa
