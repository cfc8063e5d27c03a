/-
  Walks: FnSelectSeries, FnSelectSeriesMore.
-/
import Derived.Test.YtmnfcfhnmndakaaSelW
import Derived.Test.YtmnfcfhnmndakaaMAL3
namespace Go.Proofs.Ytmnfcfhnmndakaa
open Go.RowKit
theorem slN_t {C : Ct} (h : SzN C) : SzR C 1000000000000 := SzR.mono h (by omega)
theorem slV_len {C : Ct} {want : List Mt} {f : List Lb → Bool} : (slV C want f).length ≤ C.length := by
  unfold slV
  split
  · exact posTo_len _ _ _
  · simp
theorem slV_mem {C : Ct} {want : List Mt} {f : List Lb → Bool} {k : Nat} (h : vC C = true) (h' : vM want = true) (hk : k < C.length) : decide ((k : Int) ∈ slV C want f) = f (at0 C k) := by
  rw [slV_ok h h']
  rcases hf : f (at0 C k) with _ | _
  · refine decide_eq_false fun hm => ?_
    obtain ⟨i, hi, e, h2⟩ := posTo_mem.1 hm
    have : i = k := by omega
    subst this; rw [hf] at h2; cases h2
  · exact decide_eq_true (posTo_mem.2 ⟨k, hk, rfl, hf⟩)
theorem posTo_allLen {f : List Lb → Bool} {C : Ct} : ∀ {k : Nat}, (∀ i, i < k → f (at0 C i) = true) → (posTo f C k).length = k
  | 0, _ => rfl
  | k + 1, h => by rw [posTo_yes (h k (by omega)), List.length_append, List.length_singleton, posTo_allLen (fun i hi => h i (by omega))]
theorem slV_nilLen {C : Ct} (h : vC C = true) : (slV C [] (fun l => matL l [])).length = C.length := by
  rw [slV_ok h rfl]; exact posTo_allLen fun i _ => rfl
theorem slV_pos {C : Ct} {want : List Mt} {f : List Lb → Bool} (h : (slV C want f).length ≠ 0) : vC C = true ∧ vM want = true := by
  unfold slV at h
  split at h
  · assumption
  · exact absurd rfl h
theorem slV_more {C : Ct} {want : List Mt} {x : Int} (h : vC C = true) (h' : vM want = true) (hq : 0 < want.length) (hx : x ∈ slV C want (fun l => matL l want)) : x ∈ slV C [at0 want 0] (fun l => matL l [at0 want 0]) := by
  rw [slV_ok h h'] at hx
  rw [slV_ok h (vM_one h' hq)]
  obtain ⟨i, hi, e, hm⟩ := posTo_mem.1 hx
  refine posTo_mem.2 ⟨i, hi, e, ?_⟩
  show matL (at0 C i) [at0 want 0] = true
  rw [matL_one]
  have hm' : matL (at0 C i) want = true := hm
  unfold matL at hm'
  exact List.all_eq_true.1 hm' _ (at0_mem hq)
theorem xi_mem {l : List Int} {k : Nat} (h : k < l.length) : xi l k ∈ l := by
  unfold xi
  rw [List.getD_eq_getElem?_getD, List.getElem?_eq_getElem h]
  exact List.getElem_mem h
theorem isIn_v (A : Option Addr) (n c : Nat) (l : List Int) (x : Int) (v : Bool) (w : World) (hn : l.length = n) (hm : n ≤ 1000000000000) (hr : Rd1 w w.heap.size A l) (hv : Hid (decide (x ∈ l) = v)) :
    Calls Try.prog 48 #[.slice A n c, .int .i64 x] w fun e w' => e = .returned (.bool v) ∧ w = w' := by
  rw [← hv.out]; exact isIn_any A n c l x w hn hm hr
theorem matchesAll_v (A : Option Addr) (n c : Nat) (l : List Lb) (B : Option Addr) (m d : Nat) (want : List Mt) (v : Bool) (w : World) (hn : l.length = n) (hm : want.length = m) (hr : RdL w w.heap.size A l) (hr' : RdM w w.heap.size B want) (hv : Hid (maV l want = v)) :
    Calls Try.prog 49 #[.slice A n c, .slice B m d] w fun e w' => e = .returned (.bool v) ∧ Below w.heap.size w w' := by
  rw [← hv.out]; exact matchesAll_any A n c l B m d want w hn hm hr hr'
theorem kin_rd1 {W : World} {A : Option Addr} {l : List Int} (h : Rd1 W W.heap.size A l) (x : Kin W.heap.size W) : Rd1 x.val x.val.heap.size A l := Rd1.next h x.property
set_option maxHeartbeats 8000000 in
set_option maxRecDepth 100000 in
theorem fnSelectSeries_any (A : Option Addr) (n c : Nat) (w : World) (hm : n ≤ 9223372036854775807) (hc : n ≤ c) (hr : RdB w w.heap.size A n) :
    Calls Try.prog 10 #[.slice A n c] w fun e w' => e = .returned (.bool true) ∧ Below w.heap.size w w' := by
  by_cases hbig : (1048576 : Int) < n
  · go_enter Try.func10, Try.ntmps10
    go_wp2
    go_ret
    exact ⟨rfl, Below.refl _ _⟩
  · go_enter Try.func10, Try.ntmps10
    go_wp2_with fail
    refine (drawSelectSeries_any A n c _ hm hc hr).mono ?_
    rintro e w1 ⟨A2, c2, m, C, B2, d2, q, want, rfl, hC, hm2, hcap, hsz, hq, hq2, hqd, hszm, hrd, hrn, hb1⟩
    have HL := Lib.hid (And.intro hC (And.intro hsz (And.intro hq hszm)))
    have hsl := slV_len (C := C) (want := want) (f := fun l => matL l want)
    have HSL := Lib.hid (show (slV C want (fun l => matL l want)).length ≤ 1000000000000 by rw [hC] at hsl; omega)
    clear hC hr hsz hq hszm hsl
    go_wp2_with fail
    refine (selectSeries_any A2 m c2 C B2 q d2 want _ HL.out.1 hcap HL.out.2.2.1 hrd hrn).mono ?_
    rintro e w2 ⟨A3, c3, rfl, hown3, hb2⟩
    have hb3 := kept_trans hb1 hb2
    have hrd3 := RdC.next hrd hb2
    have hrn3 := RdG.next hrn hb2
    have hri3 := own_rd1 hown3 rfl
    clear hb1 hb2 hrd hrn hown3
    go_wp2_with fail
    refine (specSelectSeries_any A2 m c2 C B2 q d2 want _ HL.out.1 hcap HL.out.2.2.1 (by omega) (by omega) (slN_t HL.out.2.1) HL.out.2.2.2 hrd3 hrn3).mono ?_
    rintro e w4 ⟨A4, c4, rfl, hown4, hb4⟩
    have hb5 := kept_trans hb3 hb4
    have hrd5 := RdC.next hrd3 hb4
    have hrn5 := RdG.next hrn3 hb4
    have hri5 := Rd1.next hri3 hb4
    have hrj5 := own_rd1 hown4 rfl
    clear hb3 hb4 hrd3 hrn3 hri3 hown4
    go_wp2_with fail
    refine (equalInts_any A3 _ c3 _ A4 _ c4 (slV C want (fun l => matL l want)) _ rfl rfl HSL.out hri5 hrj5).mono ?_
    rintro e w6 ⟨rfl, hb6⟩
    rw [eqI_refl]
    have hb7 := kept_trans hb5 hb6
    have hrd7 := RdC.next hrd5 hb6
    have hrn7 := RdG.next hrn5 hb6
    have hri7 := Rd1.next hri5 hb6
    clear hb5 hb6 hrd5 hrn5 hri5 hrj5
    go_wp2_with fail
    refine (validCatalog_any A2 m c2 C _ HL.out.1 hcap hrd7).mono ?_
    rintro e w8 ⟨rfl, hb8⟩
    have hb9 := kept_trans hb7 hb8
    have hrd9 := RdC.next hrd7 hb8
    have hrn9 := RdG.next hrn7 hb8
    have hri9 := Rd1.next hri7 hb8
    clear hb7 hb8 hrd7 hrn7 hri7
    rcases hv : vC C with _ | _
    · clear hv
      go_wp2_with fail
      refine (specSelectSeries_any A2 m c2 C B2 q d2 want _ HL.out.1 hcap HL.out.2.2.1 (by omega) (by omega) (slN_t HL.out.2.1) HL.out.2.2.2 hrd9 hrn9).mono ?_
      rintro e w10 ⟨A5, c5, rfl, hown5, hb10⟩
      have hb11 := kept_trans hb9 hb10
      have hri11 := Rd1.next hri9 hb10
      have hrj11 := own_rd1 hown5 rfl
      clear hb9 hb10 hrd9 hrn9 hri9 hown5
      go_wp2_with fail
      refine (equalInts_any A3 _ c3 _ A5 _ c5 (slV C want (fun l => matL l want)) _ rfl rfl HSL.out hri11 hrj11).mono ?_
      rintro e w12 ⟨rfl, hb12⟩
      rw [eqI_refl]
      go_wp2
      go_ret
      exact ⟨rfl, kept_trans hb11 hb12⟩
    · have HV := Lib.hid hv
      clear hv
      go_wp2_with fail
      refine (validMatchers_any B2 q d2 want _ HL.out.2.2.1 hrn9).mono ?_
      rintro e w10 ⟨rfl, hb10⟩
      have hb11 := kept_trans hb9 hb10
      have hrd11 := RdC.next hrd9 hb10
      have hrn11 := RdG.next hrn9 hb10
      have hri11 := Rd1.next hri9 hb10
      clear hb9 hb10 hrd9 hrn9 hri9
      rcases hv : vM want with _ | _
      · clear hv
        go_wp2_with fail
        refine (specSelectSeries_any A2 m c2 C B2 q d2 want _ HL.out.1 hcap HL.out.2.2.1 (by omega) (by omega) (slN_t HL.out.2.1) HL.out.2.2.2 hrd11 hrn11).mono ?_
        rintro e w12 ⟨A5, c5, rfl, hown5, hb12⟩
        have hb13 := kept_trans hb11 hb12
        have hri13 := Rd1.next hri11 hb12
        have hrj13 := own_rd1 hown5 rfl
        clear hb11 hb12 hrd11 hrn11 hri11 hown5
        go_wp2_with fail
        refine (equalInts_any A3 _ c3 _ A5 _ c5 (slV C want (fun l => matL l want)) _ rfl rfl HSL.out hri13 hrj13).mono ?_
        rintro e w14 ⟨rfl, hb14⟩
        rw [eqI_refl]
        go_wp2
        go_ret
        exact ⟨rfl, kept_trans hb13 hb14⟩
      · have HVM := Lib.hid hv
        have HR := Lib.hid (And.intro hrd11 (And.intro hrn11 (And.intro hri11 hb11)))
        clear hv hrd11 hrn11 hri11 hb11
        generalize hgp : slV C want (fun l => matL l want) = pl at HSL HR
        have HG := Lib.hid hgp
        clear hgp
        go_wp2
        go_loopw [6] (fun i wr => ∃ k : Nat, k ≤ m ∧ i = .int .i64 k ∧ Below w10.heap.size w10 wr) (fun i _ => m - (intOf i).toNat)
        case atStart => exact ⟨0, by omega, rfl, Below.refl _ _⟩
        case round =>
          obtain ⟨k, hk, rfl, hb⟩ := hrel
          by_cases hlt : k < m
          · have hki : (k : Int) < (m : Int) := by omega
            have hlc : k < C.length := by rw [HL.out.1]; exact hlt
            obtain ⟨b, off, rfl, hbb, a3, m3, c3', hcl, hl3, _, hrl3⟩ := RdC.at_ (RdC.next HR.out.1 hb) HL.out.1 hlt
            have HRW := Lib.hid (And.intro hrl3 (And.intro (RdG.next HR.out.2.1 hb) (Rd1.next HR.out.2.2.1 hb)))
            have HL3 := Lib.hid hl3
            have hmv := maV_ok (l := at0 C k) ((VC_of HV.out).2 k hlc).1 HVM.out
            have hin : decide ((k : Int) ∈ pl) = matL (at0 C k) want := by rw [← HG.out]; exact slV_mem HV.out HVM.out hlc
            have q0 := kin_cell hcl hbb
            have HBB := Lib.hid hb
            clear hl3 hcl hrl3 hb
            rcases hz : matL (at0 C k) want with _ | _
            all_goals
              have HIN := Lib.hid (hin.trans hz)
              have HMV := Lib.hid (hmv.trans hz)
              clear hz hin hmv
              go_wp2_with fail
              refine wp_region_kin (by kernel_rfl) (by kernel_rfl) ?_
              repeat (go_big_quiet_step ((first | (go_at_call 48; exact kin_same (isIn_v A3 _ c3 _ _ _ _ rfl HSL.out (kin_rd1 HRW.out.2.2 _) HIN)) | (go_at_call 49; exact kin_call (matchesAll_v a3 m3 c3' (at0 C k) _ _ _ want _ _ HL3.out HL.out.2.2.1 (kin_rd HRW.out.1 _) (kin_rd HRW.out.2.1 _) HMV)))))
              refine wpQuiet_nil ?_
              intro _ hw'
              obtain ⟨⟨wq, hq⟩, hw''⟩ := hw'
              subst hw''
              have hb2 := kept_trans HBB.out hq
              clear q0 hq
              go_wp2
              go_roundw
              case rel => exact ⟨k + 1, by omega, by go_num, hb2⟩
              case measure => simp [intOf]; omega
          · have hrd12 := RdC.next HR.out.1 hb
            have hb12 := kept_trans HR.out.2.2.2 hb
            have HLEN := Lib.hid (show (slV C [] (fun l => matL l [])).length = m by rw [slV_nilLen HV.out, HL.out.1])
            clear hb
            go_wp2_with fail
            refine (selectSeries_any A2 m c2 C none 0 0 [] _ HL.out.1 hcap rfl hrd12 (RdG.nil _ _ _ _ rfl)).mono ?_
            rintro e w12 ⟨A6, c6, rfl, hown6, hb13⟩
            rw [HLEN.out]
            have hb14 := kept_trans hb12 hb13
            have hmm : ((m : Int) == (m : Int)) = true := by simp
            clear hrd12 hown6 hb12 hb13
            go_wp2
            go_ret
            exact ⟨rfl, hb14⟩
set_option maxHeartbeats 8000000 in
set_option maxRecDepth 100000 in
theorem fnSelectSeriesMore_any (A : Option Addr) (n c : Nat) (w : World) (hm : n ≤ 9223372036854775807) (hc : n ≤ c) (hr : RdB w w.heap.size A n) :
    Calls Try.prog 11 #[.slice A n c] w fun e w' => e = .returned (.bool true) ∧ Below w.heap.size w w' := by
  by_cases hbig : (1048576 : Int) < n
  · go_enter Try.func11, Try.ntmps11
    go_wp2
    go_ret
    exact ⟨rfl, Below.refl _ _⟩
  · go_enter Try.func11, Try.ntmps11
    go_wp2_with fail
    refine (drawSelectSeries_any A n c _ hm hc hr).mono ?_
    rintro e w1 ⟨A2, c2, m, C, B2, d2, q, want, rfl, hC, hm2, hcap, hsz, hq, hq2, hqd, hszm, hrd, hrn, hb1⟩
    have HL := Lib.hid (And.intro hC (And.intro hsz (And.intro hq hszm)))
    have hsl := slV_len (C := C) (want := want) (f := fun l => matL l want)
    have HSL := Lib.hid (show (slV C want (fun l => matL l want)).length ≤ 1000000000000 by rw [hC] at hsl; omega)
    clear hC hr hsz hq hszm hsl
    go_wp2_with fail
    refine (selectSeries_any A2 m c2 C B2 q d2 want _ HL.out.1 hcap HL.out.2.2.1 hrd hrn).mono ?_
    rintro e w2 ⟨A3, c3, rfl, hown3, hb2⟩
    have hb3 := kept_trans hb1 hb2
    have hrd3 := RdC.next hrd hb2
    have hrn3 := RdG.next hrn hb2
    have hri3 := own_rd1 hown3 rfl
    clear hb1 hb2 hrd hrn hown3
    go_wp2_with fail
    refine (specSelectSeries_any A2 m c2 C B2 q d2 want _ HL.out.1 hcap HL.out.2.2.1 (by omega) (by omega) (slN_t HL.out.2.1) HL.out.2.2.2 hrd3 hrn3).mono ?_
    rintro e w4 ⟨A4, c4, rfl, hown4, hb4⟩
    have hb5 := kept_trans hb3 hb4
    have hrd5 := RdC.next hrd3 hb4
    have hrn5 := RdG.next hrn3 hb4
    have hri5 := Rd1.next hri3 hb4
    have hrj5 := own_rd1 hown4 rfl
    clear hb3 hb4 hrd3 hrn3 hri3 hown4
    go_wp2_with fail
    refine (equalInts_any A3 _ c3 _ A4 _ c4 (slV C want (fun l => matL l want)) _ rfl rfl HSL.out hri5 hrj5).mono ?_
    rintro e w6 ⟨rfl, hb6⟩
    rw [eqI_refl]
    have hb7 := kept_trans hb5 hb6
    have hrd7 := RdC.next hrd5 hb6
    have hrn7 := RdG.next hrn5 hb6
    have hri7 := Rd1.next hri5 hb6
    clear hb5 hb6 hrd5 hrn5 hri5 hrj5
    have HSE := Lib.hid (show (slV C want (fun l => matL l want)).length = (slV C want (fun l => matL l want)).length from rfl)
    generalize hgp : slV C want (fun l => matL l want) = pl at HSL hri7 HSE
    have HG := Lib.hid hgp
    clear hgp
    generalize hgl : pl.length = z at *
    have HGL := Lib.hid hgl
    clear hgl HSE
    by_cases hz0 : z = 0
    · have hzz : ((z : Int) == 0) = true := by simp [hz0]
      clear hz0
      go_wp2_with fail
      refine (specSelectSeries_any A2 m c2 C B2 q d2 want _ HL.out.1 hcap HL.out.2.2.1 (by omega) (by omega) (slN_t HL.out.2.1) HL.out.2.2.2 hrd7 hrn7).mono ?_
      rw [HG.out]
      rintro e w12 ⟨A5, c5, rfl, hown5, hb12⟩
      have hb13 := kept_trans hb7 hb12
      have hri13 := Rd1.next hri7 hb12
      have hrj13 := own_rd1 hown5 rfl
      clear hb7 hb12 hrd7 hrn7 hri7 hown5
      rw [HGL.out]
      go_wp2_with fail
      refine (equalInts_any A3 _ c3 pl A5 _ c5 pl _ HGL.out HGL.out HSL.out hri13 hrj13).mono ?_
      rintro e w14 ⟨rfl, hb14⟩
      rw [eqI_refl]
      go_wp2
      go_ret
      exact ⟨rfl, kept_trans hb13 hb14⟩
    · have hzz : ((z : Int) == 0) = false := by simp [hz0]
      have HV := Lib.hid (slV_pos (C := C) (want := want) (f := fun l => matL l want) (by rw [HG.out, HGL.out]; exact hz0))
      by_cases hq0 : q = 0
      · have hqz : ((q : Int) == 0) = true := by simp [hq0]
        clear hq0 hz0
        go_wp2_with fail
        refine (specSelectSeries_any A2 m c2 C B2 q d2 want _ HL.out.1 hcap HL.out.2.2.1 (by omega) (by omega) (slN_t HL.out.2.1) HL.out.2.2.2 hrd7 hrn7).mono ?_
        rw [HG.out]
        rintro e w12 ⟨A5, c5, rfl, hown5, hb12⟩
        have hb13 := kept_trans hb7 hb12
        have hri13 := Rd1.next hri7 hb12
        have hrj13 := own_rd1 hown5 rfl
        clear hb7 hb12 hrd7 hrn7 hri7 hown5
        rw [HGL.out]
        go_wp2_with fail
        refine (equalInts_any A3 _ c3 pl A5 _ c5 pl _ HGL.out HGL.out HSL.out hri13 hrj13).mono ?_
        rintro e w14 ⟨rfl, hb14⟩
        rw [eqI_refl]
        go_wp2
        go_ret
        exact ⟨rfl, kept_trans hb13 hb14⟩
      · have hqz : ((q : Int) == 0) = false := by simp [hq0]
        have hln : 0 < want.length := by rw [HL.out.2.2.1]; omega
        have hd1 : (1 : Int) ≤ (d2 : Int) := by omega
        have hrm := rdM_head hrn7 hln
        have HSUB := Lib.hid (fun x hx => slV_more (C := C) (want := want) (x := x) HV.out.1 HV.out.2 hln hx)
        have HS1 := Lib.hid (show (slV C [at0 want 0] (fun l => matL l [at0 want 0])).length ≤ 1000000000000 by
          have := slV_len (C := C) (want := [at0 want 0]) (f := fun l => matL l [at0 want 0]); rw [HL.out.1] at this; omega)
        clear hq0 hz0
        go_wp2_with fail
        refine (selectSeries_any A2 m c2 C _ 1 d2 [at0 want 0] _ HL.out.1 hcap rfl hrd7 hrm).mono ?_
        rintro e w8 ⟨A5, c5, rfl, hown5, hb8⟩
        have hb9 := kept_trans hb7 hb8
        have hri9 := Rd1.next hri7 hb8
        have hrj9 := own_rd1 hown5 rfl
        have HR := Lib.hid (And.intro hri9 (And.intro hrj9 hb9))
        clear hb7 hb8 hri7 hrd7 hrn7 hrm hown5 hri9 hrj9 hb9
        generalize hgp2 : slV C [at0 want 0] (fun l => matL l [at0 want 0]) = pl2 at HS1 HR
        have HG2 := Lib.hid hgp2
        clear hgp2
        go_wp2
        go_loopw [7] (fun i wr => ∃ k : Nat, k ≤ z ∧ i = .int .i64 k ∧ Below w8.heap.size w8 wr) (fun i _ => z - (intOf i).toNat)
        case atStart => exact ⟨0, by omega, rfl, Below.refl _ _⟩
        case round =>
          obtain ⟨k, hk, rfl, hb⟩ := hrel
          have hzb : z ≤ 1000000000000 := HSL.out
          by_cases hlt : k < z
          · have hki : (k : Int) < (z : Int) := by omega
            have hlc : k < pl.length := by rw [HGL.out]; exact hlt
            obtain ⟨b, off, rfl, hbb, hc⟩ := (Rd1.next HR.out.1 hb).at_ (by rw [HGL.out]; omega)
            have hc0 := hc k hlc
            have HIN := Lib.hid (show decide (xi pl k ∈ pl2) = true by rw [← HG2.out]; exact decide_eq_true (HSUB.out _ (by rw [HG.out]; exact xi_mem hlc)))
            have hrj := Rd1.next HR.out.2.1 hb
            clear hc
            go_wp2_with fail
            refine (isIn_any A5 _ c5 _ _ _ rfl HS1.out hrj).mono ?_
            rintro e w9 ⟨rfl, rfl⟩
            rw [HIN.out]
            clear hc0 hrj
            go_wp2
            go_roundw
            case rel => exact ⟨k + 1, by omega, by go_num, hb⟩
            case measure => simp [intOf]; omega
          · have hb9 := kept_trans HR.out.2.2 hb
            go_wp2
            go_ret
            exact ⟨rfl, hb9⟩
end Go.Proofs.Ytmnfcfhnmndakaa
