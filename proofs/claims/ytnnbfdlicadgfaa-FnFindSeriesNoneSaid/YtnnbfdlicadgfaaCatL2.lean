/-
  Walks: FnFindSeries, FnFindSeriesNone.
-/
import Derived.Test.YtnnbfdlicadgfaaCatGen2
import Derived.Test.YtnnbfdlicadgfaaEqL
namespace Go.Proofs.Ytnnbfdlicadgfaa
open Go.RowKit
theorem SzN.t {C : Ct} (h : SzN C) : SzR C 1000000000000 := SzR.mono h (by omega)
theorem fsV_own {C : Ct} (h : vC C = true) {k : Nat} (hk : k < C.length) : fsV C (at0 C k) = k := by
  rw [fsV_ok h ((VC_of h).2 k hk).1]; exact vC_own h hk
theorem fsV_cases (C : Ct) (l : List Lb) : fsV C l < 0 ∨ ∃ k, k < C.length ∧ fsV C l = ((k : Nat) : Int) ∧ at0 C k = l := by
  by_cases h : vC C = true ∧ vL l = true
  · rw [fsV_ok h.1 h.2]
    rcases plc_cases C l with ⟨h1, _⟩ | ⟨k, hk, h1, _, h2⟩
    · exact .inl (by omega)
    · exact .inr ⟨k, hk, h1, h2⟩
  · exact .inl (by unfold fsV; rw [if_neg h]; omega)
set_option maxHeartbeats 4000000 in
set_option maxRecDepth 100000 in
theorem fnFindSeries_any (A : Option Addr) (n c : Nat) (w : World) (hm : n ≤ 9223372036854775807) (hc : n ≤ c) (hr : RdB w w.heap.size A n) :
    Calls Try.prog 11 #[.slice A n c] w fun e w' => e = .returned (.bool true) ∧ Below w.heap.size w w' := by
  by_cases hbig : (1048576 : Int) < n
  · go_enter Try.func11, Try.ntmps11
    go_wp2
    go_ret
    exact ⟨rfl, Below.refl _ _⟩
  · go_enter Try.func11, Try.ntmps11
    go_wp2_with fail
    refine (drawFindSeries_any A n c _ hm hc hr).mono ?_
    rintro e w1 ⟨A2, c2, m, C, B2, d2, q, l, rfl, hC, hm2, hcap, hsz, hl, hq2, hqd, hszl, hrd, hrl, hb1⟩
    have HL := Lib.hid (And.intro hC (And.intro hsz (And.intro hl hszl)))
    clear hC hr hsz hl hszl
    go_wp2_with fail
    refine (findSeries_any A2 m c2 C B2 q d2 l _ HL.out.1 HL.out.2.2.1 hcap hrd hrl).mono ?_
    rintro e w2 ⟨rfl, hb2⟩
    have hb3 := kept_trans hb1 hb2
    have hrd3 := RdC.next hrd hb2
    have hrl3 := RdG.next hrl hb2
    clear hb1 hb2 hrd hrl
    go_wp2_with fail
    refine (specFindSeries_any A2 m c2 C B2 q d2 l _ HL.out.1 HL.out.2.2.1 hcap (by omega) (by omega) HL.out.2.1.t HL.out.2.2.2 hrd3 hrl3).mono ?_
    rintro e w4 ⟨rfl, hb4⟩
    have hb5 := kept_trans hb3 hb4
    have hrd5 := RdC.next hrd3 hb4
    have hrl5 := RdG.next hrl3 hb4
    clear hb3 hb4 hrd3 hrl3
    go_wp2_with fail
    refine (validCatalog_any A2 m c2 C _ HL.out.1 hcap hrd5).mono ?_
    rintro e w6 ⟨rfl, hb6⟩
    have hb7 := kept_trans hb5 hb6
    have hrd7 := RdC.next hrd5 hb6
    have hrl7 := RdG.next hrl5 hb6
    clear hb5 hb6 hrd5 hrl5
    rcases hv : vC C with _ | _
    · clear hv
      go_wp2_with fail
      refine (specFindSeries_any A2 m c2 C B2 q d2 l _ HL.out.1 HL.out.2.2.1 hcap (by omega) (by omega) HL.out.2.1.t HL.out.2.2.2 hrd7 hrl7).mono ?_
      rintro e w8 ⟨rfl, hb8⟩
      go_wp2
      go_ret
      exact ⟨rfl, kept_trans hb7 hb8⟩
    · have HV := Lib.hid hv
      have HR := Lib.hid (And.intro hrd7 (And.intro hrl7 hb7))
      clear hv hrd7 hrl7 hb7
      rcases fsV_cases C l with hF | ⟨kk, hkk, hF, hat⟩
      all_goals
        have HF := Lib.hid hF
        go_wp2
        go_loopw [6] (fun i wr => ∃ k : Nat, k ≤ m ∧ i = .int .i64 k ∧ Below w6.heap.size w6 wr) (fun i _ => m - (intOf i).toNat)
        case atStart => exact ⟨0, by omega, rfl, Below.refl _ _⟩
        case round =>
          obtain ⟨k, hk, rfl, hb⟩ := hrel
          by_cases hlt : k < m
          · have hki : (k : Int) < (m : Int) := by omega
            have hlc : k < C.length := by rw [HL.out.1]; exact hlt
            have hrc := RdC.next HR.out.1 hb
            obtain ⟨b, off, rfl, hbb, a3, m3, c3, hcl, hl3, _, hrl3⟩ := RdC.at_ hrc HL.out.1 hlt
            have HO := Lib.hid (fsV_own HV.out hlc)
            have HL3 := Lib.hid hl3
            clear hl3
            go_wp2_with fail
            refine (findSeries_any _ m c2 C a3 m3 c3 (at0 C k) _ HL.out.1 HL3.out hcap hrc hrl3).mono ?_
            rintro e w8 ⟨rfl, hb8⟩
            rw [HO.out]
            have hb9 := kept_trans hb hb8
            clear hb hb8 hrc hrl3 hcl
            go_wp2
            go_roundw
            case rel => exact ⟨k + 1, by omega, by go_num, hb9⟩
            case measure => simp [intOf]; omega
          · first
              | (have hneg : fsV C l < 0 := HF.out
                 have hb9 := kept_trans HR.out.2.2 hb
                 go_wp2
                 go_ret
                 exact ⟨rfl, hb9⟩)
              | (have hkm : kk < m := by rw [← HL.out.1]; exact hkk
                 have hrc := RdC.next HR.out.1 hb
                 have hrl := RdG.next HR.out.2.1 hb
                 obtain ⟨b, off, rfl, hbb, a3, m3, c3, hcl, hl3, _, hrl3⟩ := RdC.at_ hrc HL.out.1 hkm
                 have HL3 := Lib.hid hl3
                 have hm3 : m3 ≤ 1000000000000 := by rw [← hl3]; exact (HL.out.2.1.t kk hkk).2
                 have HE := Lib.hid (show eqLs (at0 C kk) l = true from decide_eq_true hat)
                 have hki : (kk : Int) < (m : Int) := by omega
                 have hk0 : (0 : Int) ≤ (kk : Int) := by omega
                 have hk1 : ¬ (kk : Int) < 0 := by omega
                 clear hl3 hF hat
                 go_wp2_with fail
                 refine (equalLabels_any a3 m3 c3 (at0 C kk) B2 q d2 l _ HL3.out HL.out.2.2.1 hm3 hrl3 hrl).mono ?_
                 rintro e w8 ⟨rfl, hb8⟩
                 rw [HE.out]
                 have hb9 := kept_trans HR.out.2.2 (kept_trans hb hb8)
                 clear hb hb8 hrc hrl hrl3 hcl
                 go_wp2
                 go_ret
                 exact ⟨rfl, hb9⟩)
/-- Whether one of the first k is equal. -/
def someC (C : Ct) (l : List Lb) (k : Nat) : Bool := !decide (noC C l k)
theorem someC_zero (C : Ct) (l : List Lb) : someC C l 0 = false := by unfold someC; rw [decide_eq_true (noC_zero C l)]; rfl
theorem someC_no {C : Ct} {l : List Lb} {k : Nat} (h : someC C l k = false) : noC C l k := by unfold someC at h; simpa using h
theorem someC_next {C : Ct} {l : List Lb} {k : Nat} (h : someC C l k = false) : someC C l (k + 1) = eqLs (at0 C k) l := by
  have hn := someC_no h
  unfold someC eqLs
  by_cases he : at0 C k = l
  · rw [decide_eq_true he, decide_eq_false (fun hc => hc k (by omega) he)]; rfl
  · rw [decide_eq_false he, decide_eq_true (noC_succ hn he)]; rfl
theorem someC_yes {C : Ct} {l : List Lb} {k : Nat} (h : someC C l k = true) : someC C l (k + 1) = true := by
  unfold someC at h ⊢
  have h1 : ¬ noC C l k := by simpa using h
  rw [decide_eq_false (fun hc => h1 (noC_le hc (by omega)))]; rfl
theorem someC_end {C : Ct} {l : List Lb} {k : Nat} (hv : vC C = true) (hl : vL l = true) (hk : C.length = k) : someC C l k = decide (0 ≤ fsV C l) := by
  subst hk
  rw [fsV_ok hv hl]
  unfold someC
  rcases plc_cases C l with ⟨h1, h2⟩ | ⟨j, hj, h1, _, h2⟩
  · rw [decide_eq_true h2, decide_eq_false (by omega)]; rfl
  · rw [decide_eq_false (fun hc => hc j hj h2), decide_eq_true (by omega)]; rfl
set_option maxHeartbeats 4000000 in
set_option maxRecDepth 100000 in
theorem fnFindSeriesNone_any (A : Option Addr) (n c : Nat) (w : World) (hm : n ≤ 9223372036854775807) (hc : n ≤ c) (hr : RdB w w.heap.size A n) :
    Calls Try.prog 12 #[.slice A n c] w fun e w' => e = .returned (.bool true) ∧ Below w.heap.size w w' := by
  by_cases hbig : (1048576 : Int) < n
  · go_enter Try.func12, Try.ntmps12
    go_wp2
    go_ret
    exact ⟨rfl, Below.refl _ _⟩
  · go_enter Try.func12, Try.ntmps12
    go_wp2_with fail
    refine (drawFindSeries_any A n c _ hm hc hr).mono ?_
    rintro e w1 ⟨A2, c2, m, C, B2, d2, q, l, rfl, hC, hm2, hcap, hsz, hl, hq2, hqd, hszl, hrd, hrl, hb1⟩
    have HL := Lib.hid (And.intro hC (And.intro hsz (And.intro hl hszl)))
    clear hC hr hsz hl hszl
    go_wp2_with fail
    refine (findSeries_any A2 m c2 C B2 q d2 l _ HL.out.1 HL.out.2.2.1 hcap hrd hrl).mono ?_
    rintro e w2 ⟨rfl, hb2⟩
    have hb3 := kept_trans hb1 hb2
    have hrd3 := RdC.next hrd hb2
    have hrl3 := RdG.next hrl hb2
    clear hb1 hb2 hrd hrl
    go_wp2_with fail
    refine (specFindSeries_any A2 m c2 C B2 q d2 l _ HL.out.1 HL.out.2.2.1 hcap (by omega) (by omega) HL.out.2.1.t HL.out.2.2.2 hrd3 hrl3).mono ?_
    rintro e w4 ⟨rfl, hb4⟩
    have hb5 := kept_trans hb3 hb4
    have hrd5 := RdC.next hrd3 hb4
    have hrl5 := RdG.next hrl3 hb4
    clear hb3 hb4 hrd3 hrl3
    go_wp2_with fail
    refine (validCatalog_any A2 m c2 C _ HL.out.1 hcap hrd5).mono ?_
    rintro e w6 ⟨rfl, hb6⟩
    have hb7 := kept_trans hb5 hb6
    have hrd7 := RdC.next hrd5 hb6
    have hrl7 := RdG.next hrl5 hb6
    clear hb5 hb6 hrd5 hrl5
    rcases hv : vC C with _ | _
    · clear hv
      go_wp2_with fail
      refine (specFindSeries_any A2 m c2 C B2 q d2 l _ HL.out.1 HL.out.2.2.1 hcap (by omega) (by omega) HL.out.2.1.t HL.out.2.2.2 hrd7 hrl7).mono ?_
      rintro e w8 ⟨rfl, hb8⟩
      go_wp2
      go_ret
      exact ⟨rfl, kept_trans hb7 hb8⟩
    · have HV := Lib.hid hv
      clear hv
      go_wp2_with fail
      refine (validLabels_any B2 q d2 l _ HL.out.2.2.1 hrl7).mono ?_
      rintro e w8 ⟨rfl, hb8⟩
      have hb9 := kept_trans hb7 hb8
      have hrd9 := RdC.next hrd7 hb8
      have hrl9 := RdG.next hrl7 hb8
      clear hb7 hb8 hrd7 hrl7
      rcases hvl : vL l with _ | _
      · clear hvl
        go_wp2_with fail
        refine (specFindSeries_any A2 m c2 C B2 q d2 l _ HL.out.1 HL.out.2.2.1 hcap (by omega) (by omega) HL.out.2.1.t HL.out.2.2.2 hrd9 hrl9).mono ?_
        rintro e w10 ⟨rfl, hb10⟩
        go_wp2
        go_ret
        exact ⟨rfl, kept_trans hb9 hb10⟩
      · have HVL := Lib.hid hvl
        have HR := Lib.hid (And.intro hrd9 (And.intro hrl9 hb9))
        clear hvl hrd9 hrl9 hb9
        go_wp2
        go_loopw [6, 7] (fun v i wr => ∃ k : Nat, k ≤ m ∧ v = .bool (someC C l k) ∧ i = .int .i64 k ∧ Below w8.heap.size w8 wr) (fun _ i _ => m - (intOf i).toNat)
        case atStart => exact ⟨0, by omega, by rw [someC_zero], rfl, Below.refl _ _⟩
        case round =>
          obtain ⟨k, hk, rfl, rfl, hb⟩ := hrel
          by_cases hlt : k < m
          · have hki : (k : Int) < (m : Int) := by omega
            have hlc : k < C.length := by rw [HL.out.1]; exact hlt
            rcases hs : someC C l k with _ | _
            · have hrc := RdC.next HR.out.1 hb
              have hrl := RdG.next HR.out.2.1 hb
              obtain ⟨b, off, rfl, hbb, a3, m3, c3, hcl, hl3, _, hrl3⟩ := RdC.at_ hrc HL.out.1 hlt
              have HL3 := Lib.hid hl3
              have hm3 : m3 ≤ 1000000000000 := by rw [← hl3]; exact (HL.out.2.1.t k hlc).2
              have HN := Lib.hid (someC_next hs)
              clear hl3 hs
              go_wp2_with fail
              refine (equalLabels_any a3 m3 c3 (at0 C k) B2 q d2 l _ HL3.out HL.out.2.2.1 hm3 hrl3 hrl).mono ?_
              rintro e w10 ⟨rfl, hb10⟩
              rw [← HN.out]
              have hb11 := kept_trans hb hb10
              clear hb hb10 hrc hrl hrl3 hcl
              go_wp2
              go_roundw
              case rel => exact ⟨k + 1, by omega, rfl, by go_num, hb11⟩
              case measure => simp [intOf]; omega
            · have HN := Lib.hid (someC_yes hs)
              clear hs
              go_wp2
              go_roundw
              case rel => exact ⟨k + 1, by omega, by rw [HN.out], by go_num, hb⟩
              case measure => simp [intOf]; omega
          · have hs := someC_end (k := k) HV.out HVL.out (by rw [HL.out.1]; omega)
            have hb11 := kept_trans HR.out.2.2 hb
            by_cases h0 : 0 ≤ fsV C l
            · rw [decide_eq_true h0] at hs
              rw [hs]
              clear hs
              go_wp2
              go_ret
              exact ⟨rfl, hb11⟩
            · rw [decide_eq_false h0] at hs
              rw [hs]
              clear hs
              go_wp2
              go_ret
              exact ⟨rfl, hb11⟩
end Go.Proofs.Ytnnbfdlicadgfaa
