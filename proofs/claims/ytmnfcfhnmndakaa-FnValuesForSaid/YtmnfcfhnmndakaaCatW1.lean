/-
  Walks: slices.Equal at labels, sameLabels, slices.IndexFunc, placeOfLabels, ValidCatalog.
-/
import Derived.Test.YtmnfcfhnmndakaaCatFn
import Derived.Test.YtmnfcfhnmndakaaLabW2
namespace Go.Proofs.Ytmnfcfhnmndakaa
open Go.RowKit
set_option maxHeartbeats 2000000 in
theorem slEqual_any (A : Option Addr) (n c : Nat) (l : List Lb) (A' : Option Addr) (n' c' : Nat) (l' : List Lb) (w : World) (hn : l.length = n) (hn' : l'.length = n') (hm : n ≤ 1000000000000)
    (hr : RdL w w.heap.size A l) (hr' : RdL w w.heap.size A' l') :
    Calls Try.prog 105 #[.slice A n c, .slice A' n' c'] w fun e w' => e = .returned (.bool (eqLs l l')) ∧ Below w.heap.size w w' := by
  have HN := Lib.hid hn
  have HN' := Lib.hid hn'
  clear hn hn'
  by_cases hl : n = n'
  · have hz : ((n : Int) != (n' : Int)) = false := by simp [hl]
    have HL := Lib.hid hl
    clear hl
    go_enter Try.func105, Try.ntmps105
    go_wp2
    go_loopw [13] (fun i wr => ∃ k : Nat, k ≤ n ∧ i = .int .i64 k ∧ sameL l l' k ∧ Below w.heap.size w wr) (fun i _ => n - (intOf i).toNat)
    case atStart => exact ⟨0, by omega, rfl, sameL_zero _ _, Below.refl _ _⟩
    case round =>
      obtain ⟨k, hk, rfl, hs, hb⟩ := hrel
      have HS := Lib.hid hs
      clear hs
      by_cases hlt : k < n
      · have hki : (k : Int) < (n : Int) := by omega
        have hki' : (k : Int) < (n' : Int) := by rw [← HL.out]; omega
        obtain ⟨b, off, rfl, hbb, hc⟩ := hr.at_ (by rw [HN.out]; omega)
        obtain ⟨b', off', rfl, hbb', hc'⟩ := hr'.at_ (by rw [HN'.out, ← HL.out]; omega)
        obtain ⟨hc0, hc1⟩ := hc k (by rw [HN.out]; exact hlt)
        obtain ⟨hd0, hd1⟩ := hc' k (by rw [HN'.out, ← HL.out]; exact hlt)
        rw [← hb.cell (by exact hbb)] at hc0 hc1
        rw [← hb.cell (by exact hbb')] at hd0 hd1
        clear hc hc' hr hr'
        by_cases he : at0 l k = at0 l' k
        · have HE := Lib.hid he
          rw [← he] at hd0 hd1
          have e1 := eqB_walk (eqB_refl (at0 l k).1)
          have e2 := eqB_walk (eqB_refl (at0 l k).2)
          clear he
          go_wp2_with fail
          go_quiet (fail)
          go_wp2
          go_roundw
          case rel => exact ⟨k + 1, by omega, by go_num, sameL_succ HS.out HE.out, kept_drewN hb _⟩
          case measure => simp [intOf]; omega
        · have HE := Lib.hid (eqLs_bad he)
          by_cases h1 : (at0 l k).1 = (at0 l' k).1
          · have h2 : (at0 l k).2 ≠ (at0 l' k).2 := fun h => he (Prod.ext h1 h)
            rw [← h1] at hd0
            have e1 := eqB_walk (eqB_refl (at0 l k).1)
            have e2 := eqB_ne h2
            clear he h1 h2
            go_wp2_with fail
            go_quiet (fail)
            go_wp2
            go_ret
            exact ⟨ret_bool HE.out.symm, kept_drewN hb _⟩
          · have e1 := eqB_ne h1
            clear he h1
            go_wp2_with fail
            go_quiet (fail)
            go_wp2
            go_ret
            exact ⟨ret_bool HE.out.symm, kept_drewN hb _⟩
      · have HX := Lib.hid (eqLs_of HS.out (by rw [HN.out]; omega) (by rw [HN.out, HN'.out]; exact HL.out))
        clear hr hr'
        go_wp2
        go_ret
        exact ⟨ret_bool HX.out.symm, hb⟩
  · have hz : ((n : Int) != (n' : Int)) = true := by simp; omega
    have HX := Lib.hid (eqLs_len (l := l) (l' := l') (by rw [HN.out, HN'.out]; exact hl))
    clear hl
    go_enter Try.func105, Try.ntmps105
    go_wp2
    go_ret
    exact ⟨ret_bool HX.out.symm, Below.refl _ _⟩
theorem sameLabels_any (A : Option Addr) (n c : Nat) (l : List Lb) (A' : Option Addr) (n' c' : Nat) (l' : List Lb) (w : World) (hn : l.length = n) (hn' : l'.length = n') (hm : n ≤ 1000000000000)
    (hr : RdL w w.heap.size A l) (hr' : RdL w w.heap.size A' l') :
    Calls Try.prog 90 #[.slice A n c, .slice A' n' c'] w fun e w' => e = .returned (.bool (eqLs l l')) ∧ Below w.heap.size w w' := by
  go_enter Try.func90, Try.ntmps90
  go_wp2_with fail
  refine (slEqual_any A n c l A' n' c' l' _ hn hn' hm hr hr').mono ?_
  rintro e w1 ⟨rfl, hb⟩
  go_wp2
  go_ret
  exact ⟨rfl, hb⟩
set_option maxHeartbeats 1000000 in
theorem placeCl_any (A : Option Addr) (n c : Nat) (l : List Lb) (g : Nat) (B : Option Addr) (m d : Nat) (l' : List Lb) (w : World) (hn : l.length = n) (hm : l'.length = m) (hn2 : n ≤ 1000000000000)
    (hr : RdL w w.heap.size A l) (hr' : RdL w w.heap.size B l') (hg : w.cell? ⟨g, 0, none⟩ = some (.slice B m d)) :
    Calls Try.prog 89 #[.slice A n c, .pointer (some ⟨g, 0, none⟩)] w fun e w' => e = .returned (.bool (eqLs l l')) ∧ Below w.heap.size w w' := by
  go_enter Try.func89, Try.ntmps89
  go_wp2_with fail
  refine (sameLabels_any A n c l B m d l' _ hn hm hn2 hr hr').mono ?_
  rintro e w1 ⟨rfl, hb⟩
  go_wp2
  go_ret
  exact ⟨rfl, hb⟩
set_option maxHeartbeats 1000000 in
theorem indexFunc_any (A : Option Addr) (n c : Nat) (C : Ct) (g : Nat) (B : Option Addr) (m d : Nat) (l : List Lb) (w : World) (hn : C.length = n) (hm : l.length = m) (hn2 : n ≤ 1000000000000) (hsz : ∀ i, i < n → (at0 C i).length ≤ 1000000000000)
    (hr : RdC w w.heap.size A C) (hr' : RdL w w.heap.size B l) (hg : w.cell? ⟨g, 0, none⟩ = some (.slice B m d)) (hgl : g < w.heap.size) :
    Calls Try.prog 88 #[.slice A n c, .func (.func 89) #[] #[.pointer (some ⟨g, 0, none⟩)]] w fun e w' => e = .returned (.int .i64 (plc C l)) ∧ Below w.heap.size w w' := by
  have HN := Lib.hid hn
  have HM := Lib.hid hm
  have HZ := Lib.hid hsz
  have HR := Lib.hid hr
  have HR' := Lib.hid hr'
  have HG := Lib.hid hg
  clear hn hm hsz hr hr' hg
  go_enter Try.func88, Try.ntmps88
  go_wp2
  go_loopw [8] (fun i wr => ∃ k : Nat, k ≤ n ∧ i = .int .i64 k ∧ noC C l k ∧ Below w.heap.size w wr) (fun i _ => n - (intOf i).toNat)
  case atStart => exact ⟨0, by omega, rfl, noC_zero C l, Below.refl _ _⟩
  case round =>
    obtain ⟨k, hk, rfl, hs, hb⟩ := hrel
    have HS := Lib.hid hs
    clear hs
    by_cases hlt : k < n
    · have hki : (k : Int) < (n : Int) := by omega
      obtain ⟨b, off, rfl, hbb, a2, m2, c2, hc, hl2, _, hrl⟩ := RdC.at_ (RdC.next HR.out hb) HN.out hlt
      have hgc := (hb.cell (p := ⟨g, 0, none⟩) hgl).trans HG.out
      have hrl' := RdG.next HR'.out hb
      have hm2 : m2 ≤ 1000000000000 := by rw [← hl2]; exact HZ.out k hlt
      have HL2 := Lib.hid hl2
      clear hl2
      go_wp2_with fail
      refine (placeCl_any a2 m2 c2 (at0 C k) g B m d l _ HL2.out HM.out hm2 hrl hrl' hgc).mono ?_
      rintro e w1 ⟨rfl, hb1⟩
      have hb2 := kept_trans hb hb1
      clear hb hb1 hc hrl hrl' hgc
      by_cases he : at0 C k = l
      · have HP := Lib.hid (plc_hit (by rw [HN.out]; exact hlt) HS.out he)
        have hq : eqLs (at0 C k) l = true := decide_eq_true he
        clear he
        rw [hq]
        clear hq
        go_wp2
        go_ret
        exact ⟨ret_int HP.out.symm, hb2⟩
      · have HP := Lib.hid (noC_succ HS.out he)
        have hq : eqLs (at0 C k) l = false := decide_eq_false he
        clear he
        rw [hq]
        clear hq
        go_wp2
        go_roundw
        case rel => exact ⟨k + 1, by omega, by go_num, HP.out, hb2⟩
        case measure => simp [intOf]; omega
    · have HP := Lib.hid (plc_miss HS.out (by rw [HN.out]; omega))
      go_wp2
      go_ret
      exact ⟨ret_int HP.out.symm, hb⟩
theorem placeOf_any (A : Option Addr) (n c : Nat) (C : Ct) (B : Option Addr) (m d : Nat) (l : List Lb) (w : World) (hn : C.length = n) (hm : l.length = m) (hn2 : n ≤ 1000000000000) (hsz : ∀ i, i < n → (at0 C i).length ≤ 1000000000000)
    (hr : RdC w w.heap.size A C) (hr' : RdL w w.heap.size B l) :
    Calls Try.prog 62 #[.slice A n c, .slice B m d] w fun e w' => e = .returned (.int .i64 (plc C l)) ∧ Below w.heap.size w w' := by
  go_enter Try.func62, Try.ntmps62
  go_wp2_with fail
  have hb := kept_alloc (Below.refl w.heap.size w) (Obj.cells #[Value.slice B m d] 33)
  have hg : (w.alloc (Obj.cells #[Value.slice B m d] 33)).cell? ⟨w.heap.size, 0, none⟩ = some (.slice B m d) := by simp
  refine (indexFunc_any A n c C w.heap.size B m d l _ hn hm hn2 hsz (RdC.next hr hb) (RdG.next hr' hb) hg (by simp)).mono ?_
  rintro e w1 ⟨rfl, hb1⟩
  have hb2 := kept_trans hb hb1
  clear hb hb1 hr hr' hg
  go_wp2
  go_ret
  exact ⟨rfl, hb2⟩
set_option maxHeartbeats 1000000 in
theorem validCatalog_any (A : Option Addr) (n c : Nat) (C : Ct) (w : World) (hn : C.length = n) (hc : n ≤ c) (hr : RdC w w.heap.size A C) :
    Calls Try.prog 18 #[.slice A n c] w fun e w' => e = .returned (.bool (vC C)) ∧ Below w.heap.size w w' := by
  have HN := Lib.hid hn
  have HR := Lib.hid hr
  clear hn hr
  by_cases h8 : 8 < n
  · have HZ := Lib.hid (vC_long (C := C) (by rw [HN.out]; exact h8))
    go_enter Try.func18, Try.ntmps18
    go_wp2
    go_ret
    exact ⟨ret_bool HZ.out.symm, Below.refl _ _⟩
  · go_enter Try.func18, Try.ntmps18
    go_wp2
    go_loopw [10] (fun i wr => ∃ k : Nat, k ≤ n ∧ i = .int .i64 k ∧ okCo C k ∧ Below w.heap.size w wr) (fun i _ => n - (intOf i).toNat)
    case atStart => exact ⟨0, by omega, rfl, okCo_zero C, Below.refl _ _⟩
    case round =>
      obtain ⟨k, hk, rfl, hs, hb⟩ := hrel
      have HS := Lib.hid hs
      clear hs
      by_cases hlt : k < n
      · have hki : (k : Int) < (n : Int) := by omega
        have hlc : k < C.length := by rw [HN.out]; exact hlt
        have hrc := RdC.next HR.out hb
        obtain ⟨b, off, rfl, hbb, a2, m2, c2, hcl, hl2, _, hrl⟩ := RdC.at_ hrc HN.out hlt
        have HL2 := Lib.hid hl2
        have HRC := Lib.hid (RdC.take hrc k)
        have HRL := Lib.hid hrl
        clear hl2 hrl
        go_wp2_with fail
        refine (validLabels_any a2 m2 c2 (at0 C k) _ HL2.out HRL.out).mono ?_
        rintro e w1 ⟨rfl, hb1⟩
        have hb2 := kept_trans hb hb1
        have hrc1 := RdC.next HRC.out hb1
        have hrl1 := RdG.next HRL.out hb1
        clear hb hb1 hcl hrc
        rcases hv : vL (at0 C k) with _ | _
        · have HZ := Lib.hid (vC_bad1 hlc hv)
          clear hv
          go_wp2
          go_ret
          exact ⟨ret_bool HZ.out.symm, hb2⟩
        · have HV := Lib.hid hv
          have hk1 : (k : Int) ≤ (c : Int) := by omega
          have hm4 : m2 ≤ 4 := by have := (VL_of hv).1; rw [HL2.out] at this; exact this
          have HT := Lib.hid (show (C.take k).length = k by rw [List.length_take, HN.out]; omega)
          have HZ := Lib.hid (show ∀ i, i < k → (at0 (C.take k) i).length ≤ 1000000000000 from fun i hi => by
            rw [at0_take _ hi]
            have := (VL_of (HS.out i hi).1).1
            omega)
          have HP := Lib.hid (plc_take (C := C) (l := at0 C k) (k := k) (by rw [HN.out]; exact hk))
          have h0c : (0 : Int) ≤ (k : Int) := by omega
          clear hv
          go_wp2_with fail
          refine (placeOf_any _ k c (C.take k) a2 m2 c2 (at0 C k) _ HT.out HL2.out (by omega) HZ.out hrc1 hrl1).mono ?_
          rintro e w2 ⟨rfl, hb3⟩
          have hb4 := kept_trans hb2 hb3
          clear hb2 hb3 hrc1 hrl1
          by_cases hp : plc (C.take k) (at0 C k) < 0
          · have HX := Lib.hid (okCo_succ HS.out HV.out (HP.out.1 hp))
            go_wp2
            go_roundw
            case rel => exact ⟨k + 1, by omega, by go_num, HX.out, hb4⟩
            case measure => simp [intOf]; omega
          · have HX := Lib.hid (vC_bad2 hlc (fun h => hp (HP.out.2 h)))
            have hp2 : 0 ≤ plc (C.take k) (at0 C k) := by omega
            go_wp2
            go_ret
            exact ⟨ret_bool HX.out.symm, hb4⟩
      · have HX := Lib.hid (vC_good (by rw [HN.out]; omega) HS.out (by rw [HN.out]; omega))
        go_wp2
        go_ret
        exact ⟨ret_bool HX.out.symm, hb⟩
end Go.Proofs.Ytmnfcfhnmndakaa
