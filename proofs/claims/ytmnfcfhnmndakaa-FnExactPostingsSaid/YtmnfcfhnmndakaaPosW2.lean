/-
  Walks: Postings of the spec, SelectSeries.
-/
import Derived.Test.YtmnfcfhnmndakaaPosW
namespace Go.Proofs.Ytmnfcfhnmndakaa
open Go.RowKit
/-- One number more, or none. -/
def addN (pre : List Int) (b : Bool) (k : Nat) : List Int := if b then pre ++ [(k : Int)] else pre
theorem addN_no {pre : List Int} {k : Nat} : addN pre false k = pre := rfl
theorem addN_yes {pre : List Int} {k : Nat} : addN pre true k = pre ++ [(k : Int)] := rfl
theorem addN_pos {f : List Lb → Bool} {C : Ct} {k : Nat} {b : Bool} (h : f (at0 C k) = b) : addN (posTo f C k) b k = posTo f C (k + 1) := by
  cases b with
  | false => rw [posTo_no h]; rfl
  | true => rw [posTo_yes h]; rfl
theorem addN_len (pre : List Int) (b : Bool) (k : Nat) : (addN pre b k).length ≤ pre.length + 1 := by
  cases b with
  | false => show pre.length ≤ _; omega
  | true => show (pre ++ [(k : Int)]).length ≤ _; rw [List.length_append, List.length_singleton]; omega
set_option maxHeartbeats 4000000 in
set_option maxRecDepth 100000 in
theorem specPostings_any (A : Option Addr) (n c : Nat) (C : Ct) (x : Lb) (w : World) (hn : C.length = n) (hc : n ≤ c) (hn2 : n ≤ 1000000000000) (hsz : SzR C 1000000000000) (hr : RdC w w.heap.size A C) :
    Calls Try.prog 39 #[.slice A n c, .string x.1, .string x.2] w (RetI w (psV C x)) := by
  have HN := Lib.hid hn
  have HR := Lib.hid hr
  have HSZ := Lib.hid hsz
  clear hn hsz
  obtain ⟨i0, hi, hz0, hz1, hz2⟩ := info_parts Try.infoInt
  have hbE := kept_alloc (Below.refl w.heap.size w) (Obj.cells #[] 3)
  have hrE := RdC.next hr hbE
  rcases hv : vC C with _ | _
  · have HV := Lib.hid hv
    have HZ := Lib.hid (psV_no (x := x) hv)
    clear hv hr
    go_enter Try.func39, Try.ntmps39
    go_wp2_with fail
    refine (specValidCatalog_any A n c C _ HN.out hc hn2 HSZ.out hrE).mono ?_
    rintro e w1 ⟨rfl, hb1⟩
    rw [HV.out]
    have hb2 := kept_trans hbE hb1
    clear hrE hbE hb1
    go_wp2
    go_ret
    exact ⟨none, 0, by rw [HZ.out]; rfl, by rw [HZ.out]; exact World.ownsRow_nil _ _ _ _, hb2⟩
  · have HV := Lib.hid hv
    have HZ := Lib.hid (psV_ok (x := x) hv)
    have hn8 : n ≤ 8 := by have := (VC_of hv).1; rw [HN.out] at this; exact this
    have hO := World.ownsRow_made (e := 3) (size := 1) w #[] 0 (Nat.le_refl _) (by unfold maxLen; omega) rfl
    clear hv hr
    go_enter Try.func39, Try.ntmps39
    go_wp2_with fail
    refine (specValidCatalog_any A n c C _ HN.out hc hn2 HSZ.out hrE).mono ?_
    rintro e w1 ⟨rfl, hb1⟩
    rw [HV.out]
    have HB1 := Lib.hid (kept_trans hbE hb1)
    have HO1 := Lib.hid (own_kept hO hb1)
    clear hrE hbE hb1 hO
    go_wp2
    go_loopw [7, 8] (fun v i wr => ∃ (k : Nat) (A' : Option Addr) (c' z : Nat) (pre : List Int), v = .slice A' z c' ∧ i = .int .i64 k ∧ k ≤ n ∧ pre.length = z ∧ z ≤ k ∧ pre = posTo (fun l => hasL l x) C k ∧ wr.ownsRow w.heap.size 3 1 (.slice A' z c') z (pre.map (Value.int .i64)) ∧ Below w.heap.size w wr) (fun _ i _ => n - (intOf i).toNat)
    case atStart => exact ⟨0, _, _, 0, [], rfl, rfl, by omega, rfl, by omega, rfl, HO1.out, HB1.out⟩
    case round =>
      obtain ⟨k, A', c', z, pre, rfl, rfl, hk, hz, hzk, hpre, hown, hb⟩ := hrel
      have HZl := Lib.hid hz
      have HP := Lib.hid hpre
      have HO2 := Lib.hid (And.intro hown hb)
      clear hz hpre hown hb
      by_cases hlt : k < n
      · have hki : (k : Int) < (n : Int) := by omega
        have hlc : k < C.length := by rw [HN.out]; exact hlt
        have HV3 := Lib.hid ((VC_of HV.out).2 k hlc).1
        go_wp2
        go_loopw [7, 9] (fun v i wr => ∃ (j : Nat) (A' : Option Addr) (c' z : Nat) (pre' : List Int), v = .slice A' z c' ∧ i = .int .i64 j ∧ j ≤ (at0 C k).length ∧ pre'.length = z ∧ z ≤ k + 1 ∧ pre' = addN pre (hasTo (at0 C k) x j) k ∧ wr.ownsRow w.heap.size 3 1 (.slice A' z c') z (pre'.map (Value.int .i64)) ∧ Below w.heap.size w wr) (fun _ i _ => (at0 C k).length - (intOf i).toNat)
        case atStart => exact ⟨0, _, _, z, pre, rfl, rfl, by omega, HZl.out, by omega, by rw [hasTo_zero]; rfl, HO2.out.1, HO2.out.2⟩
        case round =>
          obtain ⟨j, A2, c2, z2, pre2, rfl, rfl, hj, hz2', hzk2, hpre2, hown2', hb2⟩ := hrel
          have HZ2 := Lib.hid hz2'
          have HP2 := Lib.hid hpre2
          obtain ⟨b, off, rfl, hbb, a3, m3, c3, hcl, hl3, _, hrl3⟩ := RdC.at_ (RdC.next HR.out hb2) HN.out hlt
          have HL3 := Lib.hid hl3
          rw [hl3] at hj
          have hm4 : m3 ≤ 4 := by have := (VL_of HV3.out).1; rw [hl3] at this; exact this
          clear hz2' hpre2 hl3
          by_cases hjl : j < m3
          · have hji : (j : Int) < (m3 : Int) := by omega
            have hjc : j < (at0 C k).length := by rw [HL3.out]; exact hjl
            obtain ⟨b3, off3, rfl, hbb3, hc3⟩ := RdL.at_ hrl3 (by rw [HL3.out]; omega)
            obtain ⟨d0, d1⟩ := hc3 j hjc
            have hwr := hb2.size
            clear hc3 hrl3
            by_cases he : at0 (at0 C k) j = x
            · have HH := Lib.hid (And.intro (hasTo_hit hjc he) (hasTo_fresh HV3.out hjc he))
              have HP3 := Lib.hid (show pre2 = pre by rw [HP2.out, HH.out.2]; rfl)
              rw [he] at d0 d1
              have e1 := eqB_walk (eqB_refl x.1)
              have e2 := eqB_walk (eqB_refl x.2)
              have hz3 : z2 ≤ k := by rw [← HZ2.out, HP3.out, HZl.out]; exact hzk
              clear he
              go_wp2_with (at_builtin; refine wpList_append_lies _ rfl _ _ _ rfl (w.heap.size) 3 i0 _ 1 8 Try.underlying30 hi hz0 hz1 hz2 rfl (by omega) _ (z2) (pre2.map (Value.int .i64)) rfl ((hown2').alloc _) ⟨wr.heap.size, 0, none⟩ 1 1 ([.int .i64 k]) rfl rfl (World.news_of_block (cs := ([.int .i64 k]).toArray) (t := 3) (fr := (0, 0)) (heap_alloc_new wr _)) (by simp [Value.oneCell']) (by omega) (by simp only [maxLen]; omega) (by omega) (by simp; omega) (wr.heap.size + 1) (by simp) ?_; intro gg cap w2 hown2 hgrow hat hlt2)
              have hb4 := below_app' hb2 hown2' hgrow
              rw [show pre2.map (Value.int .i64) ++ [Value.int .i64 (k : Int)] = (pre2 ++ [(k : Int)]).map (Value.int .i64) by simp] at hown2
              clear hgrow hat hown2' hb2 hcl d0 d1
              go_wp2
              go_roundw
              case rel => exact ⟨j + 1, _, _, z2 + 1, _, rfl, by go_num, by rw [HL3.out]; omega, by rw [List.length_append, HZ2.out]; rfl, by omega, by rw [HH.out.1, HP3.out]; rfl, hown2, hb4⟩
              case measure => simp [intOf]; rw [HL3.out]; omega
            · have HH := Lib.hid (hasTo_succ hjc he)
              by_cases h1 : (at0 (at0 C k) j).1 = x.1
              · have e2 := eqB_ne (show (at0 (at0 C k) j).2 ≠ x.2 from fun h => he (Prod.ext h1 h))
                have e1 : ((at0 (at0 C k) j).1.toList == x.1.toList) = true := by rw [h1]; exact eqB_walk (eqB_refl x.1)
                clear he h1
                go_wp2
                go_roundw
                case rel => exact ⟨j + 1, _, _, z2, pre2, rfl, by go_num, by rw [HL3.out]; omega, HZ2.out, hzk2, by rw [HH.out]; exact HP2.out, hown2', hb2⟩
                case measure => simp [intOf]; rw [HL3.out]; omega
              · have e1 := eqB_ne h1
                clear he h1
                go_wp2
                go_roundw
                case rel => exact ⟨j + 1, _, _, z2, pre2, rfl, by go_num, by rw [HL3.out]; omega, HZ2.out, hzk2, by rw [HH.out]; exact HP2.out, hown2', hb2⟩
                case measure => simp [intOf]; rw [HL3.out]; omega
          · have HE := Lib.hid (hasTo_end (l := at0 C k) (x := x) (k := j) (by rw [HL3.out]; omega))
            have HQ := Lib.hid (show pre2 = posTo (fun l => hasL l x) C (k + 1) by rw [HP2.out, HE.out, HP.out]; exact addN_pos rfl)
            clear hrl3
            go_wp2
            go_roundw
            case rel => exact ⟨k + 1, _, _, z2, pre2, rfl, by go_num, by omega, HZ2.out, hzk2, HQ.out, hown2', hb2⟩
            case measure => simp [intOf]; omega
      · have HX := Lib.hid (show psV C x = pre by rw [HZ.out, HP.out, HN.out, show n = k by omega])
        go_wp2
        go_ret
        exact ⟨A', c', by rw [HX.out, HZl.out]; rfl, by rw [HX.out, HZl.out]; exact HO2.out.1, HO2.out.2⟩
set_option maxHeartbeats 2000000 in
theorem selectSeries_any (A : Option Addr) (n c : Nat) (C : Ct) (B : Option Addr) (m d : Nat) (want : List Mt) (w : World) (hn : C.length = n) (hc : n ≤ c) (hm : want.length = m) (hr : RdC w w.heap.size A C) (hr' : RdM w w.heap.size B want) :
    Calls Try.prog 44 #[.slice A n c, .slice B m d] w (RetI w (slV C want (fun l => matL l want))) := by
  have HN := Lib.hid hn
  have HM := Lib.hid hm
  have HR := Lib.hid hr
  have HR' := Lib.hid hr'
  clear hn hm hr'
  obtain ⟨i0, hi, hz0, hz1, hz2⟩ := info_parts Try.infoInt
  rcases hv : vC C with _ | _
  · have HV := Lib.hid hv
    have HZ := Lib.hid (slV_no1 (want := want) (f := fun l => matL l want) hv)
    clear hv
    go_enter Try.func44, Try.ntmps44
    go_wp2_with fail
    refine (validCatalog_any A n c C _ HN.out hc hr).mono ?_
    rintro e w1 ⟨rfl, hb1⟩
    rw [HV.out]
    clear hr
    go_wp2
    go_ret
    exact ⟨none, 0, by rw [HZ.out]; rfl, by rw [HZ.out]; exact World.ownsRow_nil _ _ _ _, hb1⟩
  · have HV := Lib.hid hv
    have hn8 : n ≤ 8 := by have := (VC_of hv).1; rw [HN.out] at this; exact this
    clear hv
    rcases hv2 : vM want with _ | _
    · have HV2 := Lib.hid hv2
      have HZ := Lib.hid (slV_no2 (C := C) (f := fun l => matL l want) hv2)
      clear hv2
      go_enter Try.func44, Try.ntmps44
      go_wp2_with fail
      refine (validCatalog_any A n c C _ HN.out hc hr).mono ?_
      rintro e w1 ⟨rfl, hb1⟩
      rw [HV.out]
      have hr1 := RdG.next HR'.out hb1
      clear hr
      go_wp2_with fail
      refine (validMatchers_any B m d want _ HM.out hr1).mono ?_
      rintro e w2 ⟨rfl, hb2⟩
      rw [HV2.out]
      have hb3 := kept_trans hb1 hb2
      clear hr1 hb1 hb2
      go_wp2
      go_ret
      exact ⟨none, 0, by rw [HZ.out]; rfl, by rw [HZ.out]; exact World.ownsRow_nil _ _ _ _, hb3⟩
    · have HV2 := Lib.hid hv2
      have HZ := Lib.hid (slV_ok (f := fun l => matL l want) HV.out hv2)
      clear hv2
      go_enter Try.func44, Try.ntmps44
      go_wp2_with fail
      refine (validCatalog_any A n c C _ HN.out hc hr).mono ?_
      rintro e w1 ⟨rfl, hb1⟩
      rw [HV.out]
      have hr1 := RdG.next HR'.out hb1
      clear hr
      go_wp2_with fail
      refine (validMatchers_any B m d want _ HM.out hr1).mono ?_
      rintro e w2 ⟨rfl, hb2⟩
      rw [HV2.out]
      have HB1 := Lib.hid (kept_trans hb1 hb2)
      clear hr1 hb1 hb2
      go_wp2
      go_loopw [5, 18] (fun v i wr => ∃ (k : Nat) (A' : Option Addr) (c' z : Nat) (pre : List Int), v = .slice A' z c' ∧ i = .int .i64 k ∧ k ≤ n ∧ pre.length = z ∧ z ≤ k ∧ pre = posTo (fun l => matL l want) C k ∧ wr.ownsRow w.heap.size 3 1 (.slice A' z c') z (pre.map (Value.int .i64)) ∧ Below w.heap.size w wr) (fun _ i _ => n - (intOf i).toNat)
      case atStart => exact ⟨0, none, 0, 0, [], rfl, rfl, by omega, rfl, by omega, rfl, World.ownsRow_nil _ _ _ _, HB1.out⟩
      case round =>
        obtain ⟨k, A', c', z, pre, rfl, rfl, hk, hz, hzk, hpre, hown, hb⟩ := hrel
        have HZl := Lib.hid hz
        have HP := Lib.hid hpre
        clear hz hpre
        by_cases hlt : k < n
        · have hki : (k : Int) < (n : Int) := by omega
          have hlc : k < C.length := by rw [HN.out]; exact hlt
          obtain ⟨b, off, rfl, hbb, a3, m3, c3, hcl, hl3, _, hrl3⟩ := RdC.at_ (RdC.next HR.out hb) HN.out hlt
          have HL3 := Lib.hid hl3
          have HMV := Lib.hid (maV_ok (l := at0 C k) ((VC_of HV.out).2 k hlc).1 HV2.out)
          have hrw := RdG.next HR'.out hb
          clear hl3
          go_wp2_with fail
          refine (matchesAll_any a3 m3 c3 (at0 C k) B m d want _ HL3.out HM.out hrl3 hrw).mono ?_
          rintro e w2 ⟨rfl, hb2⟩
          rw [HMV.out]
          have hO2 := own_kept hown hb2
          have hb3 := kept_trans hb hb2
          have hwr := hb3.size
          clear hown hb hb2 hcl hrl3 hrw
          rcases hh : matL (at0 C k) want with _ | _
          · have HS := Lib.hid (posTo_no (f := fun l => matL l want) (C := C) (k := k) hh)
            clear hh
            go_wp2
            go_roundw
            case rel => exact ⟨k + 1, _, _, z, pre, rfl, by go_num, by omega, HZl.out, by omega, by rw [HS.out]; exact HP.out, hO2, hb3⟩
            case measure => simp [intOf]; omega
          · have HS := Lib.hid (posTo_yes (f := fun l => matL l want) (C := C) (k := k) hh)
            clear hh
            go_wp2_with (at_builtin; refine wpList_append_lies _ rfl _ _ _ rfl (w.heap.size) 3 i0 _ 1 8 Try.underlying30 hi hz0 hz1 hz2 rfl (by omega) _ (z) (pre.map (Value.int .i64)) rfl ((hO2).alloc _) ⟨w2.heap.size, 0, none⟩ 1 1 ([.int .i64 k]) rfl rfl (World.news_of_block (cs := ([.int .i64 k]).toArray) (t := 3) (fr := (0, 0)) (heap_alloc_new w2 _)) (by simp [Value.oneCell']) (by omega) (by simp only [maxLen]; omega) (by omega) (by simp; omega) (w2.heap.size + 1) (by simp) ?_; intro gg cap w2 hown2 hgrow hat hlt2)
            have hb4 := below_app' hb3 hO2 hgrow
            rw [show pre.map (Value.int .i64) ++ [Value.int .i64 (k : Int)] = (pre ++ [(k : Int)]).map (Value.int .i64) by simp] at hown2
            clear hgrow hat hO2 hb3
            go_wp2
            go_roundw
            case rel => exact ⟨k + 1, _, _, z + 1, _, rfl, by go_num, by omega, by rw [List.length_append, HZl.out]; rfl, by omega, by rw [HS.out, HP.out], hown2, hb4⟩
            case measure => simp [intOf]; omega
        · have HX := Lib.hid (show slV C want (fun l => matL l want) = pre by rw [HZ.out, HP.out, HN.out, show n = k by omega])
          go_wp2
          go_ret
          exact ⟨A', c', by rw [HX.out, HZl.out]; rfl, by rw [HX.out, HZl.out]; exact hown, hb⟩
end Go.Proofs.Ytmnfcfhnmndakaa
