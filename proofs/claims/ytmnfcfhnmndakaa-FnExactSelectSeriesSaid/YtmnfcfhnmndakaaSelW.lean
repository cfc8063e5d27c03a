/-
  Walks: SelectSeries of the spec; DrawSelectSeries.
-/
import Derived.Test.YtmnfcfhnmndakaaPosW2
import Derived.Test.YtmnfcfhnmndakaaCatGen
import Derived.Test.YtmnfcfhnmndakaaMatGen
namespace Go.Proofs.Ytmnfcfhnmndakaa
open Go.RowKit
set_option maxHeartbeats 2000000 in
theorem specSelectSeries_any (A : Option Addr) (n c : Nat) (C : Ct) (B : Option Addr) (m d : Nat) (want : List Mt) (w : World) (hn : C.length = n) (hc : n ≤ c) (hm : want.length = m) (hn2 : n ≤ 1000000000000) (hm2 : m ≤ 1000000000000) (hsz : SzR C 1000000000000) (hszm : SzM want) (hr : RdC w w.heap.size A C) (hr' : RdM w w.heap.size B want) :
    Calls Try.prog 46 #[.slice A n c, .slice B m d] w (RetI w (slV C want (fun l => matL l want))) := by
  have HN := Lib.hid hn
  have HM := Lib.hid hm
  have HSZ := Lib.hid hsz
  have HSM := Lib.hid hszm
  clear hsz hszm
  have hbE := kept_alloc (Below.refl w.heap.size w) (Obj.cells #[] 3)
  have hO0 := World.ownsRow_made (e := 3) (size := 1) w #[] 0 (Nat.le_refl _) (by unfold maxLen; omega) rfl
  have hrE := RdC.next hr hbE
  have HRE := Lib.hid (RdG.next hr' hbE)
  have HR := Lib.hid hr
  have HR' := Lib.hid hr'
  clear hn hm hr'
  obtain ⟨i0, hi, hz0, hz1, hz2⟩ := info_parts Try.infoInt
  rcases hv : vC C with _ | _
  · have HV := Lib.hid hv
    have HZ := Lib.hid (slV_no1 (want := want) (f := fun l => matL l want) hv)
    clear hv
    go_enter Try.func46, Try.ntmps46
    go_wp2_with fail
    refine (specValidCatalog_any A n c C _ HN.out hc hn2 HSZ.out hrE).mono ?_
    rintro e w1 ⟨rfl, hb1⟩
    rw [HV.out]
    have hb3 := kept_trans hbE hb1
    clear hr hrE hbE hO0 hb1
    go_wp2
    go_ret
    exact ⟨none, 0, by rw [HZ.out]; rfl, by rw [HZ.out]; exact World.ownsRow_nil _ _ _ _, hb3⟩
  · have HV := Lib.hid hv
    have hn8 : n ≤ 8 := by have := (VC_of hv).1; rw [HN.out] at this; exact this
    clear hv
    rcases hv2 : vM want with _ | _
    · have HV2 := Lib.hid hv2
      have HZ := Lib.hid (slV_no2 (C := C) (f := fun l => matL l want) hv2)
      clear hv2
      go_enter Try.func46, Try.ntmps46
      go_wp2_with fail
      refine (specValidCatalog_any A n c C _ HN.out hc hn2 HSZ.out hrE).mono ?_
      rintro e w1 ⟨rfl, hb1⟩
      rw [HV.out]
      have hr1 := RdG.next HRE.out hb1
      clear hr
      go_wp2_with fail
      refine (specValidMatchers_any B m d want _ HM.out hm2 HSM.out hr1).mono ?_
      rintro e w2 ⟨rfl, hb2⟩
      rw [HV2.out]
      have hb3 := kept_trans hbE (kept_trans hb1 hb2)
      clear hr1 hb1 hb2 hbE hrE hO0
      go_wp2
      go_ret
      exact ⟨none, 0, by rw [HZ.out]; rfl, by rw [HZ.out]; exact World.ownsRow_nil _ _ _ _, hb3⟩
    · have HV2 := Lib.hid hv2
      have HZ := Lib.hid (slV_ok (f := fun l => matL l want) HV.out hv2)
      clear hv2
      go_enter Try.func46, Try.ntmps46
      go_wp2_with fail
      refine (specValidCatalog_any A n c C _ HN.out hc hn2 HSZ.out hrE).mono ?_
      rintro e w1 ⟨rfl, hb1⟩
      rw [HV.out]
      have hr1 := RdG.next HRE.out hb1
      clear hr
      go_wp2_with fail
      refine (specValidMatchers_any B m d want _ HM.out hm2 HSM.out hr1).mono ?_
      rintro e w2 ⟨rfl, hb2⟩
      rw [HV2.out]
      have HB1 := Lib.hid (kept_trans hbE (kept_trans hb1 hb2))
      have HO1 := Lib.hid (own_kept (own_kept hO0 hb1) hb2)
      clear hr1 hb1 hb2 hbE hrE hO0
      go_wp2
      go_loopw [5, 6] (fun v i wr => ∃ (k : Nat) (A' : Option Addr) (c' z : Nat) (pre : List Int), v = .slice A' z c' ∧ i = .int .i64 k ∧ k ≤ n ∧ pre.length = z ∧ z ≤ k ∧ pre = posTo (fun l => matL l want) C k ∧ wr.ownsRow w.heap.size 3 1 (.slice A' z c') z (pre.map (Value.int .i64)) ∧ Below w.heap.size w wr) (fun _ i _ => n - (intOf i).toNat)
      case atStart => exact ⟨0, _, _, 0, [], rfl, rfl, by omega, rfl, by omega, rfl, HO1.out, HB1.out⟩
      case round =>
        obtain ⟨k, A', c', z, pre, rfl, rfl, hk, hz, hzk, hpre, hown, hb⟩ := hrel
        have HZl := Lib.hid hz
        have HP := Lib.hid hpre
        clear hz hpre
        by_cases hlt : k < n
        · have hki : (k : Int) < (n : Int) := by omega
          have hlc : k < C.length := by rw [HN.out]; exact hlt
          obtain ⟨b, off, rfl, hbb, a3, m3, c3, hcl, hl3, _, hrl3⟩ := RdC.at_ (RdC.next HR.out hb) HN.out hlt
          have HL3 := Lib.hid hl3
          have hm3 : m3 ≤ 1000000000000 := by rw [← hl3]; exact (HSZ.out k hlc).2
          have hrw := RdG.next HR'.out hb
          clear hl3
          go_wp2_with fail
          refine (matches_any a3 m3 c3 (at0 C k) B m d want _ HL3.out hm3 HM.out hm2 hrl3 hrw).mono ?_
          rintro e w2 ⟨rfl, hb2⟩
          have hO2 := own_kept hown hb2
          have hb3 := kept_trans hb hb2
          have hwr := hb3.size
          clear hown hb hb2 hcl hrl3 hrw
          rcases hh : matL (at0 C k) want with _ | _
          · have HS := Lib.hid (posTo_no (f := fun l => matL l want) (C := C) (k := k) hh)
            clear hh
            go_wp2
            go_roundw
            case rel => exact ⟨k + 1, _, _, z, pre, rfl, by go_num, by omega, HZl.out, by omega, by rw [HS.out]; exact HP.out, hO2, hb3⟩
            case measure => simp [intOf]; omega
          · have HS := Lib.hid (posTo_yes (f := fun l => matL l want) (C := C) (k := k) hh)
            clear hh
            go_wp2_with (at_builtin; refine wpList_append_lies _ rfl _ _ _ rfl (w.heap.size) 3 i0 _ 1 8 Try.underlying30 hi hz0 hz1 hz2 rfl (by omega) _ (z) (pre.map (Value.int .i64)) rfl ((hO2).alloc _) ⟨w2.heap.size, 0, none⟩ 1 1 ([.int .i64 k]) rfl rfl (World.news_of_block (cs := ([.int .i64 k]).toArray) (t := 3) (fr := (0, 0)) (heap_alloc_new w2 _)) (by simp [Value.oneCell']) (by omega) (by simp only [maxLen]; omega) (by omega) (by simp; omega) (w2.heap.size + 1) (by simp) ?_; intro gg cap w2 hown2 hgrow hat hlt2)
            have hb4 := below_app' hb3 hO2 hgrow
            rw [show pre.map (Value.int .i64) ++ [Value.int .i64 (k : Int)] = (pre ++ [(k : Int)]).map (Value.int .i64) by simp] at hown2
            clear hgrow hat hO2 hb3
            go_wp2
            go_roundw
            case rel => exact ⟨k + 1, _, _, z + 1, _, rfl, by go_num, by omega, by rw [List.length_append, HZl.out]; rfl, by omega, by rw [HS.out, HP.out], hown2, hb4⟩
            case measure => simp [intOf]; omega
        · have HX := Lib.hid (show slV C want (fun l => matL l want) = pre by rw [HZ.out, HP.out, HN.out, show n = k by omega])
          go_wp2
          go_ret
          exact ⟨A', c', by rw [HX.out, HZl.out]; rfl, by rw [HX.out, HZl.out]; exact hown, hb⟩
def DrawCM (w : World) (e : Ending) (w' : World) : Prop :=
  ∃ (A : Option Addr) (c n : Nat) (C : Ct) (B : Option Addr) (d q : Nat) (want : List Mt), e = .returned (.tuple #[.slice A n c, .slice B q d]) ∧ C.length = n ∧ n ≤ 9 ∧ n ≤ c ∧ SzN C ∧ want.length = q ∧ q ≤ 5 ∧ q ≤ d ∧ SzM want ∧ RdC w' w'.heap.size A C ∧ RdM w' w'.heap.size B want ∧ Below w.heap.size w w'
set_option maxHeartbeats 2000000 in
set_option maxRecDepth 100000 in
theorem drawSelectSeries_any (A : Option Addr) (n c : Nat) (w : World) (hm : n ≤ 9223372036854775807) (hc : n ≤ c) (hr : RdB w w.heap.size A n) :
    Calls Try.prog 43 #[.slice A n c] w (DrawCM w) := by
  go_enter Try.func43, Try.ntmps43
  go_wp2_with fail
  refine (newReader_any A n c _ hm hc hr).mono ?_
  rintro e w1 ⟨rfl, hr1, hb1⟩
  have hg := hr1.lt
  clear hr
  go_wp2_with fail
  refine (someCatalog_any w.heap.size 0 _ (by omega) hr1).mono ?_
  rintro e w2 ⟨A2, c2, m, C, vs, p1, rfl, hown, hm2, hcap, hsz, hr2, hp2, ho2⟩
  have hb2 := Only.below hb1 ho2 (Nat.le_refl _)
  have HX := Lib.hid (And.intro hown.1 (And.intro hsz hown))
  clear hown hsz hr1 hb1 ho2
  go_wp2_with fail
  refine (anyMatchers_any w.heap.size p1 _ (by omega) hr2).mono ?_
  rintro e w3 ⟨A3, c3, q, want, p3, rfl, hl3, hm3, hcap3, hsz3, hown3, hr3, hp3, ho3⟩
  have hb3 := Only.below hb2 ho3 (Nat.le_refl _)
  have HY := Lib.hid (And.intro (HX.out.2.2.only ho3 hg).rdC (And.intro (own_rdG hown3 hl3) (And.intro hl3 hsz3)))
  clear hown3 ho3 hb2 hr2 hr3 hl3 hsz3
  go_wp2
  go_ret2
  exact ⟨_, _, m, C, _, _, q, want, rfl, HX.out.1, hm2, hcap, HX.out.2.1, HY.out.2.2.1, hm3, hcap3, HY.out.2.2.2, HY.out.1, HY.out.2.1, hb3⟩
end Go.Proofs.Ytmnfcfhnmndakaa
