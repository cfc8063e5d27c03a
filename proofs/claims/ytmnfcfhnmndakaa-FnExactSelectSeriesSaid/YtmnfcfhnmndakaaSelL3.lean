/-
  Walk: FnExactSelectSeries.
-/
import Derived.Test.YtmnfcfhnmndakaaMarkI
import Derived.Test.YtmnfcfhnmndakaaSelW
namespace Go.Proofs.Ytmnfcfhnmndakaa
open Go.RowKit
theorem slV_lenE {C : Ct} {want : List Mt} {f : List Lb → Bool} : (slV C want f).length ≤ C.length := by
  unfold slV
  split
  · exact posTo_len _ _ _
  · simp
set_option maxHeartbeats 8000000 in
set_option maxRecDepth 100000 in
theorem fnExactSelectSeries_any (A : Option Addr) (n c : Nat) (C : Ct) (B : Option Addr) (m d : Nat) (want : List Mt) (w : World) (hn_C : C.length = n) (hm_C : n ≤ 9223372036854775807) (hz_C : SzR C 9223372036854775807) (hr_C : RdC w w.heap.size A C) (hn_want : want.length = m) (hm_want : m ≤ 9223372036854775807) (hz_want : SzM want) (hr_want : RdM w w.heap.size B want) :
    Calls Try.prog 13 #[.slice A n c, .slice B m d] w fun e w' => e = .returned (.bool true) ∧ Below w.heap.size w w' := by
  have HNC := Lib.hid hn_C
  have HRC := Lib.hid hr_C
  have HS0C := Lib.hid hz_C
  have HNwant := Lib.hid hn_want
  have HRwant := Lib.hid hr_want
  have HS0want := Lib.hid hz_want
  clear hn_C hr_C hz_C hn_want hr_want hz_want
  go_enter Try.func13, Try.ntmps13
  have kb0 := Below.refl w.heap.size w
  have hr := HRC.out.next kb0
  go_wp2_with fail
  refine (szLabelSS_any A n c C _ _ HNC.out hm_C HS0C.out (by omega) (by omega) hr).mono ?_
  rintro e w1 ⟨r0, rfl, q0a, q0b, q0c, ho1⟩
  have s1 := ho1.size
  have kb1 := kept_trans kb0 ho1
  clear ho1 kb0 hr
  have HQC := Lib.hid q0c
  clear q0c
  by_cases hneg0 : r0 < 0
  · go_wp2
    go_ret
    exact ⟨rfl, kb1⟩
  have hm2C : n ≤ 1048576 := by have := HQC.out (by omega); omega
  have hr := RdG.next HRwant.out kb1
  go_wp2_with fail
  refine (szMatcherS_any B m d want _ _ HNwant.out hm_want HS0want.out (by omega) (by omega) hr).mono ?_
  rintro e w2 ⟨r1, rfl, q1a, q1b, q1c, ho2⟩
  have s2 := ho2.size
  have kb2 := kept_trans kb1 ho2
  clear ho2 kb1 hr
  have HQwant := Lib.hid q1c
  clear q1c
  by_cases hneg1 : r1 < 0
  · go_wp2
    go_ret
    exact ⟨rfl, kb2⟩
  have hm2want : m ≤ 1048576 := by have := HQwant.out (by omega); omega
  have HSC := Lib.hid (HQC.out (by omega)).2.szR
  have HTC := Lib.hid (HSC.out.mono (b := 1000000000000) (by omega))
  have HLC := Lib.hid (fun i (hi : i < n) => (HSC.out i (by rw [HNC.out]; exact hi)).2)
  have hpl := slV_lenE (C := C) (want := want) (f := fun l => matL l want)
  rw [HNC.out] at hpl
  generalize hpl0 : slV C want (fun l => matL l want) = pl at hpl
  have HPL := Lib.hid hpl0
  clear hpl0
  have hr := HRC.out.next kb2
  go_wp2_with fail
  refine (toLabelSS_any A n c C _ HNC.out hm2C HSC.out hr).mono ?_
  rintro e w3 ⟨g3, f3, rfl, hf3, ho3⟩
  have s3 := ho3.size
  have kb3 := kept_trans kb2 ho3
  have yC3 := hf3.ownC HNC.out hm2C HLC.out
  clear ho3 kb2 hr hf3
  have hr := RdG.next HRwant.out kb3
  go_wp2_with fail
  refine (toMatcherS_any B m d want _ HNwant.out hm2want hr).mono ?_
  rintro e w4 ⟨g4, rfl, hg4, hf4, ho4⟩
  have s4 := ho4.size
  have kb4 := kept_trans kb3 ho4
  have yC4 := yC3.kept ho4
  have ywant4 := hf4
  clear ho4 kb3 hr yC3 hf4 hg4
  go_wp2_with fail
  refine (specSelectSeries_any _ n n C _ m m want _ HNC.out (by omega) HNwant.out (by omega) (by omega) HTC.out HS0want.out yC4.rdC (ywant4.rdG HNwant.out)).mono ?_
  rw [HPL.out]
  rintro e w5 ⟨A5, c5, rfl, hr_5, ho5⟩
  have s5 := ho5.size
  have kb5 := kept_trans kb4 ho5
  have W5 := (own_rd1 hr_5 rfl)
  clear ho5 kb4 yC4 ywant4 hr_5
  have hr := HRC.out.next kb5
  go_wp2_with fail
  refine (toLabelSS_any A n c C _ HNC.out hm2C HSC.out hr).mono ?_
  rintro e w6 ⟨g6, f6, rfl, hf6, ho6⟩
  have s6 := ho6.size
  have kb6 := kept_trans kb5 ho6
  have W6 : Rd1 w6 w5.heap.size A5 pl := Rd.below W5 (ho6.mono (by omega))
  have xC6 := hf6.ownC HNC.out hm2C HLC.out
  clear ho6 kb5 hr W5 hf6
  have HUC := Lib.hid xC6.under
  have hr := RdG.next HRwant.out kb6
  go_wp2_with fail
  refine (toMatcherS_any B m d want _ HNwant.out hm2want hr).mono ?_
  rintro e w7 ⟨g7, rfl, hg7, hf7, ho7⟩
  have s7 := ho7.size
  have kb7 := kept_trans kb6 ho7
  have W7 : Rd1 w7 w5.heap.size A5 pl := Rd.below W6 (ho7.mono (by omega))
  have xC7 := xC6.kept ho7
  have xwant7 := hf7
  clear ho7 kb6 hr W6 xC6 hf7
  have l7 := xwant7.lt
  go_wp2_with fail
  refine (selectSeries_any _ n n C _ m m want _ HNC.out (by omega) HNwant.out xC7.rdC (xwant7.rdG HNwant.out)).mono ?_
  rw [HPL.out]
  rintro e w8 ⟨A8, c8, rfl, hr_8, ho8⟩
  have s8 := ho8.size
  have kb8 := kept_trans kb7 ho8
  have W8 : Rd1 w8 w5.heap.size A5 pl := Rd.below W7 (ho8.mono (by omega))
  have xC8 := xC7.kept ho8
  have xwant8 := xwant7.kept ho8
  have G8 := hr_8
  clear ho8 kb7 W7 xC7 xwant7 hr_8
  go_wp2_with fail
  refine (eqIntS_same _ _ _ _ _ pl _ rfl (by omega) (own_rd1 G8 rfl) (Rd.mono W8 (by omega))).mono ?_
  rintro e w9 ⟨rfl, ho9⟩
  have s9 := ho9.size
  have kb9 := kept_trans kb8 ho9
  have W9 : Rd1 w9 w5.heap.size A5 pl := Rd.below W8 (ho9.mono (by omega))
  have xC9 := xC8.kept ho9
  have xwant9 := xwant8.kept ho9
  have G9 := own_kept G8 ho9
  clear ho9 kb8 W8 xC8 xwant8 G8
  have hr := HRC.out.next kb9
  go_wp2_with fail
  refine (toLabelSS_any A n c C _ HNC.out hm2C HSC.out hr).mono ?_
  rintro e w10 ⟨g10, f10, rfl, hf10, ho10⟩
  have s10 := ho10.size
  have kb10 := kept_trans kb9 ho10
  have W10 : Rd1 w10 w5.heap.size A5 pl := Rd.below W9 (ho10.mono (by omega))
  have xC10 := xC9.kept ho10
  have xwant10 := xwant9.kept ho10
  have G10 := own_kept G9 ho10
  have z10 := hf10
  clear ho10 kb9 hr W9 xC9 xwant9 G9 hf10
  go_wp2_with fail
  refine (eqLabelSS_same _ n n _ n C _ HNC.out (by omega) HTC.out xC10.rdC (z10.rdC HNC.out)).mono ?_
  rintro e w11 ⟨rfl, ho11⟩
  have s11 := ho11.size
  have kb11 := kept_trans kb10 ho11
  have W11 : Rd1 w11 w5.heap.size A5 pl := Rd.below W10 (ho11.mono (by omega))
  have xC11 := xC10.kept ho11
  have xwant11 := xwant10.kept ho11
  have G11 := own_kept G10 ho11
  clear ho11 kb10 W10 xC10 xwant10 G10 z10
  have hr := RdG.next HRwant.out kb11
  go_wp2_with fail
  refine (toMatcherS_any B m d want _ HNwant.out hm2want hr).mono ?_
  rintro e w12 ⟨g12, rfl, hg12, hf12, ho12⟩
  have s12 := ho12.size
  have kb12 := kept_trans kb11 ho12
  have W12 : Rd1 w12 w5.heap.size A5 pl := Rd.below W11 (ho12.mono (by omega))
  have xC12 := xC11.kept ho12
  have xwant12 := xwant11.kept ho12
  have G12 := own_kept G11 ho12
  have z12 := hf12
  clear ho12 kb11 hr W11 xC11 xwant11 G11 hf12 hg12
  go_wp2_with fail
  refine (eqMatcherS_same _ m m _ m want _ HNwant.out (by omega) (xwant12.rdG HNwant.out) (z12.rdG HNwant.out)).mono ?_
  rintro e w13 ⟨rfl, ho13⟩
  have s13 := ho13.size
  have kb13 := kept_trans kb12 ho13
  have W13 : Rd1 w13 w5.heap.size A5 pl := Rd.below W12 (ho13.mono (by omega))
  have xC13 := xC12.kept ho13
  have xwant13 := xwant12.kept ho13
  have G13 := own_kept G12 ho13
  clear ho13 kb12 W12 xC12 xwant12 G12 z12
  have htot := totL_le C 1048576 n HLC.out
  go_wp2_with fail
  refine (markLabelSS_any _ w6.heap.size _ n n C _ 1 _ hm2C HLC.out (by omega) (by omega) xC13 HUC.out).mono ?_
  rintro e w14 ⟨rfl, _, ho14⟩
  have s14 := ho14.size
  have kb14 := ho14.below kb13 (by omega)
  have W14 : Rd1 w14 w5.heap.size A5 pl := ho14.rd W13 (by omega) (by omega)
  have xwant14 := ho14.filled xwant13 (by omega)
  have G14 := ho14.own G13 (by omega)
  clear ho14 kb13 W13 xC13 xwant13 G13
  generalize htt : totL C n = tt at *
  clear htt
  go_wp2_with fail
  refine (markMatcherS_any _ m m _ _ _ _ _ hm2want (by omega) (by omega) xwant14).mono ?_
  rintro e w15 ⟨rfl, ho15⟩
  have s15 := ho15.size
  have kb15 := Only.below kb14 ho15 (by omega)
  have W15 : Rd1 w15 w5.heap.size A5 pl := Rd.only W14 ho15 (by omega) (by omega)
  have G15 := Only.own G14 ho15 (by omega)
  clear ho15 kb14 W14 xwant14 G14
  have hd : ¬ ((1 + 2 * (tt : Int) + 3 * (m : Int)) < 0) := by omega
  have hd2 : decide ((1 + 2 * (tt : Int) + 3 * (m : Int)) < 0) = false := decide_eq_false hd
  go_wp2_with fail
  refine (eqIntS_same _ _ _ _ _ pl _ rfl (by omega) (own_rd1 G15 rfl) (Rd.mono W15 (by omega))).mono ?_
  rintro e w16 ⟨rfl, ho16⟩
  have s16 := ho16.size
  have kb16 := kept_trans kb15 ho16
  have W16 : Rd1 w16 w5.heap.size A5 pl := Rd.below W15 (ho16.mono (by omega))
  have G16 := own_kept G15 ho16
  clear ho16 kb15 W15 G15
  clear hd hd2
  go_wp2_with fail
  refine (markOwnI_any _ _ _ _ _ _ 1 _ (by omega) (by omega) (by omega) G16).mono ?_
  rintro e w17 ⟨rfl, hm_, ho17⟩
  have s17 := ho17.size
  have kb17 := below_mark kb16 G16 ho17 (by omega)
  have W17 : Rd1 w17 w5.heap.size A5 pl := Rd.marked W16 G16 ho17 (by omega) (by omega)
  have G17 := hm_
  clear ho17 kb16 W16 G16 hm_
  go_wp2_with fail
  refine (heldIntS_any _ _ _ 1 _ (by omega) (by omega) (by omega) (own_rdI G17)).mono ?_
  rintro e wq ⟨rfl, rfl⟩
  have hr := HRC.out.next kb17
  go_wp2_with fail
  refine (toLabelSS_any A n c C _ HNC.out hm2C HSC.out hr).mono ?_
  rintro e w18 ⟨g18, f18, rfl, hf18, ho18⟩
  have s18 := ho18.size
  have kb18 := kept_trans kb17 ho18
  have W18 : Rd1 w18 w5.heap.size A5 pl := Rd.below W17 (ho18.mono (by omega))
  have G18 := own_kept G17 ho18
  have yC18 := hf18.ownC HNC.out hm2C HLC.out
  clear ho18 kb17 hr W17 G17 hf18
  have hr := RdG.next HRwant.out kb18
  go_wp2_with fail
  refine (toMatcherS_any B m d want _ HNwant.out hm2want hr).mono ?_
  rintro e w19 ⟨g19, rfl, hg19, hf19, ho19⟩
  have s19 := ho19.size
  have kb19 := kept_trans kb18 ho19
  have W19 : Rd1 w19 w5.heap.size A5 pl := Rd.below W18 (ho19.mono (by omega))
  have G19 := own_kept G18 ho19
  have yC19 := yC18.kept ho19
  have ywant19 := hf19
  clear ho19 kb18 hr W18 G18 yC18 hf19 hg19
  go_wp2_with fail
  refine (selectSeries_any _ n n C _ m m want _ HNC.out (by omega) HNwant.out yC19.rdC (ywant19.rdG HNwant.out)).mono ?_
  rw [HPL.out]
  rintro e w20 ⟨A20, c20, rfl, hr_20, ho20⟩
  have s20 := ho20.size
  have kb20 := kept_trans kb19 ho20
  have W20 : Rd1 w20 w5.heap.size A5 pl := Rd.below W19 (ho20.mono (by omega))
  have G20 := own_kept G19 ho20
  have H20 := hr_20
  clear ho20 kb19 W19 G19 yC19 ywant19 hr_20
  go_wp2_with fail
  refine (eqIntS_same _ _ _ _ _ pl _ rfl (by omega) (own_rd1 H20 rfl) (Rd.mono W20 (by omega))).mono ?_
  rintro e w21 ⟨rfl, ho21⟩
  have s21 := ho21.size
  have kb21 := kept_trans kb20 ho21
  have G21 := own_kept G20 ho21
  clear ho21 kb20 W20 G20 H20
  go_wp2_with fail
  refine (heldIntS_any _ _ _ 1 _ (by omega) (by omega) (by omega) (own_rdI G21)).mono ?_
  rintro e wq ⟨rfl, rfl⟩
  have hlast := kb21
  go_wp2
  go_ret
  exact ⟨rfl, hlast⟩
end Go.Proofs.Ytmnfcfhnmndakaa
