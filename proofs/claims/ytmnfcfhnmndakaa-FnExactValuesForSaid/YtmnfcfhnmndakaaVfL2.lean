/-
  Walk: FnExactValuesFor.
-/
import Derived.Test.YtmnfcfhnmndakaaMarkI
import Derived.Test.YtmnfcfhnmndakaaMarkS
import Derived.Test.YtmnfcfhnmndakaaVfW2
namespace Go.Proofs.Ytmnfcfhnmndakaa
open Go.RowKit
set_option maxHeartbeats 8000000 in
set_option maxRecDepth 100000 in
theorem fnExactValuesFor_any (A : Option Addr) (n c : Nat) (C : Ct) (s : ByteArray) (w : World) (hn_C : C.length = n) (hm_C : n ≤ 9223372036854775807) (hz_C : SzR C 9223372036854775807) (hr_C : RdC w w.heap.size A C) (_hs_s : s.size ≤ 9223372036854775807) :
    Calls Try.prog 4 #[.slice A n c, .string s] w fun e w' => e = .returned (.bool true) ∧ Below w.heap.size w w' := by
  have HNC := Lib.hid hn_C
  have HRC := Lib.hid hr_C
  have HS0C := Lib.hid hz_C
  clear hn_C hr_C hz_C
  by_cases hbigs : (1048576 : Int) < s.size
  · go_enter Try.func4, Try.ntmps4
    go_wp2
    go_ret
    exact ⟨rfl, Below.refl _ _⟩
  go_enter Try.func4, Try.ntmps4
  have kb0 := Below.refl w.heap.size w
  have hr := HRC.out.next kb0
  go_wp2_with fail
  refine (szLabelSS_any A n c C _ _ HNC.out hm_C HS0C.out (by omega) (by omega) hr).mono ?_
  rintro e w1 ⟨r0, rfl, q0a, q0b, q0c, ho1⟩
  have s1 := ho1.size
  have kb1 := kept_trans kb0 ho1
  clear ho1 kb0 hr
  have HQC := Lib.hid q0c
  clear q0c
  by_cases hneg0 : r0 < 0
  · go_wp2
    go_ret
    exact ⟨rfl, kb1⟩
  have hm2C : n ≤ 1048576 := by have := HQC.out (by omega); omega
  have HSC := Lib.hid (HQC.out (by omega)).2.szR
  have HTC := Lib.hid (HSC.out.mono (b := 1000000000000) (by omega))
  have HLC := Lib.hid (fun i (hi : i < n) => (HSC.out i (by rw [HNC.out]; exact hi)).2)
  have hpl := vfV_len C s
  rw [HNC.out] at hpl
  generalize hpl0 : vfV C s = pl at hpl
  have HPL := Lib.hid hpl0
  clear hpl0
  have hr := HRC.out.next kb1
  go_wp2_with fail
  refine (toLabelSS_any A n c C _ HNC.out hm2C HSC.out hr).mono ?_
  rintro e w2 ⟨g2, f2, rfl, hf2, ho2⟩
  have s2 := ho2.size
  have kb2 := kept_trans kb1 ho2
  have yC2 := hf2.ownC HNC.out hm2C HLC.out
  clear ho2 kb1 hr hf2
  go_wp2_with fail
  refine (specValuesFor_any _ n n C s _ HNC.out (by omega) (by omega) HTC.out yC2.rdC).mono ?_
  rw [HPL.out]
  rintro e w3 ⟨A3, c3, rfl, hr_3, ho3⟩
  have s3 := ho3.size
  have kb3 := kept_trans kb2 ho3
  have W3 := (own_rdG hr_3 rfl)
  clear ho3 kb2 yC2 hr_3
  have hr := HRC.out.next kb3
  go_wp2_with fail
  refine (toLabelSS_any A n c C _ HNC.out hm2C HSC.out hr).mono ?_
  rintro e w4 ⟨g4, f4, rfl, hf4, ho4⟩
  have s4 := ho4.size
  have kb4 := kept_trans kb3 ho4
  have W4 : RdS w4 w3.heap.size A3 pl := Rd.below W3 (ho4.mono (by omega))
  have xC4 := hf4.ownC HNC.out hm2C HLC.out
  clear ho4 kb3 hr W3 hf4
  have HUC := Lib.hid xC4.under
  go_wp2_with fail
  refine (valuesFor_any _ n n C s _ HNC.out (by omega) xC4.rdC).mono ?_
  rw [HPL.out]
  rintro e w5 ⟨A5, c5, rfl, hr_5, ho5⟩
  have s5 := ho5.size
  have kb5 := kept_trans kb4 ho5
  have W5 : RdS w5 w3.heap.size A3 pl := Rd.below W4 (ho5.mono (by omega))
  have xC5 := xC4.kept ho5
  have G5 := hr_5
  clear ho5 kb4 W4 xC4 hr_5
  go_wp2_with fail
  refine (eqStringS_same _ _ _ _ _ pl _ rfl (by omega) (own_rdG G5 rfl) (RdG.mono W5 (by omega))).mono ?_
  rintro e w6 ⟨rfl, ho6⟩
  have s6 := ho6.size
  have kb6 := kept_trans kb5 ho6
  have W6 : RdS w6 w3.heap.size A3 pl := Rd.below W5 (ho6.mono (by omega))
  have xC6 := xC5.kept ho6
  have G6 := own_kept G5 ho6
  clear ho6 kb5 W5 xC5 G5
  have hr := HRC.out.next kb6
  go_wp2_with fail
  refine (toLabelSS_any A n c C _ HNC.out hm2C HSC.out hr).mono ?_
  rintro e w7 ⟨g7, f7, rfl, hf7, ho7⟩
  have s7 := ho7.size
  have kb7 := kept_trans kb6 ho7
  have W7 : RdS w7 w3.heap.size A3 pl := Rd.below W6 (ho7.mono (by omega))
  have xC7 := xC6.kept ho7
  have G7 := own_kept G6 ho7
  have z7 := hf7
  clear ho7 kb6 hr W6 xC6 G6 hf7
  go_wp2_with fail
  refine (eqLabelSS_same _ n n _ n C _ HNC.out (by omega) HTC.out xC7.rdC (z7.rdC HNC.out)).mono ?_
  rintro e w8 ⟨rfl, ho8⟩
  have s8 := ho8.size
  have kb8 := kept_trans kb7 ho8
  have W8 : RdS w8 w3.heap.size A3 pl := Rd.below W7 (ho8.mono (by omega))
  have xC8 := xC7.kept ho8
  have G8 := own_kept G7 ho8
  clear ho8 kb7 W7 xC7 G7 z7
  have htot := totL_le C 1048576 n HLC.out
  go_wp2_with fail
  refine (markLabelSS_any _ w4.heap.size _ n n C _ 1 _ hm2C HLC.out (by omega) (by omega) xC8 HUC.out).mono ?_
  rintro e w9 ⟨rfl, _, ho9⟩
  have s9 := ho9.size
  have kb9 := ho9.below kb8 (by omega)
  have W9 : RdS w9 w3.heap.size A3 pl := ho9.rd W8 (by omega) (by omega)
  have G9 := ho9.own G8 (by omega)
  clear ho9 kb8 W8 xC8 G8
  generalize htt : totL C n = tt at *
  clear htt
  have hd : ¬ ((1 + 2 * (tt : Int)) < 0) := by omega
  have hd2 : decide ((1 + 2 * (tt : Int)) < 0) = false := decide_eq_false hd
  go_wp2_with fail
  refine (eqStringS_same _ _ _ _ _ pl _ rfl (by omega) (own_rdG G9 rfl) (RdG.mono W9 (by omega))).mono ?_
  rintro e w10 ⟨rfl, ho10⟩
  have s10 := ho10.size
  have kb10 := kept_trans kb9 ho10
  have W10 : RdS w10 w3.heap.size A3 pl := Rd.below W9 (ho10.mono (by omega))
  have G10 := own_kept G9 ho10
  clear ho10 kb9 W9 G9
  clear hd hd2
  go_wp2_with fail
  refine (markOwnS_any _ _ _ _ _ _ 1 _ (by omega) (by omega) (by omega) G10).mono ?_
  rintro e w11 ⟨rfl, hm_, ho11⟩
  have s11 := ho11.size
  have kb11 := below_mark kb10 G10 ho11 (by omega)
  have W11 : RdS w11 w3.heap.size A3 pl := Rd.marked W10 G10 ho11 (by omega) (by omega)
  have G11 := hm_
  clear ho11 kb10 W10 G10 hm_
  go_wp2_with fail
  refine (heldStringS_any _ _ _ 1 _ (by omega) (by omega) (by omega) (own_rdT G11)).mono ?_
  rintro e w12 ⟨rfl, ho12⟩
  have s12 := ho12.size
  have kb12 := kept_trans kb11 ho12
  have W12 : RdS w12 w3.heap.size A3 pl := Rd.below W11 (ho12.mono (by omega))
  have G12 := own_kept G11 ho12
  clear ho12 kb11 W11 G11
  have hr := HRC.out.next kb12
  go_wp2_with fail
  refine (toLabelSS_any A n c C _ HNC.out hm2C HSC.out hr).mono ?_
  rintro e w13 ⟨g13, f13, rfl, hf13, ho13⟩
  have s13 := ho13.size
  have kb13 := kept_trans kb12 ho13
  have W13 : RdS w13 w3.heap.size A3 pl := Rd.below W12 (ho13.mono (by omega))
  have G13 := own_kept G12 ho13
  have yC13 := hf13.ownC HNC.out hm2C HLC.out
  clear ho13 kb12 hr W12 G12 hf13
  go_wp2_with fail
  refine (valuesFor_any _ n n C s _ HNC.out (by omega) yC13.rdC).mono ?_
  rw [HPL.out]
  rintro e w14 ⟨A14, c14, rfl, hr_14, ho14⟩
  have s14 := ho14.size
  have kb14 := kept_trans kb13 ho14
  have W14 : RdS w14 w3.heap.size A3 pl := Rd.below W13 (ho14.mono (by omega))
  have G14 := own_kept G13 ho14
  have H14 := hr_14
  clear ho14 kb13 W13 G13 yC13 hr_14
  go_wp2_with fail
  refine (eqStringS_same _ _ _ _ _ pl _ rfl (by omega) (own_rdG H14 rfl) (RdG.mono W14 (by omega))).mono ?_
  rintro e w15 ⟨rfl, ho15⟩
  have s15 := ho15.size
  have kb15 := kept_trans kb14 ho15
  have G15 := own_kept G14 ho15
  clear ho15 kb14 W14 G14 H14
  go_wp2_with fail
  refine (heldStringS_any _ _ _ 1 _ (by omega) (by omega) (by omega) (own_rdT G15)).mono ?_
  rintro e w16 ⟨rfl, ho16⟩
  have s16 := ho16.size
  have kb16 := kept_trans kb15 ho16
  have G16 := own_kept G15 ho16
  clear ho16 kb15 G15
  have hlast := kb16
  go_wp2
  go_ret
  exact ⟨rfl, hlast⟩
end Go.Proofs.Ytmnfcfhnmndakaa
