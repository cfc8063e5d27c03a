/-
  Walk: FnExactAddSeries.
-/
import Derived.Test.YtmnfcfhnmndakaaMarkI
import Derived.Test.YtmnfcfhnmndakaaAddW
namespace Go.Proofs.Ytmnfcfhnmndakaa
open Go.RowKit
theorem RdC.only {w w' : World} {B g : Nat} {A : Option Addr} {C : Ct} (h : RdC w B A C) (k : Only g w w') (hB : B ≤ g) (hw : B ≤ w.heap.size) : RdC w' B A C := fun h0 => by
  obtain ⟨b, off, e, hlt, hc⟩ := h h0
  refine ⟨b, off, e, hlt, fun i hi' => ?_⟩
  obtain ⟨x, m, c, h1, h2, h3, h4⟩ := hc i hi'
  exact ⟨x, m, c, (World.cell?_of_block (a := ⟨b, off + i, none⟩) (k.block b (Nat.lt_of_lt_of_le hlt hw) (by simp; omega))).trans h1, h2, h3, Rd.only h4 k hB hw⟩
theorem adR_ok {C : Ct} {l : List Lb} (hC : SzR C 1000000000000) (hl : SzL l) : (adC (adV C l)).length ≤ 8 ∧ SzR (adC (adV C l)) 1000000000000 ∧ ∀ i, i < (adC (adV C l)).length → (at0 (adC (adV C l)) i).length ≤ 4 := by
  unfold adV
  split
  · rename_i hv
    have hV := VC_of hv.1
    have h4 : ∀ i, i < C.length → (at0 C i).length ≤ 4 := fun i hi => (VL_of (hV.2 i hi).1).1
    have hl4 := (VL_of hv.2).1
    split
    · exact ⟨hV.1, hC, h4⟩
    · split
      · exact ⟨by simp [adC], fun i hi => absurd hi (by simp [adC]), fun i hi => absurd hi (by simp [adC])⟩
      · have h8 := hV.1
        have hlen : (C ++ [l]).length = C.length + 1 := by rw [List.length_append, List.length_singleton]
        have hat : ∀ i, i < C.length + 1 → at0 (C ++ [l]) i = if i < C.length then at0 C i else l := fun i hi => by
          by_cases h : i < C.length
          · rw [if_pos h, at0_append _ _ h]
          · rw [if_neg h, show i = C.length by omega, at0_append_r _ _ (Nat.le_refl _), Nat.sub_self]; rfl
        refine ⟨?_, fun i hi => ?_, fun i hi => ?_⟩
        · show (C ++ [l]).length ≤ 8
          omega
        · have hi' : i < C.length + 1 := by rw [← hlen]; exact hi
          show SzL (at0 (C ++ [l]) i) ∧ (at0 (C ++ [l]) i).length ≤ _
          rw [hat i hi']
          split
          · rename_i h; exact hC i h
          · exact ⟨hl, by omega⟩
        · have hi' : i < C.length + 1 := by rw [← hlen]; exact hi
          show (at0 (C ++ [l]) i).length ≤ 4
          rw [hat i hi']
          split
          · rename_i h; exact h4 i h
          · exact hl4
  · exact ⟨by simp [adC], fun i hi => absurd hi (by simp [adC]), fun i hi => absurd hi (by simp [adC])⟩
/-- The result, by its parts. -/
def RetAG (w : World) (D : Ct) (N : Int) (b : Bool) (e : Ending) (w' : World) : Prop :=
  ∃ (A : Option Addr) (c : Nat) (vs : List Value), e = .returned (.tuple #[.slice A D.length c, .int .i64 N, .bool b]) ∧ OwnC w.heap.size w' (.slice A D.length c) D.length D vs ∧ Below w.heap.size w w'
theorem retAG_of {w w' : World} {e : Ending} {r : Option (Ct × Int)} {D : Ct} {N : Int} {b : Bool} (h : Hid (adC r = D ∧ adN r = N ∧ r.isSome = b)) (k : RetA w r e w') : RetAG w D N b e w' := by
  obtain ⟨rfl, rfl, rfl⟩ := h.out
  obtain ⟨A, c, n, vs, he, ho, hb⟩ := k
  have hn : n = (adC r).length := ho.1.symm
  subst hn
  exact ⟨A, c, vs, he, ho, hb⟩
theorem addSeries_g (A : Option Addr) (n c : Nat) (C : Ct) (B : Option Addr) (m d : Nat) (l : List Lb) (w : World) (D : Ct) (N : Int) (b : Bool) (hn : C.length = n) (hm : l.length = m) (hc : n ≤ c) (hr : RdC w w.heap.size A C) (hr' : RdL w w.heap.size B l) (h : Hid (adC (adV C l) = D ∧ adN (adV C l) = N ∧ (adV C l).isSome = b)) :
    Calls Try.prog 29 #[.slice A n c, .slice B m d] w (RetAG w D N b) := (addSeries_any A n c C B m d l w hn hm hc hr hr').mono fun _ _ k => retAG_of h k
theorem specAddSeries_g (A : Option Addr) (n c : Nat) (C : Ct) (B : Option Addr) (m d : Nat) (l : List Lb) (w : World) (D : Ct) (N : Int) (b : Bool) (hn : C.length = n) (hm : l.length = m) (hc : n ≤ c) (hn2 : n ≤ 1000000000000) (hm2 : m ≤ 1000000000000) (hsz : SzR C 1000000000000) (hsl : SzL l) (hr : RdC w w.heap.size A C) (hr' : RdL w w.heap.size B l) (h : Hid (adC (adV C l) = D ∧ adN (adV C l) = N ∧ (adV C l).isSome = b)) :
    Calls Try.prog 30 #[.slice A n c, .slice B m d] w (RetAG w D N b) := (specAddSeries_any A n c C B m d l w hn hm hc hn2 hm2 hsz hsl hr hr').mono fun _ _ k => retAG_of h k
set_option maxHeartbeats 8000000 in
set_option maxRecDepth 100000 in
theorem fnExactAddSeries_any (A : Option Addr) (n c : Nat) (C : Ct) (B : Option Addr) (m d : Nat) (l : List Lb) (w : World) (hn_C : C.length = n) (hm_C : n ≤ 9223372036854775807) (hz_C : SzR C 9223372036854775807) (hr_C : RdC w w.heap.size A C) (hn_l : l.length = m) (hm_l : m ≤ 9223372036854775807) (hz_l : SzL l) (hr_l : RdL w w.heap.size B l) :
    Calls Try.prog 8 #[.slice A n c, .slice B m d] w fun e w' => e = .returned (.bool true) ∧ Below w.heap.size w w' := by
  have HNC := Lib.hid hn_C
  have HRC := Lib.hid hr_C
  have HS0C := Lib.hid hz_C
  have HNl := Lib.hid hn_l
  have HRl := Lib.hid hr_l
  have HS0l := Lib.hid hz_l
  clear hn_C hr_C hz_C hn_l hr_l hz_l
  go_enter Try.func8, Try.ntmps8
  have kb0 := Below.refl w.heap.size w
  have hr := HRC.out.next kb0
  go_wp2_with fail
  refine (szLabelSS_any A n c C _ _ HNC.out hm_C HS0C.out (by omega) (by omega) hr).mono ?_
  rintro e w1 ⟨r0, rfl, q0a, q0b, q0c, ho1⟩
  have s1 := ho1.size
  have kb1 := kept_trans kb0 ho1
  clear ho1 kb0 hr
  have HQC := Lib.hid q0c
  clear q0c
  by_cases hneg0 : r0 < 0
  · go_wp2
    go_ret
    exact ⟨rfl, kb1⟩
  have hm2C : n ≤ 1048576 := by have := HQC.out (by omega); omega
  have hr := RdG.next HRl.out kb1
  go_wp2_with fail
  refine (szLabelS_any B m d l _ _ HNl.out hm_l HS0l.out (by omega) (by omega) hr).mono ?_
  rintro e w2 ⟨r1, rfl, q1a, q1b, q1c, ho2⟩
  have s2 := ho2.size
  have kb2 := kept_trans kb1 ho2
  clear ho2 kb1 hr
  have HQl := Lib.hid q1c
  clear q1c
  by_cases hneg1 : r1 < 0
  · go_wp2
    go_ret
    exact ⟨rfl, kb2⟩
  have hm2l : m ≤ 1048576 := by have := HQl.out (by omega); omega
  have HSC := Lib.hid (HQC.out (by omega)).2.szR
  have HTC := Lib.hid (HSC.out.mono (b := 1000000000000) (by omega))
  have HLC := Lib.hid (fun i (hi : i < n) => (HSC.out i (by rw [HNC.out]; exact hi)).2)
  have hD := adR_ok (C := C) (l := l) HTC.out HS0l.out
  obtain ⟨D, hD1⟩ : ∃ D, adC (adV C l) = D := ⟨_, rfl⟩
  obtain ⟨N, hD2⟩ : ∃ N, adN (adV C l) = N := ⟨_, rfl⟩
  obtain ⟨bb, hD3⟩ : ∃ bb, (adV C l).isSome = bb := ⟨_, rfl⟩
  rw [hD1] at hD
  have hD8 := hD.1
  have HD := Lib.hid hD.2
  have HPL := Lib.hid (And.intro hD1 (And.intro hD2 hD3))
  clear hD hD1 hD2 hD3
  have hNN : (N != N) = false := by simp
  have hBB : (bb != bb) = false := by simp
  have hr := HRC.out.next kb2
  go_wp2_with fail
  refine (toLabelSS_any A n c C _ HNC.out hm2C HSC.out hr).mono ?_
  rintro e w3 ⟨g3, f3, rfl, hf3, ho3⟩
  have s3 := ho3.size
  have kb3 := kept_trans kb2 ho3
  have yC3 := hf3.ownC HNC.out hm2C HLC.out
  clear ho3 kb2 hr hf3
  have hr := RdG.next HRl.out kb3
  go_wp2_with fail
  refine (toLabelS_any B m d l _ HNl.out hm2l hr).mono ?_
  rintro e w4 ⟨g4, rfl, hg4, hf4, ho4⟩
  have s4 := ho4.size
  have kb4 := kept_trans kb3 ho4
  have yC4 := yC3.kept ho4
  have yl4 := hf4
  clear ho4 kb3 hr yC3 hf4 hg4
  go_wp2_with fail
  refine (specAddSeries_g _ n n C _ m m l _ D N bb HNC.out HNl.out (by omega) (by omega) (by omega) HTC.out HS0l.out yC4.rdC (yl4.rdG HNl.out) HPL).mono ?_
  rintro e w5 ⟨A5, c5, vs5, rfl, hr_5, ho5⟩
  have s5 := ho5.size
  have kb5 := kept_trans kb4 ho5
  have W5 := hr_5.rdC
  clear ho5 kb4 yC4 yl4 hr_5
  have hr := HRC.out.next kb5
  go_wp2_with fail
  refine (toLabelSS_any A n c C _ HNC.out hm2C HSC.out hr).mono ?_
  rintro e w6 ⟨g6, f6, rfl, hf6, ho6⟩
  have s6 := ho6.size
  have kb6 := kept_trans kb5 ho6
  have W6 : RdC w6 w5.heap.size A5 D := RdC.below W5 (ho6.mono (by omega))
  have xC6 := hf6.ownC HNC.out hm2C HLC.out
  clear ho6 kb5 hr W5 hf6
  have HUC := Lib.hid xC6.under
  have hr := RdG.next HRl.out kb6
  go_wp2_with fail
  refine (toLabelS_any B m d l _ HNl.out hm2l hr).mono ?_
  rintro e w7 ⟨g7, rfl, hg7, hf7, ho7⟩
  have s7 := ho7.size
  have kb7 := kept_trans kb6 ho7
  have W7 : RdC w7 w5.heap.size A5 D := RdC.below W6 (ho7.mono (by omega))
  have xC7 := xC6.kept ho7
  have xl7 := hf7
  clear ho7 kb6 hr W6 xC6 hf7
  have l7 := xl7.lt
  go_wp2_with fail
  refine (addSeries_g _ n n C _ m m l _ D N bb HNC.out HNl.out (by omega) xC7.rdC (xl7.rdG HNl.out) HPL).mono ?_
  rintro e w8 ⟨A8, c8, vs8, rfl, hr_8, ho8⟩
  have s8 := ho8.size
  have kb8 := kept_trans kb7 ho8
  have W8 : RdC w8 w5.heap.size A5 D := RdC.below W7 (ho8.mono (by omega))
  have xC8 := xC7.kept ho8
  have xl8 := xl7.kept ho8
  have G8 := hr_8
  clear ho8 kb7 W7 xC7 xl7 hr_8
  go_wp2_with fail
  refine (eqLabelSS_same _ _ _ _ _ D _ rfl (by omega) HD.out.1 G8.rdC (W8.mono (by omega))).mono ?_
  rintro e w9 ⟨rfl, ho9⟩
  have s9 := ho9.size
  have kb9 := kept_trans kb8 ho9
  have W9 : RdC w9 w5.heap.size A5 D := RdC.below W8 (ho9.mono (by omega))
  have xC9 := xC8.kept ho9
  have xl9 := xl8.kept ho9
  have G9 := G8.kept ho9
  clear ho9 kb8 W8 xC8 xl8 G8
  have hr := HRC.out.next kb9
  go_wp2_with fail
  refine (toLabelSS_any A n c C _ HNC.out hm2C HSC.out hr).mono ?_
  rintro e w10 ⟨g10, f10, rfl, hf10, ho10⟩
  have s10 := ho10.size
  have kb10 := kept_trans kb9 ho10
  have W10 : RdC w10 w5.heap.size A5 D := RdC.below W9 (ho10.mono (by omega))
  have xC10 := xC9.kept ho10
  have xl10 := xl9.kept ho10
  have G10 := G9.kept ho10
  have z10 := hf10
  clear ho10 kb9 hr W9 xC9 xl9 G9 hf10
  go_wp2_with fail
  refine (eqLabelSS_same _ n n _ n C _ HNC.out (by omega) HTC.out xC10.rdC (z10.rdC HNC.out)).mono ?_
  rintro e w11 ⟨rfl, ho11⟩
  have s11 := ho11.size
  have kb11 := kept_trans kb10 ho11
  have W11 : RdC w11 w5.heap.size A5 D := RdC.below W10 (ho11.mono (by omega))
  have xC11 := xC10.kept ho11
  have xl11 := xl10.kept ho11
  have G11 := G10.kept ho11
  clear ho11 kb10 W10 xC10 xl10 G10 z10
  have hr := RdG.next HRl.out kb11
  go_wp2_with fail
  refine (toLabelS_any B m d l _ HNl.out hm2l hr).mono ?_
  rintro e w12 ⟨g12, rfl, hg12, hf12, ho12⟩
  have s12 := ho12.size
  have kb12 := kept_trans kb11 ho12
  have W12 : RdC w12 w5.heap.size A5 D := RdC.below W11 (ho12.mono (by omega))
  have xC12 := xC11.kept ho12
  have xl12 := xl11.kept ho12
  have G12 := G11.kept ho12
  have z12 := hf12
  clear ho12 kb11 hr W11 xC11 xl11 G11 hf12 hg12
  go_wp2_with fail
  refine (eqLabelS_same _ m m _ m l _ HNl.out (by omega) (xl12.rdG HNl.out) (z12.rdG HNl.out)).mono ?_
  rintro e w13 ⟨rfl, ho13⟩
  have s13 := ho13.size
  have kb13 := kept_trans kb12 ho13
  have W13 : RdC w13 w5.heap.size A5 D := RdC.below W12 (ho13.mono (by omega))
  have xC13 := xC12.kept ho13
  have xl13 := xl12.kept ho13
  have G13 := G12.kept ho13
  clear ho13 kb12 W12 xC12 xl12 G12 z12
  have htot := totL_le C 1048576 n HLC.out
  go_wp2_with fail
  refine (markLabelSS_any _ w6.heap.size _ n n C _ 1 _ hm2C HLC.out (by omega) (by omega) xC13 HUC.out).mono ?_
  rintro e w14 ⟨rfl, _, ho14⟩
  have s14 := ho14.size
  have kb14 := ho14.below kb13 (by omega)
  have W14 : RdC w14 w5.heap.size A5 D := ho14.rdC W13 (by omega) (by omega)
  have xl14 := ho14.filled xl13 (by omega)
  have G14 := ho14.ownC G13 (by omega)
  clear ho14 kb13 W13 xC13 xl13 G13
  generalize htt : totL C n = tt at *
  clear htt
  go_wp2_with fail
  refine (markLabelS_any _ m m _ _ _ _ _ hm2l (by omega) (by omega) xl14).mono ?_
  rintro e w15 ⟨rfl, _, ho15⟩
  have s15 := ho15.size
  have kb15 := Only.below kb14 ho15 (by omega)
  have W15 : RdC w15 w5.heap.size A5 D := RdC.only W14 ho15 (by omega) (by omega)
  have G15 := G14.only ho15 (by omega)
  clear ho15 kb14 W14 xl14 G14
  have hd : ¬ ((1 + 2 * (tt : Int) + ((2 : Nat) : Int) * (m : Int)) < 0) := by omega
  have hd2 : decide ((1 + 2 * (tt : Int) + ((2 : Nat) : Int) * (m : Int)) < 0) = false := decide_eq_false hd
  go_wp2_with fail
  refine (eqLabelSS_same _ _ _ _ _ D _ rfl (by omega) HD.out.1 G15.rdC (W15.mono (by omega))).mono ?_
  rintro e w16 ⟨rfl, ho16⟩
  have s16 := ho16.size
  have kb16 := kept_trans kb15 ho16
  have W16 : RdC w16 w5.heap.size A5 D := RdC.below W15 (ho16.mono (by omega))
  have G16 := G15.kept ho16
  clear ho16 kb15 W15 G15
  clear hd hd2
  have hGu := G16.under
  have hGl := G16.2.1
  have htotD := totL_le D 4 D.length HD.out.2
  go_wp2_with fail
  refine (markLabelSS_any _ w16.heap.size _ _ _ D _ 1 _ (by omega) (fun i hi => by have := HD.out.2 i hi; omega) (by omega) (by omega) G16 hGu).mono ?_
  rintro e w17 ⟨rfl, hm_, ho17⟩
  have s17 := ho17.size
  have kb17 := ho17.below kb16 (by omega)
  have W17 : RdC w17 w5.heap.size A5 D := ho17.rdC W16 (by omega) (by omega)
  have G17 := hm_
  clear ho17 kb16 W16 G16 hm_ hGu
  go_wp2_with fail
  refine (heldLabelSS_any _ _ _ D 1 _ rfl (by omega) (fun i hi => by have := HD.out.2 i hi; omega) (by omega) (by omega) (G17.rd rfl hGl)).mono ?_
  rintro e w18 ⟨rfl, ho18⟩
  have s18 := ho18.size
  have kb18 := kept_trans kb17 ho18
  have W18 : RdC w18 w5.heap.size A5 D := RdC.below W17 (ho18.mono (by omega))
  have G18 := G17.kept ho18
  clear ho18 kb17 W17 G17
  have hr := HRC.out.next kb18
  go_wp2_with fail
  refine (toLabelSS_any A n c C _ HNC.out hm2C HSC.out hr).mono ?_
  rintro e w19 ⟨g19, f19, rfl, hf19, ho19⟩
  have s19 := ho19.size
  have kb19 := kept_trans kb18 ho19
  have W19 : RdC w19 w5.heap.size A5 D := RdC.below W18 (ho19.mono (by omega))
  have G19 := G18.kept ho19
  have yC19 := hf19.ownC HNC.out hm2C HLC.out
  clear ho19 kb18 hr W18 G18 hf19
  have hr := RdG.next HRl.out kb19
  go_wp2_with fail
  refine (toLabelS_any B m d l _ HNl.out hm2l hr).mono ?_
  rintro e w20 ⟨g20, rfl, hg20, hf20, ho20⟩
  have s20 := ho20.size
  have kb20 := kept_trans kb19 ho20
  have W20 : RdC w20 w5.heap.size A5 D := RdC.below W19 (ho20.mono (by omega))
  have G20 := G19.kept ho20
  have yC20 := yC19.kept ho20
  have yl20 := hf20
  clear ho20 kb19 hr W19 G19 yC19 hf20 hg20
  go_wp2_with fail
  refine (addSeries_g _ n n C _ m m l _ D N bb HNC.out HNl.out (by omega) yC20.rdC (yl20.rdG HNl.out) HPL).mono ?_
  rintro e w21 ⟨A21, c21, vs21, rfl, hr_21, ho21⟩
  have s21 := ho21.size
  have kb21 := kept_trans kb20 ho21
  have W21 : RdC w21 w5.heap.size A5 D := RdC.below W20 (ho21.mono (by omega))
  have G21 := G20.kept ho21
  have H21 := hr_21
  clear ho21 kb20 W20 G20 yC20 yl20 hr_21
  go_wp2_with fail
  refine (eqLabelSS_same _ _ _ _ _ D _ rfl (by omega) HD.out.1 H21.rdC (W21.mono (by omega))).mono ?_
  rintro e w22 ⟨rfl, ho22⟩
  have s22 := ho22.size
  have kb22 := kept_trans kb21 ho22
  have G22 := G21.kept ho22
  clear ho22 kb21 W21 G21 H21
  go_wp2_with fail
  refine (heldLabelSS_any _ _ _ D 1 _ rfl (by omega) (fun i hi => by have := HD.out.2 i hi; omega) (by omega) (by omega) (G22.rd rfl hGl)).mono ?_
  rintro e w23 ⟨rfl, ho23⟩
  have s23 := ho23.size
  have kb23 := kept_trans kb22 ho23
  have G23 := G22.kept ho23
  clear ho23 kb22 G22
  have hlast := kb23
  go_wp2
  go_ret
  exact ⟨rfl, hlast⟩
end Go.Proofs.Ytmnfcfhnmndakaa
