/-
  Walk: FnExactKeepLabels.
-/
import Derived.Test.YtjmdcdeccchlcaaKeepFn2
import Derived.Test.YtjmdcdeccchlcaaKeepW
import Derived.Test.YtjmdcdeccchlcaaStrCopy
namespace Go.Proofs.Ytjmdcdeccchlcaa
open Go.RowKit
set_option maxHeartbeats 8000000 in
theorem fnExactKeepLabels_any (A : Option Addr) (n c : Nat) (l : List Lb) (B : Option Addr) (m d : Nat) (names : List ByteArray) (w : World) (hn : l.length = n) (hm : n ≤ 9223372036854775807) (hz : SzL l) (hr : RdL w w.heap.size A l)
    (hn' : names.length = m) (hm' : m ≤ 9223372036854775807) (hz' : SzS names) (hr' : RdS w w.heap.size B names) :
    Calls Try.prog 14 #[.slice A n c, .slice B m d] w fun e w' => e = .returned (.bool true) ∧ Below w.heap.size w w' := by
  have HN := Lib.hid hn
  have HM := Lib.hid hn'
  have HR := Lib.hid hr
  have HR' := Lib.hid hr'
  have hlen := keepV_len l names
  rw [hn] at hlen
  clear hn hn' hr'
  go_enter Try.func14, Try.ntmps14
  go_wp2_with fail
  refine (szLabelS_any A n c l _ _ HN.out hm hz (by omega) (by omega) hr).mono ?_
  rintro e w1 ⟨r, rfl, r0, r1, r2, hb1⟩
  have HZ := Lib.hid r2
  have HS := Lib.hid (And.intro hz hz')
  clear hr r2 hz
  by_cases hneg : r < 0
  · go_wp2
    go_ret
    exact ⟨rfl, hb1⟩
  · have hm2 : n ≤ 1048576 := by have := HZ.out (by omega); omega
    have hr1 := HR'.out.to hb1
    go_wp2_with fail
    refine (szStringS_any B m d names r _ HM.out hm' HS.out.2 (by omega) (by omega) hr1).mono ?_
    rintro e w2 ⟨r', rfl, r0', r1', r2', rfl⟩
    have HZ' := Lib.hid r2'
    clear hr1 r2' hz'
    by_cases hneg' : r' < 0
    · go_wp2
      go_ret
      exact ⟨rfl, hb1⟩
    · have hm2' : m ≤ 1048576 := by have := HZ'.out (by omega); omega
      generalize hL : keepV l names = L at hlen
      have HL := Lib.hid hL
      have hr2 := HR.out.to hb1
      clear hL
      -- w0
      go_wp2_with fail
      refine (toLabelS_any A n c l _ HN.out hm2 hr2).mono ?_
      rintro e w3 ⟨g3, rfl, hg3, hf3, hb3⟩
      have kb3 := kept_trans hb1 hb3
      have hr3 := HR'.out.to kb3
      clear hr2 hb1 hb3 hg3
      go_wp2_with fail
      refine (toStringS_any B m d names _ HM.out hm2' hr3).mono ?_
      rintro e w4 ⟨g4, rfl, hg4, hf4, hb4⟩
      have kb4 := kept_trans kb3 hb4
      have hf3' := hf3.kept hb4
      clear hr3 kb3 hb4 hg4 hf3
      go_wp2_with fail
      refine (specKeepLabels_any _ n n l _ m m names _ HN.out (by omega) HS.out.1 (hf3'.rdG HN.out) HM.out (by omega) (hf4.rdG HM.out)).mono ?_
      rw [HL.out]
      rintro e w5 ⟨A5, c5, rfl, hown5, hb5⟩
      have kb5 := kept_trans kb4 hb5
      have hW5 := own_rdG hown5 rfl
      have hr5 := HR.out.to kb5
      have s5 := kb5.size
      clear kb4 hb5 hf3' hf4 hown5
      -- x0, x1
      go_wp2_with fail
      refine (toLabelS_any A n c l _ HN.out hm2 hr5).mono ?_
      rintro e w6 ⟨g6, rfl, hg6, hf6, hb6⟩
      have kb6 := kept_trans kb5 hb6
      have hW6 := hW5.below hb6
      have s6 := hb6.size
      have hr6 := HR'.out.to kb6
      have l6 := hf6.lt
      clear hr5 kb5 hb6 hW5
      go_wp2_with fail
      refine (toStringS_any B m d names _ HM.out hm2' hr6).mono ?_
      rintro e w7 ⟨g7, rfl, hg7, hf7, hb7⟩
      have kb7 := kept_trans kb6 hb7
      have hW7 := hW6.below (hb7.mono s6)
      have hf6' := hf6.kept hb7
      have s7 := hb7.size
      have l7 := hf7.lt
      clear hr6 kb6 hb7 hW6 hf6
      -- g0
      go_wp2_with fail
      refine (keepLabels_any _ n n l _ m m names _ HN.out (hf6'.rdG HN.out) HM.out (by omega) (hf7.rdG HM.out)).mono ?_
      rw [HL.out]
      rintro e w8 ⟨A8, c8, rfl, hown8, hb8⟩
      have kb8 := kept_trans kb7 hb8
      have hW8 := hW7.below (hb8.mono (by omega))
      have hf8 := hf6'.kept hb8
      have hf8' := hf7.kept hb8
      have s8 := hb8.size
      clear kb7 hb8 hW7 hf6' hf7
      go_wp2_with fail
      refine (eqLabelS_same _ _ _ _ _ L _ rfl (by omega) (own_rdG hown8 rfl) (hW8.mono (by omega))).mono ?_
      rintro e w9 ⟨rfl, hb9⟩
      have kb9 := kept_trans kb8 hb9
      have hW9 := hW8.below (hb9.mono (by omega))
      have hf9 := hf8.kept hb9
      have hf9' := hf8'.kept hb9
      have hown9 := own_kept hown8 hb9
      have s9 := hb9.size
      have hr9 := HR.out.to kb9
      clear kb8 hb9 hW8 hf8 hf8' hown8
      -- eqLabelS(x0, toLabelS(aList))
      go_wp2_with fail
      refine (toLabelS_any A n c l _ HN.out hm2 hr9).mono ?_
      rintro e w10 ⟨g10, rfl, hg10, hf10, hb10⟩
      have kb10 := kept_trans kb9 hb10
      have hW10 := hW9.below (hb10.mono (by omega))
      have hx10 := hf9.kept hb10
      have hx10' := hf9'.kept hb10
      have hown10 := own_kept hown9 hb10
      have s10 := hb10.size
      clear hr9 kb9 hb10 hW9 hf9 hf9' hown9 hg10
      go_wp2_with fail
      refine (eqLabelS_same _ n n _ n l _ HN.out (by omega) (hx10.rdG HN.out) (hf10.rdG HN.out)).mono ?_
      rintro e w11 ⟨rfl, hb11⟩
      have kb11 := kept_trans kb10 hb11
      have hW11 := hW10.below (hb11.mono (by omega))
      have hx11 := hx10.kept hb11
      have hx11' := hx10'.kept hb11
      have hown11 := own_kept hown10 hb11
      have s11 := hb11.size
      have hr11 := HR'.out.to kb11
      clear kb10 hb11 hW10 hf10 hx10 hx10' hown10
      -- eqStringS(x1, toStringS(aNames))
      go_wp2_with fail
      refine (toStringS_any B m d names _ HM.out hm2' hr11).mono ?_
      rintro e w12 ⟨g12, rfl, hg12, hf12, hb12⟩
      have kb12 := kept_trans kb11 hb12
      have hW12 := hW11.below (hb12.mono (by omega))
      have hx12 := hx11.kept hb12
      have hx12' := hx11'.kept hb12
      have hown12 := own_kept hown11 hb12
      have s12 := hb12.size
      clear hr11 kb11 hb12 hW11 hx11 hx11' hown11 hg12
      go_wp2_with fail
      refine (eqStringS_same _ m m _ m names _ HM.out (by omega) (hx12'.rdG HM.out) (hf12.rdG HM.out)).mono ?_
      rintro e w13 ⟨rfl, hb13⟩
      have kb13 := kept_trans kb12 hb13
      have hW13 := hW12.below (hb13.mono (by omega))
      have hx13 := hx12.kept hb13
      have hx13' := hx12'.kept hb13
      have hown13 := own_kept hown12 hb13
      have s13 := hb13.size
      clear kb12 hb13 hW12 hf12 hx12 hx12' hown12
      -- marks of x0, x1
      go_wp2_with fail
      refine (markLabelS_any g6 n n _ _ _ 1 _ hm2 (by omega) (by omega) hx13).mono ?_
      rintro e w14 ⟨rfl, hf14, ho14⟩
      have kb14 := Only.below kb13 ho14 (by omega)
      have s14 := ho14.size
      have hW14 : RdL w14 w5.heap.size A5 L := Rd.only hW13 ho14 hg6 (by omega)
      have hown14 := Only.own hown13 ho14 (by omega)
      have hx14' := Only.filled hx13' ho14 (by omega)
      clear kb13 ho14 hW13 hx13 hx13' hown13 hf14
      go_wp2_with fail
      refine (markStringS_any g7 m m _ _ _ _ _ hm2' (by omega) (by omega) hx14').mono ?_
      rintro e w15 ⟨rfl, hf15, ho15⟩
      have kb15 := Only.below kb14 ho15 (by omega)
      have s15 := ho15.size
      have hW15 : RdL w15 w5.heap.size A5 L := Rd.only hW14 ho15 (by omega) (by omega)
      have hown15 := Only.own hown14 ho15 (by omega)
      have hd : ¬ ((1 : Int) + ((2 : Nat) : Int) * (n : Int) + ((1 : Nat) : Int) * (m : Int) < 0) := by omega
      have hd2 : decide ((1 : Int) + ((2 : Nat) : Int) * (n : Int) + ((1 : Nat) : Int) * (m : Int) < 0) = false := decide_eq_false hd
      clear kb14 ho15 hW14 hx14' hown14 hf15
      go_wp2_with fail
      refine (eqLabelS_same _ _ _ _ _ L _ rfl (by omega) (own_rdG hown15 rfl) (hW15.mono (by omega))).mono ?_
      rintro e w16 ⟨rfl, hb16⟩
      have kb16 := kept_trans kb15 hb16
      have hW16 := hW15.below (hb16.mono (by omega))
      have hown16 := own_kept hown15 hb16
      have s16 := hb16.size
      clear kb15 hb16 hW15 hown15 hd hd2
      go_wp2_with fail
      refine (markOwnL_any _ _ _ _ _ _ 1 _ (by omega) (by omega) (by omega) hown16).mono ?_
      rintro e w17 ⟨rfl, hown17, hg17⟩
      have kb17 := below_mark kb16 hown16 hg17 (by omega)
      have s17 := hg17.size
      have hW17 : RdL w17 w5.heap.size A5 L := Rd.marked hW16 hown16 hg17 (by omega) (by omega)
      clear kb16 hg17 hW16 hown16
      go_wp2_with fail
      refine (heldLabelS_any _ _ _ 1 _ (by omega) (by omega) (by omega) (own_rdT hown17)).mono ?_
      rintro e w18 ⟨rfl, hb18⟩
      have kb18 := kept_trans kb17 hb18
      have hW18 := hW17.below (hb18.mono (by omega))
      have hown18 := own_kept hown17 hb18
      have s18 := hb18.size
      have hr18 := HR.out.to kb18
      clear kb17 hb18 hW17 hown17
      -- h0
      go_wp2_with fail
      refine (toLabelS_any A n c l _ HN.out hm2 hr18).mono ?_
      rintro e w19 ⟨g19, rfl, hg19, hf19, hb19⟩
      have kb19 := kept_trans kb18 hb19
      have hW19 := hW18.below (hb19.mono (by omega))
      have hown19 := own_kept hown18 hb19
      have s19 := hb19.size
      have hr19 := HR'.out.to kb19
      clear hr18 kb18 hb19 hW18 hown18 hg19
      go_wp2_with fail
      refine (toStringS_any B m d names _ HM.out hm2' hr19).mono ?_
      rintro e w20 ⟨g20, rfl, hg20, hf20, hb20⟩
      have kb20 := kept_trans kb19 hb20
      have hW20 := hW19.below (hb20.mono (by omega))
      have hown20 := own_kept hown19 hb20
      have hf19' := hf19.kept hb20
      have s20 := hb20.size
      clear hr19 kb19 hb20 hW19 hown19 hg20 hf19
      go_wp2_with fail
      refine (keepLabels_any _ n n l _ m m names _ HN.out (hf19'.rdG HN.out) HM.out (by omega) (hf20.rdG HM.out)).mono ?_
      rw [HL.out]
      rintro e w21 ⟨A21, c21, rfl, hown21, hb21⟩
      have kb21 := kept_trans kb20 hb21
      have hW21 := hW20.below (hb21.mono (by omega))
      have hown21' := own_kept hown20 hb21
      have s21 := hb21.size
      clear kb20 hb21 hW20 hown20 hf19' hf20
      go_wp2_with fail
      refine (eqLabelS_same _ _ _ _ _ L _ rfl (by omega) (own_rdG hown21 rfl) (hW21.mono (by omega))).mono ?_
      rintro e w22 ⟨rfl, hb22⟩
      have kb22 := kept_trans kb21 hb22
      have hown22 := own_kept hown21' hb22
      clear kb21 hb22 hW21 hown21 hown21'
      go_wp2_with fail
      refine (heldLabelS_any _ _ _ 1 _ (by omega) (by omega) (by omega) (own_rdT hown22)).mono ?_
      rintro e w23 ⟨rfl, hb23⟩
      have kb23 := kept_trans kb22 hb23
      clear hown22 kb22 hb23
      go_wp2
      go_ret
      exact ⟨rfl, kb23⟩
end Go.Proofs.Ytjmdcdeccchlcaa
