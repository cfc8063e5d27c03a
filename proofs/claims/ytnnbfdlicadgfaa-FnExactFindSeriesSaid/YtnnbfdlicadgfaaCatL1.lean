/-
  Walks: FnExactValidCatalog, FnExactFindSeries.
-/
import Derived.Test.YtnnbfdlicadgfaaCatW3
namespace Go.Proofs.Ytnnbfdlicadgfaa
open Go.RowKit
set_option maxHeartbeats 2000000 in
theorem fnExactValidCatalog_any (A : Option Addr) (n c : Nat) (C : Ct) (w : World) (hn : C.length = n) (hm : n ≤ 9223372036854775807) (hz : SzR C 9223372036854775807) (hr : RdC w w.heap.size A C) :
    Calls Try.prog 8 #[.slice A n c] w fun e w' => e = .returned (.bool true) ∧ Below w.heap.size w w' := by
  have HN := Lib.hid hn
  have HR := Lib.hid hr
  clear hn
  go_enter Try.func8, Try.ntmps8
  go_wp2_with fail
  refine (szLabelSS_any A n c C _ _ HN.out hm hz (by omega) (by omega) hr).mono ?_
  rintro e w1 ⟨r, rfl, r0, r1, r2, hb1⟩
  have HZ := Lib.hid r2
  clear hr r2 hz
  by_cases hneg : r < 0
  · go_wp2
    go_ret
    exact ⟨rfl, hb1⟩
  · have hm2 : n ≤ 1048576 := by have := HZ.out (by omega); omega
    have HS := Lib.hid (HZ.out (by omega)).2.szR
    have HT := Lib.hid (HS.out.mono (b := 1000000000000) (by omega))
    have hr1 := HR.out.next hb1
    go_wp2_with fail
    refine (toLabelSS_any A n c C _ HN.out hm2 HS.out hr1).mono ?_
    rintro e w2 ⟨g2, f2, rfl, hf2, hb2⟩
    have kb2 := kept_trans hb1 hb2
    clear hr1 hb1 hb2
    go_wp2_with fail
    refine (specValidCatalogE_any _ n n C _ HN.out (by omega) (by omega) HT.out (hf2.rdC HN.out)).mono ?_
    rintro e w3 ⟨rfl, hb3⟩
    have kb3 := kept_trans kb2 hb3
    have hr3 := HR.out.next kb3
    clear kb2 hb3 hf2
    go_wp2_with fail
    refine (toLabelSS_any A n c C _ HN.out hm2 HS.out hr3).mono ?_
    rintro e w4 ⟨g4, f4, rfl, hf4, hb4⟩
    have kb4 := kept_trans kb3 hb4
    clear hr3 kb3 hb4
    go_wp2_with fail
    refine (validCatalog_any _ n n C _ HN.out (by omega) (hf4.rdC HN.out)).mono ?_
    rintro e w5 ⟨rfl, hb5⟩
    have kb5 := kept_trans kb4 hb5
    have hf5 := hf4.kept hb5
    have hr5 := HR.out.next kb5
    clear kb4 hb5 hf4
    go_wp2_with fail
    refine (toLabelSS_any A n c C _ HN.out hm2 HS.out hr5).mono ?_
    rintro e w6 ⟨g6, f6, rfl, hf6, hb6⟩
    have kb6 := kept_trans kb5 hb6
    have hf7 := hf5.kept hb6
    clear hr5 kb5 hb6 hf5
    go_wp2_with fail
    refine (eqLabelSS_same _ n n _ n C _ HN.out (by omega) HT.out (hf7.rdC HN.out) (hf6.rdC HN.out)).mono ?_
    rintro e w8 ⟨rfl, hb8⟩
    go_wp2
    go_ret
    exact ⟨rfl, kept_trans kb6 hb8⟩
set_option maxHeartbeats 4000000 in
theorem fnExactFindSeries_any (A : Option Addr) (n c : Nat) (C : Ct) (B : Option Addr) (m d : Nat) (l : List Lb) (w : World) (hn : C.length = n) (hm : n ≤ 9223372036854775807) (hz : SzR C 9223372036854775807) (hr : RdC w w.heap.size A C)
    (hnl : l.length = m) (hml : m ≤ 9223372036854775807) (hzl : SzL l) (hrl : RdL w w.heap.size B l) :
    Calls Try.prog 9 #[.slice A n c, .slice B m d] w fun e w' => e = .returned (.bool true) ∧ Below w.heap.size w w' := by
  have HN := Lib.hid hn
  have HR := Lib.hid hr
  have HNL := Lib.hid hnl
  have HRL := Lib.hid hrl
  have HSL := Lib.hid hzl
  clear hn hnl hrl hzl
  go_enter Try.func9, Try.ntmps9
  go_wp2_with fail
  refine (szLabelSS_any A n c C _ _ HN.out hm hz (by omega) (by omega) hr).mono ?_
  rintro e w1 ⟨r, rfl, r0, r1, r2, hb1⟩
  have HZ := Lib.hid r2
  clear hr r2 hz
  by_cases hneg : r < 0
  · go_wp2
    go_ret
    exact ⟨rfl, hb1⟩
  · have hm2 : n ≤ 1048576 := by have := HZ.out (by omega); omega
    have HS := Lib.hid (HZ.out (by omega)).2.szR
    have HT := Lib.hid (HS.out.mono (b := 1000000000000) (by omega))
    have hl1 := RdG.next HRL.out hb1
    go_wp2_with fail
    refine (szLabelS_any B m d l _ _ HNL.out hml HSL.out (by omega) (by omega) hl1).mono ?_
    rintro e w2 ⟨r', rfl, s0, s1, s2, hb2⟩
    have HZL := Lib.hid s2
    have kb2 := kept_trans hb1 hb2
    clear hb1 hb2 hl1 s2
    by_cases hneg' : r' < 0
    · go_wp2
      go_ret
      exact ⟨rfl, kb2⟩
    · have hml2 : m ≤ 1048576 := by have := HZL.out (by omega); omega
      have hr2 := HR.out.next kb2
      have hl2 := RdG.next HRL.out kb2
      go_wp2_with fail
      refine (toLabelSS_any A n c C _ HN.out hm2 HS.out hr2).mono ?_
      rintro e w3 ⟨g3, f3, rfl, hf3, hb3⟩
      have kb3 := kept_trans kb2 hb3
      have hl3 := RdG.next hl2 hb3
      clear hr2 hl2 kb2 hb3
      go_wp2_with fail
      refine (toLabelS_any B m d l _ HNL.out hml2 hl3).mono ?_
      rintro e w4 ⟨g4, rfl, hg4, hf4, hb4⟩
      have kb4 := kept_trans kb3 hb4
      have hf3' := hf3.kept hb4
      clear hl3 kb3 hb4 hf3 hg4
      go_wp2_with fail
      refine (specFindSeries_any _ n n C _ m m l _ HN.out HNL.out (by omega) (by omega) (by omega) HT.out HSL.out (hf3'.rdC HN.out) (hf4.rdG HNL.out)).mono ?_
      rintro e w5 ⟨rfl, hb5⟩
      have kb5 := kept_trans kb4 hb5
      have hr5 := HR.out.next kb5
      clear kb4 hb5 hf3' hf4
      go_wp2_with fail
      refine (toLabelSS_any A n c C _ HN.out hm2 HS.out hr5).mono ?_
      rintro e w6 ⟨g6, f6, rfl, hf6, hb6⟩
      have kb6 := kept_trans kb5 hb6
      have hl6 := RdG.next HRL.out kb6
      clear hr5 kb5 hb6
      go_wp2_with fail
      refine (toLabelS_any B m d l _ HNL.out hml2 hl6).mono ?_
      rintro e w7 ⟨g7, rfl, hg7, hf7, hb7⟩
      have kb7 := kept_trans kb6 hb7
      have hf6' := hf6.kept hb7
      clear hl6 kb6 hb7 hf6 hg7
      go_wp2_with fail
      refine (findSeries_any _ n n C _ m m l _ HN.out HNL.out (by omega) (hf6'.rdC HN.out) (hf7.rdG HNL.out)).mono ?_
      rintro e w8 ⟨rfl, hb8⟩
      have kb8 := kept_trans kb7 hb8
      have hf8 := hf6'.kept hb8
      have hf8' := hf7.kept hb8
      have hr8 := HR.out.next kb8
      clear kb7 hb8 hf6' hf7
      go_wp2_with fail
      refine (toLabelSS_any A n c C _ HN.out hm2 HS.out hr8).mono ?_
      rintro e w9 ⟨g9, f9, rfl, hf9, hb9⟩
      have kb9 := kept_trans kb8 hb9
      have hfa := hf8.kept hb9
      have hfb := hf8'.kept hb9
      clear hr8 kb8 hb9 hf8 hf8'
      go_wp2_with fail
      refine (eqLabelSS_same _ n n _ n C _ HN.out (by omega) HT.out (hfa.rdC HN.out) (hf9.rdC HN.out)).mono ?_
      rintro e w10 ⟨rfl, hb10⟩
      have kb10 := kept_trans kb9 hb10
      have hfc := hfb.kept hb10
      have hl10 := RdG.next HRL.out kb10
      clear kb9 hb10 hfa hfb hf9
      go_wp2_with fail
      refine (toLabelS_any B m d l _ HNL.out hml2 hl10).mono ?_
      rintro e w11 ⟨g11, rfl, hg11, hf11, hb11⟩
      have kb11 := kept_trans kb10 hb11
      have hfd := hfc.kept hb11
      clear hl10 kb10 hb11 hfc hg11
      go_wp2_with fail
      refine (eqLabelS_same _ m m _ m l _ HNL.out (by omega) (hfd.rdG HNL.out) (hf11.rdG HNL.out)).mono ?_
      rintro e w12 ⟨rfl, hb12⟩
      go_wp2
      go_ret
      exact ⟨rfl, kept_trans kb11 hb12⟩
end Go.Proofs.Ytnnbfdlicadgfaa
