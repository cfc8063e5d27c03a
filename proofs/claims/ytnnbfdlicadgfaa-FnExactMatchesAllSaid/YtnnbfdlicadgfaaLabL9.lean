/-
  Walk: FnExactMatchesAll.
-/
import Derived.Test.YtnnbfdlicadgfaaMAW
namespace Go.Proofs.Ytnnbfdlicadgfaa
open Go.RowKit
set_option maxHeartbeats 4000000 in
theorem fnExactMatchesAll_any (A : Option Addr) (n c : Nat) (l : List Lb) (A' : Option Addr) (n' c' : Nat) (l' : List Mt) (w : World) (hn : l.length = n) (hm : n ≤ 9223372036854775807) (hz : SzL l) (hr : RdL w w.heap.size A l) (hn' : l'.length = n') (hm' : n' ≤ 9223372036854775807) (hz' : SzM l') (hr' : RdM w w.heap.size A' l') :
    Calls Try.prog 10 #[.slice A n c, .slice A' n' c'] w fun e w' => e = .returned (.bool true) ∧ Below w.heap.size w w' := by
  have HN := Lib.hid hn
  have HN' := Lib.hid hn'
  have HR := Lib.hid hr
  have HR' := Lib.hid hr'
  clear hn hn' hr'
  go_enter Try.func10, Try.ntmps10
  go_wp2_with fail
  refine (szLabelS_any A n c l _ _ HN.out hm hz (by omega) (by omega) hr).mono ?_
  rintro e w1 ⟨r, rfl, r0, r1, r2, hb1⟩
  have HZ := Lib.hid r2
  have HS := Lib.hid (And.intro hz hz')
  clear hr r2 hz
  by_cases hneg : r < 0
  · go_wp2
    go_ret
    exact ⟨rfl, hb1⟩
  · have hm2 : n ≤ 1048576 := by have := HZ.out (by omega); omega
    have hr1 := HR'.out.to hb1
    go_wp2_with fail
    refine (szMatcherS_any A' n' c' l' r _ HN'.out hm' HS.out.2 (by omega) (by omega) hr1).mono ?_
    rintro e w2 ⟨r', rfl, r0', r1', r2', hb2⟩
    have HZ' := Lib.hid r2'
    have kb2 := kept_trans hb1 hb2
    clear hr1 hb1 hb2 r2' hz'
    by_cases hneg' : r' < 0
    · go_wp2
      go_ret
      exact ⟨rfl, kb2⟩
    · have hm2' : n' ≤ 1048576 := by have := HZ'.out (by omega); omega
      have hr2 := HR.out.to kb2
      go_wp2_with fail
      refine (toLabelS_any A n c l _ HN.out hm2 hr2).mono ?_
      rintro e w3 ⟨g3, rfl, hg3, hf3, hb3⟩
      have kb3 := kept_trans kb2 hb3
      have hr3 := HR'.out.to kb3
      clear hr2 kb2 hb3 hg3
      go_wp2_with fail
      refine (toMatcherS_any A' n' c' l' _ HN'.out hm2' hr3).mono ?_
      rintro e w4 ⟨g4, rfl, hg4, hf4, hb4⟩
      have kb4 := kept_trans kb3 hb4
      have hf3' := hf3.kept hb4
      clear hr3 kb3 hb4 hg4 hf3
      go_wp2_with fail
      refine (specMatchesAll_any _ n n l _ n' n' l' _ HN.out (by omega) HN'.out (by omega) HS.out.1 HS.out.2 (hf3'.rdG HN.out) (hf4.rdG HN'.out)).mono ?_
      rintro e w5 ⟨rfl, hb5⟩
      have kb5 := kept_trans kb4 hb5
      have hr5 := HR.out.to kb5
      clear kb4 hb5 hf3' hf4
      go_wp2_with fail
      refine (toLabelS_any A n c l _ HN.out hm2 hr5).mono ?_
      rintro e w6 ⟨g6, rfl, hg6, hf6, hb6⟩
      have kb6 := kept_trans kb5 hb6
      have hr6 := HR'.out.to kb6
      clear hr5 kb5 hb6 hg6
      go_wp2_with fail
      refine (toMatcherS_any A' n' c' l' _ HN'.out hm2' hr6).mono ?_
      rintro e w7 ⟨g7, rfl, hg7, hf7, hb7⟩
      have kb7 := kept_trans kb6 hb7
      have hf6' := hf6.kept hb7
      clear hr6 kb6 hb7 hg7 hf6
      go_wp2_with fail
      refine (matchesAll_any _ n n l _ n' n' l' _ HN.out HN'.out (hf6'.rdG HN.out) (hf7.rdG HN'.out)).mono ?_
      rintro e w8 ⟨rfl, hb8⟩
      have kb8 := kept_trans kb7 hb8
      have hf8 := hf6'.kept hb8
      have hf8' := hf7.kept hb8
      have hr8 := HR.out.to kb8
      clear kb7 hb8 hf6' hf7
      go_wp2_with fail
      refine (toLabelS_any A n c l _ HN.out hm2 hr8).mono ?_
      rintro e w9 ⟨g9, rfl, hg9, hf9, hb9⟩
      have kb9 := kept_trans kb8 hb9
      have hf10 := hf8.kept hb9
      have hf10' := hf8'.kept hb9
      clear hr8 kb8 hb9 hf8 hf8' hg9
      go_wp2_with fail
      refine (eqLabelS_same _ n n _ n l _ HN.out (by omega) (hf10.rdG HN.out) (hf9.rdG HN.out)).mono ?_
      rintro e w10 ⟨rfl, hb10⟩
      have kb10 := kept_trans kb9 hb10
      have hf11' := hf10'.kept hb10
      have hr10 := HR'.out.to kb10
      clear kb9 hb10 hf9 hf10 hf10'
      go_wp2_with fail
      refine (toMatcherS_any A' n' c' l' _ HN'.out hm2' hr10).mono ?_
      rintro e w11 ⟨g11, rfl, hg11, hf11, hb11⟩
      have kb11 := kept_trans kb10 hb11
      have hf12' := hf11'.kept hb11
      clear hr10 kb10 hb11 hf11' hg11
      go_wp2_with fail
      refine (eqMatcherS_same _ n' n' _ n' l' _ HN'.out (by omega) (hf12'.rdG HN'.out) (hf11.rdG HN'.out)).mono ?_
      rintro e w12 ⟨rfl, hb12⟩
      have kb12 := kept_trans kb11 hb12
      clear kb11 hb12 hf12' hf11
      go_wp2
      go_ret
      exact ⟨rfl, kb12⟩
end Go.Proofs.Ytnnbfdlicadgfaa
