/-
  Walks: FnExactValidLabels, FnExactLabelValue.
-/
import Derived.Test.YtjmdcdeccchlcaaLabCopy
namespace Go.Proofs.Ytjmdcdeccchlcaa
open Go.RowKit
theorem SzL_of {l : List Lb} (h : ∀ i, i < l.length → (at0 l i).1.size ≤ 1048576 ∧ (at0 l i).2.size ≤ 1048576) : SzL l := fun i hi => by have := h i hi; omega
set_option maxHeartbeats 2000000 in
theorem specValidLabelsE_any (A : Option Addr) (n c : Nat) (l : List Lb) (w : World) (hn : l.length = n) (hm : n ≤ 1000000000000) (hz : SzL l) (hr : RdL w w.heap.size A l) :
    Calls Try.prog 20 #[.slice A n c] w fun e w' => e = .returned (.bool (vL l)) ∧ Below w.heap.size w w' := by
  go_enter Try.func20, Try.ntmps20
  go_wp2_with fail
  refine (specValidLabels_any A n c l _ hn hm hz hr).mono ?_
  rintro e w1 ⟨rfl, hb1⟩
  go_wp2
  go_ret
  exact ⟨rfl, hb1⟩
set_option maxHeartbeats 2000000 in
theorem fnExactValidLabels_any (A : Option Addr) (n c : Nat) (l : List Lb) (w : World) (hn : l.length = n) (hm : n ≤ 9223372036854775807) (hz : SzL l) (hr : RdL w w.heap.size A l) :
    Calls Try.prog 5 #[.slice A n c] w fun e w' => e = .returned (.bool true) ∧ Below w.heap.size w w' := by
  have HN := Lib.hid hn
  have HR := Lib.hid hr
  clear hn
  go_enter Try.func5, Try.ntmps5
  go_wp2_with fail
  refine (szLabelS_any A n c l _ _ HN.out hm hz (by omega) (by omega) hr).mono ?_
  rintro e w1 ⟨r, rfl, r0, r1, r2, hb1⟩
  have HZ := Lib.hid r2
  have HS := Lib.hid hz
  clear hr r2 hz
  by_cases hneg : r < 0
  · go_wp2
    go_ret
    exact ⟨rfl, hb1⟩
  · have hm2 : n ≤ 1048576 := by have := HZ.out (by omega); omega
    have hr1 := HR.out.to hb1
    go_wp2_with fail
    refine (toLabelS_any A n c l _ HN.out hm2 hr1).mono ?_
    rintro e w2 ⟨g2, rfl, hg2, hf2, hb2⟩
    have kb2 := kept_trans hb1 hb2
    clear hr1 hb1 hb2 hg2
    go_wp2_with fail
    refine (specValidLabelsE_any _ n n l _ HN.out (by omega) HS.out (hf2.rdG HN.out)).mono ?_
    rintro e w3 ⟨rfl, hb3⟩
    have kb3 := kept_trans kb2 hb3
    have hr3 := HR.out.to kb3
    clear kb2 hb3 hf2
    go_wp2_with fail
    refine (toLabelS_any A n c l _ HN.out hm2 hr3).mono ?_
    rintro e w4 ⟨g4, rfl, hg4, hf4, hb4⟩
    have kb4 := kept_trans kb3 hb4
    clear hr3 kb3 hb4 hg4
    go_wp2_with fail
    refine (validLabels_any _ n n l _ HN.out (hf4.rdG HN.out)).mono ?_
    rintro e w5 ⟨rfl, hb5⟩
    have kb5 := kept_trans kb4 hb5
    have hf5 := hf4.kept hb5
    have hr5 := HR.out.to kb5
    clear kb4 hb5 hf4
    go_wp2_with fail
    refine (toLabelS_any A n c l _ HN.out hm2 hr5).mono ?_
    rintro e w6 ⟨g6, rfl, hg6, hf6, hb6⟩
    have kb6 := kept_trans kb5 hb6
    have hf7 := hf5.kept hb6
    clear hr5 kb5 hb6 hf5 hg6
    go_wp2_with fail
    refine (eqLabelS_same _ n n _ n l _ HN.out (by omega) (hf7.rdG HN.out) (hf6.rdG HN.out)).mono ?_
    rintro e w8 ⟨rfl, hb8⟩
    go_wp2
    go_ret
    exact ⟨rfl, kept_trans kb6 hb8⟩
set_option maxHeartbeats 2000000 in
theorem fnExactLabelValue_any (A : Option Addr) (n c : Nat) (l : List Lb) (s : ByteArray) (w : World) (hn : l.length = n) (hm : n ≤ 9223372036854775807) (hz : SzL l) (hr : RdL w w.heap.size A l) (_hs : s.size ≤ 9223372036854775807) :
    Calls Try.prog 8 #[.slice A n c, .string s] w fun e w' => e = .returned (.bool true) ∧ Below w.heap.size w w' := by
  have HN := Lib.hid hn
  have HR := Lib.hid hr
  clear hn
  by_cases hbig : (1048576 : Int) < s.size
  · go_enter Try.func8, Try.ntmps8
    go_wp2
    go_ret
    exact ⟨rfl, Below.refl _ _⟩
  go_enter Try.func8, Try.ntmps8
  go_wp2_with fail
  refine (szLabelS_any A n c l _ _ HN.out hm hz (by omega) (by omega) hr).mono ?_
  rintro e w1 ⟨r, rfl, r0, r1, r2, hb1⟩
  have HZ := Lib.hid r2
  have HS := Lib.hid hz
  clear hr r2 hz
  by_cases hneg : r < 0
  · go_wp2
    go_ret
    exact ⟨rfl, hb1⟩
  · have hm2 : n ≤ 1048576 := by have := HZ.out (by omega); omega
    have hr1 := HR.out.to hb1
    go_wp2_with fail
    refine (toLabelS_any A n c l _ HN.out hm2 hr1).mono ?_
    rintro e w2 ⟨g2, rfl, hg2, hf2, hb2⟩
    have kb2 := kept_trans hb1 hb2
    clear hr1 hb1 hb2 hg2
    go_wp2_with fail
    refine (specLabelValue_any _ n n l s _ HN.out (by omega) HS.out (hf2.rdG HN.out)).mono ?_
    rintro e w3 ⟨rfl, hb3⟩
    have kb3 := kept_trans kb2 hb3
    have hr3 := HR.out.to kb3
    clear kb2 hb3 hf2
    go_wp2_with fail
    refine (toLabelS_any A n c l _ HN.out hm2 hr3).mono ?_
    rintro e w4 ⟨g4, rfl, hg4, hf4, hb4⟩
    have kb4 := kept_trans kb3 hb4
    clear hr3 kb3 hb4 hg4
    go_wp2_with fail
    refine (labelValue_any _ n n l s _ HN.out (hf4.rdG HN.out)).mono ?_
    rintro e w5 ⟨rfl, hb5⟩
    have kb5 := kept_trans kb4 hb5
    have hf5 := hf4.kept hb5
    have hr5 := HR.out.to kb5
    have he := eqB_walk (eqB_refl (lvB l s))
    clear kb4 hb5 hf4
    go_wp2_with fail
    refine (toLabelS_any A n c l _ HN.out hm2 hr5).mono ?_
    rintro e w6 ⟨g6, rfl, hg6, hf6, hb6⟩
    have kb6 := kept_trans kb5 hb6
    have hf7 := hf5.kept hb6
    clear hr5 kb5 hb6 hf5 hg6 he
    go_wp2_with fail
    refine (eqLabelS_same _ n n _ n l _ HN.out (by omega) (hf7.rdG HN.out) (hf6.rdG HN.out)).mono ?_
    rintro e w8 ⟨rfl, hb8⟩
    go_wp2
    go_ret
    exact ⟨rfl, kept_trans kb6 hb8⟩
end Go.Proofs.Ytjmdcdeccchlcaa
