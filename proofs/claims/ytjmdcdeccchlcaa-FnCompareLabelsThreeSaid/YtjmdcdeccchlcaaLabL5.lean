/-
  Walk: FnCompareLabelsThree.
-/
import Derived.Test.YtjmdcdeccchlcaaCmpW3
import Derived.Test.YtjmdcdeccchlcaaLabGen4
import Derived.Test.YtjmdcdeccchlcaaLabW3
namespace Go.Proofs.Ytjmdcdeccchlcaa
open Go.RowKit
def lbC : List Lb := [(⟨#[104, 111, 115, 116]⟩, ⟨#[120]⟩)]
theorem vL_C : vL lbC = true := by decide
theorem cmp_three {a b : List Lb} (ha : vL a = true) (hb : vL b = true) (h1 : cmpV a b ≤ 0) (h2 : cmpV b lbC ≤ 0) : cmpV a lbC ≤ 0 := by
  rw [cmpV_ok ha hb] at h1
  rw [cmpV_ok hb vL_C] at h2
  rw [cmpV_ok ha vL_C]
  exact cmpLs_trans h1 h2
set_option maxHeartbeats 4000000 in
theorem fnCompareLabelsThree_any (A : Option Addr) (n c : Nat) (w : World) (hm : n ≤ 9223372036854775807) (hc : n ≤ c) (hr : RdB w w.heap.size A n) :
    Calls Try.prog 12 #[.slice A n c] w fun e w' => e = .returned (.bool true) ∧ Below w.heap.size w w' := by
  by_cases hbig : (1048576 : Int) < n
  · go_enter Try.func12, Try.ntmps12
    go_wp2
    go_ret
    exact ⟨rfl, Below.refl _ _⟩
  · go_enter Try.func12, Try.ntmps12
    go_wp2_with fail
    refine (drawCompareLabels_any A n c _ hm hc hr).mono ?_
    rintro e w1 ⟨A2, c2, m, l, B2, d2, q, l', rfl, hl, hm2, hcap, hsz, hq, hq2, hqd, hsz2, hrd, hrn, hb1⟩
    have HL := Lib.hid (And.intro hl (And.intro hsz (And.intro hq hsz2)))
    clear hl hr hsz hq hsz2
    go_wp2_with fail
    refine (compareLabels_any A2 m c2 l B2 q d2 l' _ HL.out.1 HL.out.2.2.1 hrd hrn).mono ?_
    rintro e w2 ⟨rfl, hb2⟩
    have hb3 := kept_trans hb1 hb2
    have hrd3 := RdG.next hrd hb2
    have hrn3 := RdG.next hrn hb2
    clear hb1 hb2 hrd hrn
    go_wp2_with fail
    refine (specCompareLabels_any A2 m c2 l B2 q d2 l' _ HL.out.1 HL.out.2.2.1 (by omega) (by omega) HL.out.2.1 HL.out.2.2.2 hrd3 hrn3).mono ?_
    rintro e w4 ⟨rfl, hb4⟩
    have hb5 := kept_trans hb3 hb4
    have hrd5 := RdG.next hrd3 hb4
    have hrn5 := RdG.next hrn3 hb4
    clear hb3 hb4 hrd3 hrn3
    go_wp2_with fail
    refine (validLabels_any A2 m c2 l _ HL.out.1 hrd5).mono ?_
    rintro e w6 ⟨rfl, hb6⟩
    have hb7 := kept_trans hb5 hb6
    have hrd7 := RdG.next hrd5 hb6
    have hrn7 := RdG.next hrn5 hb6
    clear hb5 hb6 hrd5 hrn5
    rcases hv : vL l with _ | _
    · clear hv
      go_wp2_with fail
      refine (specCompareLabels_any A2 m c2 l B2 q d2 l' _ HL.out.1 HL.out.2.2.1 (by omega) (by omega) HL.out.2.1 HL.out.2.2.2 hrd7 hrn7).mono ?_
      rintro e w8 ⟨rfl, hb8⟩
      go_wp2
      go_ret
      exact ⟨rfl, kept_trans hb7 hb8⟩
    · have HV := Lib.hid hv
      clear hv
      go_wp2_with fail
      refine (validLabels_any B2 q d2 l' _ HL.out.2.2.1 hrn7).mono ?_
      rintro e w8 ⟨rfl, hb8⟩
      have hb9 := kept_trans hb7 hb8
      have hrd9 := RdG.next hrd7 hb8
      have hrn9 := RdG.next hrn7 hb8
      clear hb7 hb8 hrd7 hrn7
      rcases hv : vL l' with _ | _
      · clear hv
        go_wp2_with fail
        refine (specCompareLabels_any A2 m c2 l B2 q d2 l' _ HL.out.1 HL.out.2.2.1 (by omega) (by omega) HL.out.2.1 HL.out.2.2.2 hrd9 hrn9).mono ?_
        rintro e w10 ⟨rfl, hb10⟩
        go_wp2
        go_ret
        exact ⟨rfl, kept_trans hb9 hb10⟩
      · have HV' := Lib.hid hv
        clear hv
        have hbE := kept_alloc (Below.refl w8.heap.size w8) (Obj.cells #[Value.string ⟨#[104, 111, 115, 116]⟩, Value.string ⟨#[120]⟩] 46)
        have hrdE := RdG.next hrd9 hbE
        have hrnE := RdG.next hrn9 hbE
        have hbE2 := kept_trans hb9 hbE
        have hC : RdL (w8.alloc (Obj.cells #[Value.string ⟨#[104, 111, 115, 116]⟩, Value.string ⟨#[120]⟩] 46)) (w8.alloc (Obj.cells #[Value.string ⟨#[104, 111, 115, 116]⟩, Value.string ⟨#[120]⟩] 46)).heap.size (some ⟨w8.heap.size, 0, none⟩) lbC := fun _ => ⟨w8.heap.size, 0, rfl, by simp, fun j hj => by
          rw [(Blk.new w8 _ _).cell]
          match j, hj with
          | 0, _ => rfl
          | 1, _ => rfl⟩
        have HX := Lib.hid (And.intro hrdE (And.intro hrnE (And.intro hbE2 hC)))
        clear hbE hrdE hrnE hbE2 hC hb9 hrd9 hrn9
        go_wp2_with fail
        generalize (w8.alloc (Obj.cells #[Value.string ⟨#[104, 111, 115, 116]⟩, Value.string ⟨#[120]⟩] 46)) = W at *
        obtain ⟨hrd9, hrn9, hb9, hC⟩ := HX.out
        clear HX
        refine (compareLabels_any B2 q d2 l' _ 1 1 lbC _ HL.out.2.2.1 rfl hrn9 hC).mono ?_
        rintro e w10 ⟨rfl, hb10⟩
        have hb11 := kept_trans hb9 hb10
        have hrd11 := RdG.next hrd9 hb10
        have hC11 := RdG.next hC hb10
        clear hb9 hb10 hrd9 hrn9 hC
        go_wp2_with fail
        refine (compareLabels_any A2 m c2 l _ 1 1 lbC _ HL.out.1 rfl hrd11 hC11).mono ?_
        rintro e w12 ⟨rfl, hb12⟩
        have hb13 := kept_trans hb11 hb12
        have HT := Lib.hid (cmp_three HV.out HV'.out)
        clear hb11 hb12 hrd11 hC11
        by_cases h1 : cmpV l l' ≤ 0
        · by_cases h2 : cmpV l' lbC ≤ 0
          · have h3 := HT.out h1 h2
            go_wp2
            go_ret
            exact ⟨rfl, hb13⟩
          · go_wp2
            go_ret
            exact ⟨rfl, hb13⟩
        · go_wp2
          go_ret
          exact ⟨rfl, hb13⟩
end Go.Proofs.Ytjmdcdeccchlcaa
