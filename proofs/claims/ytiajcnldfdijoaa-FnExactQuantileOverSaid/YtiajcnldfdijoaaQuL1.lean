/-
  Walk: FnExactQuantileOver.
-/
import Derived.Test.YtiajcnldfdijoaaQuW
import Derived.Test.YtiajcnldfdijoaaPtW8
namespace Go.Proofs.Ytiajcnldfdijoaa
open Go.RowKit
set_option maxHeartbeats 1000000 in
theorem fnExactQuantileOver_any (A : Option Addr) (n c : Nat) (l : List (Int × Int)) (k0 : Int) (k1 : Int) (k2 : Int) (w : World) (hn : l.length = n) (hm : n ≤ 9223372036854775807) (hr : Rd2 w w.heap.size A l) (_hk0 : -9223372036854775808 ≤ k0 ∧ k0 ≤ 9223372036854775807) (_hk1 : -9223372036854775808 ≤ k1 ∧ k1 ≤ 9223372036854775807) (_hk2 : -9223372036854775808 ≤ k2 ∧ k2 ≤ 9223372036854775807) :
    Calls Try.prog 6 #[.slice A n c, .int .i64 k0, .int .i64 k1, .int .i64 k2] w fun e w' => e = .returned (.bool true) ∧ Below w.heap.size w w' := by
  have HN := Lib.hid hn
  clear hn
  generalize hqq : quV l k0 k1 k2 = qq
  have HQ := Lib.hid hqq
  clear hqq
  by_cases hbig : (1048576 : Int) < n
  · go_enter Try.func6, Try.ntmps6
    go_wp2_with fail
    refine (szPointS_any _ _ _ _ _ (by omega) (by omega) (by omega)).mono ?_
    rintro e w1 ⟨rfl, rfl⟩
    rw [if_pos hbig]
    go_wp2
    go_ret
    exact ⟨rfl, Below.refl _ _⟩
  · have hm2 : n ≤ 1048576 := by omega
    go_enter Try.func6, Try.ntmps6
    go_wp2_with fail
    refine (szPointS_any _ _ _ _ _ (by omega) (by omega) (by omega)).mono ?_
    rintro e w1 ⟨rfl, rfl⟩
    rw [if_neg (by omega)]
    go_wp2_with fail
    refine (toPointS_any A n c l _ HN.out hm2 hr).mono ?_
    rintro e w1 ⟨g1, rfl, hg1, hf1, hb1⟩
    go_wp2_with fail
    refine (specQuantileOver_any _ n n l k0 k1 k2 _ HN.out (by omega) (hf1.rd2 HN.out)).mono ?_
    rw [HQ.out]
    rintro e w2 ⟨rfl, hb2⟩
    have kb2 := kept_trans hb1 hb2
    clear hf1 hb1 hb2 hg1
    go_wp2_with fail
    refine (toPointS_any A n c l _ HN.out hm2 (hr.next kb2)).mono ?_
    rintro e w3 ⟨g3, rfl, hg3, hf3, hb3⟩
    have kb3 := kept_trans kb2 hb3
    clear kb2 hb3 hg3
    go_wp2_with fail
    refine (quantileOver_any _ n n l k0 k1 k2 _ HN.out (by omega) (Nat.le_refl _) (hf3.rd2 HN.out)).mono ?_
    rw [HQ.out]
    rintro e w4 ⟨rfl, hb4⟩
    have hf4 := hf3.kept hb4
    have kb4 := kept_trans kb3 hb4
    clear kb3 hb4 hf3
    go_wp2_with fail
    refine (toPointS_any A n c l _ HN.out hm2 (hr.next kb4)).mono ?_
    rintro e w5 ⟨g5, rfl, hg5, hf5, hb5⟩
    have hf4' := hf4.kept hb5
    have kb5 := kept_trans kb4 hb5
    clear kb4 hb5 hf4
    go_wp2_with fail
    refine (eqPointS_any _ n n l _ n n l _ HN.out HN.out (by omega) (hf4'.rd2 HN.out) (hf5.rd2 HN.out)).mono ?_
    rintro e w6 ⟨rfl, hb6⟩
    have kb6 := kept_trans kb5 hb6
    rw [eqP_refl]
    go_wp2
    go_ret
    exact ⟨rfl, kb6⟩

end Go.Proofs.Ytiajcnldfdijoaa
