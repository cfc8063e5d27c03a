/-
  Walk of FnExactResample.
-/
import Derived.Test.YtccihfdanbfdeaaResW3
import Derived.Test.YtccihfdanbfdeaaMarkO
namespace Go.Proofs.Ytccihfdanbfdeaa
open Go.RowKit
set_option maxHeartbeats 4000000 in
theorem fnExactResample_any (A : Option Addr) (n c : Nat) (l : List (Int × Int)) (k0 k1 k2 : Int) (w : World) (hn : l.length = n) (hm : n ≤ 9223372036854775807) (hr : Rd2 w w.heap.size A l) (_hk0 : -9223372036854775808 ≤ k0 ∧ k0 ≤ 9223372036854775807) (_hk1 : -9223372036854775808 ≤ k1 ∧ k1 ≤ 9223372036854775807) (_hk2 : -9223372036854775808 ≤ k2 ∧ k2 ≤ 9223372036854775807) :
    Calls Try.prog 4 #[.slice A n c, .int .i64 k0, .int .i64 k1, .int .i64 k2] w fun e w' => e = .returned (.bool true) ∧ Below w.heap.size w w' := by
  have HN := Lib.hid hn
  have HR := Lib.hid hr
  clear hn hr
  by_cases hbig : (1048576 : Int) < n
  · go_enter Try.func4, Try.ntmps4
    go_wp2_with fail
    refine (szPointS_any _ _ _ _ _ (by omega) (by omega) (by omega)).mono ?_
    rintro e w1 ⟨rfl, rfl⟩
    rw [if_pos hbig]
    go_wp2
    go_ret
    exact ⟨rfl, Below.refl _ _⟩
  · have hm2 : n ≤ 1048576 := by omega
    have hlen := resL_len l k0 k1 k2
    generalize hL : resL l k0 k1 k2 = L at hlen
    have HL := Lib.hid hL
    clear hL
    go_enter Try.func4, Try.ntmps4
    go_wp2_with fail
    refine (szPointS_any _ _ _ _ _ (by omega) (by omega) (by omega)).mono ?_
    rintro e w1 ⟨rfl, rfl⟩
    rw [if_neg (by omega)]
    go_wp2_with fail
    refine (toPointS_any A n c l _ HN.out hm2 HR.out).mono ?_
    rintro e w1 ⟨g1, rfl, hg1, hf1, hb1⟩
    go_wp2_with fail
    refine (specResample_any _ n n l k0 k1 k2 _ HN.out (by omega) (hf1.rd2 HN.out)).mono ?_
    rw [HL.out]
    rintro e w2 ⟨A2, c2, rfl, hown2, hb2⟩
    have kb2 := kept_trans hb1 hb2
    have hW2 := own_rd2 hown2 rfl
    clear hf1 hb1 hb2 hg1 hown2
    have hr2 := (HR.out.below kb2).mono kb2.size
    go_wp2_with fail
    refine (toPointS_any A n c l _ HN.out hm2 hr2).mono ?_
    rintro e w3 ⟨gx, rfl, hgx, hf3, hb3⟩
    have kb3 := kept_trans kb2 hb3
    have hW3 := hW2.below hb3
    have hs3 := hb3.size
    have hgw := kb2.size
    have hgl := hf3.lt
    clear hr2 kb2 hb3 hW2
    go_wp2_with fail
    refine (resample_any _ n n l k0 k1 k2 _ HN.out (by omega) (hf3.rd2 HN.out)).mono ?_
    rw [HL.out]
    rintro e w4 ⟨A4, c4, rfl, hown4, hb4⟩
    have kb4 := kept_trans kb3 hb4
    have hs4 := hb4.size
    have hW4 := hW3.below (hb4.mono hs3)
    have hf4 := hf3.kept hb4
    clear hf3 kb3 hb4 hW3
    go_wp2_with fail
    refine (eqPointS_any _ _ _ L _ _ _ L _ rfl rfl (by omega) (own_rd2 hown4 rfl) (hW4.mono (by omega))).mono ?_
    rintro e w5 ⟨rfl, hb5⟩
    rw [eqP_refl]
    have kb5 := kept_trans kb4 hb5
    have hs5 := hb5.size
    have hW5 := hW4.below (hb5.mono (by omega))
    have hf5 := hf4.kept hb5
    have hown5 := own_kept hown4 hb5
    clear kb4 hb5 hW4 hf4 hown4
    have hr5 := (HR.out.below kb5).mono kb5.size
    go_wp2_with fail
    refine (toPointS_any A n c l _ HN.out hm2 hr5).mono ?_
    rintro e w6 ⟨g6, rfl, hg6, hf6, hb6⟩
    have kb6 := kept_trans kb5 hb6
    have hs6 := hb6.size
    have hW6 := hW5.below (hb6.mono (by omega))
    have hfx6 := hf5.kept hb6
    have hown6 := own_kept hown5 hb6
    clear hr5 kb5 hb6 hW5 hf5 hown5
    go_wp2_with fail
    refine (eqPointS_any _ n n l _ n n l _ HN.out HN.out (by omega) (hfx6.rd2 HN.out) (hf6.rd2 HN.out)).mono ?_
    rintro e w7 ⟨rfl, hb7⟩
    rw [eqP_refl]
    have kb7 := kept_trans kb6 hb7
    have hs7 := hb7.size
    have hW7 := hW6.below (hb7.mono (by omega))
    have hf7 := hfx6.kept hb7
    have hown7 := own_kept hown6 hb7
    clear kb6 hb7 hW6 hf6 hfx6 hown6 hg6
    go_wp2_with fail
    refine (markPointS_any gx n n _ _ _ 1 _ hm2 (by omega) (by omega) hf7).mono ?_
    rintro e w8 ⟨rfl, hf8, ho8⟩
    have kb8 := Only.below kb7 ho8 (by omega)
    have hs8 := ho8.size
    have hW8 := hW7.only ho8 hgx (by omega)
    have hown8 := Only.own hown7 ho8 hgl
    clear kb7 ho8 hW7 hf7 hf8 hown7
    go_wp2_with fail
    refine (eqPointS_any _ _ _ L _ _ _ L _ rfl rfl (by omega) (own_rd2 hown8 rfl) (hW8.mono (by omega))).mono ?_
    rintro e w9 ⟨rfl, hb9⟩
    rw [eqP_refl]
    have kb9 := kept_trans kb8 hb9
    have hs9 := hb9.size
    have hW9 := hW8.below (hb9.mono (by omega))
    have hown9 := own_kept hown8 hb9
    clear kb8 hb9 hW8 hown8
    go_wp2_with fail
    refine (markOwn_any _ _ _ _ _ _ 1 _ (by omega) (by omega) (by omega) hown9).mono ?_
    rintro e w10 ⟨rfl, hown10, hg10⟩
    have kb10 := below_mark kb9 hown9 hg10 (by omega)
    have hs10 := hg10.size
    have hW10 : Rd2 w10 w2.heap.size A2 L := Rd.marked hW9 hown9 hg10 (by omega) (by omega)
    clear kb9 hg10 hW9 hown9
    go_wp2_with fail
    refine (heldPointS_any _ _ _ 1 _ (by omega) (by omega) (by omega) (own_rdM hown10)).mono ?_
    rintro e w11 ⟨rfl, rfl⟩
    have hr10 := (HR.out.below kb10).mono kb10.size
    go_wp2_with fail
    refine (toPointS_any A n c l _ HN.out hm2 hr10).mono ?_
    rintro e w12 ⟨g12, rfl, hg12, hf12, hb12⟩
    have kb12 := kept_trans kb10 hb12
    have hs12 := hb12.size
    have hW12 := hW10.below (hb12.mono (by omega))
    have hown12 := own_kept hown10 hb12
    clear hr10 kb10 hb12 hW10 hown10 hg12
    go_wp2_with fail
    refine (resample_any _ n n l k0 k1 k2 _ HN.out (by omega) (hf12.rd2 HN.out)).mono ?_
    rw [HL.out]
    rintro e w13 ⟨A13, c13, rfl, hown13, hb13⟩
    have kb13 := kept_trans kb12 hb13
    have hs13 := hb13.size
    have hW13 := hW12.below (hb13.mono (by omega))
    have hown12' := own_kept hown12 hb13
    clear kb12 hb13 hW12 hown12 hf12
    go_wp2_with fail
    refine (eqPointS_any _ _ _ L _ _ _ L _ rfl rfl (by omega) (own_rd2 hown13 rfl) (hW13.mono (by omega))).mono ?_
    rintro e w14 ⟨rfl, hb14⟩
    rw [eqP_refl]
    have kb14 := kept_trans kb13 hb14
    have hown14 := own_kept hown12' hb14
    clear kb13 hb14 hW13 hown12' hown13
    go_wp2_with fail
    refine (heldPointS_any _ _ _ 1 _ (by omega) (by omega) (by omega) (own_rdM hown14)).mono ?_
    rintro e w15 ⟨rfl, rfl⟩
    clear hown14
    go_wp2
    go_ret
    exact ⟨rfl, kb14⟩
end Go.Proofs.Ytccihfdanbfdeaa
