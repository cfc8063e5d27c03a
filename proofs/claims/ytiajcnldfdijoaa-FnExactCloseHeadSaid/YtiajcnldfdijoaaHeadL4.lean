/-
  Walk of FnExactCloseHead.
-/
import Derived.Test.YtiajcnldfdijoaaHeadW5
import Derived.Test.YtiajcnldfdijoaaHeadM
import Derived.Deep.RegionWith
namespace Go.Proofs.Ytiajcnldfdijoaa
open Go.RowKit
theorem ne_far {w : World} {v : Value} {e : TypeId} {size n B g : Nat} {xs : List Value} (h : w.ownsRow B e size v n xs) (hg : g < B) : some g ≠ v.ownBlock := fun hc => by
  rcases own_far h hg with k | k
  · rw [k] at hc; cases hc
  · exact k hc.symm
theorem ne_swap {v v0 : Value} (h : v.ownBlock = none ∨ v.ownBlock ≠ v0.ownBlock) : v0.ownBlock = none ∨ v0.ownBlock ≠ v.ownBlock := by
  rcases h with h | h
  · rcases hq : v0.ownBlock with _ | q
    · exact .inl rfl
    · rw [h]; exact .inr (by simp)
  · exact .inr (Ne.symm h)
theorem ne_nil (v : Value) : v.ownBlock = none ∨ v.ownBlock ≠ (Value.slice none 0 0).ownBlock := by
  rcases hq : v.ownBlock with _ | q
  · exact .inl rfl
  · exact .inr (by simp [Value.ownBlock])
theorem rd_zero (w : World) (B : Nat) (A : Option Addr) (f : Nat → Value) : Rd w B A (0 * 2) f := fun h => absurd h (by simp)
theorem ne_new {v : Value} {b g : Nat} (h : ∀ q, v.ownBlock = some q → q < b) (hb : b ≤ g) : some g ≠ v.ownBlock := fun hc => by
  have := h g hc.symm
  omega
theorem rd2_nil (w : World) (B : Nat) (A : Option Addr) : Rd2 w B A [] := fun h => absurd h (by simp)
theorem cl_len (hw hn : Int) (lo lc : List (Int × Int)) : (opL hw hn lo lc).length ≤ 16 ∧ (clL hw hn lo lc).length ≤ 16 := by
  by_cases h : vH hw hn lo lc = true
  · have k := vH_of h
    rw [(cl_yes h).1, (cl_yes h).2.1]
    exact ⟨k.2.1.1, k.2.2.1.1⟩
  · rw [(cl_no h).1, (cl_no h).2.1]; exact ⟨by simp, by simp⟩
set_option maxHeartbeats 16000000 in
set_option maxRecDepth 100000 in
theorem fnExactCloseHead_any (hw hn : Int) (A : Option Addr) (n c : Nat) (B : Option Addr) (m e : Nat) (lo lc : List (Int × Int)) (w : World) (hf : (-9223372036854775808 ≤ hw ∧ hw ≤ 9223372036854775807) ∧ (-9223372036854775808 ≤ hn ∧ hn ≤ 9223372036854775807) ∧ (lo.length = n ∧ n ≤ 9223372036854775807 ∧ Rd2 w w.heap.size A lo) ∧ (lc.length = m ∧ m ≤ 9223372036854775807 ∧ Rd2 w w.heap.size B lc)) :
    Calls Try.prog 5 #[.agg #[.int .i64 hw, .int .i64 hn, .slice A n c, .slice B m e]] w fun e w' => e = .returned (.bool true) ∧ Below w.heap.size w w' := by
  obtain ⟨_, _, ⟨hlo, h1, hr⟩, ⟨hlc, h2, hr'⟩⟩ := hf
  have HO := Lib.hid hlo
  have HC := Lib.hid hlc
  have HR := Lib.hid hr
  have HR' := Lib.hid hr'
  have hlen := cl_len hw hn lo lc
  obtain ⟨ol, hol⟩ : ∃ x, opL hw hn lo lc = x := ⟨_, rfl⟩
  obtain ⟨cl, hcl⟩ : ∃ x, clL hw hn lo lc = x := ⟨_, rfl⟩
  obtain ⟨xw, hxw⟩ : ∃ x, clW hw hn lo lc = x := ⟨_, rfl⟩
  obtain ⟨xn, hxn⟩ : ∃ x, clN hw hn lo lc = x := ⟨_, rfl⟩
  obtain ⟨bb, hbb⟩ : ∃ x, vH hw hn lo lc = x := ⟨_, rfl⟩
  rw [hol, hcl] at hlen
  obtain ⟨l16, k16⟩ := hlen
  have HX := Lib.hid (And.intro hol (And.intro hcl (And.intro hxw (And.intro hxn hbb))))
  have hBB : (bb != bb) = false := by simp
  have kb1 := kept_alloc (Below.refl w.heap.size w) (Obj.cells #[Value.int .i64 hw, .int .i64 hn, .slice A n c, .slice B m e] 42)
  have bP1 := Blk.new w 42 #[.int .i64 hw, .int .i64 hn, .slice A n c, .slice B m e]
  clear hlo hlc hr hr' hol hcl hxw hxn hbb
  go_enter Try.func5, Try.ntmps5
  go_wp2_with fail
  generalize w.alloc (Obj.cells #[Value.int .i64 hw, .int .i64 hn, .slice A n c, .slice B m e] 42) = w1 at *
  have s1 := kb1.size
  refine (szHead_any hw hn A n c B m _ _ _ h1 h2 (by omega) (by omega)).mono ?_
  rintro ee w2 ⟨r, rfl, r0, r1, r2, ho2⟩
  have s2 := ho2.size
  have kb2 := kb1.trans (ho2.mono kb1.size)
  have bP2 := bP1.kept ho2
  clear kb1 bP1 ho2
  by_cases hr0 : r < 0
  · clear bP2 r2
    go_wp2
    go_ret
    exact ⟨rfl, kb2⟩
  have hnm := r2 (by omega)
  have n1 : n ≤ 1048576 := by omega
  have m1 : m ≤ 1048576 := by omega
  have hlP := bP2.lt
  clear r2
  obtain ⟨c0, c1, c2, c3⟩ := bP2.four
  have hr2 := (HR.out.below kb2).mono kb2.size
  have hq2 := (HR'.out.below kb2).mono kb2.size
  go_wp2_with fail
  refine (toHead_any hw hn A n c B m _ lo lc _ HO.out HC.out n1 m1 hr2 hq2).mono ?_
  rintro ee w3 ⟨g6, g7, rfl, hg3a, hg3b, hf3a, hf3b, ho3⟩
  have s3 := ho3.size
  have kb3 := kb2.trans (ho3.mono kb2.size)
  have bP3 := bP2.kept ho3
  clear kb2 bP2 ho3
  clear hr2 hq2
  have y3 := hf3a
  have z3 := hf3b
  clear hf3a hf3b
  have lt3a := y3.lt
  have lt3b := z3.lt
  clear c0 c1 c2 c3
  go_wp2_with fail
  refine (specCloseHead_any hw hn _ n n _ m m lo lc _ HO.out HC.out n1 m1 (y3.rd2 HO.out) (z3.rd2 HC.out)).mono ?_
  rw [HX.out.1, HX.out.2.1, HX.out.2.2.1, HX.out.2.2.2.1, HX.out.2.2.2.2]
  rintro ee w4 ⟨A4, c4, B4, d4, D4, e4, rfl, hwa, hwb, ho4⟩
  have s4 := ho4.size
  have kb4 := kb3.trans (ho4.mono kb3.size)
  have bP4 := bP3.kept ho4
  clear kb3 bP3 y3 z3 ho4
  have wa4 := hwa
  have wb4 := hwb
  clear hwa hwb
  obtain ⟨c0, c1, c2, c3⟩ := bP4.four
  have hfa := fun (o : Obj) (i : Nat) => cell_alloc_far w4 o w.heap.size i (by have := bP4.lt; omega)
  go_wp2_with fail
  clear c0 c1 c2 c3
  clear hfa
  have bW5 := Blk.new w4 45 #[Value.int .i64 xw, .int .i64 xn, .slice B4 ol.length d4, .slice D4 0 e4]
  have hal := kept_alloc (Below.refl w4.heap.size w4) (Obj.cells #[Value.int .i64 xw, .int .i64 xn, .slice B4 ol.length d4, .slice D4 0 e4] 45)
  have s5 := hal.size
  have kb5 := kb4.trans (hal.mono kb4.size)
  have bP5 := bP4.kept hal
  have wa5 := Rd2.below wa4 (hal.mono (by omega))
  have wb5 := Rd2.below wb4 (hal.mono (by omega))
  clear kb4 bP4 wa4 wb4 hal
  generalize w4.alloc (Obj.cells #[Value.int .i64 xw, .int .i64 xn, .slice B4 ol.length d4, .slice D4 0 e4] 45) = w5 at *
  have ltW := bW5.lt
  have hr5 := (HR.out.below kb5).mono kb5.size
  have hq5 := (HR'.out.below kb5).mono kb5.size
  refine (toHead_any hw hn A n c B m _ lo lc _ HO.out HC.out n1 m1 hr5 hq5).mono ?_
  rintro ee w6 ⟨g12, g13, rfl, hga, hgb, hfa, hfb, ho6⟩
  have s6 := ho6.size
  have kb6 := kb5.trans (ho6.mono kb5.size)
  have bP6 := bP5.kept ho6
  have wa6 := Rd2.below wa5 (ho6.mono (by omega))
  have wb6 := Rd2.below wb5 (ho6.mono (by omega))
  have bW6 := bW5.kept ho6
  clear kb5 bP5 wa5 wb5 bW5 ho6
  clear hr5 hq5
  have x6 := hfa
  have y6 := hfb
  clear hfa hfb
  have ltx := x6.lt
  have lty := y6.lt
  go_wp2_with fail
  have bX7 := Blk.new w6 45 #[Value.int .i64 hw, .int .i64 hn, .slice (some ⟨g12, 0, none⟩) n n, .slice (some ⟨g13, 0, none⟩) m m]
  have hal := kept_alloc (Below.refl w6.heap.size w6) (Obj.cells #[Value.int .i64 hw, .int .i64 hn, .slice (some ⟨g12, 0, none⟩) n n, .slice (some ⟨g13, 0, none⟩) m m] 45)
  have s7 := hal.size
  have kb7 := kb6.trans (hal.mono kb6.size)
  have bP7 := bP6.kept hal
  have wa7 := Rd2.below wa6 (hal.mono (by omega))
  have wb7 := Rd2.below wb6 (hal.mono (by omega))
  have bW7 := bW6.kept hal
  have x7 := x6.kept hal
  have y7 := y6.kept hal
  clear kb6 bP6 wa6 wb6 bW6 x6 y6 hal
  generalize w6.alloc (Obj.cells #[Value.int .i64 hw, .int .i64 hn, .slice (some ⟨g12, 0, none⟩) n n, .slice (some ⟨g13, 0, none⟩) m m] 45) = w7 at *
  refine (closeHead_any hw hn _ n n _ m m lo lc _ HO.out HC.out n1 m1 (x7.rd2 HO.out) (y7.rd2 HC.out)).mono ?_
  rw [HX.out.1, HX.out.2.1, HX.out.2.2.1, HX.out.2.2.2.1, HX.out.2.2.2.2]
  rintro ee w8 ⟨A8, c8, B8, d8, D8, e8, rfl, hnil, hoa, hob, hne, ho8⟩
  obtain ⟨rfl, rfl⟩ := hnil rfl
  have HNE := Lib.hid hne
  clear hne hnil
  have s8 := ho8.size
  have kb8 := kb7.trans (ho8.mono kb7.size)
  have bP8 := bP7.kept ho8
  have wa8 := Rd2.below wa7 (ho8.mono (by omega))
  have wb8 := Rd2.below wb7 (ho8.mono (by omega))
  have bW8 := bW7.kept ho8
  have x8 := x7.kept ho8
  have y8 := y7.kept ho8
  have bX8 := bX7.kept ho8
  clear kb7 bP7 wa7 wb7 bW7 x7 y7 bX7 ho8
  have oa8 := hoa
  have ob8 := hob
  clear hoa hob
  have HGoa := Lib.hid (fun q hq => (oa8.lt q hq).2)
  have HGob := Lib.hid (fun q hq => (ob8.lt q hq).2)
  go_wp2_with fail
  have bG9 := Blk.new w8 45 #[Value.int .i64 xw, .int .i64 xn, .slice B8 ol.length d8, .slice none 0 0]
  have hal := kept_alloc (Below.refl w8.heap.size w8) (Obj.cells #[Value.int .i64 xw, .int .i64 xn, .slice B8 ol.length d8, .slice none 0 0] 45)
  have s9 := hal.size
  have kb9 := kb8.trans (hal.mono kb8.size)
  have bP9 := bP8.kept hal
  have wa9 := Rd2.below wa8 (hal.mono (by omega))
  have wb9 := Rd2.below wb8 (hal.mono (by omega))
  have bW9 := bW8.kept hal
  have x9 := x8.kept hal
  have y9 := y8.kept hal
  have bX9 := bX8.kept hal
  have oa9 := own_kept oa8 hal
  have ob9 := own_kept ob8 hal
  clear kb8 bP8 wa8 wb8 bW8 x8 y8 bX8 oa8 ob8 hal
  generalize w8.alloc (Obj.cells #[Value.int .i64 xw, .int .i64 xn, .slice B8 ol.length d8, .slice none 0 0] 45) = w9 at *
  refine (eqPointS_any _ _ _ cl _ _ _ cl _ rfl rfl (by omega) (own_rd2 oa9 rfl) (Rd2.mono wa9 (by omega))).mono ?_
  rintro ee w10 ⟨rfl, ho10⟩
  rw [eqP_refl]
  have s10 := ho10.size
  have kb10 := kb9.trans (ho10.mono kb9.size)
  have bP10 := bP9.kept ho10
  have wa10 := Rd2.below wa9 (ho10.mono (by omega))
  have wb10 := Rd2.below wb9 (ho10.mono (by omega))
  have bW10 := bW9.kept ho10
  have x10 := x9.kept ho10
  have y10 := y9.kept ho10
  have bX10 := bX9.kept ho10
  have oa10 := own_kept oa9 ho10
  have ob10 := own_kept ob9 ho10
  have bG10 := bG9.kept ho10
  clear kb9 bP9 wa9 wb9 bW9 x9 y9 bX9 oa9 ob9 bG9 ho10
  obtain ⟨c0, c1, c2, c3⟩ := bG10.four
  obtain ⟨d0, d1, d2, d3⟩ := bW10.four
  go_wp2_with fail
  refine (eqHead_any xw xn _ ol.length _ _ 0 _ ol [] _ _ _ _ _ rfl rfl (by omega) (by omega) (own_rd2 ob10 rfl) (rd2_nil _ _ _) (Rd2.mono wb10 (by omega)) (rd2_nil _ _ _)).mono ?_
  rintro ee w11 ⟨rfl, ho11⟩
  have s11 := ho11.size
  have kb11 := kb10.trans (ho11.mono kb10.size)
  have bP11 := bP10.kept ho11
  have wa11 := Rd2.below wa10 (ho11.mono (by omega))
  have wb11 := Rd2.below wb10 (ho11.mono (by omega))
  have bW11 := bW10.kept ho11
  have x11 := x10.kept ho11
  have y11 := y10.kept ho11
  have bX11 := bX10.kept ho11
  have oa11 := own_kept oa10 ho11
  have ob11 := own_kept ob10 ho11
  have bG11 := bG10.kept ho11
  clear kb10 bP10 wa10 wb10 bW10 x10 y10 bX10 oa10 ob10 bG10 ho11
  clear c0 c1 c2 c3 d0 d1 d2 d3
  obtain ⟨c0, c1, c2, c3⟩ := bP11.four
  obtain ⟨d0, d1, d2, d3⟩ := bX11.four
  have kbD := kb11.drew
  have hrD := (HR.out.below kbD).mono kbD.size
  have hqD := (HR'.out.below kbD).mono kbD.size
  have bXD : Blk w11.drew _ 45 #[Value.int .i64 hw, .int .i64 hn, .slice (some ⟨g12, 0, none⟩) n n, .slice (some ⟨g13, 0, none⟩) m m] := bX11
  have xD : Filled w11.drew g12 30 (n * 2) (n * 2) (cells2 lo) := x11
  have yD : Filled w11.drew g13 30 (m * 2) (m * 2) (cells2 lc) := y11
  have HK := Lib.hid (And.intro kb11 (And.intro bP11 (And.intro wa11 (And.intro wb11 (And.intro bW11 (And.intro x11 (And.intro y11 (And.intro bX11 (And.intro oa11 (And.intro ob11 bG11))))))))))
  clear kb11 bP11 wa11 wb11 bW11 x11 y11 bX11 oa11 ob11 bG11
  go_wp2_with fail
  go_region_with (first
    | (go_at_call 19; refine (toHead_any hw hn A n c B m _ lo lc _ HO.out HC.out n1 m1 hrD hqD).mono ?_; rintro ee u1 ⟨z1, z2, rfl, hz1, hz2, fz1, fz2, hu1⟩; obtain ⟨d4, d5, d6, d7⟩ := (bXD.kept hu1).four)
    | (go_at_call 22; refine (eqHead_any hw hn _ n n _ m m lo lc _ n _ m _ HO.out HC.out (by omega) (by omega) ((xD.kept hu1).rd2 HO.out) ((yD.kept hu1).rd2 HC.out) (fz1.rd2 HO.out) (fz2.rd2 HC.out)).mono ?_; rintro ee w12 ⟨rfl, hu2⟩))
  all_goals
    have ho12 : Below w11.heap.size w11 w12 := (Below.refl w11.heap.size w11).drew.trans (kept_trans hu1 hu2)
    clear hu1 hu2 fz1 fz2 hz1 hz2 d4 d5 d6 d7 xD yD bXD hrD hqD kbD
    clear c0 c1 c2 c3 d0 d1 d2 d3
    obtain ⟨kb11, bP11, wa11, wb11, bW11, x11, y11, bX11, oa11, ob11, bG11⟩ := HK.out
    have s12 := ho12.size
    have kb12 := kb11.trans (ho12.mono kb11.size)
    have bP12 := bP11.kept ho12
    have wa12 := Rd2.below wa11 (ho12.mono (by omega))
    have wb12 := Rd2.below wb11 (ho12.mono (by omega))
    have bW12 := bW11.kept ho12
    have x12 := x11.kept ho12
    have y12 := y11.kept ho12
    have bX12 := bX11.kept ho12
    have oa12 := own_kept oa11 ho12
    have ob12 := own_kept ob11 ho12
    have bG12 := bG11.kept ho12
    clear kb11 bP11 wa11 wb11 bW11 x11 y11 bX11 oa11 ob11 bG11 ho12
    obtain ⟨xs, hX1⟩ := x12.owns (Nat.le_refl _) (by unfold maxLen; omega)
    obtain ⟨ys, hX2⟩ := y12.owns (Nat.le_refl _) (by unfold maxLen; omega)
    obtain ⟨d0, d1, d2, d3⟩ := bX12.four
    go_wp2_with fail
    refine (markHead_any hw hn _ g12 g13 _ n n _ m m xs ys 1 _ n1 m1 (by omega) (by omega) hX1 hX2 (.inr (fun hc => by have h3 : g12 = g13 := Option.some.inj hc; omega))).mono ?_
    rintro ee w14 ⟨rfl, hY1, hY2, w13, hG1, hG2⟩
    have ho13 : Only g12 w12 w13 := hG1
    have ho14 : Only g13 w13 w14 := hG2
    clear hX1 hX2 hY1 hY2 hG1 hG2
    clear d0 d1 d2 d3
    have s13 := ho13.size
    have kb13 := Only.below kb12 ho13 (by omega)
    have bP13 := Only.blk bP12 ho13 (by omega)
    have wa13 := Rd2.only wa12 ho13 (by omega) (by omega)
    have wb13 := Rd2.only wb12 ho13 (by omega) (by omega)
    have bW13 := Only.blk bW12 ho13 (by omega)
    have oa13 := oa12.kept ho13 (own_far oa12 (by omega))
    have ob13 := ob12.kept ho13 (own_far ob12 (by omega))
    have bG13 := Only.blk bG12 ho13 (by omega)
    clear kb12 bP12 wa12 wb12 bW12 x12 y12 bX12 oa12 ob12 bG12 ho13
    have s14 := ho14.size
    have kb14 := Only.below kb13 ho14 (by omega)
    have bP14 := Only.blk bP13 ho14 (by omega)
    have wa14 := Rd2.only wa13 ho14 (by omega) (by omega)
    have wb14 := Rd2.only wb13 ho14 (by omega) (by omega)
    have bW14 := Only.blk bW13 ho14 (by omega)
    have oa14 := oa13.kept ho14 (own_far oa13 (by omega))
    have ob14 := ob13.kept ho14 (own_far ob13 (by omega))
    have bG14 := Only.blk bG13 ho14 (by omega)
    clear kb13 bP13 wa13 wb13 bW13 oa13 ob13 bG13 ho14
    have hd : decide ((1 : Int) + 2 * (n : Int) + 2 * (m : Int) < 0) = false := decide_eq_false (by omega)
    go_wp2_with fail
    refine (eqPointS_any _ _ _ cl _ _ _ cl _ rfl rfl (by omega) (own_rd2 oa14 rfl) (Rd2.mono wa14 (by omega))).mono ?_
    rintro ee w15 ⟨rfl, ho15⟩
    rw [eqP_refl]
    have s15 := ho15.size
    have kb15 := kb14.trans (ho15.mono kb14.size)
    have bP15 := bP14.kept ho15
    have wa15 := Rd2.below wa14 (ho15.mono (by omega))
    have wb15 := Rd2.below wb14 (ho15.mono (by omega))
    have bW15 := bW14.kept ho15
    have oa15 := own_kept oa14 ho15
    have ob15 := own_kept ob14 ho15
    have bG15 := bG14.kept ho15
    clear kb14 bP14 wa14 wb14 bW14 oa14 ob14 bG14 ho15
    obtain ⟨c0, c1, c2, c3⟩ := bG15.four
    obtain ⟨d0, d1, d2, d3⟩ := bW15.four
    go_wp2_with fail
    refine (eqHead_any xw xn _ ol.length _ _ 0 _ ol [] _ _ _ _ _ rfl rfl (by omega) (by omega) (own_rd2 ob15 rfl) (rd2_nil _ _ _) (Rd2.mono wb15 (by omega)) (rd2_nil _ _ _)).mono ?_
    rintro ee w16 ⟨rfl, ho16⟩
    have s16 := ho16.size
    have kb16 := kb15.trans (ho16.mono kb15.size)
    have bP16 := bP15.kept ho16
    have wa16 := Rd2.below wa15 (ho16.mono (by omega))
    have wb16 := Rd2.below wb15 (ho16.mono (by omega))
    have bW16 := bW15.kept ho16
    have oa16 := own_kept oa15 ho16
    have ob16 := own_kept ob15 ho16
    have bG16 := bG15.kept ho16
    clear kb15 bP15 wa15 wb15 bW15 oa15 ob15 bG15 ho16
    clear c0 c1 c2 c3 d0 d1 d2 d3
    clear hd
    go_wp2_with fail
    refine (markOwn_any _ _ _ _ _ _ 1 _ (by omega) (by omega) (by omega) oa16).mono ?_
    rintro ee w17 ⟨rfl, hM, hg17⟩
    have s17 := hg17.size
    have kb17 := below_mark kb16 oa16 hg17 (by omega)
    have bP17 := bP16.grown hg17 (ne_far oa16 (by omega))
    have wa17 := Rd2.grown wa16 oa16 hg17 (by omega) (by omega)
    have wb17 := Rd2.grown wb16 oa16 hg17 (by omega) (by omega)
    have bW17 := bW16.grown hg17 (ne_far oa16 (by omega))
    have ob17 := ob16.kept hg17 (ne_swap HNE.out)
    have bG17 := bG16.grown hg17 (ne_new HGoa.out (Nat.le_refl _))
    have oa17 := hM
    clear kb16 bP16 wa16 wb16 bW16 ob16 bG16 oa16 hM hg17
    obtain ⟨c0, c1, c2, c3⟩ := bG17.four
    go_wp2_with fail
    refine (markHead_any xw xn _ _ w17.heap.size _ ol.length _ _ 0 _ _ [] (1 + 2 * (cl.length : Int)) _ (by omega) (by omega) (by omega) (by omega) ob17 (World.ownsRow_nil _ _ _ _) (ne_nil _)).mono ?_
    rintro ee w19 ⟨rfl, hM, _, w18, hg18, hg19⟩
    clear c0 c1 c2 c3
    have hb19 : Below w18.heap.size w18 w19 := below_of_grown hg19
    have HM := Lib.hid hM
    clear hM hg19
    have s18 := hg18.size
    have kb18 := below_mark kb17 ob17 hg18 (by omega)
    have bP18 := bP17.grown hg18 (ne_far ob17 (by omega))
    have wa18 := Rd2.grown wa17 ob17 hg18 (by omega) (by omega)
    have wb18 := Rd2.grown wb17 ob17 hg18 (by omega) (by omega)
    have bW18 := bW17.grown hg18 (ne_far ob17 (by omega))
    have oa18 := oa17.kept hg18 HNE.out
    have bG18 := bG17.grown hg18 (ne_new HGob.out (Nat.le_refl _))
    clear kb17 bP17 wa17 wb17 bW17 oa17 bG17 ob17 hg18
    have s19 := hb19.size
    have kb19 := kb18.trans (hb19.mono kb18.size)
    have bP19 := bP18.kept hb19
    have wa19 := Rd2.below wa18 (hb19.mono (by omega))
    have wb19 := Rd2.below wb18 (hb19.mono (by omega))
    have bW19 := bW18.kept hb19
    have oa19 := own_kept oa18 hb19
    have bG19 := bG18.kept hb19
    clear kb18 bP18 wa18 wb18 bW18 oa18 bG18 hb19
    have ob19 := HM.out
    clear HM
    go_wp2_with fail
    refine (heldPointS_any _ _ _ 1 _ (by omega) (by omega) (by omega) (own_rdM oa19)).mono ?_
    rintro ee wq ⟨rfl, rfl⟩
    have hd1 : ¬ ((1 : Int) + 2 * (cl.length : Int) < 0) := by omega
    obtain ⟨c0, c1, c2, c3⟩ := bG19.four
    go_wp2_with fail
    refine (heldHead_any xw xn _ ol.length _ _ 0 _ (1 + 2 * (cl.length : Int)) _ (by omega) (by omega) (by omega) (by omega) (own_rdM ob19) (rd_zero _ _ _ _)).mono ?_
    rintro ee w20 ⟨rfl, ho20⟩
    have s20 := ho20.size
    have kb20 := kb19.trans (ho20.mono kb19.size)
    have bP20 := bP19.kept ho20
    have wa20 := Rd2.below wa19 (ho20.mono (by omega))
    have wb20 := Rd2.below wb19 (ho20.mono (by omega))
    have bW20 := bW19.kept ho20
    have oa20 := own_kept oa19 ho20
    have bG20 := bG19.kept ho20
    have ob20 := own_kept ob19 ho20
    clear kb19 bP19 wa19 wb19 bW19 oa19 bG19 ob19 ho20
    clear c0 c1 c2 c3
    clear hd1
    have hd2 : ¬ ((1 : Int) + 2 * (cl.length : Int) + 2 * (ol.length : Int) < 0) := by omega
    have hqq : ((1 : Int) + 2 * (cl.length : Int) + 2 * (ol.length : Int) != 1 + 2 * (cl.length : Int) + 2 * (ol.length : Int)) = false := by simp
    obtain ⟨c0, c1, c2, c3⟩ := bP20.four
    have hr20 := (HR.out.below kb20).mono kb20.size
    have hq20 := (HR'.out.below kb20).mono kb20.size
    go_wp2_with fail
    refine (toHead_any hw hn A n c B m _ lo lc _ HO.out HC.out n1 m1 hr20 hq20).mono ?_
    rintro ee w21 ⟨g42, g43, rfl, hg21a, hg21b, hf21a, hf21b, ho21⟩
    have s21 := ho21.size
    have kb21 := kb20.trans (ho21.mono kb20.size)
    have bP21 := bP20.kept ho21
    have wa21 := Rd2.below wa20 (ho21.mono (by omega))
    have wb21 := Rd2.below wb20 (ho21.mono (by omega))
    have bW21 := bW20.kept ho21
    have oa21 := own_kept oa20 ho21
    have bG21 := bG20.kept ho21
    have ob21 := own_kept ob20 ho21
    clear kb20 bP20 wa20 wb20 bW20 oa20 bG20 ob20 ho21
    clear hr20 hq20
    have y21 := hf21a
    have z21 := hf21b
    clear hf21a hf21b
    have lt21a := y21.lt
    have lt21b := z21.lt
    clear c0 c1 c2 c3
    go_wp2_with fail
    refine (closeHead_any hw hn _ n n _ m m lo lc _ HO.out HC.out n1 m1 (y21.rd2 HO.out) (z21.rd2 HC.out)).mono ?_
    rw [HX.out.1, HX.out.2.1, HX.out.2.2.1, HX.out.2.2.2.1, HX.out.2.2.2.2]
    rintro ee w22 ⟨A22, c22, B22, d22, D22, e22, rfl, hnil, hpa, hpb, _, ho22⟩
    obtain ⟨rfl, rfl⟩ := hnil rfl
    clear hnil
    have s22 := ho22.size
    have kb22 := kb21.trans (ho22.mono kb21.size)
    have bP22 := bP21.kept ho22
    have wa22 := Rd2.below wa21 (ho22.mono (by omega))
    have wb22 := Rd2.below wb21 (ho22.mono (by omega))
    have bW22 := bW21.kept ho22
    have oa22 := own_kept oa21 ho22
    have bG22 := bG21.kept ho22
    have ob22 := own_kept ob21 ho22
    clear kb21 bP21 wa21 wb21 bW21 oa21 bG21 ob21 y21 z21 ho22
    have pa22 := hpa
    have pb22 := hpb
    clear hpa hpb
    go_wp2_with fail
    have bH23 := Blk.new w22 45 #[Value.int .i64 xw, .int .i64 xn, .slice B22 ol.length d22, .slice none 0 0]
    have hal := kept_alloc (Below.refl w22.heap.size w22) (Obj.cells #[Value.int .i64 xw, .int .i64 xn, .slice B22 ol.length d22, .slice none 0 0] 45)
    have s23 := hal.size
    have kb23 := kb22.trans (hal.mono kb22.size)
    have bP23 := bP22.kept hal
    have wa23 := Rd2.below wa22 (hal.mono (by omega))
    have wb23 := Rd2.below wb22 (hal.mono (by omega))
    have bW23 := bW22.kept hal
    have oa23 := own_kept oa22 hal
    have bG23 := bG22.kept hal
    have ob23 := own_kept ob22 hal
    have pa23 := own_kept pa22 hal
    have pb23 := own_kept pb22 hal
    clear kb22 bP22 wa22 wb22 bW22 oa22 bG22 ob22 pa22 pb22 hal
    generalize w22.alloc (Obj.cells #[Value.int .i64 xw, .int .i64 xn, .slice B22 ol.length d22, .slice none 0 0] 45) = w23 at *
    refine (eqPointS_any _ _ _ cl _ _ _ cl _ rfl rfl (by omega) (own_rd2 pa23 rfl) (Rd2.mono wa23 (by omega))).mono ?_
    rintro ee w24 ⟨rfl, ho24⟩
    rw [eqP_refl]
    have s24 := ho24.size
    have kb24 := kb23.trans (ho24.mono kb23.size)
    have bP24 := bP23.kept ho24
    have wa24 := Rd2.below wa23 (ho24.mono (by omega))
    have wb24 := Rd2.below wb23 (ho24.mono (by omega))
    have bW24 := bW23.kept ho24
    have oa24 := own_kept oa23 ho24
    have bG24 := bG23.kept ho24
    have ob24 := own_kept ob23 ho24
    have pa24 := own_kept pa23 ho24
    have pb24 := own_kept pb23 ho24
    have bH24 := bH23.kept ho24
    clear kb23 bP23 wa23 wb23 bW23 oa23 bG23 ob23 pa23 pb23 bH23 ho24
    obtain ⟨c0, c1, c2, c3⟩ := bH24.four
    obtain ⟨d0, d1, d2, d3⟩ := bW24.four
    go_wp2_with fail
    refine (eqHead_any xw xn _ ol.length _ _ 0 _ ol [] _ _ _ _ _ rfl rfl (by omega) (by omega) (own_rd2 pb24 rfl) (rd2_nil _ _ _) (Rd2.mono wb24 (by omega)) (rd2_nil _ _ _)).mono ?_
    rintro ee w25 ⟨rfl, ho25⟩
    have s25 := ho25.size
    have kb25 := kb24.trans (ho25.mono kb24.size)
    have bP25 := bP24.kept ho25
    have wa25 := Rd2.below wa24 (ho25.mono (by omega))
    have wb25 := Rd2.below wb24 (ho25.mono (by omega))
    have bW25 := bW24.kept ho25
    have oa25 := own_kept oa24 ho25
    have bG25 := bG24.kept ho25
    have ob25 := own_kept ob24 ho25
    have pa25 := own_kept pa24 ho25
    have pb25 := own_kept pb24 ho25
    have bH25 := bH24.kept ho25
    clear kb24 bP24 wa24 wb24 bW24 oa24 bG24 ob24 pa24 pb24 bH24 ho25
    clear c0 c1 c2 c3 d0 d1 d2 d3
    go_wp2_with fail
    refine (heldPointS_any _ _ _ 1 _ (by omega) (by omega) (by omega) (own_rdM oa25)).mono ?_
    rintro ee wq ⟨rfl, rfl⟩
    have hd1 : ¬ ((1 : Int) + 2 * (cl.length : Int) < 0) := by omega
    obtain ⟨c0, c1, c2, c3⟩ := bG25.four
    go_wp2_with fail
    refine (heldHead_any xw xn _ ol.length _ _ 0 _ (1 + 2 * (cl.length : Int)) _ (by omega) (by omega) (by omega) (by omega) (own_rdM ob25) (rd_zero _ _ _ _)).mono ?_
    rintro ee w26 ⟨rfl, ho26⟩
    have s26 := ho26.size
    have kb26 := kb25.trans (ho26.mono kb25.size)
    have bP26 := bP25.kept ho26
    have wa26 := Rd2.below wa25 (ho26.mono (by omega))
    have wb26 := Rd2.below wb25 (ho26.mono (by omega))
    have bW26 := bW25.kept ho26
    have oa26 := own_kept oa25 ho26
    have bG26 := bG25.kept ho26
    have ob26 := own_kept ob25 ho26
    have pa26 := own_kept pa25 ho26
    have pb26 := own_kept pb25 ho26
    have bH26 := bH25.kept ho26
    clear kb25 bP25 wa25 wb25 bW25 oa25 bG25 ob25 pa25 pb25 bH25 ho26
    clear c0 c1 c2 c3
    clear hd1
    have hlast := kb26
    clear bP26 wa26 wb26 bW26 oa26 bG26 ob26 pa26 pb26 bH26
    go_wp2
    go_ret
    exact ⟨rfl, hlast⟩
end Go.Proofs.Ytiajcnldfdijoaa
