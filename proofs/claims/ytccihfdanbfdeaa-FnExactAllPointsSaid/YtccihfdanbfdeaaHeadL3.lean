/-
  Walk of FnExactAllPoints.
-/
import Derived.Test.YtccihfdanbfdeaaHeadM
namespace Go.Proofs.Ytccihfdanbfdeaa
open Go.RowKit
theorem Rd2.grown {w w' : World} {B base : Nat} {A : Option Addr} {l : List (Int × Int)} {v : Value} {e : TypeId} {size n : Nat} {xs : List Value} (h : Rd2 w B A l) (ho : w.ownsRow base e size v n xs) (k : w.grownBy w' v.ownBlock) (hB : B ≤ base) (hw : B ≤ w.heap.size) : Rd2 w' B A l := Rd.marked h ho k hB hw
/-- A block below 'B' is none of a row that is owned from B on. -/
theorem own_far {w : World} {v : Value} {e : TypeId} {size n B g : Nat} {xs : List Value} (h : w.ownsRow B e size v n xs) (hg : g < B) : v.ownBlock = none ∨ v.ownBlock ≠ some g := by
  rcases hq : v.ownBlock with _ | q
  · exact .inl rfl
  · refine .inr fun hc => ?_
    injection hc with hc
    have := (h.lt q hq).1
    omega
set_option maxHeartbeats 8000000 in
theorem fnExactAllPoints_any (hw hn : Int) (A : Option Addr) (n c : Nat) (B : Option Addr) (m e : Nat) (lo lc : List (Int × Int)) (w : World) (hf : (-9223372036854775808 ≤ hw ∧ hw ≤ 9223372036854775807) ∧ (-9223372036854775808 ≤ hn ∧ hn ≤ 9223372036854775807) ∧ (lo.length = n ∧ n ≤ 9223372036854775807 ∧ Rd2 w w.heap.size A lo) ∧ (lc.length = m ∧ m ≤ 9223372036854775807 ∧ Rd2 w w.heap.size B lc)) :
    Calls Try.prog 5 #[.agg #[.int .i64 hw, .int .i64 hn, .slice A n c, .slice B m e]] w fun e w' => e = .returned (.bool true) ∧ Below w.heap.size w w' := by
  obtain ⟨_, _, ⟨hlo, h1, hr⟩, ⟨hlc, h2, hr'⟩⟩ := hf
  have HO := Lib.hid hlo
  have HC := Lib.hid hlc
  have HR := Lib.hid hr
  have HR' := Lib.hid hr'
  have hlen : (allL hw hn lo lc).length ≤ n + m := by
    unfold allL; split
    · rw [List.length_append, hlo, hlc]; omega
    · simp
  generalize hL : allL hw hn lo lc = L at hlen
  have HL := Lib.hid hL
  have kb1 := kept_alloc (Below.refl w.heap.size w) (Obj.cells #[Value.int .i64 hw, .int .i64 hn, .slice A n c, .slice B m e] 40)
  have bP := Blk.new w 40 #[.int .i64 hw, .int .i64 hn, .slice A n c, .slice B m e]
  clear hlo hlc hr hr' hL
  go_enter Try.func5, Try.ntmps5
  go_wp2_with fail
  generalize w.alloc (Obj.cells #[Value.int .i64 hw, .int .i64 hn, .slice A n c, .slice B m e] 40) = W1 at *
  refine (szHead_any hw hn A n c B m _ _ _ h1 h2 (by omega) (by omega)).mono ?_
  rintro ee w2 ⟨r, rfl, r0, r1, r2, hb2⟩
  have kb2 := kb1.trans (hb2.mono kb1.size)
  have bP2 := bP.kept hb2
  clear bP hb2 kb1
  by_cases hr0 : r < 0
  · clear bP2 r2
    go_wp2
    go_ret
    exact ⟨rfl, kb2⟩
  · have hnm := r2 (by omega)
    have n1 : n ≤ 1048576 := by omega
    have m1 : m ≤ 1048576 := by omega
    clear r2
    obtain ⟨c0, c1, c2, c3⟩ := bP2.four
    have hr2 := (HR.out.below kb2).mono kb2.size
    have hr2' := (HR'.out.below kb2).mono kb2.size
    -- w0 := spec.AllPoints(toHead(aH))
    go_wp2_with fail
    refine (toHead_any hw hn A n c B m _ lo lc _ HO.out HC.out n1 m1 hr2 hr2').mono ?_
    rintro ee w3 ⟨g1, g2, rfl, hg1, hg2, hf1, hf2, hb3⟩
    have kb3 := kb2.trans (hb3.mono kb2.size)
    have bP3 := bP2.kept hb3
    clear bP2 hb3 c0 c1 c2 c3 hr2 hr2' hg1 hg2
    go_wp2_with fail
    refine (specAllPoints_any hw hn _ n n _ m m lo lc _ HO.out HC.out n1 m1 (hf1.rd2 HO.out) (hf2.rd2 HC.out)).mono ?_
    rw [HL.out]
    rintro ee w4 ⟨A4, c4, rfl, hown4, hb4⟩
    have kb4 := kb3.trans (hb4.mono kb3.size)
    have hW4 := own_rd2 hown4 rfl
    have bP4 := bP3.kept hb4
    have s4 := bP4.lt
    obtain ⟨c0, c1, c2, c3⟩ := bP4.four
    have hr4 := (HR.out.below kb4).mono kb4.size
    have hr4' := (HR'.out.below kb4).mono kb4.size
    clear bP3 hb4 kb2 kb3 hf1 hf2 hown4
    -- x0 := toHead(aH)
    go_wp2_with fail
    refine (toHead_any hw hn A n c B m _ lo lc _ HO.out HC.out n1 m1 hr4 hr4').mono ?_
    rintro ee w5 ⟨g1, g2, rfl, hg1, hg2, hf1, hf2, hb5⟩
    have kb5 := kb4.trans (hb5.mono kb4.size)
    have hW5 := hW4.below hb5
    have bP5 := bP4.kept hb5
    have s5 := hb5.size
    clear bP4 hb5 kb4 c0 c1 c2 c3 hr4 hr4' hW4
    -- g0 := impl.AllPoints(x0)
    have bX5 := Blk.new w5 44 #[Value.int .i64 hw, .int .i64 hn, .slice (some ⟨g1, 0, none⟩) n n, .slice (some ⟨g2, 0, none⟩) m m]
    have q5 := kept_alloc (Below.refl w5.heap.size w5) (Obj.cells #[Value.int .i64 hw, .int .i64 hn, .slice (some ⟨g1, 0, none⟩) n n, .slice (some ⟨g2, 0, none⟩) m m] 44)
    have kb6 := kb5.trans (q5.mono kb5.size)
    have hW6 := hW5.below (q5.mono s5)
    have hf3 := hf1.kept q5
    have hf4 := hf2.kept q5
    have bP6 := bP5.kept q5
    have s6 := q5.size
    have hx1 := hf1.lt
    have hx2 := hf2.lt
    have hxP := bP5.lt
    clear hf1 hf2 bP5 hW5 kb5 q5
    go_wp2_with fail
    generalize w5.alloc (Obj.cells #[Value.int .i64 hw, .int .i64 hn, .slice (some ⟨g1, 0, none⟩) n n, .slice (some ⟨g2, 0, none⟩) m m] 44) = W6 at *
    obtain ⟨d0, d1, d2, d3⟩ := bX5.four
    refine (allPoints_any hw hn _ n n _ m m lo lc _ HO.out HC.out n1 m1 (hf3.rd2 HO.out) (hf4.rd2 HC.out)).mono ?_
    rw [HL.out]
    rintro ee w7 ⟨A7, c7, rfl, hown7, hb7⟩
    have kb7 := kb6.trans (hb7.mono kb6.size)
    have hW7 := hW6.below (hb7.mono (by omega))
    have bX7 := bX5.kept hb7
    have bP7 := bP6.kept hb7
    have hf5 := hf3.kept hb7
    have hf6 := hf4.kept hb7
    have s7 := hb7.size
    clear hf3 hf4 bP6 bX5 hW6 kb6 hb7 d0 d1 d2 d3
    -- eqPointS(g0, w0)
    go_wp2_with fail
    refine (eqPointS_any _ _ _ L _ _ _ L _ rfl rfl (by omega) (own_rd2 hown7 rfl) (hW7.mono (by omega))).mono ?_
    rintro ee w8 ⟨rfl, hb8⟩
    rw [eqP_refl]
    have kb8 := (kb7.trans (hb8.mono kb7.size))
    have hW8 := hW7.below (hb8.mono (by omega))
    have bX8 := bX7.kept hb8
    have bP8 := bP7.kept hb8
    have hf7 := hf5.kept hb8
    have hf8 := hf6.kept hb8
    have hown8 := own_kept hown7 hb8
    have s8 := hb8.size
    clear hf5 hf6 bP7 bX7 hW7 kb7 hb8 hown7
    -- eqHead(x0, toHead(aH))
    obtain ⟨c0, c1, c2, c3⟩ := bP8.four
    obtain ⟨d0, d1, d2, d3⟩ := bX8.four
    have kbD := kb8.drew
    have hr8 := (HR.out.below kbD).mono kbD.size
    have hr8' := (HR'.out.below kbD).mono kbD.size
    have bXD : Blk w8.drew w5.heap.size 44 #[Value.int .i64 hw, .int .i64 hn, .slice (some ⟨g1, 0, none⟩) n n, .slice (some ⟨g2, 0, none⟩) m m] := bX8
    have hf7D : Filled w8.drew g1 30 (n * 2) (n * 2) (cells2 lo) := hf7
    have hf8D : Filled w8.drew g2 30 (m * 2) (m * 2) (cells2 lc) := hf8
    have hWD : Rd2 w8.drew w4.heap.size A4 L := hW8
    have hownD : w8.drew.ownsRow W6.heap.size 30 2 (.slice A7 L.length c7) L.length (cellsL L) := hown8
    have bPD : Blk w8.drew w.heap.size 40 #[.int .i64 hw, .int .i64 hn, .slice A n c, .slice B m e] := bP8
    have sD : w8.drew.heap.size = w8.heap.size := rfl
    clear hf7 hf8 bX8 bP8 kb8 hW8 hown8
    go_wp2_with fail
    go_region_with (first
      | (go_at_call 22; refine (toHead_any hw hn A n c B m _ lo lc _ HO.out HC.out n1 m1 hr8 hr8').mono ?_; rintro ee w9 ⟨g5, g6, rfl, hg5, hg6, hf9, hf10, hb9⟩; obtain ⟨d4, d5, d6, d7⟩ := (bXD.kept hb9).four)
      | (go_at_call 24; refine (eqHead_any hw hn _ n n _ m m lo lc _ n _ m _ HO.out HC.out (by omega) (by omega) ((hf7D.kept hb9).rd2 HO.out) ((hf8D.kept hb9).rd2 HC.out) (hf9.rd2 HO.out) (hf10.rd2 HC.out)).mono ?_; rintro ee w11 ⟨rfl, hb11⟩))
    all_goals
      have q11 := kept_trans hb9 hb11
      have kb11 := kbD.trans (q11.mono kbD.size)
      have s11 := q11.size
      have hW11 := hWD.below (q11.mono (by omega))
      have bX11 := bXD.kept q11
      have bP11 := bPD.kept q11
      have hf11 := hf7D.kept q11
      have hf12 := hf8D.kept q11
      have hown11 := own_kept hownD q11
      rw [sD] at s11
      clear hf9 hf10 hf7D hf8D bXD bPD hWD hownD kbD hb9 hb11 q11 d0 d1 d2 d3 d4 d5 d6 d7 c0 c1 c2 c3 hr8 hr8' sD hg5 hg6
      obtain ⟨xs, hX1⟩ := hf11.owns (Nat.le_refl _) (by unfold maxLen; omega)
      obtain ⟨ys, hX2⟩ := hf12.owns (Nat.le_refl _) (by unfold maxLen; omega)
      obtain ⟨d0, d1, d2, d3⟩ := bX11.four
      -- markHead(x0, 1)
      go_wp2_with fail
      refine (markHead_any hw hn _ g1 g2 _ n n _ m m xs ys 1 _ n1 m1 (by omega) (by omega) hX1 hX2 (.inr (fun hc => by have h3 : g1 = g2 := Option.some.inj hc; omega))).mono ?_
      rintro ee w12 ⟨rfl, hY1, hY2, w13, hG1, hG2⟩
      have ho1 : Only g1 w11 w13 := hG1
      have ho2 : Only g2 w13 w12 := hG2
      have s13 := ho1.size
      have s12 := ho2.size
      have kb13 := Only.below kb11 ho1 (by omega)
      have kb12 := Only.below kb13 ho2 (by omega)
      have hW12 := (hW11.only ho1 (by omega) (by omega)).only ho2 (by omega) (by omega)
      have hown12 := (hown11.kept ho1 (own_far hown11 (by omega))).kept ho2 (own_far hown11 (by omega))
      have bP12 := Only.blk (Only.blk bP11 ho1 (by omega)) ho2 (by omega)
      clear hX1 hX2 hY1 hY2 hG1 hG2 ho1 ho2 kb11 kb13 hW11 hown11 bX11 bP11 hf11 hf12 d0 d1 d2 d3
      -- eqPointS(g0, w0)
      have hd : decide ((1 : Int) + 2 * (n : Int) + 2 * (m : Int) < 0) = false := decide_eq_false (by omega)
      go_wp2_with fail
      refine (eqPointS_any _ _ _ L _ _ _ L _ rfl rfl (by omega) (own_rd2 hown12 rfl) (hW12.mono (by omega))).mono ?_
      rintro ee w14 ⟨rfl, hb14⟩
      rw [eqP_refl]
      have kb14 := (kb12.trans (hb14.mono kb12.size))
      have hW14 := hW12.below (hb14.mono (by omega))
      have bP14 := bP12.kept hb14
      have hown14 := own_kept hown12 hb14
      have s14 := hb14.size
      clear kb12 hW12 bP12 hown12 hb14 hd
      -- markPointS(g0, 1), heldPointS(g0, 1)
      go_wp2_with fail
      refine (markOwn_any _ _ _ _ _ _ 1 _ (by omega) (by omega) (by omega) hown14).mono ?_
      rintro e w15 ⟨rfl, hown15, hg15⟩
      have kb15 := below_mark kb14 hown14 hg15 (by omega)
      have s15 := hg15.size
      have hW15 := hW14.grown hown14 hg15 (by omega) (by omega)
      have bP15 := bP14.grown hg15 (by have := own_far hown14 (show w.heap.size < W6.heap.size by omega); rcases this with h | h; (rw [h]; simp); exact Ne.symm h)
      clear kb14 hg15 hW14 hown14 bP14
      go_wp2_with fail
      refine (heldPointS_any _ _ _ 1 _ (by omega) (by omega) (by omega) (own_rdM hown15)).mono ?_
      rintro e w16 ⟨rfl, rfl⟩
      obtain ⟨c0, c1, c2, c3⟩ := bP15.four
      have hr15 := (HR.out.below kb15).mono kb15.size
      have hr15' := (HR'.out.below kb15).mono kb15.size
      -- h0 := impl.AllPoints(toHead(aH))
      go_wp2_with fail
      refine (toHead_any hw hn A n c B m _ lo lc _ HO.out HC.out n1 m1 hr15 hr15').mono ?_
      rintro ee w17 ⟨g7, g8, rfl, hg7, hg8, hf17, hf18, hb17⟩
      have kb17 := (kb15.trans (hb17.mono kb15.size))
      have hW17 := hW15.below (hb17.mono (by omega))
      have hown17 := own_kept hown15 hb17
      have s17 := hb17.size
      clear hr15 hr15' kb15 hW15 hown15 bP15 c0 c1 c2 c3 hb17 hg7 hg8
      go_wp2_with fail
      refine (allPoints_any hw hn _ n n _ m m lo lc _ HO.out HC.out n1 m1 (hf17.rd2 HO.out) (hf18.rd2 HC.out)).mono ?_
      rw [HL.out]
      rintro ee w18 ⟨A18, c18, rfl, hown18, hb18⟩
      have kb18 := (kb17.trans (hb18.mono kb17.size))
      have hW18 := hW17.below (hb18.mono (by omega))
      have hown18' := own_kept hown17 hb18
      have s18 := hb18.size
      clear kb17 hW17 hown17 hb18 hf17 hf18
      go_wp2_with fail
      refine (eqPointS_any _ _ _ L _ _ _ L _ rfl rfl (by omega) (own_rd2 hown18 rfl) (hW18.mono (by omega))).mono ?_
      rintro ee w19 ⟨rfl, hb19⟩
      rw [eqP_refl]
      have kb19 := (kb18.trans (hb19.mono kb18.size))
      have hown19 := own_kept hown18' hb19
      clear kb18 hW18 hown18 hown18' hb19
      go_wp2_with fail
      refine (heldPointS_any _ _ _ 1 _ (by omega) (by omega) (by omega) (own_rdM hown19)).mono ?_
      rintro e w20 ⟨rfl, rfl⟩
      clear hown19
      go_wp2
      go_ret
      exact ⟨rfl, kb19⟩
end Go.Proofs.Ytccihfdanbfdeaa
