/-
  Walks: joinBuckets, addBucket.
-/
import Derived.Test.YtiajcnldfdijoaaBkFn
import Derived.Deep.RegionWith
namespace Go.Proofs.Ytiajcnldfdijoaa
open Go.RowKit
def bkV (b : Bk) : Value := .agg #[.int .i64 b.st, .int .i64 b.ct, .int .i64 b.sm, .int .i64 b.mn, .int .i64 b.mx]
theorem Blk.five {w : World} {g : Nat} {t : TypeId} {a b c d e : Value} (h : Blk w g t #[a, b, c, d, e]) : w.cell? ⟨g, 0, none⟩ = some a ∧ w.cell? ⟨g, 1, none⟩ = some b ∧ w.cell? ⟨g, 2, none⟩ = some c ∧ w.cell? ⟨g, 3, none⟩ = some d ∧ w.cell? ⟨g, 4, none⟩ = some e := by
  have h0 := h.cell 0; have h1 := h.cell 1; have h2 := h.cell 2; have h3 := h.cell 3; have h4 := h.cell 4
  exact ⟨by simpa using h0, by simpa using h1, by simpa using h2, by simpa using h3, by simpa using h4⟩
theorem size_alloc (w : World) (o : Obj) : (w.alloc o).heap.size = w.heap.size + 1 := by simp
/-- What joinBuckets hands back. -/
def JoinP (w : World) (st sm : Int) (e : Ending) (w' : World) : Prop :=
  ∃ ct mn mx : Int, e = .returned (.agg #[.int .i64 st, .int .i64 ct, .int .i64 (wrap64 sm), .int .i64 mn, .int .i64 mx]) ∧ Below w.heap.size w w'
set_option maxHeartbeats 2000000 in
theorem joinBuckets_any (a0 a1 a2 a3 a4 b0 b1 b2 b3 b4 : Int) (w : World) : Calls Try.prog 58 #[.agg #[.int .i64 a0, .int .i64 a1, .int .i64 a2, .int .i64 a3, .int .i64 a4], .agg #[.int .i64 b0, .int .i64 b1, .int .i64 b2, .int .i64 b3, .int .i64 b4]] w (JoinP w a0 (a2 + b2)) := by
  have HB := Lib.hid (kept_alloc (kept_alloc (kept_alloc (Below.refl w.heap.size w) (Obj.cells #[Value.int .i64 a0, .int .i64 a1, .int .i64 a2, .int .i64 a3, .int .i64 a4] 39)) (Obj.cells #[Value.int .i64 b0, .int .i64 b1, .int .i64 b2, .int .i64 b3, .int .i64 b4] 39)))
  have HR := Lib.hid (fun x0 x1 x2 x3 x4 => (show Blk (((w.alloc (Obj.cells #[Value.int .i64 a0, .int .i64 a1, .int .i64 a2, .int .i64 a3, .int .i64 a4] 39)).alloc (Obj.cells #[Value.int .i64 b0, .int .i64 b1, .int .i64 b2, .int .i64 b3, .int .i64 b4] 39)).alloc (Obj.cells #[x0, x1, x2, x3, x4] 39)) (w.heap.size + 1 + 1) 39 #[x0, x1, x2, x3, x4] by have h := Blk.new ((w.alloc (Obj.cells #[Value.int .i64 a0, .int .i64 a1, .int .i64 a2, .int .i64 a3, .int .i64 a4] 39)).alloc (Obj.cells #[Value.int .i64 b0, .int .i64 b1, .int .i64 b2, .int .i64 b3, .int .i64 b4] 39)) 39 #[x0, x1, x2, x3, x4]; rwa [size_alloc, size_alloc] at h))
  by_cases h1 : a3 ≤ b3
  · by_cases h2 : b4 ≤ a4
    · go_enter Try.func58, Try.ntmps58
      go_wp2
      obtain ⟨c0, c1, c2, c3, c4⟩ := (HR.out (.int .i64 a0) (.int .i64 (wrap64 (a1 + b1))) (.int .i64 (wrap64 (a2 + b2))) (.int .i64 a3) (.int .i64 a4)).five
      refine bodyPost_ret (v := .agg #[.int .i64 a0, .int .i64 (wrap64 (a1 + b1)), .int .i64 (wrap64 (a2 + b2)), .int .i64 a3, .int .i64 a4]) (by simp [results, go_sem, c0, c1, c2, c3, c4]) rfl ?_
      exact ⟨_, _, _, rfl, HB.out _⟩
    · go_enter Try.func58, Try.ntmps58
      go_wp2
      obtain ⟨c0, c1, c2, c3, c4⟩ := (HR.out (.int .i64 a0) (.int .i64 (wrap64 (a1 + b1))) (.int .i64 (wrap64 (a2 + b2))) (.int .i64 a3) (.int .i64 b4)).five
      refine bodyPost_ret (v := .agg #[.int .i64 a0, .int .i64 (wrap64 (a1 + b1)), .int .i64 (wrap64 (a2 + b2)), .int .i64 a3, .int .i64 b4]) (by simp [results, go_sem, c0, c1, c2, c3, c4]) rfl ?_
      exact ⟨_, _, _, rfl, HB.out _⟩
  · by_cases h2 : b4 ≤ a4
    · go_enter Try.func58, Try.ntmps58
      go_wp2
      obtain ⟨c0, c1, c2, c3, c4⟩ := (HR.out (.int .i64 a0) (.int .i64 (wrap64 (a1 + b1))) (.int .i64 (wrap64 (a2 + b2))) (.int .i64 b3) (.int .i64 a4)).five
      refine bodyPost_ret (v := .agg #[.int .i64 a0, .int .i64 (wrap64 (a1 + b1)), .int .i64 (wrap64 (a2 + b2)), .int .i64 b3, .int .i64 a4]) (by simp [results, go_sem, c0, c1, c2, c3, c4]) rfl ?_
      exact ⟨_, _, _, rfl, HB.out _⟩
    · go_enter Try.func58, Try.ntmps58
      go_wp2
      obtain ⟨c0, c1, c2, c3, c4⟩ := (HR.out (.int .i64 a0) (.int .i64 (wrap64 (a1 + b1))) (.int .i64 (wrap64 (a2 + b2))) (.int .i64 b3) (.int .i64 b4)).five
      refine bodyPost_ret (v := .agg #[.int .i64 a0, .int .i64 (wrap64 (a1 + b1)), .int .i64 (wrap64 (a2 + b2)), .int .i64 b3, .int .i64 b4]) (by simp [results, go_sem, c0, c1, c2, c3, c4]) rfl ?_
      exact ⟨_, _, _, rfl, HB.out _⟩
theorem Try.infoBk : (Try.prog.info? 39).map (fun i => (i.zero, i.size, i.bytes)) = some (some (.agg #[.int .i64 0, .int .i64 0, .int .i64 0, .int .i64 0, .int .i64 0]), 5, 40) := by kernel_rfl
/-- What addBucket hands back. -/
def AddP (w : World) (B : Nat) (row : Option Nat) (S : Int) (k : Nat) (e : Ending) (w' : World) : Prop :=
  ∃ (A : Option Addr) (c z : Nat) (l' : List Bk), e = .returned (.slice A z c) ∧ l'.length = z ∧ Tot l' S k ∧ w'.ownsRow B 39 5 (.slice A z c) z (rowG bkE 5 l') ∧ Below B w w' ∧ ∀ i, i < w.heap.size → some i ≠ row → w'.heap[i]? = w.heap[i]?
theorem own_cellsB {w : World} {B g n c : Nat} {l : List Bk} (h : w.ownsRow B 39 5 (.slice (some ⟨g, 0, none⟩) n c) n (rowG bkE 5 l)) {j : Nat} (hl : l.length = n) (hj : j < n) {x : Bk} (hx : at0 l j = x) :
    w.cell? ⟨g, j * 5, none⟩ = some (.int .i64 x.st) ∧ w.cell? ⟨g, j * 5 + 1, none⟩ = some (.int .i64 x.ct) ∧ w.cell? ⟨g, j * 5 + 2, none⟩ = some (.int .i64 x.sm) ∧ w.cell? ⟨g, j * 5 + 3, none⟩ = some (.int .i64 x.mn) ∧ w.cell? ⟨g, j * 5 + 4, none⟩ = some (.int .i64 x.mx) := by
  have H : ∀ q, q < 5 → w.cell? ⟨g, j * 5 + q, none⟩ = some (bkE x q) := fun q hq => by
    have hlt : j * 5 + q < n * 5 := by omega
    rw [h.cellAt (j * 5 + q) hlt, rowG_at l (by rw [hl]; exact hlt), cellsG_at l hq, hx]
  exact ⟨H 0 (by omega), H 1 (by omega), H 2 (by omega), H 3 (by omega), H 4 (by omega)⟩
theorem below_appB {a w w1 : World} {B : Nat} {o : Obj} {v : Value} {e : TypeId} {size n : Nat} {xs : List Value} (hb : Below B a w) (hB : B ≤ w.heap.size) (h : w.ownsRow B e size v n xs) (hg : (w.alloc o).grownBy w1 v.ownBlock) : Below B a w1 :=
  (hb.alloc hB o).grown hg (by rw [size_alloc]; omega) (fun k hk => (h.lt k hk).1)
theorem own_five {w : World} {B g n c : Nat} {l : List Bk} (h : w.ownsRow B 39 5 (.slice (some ⟨g, 0, none⟩) n c) n (rowG bkE 5 l)) {j : Nat} (hj : j < l.length) (x : Bk) :
    (((((w.setCell ⟨g, j * 5, none⟩ (.int .i64 x.st)).setCell ⟨g, j * 5 + 1, none⟩ (.int .i64 x.ct)).setCell ⟨g, j * 5 + 2, none⟩ (.int .i64 x.sm)).setCell ⟨g, j * 5 + 3, none⟩ (.int .i64 x.mn)).setCell ⟨g, j * 5 + 4, none⟩ (.int .i64 x.mx)).ownsRow B 39 5 (.slice (some ⟨g, 0, none⟩) n c) n (rowG bkE 5 (l.set j x)) := by
  have h1 := (((((h.stored (j * 5) (bkE x 0)).1.stored (j * 5 + 1) (bkE x 1)).1.stored (j * 5 + 2) (bkE x 2)).1.stored (j * 5 + 3) (bkE x 3)).1.stored (j * 5 + 4) (bkE x 4)).1
  rw [rowB_set l x hj] at h1
  exact h1
set_option maxHeartbeats 4000000 in
set_option maxRecDepth 100000 in
theorem addBucket_any (B : Nat) (A : Option Addr) (n c : Nat) (l : List Bk) (b0 b1 b2 b3 b4 : Int) (S : Int) (k : Nat) (w : World) (hl : l.length = n) (ht : Tot l S k) (hk : k < 16) (hb0 : -1000 ≤ b2) (hb1 : b2 ≤ 1000)
    (hown : w.ownsRow B 39 5 (.slice A n c) n (rowG bkE 5 l)) (hB : B ≤ w.heap.size) :
    Calls Try.prog 42 #[.slice A n c, .agg #[.int .i64 b0, .int .i64 b1, .int .i64 b2, .int .i64 b3, .int .i64 b4]] w (AddP w B (Value.slice A n c).ownBlock (S + b2) (k + 1)) := by
  have HL := Lib.hid hl
  have HT := Lib.hid ht
  have hn16 : n ≤ 16 := by have := ht.2.1; omega
  clear hl ht
  obtain ⟨i0, hi, hz0, hz1, hz2⟩ := info_parts Try.infoBk
  have hQ := Blk.new w 39 #[.int .i64 b0, .int .i64 b1, .int .i64 b2, .int .i64 b3, .int .i64 b4]
  have HQ := Lib.hid (fun nq => (show Blk ((w.alloc (Obj.cells #[.int .i64 b0, .int .i64 b1, .int .i64 b2, .int .i64 b3, .int .i64 b4] 39)).drewN nq) w.heap.size 39 #[.int .i64 b0, .int .i64 b1, .int .i64 b2, .int .i64 b3, .int .i64 b4] from hQ))
  have hOW := own_kept hown (kept_alloc (Below.refl w.heap.size w) (Obj.cells #[.int .i64 b0, .int .i64 b1, .int .i64 b2, .int .i64 b3, .int .i64 b4] 39))
  have HOW := Lib.hid (fun nq => (show ((w.alloc (Obj.cells #[.int .i64 b0, .int .i64 b1, .int .i64 b2, .int .i64 b3, .int .i64 b4] 39)).drewN nq).ownsRow B 39 5 (.slice A n c) n (rowG bkE 5 l) from hOW))
  have hbW := kept_alloc (Below.refl w.heap.size w) (Obj.cells #[Value.int .i64 b0, .int .i64 b1, .int .i64 b2, .int .i64 b3, .int .i64 b4] 39)
  have HBW := Lib.hid (fun nq => (kept_drewN (hbW.mono hB) nq : Below B w ((w.alloc (Obj.cells #[Value.int .i64 b0, .int .i64 b1, .int .i64 b2, .int .i64 b3, .int .i64 b4] 39)).drewN nq)))
  have HBX := Lib.hid (fun nq => (kept_drewN hbW nq : Below w.heap.size w ((w.alloc (Obj.cells #[Value.int .i64 b0, .int .i64 b1, .int .i64 b2, .int .i64 b3, .int .i64 b4] 39)).drewN nq)))
  clear hQ hOW hbW
  have HSN := Lib.hid (HT.out.snoc (b := ⟨b0, b1, b2, b3, b4⟩) hb0 hb1)
  have HRS := Lib.hid (show rowG bkE 5 l ++ [.int .i64 b0, .int .i64 b1, .int .i64 b2, .int .i64 b3, .int .i64 b4] = rowG bkE 5 (l ++ [⟨b0, b1, b2, b3, b4⟩]) by rw [rowG_snoc]; rfl)
  rcases n with _ | j
  · have hw0 : IntKind.i64.wrap (((0 : Nat) : Int) - 1) = -1 := IntWalk.i64_in _ (by omega)
    clear hown
    go_enter Try.func42, Try.ntmps42
    go_wp2_with fail
    go_quiet (fail)
    have hO1 := HOW.out nq
    have hQ1 := HQ.out nq
    have hB1 := HBW.out nq
    have hX1 := HBX.out nq
    generalize (w.alloc (Obj.cells #[Value.int .i64 b0, .int .i64 b1, .int .i64 b2, .int .i64 b3, .int .i64 b4] 39)).drewN nq = W1 at *
    have hs1 : B ≤ W1.heap.size := Nat.le_trans hB hB1.size
    obtain ⟨q0, q1, q2, q3, q4⟩ := hQ1.five
    go_wp2_with (at_builtin; refine wpList_append_lies _ rfl _ _ _ rfl (B) 39 i0 _ 5 40 Try.underlying36 hi hz0 hz1 hz2 rfl (by omega) _ (0) (rowG bkE 5 l) rfl ((hO1).alloc _) ⟨W1.heap.size, 0, none⟩ 1 1 ([.int .i64 b0, .int .i64 b1, .int .i64 b2, .int .i64 b3, .int .i64 b4]) rfl rfl (World.news_of_block (cs := ([.int .i64 b0, .int .i64 b1, .int .i64 b2, .int .i64 b3, .int .i64 b4]).toArray) (t := 39) (fr := (0, 0)) (heap_alloc_new W1 _)) (by simp [Value.oneCell']) (by omega) (by simp only [maxLen]; omega) (by omega) (by simp; omega) (W1.heap.size + 1) (by simp) ?_; intro gg cap w2 hown2 hgrow hat hlt2)
    have hb4 := below_appB hB1 hs1 hO1 hgrow
    rw [HRS.out] at hown2
    have hfar : ∀ i, i < w.heap.size → some i ≠ (Value.slice A 0 c).ownBlock → w2.heap[i]? = w.heap[i]? := fun i hi hne => by
      have h1 := hX1.size
      rw [hgrow.block i (by rw [size_alloc]; omega) hne, Below.heap_alloc _ _ i (by omega)]
      exact hX1.block i hi
    have HX := Lib.hid (And.intro hown2 (And.intro hb4 hfar))
    clear hgrow hat hb4 hown2 hO1 hQ1 hB1 q0 q1 q2 q3 q4
    go_wp2
    go_ret
    exact ⟨_, _, _, _, rfl, by rw [List.length_append, HL.out]; rfl, HSN.out, HX.out.1, HX.out.2.1, HX.out.2.2⟩
  · have hw0 : IntKind.i64.wrap (((j + 1 : Nat) : Int) - 1) = (j : Int) := by rw [show ((j + 1 : Nat) : Int) - 1 = (j : Int) by omega]; exact IntWalk.i64_in _ (by omega)
    obtain ⟨g, cap, hv, hgB, hgl⟩ := hown.form (Nat.succ_pos j)
    have hA : A = some ⟨g, 0, none⟩ := by injection hv
    subst hA
    obtain ⟨x, hx⟩ : ∃ x, at0 l j = x := ⟨_, rfl⟩
    have hjl : j < l.length := by rw [HL.out]; omega
    have HJ := Lib.hid hjl
    have hxb := HT.out.2.2 j hjl
    have hTJ := fun (y : Bk) (hy : y.sm = (at0 l j).sm + b2) => HT.out.join hjl (b := ⟨b0, b1, b2, b3, b4⟩) (x := y) hb0 hb1 hy
    rw [hx] at hxb hTJ
    have hws : wrap64 (x.sm + b2) = x.sm + b2 := IntWalk.wrap64_in _ (by omega)
    obtain ⟨x0, x1, x2, x3, x4⟩ := x
    have HTJ := Lib.hid hTJ
    have HWS := Lib.hid hws
    have HXX := Lib.hid hx
    obtain ⟨c0, c1, c2, c3, c4⟩ := own_cellsB hown HL.out (Nat.lt_succ_self j) hx
    have hgne : ¬ g = w.heap.size := by omega
    have hgne2 : ¬ w.heap.size = g := by omega
    clear hown hv hjl hxb hTJ hx hws
    simp only at c0 c1 c2 c3 c4
    by_cases he : x0 = b0
    · subst he
      have hij2 : (j : Int) < (j : Int) + 1 := by omega
      have hij3 : (j : Int) < ((j + 1 : Nat) : Int) := by omega
      go_enter Try.func42, Try.ntmps42
      go_wp2_with fail
      go_quiet (fail)
      have hO1 := HOW.out nq
      have hQ1 := HQ.out nq
      have hB1 := HBW.out nq
      have hX1 := HBX.out nq
      generalize (w.alloc (Obj.cells #[Value.int .i64 x0, .int .i64 b1, .int .i64 b2, .int .i64 b3, .int .i64 b4] 39)).drewN nq = W1 at *
      have hs1 : B ≤ W1.heap.size := Nat.le_trans hB hB1.size
      clear c0 c1 c2 c3 c4
      have hO2 : W1.drew.ownsRow B 39 5 (.slice (some ⟨g, 0, none⟩) (j + 1) c) (j + 1) (rowG bkE 5 l) := hO1
      have hQ2 : Blk W1.drew w.heap.size 39 #[.int .i64 x0, .int .i64 b1, .int .i64 b2, .int .i64 b3, .int .i64 b4] := hQ1
      have hB2 := hB1.drew
      clear hO1 hQ1 hB1
      obtain ⟨q0, q1, q2, q3, q4⟩ := hQ2.five
      obtain ⟨c0, c1, c2, c3, c4⟩ := own_cellsB hO2 HL.out (Nat.lt_succ_self j) HXX.out
      simp only at c0 c1 c2 c3 c4
      go_wp2_with fail
      go_region_with (first
        | (go_at_call 58; (with_reducible refine (joinBuckets_any x0 x1 x2 x3 x4 x0 b1 b2 b3 b4 _).mono ?_); rintro ee w4 ⟨ct, mn, mx, rfl, hb4⟩; have hO4 := own_kept hO2 hb4; obtain ⟨z0, z1, z2, z3, z4⟩ := (hQ2.kept hb4).five; obtain ⟨e0, e1, e2, e3, e4⟩ := own_cellsB hO4 HL.out (Nat.lt_succ_self j) HXX.out; have f0 := hO4.frozenAt (j * 5); have f1 := hO4.frozenAt (j * 5 + 1); have f2 := hO4.frozenAt (j * 5 + 2); have f3 := hO4.frozenAt (j * 5 + 3); have f4 := hO4.frozenAt (j * 5 + 4)))
      all_goals
        have hK := own_five hO4 HJ.out ⟨x0, ct, wrap64 (x2 + b2), mn, mx⟩
        have hTt := HTJ.out ⟨x0, ct, wrap64 (x2 + b2), mn, mx⟩ HWS.out
        have hgB' := hgB
        have hB5 := (((((hB2.trans (hb4.mono (show B ≤ W1.drew.heap.size from hs1))).setCell (p := ⟨g, j * 5, none⟩) hgB (.int .i64 x0)).setCell (p := ⟨g, j * 5 + 1, none⟩) hgB (.int .i64 ct)).setCell (p := ⟨g, j * 5 + 2, none⟩) hgB (.int .i64 (wrap64 (x2 + b2)))).setCell (p := ⟨g, j * 5 + 3, none⟩) hgB (.int .i64 mn)).setCell (p := ⟨g, j * 5 + 4, none⟩) hgB (.int .i64 mx)
        have hfar : ∀ i, i < w.heap.size → some i ≠ (Value.slice (some ⟨g, 0, none⟩) (j + 1) c).ownBlock → (((((w4.setCell ⟨g, j * 5, none⟩ (.int .i64 x0)).setCell ⟨g, j * 5 + 1, none⟩ (.int .i64 ct)).setCell ⟨g, j * 5 + 2, none⟩ (.int .i64 (wrap64 (x2 + b2)))).setCell ⟨g, j * 5 + 3, none⟩ (.int .i64 mn)).setCell ⟨g, j * 5 + 4, none⟩ (.int .i64 mx)).heap[i]? = w.heap[i]? := fun i hi hne => by
          have h1 := hX1.size
          have hig : i ≠ g := by rintro rfl; exact hne rfl
          rw [Below.heap_setCell _ _ _ i hig, Below.heap_setCell _ _ _ i hig, Below.heap_setCell _ _ _ i hig, Below.heap_setCell _ _ _ i hig, Below.heap_setCell _ _ _ i hig]
          exact (hb4.block i (Nat.lt_of_lt_of_le hi h1)).trans (hX1.block i hi)
        have HX := Lib.hid (And.intro hK (And.intro hTt (And.intro hB5 hfar)))
        clear hK hTt hB5 hO4 hO2 hQ2 hB2 hb4 q0 q1 q2 q3 q4 c0 c1 c2 c3 c4 z0 z1 z2 z3 z4 e0 e1 e2 e3 e4 f0 f1 f2 f3 f4
        go_wp2
        go_ret
        exact ⟨_, _, _, _, rfl, by rw [List.length_set]; exact HL.out, HX.out.2.1, HX.out.1, HX.out.2.2.1, HX.out.2.2.2⟩
    · have he2 : (x0 == b0) = false := by simp [he]
      go_enter Try.func42, Try.ntmps42
      go_wp2_with fail
      go_quiet (fail)
      have hO1 := HOW.out nq
      have hQ1 := HQ.out nq
      have hB1 := HBW.out nq
      have hX1 := HBX.out nq
      generalize (w.alloc (Obj.cells #[Value.int .i64 b0, .int .i64 b1, .int .i64 b2, .int .i64 b3, .int .i64 b4] 39)).drewN nq = W1 at *
      have hs1 : B ≤ W1.heap.size := Nat.le_trans hB hB1.size
      obtain ⟨q0, q1, q2, q3, q4⟩ := hQ1.five
      go_wp2_with (at_builtin; refine wpList_append_lies _ rfl _ _ _ rfl (B) 39 i0 _ 5 40 Try.underlying36 hi hz0 hz1 hz2 rfl (by omega) _ (j + 1) (rowG bkE 5 l) rfl ((hO1).alloc _) ⟨W1.heap.size, 0, none⟩ 1 1 ([.int .i64 b0, .int .i64 b1, .int .i64 b2, .int .i64 b3, .int .i64 b4]) rfl rfl (World.news_of_block (cs := ([.int .i64 b0, .int .i64 b1, .int .i64 b2, .int .i64 b3, .int .i64 b4]).toArray) (t := 39) (fr := (0, 0)) (heap_alloc_new W1 _)) (by simp [Value.oneCell']) (by omega) (by simp only [maxLen]; omega) (by omega) (by simp; omega) (W1.heap.size + 1) (by simp) ?_; intro gg cap w2 hown2 hgrow hat hlt2)
      have hb4 := below_appB hB1 hs1 hO1 hgrow
      rw [HRS.out] at hown2
      have hfar : ∀ i, i < w.heap.size → some i ≠ (Value.slice (some ⟨g, 0, none⟩) (j + 1) c).ownBlock → w2.heap[i]? = w.heap[i]? := fun i hi hne => by
        have h1 := hX1.size
        rw [hgrow.block i (by rw [size_alloc]; omega) hne, Below.heap_alloc _ _ i (by omega)]
        exact hX1.block i hi
      have HX := Lib.hid (And.intro hown2 (And.intro hb4 hfar))
      clear hgrow hat hb4 hown2 hO1 hQ1 hB1 q0 q1 q2 q3 q4
      go_wp2
      go_ret
      exact ⟨_, _, _, _, rfl, by rw [List.length_append, HL.out]; rfl, HSN.out, HX.out.1, HX.out.2.1, HX.out.2.2⟩
end Go.Proofs.Ytiajcnldfdijoaa
