/-
  Walk: CloseHead of the reference.
-/
import Derived.Test.YtiajcnldfdijoaaHeadW4
namespace Go.Proofs.Ytiajcnldfdijoaa
open Go.RowKit
section
variable {P : Program} (w : World)
theorem run_append_at0 (t ty e : TypeId) (i : TypeInfo) (ht : P.underlying t = some (.slice e)) (hi : P.info? e = some i) (a : Addr) (A : Option Addr) (m c : Nat) (hm : 0 < m) (h63 : m ≤ 9223372036854775807) (hbytes : m * i.bytes ≤ 140737488355328) :
    (Builtin.append_ #[t, t] ty #[.slice (some a) 0 0, .slice A m c]).run P w = (Builtin.append_ #[t, t] ty #[.slice none 0 0, .slice A m c]).run P w := by
  have h2 : Builtin.nextslicecap m 0 = m := by unfold Builtin.nextslicecap; rw [if_pos (by omega)]
  have h3 : ¬ m = 0 := by omega
  have h4 : ¬ (9223372036854775807 : Int) < (m : Int) := by omega
  have h5 : ¬ 281474976710656 < m * i.bytes := by omega
  have h6 : ∀ W, (loadCells a 0).run P W = .ok #[] W := fun _ => rfl
  simp [Builtin.append_, run_underlying ht, sizeOf, typeInfo, hi, Builtin.lenOf, Builtin.firstCells, h2, h3, h4, h5, h6]
theorem run_append_zero (t ty e : TypeId) (i : TypeInfo) (ht : P.underlying t = some (.slice e)) (hi : P.info? e = some i) (a : Addr) (A : Option Addr) (c : Nat) :
    (Builtin.append_ #[t, t] ty #[.slice (some a) 0 0, .slice A 0 c]).run P w = .ok (.slice (some a) 0 0) w := by
  have h6 : ∀ b W, (loadCells b 0).run P W = .ok #[] W := fun _ _ => rfl
  rcases A with _ | b <;> simp [Builtin.append_, run_underlying ht, sizeOf, typeInfo, hi, Builtin.lenOf, Builtin.firstCells, storeCells, h6]
theorem run_append_nil0 (t ty e : TypeId) (i : TypeInfo) (ht : P.underlying t = some (.slice e)) (hi : P.info? e = some i) (A : Option Addr) (c : Nat) :
    (Builtin.append_ #[t, t] ty #[.slice none 0 0, .slice A 0 c]).run P w = .ok (.slice none 0 0) w := by
  have h6 : ∀ b W, (loadCells b 0).run P W = .ok #[] W := fun _ _ => rfl
  rcases A with _ | b <;> simp [Builtin.append_, run_underlying ht, sizeOf, typeInfo, hi, Builtin.lenOf, Builtin.firstCells, h6]
/-- m cells that were made new, from lo on. -/
def RdN (w : World) (lo : Nat) (A : Option Addr) (m : Nat) (g : Nat → Value) : Prop := 0 < m → ∃ b, A = some ⟨b, 0, none⟩ ∧ lo ≤ b ∧ b < w.heap.size ∧ ∀ j, j < m → w.cell? ⟨b, j, none⟩ = some (g j)
theorem RdN.below {w w' : World} {lo : Nat} {A : Option Addr} {m : Nat} {g : Nat → Value} (h : RdN w lo A m g) (hb : Below w.heap.size w w') : RdN w' lo A m g := fun h0 => by
  obtain ⟨b, e, hl, hlt, hc⟩ := h h0
  exact ⟨b, e, hl, Nat.lt_of_lt_of_le hlt hb.size, fun j hj => (hb.cell (p := ⟨b, j, none⟩) hlt).trans (hc j hj)⟩
theorem RdN.mono {w : World} {lo lo' : Nat} {A : Option Addr} {m : Nat} {g : Nat → Value} (h : RdN w lo A m g) (hl' : lo' ≤ lo) : RdN w lo' A m g := fun h0 => by
  obtain ⟨b, e, hl, hlt, hc⟩ := h h0
  exact ⟨b, e, Nat.le_trans hl' hl, hlt, hc⟩
theorem RdN.set_ {w : World} {lo : Nat} {A : Option Addr} {m : Nat} {g : Nat → Value} (h : RdN w lo A m g) {p : Addr} (hp : p.block < lo) (u : Value) : RdN (w.setCell p u) lo A m g := fun h0 => by
  obtain ⟨b, e, hl, hlt, hc⟩ := h h0
  refine ⟨b, e, hl, by simpa [World.setCell] using hlt, fun j hj => ?_⟩
  rw [← hc j hj]
  exact World.cell?_of_block (a := ⟨b, j, none⟩) (Below.heap_setCell w p u b (by rintro rfl; exact absurd hp (by omega)))
theorem RdN.rd {w : World} {lo : Nat} {A : Option Addr} {m : Nat} {g : Nat → Value} (h : RdN w lo A m g) : Rd w w.heap.size A m g := fun h0 => by
  obtain ⟨b, e, _, hlt, hc⟩ := h h0
  exact ⟨b, 0, e, hlt, fun j hj => by rw [Nat.zero_add]; exact hc j hj⟩
theorem RdN.zero (w : World) (lo : Nat) (A : Option Addr) (g : Nat → Value) : RdN w lo A 0 g := fun h => absurd h (by omega)
theorem below_of_grown {w w' : World} (h : w.grownBy w' none) : Below w.heap.size w w' := ⟨h.os, h.tape, h.output, h.size, fun i hi => h.block i hi (by simp)⟩
theorem run_append_new (t ty e : TypeId) (i : TypeInfo) (z : Value) (size bytes : Nat) (ht : P.underlying t = some (.slice e)) (hi : P.info? e = some i) (hz : i.zero = some z)
    (hsize : i.size = size) (hby : i.bytes = bytes) (hzs : z.cells.size = size) (hsz : 0 < size) (A0 : Option Addr)
    (B : Nat) (A : Option Addr) (m c : Nat) (g : Nat → Value) (hr : Rd w B A (m * size) g) (h1 : ∀ j, (g j).oneCell' = true)
    (h63 : m ≤ maxLen) (hbytes : m * bytes ≤ 140737488355328) :
    ∃ A' c' w', (Builtin.append_ #[t, t] ty #[.slice A0 0 0, .slice A m c]).run P w = .ok (.slice A' m c') w' ∧ RdN w' w.heap.size A' (m * size) g ∧ Below w.heap.size w w' := by
  rcases Nat.eq_zero_or_pos m with h0 | h0
  · subst h0
    rcases A0 with _ | a
    · exact ⟨none, 0, w, run_append_nil0 w t ty e i ht hi A c, by rw [Nat.zero_mul]; exact RdN.zero _ _ _ _, Below.refl _ _⟩
    · exact ⟨some a, 0, w, run_append_zero w t ty e i ht hi a A c, by rw [Nat.zero_mul]; exact RdN.zero _ _ _ _, Below.refl _ _⟩
  · obtain ⟨A', c', w', hrun, hown, hg⟩ := run_append_rd (P := P) w w.heap.size t ty e i z size bytes ht hi hz hsize hby hzs hsz (.slice none 0 0) 0 [] (World.ownsRow_nil _ _ _ _) B A m c g hr h1 (by rw [Nat.zero_add]; exact h63) (by rw [Nat.zero_add]; exact hbytes) (Nat.le_refl _)
    rw [Nat.zero_add] at hrun hown
    refine ⟨A', c', w', ?_, fun hp => ?_, below_of_grown hg⟩
    · rcases A0 with _ | a
      · exact hrun
      · rw [run_append_at0 w t ty e i ht hi a A m c h0 h63 (by rw [hby]; exact hbytes)]; exact hrun
    · obtain ⟨b, cap, hv, hl, hlt⟩ := hown.form h0
      have hA : A' = some ⟨b, 0, none⟩ := by injection hv
      subst hA
      refine ⟨b, rfl, hl, hlt, fun j hj => ?_⟩
      rw [hown.cellAt j hj, List.nil_append, List.getElem?_map, List.getElem?_range hj]; rfl
theorem step_append_new {ops : Array Oper} {o : Oper} {a : Act} {K : Act → World → Prop} {Q : Exit → Act → World → Prop} {E : Prop} (hgd : o.guard = none) (s x : Operand) (t : TypeId)
    (ho : o.op = .call { callee := .builtin .append, args := #[s, x], argTypes := #[t, t] })
    (e : TypeId) (i : TypeInfo) (z : Value) (size bytes : Nat) (ht : P.underlying t = some (.slice e)) (hi : P.info? e = some i) (hz : i.zero = some z)
    (hsize : i.size = size) (hby : i.bytes = bytes) (hzs : z.cells.size = size) (hsz : 0 < size) (A0 : Option Addr) (hs : a.eval s = .slice A0 0 0)
    (B : Nat) (A : Option Addr) (m c : Nat) (g : Nat → Value) (hx : a.eval x = .slice A m c) (hr : Rd w B A (m * size) g) (h1 : ∀ j, (g j).oneCell' = true)
    (h63 : m ≤ maxLen) (hbytes : m * bytes ≤ 140737488355328)
    (h : ∀ A' c' w', Below w.heap.size w w' → RdN w' w.heap.size A' (m * size) g → K (a.put o.dst (.slice A' m c')) w') :
    if Region.wanted o (yielded ops a.tmps) = true then Oper.wp P o a w K Q else E := by
  have hw : Region.wanted o (yielded ops a.tmps) = true := by simp [Region.wanted, hgd]
  rw [if_pos hw]
  obtain ⟨A', c', w', hrun, h2, h3⟩ := run_append_new (P := P) w t o.type e i z size bytes ht hi hz hsize hby hzs hsz A0 B A m c g hr h1 h63 hbytes
  unfold Oper.wp execOp
  simp only [ho, resolve, invoke, builtin, Sem.run_bind, Sem.run_pure, Result.andThen_ok, List.map_toArray, List.map_cons, List.map_nil, hs, hx, hrun]
  exact h A' c' w' h3 h2
end
/-- What is known in the midst of the statement that draws its order: nothing that was there in 'a' has turned; the two copies, where they are made, read. -/
structure Iv (a W : World) (lo lc : List (Int × Int)) (n m : Nat) (y1 y2 : Option (Option Addr)) : Prop where
  below : Below a.heap.size a W
  one : ∀ A, y1 = some A → RdN W a.heap.size A (m * 2) (cells2 lc)
  two : ∀ A, y2 = some A → RdN W a.heap.size A (n * 2) (cells2 lo)
section
variable {a W w' : World} {lo lc : List (Int × Int)} {n m : Nat} {y1 y2 : Option (Option Addr)}
theorem Iv.alloc (h : Iv a W lo lc n m y1 y2) (o : Obj) : Iv a (W.alloc o) lo lc n m y1 y2 :=
  ⟨kept_alloc h.below o, fun A e => (h.one A e).below (kept_alloc (Below.refl _ _) o), fun A e => (h.two A e).below (kept_alloc (Below.refl _ _) o)⟩
theorem Iv.step1 (h : Iv a W lo lc n m y1 y2) {A : Option Addr} (hb : Below W.heap.size W w') (hN : RdN w' W.heap.size A (m * 2) (cells2 lc)) : Iv a w' lo lc n m (some A) y2 :=
  ⟨kept_trans h.below hb, fun A' e => by cases e; exact hN.mono h.below.size, fun A' e => (h.two A' e).below hb⟩
theorem Iv.step2 (h : Iv a W lo lc n m y1 y2) {A : Option Addr} (hb : Below W.heap.size W w') (hN : RdN w' W.heap.size A (n * 2) (cells2 lo)) : Iv a w' lo lc n m y1 (some A) :=
  ⟨kept_trans h.below hb, fun A' e => (h.one A' e).below hb, fun A' e => by cases e; exact hN.mono h.below.size⟩
theorem Iv.final {w : World} {P Q : Nat} {A1 A2 : Option Addr} (h : Iv a W lo lc n m (some A1) (some A2)) (hk : Below P w a) (hlo : lo.length = n) (hlc : lc.length = m) (hP : P ≤ a.heap.size) (hQ : Q < a.heap.size) (hPQ : P ≤ Q) (u0 u1 u2 u3 : Value) :
    Rd2 ((((W.setCell ⟨Q, 0, none⟩ u0).setCell ⟨Q, 1, none⟩ u1).setCell ⟨Q, 2, none⟩ u2).setCell ⟨Q, 3, none⟩ u3) ((((W.setCell ⟨Q, 0, none⟩ u0).setCell ⟨Q, 1, none⟩ u1).setCell ⟨Q, 2, none⟩ u2).setCell ⟨Q, 3, none⟩ u3).heap.size A1 lc ∧
    Rd2 ((((W.setCell ⟨Q, 0, none⟩ u0).setCell ⟨Q, 1, none⟩ u1).setCell ⟨Q, 2, none⟩ u2).setCell ⟨Q, 3, none⟩ u3) ((((W.setCell ⟨Q, 0, none⟩ u0).setCell ⟨Q, 1, none⟩ u1).setCell ⟨Q, 2, none⟩ u2).setCell ⟨Q, 3, none⟩ u3).heap.size A2 lo ∧
    Below P w ((((W.setCell ⟨Q, 0, none⟩ u0).setCell ⟨Q, 1, none⟩ u1).setCell ⟨Q, 2, none⟩ u2).setCell ⟨Q, 3, none⟩ u3) := by
  refine ⟨?_, ?_, ?_⟩
  · unfold Rd2; rw [hlc]
    exact ((((((h.one A1 rfl).set_ (p := ⟨Q, 0, none⟩) hQ u0).set_ (p := ⟨Q, 1, none⟩) hQ u1).set_ (p := ⟨Q, 2, none⟩) hQ u2).set_ (p := ⟨Q, 3, none⟩) hQ u3)).rd
  · unfold Rd2; rw [hlo]
    exact ((((((h.two A2 rfl).set_ (p := ⟨Q, 0, none⟩) hQ u0).set_ (p := ⟨Q, 1, none⟩) hQ u1).set_ (p := ⟨Q, 2, none⟩) hQ u2).set_ (p := ⟨Q, 3, none⟩) hQ u3)).rd
  · exact ((((hk.trans (h.below.mono hP)).setCell (p := ⟨Q, 0, none⟩) hPQ u0).setCell (p := ⟨Q, 1, none⟩) hPQ u1).setCell (p := ⟨Q, 2, none⟩) hPQ u2).setCell (p := ⟨Q, 3, none⟩) hPQ u3
end
/-- What CloseHead of the reference hands back. -/
def CloseS (w : World) (xw xn : Int) (lo lc : List (Int × Int)) (b : Bool) (e : Ending) (w' : World) : Prop :=
  ∃ A1 c1 A2 c2 A3 c3, e = .returned (.tuple #[.slice A1 lc.length c1, .agg #[.int .i64 xw, .int .i64 xn, .slice A2 lo.length c2, .slice A3 0 c3], .bool b]) ∧
    Rd2 w' w'.heap.size A1 lc ∧ Rd2 w' w'.heap.size A2 lo ∧ Below w.heap.size w w'
theorem cell_alloc_far (W : World) (o : Obj) (Q i : Nat) (h : ¬ Q = W.heap.size) : (W.alloc o).cell? ⟨Q, i, none⟩ = W.cell? ⟨Q, i, none⟩ := by
  refine World.cell?_of_block (a := ⟨Q, i, none⟩) ?_
  rcases Nat.lt_or_ge Q W.heap.size with h1 | h1
  · exact Below.heap_alloc W o Q h1
  · show (W.alloc o).heap[Q]? = W.heap[Q]?
    rw [Array.getElem?_eq_none h1, Array.getElem?_eq_none (by rw [heap_size_alloc]; omega)]
theorem frozen_alloc_cells (W : World) (cs : Array Value) (t : TypeId) (Q i : Nat) : (W.alloc (.cells cs t)).frozen? ⟨Q, i, none⟩ = W.frozen? ⟨Q, i, none⟩ := frozen?_alloc_cells W cs t _
theorem Iv.close {w a W : World} {hw hn : Int} {lo lc : List (Int × Int)} {n m c1 c2 P Q : Nat} {A1 A2 X : Option Addr} (h : Iv a W lo lc n m (some A1) (some A2)) (hk : Below P w a) (hlo : lo.length = n) (hlc : lc.length = m) (hP : w.heap.size = P) (hPa : P ≤ a.heap.size) (hQ : Q < a.heap.size) (hPQ : P ≤ Q) :
    CloseS w hw hn lo lc true (.returned (.tuple #[.slice A1 m c1, .agg #[.int .i64 hw, .int .i64 hn, .slice A2 n c2, .slice X 0 0], .bool true])) ((((W.setCell ⟨Q, 0, none⟩ (.int .i64 hw)).setCell ⟨Q, 1, none⟩ (.int .i64 hn)).setCell ⟨Q, 2, none⟩ (.slice A2 n c2)).setCell ⟨Q, 3, none⟩ (.slice X 0 0)) := by
  have k := h.final hk hlo hlc hPa hQ hPQ (.int .i64 hw) (.int .i64 hn) (.slice A2 n c2) (.slice X 0 0)
  refine ⟨A1, c1, A2, c2, X, 0, by rw [hlo, hlc], k.1, k.2.1, by rw [hP]; exact k.2.2⟩
/-- What is known behind the statement that draws its order. -/
def MidC (a : World) (hw hn : Int) (lo lc : List (Int × Int)) (n m Q : Nat) : Exit → Act → World → Prop
  | .normal, act, W => ∃ (A1 : Option Addr) (c1 : Nat) (A2 : Option Addr) (c2 : Nat) (X : Option Addr) (V : World) (j0 j1 j5 j6 j7 j8 j9 j10 j11 j12 j13 j14 j15 j16 j17 j18 j19 j20 j21 j22 : Value),
      act = { tmps := #[j0, j1, .slice A1 m c1, .pointer (some ⟨Q, 0, none⟩), .bool true, j5, j6, j7, j8, j9, j10, j11, j12, j13, j14, j15, j16, j17, j18, j19, j20, j21, j22], defers := [] } ∧
      W = ((((V.setCell ⟨Q, 0, none⟩ (.int .i64 hw)).setCell ⟨Q, 1, none⟩ (.int .i64 hn)).setCell ⟨Q, 2, none⟩ (.slice A2 n c2)).setCell ⟨Q, 3, none⟩ (.slice X 0 0)) ∧ Iv a V lo lc n m (some A1) (some A2)
  | _, _, _ => False
set_option maxHeartbeats 8000000 in
set_option maxRecDepth 100000 in
theorem specCloseHead_any (hw hn : Int) (A : Option Addr) (n c : Nat) (B : Option Addr) (m e : Nat) (lo lc : List (Int × Int)) (w : World) (hlo : lo.length = n) (hlc : lc.length = m) (h1 : n ≤ 1048576) (h2 : m ≤ 1048576)
    (hr : Rd2 w w.heap.size A lo) (hr' : Rd2 w w.heap.size B lc) :
    Calls Try.prog 18 #[.agg #[.int .i64 hw, .int .i64 hn, .slice A n c, .slice B m e]] w (CloseS w (clW hw hn lo lc) (clN hw hn lo lc) (opL hw hn lo lc) (clL hw hn lo lc) (vH hw hn lo lc)) := by
  obtain ⟨i0, hi, hz0, hz1, hz2⟩ := info_parts infoPoint
  have hbW := kept_alloc (kept_alloc (Below.refl w.heap.size w) (Obj.cells #[Value.int .i64 hw, .int .i64 hn, .slice A n c, .slice B m e] 45)) (Obj.cells #[Value.int .i64 0, .int .i64 0, .slice none 0 0, .slice none 0 0] 45)
  have bP := (Blk.new w 45 #[.int .i64 hw, .int .i64 hn, .slice A n c, .slice B m e]).alloc (Obj.cells #[Value.int .i64 0, .int .i64 0, .slice none 0 0, .slice none 0 0] 45)
  have bR := Blk.new (w.alloc (Obj.cells #[Value.int .i64 hw, .int .i64 hn, .slice A n c, .slice B m e] 45)) 45 #[.int .i64 0, .int .i64 0, .slice none 0 0, .slice none 0 0]
  rw [heap_size_alloc] at bR
  have hrW := hr.next hbW
  have hrW' := hr'.next hbW
  have HO := Lib.hid hlo
  have HC := Lib.hid hlc
  have HR := Lib.hid hr
  have HR' := Lib.hid hr'
  clear hlo hlc hr hr'
  go_enter Try.func18, Try.ntmps18
  go_wp2_with fail
  generalize (w.alloc (Obj.cells #[Value.int .i64 hw, .int .i64 hn, .slice A n c, .slice B m e] 45)).alloc (Obj.cells #[Value.int .i64 0, .int .i64 0, .slice none 0 0, .slice none 0 0] 45) = W1 at *
  refine (specValidHead_any hw hn A n c B m e lo lc _ HO.out HC.out (by omega) (by omega) hrW hrW').mono ?_
  rintro ee w2 ⟨rfl, hb2⟩
  have kb2 := hbW.trans (hb2.mono hbW.size)
  have bP2 := bP.kept hb2
  have bR2 := bR.kept hb2
  clear hrW hrW' hbW bP bR hb2
  by_cases hv : vH hw hn lo lc = true
  · have HA := Lib.hid (cl_yes hv)
    have HV := Lib.hid hv
    rw [hv]
    have HRD := Lib.hid (fun (W : World) (hb : Below w2.heap.size w2 W) => (((HR.out.below kb2).mono kb2.size).next hb : Rd2 W W.heap.size A lo))
    have HRD' := Lib.hid (fun (W : World) (hb : Below w2.heap.size w2 W) => (((HR'.out.below kb2).mono kb2.size).next hb : Rd2 W W.heap.size B lc))
    have J : Iv w2 w2.drew lo lc n m none none := ⟨(Below.refl w2.heap.size w2).drew, fun _ h => absurd h (by simp), fun _ h => absurd h (by simp)⟩
    have JJ := Lib.hid J
    have KB2 := Lib.hid kb2
    generalize hP : w.heap.size = P at *
    generalize hQ : P + 1 = Q at *
    have HP := Lib.hid (And.intro hP hQ)
    have p2 := bP2.lt
    have q2 := bR2.lt
    have hPQ : ¬ P = Q := by omega
    have hQP : ¬ Q = P := by omega
    have BP := Lib.hid bP2
    have BR := Lib.hid bR2
    obtain ⟨d0, d1, d2, d3⟩ := bP2.four
    obtain ⟨r0, r1, r2, r3⟩ := bR2.four
    have g0 := bR2.frozen 0
    have g1 := bR2.frozen 1
    have g2 := bR2.frozen 2
    have g3 := bR2.frozen 3
    have P2 := Lib.hid p2
    have Q2 := Lib.hid q2
    have n0 : ¬ P = w2.heap.size := by omega
    have n1 : ¬ P = w2.heap.size + 1 := by omega
    have n2 : ¬ P = w2.heap.size + 1 + 1 := by omega
    have n3 : ¬ Q = w2.heap.size := by omega
    have n4 : ¬ Q = w2.heap.size + 1 := by omega
    have n5 : ¬ Q = w2.heap.size + 1 + 1 := by omega
    have m0 := Ne.symm n0; have m1 := Ne.symm n1; have m2 := Ne.symm n2; have m3 := Ne.symm n3; have m4 := Ne.symm n4; have m5 := Ne.symm n5
    clear hv kb2 bP2 bR2 hP hQ p2 q2 J
    go_wp2_with fail
    refine Code.wp_mono (fun ee act W (h : MidC w2 hw hn lo lc n m Q ee act W) => ?_) ?_
    · clear JJ BP HRD HRD' d0 d1 d2 d3 r0 r1 r2 r3 g0 g1 g2 g3 n0 n1 n2 n3 n4 n5 m0 m1 m2 m3 m4 m5
      rcases ee with _ | _ | _ | _ | _ | _ | _
      all_goals first | exact (h : False).elim | skip
      obtain ⟨A1, c1, A2, c2, X, V, j0, j1, j5, j6, j7, j8, j9, j10, j11, j12, j13, j14, j15, j16, j17, j18, j19, j20, j21, j22, rfl, rfl, J⟩ := h
      obtain ⟨r0, r1, r2, r3⟩ := (BR.out.kept J.below).four
      have hPa : P ≤ w2.heap.size := by have := P2.out; omega
      have hPq : P ≤ Q := by have := HP.out.2; omega
      have HF := Lib.hid (And.intro hPa hPq)
      clear hPa hPq
      go_wp2
      refine bodyPost_ret (v := _) (by simp [results, go_sem, r0, r1, r2, r3]; rfl) rfl ?_
      rw [HA.out.1, HA.out.2.1, HA.out.2.2.1, HA.out.2.2.2, HV.out]
      exact J.close KB2.out HO.out HC.out HP.out.1 HF.out.1 Q2.out HF.out.2
    have J := JJ.out
    have hfa := fun (W : World) (o : Obj) (i : Nat) => cell_alloc_far W o Q i
    have hfp := fun (W : World) (o : Obj) (i : Nat) => cell_alloc_far W o P i
    have hff := fun (W : World) (cs : Array Value) (t : TypeId) (i : Nat) => frozen_alloc_cells W cs t Q i
    go_region_held3 (fun w' => w'.cell? ⟨P, 0, none⟩ = some (.int .i64 hw) ∧ w'.cell? ⟨P, 1, none⟩ = some (.int .i64 hn) ∧ w'.cell? ⟨P, 2, none⟩ = some (.slice A n c) ∧ w'.cell? ⟨P, 3, none⟩ = some (.slice B m e))
      (first | go_keep | exact ⟨d0, d1, d2, d3⟩)
      (first
      | (refine step_append_new _ rfl (.tmp 9) (.tmp 11) _ rfl 30 i0 _ 2 16 Try.underlying23 hi hz0 hz1 hz2 rfl (by omega) _ rfl _ _ m _ (cells2 lc) rfl ((HRD'.out _ (by first | exact J.below | exact (J.alloc _).below | exact ((J.alloc _).alloc _).below | exact (((J.alloc _).alloc _).alloc _).below)).rdN HC.out) (one_cells2 lc) (by simp only [maxLen]; omega) (by omega) ?_; intro A1 c1 w4 hb4 hN4; (first | (have J := J.step1 hb4 hN4) | (have J := (J.alloc _).step1 hb4 hN4) | (have J := ((J.alloc _).alloc _).step1 hb4 hN4) | (have J := (((J.alloc _).alloc _).alloc _).step1 hb4 hN4)); clear hb4 hN4 d0 d1 d2 d3 r0 r1 r2 r3 g0 g1 g2 g3 n0 n1 n2 n3 n4 n5 m0 m1 m2 m3 m4 m5; obtain ⟨d0, d1, d2, d3⟩ := (BP.out.kept J.below).four; obtain ⟨r0, r1, r2, r3⟩ := (BR.out.kept J.below).four; have g0 := (BR.out.kept J.below).frozen 0; have g1 := (BR.out.kept J.below).frozen 1; have g2 := (BR.out.kept J.below).frozen 2; have g3 := (BR.out.kept J.below).frozen 3; have hs4 := J.below.size; have p2 := P2.out; have q2 := Q2.out; have n0 : ¬ P = w4.heap.size := (by omega); have n1 : ¬ P = w4.heap.size + 1 := (by omega); have n2 : ¬ P = w4.heap.size + 1 + 1 := (by omega); have n3 : ¬ Q = w4.heap.size := (by omega); have n4 : ¬ Q = w4.heap.size + 1 := (by omega); have n5 : ¬ Q = w4.heap.size + 1 + 1 := (by omega); have m0 := Ne.symm n0; have m1 := Ne.symm n1; have m2 := Ne.symm n2; have m3 := Ne.symm n3; have m4 := Ne.symm n4; have m5 := Ne.symm n5; clear hs4 p2 q2)
      | (refine step_append_new _ rfl (.tmp 17) (.tmp 19) _ rfl 30 i0 _ 2 16 Try.underlying23 hi hz0 hz1 hz2 rfl (by omega) _ rfl _ _ n _ (cells2 lo) rfl ((HRD.out _ (by first | exact J.below | exact (J.alloc _).below | exact ((J.alloc _).alloc _).below | exact (((J.alloc _).alloc _).alloc _).below)).rdN HO.out) (one_cells2 lo) (by simp only [maxLen]; omega) (by omega) ?_; intro A2 c2 w4 hb4 hN4; (first | (have J := J.step2 hb4 hN4) | (have J := (J.alloc _).step2 hb4 hN4) | (have J := ((J.alloc _).alloc _).step2 hb4 hN4) | (have J := (((J.alloc _).alloc _).alloc _).step2 hb4 hN4)); clear hb4 hN4 d0 d1 d2 d3 r0 r1 r2 r3 g0 g1 g2 g3 n0 n1 n2 n3 n4 n5 m0 m1 m2 m3 m4 m5; obtain ⟨d0, d1, d2, d3⟩ := (BP.out.kept J.below).four; obtain ⟨r0, r1, r2, r3⟩ := (BR.out.kept J.below).four; have g0 := (BR.out.kept J.below).frozen 0; have g1 := (BR.out.kept J.below).frozen 1; have g2 := (BR.out.kept J.below).frozen 2; have g3 := (BR.out.kept J.below).frozen 3; have hs4 := J.below.size; have p2 := P2.out; have q2 := Q2.out; have n0 : ¬ P = w4.heap.size := (by omega); have n1 : ¬ P = w4.heap.size + 1 := (by omega); have n2 : ¬ P = w4.heap.size + 1 + 1 := (by omega); have n3 : ¬ Q = w4.heap.size := (by omega); have n4 : ¬ Q = w4.heap.size + 1 := (by omega); have n5 : ¬ Q = w4.heap.size + 1 + 1 := (by omega); have m0 := Ne.symm n0; have m1 := Ne.symm n1; have m2 := Ne.symm n2; have m3 := Ne.symm n3; have m4 := Ne.symm n4; have m5 := Ne.symm n5; clear hs4 p2 q2))
    all_goals
      refine ⟨A1, c1, A2, c2, _, _, _, _, _, _, _, _, _, _, _, _, _, _, _, _, _, _, _, _, _, _, rfl, rfl, ?_⟩
      first | exact J | exact J.alloc _
  · have hv' : vH hw hn lo lc = false := by simpa using hv
    have HA := Lib.hid (cl_no hv)
    have HV := Lib.hid hv'
    rw [hv']
    have f0 := bR2.frozen 0
    have f1 := bR2.frozen 1
    have f2 := bR2.frozen 2
    have f3 := bR2.frozen 3
    obtain ⟨c0, c1, c2, c3⟩ := bR2.four
    have kb8 := (((kb2.setCell (p := ⟨w.heap.size + 1, 0, none⟩) (by simp) (.int .i64 0)).setCell (p := ⟨w.heap.size + 1, 1, none⟩) (by simp) (.int .i64 0)).setCell (p := ⟨w.heap.size + 1, 2, none⟩) (by simp) (.slice none 0 0)).setCell (p := ⟨w.heap.size + 1, 3, none⟩) (by simp) (.slice none 0 0)
    clear hv hv' bP2 bR2
    go_wp2
    refine bodyPost_ret (v := .tuple #[.slice none 0 0, .agg #[.int .i64 0, .int .i64 0, .slice none 0 0, .slice none 0 0], .bool false]) (by simp [results, go_sem, c0, c1, c2, c3]) rfl ?_
    rw [HA.out.1, HA.out.2.1, HA.out.2.2.1, HA.out.2.2.2, HV.out]
    exact ⟨none, 0, none, 0, none, 0, rfl, fun h => absurd h (by simp), fun h => absurd h (by simp), kb8⟩
end Go.Proofs.Ytiajcnldfdijoaa
