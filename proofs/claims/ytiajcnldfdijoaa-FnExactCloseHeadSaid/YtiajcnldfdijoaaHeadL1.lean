/-
  Walks: szHead, toHead, eqHead of the laws, ValidHead of the reference.
-/
import Derived.Test.YtiajcnldfdijoaaHeadW2
import Derived.Test.YtiajcnldfdijoaaPointCopy
namespace Go.Proofs.Ytiajcnldfdijoaa
open Go.RowKit
def SzPost (k : Int) (n m : Nat) (w : World) (e : Ending) (w' : World) : Prop := ∃ r : Int, e = .returned (.int .i64 r) ∧ -1 ≤ r ∧ r ≤ k ∧ (0 ≤ r → (n : Int) + m ≤ k) ∧ Below w.heap.size w w'
set_option maxHeartbeats 1000000 in
theorem szHead_any (hw hn : Int) (A : Option Addr) (n c : Nat) (B : Option Addr) (m e : Nat) (k : Int) (w : World) (h1 : n ≤ 9223372036854775807) (h2 : m ≤ 9223372036854775807) (hk : 0 ≤ k) (hk2 : k ≤ 1048576) :
    Calls Try.prog 17 #[.agg #[.int .i64 hw, .int .i64 hn, .slice A n c, .slice B m e], .int .i64 k] w (SzPost k n m w) := by
  have hbW := kept_alloc (Below.refl w.heap.size w) (Obj.cells #[Value.int .i64 hw, .int .i64 hn, .slice A n c, .slice B m e] 42)
  by_cases ha : k < n
  · go_enter Try.func17, Try.ntmps17
    go_wp2_with fail
    refine (szPointS_any A n c k _ h1 hk hk2).mono ?_
    rintro e w' ⟨rfl, rfl⟩
    rw [if_pos ha]
    go_wp2
    go_ret
    exact ⟨-1, rfl, by omega, by omega, fun h => absurd h (by omega), hbW⟩
  · by_cases hb : k - n < m
    · go_enter Try.func17, Try.ntmps17
      go_wp2_with fail
      refine (szPointS_any A n c k _ h1 hk hk2).mono ?_
      rintro e w' ⟨rfl, rfl⟩
      rw [if_neg (by omega)]
      go_wp2_with fail
      refine (szPointS_any B m _ (k - n) _ h2 (by omega) (by omega)).mono ?_
      rintro e w' ⟨rfl, rfl⟩
      rw [if_pos hb]
      go_wp2
      go_ret
      exact ⟨-1, rfl, by omega, by omega, fun h => absurd h (by omega), hbW⟩
    · go_enter Try.func17, Try.ntmps17
      go_wp2_with fail
      refine (szPointS_any A n c k _ h1 hk hk2).mono ?_
      rintro e w' ⟨rfl, rfl⟩
      rw [if_neg (by omega)]
      go_wp2_with fail
      refine (szPointS_any B m _ (k - n) _ h2 (by omega) (by omega)).mono ?_
      rintro e w' ⟨rfl, rfl⟩
      rw [if_neg (by omega)]
      go_wp2
      go_ret
      exact ⟨k - n - m, rfl, by omega, by omega, fun _ => by omega, hbW⟩

theorem Blk.other {w : World} {g : Nat} {t : TypeId} {cs : Array Value} (h : Blk w g t cs) {p : Addr} (hp : g ≠ p.block) (u : Value) : Blk (w.setCell p u) g t cs := (Below.heap_setCell w p u g hp).trans h
theorem heap_size_alloc (w : World) (o : Obj) : (w.alloc o).heap.size = w.heap.size + 1 := by simp
def HeadMade (hw hn : Int) (n m : Nat) (lo lc : List (Int × Int)) (w : World) (e : Ending) (w' : World) : Prop :=
  ∃ g1 g2, e = .returned (.agg #[.int .i64 hw, .int .i64 hn, .slice (some ⟨g1, 0, none⟩) n n, .slice (some ⟨g2, 0, none⟩) m m]) ∧ w.heap.size ≤ g1 ∧ g1 < g2 ∧
    Filled w' g1 30 (n * 2) (n * 2) (cells2 lo) ∧ Filled w' g2 30 (m * 2) (m * 2) (cells2 lc) ∧ Below w.heap.size w w'
set_option maxHeartbeats 2000000 in
theorem toHead_any (hw hn : Int) (A : Option Addr) (n c : Nat) (B : Option Addr) (m e : Nat) (lo lc : List (Int × Int)) (w : World) (hlo : lo.length = n) (hlc : lc.length = m) (h1 : n ≤ 1048576) (h2 : m ≤ 1048576)
    (hr : Rd2 w w.heap.size A lo) (hr' : Rd2 w w.heap.size B lc) :
    Calls Try.prog 19 #[.agg #[.int .i64 hw, .int .i64 hn, .slice A n c, .slice B m e]] w (HeadMade hw hn n m lo lc w) := by
  have HO := Lib.hid hlo
  have HC := Lib.hid hlc
  clear hlo hlc
  have bP := ((Blk.new w 42 #[.int .i64 hw, .int .i64 hn, .slice A n c, .slice B m e]).alloc (Obj.cells #[Value.int .i64 0, .int .i64 0, .slice none 0 0, .slice none 0 0] 45)).alloc (Obj.cells #[Value.int .i64 hw, .int .i64 hn, .slice none 0 0, .slice none 0 0] 45)
  have bR := (Blk.new (w.alloc (Obj.cells #[Value.int .i64 hw, .int .i64 hn, .slice A n c, .slice B m e] 42)) 45 #[Value.int .i64 0, .int .i64 0, .slice none 0 0, .slice none 0 0]).alloc (Obj.cells #[Value.int .i64 hw, .int .i64 hn, .slice none 0 0, .slice none 0 0] 45)
  have bO := Blk.new ((w.alloc (Obj.cells #[Value.int .i64 hw, .int .i64 hn, .slice A n c, .slice B m e] 42)).alloc (Obj.cells #[Value.int .i64 0, .int .i64 0, .slice none 0 0, .slice none 0 0] 45)) 45 #[.int .i64 hw, .int .i64 hn, .slice none 0 0, .slice none 0 0]
  have hbW := kept_alloc (kept_alloc (kept_alloc (Below.refl w.heap.size w) (Obj.cells #[Value.int .i64 hw, .int .i64 hn, .slice A n c, .slice B m e] 42)) (Obj.cells #[Value.int .i64 0, .int .i64 0, .slice none 0 0, .slice none 0 0] 45)) (Obj.cells #[Value.int .i64 hw, .int .i64 hn, .slice none 0 0, .slice none 0 0] 45)
  rw [heap_size_alloc] at bR
  rw [heap_size_alloc, heap_size_alloc] at bO
  have hr1 := hr.next hbW
  have HR := Lib.hid hr'
  clear hr hr'
  go_enter Try.func19, Try.ntmps19
  go_wp2_with fail
  generalize ((w.alloc (Obj.cells #[Value.int .i64 hw, .int .i64 hn, .slice A n c, .slice B m e] 42)).alloc (Obj.cells #[Value.int .i64 0, .int .i64 0, .slice none 0 0, .slice none 0 0] 45)).alloc (Obj.cells #[Value.int .i64 hw, .int .i64 hn, .slice none 0 0, .slice none 0 0] 45) = W1 at *
  refine (toPointS_any A n c lo _ HO.out h1 hr1).mono ?_
  rintro e2 w2 ⟨g1, rfl, hg1, hf1, hb1⟩
  have bP2 := bP.kept hb1
  have bR2 := bR.kept hb1
  have bO2 := bO.kept hb1
  have kb2 := hbW.trans (hb1.mono hbW.size)
  have hlt2 := bO2.lt
  have hlt1 := bO.lt
  clear bP bR bO hr1 hbW hb1
  have e2 := bO2.cell 2
  have f2 := bO2.frozen 2
  have e3 := bP2.cell 3
  simp only [List.getElem?_toArray, List.getElem?_cons_succ, List.getElem?_cons_zero] at e2 e3
  go_wp2_with fail
  have kb3 := kb2.setCell (p := ⟨w.heap.size + 1 + 1, 2, none⟩) (by simp only; omega) (Value.slice (some ⟨g1, 0, none⟩) n n)
  have bO3 := bO2.set_ 2 (Value.slice (some ⟨g1, 0, none⟩) n n)
  have bR3 := bR2.other (p := ⟨w.heap.size + 1 + 1, 2, none⟩) (by simp) (Value.slice (some ⟨g1, 0, none⟩) n n)
  have hf3 := hf1.other (p := ⟨w.heap.size + 1 + 1, 2, none⟩) (by simp only; omega) (Value.slice (some ⟨g1, 0, none⟩) n n)
  have hr3 := (HR.out.below kb3).mono kb3.size
  clear kb2 bP2 bR2 bO2 hf1 e2 f2 e3
  generalize w2.setCell ⟨w.heap.size + 1 + 1, 2, none⟩ (Value.slice (some ⟨g1, 0, none⟩) n n) = W3 at *
  refine (toPointS_any B m _ lc _ HC.out h2 hr3).mono ?_
  rintro e4 w4 ⟨g2, rfl, hg2, hf4, hb4⟩
  have bR4 := bR3.kept hb4
  have bO4 := bO3.kept hb4
  have hf5 := hf3.kept hb4
  have kb4 := kb3.trans (hb4.mono kb3.size)
  have hg12 := hf3.lt
  have hltO := bO3.lt
  clear bR3 bO3 hf3 kb3 hr3 hb4
  have a0 := bO4.cell 0
  have a1 := bO4.cell 1
  have a2 := bO4.cell 2
  have a3 := bO4.cell 3
  have r0 := bR4.cell 0
  have r1 := bR4.cell 1
  have r2 := bR4.cell 2
  have r3 := bR4.cell 3
  have fa3 := bO4.frozen 3
  have fr0 := bR4.frozen 0
  have fr1 := bR4.frozen 1
  have fr2 := bR4.frozen 2
  have fr3 := bR4.frozen 3
  simp at a0 a1 a2 a3 r0 r1 r2 r3
  clear bO4 bR4
  go_wp2
  exact bodyPost_ret (v := .agg #[.int .i64 hw, .int .i64 hn, .slice (some ⟨g1, 0, none⟩) n n, .slice (some ⟨g2, 0, none⟩) m m]) (by simp [results, go_sem, r0, r1, r2, r3]) rfl
    ⟨g1, g2, rfl, by omega, by omega, (((((hf5.other (p := ⟨w.heap.size + 1 + 1, 3, none⟩) (by simp only; omega) _).other (p := ⟨w.heap.size + 1, 0, none⟩) (by simp only; omega) _).other (p := ⟨w.heap.size + 1, 1, none⟩) (by simp only; omega) _).other (p := ⟨w.heap.size + 1, 2, none⟩) (by simp only; omega) _).other (p := ⟨w.heap.size + 1, 3, none⟩) (by simp only; omega) _), (((((hf4.other (p := ⟨w.heap.size + 1 + 1, 3, none⟩) (by simp only; omega) _).other (p := ⟨w.heap.size + 1, 0, none⟩) (by simp only; omega) _).other (p := ⟨w.heap.size + 1, 1, none⟩) (by simp only; omega) _).other (p := ⟨w.heap.size + 1, 2, none⟩) (by simp only; omega) _).other (p := ⟨w.heap.size + 1, 3, none⟩) (by simp only; omega) _), (((((kb4.setCell (p := ⟨w.heap.size + 1 + 1, 3, none⟩) (by simp only; omega) _).setCell (p := ⟨w.heap.size + 1, 0, none⟩) (by simp only; omega) _).setCell (p := ⟨w.heap.size + 1, 1, none⟩) (by simp only; omega) _).setCell (p := ⟨w.heap.size + 1, 2, none⟩) (by simp only; omega) _).setCell (p := ⟨w.heap.size + 1, 3, none⟩) (by simp only; omega) _)⟩

set_option maxHeartbeats 2000000 in
theorem eqHead_any (hw hn : Int) (A : Option Addr) (n c : Nat) (B : Option Addr) (m e : Nat) (lo lc : List (Int × Int)) (A' : Option Addr) (c' : Nat) (B' : Option Addr) (e' : Nat) (w : World) (hlo : lo.length = n) (hlc : lc.length = m) (h1 : n ≤ 1000000000000) (h2 : m ≤ 1000000000000)
    (hr : Rd2 w w.heap.size A lo) (hr' : Rd2 w w.heap.size B lc) (hs : Rd2 w w.heap.size A' lo) (hs' : Rd2 w w.heap.size B' lc) :
    Calls Try.prog 22 #[.agg #[.int .i64 hw, .int .i64 hn, .slice A n c, .slice B m e], .agg #[.int .i64 hw, .int .i64 hn, .slice A' n c', .slice B' m e']] w fun e w' => e = .returned (.bool true) ∧ Below w.heap.size w w' := by
  have HO := Lib.hid hlo
  have HC := Lib.hid hlc
  have hbW := kept_alloc (kept_alloc (Below.refl w.heap.size w) (Obj.cells #[Value.int .i64 hw, .int .i64 hn, .slice A n c, .slice B m e] 45)) (Obj.cells #[Value.int .i64 hw, .int .i64 hn, .slice A' n c', .slice B' m e'] 45)
  have bP := (Blk.new w 45 #[.int .i64 hw, .int .i64 hn, .slice A n c, .slice B m e]).alloc (Obj.cells #[Value.int .i64 hw, .int .i64 hn, .slice A' n c', .slice B' m e'] 45)
  have bQ := Blk.new (w.alloc (Obj.cells #[Value.int .i64 hw, .int .i64 hn, .slice A n c, .slice B m e] 45)) 45 #[.int .i64 hw, .int .i64 hn, .slice A' n c', .slice B' m e']
  rw [heap_size_alloc] at bQ
  have hr1 := hr.next hbW
  have hr1' := hr'.next hbW
  have hs1 := hs.next hbW
  have hs1' := hs'.next hbW
  clear hr hr' hs hs' hlo hlc
  go_enter Try.func22, Try.ntmps22
  go_wp2_with fail
  generalize (w.alloc (Obj.cells #[Value.int .i64 hw, .int .i64 hn, .slice A n c, .slice B m e] 45)).alloc (Obj.cells #[Value.int .i64 hw, .int .i64 hn, .slice A' n c', .slice B' m e'] 45) = W1 at *
  refine (eqPointS_any A n c lo A' n c' lo _ HO.out HO.out h1 hr1 hs1).mono ?_
  rintro ee w2 ⟨rfl, hb1⟩
  rw [eqP_refl]
  have p3 := (bP.kept hb1).cell 3
  have q3 := (bQ.kept hb1).cell 3
  simp at p3 q3
  have hr2' := hr1'.next hb1
  have hs2' := hs1'.next hb1
  have kb2 := hbW.trans (hb1.mono hbW.size)
  clear bP bQ hr1 hs1 hr1' hs1' hbW hb1
  go_wp2_with fail
  refine (eqPointS_any B m _ lc B' m _ lc _ HC.out HC.out h2 hr2' hs2').mono ?_
  rintro ee w3 ⟨rfl, hb3⟩
  rw [eqP_refl]
  have kb3 := kept_trans kb2 hb3
  clear kb2 hb3
  go_wp2
  go_ret
  exact ⟨rfl, kb3⟩

end Go.Proofs.Ytiajcnldfdijoaa
