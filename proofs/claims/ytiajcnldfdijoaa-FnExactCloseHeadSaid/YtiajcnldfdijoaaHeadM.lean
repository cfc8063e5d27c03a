/-
  Walks: markHead, heldHead of the laws, on rows of the call's own.
-/
import Derived.Test.YtiajcnldfdijoaaHeadW3
import Derived.Test.YtiajcnldfdijoaaMarkO
namespace Go.Proofs.Ytiajcnldfdijoaa
open Go.RowKit
theorem own_alloc {w : World} {v : Value} {e : TypeId} {size n : Nat} {xs : List Value} {B : Nat} (h : w.ownsRow B e size v n xs) (o : Obj) : (w.alloc o).ownsRow B e size v n xs := own_kept h (kept_alloc (Below.refl _ _) o)
theorem own_ne {w : World} {v : Value} {e : TypeId} {size n : Nat} {xs : List Value} {B : Nat} (h : w.ownsRow B e size v n xs) : some w.heap.size ≠ v.ownBlock := fun hc => by
  have := (h.lt _ hc.symm).2
  omega
theorem Filled.owns {w : World} {g : Nat} {t : TypeId} {n c s : Nat} {f : Nat → Value} (h : Filled w g t (c * s) (n * s) f) (hn : n ≤ c) (hm : c ≤ maxLen) : ∃ xs, w.ownsRow g t s (.slice (some ⟨g, 0, none⟩) n c) n xs := by
  obtain ⟨cs, hb, hs, _, _⟩ := h
  exact ⟨_, hb.owns (Nat.le_refl _) hn hm hs⟩
theorem Rd2.grown {w w' : World} {B base : Nat} {A : Option Addr} {l : List (Int × Int)} {v : Value} {e : TypeId} {size n : Nat} {xs : List Value} (h : Rd2 w B A l) (ho : w.ownsRow base e size v n xs) (k : w.grownBy w' v.ownBlock) (hB : B ≤ base) (hw : B ≤ w.heap.size) : Rd2 w' B A l := Rd.marked h ho k hB hw
/-- A block below 'B' is none of a row that is owned from B on. -/
theorem own_far {w : World} {v : Value} {e : TypeId} {size n B g : Nat} {xs : List Value} (h : w.ownsRow B e size v n xs) (hg : g < B) : v.ownBlock = none ∨ v.ownBlock ≠ some g := by
  rcases hq : v.ownBlock with _ | q
  · exact .inl rfl
  · refine .inr fun hc => ?_
    injection hc with hc
    have := (h.lt q hq).1
    omega
def MarkHead (w : World) (T : TypeId) (bA bB : Nat) (A : Option Addr) (n c : Nat) (B : Option Addr) (m d : Nat) (k : Int) (e : Ending) (w' : World) : Prop :=
  e = .returned (.int .i64 (k + 2 * n + 2 * m)) ∧ w'.ownsRow bA T 2 (.slice A n c) n (rowM k n) ∧ w'.ownsRow bB T 2 (.slice B m d) m (rowM (k + 2 * n) m) ∧
    ∃ w1, w.grownBy w1 (Value.slice A n c).ownBlock ∧ w1.grownBy w' (Value.slice B m d).ownBlock
theorem grown_of_alloc {w w' : World} {o : Obj} {row : Option Nat} (h : (w.alloc o).grownBy w' row) : w.grownBy w' row := by
  have k := World.grownBy_alloc w o row
  exact ⟨h.os.trans k.os, h.tape.trans k.tape, h.output.trans k.output, Nat.le_trans k.size h.size, fun i hi hn => (h.block i (Nat.lt_of_lt_of_le hi k.size) hn).trans (k.block i hi hn)⟩
set_option maxHeartbeats 1000000 in
theorem markHead_any (hw hn : Int) (T : TypeId) (bA bB : Nat) (A : Option Addr) (n c : Nat) (B : Option Addr) (m d : Nat) (xs ys : List Value) (k : Int) (w : World) (h1 : n ≤ 1048576) (h2 : m ≤ 1048576) (k0 : 0 ≤ k) (k1 : k ≤ 1000000)
    (hA : w.ownsRow bA T 2 (.slice A n c) n xs) (hB : w.ownsRow bB T 2 (.slice B m d) m ys) (hne : (Value.slice A n c).ownBlock = none ∨ (Value.slice A n c).ownBlock ≠ (Value.slice B m d).ownBlock) :
    Calls Try.prog 23 #[.agg #[.int .i64 hw, .int .i64 hn, .slice A n c, .slice B m d], .int .i64 k] w (MarkHead w T bA bB A n c B m d k) := by
  have hne' : (Value.slice B m d).ownBlock = none ∨ (Value.slice B m d).ownBlock ≠ (Value.slice A n c).ownBlock := by
    rcases hne with h | h
    · rcases hq : (Value.slice B m d).ownBlock with _ | q
      · exact .inl rfl
      · rw [h]; exact .inr (by simp)
    · exact .inr (Ne.symm h)
  have HNE := Lib.hid (And.intro hne hne')
  have bP := Blk.new w 45 #[.int .i64 hw, .int .i64 hn, .slice A n c, .slice B m d]
  have hA1 := own_alloc hA (Obj.cells #[Value.int .i64 hw, .int .i64 hn, .slice A n c, .slice B m d] 45)
  have hB1 := own_alloc hB (Obj.cells #[Value.int .i64 hw, .int .i64 hn, .slice A n c, .slice B m d] 45)
  have HP := Lib.hid (own_ne hA)
  clear hne hne' hA hB
  go_enter Try.func23, Try.ntmps23
  go_wp2_with fail
  obtain ⟨c0, c1, c2, c3⟩ := bP.four
  have HG : Hid (∀ w' row, (w.alloc (Obj.cells #[Value.int .i64 hw, .int .i64 hn, .slice A n c, .slice B m d] 45)).grownBy w' row → w.grownBy w' row) := Lib.hid fun _ _ h => grown_of_alloc h
  generalize w.alloc (Obj.cells #[Value.int .i64 hw, .int .i64 hn, .slice A n c, .slice B m d] 45) = W1 at *
  refine (markOwn_any _ _ A n c _ k _ h1 k0 (by omega) hA1).mono ?_
  rintro e w2 ⟨rfl, hA2, hg2⟩
  have hB2 := hB1.kept hg2 HNE.out.2
  have bP2 := bP.grown hg2 HP.out
  have HG2 := Lib.hid hg2
  clear hA1 hB1 bP hg2 c0 c1 c2 c3
  obtain ⟨c0, c1, c2, c3⟩ := bP2.four
  go_wp2_with fail
  refine (markOwn_any _ _ B m d _ (k + 2 * n) _ h2 (by omega) (by omega) hB2).mono ?_
  rintro e w3 ⟨rfl, hB3, hg3⟩
  have hA3 := hA2.kept hg3 HNE.out.1
  have HX := Lib.hid (And.intro hA3 (And.intro hB3 hg3))
  clear hA2 hB2 bP2 hg3 hA3 hB3 c0 c1 c2 c3
  go_wp2
  go_ret
  exact ⟨rfl, HX.out.1, HX.out.2.1, w2, HG.out _ _ HG2.out, HX.out.2.2⟩
set_option maxHeartbeats 1000000 in
theorem heldHead_any (hw hn : Int) (A : Option Addr) (n c : Nat) (B : Option Addr) (m d : Nat) (k : Int) (w : World) (h1 : n ≤ 1048576) (h2 : m ≤ 1048576) (k0 : 0 ≤ k) (k1 : k ≤ 1000000)
    (hA : Rd w w.heap.size A (n * 2) (mkd k)) (hB : Rd w w.heap.size B (m * 2) (mkd (k + 2 * n))) :
    Calls Try.prog 26 #[.agg #[.int .i64 hw, .int .i64 hn, .slice A n c, .slice B m d], .int .i64 k] w fun e w' => e = .returned (.int .i64 (k + 2 * n + 2 * m)) ∧ Below w.heap.size w w' := by
  have hbW := kept_alloc (Below.refl w.heap.size w) (Obj.cells #[Value.int .i64 hw, .int .i64 hn, .slice A n c, .slice B m d] 45)
  have hA1 := hA.next hbW
  have hB1 := hB.next hbW
  clear hA hB
  go_enter Try.func26, Try.ntmps26
  go_wp2_with fail
  refine (heldPointS_any A n c k _ h1 k0 (by omega) hA1).mono ?_
  rintro e w2 ⟨rfl, rfl⟩
  clear hA1
  have d1 : ¬ (k + 2 * (n : Int) < 0) := by omega
  have d2 : ¬ (k + 2 * (n : Int) + 2 * (m : Int) < 0) := by omega
  go_wp2_with fail
  refine (heldPointS_any B m d (k + 2 * n) _ h2 (by omega) (by omega) hB1).mono ?_
  rintro e w2 ⟨rfl, rfl⟩
  clear hB1
  go_wp2
  go_ret
  exact ⟨rfl, hbW⟩
end Go.Proofs.Ytiajcnldfdijoaa
