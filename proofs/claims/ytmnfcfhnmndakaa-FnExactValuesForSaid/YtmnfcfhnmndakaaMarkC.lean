/-
  Walks: markLabelSS, heldLabelSS of the laws, on catalogs in memory of the call's own.
-/
import Derived.Test.YtmnfcfhnmndakaaStrCopy
import Derived.Test.YtmnfcfhnmndakaaCatOwn
namespace Go.Proofs.Ytmnfcfhnmndakaa
open Go.RowKit
/-- Only blocks from lo up to hi have turned. -/
structure Within (lo hi : Nat) (w w' : World) : Prop where
  os : w'.os = w.os
  tape : w'.tape = w.tape
  output : w'.output = w.output
  size : w.heap.size ≤ w'.heap.size
  block : ∀ i, i < w.heap.size → (i < lo ∨ hi ≤ i) → w'.heap[i]? = w.heap[i]?
section
variable {lo hi : Nat} {a w w' w2 : World}
theorem Within.refl (lo hi : Nat) (w : World) : Within lo hi w w := ⟨rfl, rfl, rfl, Nat.le_refl _, fun _ _ _ => rfl⟩
theorem Within.trans (h : Within lo hi w w') (k : Within lo hi w' w2) : Within lo hi w w2 :=
  ⟨k.os.trans h.os, k.tape.trans h.tape, k.output.trans h.output, Nat.le_trans h.size k.size, fun i hi' hx => (k.block i (Nat.lt_of_lt_of_le hi' h.size) hx).trans (h.block i hi' hx)⟩
theorem Within.grown {row : Option Nat} (h : w.grownBy w' row) (hr : ∀ g, row = some g → lo ≤ g ∧ g < hi) : Within lo hi w w' :=
  ⟨h.os, h.tape, h.output, h.size, fun i hi' hx => h.block i hi' (fun e => by have := hr i e.symm; omega)⟩
theorem Within.below (h : Within lo hi w w') (hB : Below a.heap.size a w) (hl : a.heap.size ≤ lo) : Below a.heap.size a w' :=
  ⟨h.os.trans hB.os, h.tape.trans hB.tape, h.output.trans hB.output, Nat.le_trans hB.size h.size, fun i hi' => (h.block i (Nat.lt_of_lt_of_le hi' hB.size) (.inl (by omega))).trans (hB.block i hi')⟩
theorem Within.cell {b o : Nat} (h : Within lo hi w w') (hb : b < w.heap.size) (hx : b < lo ∨ hi ≤ b) : w'.cell? ⟨b, o, none⟩ = w.cell? ⟨b, o, none⟩ := World.cell?_of_block (a := ⟨b, o, none⟩) (h.block b hb hx)
theorem Within.rd {B m : Nat} {A : Option Addr} {f : Nat → Value} (k : Within lo hi w w') (h : Rd w B A m f) (hB : B ≤ lo) (hw : B ≤ w.heap.size) : Rd w' B A m f := fun hm =>
  let ⟨b, off, e, hlt, hc⟩ := h hm
  ⟨b, off, e, hlt, fun j hj => (k.cell (Nat.lt_of_lt_of_le hlt hw) (.inl (by omega))).trans (hc j hj)⟩
theorem Within.own {B : Nat} {e : TypeId} {size n : Nat} {v : Value} {xs : List Value} (k : Within lo hi w w') (h : w.ownsRow B e size v n xs) (hB : hi ≤ B) : w'.ownsRow B e size v n xs := by
  refine ⟨h.1, ?_⟩
  rcases h.2 with hx | ⟨g, cap, cur, e1, hb, hblk, r⟩
  · exact .inl hx
  · refine .inr ⟨g, cap, cur, e1, hb, ?_, r⟩
    have hlt : g < w.heap.size := by
      rcases Nat.lt_or_ge g w.heap.size with hlt | hge
      · exact hlt
      · rw [Array.getElem?_eq_none hge] at hblk; cases hblk
    rw [k.block g hlt (.inr (by omega))]; exact hblk
theorem Within.ownC {B n : Nat} {v : Value} {C : Ct} {vs : List Value} (k : Within lo hi w w') (h : OwnC B w v n C vs) (hB : hi ≤ B) : OwnC B w' v n C vs :=
  ⟨h.1, h.2.1, k.own h.2.2.1 hB, fun i hi' => let ⟨x, c, h1, h2, h3⟩ := h.2.2.2 i hi'; ⟨x, c, h1, k.own h2 hB, h3⟩⟩
theorem Within.rdC {B : Nat} {A : Option Addr} {C : Ct} (k : Within lo hi w w') (h : RdC w B A C) (hB : B ≤ lo) (hw : B ≤ w.heap.size) : RdC w' B A C := fun h0 => by
  obtain ⟨b, off, e, hlt, hc⟩ := h h0
  refine ⟨b, off, e, hlt, fun i hi' => ?_⟩
  obtain ⟨x, m, c, h1, h2, h3, h4⟩ := hc i hi'
  exact ⟨x, m, c, (k.cell (Nat.lt_of_lt_of_le hlt hw) (.inl (by omega))).trans h1, h2, h3, k.rd h4 hB hw⟩
end
/-- The labels of the first k rows. -/
def totL (C : Ct) : Nat → Nat
  | 0 => 0
  | k + 1 => totL C k + (at0 C k).length
theorem totL_le (C : Ct) (M : Nat) : ∀ k, (∀ i, i < k → (at0 C i).length ≤ M) → totL C k ≤ k * M
  | 0, _ => by simp [totL]
  | k + 1, h => by
    have h1 := totL_le C M k (fun i hi => h i (by omega))
    have h2 := h k (by omega)
    show totL C k + _ ≤ _
    rw [Nat.succ_mul]; omega
/-- What the rows of a catalog hold while they are marked: the first j are marked. -/
def MkRow (B : Nat) (w : World) (C : Ct) (vs : List Value) (k : Int) (j i : Nat) : Prop :=
  ∃ a c, vs[i]? = some (.slice a (at0 C i).length c) ∧ w.ownsRow B 81 2 (.slice a (at0 C i).length c) (at0 C i).length (if i < j then rowT (k + 2 * (totL C i : Int)) ((at0 C i).length * 2) else rowG encL 2 (at0 C i))
def MkC (B : Nat) (w : World) (v : Value) (n : Nat) (C : Ct) (vs : List Value) (k : Int) (j : Nat) : Prop :=
  w.ownsRow B 33 1 v n vs ∧ ∀ i, i < n → MkRow B w C vs k j i
/-- The rows lie in blocks of their own. -/
def Apart (n : Nat) (v : Value) (vs : List Value) : Prop :=
  ∀ i u, i < n → vs[i]? = some u → (∀ g, u.ownBlock = some g → v.ownBlock ≠ some g) ∧ ∀ j z, j < i → vs[j]? = some z → ∀ g, u.ownBlock = some g → z.ownBlock ≠ some g
theorem OwnC.apart {B n : Nat} {w : World} {v : Value} {C : Ct} {vs : List Value} (h : OwnC B w v n C vs) : Apart n v vs := fun i u hi hu => by
  obtain ⟨a, c, e1, e2, e3, e4⟩ := h.2.2.2 i hi
  rw [hu] at e1
  injection e1 with e1
  subst e1
  exact ⟨e3, e4⟩
theorem OwnC.mkC {B n : Nat} {w : World} {v : Value} {C : Ct} {vs : List Value} (h : OwnC B w v n C vs) (k : Int) : MkC B w v n C vs k 0 :=
  ⟨h.2.2.1, fun i hi => let ⟨a, c, e1, e2, _⟩ := h.2.2.2 i hi; ⟨a, c, e1, by rw [if_neg (by omega)]; exact e2⟩⟩
/-- All blocks of a catalog lie below hi. -/
def UnderC (hi n : Nat) (v : Value) (vs : List Value) : Prop := (∀ g, v.ownBlock = some g → g < hi) ∧ ∀ i u, i < n → vs[i]? = some u → ∀ g, u.ownBlock = some g → g < hi
theorem OwnC.under {B n : Nat} {w : World} {v : Value} {C : Ct} {vs : List Value} (h : OwnC B w v n C vs) : UnderC w.heap.size n v vs :=
  ⟨fun g hg => (h.2.2.1.lt g hg).2, fun i u hi hu g hg => by
    obtain ⟨a, c, e1, e2, _⟩ := h.2.2.2 i hi
    rw [hu] at e1
    injection e1 with e1
    subst e1
    exact (e2.lt g hg).2⟩
theorem MkC.cell {B n : Nat} {w : World} {A : Option Addr} {c : Nat} {C : Ct} {vs : List Value} {k : Int} {j i : Nat} (h : MkC B w (.slice A n c) n C vs k j) (hi : i < n) (hvl : vs.length = n) :
    ∃ b a c', A = some ⟨b, 0, none⟩ ∧ b < w.heap.size ∧ vs[i]? = some (.slice a (at0 C i).length c') ∧ w.cell? ⟨b, i, none⟩ = some (.slice a (at0 C i).length c') ∧ w.ownsRow B 81 2 (.slice a (at0 C i).length c') (at0 C i).length (if i < j then rowT (k + 2 * (totL C i : Int)) ((at0 C i).length * 2) else rowG encL 2 (at0 C i)) := by
  obtain ⟨a, c', e1, e2⟩ := h.2 i hi
  rcases h.1.2 with ⟨_, h0⟩ | ⟨g, cap, cur, e3, hb, hblk, hnc, hm, hs, hcur⟩
  · omega
  · injection e3 with e3 e4 e5
    subst e3
    have hlt : g < w.heap.size := by
      rcases Nat.lt_or_ge g w.heap.size with hlt | hge
      · exact hlt
      · rw [Array.getElem?_eq_none hge] at hblk; cases hblk
    refine ⟨g, a, c', rfl, hlt, e1, ?_, e2⟩
    rw [cell_of_row w g i cur _ (0, 0) hblk, ← e1, ← hcur, List.getElem?_take_of_lt (by omega), Array.getElem?_toList]
theorem MkC.step {B n : Nat} {w w' : World} {v : Value} {C : Ct} {vs : List Value} {k : Int} {j : Nat} (h : MkC B w v n C vs k j) (hap : Apart n v vs) {a : Option Addr} {c : Nat} (hj : j < n) (hv : vs[j]? = some (.slice a (at0 C j).length c))
    (hg : w.grownBy w' (Value.slice a (at0 C j).length c).ownBlock) (ho : w'.ownsRow B 81 2 (.slice a (at0 C j).length c) (at0 C j).length (rowT (k + 2 * (totL C j : Int)) ((at0 C j).length * 2))) : MkC B w' v n C vs k (j + 1) := by
  have hne : ∀ u : Value, (∀ g, (Value.slice a (at0 C j).length c).ownBlock = some g → u.ownBlock ≠ some g) → u.ownBlock = none ∨ u.ownBlock ≠ (Value.slice a (at0 C j).length c).ownBlock := fun u hu => by
    rcases hq : (Value.slice a (at0 C j).length c).ownBlock with _ | g
    · rcases hz : u.ownBlock with _ | z
      · exact .inl rfl
      · exact .inr (by simp)
    · exact .inr (hu g hq)
  refine ⟨h.1.kept hg (hne v (hap j _ hj hv).1), fun i hi => ?_⟩
  obtain ⟨a', c', e1, e2⟩ := h.2 i hi
  rcases Nat.lt_trichotomy i j with h1 | h1 | h1
  · rw [if_pos h1] at e2
    exact ⟨a', c', e1, by rw [if_pos (by omega)]; exact e2.kept hg (hne _ fun g hgo => (hap j _ hj hv).2 i _ h1 e1 g hgo)⟩
  · subst h1
    exact ⟨a, c, hv, by rw [if_pos (by omega)]; exact ho⟩
  · rw [if_neg (by omega)] at e2
    refine ⟨a', c', e1, by rw [if_neg (by omega)]; exact e2.kept hg (hne _ fun g hgo hc => (hap i _ hi e1).2 j _ h1 hv g hc hgo)⟩
def MarkCPost (B hi : Nat) (w : World) (v : Value) (n : Nat) (C : Ct) (vs : List Value) (k : Int) (e : Ending) (w' : World) : Prop :=
  e = .returned (.int .i64 (k + 2 * (totL C n : Int))) ∧ MkC B w' v n C vs k n ∧ Within B hi w w'
set_option maxHeartbeats 2000000 in
theorem markLabelSS_any (B hi : Nat) (A : Option Addr) (n c : Nat) (C : Ct) (vs : List Value) (k : Int) (w : World) (hn : n ≤ 1048576) (hz : ∀ i, i < n → (at0 C i).length ≤ 1048576) (k0 : 0 ≤ k) (k1 : k ≤ 1000000000000) (h : OwnC B w (.slice A n c) n C vs) (hu : UnderC hi n (.slice A n c) vs) :
    Calls Try.prog 25 #[.slice A n c, .int .i64 k] w (MarkCPost B hi w (.slice A n c) n C vs k) := by
  have HZ := Lib.hid hz
  have HX := Lib.hid (And.intro h.apart (And.intro (h.mkC k) (And.intro h.2.1 hu)))
  clear hz h hu
  go_enter Try.func25, Try.ntmps25
  go_wp2
  go_loopw [1, 5] (fun q i wr => ∃ (j : Nat) (t : Nat), j ≤ n ∧ i = .int .i64 j ∧ q = .int .i64 (k + 2 * (t : Int)) ∧ t = totL C j ∧ MkC B wr (.slice A n c) n C vs k j ∧ Within B hi w wr) (fun _ i _ => n - (intOf i).toNat)
  case atStart => exact ⟨0, 0, by omega, rfl, by simp, rfl, HX.out.2.1, Within.refl _ _ _⟩
  case round =>
    obtain ⟨j, t, hj, rfl, rfl, ht, hM, hW⟩ := hrel
    have htt : t ≤ j * 1048576 := by rw [ht]; exact totL_le C _ j (fun i hi' => HZ.out i (by omega))
    have HT := Lib.hid ht
    by_cases hlt : j < n
    · have hki : (j : Int) < (n : Int) := by omega
      obtain ⟨b, a, c', rfl, hbb, hv, hcl, hown⟩ := hM.cell hlt HX.out.2.2.1
      rw [if_neg (by omega)] at hown
      have hz := HZ.out j hlt
      have HM := Lib.hid (And.intro hM (And.intro hv hown))
      have HL : Hid (totL C (j + 1) = t + (at0 C j).length) := Lib.hid (by rw [ht]; rfl)
      generalize hlen : (at0 C j).length = m at *
      have HLen := Lib.hid hlen
      clear hM hv hown hlen ht
      have hcl0 : wr.cell? ⟨b, 0 + j, none⟩ = some (.slice a m c') := by rw [Nat.zero_add]; exact hcl
      go_wp2_with fail
      refine (markOwnL_any B _ a m c' _ (k + 2 * (t : Int)) _ hz (by omega) (by omega) HM.out.2.2).mono ?_
      rintro e w1 ⟨rfl, hown1, hg1⟩
      have HS := Lib.hid (show MkC B w1 (.slice (some ⟨b, 0, none⟩) n c) n C vs k (j + 1) from HM.out.1.step HX.out.1 hlt (by rw [HLen.out]; exact HM.out.2.1) (by rw [HLen.out]; exact hg1) (by rw [HLen.out, ← HT.out]; exact hown1))
      have hW1 := hW.trans (Within.grown hg1 fun g hg => ⟨(HM.out.2.2.lt g hg).1, HX.out.2.2.2.2 j _ hlt HM.out.2.1 g hg⟩)
      clear hcl hcl0 hown1 hg1 hW
      go_wp2
      go_roundw
      case rel => exact ⟨j + 1, t + m, by omega, by go_num, by rw [show k + 2 * ((t + m : Nat) : Int) = k + 2 * (t : Int) + ((2 : Nat) : Int) * (m : Int) by omega]; rfl, by rw [HL.out], HS.out, hW1⟩
      case measure => simp [intOf]; omega
    · have e : j = n := by omega
      subst e
      clear ht
      go_wp2
      go_ret
      exact ⟨ret_int (by rw [HT.out]), hM, hW⟩
/-- Marked rows, read. -/
def RdMk (w : World) (B : Nat) (A : Option Addr) (C : Ct) (k : Int) : Prop :=
  0 < C.length → ∃ b, A = some ⟨b, 0, none⟩ ∧ b < B ∧ ∀ i, i < C.length → ∃ a c, w.cell? ⟨b, i, none⟩ = some (.slice a (at0 C i).length c) ∧ Rd w B a ((at0 C i).length * 2) (mkdT (k + 2 * (totL C i : Int)))
theorem MkC.rd {B n : Nat} {w : World} {A : Option Addr} {c : Nat} {C : Ct} {vs : List Value} {k : Int} (h : MkC B w (.slice A n c) n C vs k n) (hn : C.length = n) (hvl : vs.length = n) : RdMk w w.heap.size A C k := fun h0 => by
  obtain ⟨b, a, c', e1, e2, _⟩ := h.cell (i := 0) (by omega) hvl
  refine ⟨b, e1, e2, fun i hi => ?_⟩
  obtain ⟨b', a', c'', e1', _, _, f2, f3⟩ := h.cell (i := i) (by omega) hvl
  rw [e1] at e1'
  injection e1' with e1'
  injection e1' with e1'
  subst e1'
  rw [if_pos (by omega)] at f3
  exact ⟨a', c'', f2, own_rdT f3⟩
theorem MkC.kept {B n : Nat} {w w' : World} {v : Value} {C : Ct} {vs : List Value} {k : Int} {j : Nat} (h : MkC B w v n C vs k j) (hb : Below w.heap.size w w') : MkC B w' v n C vs k j :=
  ⟨own_kept h.1 hb, fun i hi => let ⟨a, c, e1, e2⟩ := h.2 i hi; ⟨a, c, e1, own_kept e2 hb⟩⟩
set_option maxHeartbeats 2000000 in
theorem heldLabelSS_any (A : Option Addr) (n c : Nat) (C : Ct) (k : Int) (w : World) (hC : C.length = n) (hn : n ≤ 1048576) (hz : ∀ i, i < n → (at0 C i).length ≤ 1048576) (k0 : 0 ≤ k) (k1 : k ≤ 1000000000000) (hr : RdMk w w.heap.size A C k) :
    Calls Try.prog 38 #[.slice A n c, .int .i64 k] w fun e w' => e = .returned (.int .i64 (k + 2 * (totL C n : Int))) ∧ Below w.heap.size w w' := by
  have HC := Lib.hid hC
  have HZ := Lib.hid hz
  have HR := Lib.hid hr
  clear hC hz hr
  go_enter Try.func38, Try.ntmps38
  go_wp2
  go_loopw [1, 5] (fun q i wr => ∃ (j : Nat) (t : Nat), j ≤ n ∧ i = .int .i64 j ∧ q = .int .i64 (k + 2 * (t : Int)) ∧ t = totL C j ∧ Below w.heap.size w wr) (fun _ i _ => n - (intOf i).toNat)
  case atStart => exact ⟨0, 0, by omega, rfl, by simp, rfl, Below.refl _ _⟩
  case round =>
    obtain ⟨j, t, hj, rfl, rfl, ht, hb⟩ := hrel
    have htt : t ≤ j * 1048576 := by rw [ht]; exact totL_le C _ j (fun i hi' => HZ.out i (by omega))
    have HT := Lib.hid ht
    clear ht
    by_cases hlt : j < n
    · have hki : (j : Int) < (n : Int) := by omega
      obtain ⟨b, rfl, hbb, hcc⟩ := HR.out (by rw [HC.out]; omega)
      obtain ⟨a, c', hcl, hrl⟩ := hcc j (by rw [HC.out]; exact hlt)
      have hz := HZ.out j hlt
      have HRL := Lib.hid (hrl.next hb)
      have hcl1 : wr.cell? ⟨b, j, none⟩ = some (.slice a (at0 C j).length c') := (hb.cell (p := ⟨b, j, none⟩) hbb).trans hcl
      have HL : Hid (totL C (j + 1) = t + (at0 C j).length) := Lib.hid (by rw [HT.out]; rfl)
      generalize (at0 C j).length = m at *
      clear hcc hcl hrl
      have hcl0 : wr.cell? ⟨b, 0 + j, none⟩ = some (.slice a m c') := by rw [Nat.zero_add]; exact hcl1
      have hd : ¬ (k + 2 * (t : Int) + 2 * (m : Int) < 0) := by omega
      go_wp2_with fail
      refine (heldLabelS_any a m c' (k + 2 * (t : Int)) _ hz (by omega) (by omega) (by rw [HT.out]; exact HRL.out)).mono ?_
      rintro e w1 ⟨rfl, hb1⟩
      have hb2 := kept_trans hb hb1
      clear hcl1 hcl0 hb hb1
      go_wp2
      go_roundw
      case rel => exact ⟨j + 1, t + m, by omega, by go_num, by rw [show k + 2 * ((t + m : Nat) : Int) = k + 2 * (t : Int) + 2 * (m : Int) by omega], by rw [HL.out], hb2⟩
      case measure => simp [intOf]; omega
    · have e : j = n := by omega
      subst e
      go_wp2
      go_ret
      exact ⟨ret_int (by rw [HT.out]), hb⟩
end Go.Proofs.Ytmnfcfhnmndakaa
