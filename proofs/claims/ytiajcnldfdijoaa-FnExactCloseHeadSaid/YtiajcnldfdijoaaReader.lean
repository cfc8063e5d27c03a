/-
  The reader of drawn numbers: newReader, pick, one.
-/
import Derived.Test.YtiajcnldfdijoaaBase2
import Derived.Laws.BitsAllLaws
import Derived.Laws.BitsLemmas
namespace Go.Proofs.Ytiajcnldfdijoaa
open Go.RowKit
/-- n bytes at A. -/
def RdB (w : World) (B : Nat) (A : Option Addr) (n : Nat) : Prop := ∃ z : Nat → Int, (∀ j, 0 ≤ z j ∧ z j ≤ 255) ∧ Rd w B A n (fun j => .int .u8 (z j))
theorem RdB.below {w w' : World} {B : Nat} {A : Option Addr} {n : Nat} (h : RdB w B A n) (hb : Below B w w') : RdB w' B A n := let ⟨z, hz, h⟩ := h; ⟨z, hz, h.below hb⟩
theorem RdB.mono {w : World} {B B' : Nat} {A : Option Addr} {n : Nat} (h : RdB w B A n) (hB : B ≤ B') : RdB w B' A n := let ⟨z, hz, h⟩ := h; ⟨z, hz, h.mono hB⟩
theorem RdB.less {w : World} {B : Nat} {A : Option Addr} {n m : Nat} (h : RdB w B A n) (hm : m ≤ n) : RdB w B A m := let ⟨z, hz, h⟩ := h; ⟨z, hz, h.less hm⟩
theorem RdB.at_ {w : World} {B : Nat} {A : Option Addr} {n : Nat} (h : RdB w B A n) (h0 : 0 < n) :
    ∃ b off, A = some ⟨b, off, none⟩ ∧ b < B ∧ ∀ k, k < n → ∃ z : Int, 0 ≤ z ∧ z ≤ 255 ∧ w.cell? ⟨b, off + k, none⟩ = some (.int .u8 z) := by
  obtain ⟨z, hz, h⟩ := h
  obtain ⟨b, off, e, hb, hc⟩ := h h0
  exact ⟨b, off, e, hb, fun k hk => ⟨z k, (hz k).1, (hz k).2, hc k hk⟩⟩

/-- Block g is a reader that has read p times. -/
def Rdr (w : World) (g : Nat) (p : Int) : Prop := ∃ A n c, Blk w g 74 #[.slice A n c, .int .i64 p] ∧ n ≤ 2000 ∧ n ≤ c ∧ 0 ≤ p ∧ RdB w g A n
theorem Rdr.kept {w w' : World} {g : Nat} {p : Int} (h : Rdr w g p) (hb : Below w.heap.size w w') : Rdr w' g p :=
  let ⟨A, n, c, h, hn, hc, hp, hr⟩ := h
  ⟨A, n, c, h.kept hb, hn, hc, hp, hr.below (hb.mono (Nat.le_of_lt h.lt))⟩
theorem Rdr.drewN {w : World} {g : Nat} {p : Int} (h : Rdr w g p) (k : Nat) : Rdr (w.drewN k) g p := h
theorem Rdr.lt {w : World} {g : Nat} {p : Int} (h : Rdr w g p) : g < w.heap.size := let ⟨_, _, _, h, _⟩ := h; h.lt

/-- Of what was there, block g alone may have turned. -/
abbrev Only (g : Nat) (w w' : World) : Prop := w.grownBy w' (some g)
theorem Only.refl (g : Nat) (w : World) : Only g w w := World.grownBy.refl w _
theorem Only.trans {g : Nat} {a b c : World} (h : Only g a b) (k : Only g b c) : Only g a c :=
  ⟨k.os.trans h.os, k.tape.trans h.tape, k.output.trans h.output, Nat.le_trans h.size k.size, fun i hi hn => (k.block i (Nat.lt_of_lt_of_le hi h.size) hn).trans (h.block i hi hn)⟩
theorem Only.of_below {g : Nat} {a w : World} (h : Below a.heap.size a w) : Only g a w := ⟨h.os, h.tape, h.output, h.size, fun i hi _ => h.block i hi⟩
theorem Only.alloc {g : Nat} {a w : World} (h : Only g a w) (o : Obj) : Only g a (w.alloc o) := h.trans (Only.of_below (kept_alloc (Below.refl _ _) o))
theorem Only.drew {g : Nat} {a w : World} (h : Only g a w) : Only g a w.drew := ⟨h.os, h.tape, h.output, h.size, h.block⟩
theorem Only.drewN {g : Nat} {a w : World} (h : Only g a w) (n : Nat) : Only g a (w.drewN n) := ⟨h.os, h.tape, h.output, h.size, h.block⟩
theorem Only.set_ {g : Nat} (w : World) (o : Nat) (u : Value) : Only g w (w.setCell ⟨g, o, none⟩ u) :=
  ⟨rfl, rfl, rfl, by simp [World.setCell], fun i _ hne => Below.heap_setCell w _ u i (by rintro rfl; exact hne rfl)⟩
/-- Where g is new, nothing old has turned. -/
theorem Only.below {g : Nat} {a b c : World} (h : Below a.heap.size a b) (k : Only g b c) (hg : a.heap.size ≤ g) : Below a.heap.size a c :=
  h.grown k h.size (fun i hi => by injection hi with hi; omega)
theorem Only.blk {g g' : Nat} {t : TypeId} {cs : Array Value} {a b : World} (h : Blk a g' t cs) (k : Only g a b) (hne : g' ≠ g) : Blk b g' t cs := h.grown k (by simpa using hne)
theorem Only.filled {g g' : Nat} {t : TypeId} {M m : Nat} {f : Nat → Value} {a b : World} (h : Filled a g' t M m f) (k : Only g a b) (hne : g' ≠ g) : Filled b g' t M m f := let ⟨cs, h, r⟩ := h; ⟨cs, Only.blk h k hne, r⟩
theorem Only.own {g : Nat} {a b : World} {B : Nat} {e : TypeId} {size n : Nat} {v : Value} {xs : List Value} (h : a.ownsRow B e size v n xs) (k : Only g a b) (hg : g < B) : b.ownsRow B e size v n xs :=
  h.kept k (by
    rcases hv : v.ownBlock with _ | i
    · exact .inl rfl
    · refine .inr fun hc => ?_
      injection hc with hc
      have := (h.lt i hv).1
      omega)

theorem Only.grown {g : Nat} {a w w' : World} {row : Option Nat} (h : Only g a w) (hg : w.grownBy w' row) (hrow : ∀ k, row = some k → a.heap.size ≤ k) : Only g a w' :=
  ⟨hg.os.trans h.os, hg.tape.trans h.tape, hg.output.trans h.output, Nat.le_trans h.size hg.size, fun i hi hn => (hg.block i (Nat.lt_of_lt_of_le hi h.size) (fun e => by have := hrow i e.symm; omega)).trans (h.block i hi hn)⟩
theorem Rdr.grown {w w' : World} {g : Nat} {p : Int} {row : Option Nat} (h : Rdr w g p) (hg : w.grownBy w' row) (hrow : ∀ k, row = some k → g < k) : Rdr w' g p :=
  let ⟨A, n, c, hb, hn, hc, hp, hr⟩ := h
  ⟨A, n, c, hb.grown hg (fun e => by have := hrow g e.symm; omega), hn, hc, hp,
    hr.below ⟨hg.os, hg.tape, hg.output, hg.size, fun k hk => hg.block k (Nat.lt_trans hk hb.lt) (fun e => by have := hrow k e.symm; omega)⟩⟩
/-- Behind an append onto what the call owns. -/
theorem only_app {g : Nat} {a w w1 : World} {o : Obj} {v : Value} {e : TypeId} {size n : Nat} {xs : List Value} (h : Only g a w) (hown : w.ownsRow a.heap.size e size v n xs) (hg : (w.alloc o).grownBy w1 v.ownBlock) : Only g a w1 :=
  (h.alloc o).grown hg (fun k hk => (hown.lt k hk).1)
theorem rdr_app {g : Nat} {a w w1 : World} {p : Int} {o : Obj} {v : Value} {e : TypeId} {size n : Nat} {xs : List Value} (h : Rdr w g p) (hown : w.ownsRow a.heap.size e size v n xs) (hga : g < a.heap.size) (hg : (w.alloc o).grownBy w1 v.ownBlock) : Rdr w1 g p :=
  (h.kept (kept_alloc (Below.refl _ _) o)).grown hg (fun k hk => by have := (hown.lt k hk).1; omega)

def PickPost (w : World) (g : Nat) (p m : Int) (e : Ending) (w' : World) : Prop := ∃ x : Int, e = .returned (.int .i64 x) ∧ 0 ≤ x ∧ (1 ≤ m → x < m) ∧ (m < 1 → x = 0) ∧ Rdr w' g (p + 1) ∧ Only g w w'

theorem ofInt_i64 (a : Nat) (ha : a < 9223372036854775808) : (BitVec.ofInt 64 (a : Int)).toNat = a := by
  rw [BitVec.ofInt_natCast, BitVec.toNat_ofNat]; exact Nat.mod_eq_of_lt (by omega)
theorem i64_xor_nat (a b : Nat) (ha : a < 9223372036854775808) (hb : b < 9223372036854775808) : bits .xor .i64 (a : Int) (b : Int) = ((a ^^^ b : Nat) : Int) := by
  have hx : a ^^^ b < 2 ^ 63 := Nat.xor_lt_two_pow (by omega) (by omega)
  show IntKind.i64.wrap ((BitVec.ofInt 64 (a : Int) ^^^ BitVec.ofInt 64 (b : Int)).toNat : Int) = _
  rw [BitVec.toNat_xor, ofInt_i64 a ha, ofInt_i64 b hb, IntKind.wrap_i64]
  omega
theorem i64_xor_bd (a b : Int) (ha : 0 ≤ a) (ha2 : a < 4611686018427387904) (hb : 0 ≤ b) (hb2 : b < 4611686018427387904) : 0 ≤ bits .xor .i64 a b ∧ bits .xor .i64 a b < 4611686018427387904 := by
  obtain ⟨x, rfl⟩ := Int.eq_ofNat_of_zero_le ha
  obtain ⟨y, rfl⟩ := Int.eq_ofNat_of_zero_le hb
  rw [i64_xor_nat x y (by omega) (by omega)]
  have : x ^^^ y < 2 ^ 62 := Nat.xor_lt_two_pow (by omega) (by omega)
  omega

set_option maxHeartbeats 1000000 in
theorem newReader_any (A : Option Addr) (n c : Nat) (w : World) (hm : n ≤ 9223372036854775807) (hc : n ≤ c) (hr : RdB w w.heap.size A n) :
    Calls Try.prog 29 #[.slice A n c] w fun e w' => e = .returned (.pointer (some ⟨w.heap.size, 0, none⟩)) ∧ Rdr w' w.heap.size 0 ∧ Below w.heap.size w w' := by
  have HR := Lib.hid hr
  clear hr
  go_enter Try.func29, Try.ntmps29
  by_cases h : (2000 : Int) < n
  · go_wp2
    go_ret
    exact ⟨rfl, ⟨A, 2000, c, Blk.new _ _ _, Nat.le_refl _, by omega, Int.le_refl _, (HR.out.less (by omega)).below (kept_alloc (Below.refl _ _) _)⟩, kept_alloc (Below.refl _ _) _⟩
  · go_wp2
    go_ret
    exact ⟨rfl, ⟨A, n, c, Blk.new _ _ _, by omega, hc, Int.le_refl _, HR.out.below (kept_alloc (Below.refl _ _) _)⟩, kept_alloc (Below.refl _ _) _⟩

theorem Rdr.step {w : World} {g : Nat} {A : Option Addr} {n c : Nat} {p : Int} (hb : Blk w g 74 #[.slice A n c, .int .i64 p]) (hn : n ≤ 2000) (hc : n ≤ c) (h0 : 0 ≤ p) (hz : RdB w g A n) :
    Rdr (w.setCell ⟨g, 1, none⟩ (.int .i64 (p + 1))) g (p + 1) :=
  ⟨A, n, c, by have := hb.set_ 1 (.int .i64 (p + 1)); simpa using this, hn, hc, by omega, hz.below ((Below.refl g w).setCell (Nat.le_refl _) _)⟩

set_option maxHeartbeats 1000000 in
theorem pick_any (g : Nat) (p m : Int) (w : World) (hp : p ≤ 1000000000000) (hr : Rdr w g p) :
    Calls Try.prog 48 #[.pointer (some ⟨g, 0, none⟩), .int .i64 m] w (PickPost w g p m) := by
  obtain ⟨A, n, c, hb, hn, hc, h0, hz⟩ := hr
  have hc0 := hb.cell 0
  have hc1 := hb.cell 1
  have hf1 := hb.frozen 1
  simp only [List.getElem?_toArray, List.getElem?_cons_zero, List.getElem?_cons_succ] at hc0 hc1
  have HS := Lib.hid (Rdr.step hb hn hc h0 hz)
  clear hb
  by_cases hm : m < 1
  · go_enter Try.func48, Try.ntmps48
    go_wp2
    go_ret
    exact ⟨0, rfl, Int.le_refl _, fun h => absurd hm (by omega), fun _ => rfl, HS.out, Only.set_ _ _ _⟩
  · by_cases hn0 : n = 0
    · have hnz : ((n : Int) == 0) = true := by simp [hn0]
      clear hn0
      go_enter Try.func48, Try.ntmps48
      go_wp2
      go_ret
      exact ⟨0, rfl, Int.le_refl _, fun h => by omega, fun h => absurd h (by omega), HS.out, Only.set_ _ _ _⟩
    · have hnz : ((n : Int) == 0) = false := by simp [hn0]
      obtain ⟨b, off, rfl, hbg, hcell⟩ := hz.at_ (by omega)
      have hne : ¬ b = g := by omega
      by_cases hpn : p < n
      · obtain ⟨z, z0, z1, hcz⟩ := hcell p.toNat (by omega)
        have e1 := Int.emod_nonneg z (b := m) (by omega)
        have e2 := Int.emod_lt_of_pos z (b := m) (by omega)
        clear hcell hn0
        go_enter Try.func48, Try.ntmps48
        go_wp2
        go_ret
        exact ⟨z % m, rfl, e1, fun _ => e2, fun h => absurd h (by omega), HS.out, Only.set_ _ _ _⟩
      · have hn1 : (0 : Int) < n := by omega
        have e1 := Int.emod_nonneg p (b := n) (by omega)
        have e2 := Int.emod_lt_of_pos p (b := n) (by omega)
        have e3 := Int.emod_nonneg (p * 7 + 3) (b := n) (by omega)
        have e4 := Int.emod_lt_of_pos (p * 7 + 3) (b := n) (by omega)
        have e5 : 0 ≤ p / n := Int.ediv_nonneg (by omega) (by omega)
        have e6 : p / n ≤ p := Int.ediv_le_self _ (by omega)
        obtain ⟨z, z0, z1, hcz⟩ := hcell (p % n).toNat (by omega)
        obtain ⟨y, y0, y1, hcy⟩ := hcell ((p * 7 + 3) % n).toNat (by omega)
        clear hcell
        go_enter Try.func48, Try.ntmps48
        go_wp2
        go_quiet (fail)
        go_wp2
        go_ret
        obtain ⟨b0, b1⟩ := i64_xor_bd (z * 131 + y * 1117 + p * 29 + p / n * 53) ((z * 131 + y * 1117 + p * 29 + p / n * 53) / 64) (by omega) (by omega) (by omega) (by omega)
        exact ⟨_, rfl, Int.tmod_nonneg _ b0, fun _ => Int.tmod_lt_of_pos _ (by omega), fun h => absurd h (by omega), HS.out.drewN _, (Only.set_ _ _ _).drewN _⟩

/-- The slice at A reads as the integers l. -/
def OnePost (w : World) (g : Nat) (p : Int) (l : List Int) (e : Ending) (w' : World) : Prop := ∃ i : Nat, i < l.length ∧ e = .returned (.int .i64 (xi l i)) ∧ Rdr w' g (p + 1) ∧ Only g w w'
set_option maxHeartbeats 1000000 in
theorem one_any (g : Nat) (p : Int) (A : Option Addr) (n c : Nat) (l : List Int) (w : World) (hp : p ≤ 1000000000000) (hr : Rdr w g p) (hn : l.length = n) (hn1 : 1 ≤ n) (hn2 : n ≤ 1000)
    (hl : ∃ b off, A = some ⟨b, off, none⟩ ∧ b ≠ g ∧ b < w.heap.size ∧ ∀ k, k < n → w.cell? ⟨b, off + k, none⟩ = some (.int .i64 (xi l k))) :
    Calls Try.prog 31 #[.pointer (some ⟨g, 0, none⟩), .slice A n c] w (OnePost w g p l) := by
  have HN := Lib.hid hn
  obtain ⟨b, off, rfl, hbg, hbs, hc⟩ := hl
  clear hn
  go_enter Try.func31, Try.ntmps31
  go_wp2_with fail
  refine (pick_any g p n _ hp hr).mono ?_
  rintro e w1 ⟨x, rfl, hx0, hx1, _, hr1, ho1⟩
  have hx2 := hx1 (by omega)
  have hcx := hc x.toNat (by omega)
  rw [← World.cell?_of_block (a := ⟨b, off + x.toNat, none⟩) (ho1.block b hbs (by simpa using hbg))] at hcx
  clear hc
  go_wp2
  go_ret
  exact ⟨x.toNat, by rw [HN.out]; omega, rfl, hr1, ho1⟩

/-- one of a list that is written out. -/
def LitPost (w : World) (g : Nat) (p : Int) (l : List Int) (e : Ending) (w' : World) : Prop := ∃ x : Int, e = .returned (.int .i64 x) ∧ x ∈ l ∧ Rdr w' g (p + 1) ∧ Only g w w'
theorem one_lit (g : Nat) (p : Int) (l : List Int) (n q : Nat) (cs : Array Value) (W : World) (hcs : cs = (l.map (Value.int .i64)).toArray) (hn : l.length = n) (hn1 : 1 ≤ n) (hn2 : n ≤ 1000) (hq : W.heap.size = q) (hp : p ≤ 1000000000000) (hr : Rdr W g p) :
    Calls Try.prog 31 #[.pointer (some ⟨g, 0, none⟩), .slice (some ⟨q, 0, none⟩) n n] (W.alloc (.cells cs 3)) (LitPost W g p l) := by
  subst hq
  have hg := hr.lt
  have hb := Blk.new W 3 cs
  refine (one_any g p _ n n l _ hp (hr.kept (kept_alloc (Below.refl _ _) _)) hn hn1 hn2 ⟨W.heap.size, 0, rfl, by omega, by simp, fun k hk => ?_⟩).mono ?_
  · rw [Nat.zero_add, hb.cell k, hcs]
    simp [xi, List.getD_eq_getElem?_getD, List.getElem?_eq_getElem (by omega : k < l.length)]
  · rintro e w' ⟨i, hi, rfl, h1, h2⟩
    exact ⟨_, rfl, by unfold xi; rw [List.getD_eq_getElem?_getD, List.getElem?_eq_getElem hi]; exact List.getElem_mem hi, h1, ((Only.refl g W).alloc _).trans h2⟩
end Go.Proofs.Ytiajcnldfdijoaa
