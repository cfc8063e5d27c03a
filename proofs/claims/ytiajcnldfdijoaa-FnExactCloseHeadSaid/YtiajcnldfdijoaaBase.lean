/-
  Words and small lemmas on memory that all walks of this seat use: a slice that reads as a function of its cells; what is kept below a block.
-/
import Derived.Test.YtiajcnldfdijoaaProg
import Derived.WalkKit
import Derived.WalkLawsBesides
import Derived.WalkSpells
import Derived.Lib.Hide
import Derived.Deep.QuietTactic
import Derived.BigQuiet
import Derived.Deep.AppendLies
import Derived.Maps.AppendAt
import Derived.StillTailTactics
namespace Go.Proofs.Ytiajcnldfdijoaa
open Go.RowKit

/-- The slice at A reads, cell by cell, as g (m cells), from a block below B. -/
def Rd (w : World) (B : Nat) (A : Option Addr) (m : Nat) (g : Nat → Value) : Prop :=
  0 < m → ∃ b off, A = some ⟨b, off, none⟩ ∧ b < B ∧ ∀ j, j < m → w.cell? ⟨b, off + j, none⟩ = some (g j)

section
variable {w w' : World} {B B' : Nat} {A : Option Addr} {m : Nat} {g : Nat → Value}
theorem Rd.below (h : Rd w B A m g) (hb : Below B w w') : Rd w' B A m g := fun hm =>
  let ⟨b, off, e, hlt, hc⟩ := h hm
  ⟨b, off, e, hlt, fun j hj => (hb.cell (p := ⟨b, off + j, none⟩) hlt).trans (hc j hj)⟩
theorem Rd.mono (h : Rd w B A m g) (hB : B ≤ B') : Rd w B' A m g := fun hm =>
  let ⟨b, off, e, hlt, hc⟩ := h hm
  ⟨b, off, e, Nat.lt_of_lt_of_le hlt hB, hc⟩
theorem Rd.next (h : Rd w w.heap.size A m g) (hb : Below w.heap.size w w') : Rd w' w'.heap.size A m g := (h.below hb).mono hb.size
theorem Rd.less (h : Rd w B A m g) {m' : Nat} (hm : m' ≤ m) : Rd w B A m' g := fun h0 =>
  let ⟨b, off, e, hlt, hc⟩ := h (Nat.lt_of_lt_of_le h0 hm)
  ⟨b, off, e, hlt, fun j hj => hc j (Nat.lt_of_lt_of_le hj hm)⟩
theorem Rd.congr (h : Rd w B A m g) {g' : Nat → Value} (hg : ∀ j, j < m → g j = g' j) : Rd w B A m g' := fun h0 =>
  let ⟨b, off, e, hlt, hc⟩ := h h0
  ⟨b, off, e, hlt, fun j hj => (hc j hj).trans (by rw [hg j hj])⟩
theorem Rd.drop (h : Rd w B A m g) {k : Nat} (cap n size : Nat) (hk : k ≤ n) (hc : n ≤ cap) (hm : m = n * size) :
    Rd w B (if cap = k then A else A.map (·.add (k * size))) (m - k * size) (fun j => g (k * size + j)) := fun h0 => by
  obtain ⟨b, off, rfl, hlt, hcell⟩ := h (by omega)
  have hne : cap ≠ k := by
    rintro rfl
    have : n = cap := by omega
    subst this
    omega
  rw [if_neg hne]
  refine ⟨b, off + k * size, ?_, hlt, fun j hj => ?_⟩
  · simp only [Option.map_some, Option.some.injEq]
    unfold Addr.add
    split
    · rename_i h1; rw [h1]; simp
    · rfl
  · have := hcell (k * size + j) (by omega)
    rw [Nat.add_assoc]; exact this
theorem Rd.none_ : Rd w B A 0 g := fun h => absurd h (by omega)
end

/-- Kept since a: nothing that was there has turned. -/
theorem kept_alloc {a w : World} (h : Below a.heap.size a w) (o : Obj) : Below a.heap.size a (w.alloc o) := h.alloc h.size o
theorem kept_trans {a w w' : World} (h : Below a.heap.size a w) (k : Below w.heap.size w w') : Below a.heap.size a w' := h.trans (k.mono h.size)
theorem kept_drewN {a w : World} {B : Nat} (h : Below B a w) (n : Nat) : Below B a (w.drewN n) := ⟨h.os, h.tape, h.output, h.size, h.block⟩
theorem kept_cells {W w1 : World} {B : Nat} (hb : Below B W w1) :
    (∀ b o, b < B → w1.cell? ⟨b, o, none⟩ = W.cell? ⟨b, o, none⟩) ∧ (∀ b o, b < B → w1.frozen? ⟨b, o, none⟩ = W.frozen? ⟨b, o, none⟩) :=
  ⟨fun b o h => hb.cell (p := ⟨b, o, none⟩) h, fun b o h => hb.frozen (p := ⟨b, o, none⟩) h⟩

/-- The worlds in which all that was below B stands as in W. -/
def Kin (B : Nat) (W : World) : Type := { w' : World // Below B W w' }
instance (B : Nat) (W : World) : Nonempty (Kin B W) := ⟨⟨W, Below.refl _ _⟩⟩
instance (B : Nat) (W : World) : Inhabited (Kin B W) := ⟨⟨W, Below.refl _ _⟩⟩
/-- A region that draws its order, whose operations only read and whose callees hand back one value (whatever they make): one walk in the order of the text. -/
theorem wp_region_kin {P : Program} {id : Nat} {Q : Exit → Act → World → Prop} {a : Act} {w : World} {l : List Oper} (hm : P.follows .mixedOrders = true) (hB : Region.lexB .any l.toArray = true)
    (h : wpQuiet P l.toArray (fun w' => ∃ x : Kin w.heap.size w, w' = x.val) (fun a' => ∀ w', (∃ x : Kin w.heap.size w, w' = x.val) → Q .normal a' w') l a) : (Code.region id l.toArray true).wp P Q a w :=
  wp_region_quiet (C := fun w' => ∃ x : Kin w.heap.size w, w' = x.val) hm hB ⟨⟨w.drew, (Below.refl _ _).drew⟩, rfl⟩ (by simpa using h)
theorem kin_call {P : Program} {f : FuncId} {args : Array Value} {W : World} {x : Kin W.heap.size W} {v : Value}
    (h : Calls P f args x.val fun e w' => e = .returned v ∧ Below x.val.heap.size x.val w') : Calls P f args x.val fun e w'' => e = .returned v ∧ ∃ y : Kin W.heap.size W, w'' = y.val :=
  h.mono fun _ w' ⟨he, hb⟩ => ⟨he, ⟨w', x.property.trans (hb.mono x.property.size)⟩, rfl⟩
theorem kin_same {P : Program} {f : FuncId} {args : Array Value} {W : World} {x : Kin W.heap.size W} {v : Value}
    (h : Calls P f args x.val fun e w' => e = .returned v ∧ x.val = w') : Calls P f args x.val fun e w'' => e = .returned v ∧ ∃ y : Kin W.heap.size W, w'' = y.val :=
  h.mono fun _ _ ⟨he, hb⟩ => ⟨he, x, hb.symm⟩
theorem kin_cell {B : Nat} {W : World} {b o : Nat} {v : Value} (h : W.cell? ⟨b, o, none⟩ = some v) (hb : b < B) (x : Kin B W) : x.val.cell? ⟨b, o, none⟩ = some v := (x.property.cell (p := ⟨b, o, none⟩) hb).trans h

/-- A block that is known whole. -/
def Blk (w : World) (g : Nat) (t : TypeId) (cs : Array Value) : Prop := w.heap[g]? = some (.cells cs t (0, 0))
section
variable {w w' : World} {g : Nat} {t : TypeId} {cs : Array Value}
theorem Blk.lt (h : Blk w g t cs) : g < w.heap.size := by
  rcases Nat.lt_or_ge g w.heap.size with hlt | hge
  · exact hlt
  · unfold Blk at h; rw [Array.getElem?_eq_none hge] at h; cases h
theorem Blk.cell (h : Blk w g t cs) (i : Nat) : w.cell? ⟨g, i, none⟩ = cs[i]? := cell_of_row w g i cs t (0, 0) h
theorem Blk.frozen (h : Blk w g t cs) (i : Nat) : w.frozen? ⟨g, i, none⟩ = false := by
  unfold Blk at h
  simp [World.frozen?, h]
theorem Blk.new (w : World) (t : TypeId) (cs : Array Value) : Blk (w.alloc (.cells cs t)) w.heap.size t cs := heap_alloc_new w _
theorem Blk.drewN (h : Blk w g t cs) (n : Nat) : Blk (w.drewN n) g t cs := h
theorem Blk.alloc (h : Blk w g t cs) (o : Obj) : Blk (w.alloc o) g t cs := (Below.heap_alloc w o g h.lt).trans h
theorem Blk.set_ (h : Blk w g t cs) (i : Nat) (u : Value) : Blk (w.setCell ⟨g, i, none⟩ u) g t (cs.setIfInBounds i u) := by
  unfold Blk at h ⊢
  simp [World.setCell, Array.getElem?_modify, h]
theorem Blk.below {B : Nat} (h : Blk w g t cs) (hb : Below B w w') (hg : g < B) : Blk w' g t cs := (hb.block g hg).trans h
theorem Blk.kept (h : Blk w g t cs) (hb : Below w.heap.size w w') : Blk w' g t cs := h.below hb h.lt
theorem Blk.grown {row : Option Nat} (h : Blk w g t cs) (hb : w.grownBy w' row) (hg : some g ≠ row) : Blk w' g t cs := (hb.block g h.lt hg).trans h
theorem Blk.owns (h : Blk w g t cs) {base size n cap : Nat} (hb : base ≤ g) (hn : n ≤ cap) (hm : cap ≤ maxLen) (hs : cs.size = cap * size) :
    w.ownsRow base t size (.slice (some ⟨g, 0, none⟩) n cap) n (cs.toList.take (n * size)) := by
  refine ⟨?_, .inr ⟨g, cap, cs, rfl, hb, h, hn, hm, hs, rfl⟩⟩
  rw [List.length_take, Array.length_toList, hs]
  exact Nat.min_eq_left (Nat.mul_le_mul_right _ hn)
end
/-- A slice that the call owns reads. -/
theorem Rd.of_own {w : World} {base : Nat} {e : TypeId} {A : Option Addr} {size n c : Nat} {xs : List Value} (h : w.ownsRow base e size (.slice A n c) n xs) {g : Nat → Value}
    (hg : ∀ j, j < n * size → xs[j]? = some (g j)) : Rd w w.heap.size A (n * size) g := by
  intro hm
  have hn : 0 < n := by
    rcases Nat.eq_zero_or_pos n with h0 | h0
    · subst h0; simp at hm
    · exact h0
  obtain ⟨b, cap, hv, _, hlt⟩ := h.form hn
  have hA : A = some ⟨b, 0, none⟩ := by injection hv
  subst hA
  refine ⟨b, 0, rfl, hlt, fun j hj => ?_⟩
  have := h.cells (g := b) rfl j _ (hg j hj)
  have hadd : (⟨b, 0, none⟩ : Addr).add j = ⟨b, j, none⟩ := by unfold Addr.add; split <;> simp_all
  rw [hadd] at this
  rw [Nat.zero_add]; exact this

/-- Block g (elements of type t, M cells) holds f in its first m cells. -/
def Filled (w : World) (g : Nat) (t : TypeId) (M m : Nat) (f : Nat → Value) : Prop := ∃ cs, Blk w g t cs ∧ cs.size = M ∧ m ≤ M ∧ ∀ j, j < m → cs[j]? = some (f j)
section
variable {w w' : World} {g : Nat} {t : TypeId} {M m : Nat} {f : Nat → Value}
theorem Filled.lt (h : Filled w g t M m f) : g < w.heap.size := let ⟨_, h, _⟩ := h; h.lt
theorem Filled.kept (h : Filled w g t M m f) (hb : Below w.heap.size w w') : Filled w' g t M m f := let ⟨cs, h, r⟩ := h; ⟨cs, h.kept hb, r⟩
theorem Filled.cell (h : Filled w g t M m f) {j : Nat} (hj : j < m) : w.cell? ⟨g, j, none⟩ = some (f j) := let ⟨_, h, _, _, r⟩ := h; (h.cell j).trans (r j hj)
theorem Filled.some_ (h : Filled w g t M m f) {j : Nat} (hj : j < M) : ∃ v, w.cell? ⟨g, j, none⟩ = some v := by
  obtain ⟨cs, h, hs, _, _⟩ := h
  exact ⟨cs[j]'(by omega), (h.cell j).trans (Array.getElem?_eq_getElem (by omega))⟩
theorem Filled.frozen (h : Filled w g t M m f) (j : Nat) : w.frozen? ⟨g, j, none⟩ = false := let ⟨_, h, _⟩ := h; h.frozen j
theorem Filled.next (h : Filled w g t M m f) (hm : m < M) : Filled (w.setCell ⟨g, m, none⟩ (f m)) g t M (m + 1) f := by
  obtain ⟨cs, h, hs, _, r⟩ := h
  refine ⟨_, h.set_ m _, by simpa using hs, hm, fun j hj => ?_⟩
  rcases Nat.lt_or_ge j m with h1 | h1
  · rw [Array.getElem?_setIfInBounds_ne (by omega)]; exact r j h1
  · have : j = m := by omega
    subst this
    rw [Array.getElem?_setIfInBounds_self_of_lt (by omega)]
theorem Filled.put (h : Filled w g t M m f) (hm : m < M) {u : Value} (hu : f m = u) : Filled (w.setCell ⟨g, m, none⟩ u) g t M (m + 1) f := hu ▸ h.next hm
theorem Filled.set_ (h : Filled w g t M m f) {j : Nat} (hj : j < m) {u : Value} {f' : Nat → Value} (hu : f' j = u) (hf : ∀ i, i ≠ j → f' i = f i) : Filled (w.setCell ⟨g, j, none⟩ u) g t M m f' := by
  obtain ⟨cs, h, hs, hm, r⟩ := h
  refine ⟨_, h.set_ j _, by simpa using hs, hm, fun i hi => ?_⟩
  rcases Nat.lt_trichotomy i j with h1 | h1 | h1
  · rw [Array.getElem?_setIfInBounds_ne (by omega), r i hi, hf i (by omega)]
  · subst h1
    rw [Array.getElem?_setIfInBounds_self_of_lt (by omega), hu]
  · rw [Array.getElem?_setIfInBounds_ne (by omega), r i hi, hf i (by omega)]
theorem Filled.other (h : Filled w g t M m f) {p : Addr} (hp : g ≠ p.block) (u : Value) : Filled (w.setCell p u) g t M m f := by
  obtain ⟨cs, h, r⟩ := h
  exact ⟨cs, (Below.heap_setCell w p u g hp).trans h, r⟩
theorem Filled.less (h : Filled w g t M m f) {m' : Nat} (hm : m' ≤ m) : Filled w g t M m' f := let ⟨cs, h, hs, hm0, r⟩ := h; ⟨cs, h, hs, by omega, fun j hj => r j (by omega)⟩
theorem Filled.congr (h : Filled w g t M m f) {f' : Nat → Value} (hf : ∀ j, j < m → f j = f' j) : Filled w g t M m f' := let ⟨cs, h, hs, hm0, r⟩ := h; ⟨cs, h, hs, hm0, fun j hj => by rw [r j hj, hf j hj]⟩
theorem Filled.rd (h : Filled w g t M m f) : Rd w w.heap.size (some ⟨g, 0, none⟩) m f := fun _ => ⟨g, 0, rfl, h.lt, fun j hj => by rw [Nat.zero_add]; exact h.cell hj⟩
theorem Filled.made (w : World) (t : TypeId) (cs : Array Value) (f : Nat → Value) : Filled (w.alloc (.cells cs t)) w.heap.size t cs.size 0 f := ⟨cs, Blk.new w t cs, rfl, by omega, fun j hj => absurd hj (by omega)⟩
end

theorem run_make_rowN {P : Program} (t e : TypeId) (i : TypeInfo) (z : Value) (ht : P.underlying t = some (.slice e)) (hi : P.info? e = some i) (hz : i.zero = some z)
    (kl kc : IntKind) (n c : Nat) (hnc : n ≤ c) (hbytes : i.bytes * c ≤ 281474976710656) (h63 : c ≤ 9223372036854775807) (w : World) :
    (Instr.makeSlice t (.int kl (n : Int)) (.int kc (c : Int))).run P w = .ok (.slice (some ⟨w.heap.size, 0, none⟩) n c) (w.alloc (.cells (madeCells z.cells (c * i.size)) e)) := by
  have hb : (i.bytes : Int) * (c : Int) ≤ 281474976710656 := by
    have h : ((i.bytes * c : Nat) : Int) ≤ 281474976710656 := by omega
    rwa [Int.natCast_mul] at h
  have hr := run_make (P := P) w t e i z ht hi hz kl kc n c (by omega) (by omega) hb (by omega)
  simp only [Int.toNat_natCast] at hr
  exact hr

/-- The call handed back a slice of n elements (sz cells each) in a block of its own, which reads as f. -/
def RetMade (w : World) (t : TypeId) (n sz : Nat) (f : Nat → Value) (e : Ending) (w' : World) : Prop :=
  ∃ g, e = .returned (.slice (some ⟨g, 0, none⟩) n n) ∧ w.heap.size ≤ g ∧ Filled w' g t (n * sz) (n * sz) f ∧ Below w.heap.size w w'

/-- Pairs of integers (two cells each). -/
def x1 (l : List (Int × Int)) (k : Nat) : Int := (l.getD k (0, 0)).1
def x2 (l : List (Int × Int)) (k : Nat) : Int := (l.getD k (0, 0)).2
def cells2 (l : List (Int × Int)) (j : Nat) : Value := .int .i64 (if j % 2 = 0 then x1 l (j / 2) else x2 l (j / 2))
theorem cells2_a (l : List (Int × Int)) (k : Nat) : cells2 l (k * 2) = .int .i64 (x1 l k) := by simp [cells2]
theorem cells2_b (l : List (Int × Int)) (k : Nat) : cells2 l (k * 2 + 1) = .int .i64 (x2 l k) := by
  have e1 : (k * 2 + 1) % 2 = 1 := by omega
  have e2 : (k * 2 + 1) / 2 = k := by omega
  simp [cells2, e1, e2]
def Rd2 (w : World) (B : Nat) (A : Option Addr) (l : List (Int × Int)) : Prop := Rd w B A (l.length * 2) (cells2 l)
theorem Rd2.at_ {w : World} {B : Nat} {A : Option Addr} {l : List (Int × Int)} (h : Rd2 w B A l) (h0 : 0 < l.length) :
    ∃ b off, A = some ⟨b, off, none⟩ ∧ b < B ∧ ∀ k, k < l.length → w.cell? ⟨b, off + k * 2, none⟩ = some (.int .i64 (x1 l k)) ∧ w.cell? ⟨b, off + k * 2 + 1, none⟩ = some (.int .i64 (x2 l k)) := by
  obtain ⟨b, off, e, hlt, hc⟩ := h (by omega)
  refine ⟨b, off, e, hlt, fun k hk => ⟨?_, ?_⟩⟩
  · have := hc (k * 2) (by omega)
    rw [this]; simp [cells2]
  · have := hc (k * 2 + 1) (by omega)
    rw [Nat.add_assoc, this]
    have e1 : (k * 2 + 1) % 2 = 1 := by omega
    have e2 : (k * 2 + 1) / 2 = k := by omega
    simp [cells2, e1, e2]
theorem Rd2.below {w w' : World} {B : Nat} {A : Option Addr} {l : List (Int × Int)} (h : Rd2 w B A l) (hb : Below B w w') : Rd2 w' B A l := Rd.below h hb
theorem Rd2.mono {w : World} {B B' : Nat} {A : Option Addr} {l : List (Int × Int)} (h : Rd2 w B A l) (hB : B ≤ B') : Rd2 w B' A l := Rd.mono h hB
theorem Rd2.next {w w' : World} {A : Option Addr} {l : List (Int × Int)} (h : Rd2 w w.heap.size A l) (hb : Below w.heap.size w w') : Rd2 w' w'.heap.size A l := Rd.next h hb

def eqb2 (a b c d : Int) : Bool := decide (a = c) && decide (b = d)
/-- Two lists of pairs, alike as far as k. -/
def sameTo (l l' : List (Int × Int)) (k : Nat) : Prop := ∀ j, j < k → x1 l j = x1 l' j ∧ x2 l j = x2 l' j
def eqP (l l' : List (Int × Int)) : Bool := decide (l = l')
theorem sameTo_zero (l l' : List (Int × Int)) : sameTo l l' 0 := fun j hj => absurd hj (by omega)
theorem sameTo_succ {l l' : List (Int × Int)} {k : Nat} (h : sameTo l l' k) (hk : x1 l k = x1 l' k ∧ x2 l k = x2 l' k) : sameTo l l' (k + 1) := fun j hj => by
  rcases Nat.lt_or_ge j k with h1 | h1
  · exact h j h1
  · have : j = k := by omega
    subst this; exact hk
theorem eqP_len {l l' : List (Int × Int)} (h : l.length ≠ l'.length) : eqP l l' = false := decide_eq_false fun e => h (by rw [e])
theorem eqP_bad {l l' : List (Int × Int)} {k : Nat} (h : ¬ (x1 l k = x1 l' k ∧ x2 l k = x2 l' k)) : eqP l l' = false := decide_eq_false fun e => h (by rw [e]; exact ⟨rfl, rfl⟩)
theorem eqP_of {l l' : List (Int × Int)} {k : Nat} (h : sameTo l l' k) (hk : l.length = k) (hl : l.length = l'.length) : eqP l l' = true := decide_eq_true (List.ext_getElem hl fun i h1 h2 => by
  have := h i (by omega)
  simp only [x1, x2, List.getD_eq_getElem?_getD, List.getElem?_eq_getElem h1, List.getElem?_eq_getElem h2, Option.getD_some] at this
  exact Prod.ext this.1 this.2)
theorem eqP_refl (l : List (Int × Int)) : eqP l l = true := decide_eq_true rfl

theorem Filled.rd2 {w : World} {g : Nat} {t : TypeId} {M n : Nat} {l : List (Int × Int)} (h : Filled w g t M (n * 2) (cells2 l)) (hn : l.length = n) : Rd2 w w.heap.size (some ⟨g, 0, none⟩) l := by
  unfold Rd2; rw [hn]; exact h.rd
/-- Integers (one cell each). -/
def xi (l : List Int) (k : Nat) : Int := l.getD k 0
def cells1 (l : List Int) (j : Nat) : Value := .int .i64 (xi l j)
def Rd1 (w : World) (B : Nat) (A : Option Addr) (l : List Int) : Prop := Rd w B A l.length (cells1 l)
theorem Rd1.at_ {w : World} {B : Nat} {A : Option Addr} {l : List Int} (h : Rd1 w B A l) (h0 : 0 < l.length) :
    ∃ b off, A = some ⟨b, off, none⟩ ∧ b < B ∧ ∀ k, k < l.length → w.cell? ⟨b, off + k, none⟩ = some (.int .i64 (xi l k)) := h h0
theorem Rd1.below {w w' : World} {B : Nat} {A : Option Addr} {l : List Int} (h : Rd1 w B A l) (hb : Below B w w') : Rd1 w' B A l := Rd.below h hb
theorem Rd1.next {w w' : World} {A : Option Addr} {l : List Int} (h : Rd1 w w.heap.size A l) (hb : Below w.heap.size w w') : Rd1 w' w'.heap.size A l := Rd.next h hb

theorem ret_bool {a b : Bool} (h : a = b) : Ending.returned (.bool a) = .returned (.bool b) := by rw [h]
theorem ret_int {k : IntKind} {a b : Int} (h : a = b) : Ending.returned (.int k a) = .returned (.int k b) := by rw [h]
end Go.Proofs.Ytiajcnldfdijoaa
