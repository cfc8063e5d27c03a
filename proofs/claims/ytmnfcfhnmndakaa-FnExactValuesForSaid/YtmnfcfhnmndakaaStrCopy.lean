/-
  Walks: toStringS, eqStringS, szStringS of the laws; marks on rows of the call's own.
-/
import Derived.Test.YtmnfcfhnmndakaaMarkL
import Derived.Deep.Onto
namespace Go.Proofs.Ytmnfcfhnmndakaa
open Go.RowKit
set_option maxHeartbeats 1000000 in
theorem eqStringS_same (A : Option Addr) (n c : Nat) (A' : Option Addr) (c' : Nat) (l : List ByteArray) (w : World) (hn : l.length = n) (hm : n ≤ 1000000000000)
    (hr : RdS w w.heap.size A l) (hr' : RdS w w.heap.size A' l) :
    Calls Try.prog 23 #[.slice A n c, .slice A' n c'] w fun e w' => e = .returned (.bool true) ∧ Below w.heap.size w w' := by
  have HN := Lib.hid hn
  clear hn
  go_enter Try.func23, Try.ntmps23
  go_wp2
  go_loopw [5] (fun i wr => ∃ k : Nat, k ≤ n ∧ i = .int .i64 k ∧ Below w.heap.size w wr) (fun i _ => n - (intOf i).toNat)
  case atStart => exact ⟨0, by omega, rfl, Below.refl _ _⟩
  case round =>
    obtain ⟨k, hk, rfl, hb⟩ := hrel
    by_cases hlt : k < n
    · have hki : (k : Int) < (n : Int) := by omega
      obtain ⟨b, off, rfl, hbb, hc⟩ := hr.at_ (by rw [HN.out]; omega)
      obtain ⟨b', off', rfl, hbb', hc'⟩ := hr'.at_ (by rw [HN.out]; omega)
      have hc0 := hc k (by rw [HN.out]; exact hlt)
      have hd0 := hc' k (by rw [HN.out]; exact hlt)
      rw [← hb.cell (by exact hbb)] at hc0
      rw [← hb.cell (by exact hbb')] at hd0
      have he := eqB_walk (eqB_refl (at0 l k))
      clear hc hc' hr hr'
      go_wp2_with fail
      go_quiet (fail)
      go_wp2
      go_roundw
      case rel => exact ⟨k + 1, by omega, by go_num, kept_drewN hb _⟩
      case measure => simp [intOf]; omega
    · clear hr hr'
      go_wp2
      go_ret
      exact ⟨rfl, hb⟩
def SzPostS (k : Int) (n : Nat) (l : List ByteArray) (w : World) (e : Ending) (w' : World) : Prop := ∃ r : Int, e = .returned (.int .i64 r) ∧ -1 ≤ r ∧ r ≤ k ∧ (0 ≤ r → (n : Int) ≤ k ∧ ∀ i, i < l.length → (at0 l i).size ≤ 1048576) ∧ w = w'
def szSTo (l : List ByteArray) (k : Nat) : Prop := ∀ i, i < k → (at0 l i).size ≤ 1048576
theorem szSTo_zero (l : List ByteArray) : szSTo l 0 := fun i hi => absurd hi (by omega)
theorem szSTo_succ {l : List ByteArray} {k : Nat} (h : szSTo l k) (h1 : (at0 l k).size ≤ 1048576) : szSTo l (k + 1) := fun j hj => by
  rcases Nat.lt_or_ge j k with h2 | h2
  · exact h j h2
  · have : j = k := by omega
    subst this; exact h1
/-! Marks. -/
def rowT (k : Int) (m : Nat) : List Value := (List.range m).map (mkdT k)
theorem rowT_at (k : Int) {m j : Nat} (h : j < m) : (rowT k m)[j]? = some (mkdT k j) := by
  unfold rowT; rw [List.getElem?_map, List.getElem?_range h]; rfl
def MarkOwnT (w : World) (base : Nat) (T : TypeId) (s : Nat) (A : Option Addr) (n c : Nat) (k : Int) (e : Ending) (w' : World) : Prop :=
  e = .returned (.int .i64 (k + s * n)) ∧ w'.ownsRow base T s (.slice A n c) n (rowT k (n * s)) ∧ w.grownBy w' (Value.slice A n c).ownBlock
theorem Filled.ownT {w' : World} {g base : Nat} {T : TypeId} {c s n : Nat} {f : Nat → Value} (h : Filled w' g T (c * s) (n * s) f) (hb : base ≤ g) (hn : n ≤ c) (hm : c ≤ maxLen) : w'.ownsRow base T s (.slice (some ⟨g, 0, none⟩) n c) n ((List.range (n * s)).map f) := by
  obtain ⟨cs, hb', hs, hm', hr⟩ := h
  have hO := hb'.owns (base := base) (size := s) (n := n) (cap := c) hb hn hm hs
  have he : cs.toList.take (n * s) = (List.range (n * s)).map f := by
    refine List.ext_getElem? fun j => ?_
    by_cases hj : j < n * s
    · rw [List.getElem?_take_of_lt hj, List.getElem?_map, List.getElem?_range hj, Array.getElem?_toList]; exact hr j hj
    · rw [List.getElem?_eq_none (by simp; omega), List.getElem?_eq_none (by simp; omega)]
  rw [he] at hO
  exact hO
theorem own_filled {w : World} {base : Nat} {T : TypeId} {s n c : Nat} {A : Option Addr} {xs : List Value} (h : w.ownsRow base T s (.slice A n c) n xs) : (A = none ∧ n = 0 ∧ c = 0) ∨ ∃ g f, A = some ⟨g, 0, none⟩ ∧ base ≤ g ∧ n ≤ c ∧ c ≤ maxLen ∧ Filled w g T (c * s) (n * s) f := by
  rcases h.2 with ⟨h1, h2⟩ | ⟨g, cap, cs, h1, hb, hblk, hnc, hm, hs, hcur⟩
  · injection h1 with e1 e2 e3
    exact .inl ⟨e1, e2, e3⟩
  · injection h1 with e1 e2 e3
    subst e3
    exact .inr ⟨g, fun j => (cs[j]?).getD (.int .i64 0), e1, hb, hnc, hm, cs, hblk, hs, Nat.mul_le_mul_right s hnc, fun j hj => by
      have : j < cs.size := by rw [hs]; exact Nat.lt_of_lt_of_le hj (Nat.mul_le_mul_right s hnc)
      rw [Array.getElem?_eq_getElem this]; simp [Array.getElem?_eq_getElem this]⟩
theorem markLabelS_nil (A : Option Addr) (c : Nat) (k : Int) (w : World) : Calls Try.prog 37 #[.slice A 0 c, .int .i64 k] w fun e w' => e = .returned (.int .i64 k) ∧ w = w' := by
  go_enter Try.func37, Try.ntmps37
  go_wp2
  go_loopw [1, 5] (fun q i wr => i = .int .i64 0 ∧ q = .int .i64 k ∧ w = wr) (fun _ _ _ => 0)
  case atStart => exact ⟨rfl, rfl, rfl⟩
  case round =>
    obtain ⟨rfl, rfl, rfl⟩ := hrel
    go_wp2
    go_ret
    exact ⟨rfl, rfl⟩
theorem markOwnL_any (base : Nat) (T : TypeId) (A : Option Addr) (n c : Nat) (xs : List Value) (k : Int) (w : World) (hn : n ≤ 1048576) (k0 : 0 ≤ k) (k1 : k ≤ 100000000000000) (h : w.ownsRow base T 2 (.slice A n c) n xs) :
    Calls Try.prog 37 #[.slice A n c, .int .i64 k] w (MarkOwnT w base T 2 A n c k) := by
  rcases own_filled h with ⟨rfl, rfl, rfl⟩ | ⟨g, f, rfl, hb, hnc, hm, hF⟩
  · refine (markLabelS_nil none 0 k w).mono ?_
    rintro e w' ⟨rfl, rfl⟩
    exact ⟨by simp, World.ownsRow_nil _ _ _ _, World.grownBy.refl w _⟩
  · refine (markLabelS_any g n c T (c * 2) f k w hn k0 k1 hF).mono ?_
    rintro e w' ⟨rfl, hF', ho⟩
    exact ⟨rfl, hF'.ownT hb hnc hm, ho⟩
theorem own_rdT {w : World} {B : Nat} {t : TypeId} {A : Option Addr} {s n c : Nat} {k : Int} (h : w.ownsRow B t s (.slice A n c) n (rowT k (n * s))) : Rd w w.heap.size A (n * s) (mkdT k) :=
  Rd.of_own h (g := mkdT k) (fun _ hj => rowT_at k hj)
theorem Rd.only {w w' : World} {B g m : Nat} {A : Option Addr} {f : Nat → Value} (h : Rd w B A m f) (k : Only g w w') (hB : B ≤ g) (hw : B ≤ w.heap.size) : Rd w' B A m f := fun hm =>
  let ⟨b, off, e, hlt, hc⟩ := h hm
  ⟨b, off, e, hlt, fun j hj => (World.cell?_of_block (a := ⟨b, off + j, none⟩) (k.block b (Nat.lt_of_lt_of_le hlt hw) (by simp; omega))).trans (hc j hj)⟩
theorem below_mark {a w w1 : World} {base : Nat} {v : Value} {e : TypeId} {size n : Nat} {xs : List Value} (hb : Below a.heap.size a w) (h : w.ownsRow base e size v n xs) (hg : w.grownBy w1 v.ownBlock) (hB : a.heap.size ≤ base) : Below a.heap.size a w1 :=
  hb.grown hg hb.size (fun k hk => Nat.le_trans hB (h.lt k hk).1)
theorem Rd.marked {w w' : World} {B m base : Nat} {A : Option Addr} {f : Nat → Value} {v : Value} {e : TypeId} {size n : Nat} {xs : List Value} (h : Rd w B A m f) (ho : w.ownsRow base e size v n xs) (k : w.grownBy w' v.ownBlock) (hB : B ≤ base) (hw : B ≤ w.heap.size) : Rd w' B A m f := fun hm =>
  let ⟨b, off, e, hlt, hc⟩ := h hm
  ⟨b, off, e, hlt, fun j hj => (World.cell?_of_block (a := ⟨b, off + j, none⟩) (k.block b (Nat.lt_of_lt_of_le hlt hw) (fun e => by have := (ho.lt b e.symm).1; omega))).trans (hc j hj)⟩
end Go.Proofs.Ytmnfcfhnmndakaa
