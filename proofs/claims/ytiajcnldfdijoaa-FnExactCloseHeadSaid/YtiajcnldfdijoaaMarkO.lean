/-
  Marks on a row of the call's own (nil or not), and what they leave alone.
-/
import Derived.Test.YtiajcnldfdijoaaMark
import Derived.Test.YtiajcnldfdijoaaBase3
namespace Go.Proofs.Ytiajcnldfdijoaa
open Go.RowKit
theorem Rd.only {w w' : World} {B g m : Nat} {A : Option Addr} {f : Nat → Value} (h : Rd w B A m f) (k : Only g w w') (hB : B ≤ g) (hw : B ≤ w.heap.size) : Rd w' B A m f := fun hm =>
  let ⟨b, off, e, hlt, hc⟩ := h hm
  ⟨b, off, e, hlt, fun j hj => (World.cell?_of_block (a := ⟨b, off + j, none⟩) (k.block b (Nat.lt_of_lt_of_le hlt hw) (by simp; omega))).trans (hc j hj)⟩
theorem Rd2.only {w w' : World} {B g : Nat} {A : Option Addr} {l : List (Int × Int)} (h : Rd2 w B A l) (k : Only g w w') (hB : B ≤ g) (hw : B ≤ w.heap.size) : Rd2 w' B A l := Rd.only h k hB hw
def rowM (k : Int) (n : Nat) : List Value := (List.range (n * 2)).map (mkd k)
theorem rowM_at (k : Int) {n j : Nat} (h : j < n * 2) : (rowM k n)[j]? = some (mkd k j) := by
  unfold rowM; rw [List.getElem?_map, List.getElem?_range h]; rfl
def MarkOwn (w : World) (base : Nat) (T : TypeId) (A : Option Addr) (n c : Nat) (k : Int) (e : Ending) (w' : World) : Prop :=
  e = .returned (.int .i64 (k + 2 * n)) ∧ w'.ownsRow base T 2 (.slice A n c) n (rowM k n) ∧ w.grownBy w' (Value.slice A n c).ownBlock
theorem markOwn_any (base : Nat) (T : TypeId) (A : Option Addr) (n c : Nat) (xs : List Value) (k : Int) (w : World) (hn : n ≤ 1048576) (k0 : 0 ≤ k) (k1 : k ≤ 10000000) (h : w.ownsRow base T 2 (.slice A n c) n xs) :
    Calls Try.prog 24 #[.slice A n c, .int .i64 k] w (MarkOwn w base T A n c k) := by
  rcases h.2 with ⟨h1, h2⟩ | ⟨g, cap, cs, h1, hb, hblk, hnc, hm, hs, hcur⟩
  · injection h1 with e1 e2 e3
    subst e1; subst e2; subst e3
    refine (markPointS_nil none 0 k w).mono ?_
    rintro e w' ⟨rfl, rfl⟩
    exact ⟨by simp, World.ownsRow_nil _ _ _ _, World.grownBy.refl w _⟩
  · injection h1 with e1 e2 e3
    subst e1; subst e3
    have hF : Filled w g T (c * 2) (n * 2) (fun j => (cs[j]?).getD (.int .i64 0)) :=
      ⟨cs, hblk, hs, by omega, fun j hj => by rw [Array.getElem?_eq_getElem (by omega)]; simp [Array.getElem?_eq_getElem (show j < cs.size by omega)]⟩
    refine (markPointS_any g n c T (c * 2) _ k w hn k0 k1 hF).mono ?_
    rintro e w' ⟨rfl, ⟨cs', hb', hs', hm', hr'⟩, ho⟩
    have hO := hb'.owns (base := base) (size := 2) (n := n) (cap := c) hb hnc hm hs'
    have he : cs'.toList.take (n * 2) = rowM k n := by
      refine List.ext_getElem? fun j => ?_
      by_cases hj : j < n * 2
      · rw [List.getElem?_take_of_lt hj, rowM_at k hj, Array.getElem?_toList]; exact hr' j hj
      · rw [List.getElem?_eq_none (by simp; omega), List.getElem?_eq_none (by unfold rowM; simp; omega)]
    rw [he] at hO
    exact ⟨rfl, hO, ho⟩
theorem own_rdM {w : World} {B : Nat} {t : TypeId} {A : Option Addr} {n c : Nat} {k : Int} (h : w.ownsRow B t 2 (.slice A n c) n (rowM k n)) : Rd w w.heap.size A (n * 2) (mkd k) :=
  Rd.of_own h (g := mkd k) (fun _ hj => rowM_at k hj)
/-- Behind a mark on what the call owns from base on: all below base stands. -/
theorem below_mark {a w w1 : World} {base : Nat} {v : Value} {e : TypeId} {size n : Nat} {xs : List Value} (hb : Below a.heap.size a w) (h : w.ownsRow base e size v n xs) (hg : w.grownBy w1 v.ownBlock) (hB : a.heap.size ≤ base) : Below a.heap.size a w1 :=
  hb.grown hg hb.size (fun k hk => Nat.le_trans hB (h.lt k hk).1)
theorem Rd.marked {w w' : World} {B m base : Nat} {A : Option Addr} {f : Nat → Value} {v : Value} {e : TypeId} {size n : Nat} {xs : List Value} (h : Rd w B A m f) (ho : w.ownsRow base e size v n xs) (k : w.grownBy w' v.ownBlock) (hB : B ≤ base) (hw : B ≤ w.heap.size) : Rd w' B A m f := fun hm =>
  let ⟨b, off, e, hlt, hc⟩ := h hm
  ⟨b, off, e, hlt, fun j hj => (World.cell?_of_block (a := ⟨b, off + j, none⟩) (k.block b (Nat.lt_of_lt_of_le hlt hw) (fun e => by have := (ho.lt b e.symm).1; omega))).trans (hc j hj)⟩
end Go.Proofs.Ytiajcnldfdijoaa
