/-
  Catalogs in memory of their own.
-/
import Derived.Test.YtmnfcfhnmndakaaCatW3
import Derived.Test.YtmnfcfhnmndakaaLabGen
import Derived.Deep.Onto
namespace Go.Proofs.Ytmnfcfhnmndakaa
open Go.RowKit
/-- What is known of row i of a catalog. -/
def RowC (B : Nat) (w : World) (v : Value) (l : List Lb) (vs : List Value) (i : Nat) : Prop :=
  ∃ a c, vs[i]? = some (.slice a l.length c) ∧ w.ownsRow B 81 2 (.slice a l.length c) l.length (rowG encL 2 l) ∧
    (∀ g, (Value.slice a l.length c).ownBlock = some g → v.ownBlock ≠ some g) ∧
    ∀ j u, j < i → vs[j]? = some u → ∀ g, (Value.slice a l.length c).ownBlock = some g → u.ownBlock ≠ some g
def OwnC (B : Nat) (w : World) (v : Value) (n : Nat) (C : Ct) (vs : List Value) : Prop :=
  C.length = n ∧ vs.length = n ∧ w.ownsRow B 33 1 v n vs ∧ ∀ i, i < n → RowC B w v (at0 C i) vs i
section
variable {B : Nat} {w w' w2 : World} {v : Value} {n : Nat} {C : Ct} {vs : List Value}
theorem RowC.kept {l : List Lb} {i : Nat} (h : RowC B w v l vs i) (hb : Below w.heap.size w w') : RowC B w' v l vs i :=
  let ⟨a, c, h1, h2, h3⟩ := h; ⟨a, c, h1, own_kept h2 hb, h3⟩
theorem OwnC.kept (h : OwnC B w v n C vs) (hb : Below w.heap.size w w') : OwnC B w' v n C vs :=
  ⟨h.1, h.2.1, own_kept h.2.2.1 hb, fun i hi => (h.2.2.2 i hi).kept hb⟩
theorem RowC.only {l : List Lb} {i g : Nat} (h : RowC B w v l vs i) (k : Only g w w') (hg : g < B) : RowC B w' v l vs i :=
  let ⟨a, c, h1, h2, h3⟩ := h; ⟨a, c, h1, Only.own h2 k hg, h3⟩
theorem OwnC.only {g : Nat} (h : OwnC B w v n C vs) (k : Only g w w') (hg : g < B) : OwnC B w' v n C vs :=
  ⟨h.1, h.2.1, Only.own h.2.2.1 k hg, fun i hi => (h.2.2.2 i hi).only k hg⟩
theorem OwnC.rdC {A : Option Addr} {c : Nat} (h : OwnC B w (.slice A n c) n C vs) : RdC w w.heap.size A C := fun h0 => by
  have hvl : vs.length = n := h.2.1
  have := Rd.of_own h.2.2.1 (g := fun j => vs.getD j default) (fun j hj => by
    rw [List.getD_eq_getElem?_getD, List.getElem?_eq_getElem (by omega)]; rfl)
  obtain ⟨b, off, e, hlt, hc⟩ := this (by have := h.1; omega)
  refine ⟨b, off, e, hlt, fun i hi => ?_⟩
  have hi' : i < n := by rw [← h.1]; exact hi
  obtain ⟨a, c', h1, h2, _⟩ := h.2.2.2 i hi'
  refine ⟨a, (at0 C i).length, c', ?_, rfl, own_cap h2, own_rdG h2 rfl⟩
  rw [hc i (by omega)]
  show some (vs.getD i default) = _
  rw [List.getD_eq_getElem?_getD, h1]; rfl
theorem RdG.bound {α : Type} [Inhabited α] {en : α → Nat → Value} {k B B' : Nat} {w : World} {A : Option Addr} {l : List α} (h : RdG en k w B A l) (hb : ∀ b off, A = some ⟨b, off, none⟩ → b < B') : RdG en k w B' A l := fun h0 =>
  let ⟨b, off, e, _, hc⟩ := h h0
  ⟨b, off, e, hb b off e, hc⟩
/-- The catalog of an earlier world, read in a later one. -/
theorem OwnC.rdAt {w0 : World} {A : Option Addr} {c : Nat} (h0 : OwnC B w0 (.slice A n c) n C vs) (h : OwnC B w (.slice A n c) n C vs) : RdC w w0.heap.size A C := fun hp => by
  obtain ⟨b, off, e, _, hc⟩ := h.rdC hp
  refine ⟨b, off, e, (h0.2.2.1.lt b (by rw [e]; rfl)).2, fun i hi => ?_⟩
  obtain ⟨a, m, c', h1, h2, h3, h4⟩ := hc i hi
  refine ⟨a, m, c', h1, h2, h3, h4.bound fun b' off' e' => ?_⟩
  have hi' : i < n := by rw [← h0.1]; exact hi
  obtain ⟨a1, c1, f1, f2, _⟩ := h0.2.2.2 i hi'
  have hat := h.2.2.1
  have := Rd.of_own h.2.2.1 (g := fun j => vs.getD j default) (fun j hj => by
    have hvl : vs.length = n := h.2.1
    rw [List.getD_eq_getElem?_getD, List.getElem?_eq_getElem (by omega)]; rfl)
  obtain ⟨b2, off2, e2, _, hc2⟩ := this (by omega)
  rw [e] at e2
  injection e2 with e2
  injection e2 with e3 e4
  subst e3; subst e4
  have h5 := hc2 i (by omega)
  rw [h1] at h5
  have h6 : vs.getD i default = .slice a1 (at0 C i).length c1 := by rw [List.getD_eq_getElem?_getD, f1]; rfl
  have h7 : Value.slice a m c' = .slice a1 (at0 C i).length c1 := by injection h5 with h5; rw [← h6]; exact h5
  injection h7 with h8 _ _
  subst h8
  exact (f2.lt b' (by rw [e']; rfl)).2
theorem OwnC.nil (w : World) (o : Obj) (ho : (w.alloc o).ownsRow w.heap.size 33 1 (.slice (some ⟨w.heap.size, 0, none⟩) 0 0) 0 []) : OwnC w.heap.size (w.alloc o) (.slice (some ⟨w.heap.size, 0, none⟩) 0 0) 0 [] [] :=
  ⟨rfl, rfl, ho, fun i hi => absurd hi (by omega)⟩
theorem OwnC.none_ (B : Nat) (w : World) : OwnC B w (.slice none 0 0) 0 [] [] := ⟨rfl, rfl, World.ownsRow_nil _ _ _ _, fun i hi => absurd hi (by omega)⟩
/-- A row more. -/
theorem OwnC.snoc' (h : OwnC B w v n C vs) (hk : OwnC B w2 v n C vs) (hbs : w.heap.size ≤ w2.heap.size) {a : Option Addr} {m c : Nat} {l : List Lb} (hl : l.length = m) (hi : w2.ownsRow w.heap.size 81 2 (.slice a m c) m (rowG encL 2 l))
    {w3 : World} {o : Obj} {gg cap : Nat} (hB : B ≤ w.heap.size) (ho : w3.ownsRow B 33 1 (.slice (some ⟨gg, 0, none⟩) (n + 1) cap) (n + 1) (vs ++ [.slice a m c])) (hg : (w2.alloc o).grownBy w3 v.ownBlock)
    (hat : v.ownBlock = some gg ∨ gg = (w2.alloc o).heap.size) : OwnC B w3 (.slice (some ⟨gg, 0, none⟩) (n + 1) cap) (n + 1) (C ++ [l]) (vs ++ [.slice a m c]) := by
  have hsz : (w2.alloc o).heap.size = w2.heap.size + 1 := size_alloc1 w2 o
  have hinner : ∀ g, (Value.slice a m c).ownBlock = some g → w.heap.size ≤ g ∧ g < w2.heap.size := hi.lt
  have houter : ∀ g, v.ownBlock = some g → g < w.heap.size := fun g hg => (h.2.2.1.lt g hg).2
  refine ⟨by rw [List.length_append, h.1]; rfl, by rw [List.length_append, h.2.1]; rfl, ho, fun i hi' => ?_⟩
  rcases Nat.lt_or_ge i n with h1 | h1
  · rw [at0_append _ _ (by rw [h.1]; exact h1)]
    obtain ⟨a', c', e1, e2, e3, e4⟩ := h.2.2.2 i h1
    obtain ⟨a1, c1, f1, f2, _⟩ := hk.2.2.2 i h1
    rw [e1] at f1
    injection f1 with f1
    injection f1 with f3 f4 f5
    subst f3; subst f5
    have hlt : ∀ g, (Value.slice a' (at0 C i).length c').ownBlock = some g → g < w.heap.size := fun g hg => (e2.lt g hg).2
    refine ⟨a', c', by rw [List.getElem?_append_left (by rw [h.2.1]; exact h1)]; exact e1, ?_, fun g hgo hv => ?_, fun j u hj hu => ?_⟩
    · refine (f2.alloc o).kept hg ?_
      rcases hob : (Value.slice a' (at0 C i).length c').ownBlock with _ | g
      · exact .inl rfl
      · exact .inr fun e => e3 g hob e.symm
    · have e : gg = g := by injection hv
      rcases hat with h2 | h2
      · exact e3 g hgo (by rw [h2, e])
      · have := hlt g hgo; omega
    · rw [List.getElem?_append_left (by rw [h.2.1]; omega)] at hu
      exact e4 j u hj hu
  · have hin : i = n := by omega
    subst hin
    have hat0 : at0 (C ++ [l]) i = l := by rw [← h.1, at0_append_r _ _ (Nat.le_refl _), Nat.sub_self]; rfl
    rw [hat0]
    subst hl
    refine ⟨a, c, by rw [← h.2.1, List.getElem?_append_right (Nat.le_refl _), Nat.sub_self]; rfl, ?_, fun g hgo hv => ?_, fun j u hj hu g hgo hgu => ?_⟩
    · refine World.ownsRow.mono ((hi.alloc o).kept hg ?_) hB
      rcases hob : (Value.slice a l.length c).ownBlock with _ | g
      · exact .inl rfl
      · refine .inr fun e => ?_
        have := (hinner g hob).1
        have := houter g e.symm
        omega
    · have e : gg = g := by injection hv
      have h3 := hinner g hgo
      rcases hat with h2 | h2
      · have := houter gg h2; omega
      · omega
    · rw [List.getElem?_append_left (by rw [h.2.1]; omega)] at hu
      obtain ⟨a', c', e1, e2, _⟩ := h.2.2.2 j (by omega)
      rw [hu] at e1
      injection e1 with e1
      subst e1
      have := (e2.lt g hgu).2
      have := (hinner g hgo).1
      omega
theorem OwnC.snoc (h : OwnC B w v n C vs) (hb : Below w.heap.size w w2) {a : Option Addr} {m c : Nat} {l : List Lb} (hl : l.length = m) (hi : w2.ownsRow w.heap.size 81 2 (.slice a m c) m (rowG encL 2 l))
    {w3 : World} {o : Obj} {gg cap : Nat} (hB : B ≤ w.heap.size) (ho : w3.ownsRow B 33 1 (.slice (some ⟨gg, 0, none⟩) (n + 1) cap) (n + 1) (vs ++ [.slice a m c])) (hg : (w2.alloc o).grownBy w3 v.ownBlock)
    (hat : v.ownBlock = some gg ∨ gg = (w2.alloc o).heap.size) : OwnC B w3 (.slice (some ⟨gg, 0, none⟩) (n + 1) cap) (n + 1) (C ++ [l]) (vs ++ [.slice a m c]) :=
  OwnC.snoc' h (h.kept hb) hb.size hl hi hB ho hg hat
end
end Go.Proofs.Ytmnfcfhnmndakaa
