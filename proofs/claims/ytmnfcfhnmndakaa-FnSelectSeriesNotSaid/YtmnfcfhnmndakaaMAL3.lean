/-
  Walk: FnMatchesAllNot.
-/
import Derived.Test.YtmnfcfhnmndakaaMAGen
import Derived.Test.YtmnfcfhnmndakaaMAW
import Derived.Deep.RegionHeld3
import Derived.Deep.RegionLaw
namespace Go.Proofs.Ytmnfcfhnmndakaa
open Go.RowKit
theorem rdM_new (w : World) (x : Mt) (g : Nat) (h : w.heap.size = g) : RdM (w.alloc (Obj.cells #[Value.string x.1, Value.string x.2.1, Value.bool x.2.2] 65)) (w.alloc (Obj.cells #[Value.string x.1, Value.string x.2.1, Value.bool x.2.2] 65)).heap.size (some ⟨g, 0, none⟩) [x] := by
  subst h
  exact fun _ => ⟨w.heap.size, 0, rfl, by simp, fun j hj => by
    rw [(Blk.new w _ _).cell]
    match j, hj with
    | 0, _ => rfl
    | 1, _ => rfl
    | 2, _ => rfl⟩
theorem rdM_head {w : World} {B : Nat} {A : Option Addr} {want : List Mt} (h : RdM w B A want) (hq : 0 < want.length) : RdM w B A [at0 want 0] := by
  have := RdG.take (m := 1) h
  rwa [show want.take 1 = [at0 want 0] from by
    cases want with
    | nil => simp at hq
    | cons a t => rfl] at this
theorem mat1_cases {l : List Lb} {x : Mt} {v n : Bool} (hv : eqB (valB l x.1) x.2.1 = v) (hn : x.2.2 = n) : mat1 l x = (v != n) ∧ mat1 l (x.1, x.2.1, !n) = !(v != n) := by
  subst hv; subst hn
  exact ⟨rfl, mat1_not l x⟩
theorem vM_flip {x : Mt} (h : vM [x] = true) (n : Bool) : vM [(x.1, x.2.1, n)] = true :=
  vM_good (k := 1) (by simp) (fun j hj => by
    have : j = 0 := by omega
    subst this
    exact (VM_of h).2 0 (by simp)) rfl
theorem ks_start {w : World} {g : Nat} {u v z : Value} (h : w.cell? ⟨g, 0, none⟩ = some u ∧ w.cell? ⟨g, 1, none⟩ = some v ∧ w.cell? ⟨g, 2, none⟩ = some z ∧ Below w.heap.size w w) :
    (w.drew.cell? ⟨g, 0, none⟩ = some u ∧ w.drew.cell? ⟨g, 1, none⟩ = some v ∧ w.drew.cell? ⟨g, 2, none⟩ = some z) ∧ Below w.heap.size w w.drew :=
  ⟨⟨h.1, h.2.1, h.2.2.1⟩, h.2.2.2.drew⟩
theorem ks_call {W w w' : World} {g : Nat} {u v z : Value} (hg : g < W.heap.size) (h : (w.cell? ⟨g, 0, none⟩ = some u ∧ w.cell? ⟨g, 1, none⟩ = some v ∧ w.cell? ⟨g, 2, none⟩ = some z) ∧ Below W.heap.size W w) (hb : Below w.heap.size w w') :
    (w'.cell? ⟨g, 0, none⟩ = some u ∧ w'.cell? ⟨g, 1, none⟩ = some v ∧ w'.cell? ⟨g, 2, none⟩ = some z) ∧ Below W.heap.size W w' :=
  have hg' := Nat.lt_of_lt_of_le hg h.2.size
  ⟨⟨(hb.cell (p := ⟨g, 0, none⟩) hg').trans h.1.1, (hb.cell (p := ⟨g, 1, none⟩) hg').trans h.1.2.1, (hb.cell (p := ⟨g, 2, none⟩) hg').trans h.1.2.2⟩, kept_trans h.2 hb⟩
theorem ks_alloc {W w : World} {g : Nat} {u v z : Value} (hg : g < W.heap.size) (h : (w.cell? ⟨g, 0, none⟩ = some u ∧ w.cell? ⟨g, 1, none⟩ = some v ∧ w.cell? ⟨g, 2, none⟩ = some z) ∧ Below W.heap.size W w) (o : Obj) :
    ((w.alloc o).cell? ⟨g, 0, none⟩ = some u ∧ (w.alloc o).cell? ⟨g, 1, none⟩ = some v ∧ (w.alloc o).cell? ⟨g, 2, none⟩ = some z) ∧ Below W.heap.size W (w.alloc o) :=
  ks_call hg h (kept_alloc (Below.refl w.heap.size w) o)
end Go.Proofs.Ytmnfcfhnmndakaa
