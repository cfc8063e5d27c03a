/-
  Rows of elements of k cells each, read by an encoding 'enc x q' (cell q of element x).
-/
import Derived.Test.YtiajcnldfdijoaaBase3
namespace Go.Proofs.Ytiajcnldfdijoaa
open Go.RowKit
section
variable {α : Type} [Inhabited α]
/-- Element i. -/
def at0 (l : List α) (i : Nat) : α := l.getD i default
theorem at0_get {l : List α} {i : Nat} (h : i < l.length) : at0 l i = l[i] := by simp [at0, List.getD_eq_getElem?_getD, List.getElem?_eq_getElem h]
theorem at0_append (l l' : List α) {i : Nat} (h : i < l.length) : at0 (l ++ l') i = at0 l i := by simp [at0, List.getD_eq_getElem?_getD, List.getElem?_append_left h]
theorem at0_append_r (l l' : List α) {i : Nat} (h : l.length ≤ i) : at0 (l ++ l') i = at0 l' (i - l.length) := by simp [at0, List.getD_eq_getElem?_getD, List.getElem?_append_right h]
theorem at0_take (l : List α) {i k : Nat} (h : i < k) : at0 (l.take k) i = at0 l i := by simp [at0, List.getD_eq_getElem?_getD, h]
theorem at0_drop (l : List α) (k i : Nat) : at0 (l.drop k) i = at0 l (k + i) := by simp [at0, List.getD_eq_getElem?_getD, List.getElem?_drop]
theorem at0_set (l : List α) (x : α) {i j : Nat} (h : i < l.length) : at0 (l.set i x) j = if j = i then x else at0 l j := by
  unfold at0; rw [List.getD_eq_getElem?_getD, List.getElem?_set]
  by_cases e : j = i
  · subst e; simp [h]
  · rw [if_neg (by omega), if_neg e, List.getD_eq_getElem?_getD]
theorem at0_map {β : Type} [Inhabited β] (f : α → β) (l : List α) {i : Nat} (h : i < l.length) : at0 (l.map f) i = f (at0 l i) := by
  rw [at0_get (by simpa using h), at0_get h, List.getElem_map]
theorem take_succ_at (l : List α) {i : Nat} (h : i < l.length) : l.take (i + 1) = l.take i ++ [at0 l i] := by rw [List.take_succ_eq_append_getElem h, at0_get h]
theorem ext_at {l l' : List α} (hl : l.length = l'.length) (h : ∀ i, i < l.length → at0 l i = at0 l' i) : l = l' := List.ext_getElem hl fun i h1 h2 => by
  have := h i h1
  rwa [at0_get h1, at0_get h2] at this
theorem mem_at0 {l : List α} {x : α} (h : x ∈ l) : ∃ i, i < l.length ∧ at0 l i = x := by
  obtain ⟨i, hi, rfl⟩ := List.mem_iff_getElem.1 h
  exact ⟨i, hi, at0_get hi⟩
theorem at0_mem {l : List α} {i : Nat} (h : i < l.length) : at0 l i ∈ l := by rw [at0_get h]; exact List.getElem_mem h

variable (enc : α → Nat → Value) (k : Nat)
def cellsG (l : List α) (j : Nat) : Value := enc (at0 l (j / k)) (j % k)
def RdG (w : World) (B : Nat) (A : Option Addr) (l : List α) : Prop := Rd w B A (l.length * k) (cellsG enc k l)
def rowG (l : List α) : List Value := (List.range (l.length * k)).map (cellsG enc k l)
variable {enc k}
theorem cellsG_at (l : List α) {i q : Nat} (hq : q < k) : cellsG enc k l (i * k + q) = enc (at0 l i) q := by
  have hk : 0 < k := by omega
  have e1 : (i * k + q) / k = i := by rw [Nat.mul_comm, Nat.mul_add_div hk, Nat.div_eq_of_lt hq, Nat.add_zero]
  have e2 : (i * k + q) % k = q := by rw [Nat.mul_comm, Nat.mul_add_mod, Nat.mod_eq_of_lt hq]
  unfold cellsG; rw [e1, e2]
theorem idx_lt {i q n : Nat} (hi : i < n) (hq : q < k) : i * k + q < n * k := by
  have : (i + 1) * k ≤ n * k := Nat.mul_le_mul_right k hi
  rw [Nat.succ_mul] at this
  omega
section
variable {w w' : World} {B B' : Nat} {A : Option Addr} {l : List α}
theorem RdG.at_ (h : RdG enc k w B A l) (h0 : 0 < l.length) (hk : 0 < k) : ∃ b off, A = some ⟨b, off, none⟩ ∧ b < B ∧ ∀ i q, i < l.length → q < k → w.cell? ⟨b, off + i * k + q, none⟩ = some (enc (at0 l i) q) := by
  obtain ⟨b, off, e, hb, hc⟩ := h (Nat.mul_pos h0 hk)
  refine ⟨b, off, e, hb, fun i q hi hq => ?_⟩
  have := hc (i * k + q) (idx_lt hi hq)
  rw [cellsG_at l hq] at this
  rw [Nat.add_assoc]; exact this
theorem RdG.below (h : RdG enc k w B A l) (hb : Below B w w') : RdG enc k w' B A l := Rd.below h hb
theorem RdG.mono (h : RdG enc k w B A l) (hB : B ≤ B') : RdG enc k w B' A l := Rd.mono h hB
theorem RdG.next (h : RdG enc k w w.heap.size A l) (hb : Below w.heap.size w w') : RdG enc k w' w'.heap.size A l := Rd.next h hb
theorem RdG.to (h : RdG enc k w w.heap.size A l) (hb : Below w.heap.size w w') : RdG enc k w' w'.heap.size A l := (h.below hb).mono hb.size
theorem RdG.rdN {n : Nat} (h : RdG enc k w B A l) (hn : l.length = n) : Rd w B A (n * k) (cellsG enc k l) := by rw [← hn]; exact h
theorem RdG.nil (A : Option Addr) (B : Nat) (w : World) (l : List α) (h : l.length = 0) : RdG enc k w B A l := fun h0 => by rw [h, Nat.zero_mul] at h0; exact absurd h0 (by omega)
theorem RdG.take {m : Nat} (h : RdG enc k w B A l) : RdG enc k w B A (l.take m) := fun h0 => by
  obtain ⟨b, off, e, hb, hc⟩ := h (by
    have : (l.take m).length ≤ l.length := by rw [List.length_take]; omega
    exact Nat.lt_of_lt_of_le h0 (Nat.mul_le_mul_right k this))
  refine ⟨b, off, e, hb, fun j hj => ?_⟩
  have hk : 0 < k := by
    rcases Nat.eq_zero_or_pos k with h1 | h1
    · subst h1; simp at h0
    · exact h1
  have hlt : j / k < (l.take m).length := (Nat.div_lt_iff_lt_mul hk).2 hj
  rw [List.length_take] at hlt
  have hj2 : j < l.length * k := (Nat.div_lt_iff_lt_mul hk).1 (by omega)
  rw [hc j hj2]
  unfold cellsG
  rw [at0_take _ (by omega)]
end
theorem rowG_len (l : List α) : (rowG enc k l).length = l.length * k := by simp [rowG]
theorem rowG_at (l : List α) {j : Nat} (h : j < l.length * k) : (rowG enc k l)[j]? = some (cellsG enc k l j) := by
  unfold rowG; rw [List.getElem?_map, List.getElem?_range h]; rfl
theorem rowG_nil : rowG enc k ([] : List α) = [] := by unfold rowG; simp
theorem rowG_append (l l' : List α) : rowG enc k (l ++ l') = rowG enc k l ++ rowG enc k l' := by
  rcases Nat.eq_zero_or_pos k with h0 | hk
  · subst h0; unfold rowG; simp
  refine List.ext_getElem? fun j => ?_
  rw [List.getElem?_append, rowG_len]
  by_cases h1 : j < l.length * k
  · rw [if_pos h1, rowG_at _ h1, rowG_at _ (by rw [List.length_append, Nat.add_mul]; omega)]
    unfold cellsG
    rw [at0_append _ _ ((Nat.div_lt_iff_lt_mul hk).2 h1)]
  · rw [if_neg h1]
    have hle : l.length * k ≤ j := by omega
    obtain ⟨d, rfl⟩ : ∃ d, j = l.length * k + d := ⟨j - l.length * k, by omega⟩
    have e1 : (l.length * k + d) / k = l.length + d / k := by rw [Nat.mul_comm, Nat.mul_add_div hk]
    have e2 : (l.length * k + d) % k = d % k := by rw [Nat.mul_comm, Nat.mul_add_mod]
    rw [Nat.add_sub_cancel_left]
    by_cases h2 : d < l'.length * k
    · rw [rowG_at _ (by rw [List.length_append, Nat.add_mul]; omega), rowG_at _ h2]
      unfold cellsG
      rw [e1, e2, at0_append_r l l' (Nat.le_add_right _ _), Nat.add_sub_cancel_left]
    · rw [List.getElem?_eq_none (by rw [rowG_len, List.length_append, Nat.add_mul]; omega), List.getElem?_eq_none (by rw [rowG_len]; omega)]
theorem rowG_one (x : α) : rowG enc k [x] = (List.range k).map (enc x) := by
  unfold rowG
  rw [List.length_singleton, Nat.one_mul]
  refine List.map_congr_left fun j hj => ?_
  have hj' : j < k := List.mem_range.1 hj
  have := cellsG_at (enc := enc) (k := k) [x] (i := 0) hj'
  rw [Nat.zero_mul, Nat.zero_add] at this
  rw [this]; rfl
theorem rowG_snoc (l : List α) (x : α) : rowG enc k (l ++ [x]) = rowG enc k l ++ (List.range k).map (enc x) := by rw [rowG_append, rowG_one]
theorem own_rdG {w : World} {B : Nat} {t : TypeId} {A : Option Addr} {n c : Nat} {l : List α} (h : w.ownsRow B t k (.slice A n c) n (rowG enc k l)) (hn : l.length = n) : RdG enc k w w.heap.size A l := by
  have := Rd.of_own h (g := cellsG enc k l) (fun j hj => rowG_at l (by rw [hn]; exact hj))
  unfold RdG
  rw [hn]; exact this
theorem Filled.rdG {w : World} {g : Nat} {t : TypeId} {M n : Nat} {l : List α} (h : Filled w g t M (n * k) (cellsG enc k l)) (hn : l.length = n) : RdG enc k w w.heap.size (some ⟨g, 0, none⟩) l := by
  unfold RdG; rw [hn]; exact h.rd
/-- The call handed back a slice of l' in memory of its own (or nil). -/
def RetG (enc : α → Nat → Value) (k : Nat) (T : TypeId) (w : World) (l' : List α) (e : Ending) (w' : World) : Prop :=
  ∃ A c, e = .returned (.slice A l'.length c) ∧ w'.ownsRow w.heap.size T k (.slice A l'.length c) l'.length (rowG enc k l') ∧ Below w.heap.size w w'
theorem retG_nil {T : TypeId} {w w' : World} {l : List α} (h : l = []) (hb : Below w.heap.size w w') : RetG enc k T w l (.returned (.slice none 0 0)) w' := by
  subst h; exact ⟨none, 0, rfl, by rw [rowG_nil]; exact World.ownsRow_nil _ _ _ _, hb⟩
end
end Go.Proofs.Ytiajcnldfdijoaa
