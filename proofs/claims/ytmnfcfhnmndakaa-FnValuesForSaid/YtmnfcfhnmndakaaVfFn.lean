/-
  Plain functions: the values of a name in a catalog, ascending.
-/
import Derived.Test.YtmnfcfhnmndakaaPosFn
import Derived.Test.YtmnfcfhnmndakaaLabFn3
import Derived.Lib.SlicesCompact
namespace Go.Proofs.Ytmnfcfhnmndakaa
open Go.RowKit
open Go.Op (bytesLess)
abbrev Bs := List UInt8
/-- Strictly ascending. -/
def SA (l : List ByteArray) : Prop := l.Pairwise fun a b => ltB a b = true
theorem SA_uniq : ∀ {a b : List ByteArray}, SA a → SA b → (∀ x, x ∈ a ↔ x ∈ b) → a = b
  | [], [], _, _, _ => rfl
  | [], y :: b, _, _, h => absurd ((h y).2 (List.mem_cons_self ..)) (by simp)
  | x :: a, [], _, _, h => absurd ((h x).1 (List.mem_cons_self ..)) (by simp)
  | x :: a, y :: b, ha, hb, h => by
    have ha' := List.pairwise_cons.1 ha
    have hb' := List.pairwise_cons.1 hb
    have e : x = y := by
      rcases List.mem_cons.1 ((h x).1 (List.mem_cons_self ..)) with h1 | h1
      · exact h1
      · rcases List.mem_cons.1 ((h y).2 (List.mem_cons_self ..)) with h2 | h2
        · exact h2.symm
        · have := ltB_trans (ha'.1 y h2) (hb'.1 x h1)
          rw [ltB_irrefl] at this; cases this
    subst e
    have : a = b := SA_uniq ha'.2 hb'.2 fun z => by
      constructor
      · intro hz
        rcases List.mem_cons.1 ((h z).1 (List.mem_cons_of_mem _ hz)) with h1 | h1
        · subst h1; have := ha'.1 z hz; rw [ltB_irrefl] at this; cases this
        · exact h1
      · intro hz
        rcases List.mem_cons.1 ((h z).2 (List.mem_cons_of_mem _ hz)) with h1 | h1
        · subst h1; have := hb'.1 z hz; rw [ltB_irrefl] at this; cases this
        · exact h1
    rw [this]
theorem SA_nodup {l : List ByteArray} (h : SA l) : l.Nodup := List.Pairwise.imp (fun {a b} h e => by subst e; rw [ltB_irrefl] at h; cases h) h
theorem SA_at {l : List ByteArray} (h : SA l) {i j : Nat} (hij : i < j) (hj : j < l.length) : ltB (at0 l i) (at0 l j) = true := by
  rw [at0_get (by omega), at0_get hj]; exact List.pairwise_iff_getElem.1 h i j (by omega) hj hij
/-! Insertion. -/
def insB (l : List ByteArray) (s : ByteArray) : List ByteArray := l.filter (fun x => ltB x s) ++ [s] ++ l.filter (fun x => ltB s x)
theorem insB_mem {l : List ByteArray} {s x : ByteArray} : x ∈ insB l s ↔ x ∈ l ∨ x = s := by
  unfold insB
  rw [List.mem_append, List.mem_append, List.mem_filter, List.mem_filter, List.mem_singleton]
  constructor
  · rintro ((h | h) | h)
    · exact .inl h.1
    · exact .inr h
    · exact .inl h.1
  · rintro (h | h)
    · rcases h1 : ltB x s with _ | _
      · rcases h2 : ltB s x with _ | _
        · exact .inl (.inr (ltB_total h1 h2))
        · exact .inr ⟨h, rfl⟩
      · exact .inl (.inl ⟨h, rfl⟩)
    · exact .inl (.inr h)
theorem insB_SA {l : List ByteArray} {s : ByteArray} (h : SA l) : SA (insB l s) := by
  unfold insB
  refine List.pairwise_append.2 ⟨List.pairwise_append.2 ⟨List.Pairwise.sublist List.filter_sublist h, List.pairwise_singleton _ _, fun x hx y hy => ?_⟩, List.Pairwise.sublist List.filter_sublist h, fun x hx y hy => ?_⟩
  · rw [List.mem_singleton] at hy; subst hy
    exact (List.mem_filter.1 hx).2
  · have hy' := (List.mem_filter.1 hy).2
    rcases List.mem_append.1 hx with hx | hx
    · exact ltB_trans (List.mem_filter.1 hx).2 hy'
    · rw [List.mem_singleton] at hx; subst hx; exact hy'
theorem filter_snoc {l : List ByteArray} {f : ByteArray → Bool} {k : Nat} (hk : k < l.length) : (l.take (k + 1)).filter f = if f (at0 l k) = true then (l.take k).filter f ++ [at0 l k] else (l.take k).filter f := by
  rw [take_succ_at l hk, List.filter_append]
  by_cases h : f (at0 l k) = true
  · rw [if_pos h]; simp [h]
  · rw [if_neg h]; simp [h]
theorem filter_yes {l : List ByteArray} {f : ByteArray → Bool} {k : Nat} (hk : k < l.length) (h : f (at0 l k) = true) : (l.take (k + 1)).filter f = (l.take k).filter f ++ [at0 l k] := by rw [filter_snoc hk, if_pos h]
theorem filter_not {l : List ByteArray} {f : ByteArray → Bool} {k : Nat} (hk : k < l.length) (h : f (at0 l k) = false) : (l.take (k + 1)).filter f = (l.take k).filter f := by rw [filter_snoc hk, if_neg (by rw [h]; simp)]
/-! Sorted, without what stands twice. -/
theorem bl_lt : ∀ x y : Bs, bytesLess x y = decide (x < y)
  | [], [] => by simp [bytesLess]
  | _ :: _, [] => by simp [bytesLess]
  | [], _ :: _ => by simp [bytesLess]
  | a :: x, b :: y => by
    rw [bytesLess, bl_lt x y]
    simp only [List.cons_lt_cons_iff]
    by_cases h1 : a < b <;> by_cases h2 : a = b <;> by_cases h3 : x < y <;> simp [h1, h2, h3]
theorem le_bl (x y : Bs) : decide (x ≤ y) = !bytesLess y x := by
  rw [bl_lt]
  by_cases h : y < x
  · have : ¬ x ≤ y := fun k => (List.not_lt.2 k) h
    simp [h, this]
  · have : x ≤ y := List.not_lt.1 h
    simp [h, this]
def srtT (l : List Bs) : List Bs := l.mergeSort fun x y => decide (x ≤ y)
theorem srtT_len (l : List Bs) : (srtT l).length = l.length := (List.mergeSort_perm l _).length_eq
theorem srtT_mem {l : List Bs} {x : Bs} : x ∈ srtT l ↔ x ∈ l := (List.mergeSort_perm l _).mem_iff
theorem srtT_asc (l : List Bs) : (srtT l).Pairwise fun a b => bytesLess b a = false := by
  have h := List.pairwise_mergeSort (le := fun x y : Bs => decide (x ≤ y)) (fun a b c h1 h2 => by
    rw [le_bl] at *
    rcases h3 : bytesLess c a with _ | _
    · rfl
    · rcases h4 : bytesLess a b with _ | _
      · have e := bl_total _ _ h4 (by simpa using h1)
        subst e
        rw [h3] at h2; cases h2
      · have := bl_trans _ _ _ h3 h4
        rw [this] at h2; cases h2) (fun a b => by
    rw [le_bl, le_bl]
    rcases h1 : bytesLess b a with _ | _
    · rfl
    · rw [bl_asymm h1]; rfl) l
  exact h.imp fun h => by rw [le_bl] at h; simpa using h
theorem compactTo_spec {zs : List Bs} (h : zs.Pairwise fun a b => bytesLess b a = false) : ∀ {m : Nat}, m ≤ zs.length → (Lib.compactUpTo zs.toArray m).Pairwise (fun a b => bytesLess a b = true) ∧ ∀ x, x ∈ Lib.compactUpTo zs.toArray m ↔ x ∈ zs.take m
  | 0, _ => ⟨by simp [Lib.compactUpTo], by simp [Lib.compactUpTo]⟩
  | m + 1, hm => by
    obtain ⟨h1, h2⟩ := compactTo_spec h (show m ≤ zs.length by omega)
    have hm' : m < zs.length := hm
    have hg : zs.toArray[m]! = zs[m] := by simp [hm']
    have ht : zs.take (m + 1) = zs.take m ++ [zs[m]] := List.take_succ_eq_append_getElem hm'
    rw [Lib.compactUpTo_succ, ht]
    by_cases hk : Lib.keeps zs.toArray m = true
    · rw [if_pos hk, hg]
      refine ⟨List.pairwise_append.2 ⟨h1, List.pairwise_singleton _ _, fun x hx y hy => ?_⟩, fun x => by rw [List.mem_append, List.mem_append, h2]⟩
      rw [List.mem_singleton] at hy; subst hy
      obtain ⟨i, hi, rfl⟩ := List.mem_take_iff_getElem.1 ((h2 x).1 hx)
      have him : i < m := by omega
      have hm0 : 0 < m := by omega
      have hne : zs[m] ≠ zs[m - 1] := by
        have hg' : zs.toArray[m - 1]! = zs[m - 1] := by simp [show m - 1 < zs.length by omega]
        unfold Lib.keeps at hk
        rw [decide_eq_true_eq, hg, hg'] at hk
        rcases hk with hk | hk
        · omega
        · exact hk
      have hp := List.pairwise_iff_getElem.1 h
      rcases hq : bytesLess zs[i] zs[m] with _ | _
      · have e := bl_total _ _ hq (hp i m (by omega) hm' him)
        rcases Nat.lt_or_ge i (m - 1) with h3 | h3
        · have a1 := hp i (m - 1) (by omega) (by omega) h3
          have a2 := hp (m - 1) m (by omega) hm' (by omega)
          rw [← e] at a2
          have := bl_total _ _ a2 a1
          exact absurd (e.symm.trans this) hne
        · have : i = m - 1 := by omega
          subst this
          exact absurd e.symm hne
      · rfl
    · rw [if_neg hk, List.append_nil]
      refine ⟨h1, fun x => ?_⟩
      rw [List.mem_append, h2, List.mem_singleton]
      constructor
      · exact .inl
      · rintro (h3 | h3)
        · exact h3
        · subst h3
          have hk' : ¬ (m = 0 ∨ zs.toArray[m]! ≠ zs.toArray[m - 1]!) := fun k => hk (by unfold Lib.keeps; exact decide_eq_true k)
          have hm0 : m ≠ 0 := fun e => hk' (.inl e)
          have he : zs.toArray[m]! = zs.toArray[m - 1]! := Decidable.byContradiction fun e => hk' (.inr e)
          have hg' : zs.toArray[m - 1]! = zs[m - 1] := by simp [show m - 1 < zs.length by omega]
          rw [hg, hg'] at he
          rw [he]
          exact List.mem_take_iff_getElem.2 ⟨m - 1, by omega, rfl⟩
def toT (l : List ByteArray) : List Bs := l.map ByteArray.toList
def ofT (l : List Bs) : List ByteArray := l.map fun x => ⟨x.toArray⟩
theorem byT (b : ByteArray) : (⟨b.toList.toArray⟩ : ByteArray) = b := by rw [Lib.toList_data]
theorem toBy (x : Bs) : (⟨x.toArray⟩ : ByteArray).toList = x := by rw [Lib.toList_data]
def vfS (l : List ByteArray) : List ByteArray := ofT (Lib.compact (srtT (toT l)))
theorem vfS_SA (l : List ByteArray) : SA (vfS l) := by
  have h := (compactTo_spec (srtT_asc (toT l)) (Nat.le_refl _)).1
  unfold SA vfS ofT
  refine List.pairwise_map.2 (List.Pairwise.imp (fun {a b} h => ?_) h)
  unfold ltB; rw [toBy, toBy]; exact h
theorem vfS_mem {l : List ByteArray} {x : ByteArray} : x ∈ vfS l ↔ x ∈ l := by
  have h := (compactTo_spec (srtT_asc (toT l)) (Nat.le_refl _)).2
  unfold vfS ofT
  rw [List.mem_map]
  constructor
  · rintro ⟨y, hy, rfl⟩
    have h1 := (h y).1 hy
    rw [List.take_length, srtT_mem] at h1
    obtain ⟨z, hz, rfl⟩ := List.mem_map.1 h1
    rw [byT]; exact hz
  · intro hx
    refine ⟨x.toList, ?_, byT x⟩
    have : x.toList ∈ (srtT (toT l)).take (srtT (toT l)).length := by rw [List.take_length, srtT_mem]; exact List.mem_map.2 ⟨x, hx, rfl⟩
    exact (h _).2 this
theorem vfS_len (l : List ByteArray) : (vfS l).length ≤ l.length := by
  unfold vfS ofT
  rw [List.length_map]
  have h1 : (Lib.compact (srtT (toT l))).length ≤ (srtT (toT l)).length := by
    unfold Lib.compact Lib.compactUpTo
    rw [List.length_map]
    exact Nat.le_trans (List.length_filter_le _ _) (by simp)
  rw [srtT_len] at h1
  have h2 : (toT l).length = l.length := List.length_map _
  omega
/-! The values of a name. -/
def vlsTo (C : Ct) (s : ByteArray) : Nat → List ByteArray
  | 0 => []
  | k + 1 => if emB (valB (at0 C k) s) = true then vlsTo C s k else vlsTo C s k ++ [valB (at0 C k) s]
theorem vlsTo_em {C : Ct} {s : ByteArray} {k : Nat} (h : emB (valB (at0 C k) s) = true) : vlsTo C s (k + 1) = vlsTo C s k := if_pos h
theorem vlsTo_in {C : Ct} {s : ByteArray} {k : Nat} (h : emB (valB (at0 C k) s) = false) : vlsTo C s (k + 1) = vlsTo C s k ++ [valB (at0 C k) s] := if_neg (by rw [h]; simp)
theorem vlsTo_len (C : Ct) (s : ByteArray) : ∀ k, (vlsTo C s k).length ≤ k
  | 0 => Nat.le_refl _
  | k + 1 => by
    have := vlsTo_len C s k
    rcases h : emB (valB (at0 C k) s) with _ | _
    · rw [vlsTo_in h, List.length_append, List.length_singleton]; omega
    · rw [vlsTo_em h]; omega
theorem vlsTo_mem {C : Ct} {s x : ByteArray} : ∀ {k : Nat}, x ∈ vlsTo C s k ↔ ∃ i, i < k ∧ x = valB (at0 C i) s ∧ emB x = false
  | 0 => by simp [vlsTo]
  | k + 1 => by
    have ih := vlsTo_mem (C := C) (s := s) (x := x) (k := k)
    rcases h : emB (valB (at0 C k) s) with _ | _
    · rw [vlsTo_in h, List.mem_append, List.mem_singleton, ih]
      constructor
      · rintro (⟨i, hi, h1, h2⟩ | h1)
        · exact ⟨i, by omega, h1, h2⟩
        · exact ⟨k, by omega, h1, by rw [h1]; exact h⟩
      · rintro ⟨i, hi, h1, h2⟩
        rcases Nat.lt_or_ge i k with h3 | h3
        · exact .inl ⟨i, h3, h1, h2⟩
        · have : i = k := by omega
          subst this; exact .inr h1
    · rw [vlsTo_em h, ih]
      constructor
      · rintro ⟨i, hi, h1, h2⟩; exact ⟨i, by omega, h1, h2⟩
      · rintro ⟨i, hi, h1, h2⟩
        rcases Nat.lt_or_ge i k with h3 | h3
        · exact ⟨i, h3, h1, h2⟩
        · have : i = k := by omega
          subst this; rw [h1, h] at h2; cases h2
/-- What the spec builds. -/
def insTo (C : Ct) (s : ByteArray) : Nat → List ByteArray
  | 0 => []
  | k + 1 => if emB (valB (at0 C k) s) = true then insTo C s k else insB (insTo C s k) (valB (at0 C k) s)
theorem insTo_em {C : Ct} {s : ByteArray} {k : Nat} (h : emB (valB (at0 C k) s) = true) : insTo C s (k + 1) = insTo C s k := if_pos h
theorem insTo_in {C : Ct} {s : ByteArray} {k : Nat} (h : emB (valB (at0 C k) s) = false) : insTo C s (k + 1) = insB (insTo C s k) (valB (at0 C k) s) := if_neg (by rw [h]; simp)
theorem insTo_spec (C : Ct) (s : ByteArray) : ∀ k, SA (insTo C s k) ∧ ∀ x, x ∈ insTo C s k ↔ x ∈ vlsTo C s k
  | 0 => ⟨List.Pairwise.nil, fun x => Iff.rfl⟩
  | k + 1 => by
    obtain ⟨h1, h2⟩ := insTo_spec C s k
    rcases h : emB (valB (at0 C k) s) with _ | _
    · rw [insTo_in h, vlsTo_in h]
      exact ⟨insB_SA h1, fun x => by rw [insB_mem, h2, List.mem_append, List.mem_singleton]⟩
    · rw [insTo_em h, vlsTo_em h]; exact ⟨h1, h2⟩
theorem insTo_eq (C : Ct) (s : ByteArray) (k : Nat) : insTo C s k = vfS (vlsTo C s k) := by
  obtain ⟨h1, h2⟩ := insTo_spec C s k
  exact SA_uniq h1 (vfS_SA _) fun x => by rw [h2, vfS_mem]
theorem insTo_len (C : Ct) (s : ByteArray) (k : Nat) : (insTo C s k).length ≤ k := by
  rw [insTo_eq]; exact Nat.le_trans (vfS_len _) (vlsTo_len C s k)
def vfV (C : Ct) (s : ByteArray) : List ByteArray := if vC C = true then vfS (vlsTo C s C.length) else []
theorem vfV_no {C : Ct} {s : ByteArray} (h : vC C = false) : vfV C s = [] := if_neg fun k => by rw [h] at k; cases k
theorem vfV_ok {C : Ct} {s : ByteArray} (h : vC C = true) : vfV C s = vfS (vlsTo C s C.length) := if_pos h
theorem vfV_len (C : Ct) (s : ByteArray) : (vfV C s).length ≤ C.length := by
  unfold vfV
  split
  · exact Nat.le_trans (vfS_len _) (vlsTo_len C s _)
  · simp
/-! How many series have a value. -/
theorem posTo_or {f g h : List Lb → Bool} {C : Ct} : ∀ {k : Nat}, (∀ i, i < k → h (at0 C i) = (f (at0 C i) || g (at0 C i)) ∧ (f (at0 C i) && g (at0 C i)) = false) → (posTo h C k).length = (posTo f C k).length + (posTo g C k).length
  | 0, _ => rfl
  | k + 1, H => by
    have ih := posTo_or (f := f) (g := g) (h := h) (C := C) (k := k) fun i hi => H i (by omega)
    obtain ⟨h1, h2⟩ := H k (by omega)
    rcases hf : f (at0 C k) with _ | _
    · rcases hg : g (at0 C k) with _ | _
      · rw [hf, hg] at h1
        rw [posTo_no h1, posTo_no hf, posTo_no hg, ih]
      · rw [hf, hg] at h1
        rw [posTo_yes h1, posTo_no hf, posTo_yes hg, List.length_append, List.length_append, ih]; simp; omega
    · rcases hg : g (at0 C k) with _ | _
      · rw [hf, hg] at h1
        rw [posTo_yes h1, posTo_yes hf, posTo_no hg, List.length_append, List.length_append, ih]; simp; omega
      · rw [hf, hg] at h2; cases h2
theorem hasL_val {l : List Lb} {s v : ByteArray} (h : vL l = true) (hv : emB v = false) : hasL l (s, v) = decide (valB l s = v) := by
  rcases hq : hasL l (s, v) with _ | _
  · refine (decide_eq_false fun e => ?_).symm
    have hn : hasNm l s = true := by
      have := val_em h s
      rw [e, hv] at this
      rcases hz : hasNm l s with _ | _
      · rw [hz] at this; cases this
      · rfl
    unfold hasNm at hn
    rw [List.any_eq_true] at hn
    obtain ⟨x, hx, he⟩ := hn
    obtain ⟨i, hi, rfl⟩ := mem_at0 hx
    rw [eqB_iff] at he
    subst he
    rw [valB_own h hi] at e
    have : hasL l ((at0 l i).1, v) = true := by rw [← e]; exact hasL_iff.2 (at0_mem hi)
    rw [hq] at this; cases this
  · refine (decide_eq_true ?_).symm
    obtain ⟨i, hi, he⟩ := mem_at0 (hasL_iff.1 hq)
    have h1 := valB_own h hi
    rw [he] at h1; exact h1
def inV (out : List ByteArray) (i : Nat) (s : ByteArray) (l : List Lb) : Bool := (out.take i).any fun v => decide (valB l s = v)
def cntV (C : Ct) (s : ByteArray) (i : Nat) : Nat := (posTo (inV (vfV C s) i s) C C.length).length
def hasV (s : ByteArray) (l : List Lb) : Bool := !emB (valB l s)
theorem cntV_zero (C : Ct) (s : ByteArray) : cntV C s 0 = 0 := by
  have : ∀ k, posTo (inV (vfV C s) 0 s) C k = [] := by
    intro k
    induction k with
    | zero => rfl
    | succ k ih => rw [posTo_no rfl, ih]
  unfold cntV; rw [this]; rfl
theorem vfV_em {C : Ct} {s x : ByteArray} (h : x ∈ vfV C s) : emB x = false ∧ ∃ j, j < C.length ∧ valB (at0 C j) s = x := by
  rcases hv : vC C with _ | _
  · rw [vfV_no hv] at h; cases h
  · rw [vfV_ok hv, vfS_mem] at h
    obtain ⟨j, hj, e, he⟩ := vlsTo_mem.1 h
    exact ⟨he, j, hj, e.symm⟩
theorem vC_row {C : Ct} (hv : vC C = true) {j : Nat} (hj : j < C.length) : vL (at0 C j) = true := ((VC_of hv).2 j hj).1
theorem cntV_succ {C : Ct} {s : ByteArray} {i : Nat} (hv : vC C = true) (hi : i < (vfV C s).length) : cntV C s (i + 1) = cntV C s i + (psV C (s, at0 (vfV C s) i)).length := by
  unfold cntV
  rw [psV_ok hv]
  have hem := (vfV_em (at0_mem hi)).1
  have hnd : (vfV C s).Nodup := SA_nodup (by rw [vfV_ok hv]; exact vfS_SA _)
  refine posTo_or fun j hj => ⟨?_, ?_⟩
  · rw [hasL_val (vC_row hv hj) hem]
    unfold inV
    rw [take_succ_at _ hi, List.any_append]; simp
  · rw [hasL_val (vC_row hv hj) hem]
    rcases hq : decide (valB (at0 C j) s = at0 (vfV C s) i) with _ | _
    · rw [Bool.and_false]
    · rw [Bool.and_true]
      have e := of_decide_eq_true hq
      unfold inV
      rw [List.any_eq_false]
      intro v hv' hd
      have e2 := of_decide_eq_true hd
      rw [e] at e2
      obtain ⟨k, hk, rfl⟩ := List.mem_take_iff_getElem.1 hv'
      rw [at0_get hi] at e2
      have := (List.pairwise_iff_getElem.1 hnd) k i (by omega) hi (by omega)
      exact this e2.symm
theorem cntV_all {C : Ct} {s : ByteArray} {i : Nat} (hv : vC C = true) (hi : (vfV C s).length ≤ i) : cntV C s i = (posTo (hasV s) C C.length).length := by
  unfold cntV
  rw [posTo_ext (f' := hasV s)]
  intro j hj
  unfold inV hasV
  rw [List.take_of_length_le hi]
  rcases he : emB (valB (at0 C j) s) with _ | _
  · rw [Bool.not_false, List.any_eq_true]
    refine ⟨valB (at0 C j) s, ?_, decide_eq_true rfl⟩
    rw [vfV_ok hv, vfS_mem]
    exact vlsTo_mem.2 ⟨j, hj, rfl, he⟩
  · rw [Bool.not_true, List.any_eq_false]
    intro v hv' hd
    have e := of_decide_eq_true hd
    have := (vfV_em hv').1
    rw [← e, he] at this; cases this
theorem psV_pos {C : Ct} {s : ByteArray} {i : Nat} (hv : vC C = true) (hi : i < (vfV C s).length) : 0 < (psV C (s, at0 (vfV C s) i)).length := by
  obtain ⟨hem, j, hj, e⟩ := vfV_em (at0_mem hi)
  rw [psV_ok hv]
  have : (j : Int) ∈ posTo (fun l => hasL l (s, at0 (vfV C s) i)) C C.length := posTo_mem.2 ⟨j, hj, rfl, by rw [hasL_val (vC_row hv hj) hem]; exact decide_eq_true e⟩
  exact List.length_pos_of_mem this
theorem vfV_asc {C : Ct} {s : ByteArray} {i j : Nat} (hij : i < j) (hj : j < (vfV C s).length) : ltB (at0 (vfV C s) i) (at0 (vfV C s) j) = true := by
  rcases hv : vC C with _ | _
  · rw [vfV_no hv] at hj; exact absurd hj (by simp)
  · refine SA_at ?_ hij hj
    rw [vfV_ok hv]; exact vfS_SA _
end Go.Proofs.Ytmnfcfhnmndakaa
