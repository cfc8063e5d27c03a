/-
  Plain laws for the walks of FnKeepLabels, FnKeepLabelsAll.
-/
import Derived.Test.YtjmdcdeccchlcaaKeepFn2
namespace Go.Proofs.Ytjmdcdeccchlcaa
open Go.RowKit
theorem keep_split {l : List Lb} {names : List ByteArray} {k : Nat} (hk : k < l.length) (h : hasN names (at0 l k).1 = true) :
    (keepL (l.take k) names).length < (keepL l names).length ∧ at0 (keepL l names) (keepL (l.take k) names).length = at0 l k := by
  have e : keepL l names = keepL (l.take (k + 1)) names ++ keepL (l.drop (k + 1)) names := by
    unfold keepL; rw [← List.filter_append, List.take_append_drop]
  rw [keepL_yes hk h] at e
  have e2 : at0 l k = ((at0 l k).1, (at0 l k).2) := rfl
  constructor
  · rw [e]; simp
  · rw [e, List.append_assoc, at0_append_r _ _ (Nat.le_refl _), Nat.sub_self]
    rfl
theorem keepV_every' {l : List Lb} {names all : List ByteArray} (h : vL l = true) (ha : all = names ++ (l.take l.length).map (·.1)) : keepV l all = l := by
  rw [ha, List.take_length]; exact keepV_every h
theorem names_succ {l : List Lb} {k : Nat} (hk : k < l.length) : (l.take (k + 1)).map (·.1) = (l.take k).map (·.1) ++ [(at0 l k).1] := by rw [take_succ_at l hk, List.map_append]; rfl
end Go.Proofs.Ytjmdcdeccchlcaa
