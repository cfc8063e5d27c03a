/-
  Walk: equalLabels of the laws.
-/
import Derived.Test.YtmnfcfhnmndakaaLabCopy
namespace Go.Proofs.Ytmnfcfhnmndakaa
open Go.RowKit
def sameL (l l' : List Lb) (k : Nat) : Prop := ∀ j, j < k → at0 l j = at0 l' j
theorem sameL_zero (l l' : List Lb) : sameL l l' 0 := fun j hj => absurd hj (by omega)
theorem sameL_succ {l l' : List Lb} {k : Nat} (h : sameL l l' k) (hk : at0 l k = at0 l' k) : sameL l l' (k + 1) := fun j hj => by
  rcases Nat.lt_or_ge j k with h1 | h1
  · exact h j h1
  · have : j = k := by omega
    subst this; exact hk
def eqLs (l l' : List Lb) : Bool := decide (l = l')
theorem eqLs_refl (l : List Lb) : eqLs l l = true := decide_eq_true rfl
theorem eqLs_len {l l' : List Lb} (h : l.length ≠ l'.length) : eqLs l l' = false := decide_eq_false fun e => h (by rw [e])
theorem eqLs_bad {l l' : List Lb} {k : Nat} (h : ¬ at0 l k = at0 l' k) : eqLs l l' = false := decide_eq_false fun e => h (by rw [e])
theorem eqLs_of {l l' : List Lb} {k : Nat} (h : sameL l l' k) (hk : l.length = k) (hl : l.length = l'.length) : eqLs l l' = true := decide_eq_true (ext_at hl fun i hi => h i (by omega))
theorem eqB_ne {a b : ByteArray} (h : a ≠ b) : (a.toList == b.toList) = false := eqB_no.2 h
set_option maxHeartbeats 2000000 in
theorem equalLabels_any (A : Option Addr) (n c : Nat) (l : List Lb) (A' : Option Addr) (n' c' : Nat) (l' : List Lb) (w : World) (hn : l.length = n) (hn' : l'.length = n') (hm : n ≤ 1000000000000)
    (hr : RdL w w.heap.size A l) (hr' : RdL w w.heap.size A' l') :
    Calls Try.prog 70 #[.slice A n c, .slice A' n' c'] w fun e w' => e = .returned (.bool (eqLs l l')) ∧ Below w.heap.size w w' := by
  have HN := Lib.hid hn
  have HN' := Lib.hid hn'
  clear hn hn'
  by_cases hl : n = n'
  · have hz : ((n : Int) != (n' : Int)) = false := by simp [hl]
    have HL := Lib.hid hl
    clear hl
    go_enter Try.func70, Try.ntmps70
    go_wp2
    go_loopw [5] (fun i wr => ∃ k : Nat, k ≤ n ∧ i = .int .i64 k ∧ sameL l l' k ∧ Below w.heap.size w wr) (fun i _ => n - (intOf i).toNat)
    case atStart => exact ⟨0, by omega, rfl, sameL_zero _ _, Below.refl _ _⟩
    case round =>
      obtain ⟨k, hk, rfl, hs, hb⟩ := hrel
      have HS := Lib.hid hs
      clear hs
      by_cases hlt : k < n
      · have hki : (k : Int) < (n : Int) := by omega
        have hki' : (k : Int) < (n' : Int) := by rw [← HL.out]; omega
        obtain ⟨b, off, rfl, hbb, hc⟩ := hr.at_ (by rw [HN.out]; omega)
        obtain ⟨b', off', rfl, hbb', hc'⟩ := hr'.at_ (by rw [HN'.out, ← HL.out]; omega)
        obtain ⟨hc0, hc1⟩ := hc k (by rw [HN.out]; exact hlt)
        obtain ⟨hd0, hd1⟩ := hc' k (by rw [HN'.out, ← HL.out]; exact hlt)
        rw [← hb.cell (by exact hbb)] at hc0 hc1
        rw [← hb.cell (by exact hbb')] at hd0 hd1
        clear hc hc' hr hr'
        by_cases he : at0 l k = at0 l' k
        · have HE := Lib.hid he
          rw [← he] at hd0 hd1
          have e1 := eqB_walk (eqB_refl (at0 l k).1)
          have e2 := eqB_walk (eqB_refl (at0 l k).2)
          clear he
          go_wp2_with fail
          go_quiet (fail)
          go_wp2
          go_roundw
          case rel => exact ⟨k + 1, by omega, by go_num, sameL_succ HS.out HE.out, kept_drewN hb _⟩
          case measure => simp [intOf]; omega
        · have HE := Lib.hid (eqLs_bad he)
          by_cases h1 : (at0 l k).1 = (at0 l' k).1
          · have h2 : (at0 l k).2 ≠ (at0 l' k).2 := fun h => he (Prod.ext h1 h)
            rw [← h1] at hd0
            have e1 := eqB_walk (eqB_refl (at0 l k).1)
            have e2 := eqB_ne h2
            clear he h1 h2
            go_wp2_with fail
            go_quiet (fail)
            go_wp2
            go_ret
            exact ⟨ret_bool HE.out.symm, kept_drewN hb _⟩
          · have e1 := eqB_ne h1
            clear he h1
            go_wp2_with fail
            go_quiet (fail)
            go_wp2
            go_ret
            exact ⟨ret_bool HE.out.symm, kept_drewN hb _⟩
      · have HX := Lib.hid (eqLs_of HS.out (by rw [HN.out]; omega) (by rw [HN.out, HN'.out]; exact HL.out))
        clear hr hr'
        go_wp2
        go_ret
        exact ⟨ret_bool HX.out.symm, hb⟩
  · have hz : ((n : Int) != (n' : Int)) = true := by simp; omega
    have HX := Lib.hid (eqLs_len (l := l) (l' := l') (by rw [HN.out, HN'.out]; exact hl))
    clear hl
    go_enter Try.func70, Try.ntmps70
    go_wp2
    go_ret
    exact ⟨ret_bool HX.out.symm, Below.refl _ _⟩
end Go.Proofs.Ytmnfcfhnmndakaa
