/-
  The walk of equalInts.
-/
import Derived.Test.YtmnfcfhnmndakaaBase2
namespace Go.Proofs.Ytmnfcfhnmndakaa
open Go.RowKit
def same1To (l l' : List Int) (k : Nat) : Prop := ∀ j, j < k → xi l j = xi l' j
def eqI (l l' : List Int) : Bool := decide (l = l')
theorem same1To_zero (l l' : List Int) : same1To l l' 0 := fun j hj => absurd hj (by omega)
theorem same1To_succ {l l' : List Int} {k : Nat} (h : same1To l l' k) (hk : xi l k = xi l' k) : same1To l l' (k + 1) := fun j hj => by
  rcases Nat.lt_or_ge j k with h1 | h1
  · exact h j h1
  · have : j = k := by omega
    subst this; exact hk
theorem eqI_len {l l' : List Int} (h : l.length ≠ l'.length) : eqI l l' = false := decide_eq_false fun e => h (by rw [e])
theorem eqI_bad {l l' : List Int} {k : Nat} (h : ¬ xi l k = xi l' k) : eqI l l' = false := decide_eq_false fun e => h (by rw [e])
theorem eqI_of {l l' : List Int} {k : Nat} (h : same1To l l' k) (hk : l.length = k) (hl : l.length = l'.length) : eqI l l' = true := decide_eq_true (List.ext_getElem hl fun i h1 h2 => by
  have := h i (by omega)
  simpa only [xi, List.getD_eq_getElem?_getD, List.getElem?_eq_getElem h1, List.getElem?_eq_getElem h2, Option.getD_some] using this)
theorem eqI_refl (l : List Int) : eqI l l = true := decide_eq_true rfl
set_option maxHeartbeats 1000000 in
theorem equalInts_any (A : Option Addr) (n c : Nat) (l : List Int) (A' : Option Addr) (n' c' : Nat) (l' : List Int) (w : World) (hn : l.length = n) (hn' : l'.length = n') (hm : n ≤ 1000000000000)
    (hr : Rd1 w w.heap.size A l) (hr' : Rd1 w w.heap.size A' l') :
    Calls Try.prog 45 #[.slice A n c, .slice A' n' c'] w fun e w' => e = .returned (.bool (eqI l l')) ∧ Below w.heap.size w w' := by
  have HN := Lib.hid hn
  have HN' := Lib.hid hn'
  clear hn hn'
  by_cases hl : n = n'
  · have hz : ((n : Int) != (n' : Int)) = false := by simp [hl]
    have HL := Lib.hid hl
    clear hl
    go_enter Try.func45, Try.ntmps45
    go_wp2
    go_loopw [5] (fun i wr => ∃ k : Nat, k ≤ n ∧ i = .int .i64 k ∧ same1To l l' k ∧ Below w.heap.size w wr) (fun i _ => n - (intOf i).toNat)
    case atStart => exact ⟨0, by omega, rfl, same1To_zero _ _, Below.refl _ _⟩
    case round =>
      obtain ⟨k, hk, rfl, hs, hb⟩ := hrel
      by_cases hlt : k < n
      · have hki : (k : Int) < (n : Int) := by omega
        have hki' : (k : Int) < (n' : Int) := by rw [← HL.out]; omega
        obtain ⟨b, off, rfl, hbb, hc⟩ := hr.at_ (by rw [HN.out]; omega)
        obtain ⟨b', off', rfl, hbb', hc'⟩ := hr'.at_ (by rw [HN'.out, ← HL.out]; omega)
        have hc0 := hc k (by rw [HN.out]; exact hlt)
        have hd0 := hc' k (by rw [HN'.out, ← HL.out]; exact hlt)
        rw [← hb.cell (by exact hbb)] at hc0
        rw [← hb.cell (by exact hbb')] at hd0
        clear hc hc' hr hr'
        by_cases he : xi l k = xi l' k
        · have hv : (xi l k != xi l' k) = false := by simp [he]
          have HE := Lib.hid he
          clear he
          go_wp2_with fail
          go_quiet (fail)
          go_wp2
          go_roundw
          case rel => exact ⟨k + 1, by omega, by go_num, same1To_succ hs HE.out, kept_drewN hb _⟩
          case measure => simp [intOf]; omega
        · have hv : (xi l k != xi l' k) = true := by simp [he]
          have HE := Lib.hid he
          clear he
          go_wp2_with fail
          go_quiet (fail)
          go_wp2
          go_ret
          exact ⟨ret_bool (eqI_bad HE.out).symm, kept_drewN hb _⟩
      · clear hr hr'
        go_wp2
        go_ret
        exact ⟨ret_bool (eqI_of hs (by rw [HN.out]; omega) (by rw [HN.out, HN'.out]; exact HL.out)).symm, hb⟩
  · have hz : ((n : Int) != (n' : Int)) = true := by simp; omega
    clear hl
    go_enter Try.func45, Try.ntmps45
    go_wp2
    go_ret
    exact ⟨ret_bool (eqI_len (by rw [HN.out, HN'.out]; simp at hz; omega)).symm, Below.refl _ _⟩
end Go.Proofs.Ytmnfcfhnmndakaa
