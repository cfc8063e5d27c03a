/-
  Walks: markPointS, heldPointS of the laws.
-/
import Derived.Test.YtiajcnldfdijoaaReader
import Derived.Test.YtiajcnldfdijoaaPointCopy
namespace Go.Proofs.Ytiajcnldfdijoaa
open Go.RowKit
/-- The cells of a row of which the first i are marked from k on. -/
def mk (k : Int) (f : Nat → Value) (i j : Nat) : Value := if j < i then .int .i64 (k + j) else f j
def mkd (k : Int) (j : Nat) : Value := .int .i64 (k + j)
theorem mk_zero (k : Int) (f : Nat → Value) : mk k f 0 = f := by funext j; simp [mk]
theorem mk_next (k : Int) (f : Nat → Value) (i j : Nat) (h : j ≠ i) : mk k f (i + 1) j = mk k f i j := by
  unfold mk
  by_cases h1 : j < i
  · rw [if_pos h1, if_pos (by omega)]
  · rw [if_neg h1, if_neg (by omega)]
theorem mk_at (k : Int) (f : Nat → Value) (i : Nat) : mk k f (i + 1) i = .int .i64 (k + i) := if_pos (by omega)
theorem mk_all (k : Int) (f : Nat → Value) (n j : Nat) (h : j < n) : mk k f n j = mkd k j := if_pos h
def MarkPost (w : World) (g : Nat) (T : TypeId) (M n : Nat) (k : Int) (e : Ending) (w' : World) : Prop :=
  e = .returned (.int .i64 (k + 2 * n)) ∧ Filled w' g T M (n * 2) (mkd k) ∧ Only g w w'
set_option maxHeartbeats 1000000 in
theorem markPointS_any (g n c : Nat) (T : TypeId) (M : Nat) (f : Nat → Value) (k : Int) (w : World) (hn : n ≤ 1048576) (k0 : 0 ≤ k) (k1 : k ≤ 10000000) (hf : Filled w g T M (n * 2) f) :
    Calls Try.prog 24 #[.slice (some ⟨g, 0, none⟩) n c, .int .i64 k] w (MarkPost w g T M n k) := by
  go_enter Try.func24, Try.ntmps24
  go_wp2
  go_loopw [1, 5] (fun q i wr => ∃ j : Nat, j ≤ n ∧ i = .int .i64 j ∧ q = .int .i64 (k + 2 * (j : Int)) ∧ Filled wr g T M (n * 2) (mk k f (j * 2)) ∧ Only g w wr) (fun _ i _ => n - (intOf i).toNat)
  case atStart => exact ⟨0, by omega, rfl, by simp, by rw [Nat.zero_mul, mk_zero]; exact hf, Only.refl _ _⟩
  case round =>
    obtain ⟨j, hj, rfl, rfl, hF, hO⟩ := hrel
    clear hf
    by_cases hlt : j < n
    · obtain ⟨v0, hv0⟩ := hF.some_ (j := j * 2) (by obtain ⟨_, _, _, h, _⟩ := hF; omega)
      obtain ⟨v1, hv1⟩ := hF.some_ (j := j * 2 + 1) (by obtain ⟨_, _, _, h, _⟩ := hF; omega)
      have hf0 := hF.frozen (j * 2)
      have hf1 := hF.frozen (j * 2 + 1)
      have hF1 := hF.set_ (j := j * 2) (by omega) (mk_at k f (j * 2)) (fun i hi => mk_next k f (j * 2) i hi)
      have hF2 := hF1.set_ (j := j * 2 + 1) (by omega) (mk_at k f (j * 2 + 1)) (fun i hi => mk_next k f (j * 2 + 1) i hi)
      have hO2 := (hO.trans (Only.set_ _ (j * 2) (.int .i64 (k + ((j * 2 : Nat) : Int))))).trans (Only.set_ _ (j * 2 + 1) (.int .i64 (k + ((j * 2 + 1 : Nat) : Int))))
      have e0 : (k + ((j * 2 : Nat) : Int)) = k + 2 * (j : Int) := by omega
      have e1 : (k + ((j * 2 + 1 : Nat) : Int)) = k + 2 * (j : Int) + 1 := by omega
      rw [e0, e1] at hF2 hO2
      rw [show j * 2 + 1 + 1 = (j + 1) * 2 by omega] at hF2
      have hw1 : IntKind.i64.wrap (k + 2 * (j : Int) + 1) = k + 2 * (j : Int) + 1 := IntWalk.i64_in _ (by omega)
      have hw2 : IntKind.i64.wrap (k + 2 * (j : Int) + 1 + 1) = k + 2 * (j : Int) + 1 + 1 := IntWalk.i64_in _ (by omega)
      have HF2 := Lib.hid hF2
      have HO2 := Lib.hid hO2
      clear hF hF1 hF2 hO hO2 e0 e1
      go_wp2
      go_roundw
      case rel => exact ⟨j + 1, by omega, by go_num, by rw [show k + 2 * (((j + 1 : Nat)) : Int) = k + 2 * (j : Int) + 1 + 1 by omega], HF2.out, HO2.out⟩
      case measure => simp [intOf]; omega
    · have e : j = n := by omega
      subst e
      go_wp2
      go_ret
      exact ⟨rfl, hF.congr (fun i hi => mk_all k f (j * 2) i hi), hO⟩
theorem markPointS_nil (A : Option Addr) (c : Nat) (k : Int) (w : World) : Calls Try.prog 24 #[.slice A 0 c, .int .i64 k] w fun e w' => e = .returned (.int .i64 k) ∧ w = w' := by
  go_enter Try.func24, Try.ntmps24
  go_wp2
  go_loopw [1, 5] (fun q i wr => i = .int .i64 0 ∧ q = .int .i64 k ∧ w = wr) (fun _ _ _ => 0)
  case atStart => exact ⟨rfl, rfl, rfl⟩
  case round =>
    obtain ⟨rfl, rfl, rfl⟩ := hrel
    go_wp2
    go_ret
    exact ⟨rfl, rfl⟩
set_option maxHeartbeats 1000000 in
theorem heldPointS_any (A : Option Addr) (n c : Nat) (k : Int) (w : World) (hn : n ≤ 1048576) (k0 : 0 ≤ k) (k1 : k ≤ 10000000) (hr : Rd w w.heap.size A (n * 2) (mkd k)) :
    Calls Try.prog 25 #[.slice A n c, .int .i64 k] w fun e w' => e = .returned (.int .i64 (k + 2 * n)) ∧ w = w' := by
  go_enter Try.func25, Try.ntmps25
  go_wp2
  go_loopw [1, 5] (fun q i wr => ∃ j : Nat, j ≤ n ∧ i = .int .i64 j ∧ q = .int .i64 (k + 2 * (j : Int)) ∧ w = wr) (fun _ i _ => n - (intOf i).toNat)
  case atStart => exact ⟨0, by omega, rfl, by simp, rfl⟩
  case round =>
    obtain ⟨j, hj, rfl, rfl, rfl⟩ := hrel
    by_cases hlt : j < n
    · obtain ⟨b, off, rfl, hbb, hc⟩ := hr (by omega)
      have hc0 := hc (j * 2) (by omega)
      have hc1 := hc (j * 2 + 1) (by omega)
      unfold mkd at hc0 hc1
      rw [show k + ((j * 2 : Nat) : Int) = k + 2 * (j : Int) by omega] at hc0
      rw [show k + ((j * 2 + 1 : Nat) : Int) = k + 2 * (j : Int) + 1 by omega, ← Nat.add_assoc] at hc1
      have hw1 : IntKind.i64.wrap (k + 2 * (j : Int) + 1) = k + 2 * (j : Int) + 1 := IntWalk.i64_in _ (by omega)
      have hw2 : IntKind.i64.wrap (k + 2 * (j : Int) + 1 + 1) = k + 2 * (j : Int) + 1 + 1 := IntWalk.i64_in _ (by omega)
      clear hc hr
      go_wp2
      go_roundw
      case rel => exact ⟨j + 1, by omega, by go_num, by rw [show k + 2 * (((j + 1 : Nat)) : Int) = k + 2 * (j : Int) + 1 + 1 by omega], trivial⟩
      case measure => simp [intOf]; omega
    · have e : j = n := by omega
      subst e
      clear hr
      go_wp2
      go_ret
      exact ⟨rfl, rfl⟩
end Go.Proofs.Ytiajcnldfdijoaa
