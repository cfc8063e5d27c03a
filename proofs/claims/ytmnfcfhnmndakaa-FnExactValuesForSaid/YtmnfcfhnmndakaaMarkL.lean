/-
  Walks: markLabelS, heldLabelS, markStringS, heldStringS of the laws.
-/
import Derived.Test.YtmnfcfhnmndakaaMarkT
import Derived.Test.YtmnfcfhnmndakaaLabGen3
namespace Go.Proofs.Ytmnfcfhnmndakaa
open Go.RowKit
def mkdT (k : Int) (j : Nat) : Value := .string (mtS (k + j))
def mkT (k : Int) (f : Nat → Value) (i j : Nat) : Value := if j < i then mkdT k j else f j
theorem mkT_zero (k : Int) (f : Nat → Value) : mkT k f 0 = f := by funext j; simp [mkT]
theorem mkT_next (k : Int) (f : Nat → Value) (i j : Nat) (h : j ≠ i) : mkT k f (i + 1) j = mkT k f i j := by
  unfold mkT
  by_cases h1 : j < i
  · rw [if_pos h1, if_pos (by omega)]
  · rw [if_neg h1, if_neg (by omega)]
theorem mkT_at (k : Int) (f : Nat → Value) (i : Nat) : mkT k f (i + 1) i = .string (mtS (k + i)) := if_pos (by omega)
theorem mkT_all (k : Int) (f : Nat → Value) (n j : Nat) (h : j < n) : mkT k f n j = mkdT k j := if_pos h
def MarkPostT (w : World) (g : Nat) (T : TypeId) (M s n : Nat) (k : Int) (e : Ending) (w' : World) : Prop :=
  e = .returned (.int .i64 (k + s * n)) ∧ Filled w' g T M (n * s) (mkdT k) ∧ Only g w w'
theorem Filled.below {w w' : World} {g : Nat} {t : TypeId} {M m : Nat} {f : Nat → Value} (h : Filled w g t M m f) (hb : Below w.heap.size w w') : Filled w' g t M m f := h.kept hb
set_option maxHeartbeats 2000000 in
theorem markLabelS_any (g n c : Nat) (T : TypeId) (M : Nat) (f : Nat → Value) (k : Int) (w : World) (hn : n ≤ 1048576) (k0 : 0 ≤ k) (k1 : k ≤ 100000000000000) (hf : Filled w g T M (n * 2) f) :
    Calls Try.prog 37 #[.slice (some ⟨g, 0, none⟩) n c, .int .i64 k] w (MarkPostT w g T M 2 n k) := by
  go_enter Try.func37, Try.ntmps37
  go_wp2
  go_loopw [1, 5] (fun q i wr => ∃ j : Nat, j ≤ n ∧ i = .int .i64 j ∧ q = .int .i64 (k + 2 * (j : Int)) ∧ Filled wr g T M (n * 2) (mkT k f (j * 2)) ∧ Only g w wr) (fun _ i _ => n - (intOf i).toNat)
  case atStart => exact ⟨0, by omega, rfl, by simp, by rw [Nat.zero_mul, mkT_zero]; exact hf, Only.refl _ _⟩
  case round =>
    obtain ⟨j, hj, rfl, rfl, hF, hO⟩ := hrel
    clear hf
    by_cases hlt : j < n
    · have hw1 : IntKind.i64.wrap (k + 2 * (j : Int) + 1) = k + 2 * (j : Int) + 1 := IntWalk.i64_in _ (by omega)
      have hw2 : IntKind.i64.wrap (k + 2 * (j : Int) + 1 + 1) = k + 2 * (j : Int) + 1 + 1 := IntWalk.i64_in _ (by omega)
      go_wp2_with fail
      refine (markText_any _ _ (by omega) (by omega)).mono ?_
      rintro e w1 ⟨rfl, hb1⟩
      have hF1 := hF.kept hb1
      have hO1 := hO.trans (Only.of_below hb1)
      obtain ⟨v0, hv0⟩ := hF1.some_ (j := j * 2) (by obtain ⟨_, _, _, h, _⟩ := hF1; omega)
      have hf0 := hF1.frozen (j * 2)
      have e0 : mkT k f (j * 2 + 1) (j * 2) = .string (mtS (k + 2 * (j : Int))) := by rw [mkT_at]; congr 2; omega
      have HF2 := Lib.hid (hF1.set_ (j := j * 2) (by omega) e0 (fun i hi => mkT_next k f (j * 2) i hi))
      have HO2 := Lib.hid (hO1.trans (Only.set_ _ (j * 2) (.string (mtS (k + 2 * (j : Int))))))
      clear hF hF1 hO hO1 hb1 e0
      go_wp2_with fail
      have hF2 := HF2.out
      have hO2 := HO2.out
      clear HF2 HO2 hv0 hf0
      generalize w1.setCell ⟨g, j * 2, none⟩ (Value.string (mtS (k + 2 * (j : Int)))) = W2 at *
      refine (markText_any _ _ (by omega) (by omega)).mono ?_
      rintro e w3 ⟨rfl, hb3⟩
      have hF3 := hF2.kept hb3
      have hO3 := hO2.trans (Only.of_below hb3)
      obtain ⟨v1, hv1⟩ := hF3.some_ (j := j * 2 + 1) (by obtain ⟨_, _, _, h, _⟩ := hF3; omega)
      have hf1 := hF3.frozen (j * 2 + 1)
      have e1 : mkT k f (j * 2 + 1 + 1) (j * 2 + 1) = .string (mtS (k + 2 * (j : Int) + 1)) := by rw [mkT_at]; congr 2; omega
      have HF4 := Lib.hid (hF3.set_ (j := j * 2 + 1) (by omega) e1 (fun i hi => mkT_next k f (j * 2 + 1) i hi))
      have HO4 := Lib.hid (hO3.trans (Only.set_ _ (j * 2 + 1) (.string (mtS (k + 2 * (j : Int) + 1)))))
      clear hF2 hF3 hO2 hO3 hb3 e1
      go_wp2
      go_roundw
      case rel => exact ⟨j + 1, by omega, by go_num, by rw [show k + 2 * (((j + 1 : Nat)) : Int) = k + 2 * (j : Int) + 1 + 1 by omega], by rw [show (j + 1) * 2 = j * 2 + 1 + 1 by omega]; exact HF4.out, HO4.out⟩
      case measure => simp [intOf]; omega
    · have e : j = n := by omega
      subst e
      go_wp2
      go_ret
      exact ⟨rfl, hF.congr (fun i hi => mkT_all k f (j * 2) i hi), hO⟩
set_option maxHeartbeats 2000000 in
theorem markStringS_any (g n c : Nat) (T : TypeId) (M : Nat) (f : Nat → Value) (k : Int) (w : World) (hn : n ≤ 1048576) (k0 : 0 ≤ k) (k1 : k ≤ 100000000000000) (hf : Filled w g T M (n * 1) f) :
    Calls Try.prog 26 #[.slice (some ⟨g, 0, none⟩) n c, .int .i64 k] w (MarkPostT w g T M 1 n k) := by
  rw [Nat.mul_one] at hf
  go_enter Try.func26, Try.ntmps26
  go_wp2
  go_loopw [1, 5] (fun q i wr => ∃ j : Nat, j ≤ n ∧ i = .int .i64 j ∧ q = .int .i64 (k + (j : Int)) ∧ Filled wr g T M n (mkT k f j) ∧ Only g w wr) (fun _ i _ => n - (intOf i).toNat)
  case atStart => exact ⟨0, by omega, rfl, by simp, by rw [mkT_zero]; exact hf, Only.refl _ _⟩
  case round =>
    obtain ⟨j, hj, rfl, rfl, hF, hO⟩ := hrel
    clear hf
    by_cases hlt : j < n
    · have hw1 : IntKind.i64.wrap (k + (j : Int) + 1) = k + (j : Int) + 1 := IntWalk.i64_in _ (by omega)
      go_wp2_with fail
      refine (markText_any _ _ (by omega) (by omega)).mono ?_
      rintro e w1 ⟨rfl, hb1⟩
      have hF1 := hF.kept hb1
      have hO1 := hO.trans (Only.of_below hb1)
      obtain ⟨v0, hv0⟩ := hF1.some_ (j := j) (by obtain ⟨_, _, _, h, _⟩ := hF1; omega)
      have hf0 := hF1.frozen j
      have HF2 := Lib.hid (hF1.set_ (j := j) (by omega) (mkT_at k f j) (fun i hi => mkT_next k f j i hi))
      have HO2 := Lib.hid (hO1.trans (Only.set_ _ j (.string (mtS (k + (j : Int))))))
      clear hF hF1 hO hO1 hb1
      go_wp2
      go_roundw
      case rel => exact ⟨j + 1, by omega, by go_num, by rw [show k + (((j + 1 : Nat)) : Int) = k + (j : Int) + 1 by omega], HF2.out, HO2.out⟩
      case measure => simp [intOf]; omega
    · have e : j = n := by omega
      subst e
      go_wp2
      go_ret
      refine ⟨ret_int (by omega), ?_, hO⟩
      rw [Nat.mul_one]
      exact hF.congr (fun i hi => mkT_all k f j i hi)
set_option maxHeartbeats 2000000 in
theorem heldLabelS_any (A : Option Addr) (n c : Nat) (k : Int) (w : World) (hn : n ≤ 1048576) (k0 : 0 ≤ k) (k1 : k ≤ 100000000000000) (hr : Rd w w.heap.size A (n * 2) (mkdT k)) :
    Calls Try.prog 75 #[.slice A n c, .int .i64 k] w fun e w' => e = .returned (.int .i64 (k + 2 * n)) ∧ Below w.heap.size w w' := by
  go_enter Try.func75, Try.ntmps75
  go_wp2
  go_loopw [1, 5] (fun q i wr => ∃ j : Nat, j ≤ n ∧ i = .int .i64 j ∧ q = .int .i64 (k + 2 * (j : Int)) ∧ Below w.heap.size w wr) (fun _ i _ => n - (intOf i).toNat)
  case atStart => exact ⟨0, by omega, rfl, by simp, Below.refl _ _⟩
  case round =>
    obtain ⟨j, hj, rfl, rfl, hb⟩ := hrel
    by_cases hlt : j < n
    · have hji : (j : Int) < (n : Int) := by omega
      obtain ⟨b, off, rfl, hbb, hc⟩ := hr (by omega)
      have hc0 := hc (j * 2) (by omega)
      have hc1 := hc (j * 2 + 1) (by omega)
      unfold mkdT at hc0 hc1
      rw [show k + ((j * 2 : Nat) : Int) = k + 2 * (j : Int) by omega, ← hb.cell (by exact hbb)] at hc0
      rw [show k + ((j * 2 + 1 : Nat) : Int) = k + 2 * (j : Int) + 1 by omega, ← Nat.add_assoc, ← hb.cell (by exact hbb)] at hc1
      have hw1 : IntKind.i64.wrap (k + 2 * (j : Int) + 1) = k + 2 * (j : Int) + 1 := IntWalk.i64_in _ (by omega)
      have hw2 : IntKind.i64.wrap (k + 2 * (j : Int) + 1 + 1) = k + 2 * (j : Int) + 1 + 1 := IntWalk.i64_in _ (by omega)
      have hbw : b < wr.heap.size := Nat.lt_of_lt_of_le hbb hb.size
      have q0 := kin_cell hc0 hbw
      have e1 := eqB_walk (eqB_refl (mtS (k + 2 * (j : Int))))
      have e2 := eqB_walk (eqB_refl (mtS (k + 2 * (j : Int) + 1)))
      have HC := Lib.hid (And.intro hc1 hbw)
      have y0 : 0 ≤ k + 2 * (j : Int) := by omega
      have y1 : k + 2 * (j : Int) ≤ 1000000000000000 := by omega
      have y2 : 0 ≤ k + 2 * (j : Int) + 1 := by omega
      have y3 : k + 2 * (j : Int) + 1 ≤ 1000000000000000 := by omega
      clear hc hr hc0 hc1
      go_wp2_with fail
      refine wp_region_kin (by kernel_rfl) (by kernel_rfl) ?_
      repeat (go_big_quiet_step ((go_at_call 64; exact kin_call (markText_any _ _ y0 y1))))
      refine wpQuiet_nil ?_
      intro _ hw'
      obtain ⟨⟨wq, hq⟩, hw''⟩ := hw'
      subst hw''
      have hb2 := kept_trans hb hq
      have hcw := (hq.cell (p := ⟨b, off + j * 2 + 1, none⟩) HC.out.2).trans HC.out.1
      have q1 := kin_cell hcw (Nat.lt_of_lt_of_le HC.out.2 hq.size)
      clear q0 hb hq hcw
      go_wp2_with fail
      refine wp_region_kin (by kernel_rfl) (by kernel_rfl) ?_
      repeat (go_big_quiet_step ((go_at_call 64; exact kin_call (markText_any _ _ y2 y3))))
      refine wpQuiet_nil ?_
      intro _ hw'
      obtain ⟨⟨wq, hq⟩, hw''⟩ := hw'
      subst hw''
      have hb3 := kept_trans hb2 hq
      clear q1 hb2 hq
      go_wp2
      go_roundw
      case rel => exact ⟨j + 1, by omega, by go_num, by rw [show k + 2 * (((j + 1 : Nat)) : Int) = k + 2 * (j : Int) + 1 + 1 by omega], hb3⟩
      case measure => simp [intOf]; omega
    · have e : j = n := by omega
      subst e
      clear hr
      go_wp2
      go_ret
      exact ⟨rfl, hb⟩
end Go.Proofs.Ytmnfcfhnmndakaa
