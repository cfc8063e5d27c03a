/-
  Walks: marks on texts of the call's own; heldStringS.
-/
import Derived.Test.YtmnfcfhnmndakaaMarkL
import Derived.Test.YtmnfcfhnmndakaaStrCopy
namespace Go.Proofs.Ytmnfcfhnmndakaa
open Go.RowKit
theorem markStringS_nil (A : Option Addr) (c : Nat) (k : Int) (w : World) : Calls Try.prog 26 #[.slice A 0 c, .int .i64 k] w fun e w' => e = .returned (.int .i64 k) ∧ w = w' := by
  go_enter Try.func26, Try.ntmps26
  go_wp2
  go_loopw [1, 5] (fun q i wr => i = .int .i64 0 ∧ q = .int .i64 k ∧ w = wr) (fun _ _ _ => 0)
  case atStart => exact ⟨rfl, rfl, rfl⟩
  case round =>
    obtain ⟨rfl, rfl, rfl⟩ := hrel
    go_wp2
    go_ret
    exact ⟨rfl, rfl⟩
theorem markOwnS_any (base : Nat) (T : TypeId) (A : Option Addr) (n c : Nat) (xs : List Value) (k : Int) (w : World) (hn : n ≤ 1048576) (k0 : 0 ≤ k) (k1 : k ≤ 100000000000000) (h : w.ownsRow base T 1 (.slice A n c) n xs) :
    Calls Try.prog 26 #[.slice A n c, .int .i64 k] w (MarkOwnT w base T 1 A n c k) := by
  rcases own_filled h with ⟨rfl, rfl, rfl⟩ | ⟨g, f, rfl, hb, hnc, hm, hF⟩
  · refine (markStringS_nil none 0 k w).mono ?_
    rintro e w' ⟨rfl, rfl⟩
    exact ⟨by simp, World.ownsRow_nil _ _ _ _, World.grownBy.refl w _⟩
  · refine (markStringS_any g n c T (c * 1) f k w hn k0 k1 hF).mono ?_
    rintro e w' ⟨rfl, hF', ho⟩
    exact ⟨rfl, hF'.ownT hb hnc hm, ho⟩
set_option maxHeartbeats 2000000 in
theorem heldStringS_any (A : Option Addr) (n c : Nat) (k : Int) (w : World) (hn : n ≤ 1048576) (k0 : 0 ≤ k) (k1 : k ≤ 100000000000000) (hr : Rd w w.heap.size A (n * 1) (mkdT k)) :
    Calls Try.prog 27 #[.slice A n c, .int .i64 k] w fun e w' => e = .returned (.int .i64 (k + ((1 : Nat) : Int) * n)) ∧ Below w.heap.size w w' := by
  rw [Nat.mul_one] at hr
  go_enter Try.func27, Try.ntmps27
  go_wp2
  go_loopw [1, 5] (fun q i wr => ∃ j : Nat, j ≤ n ∧ i = .int .i64 j ∧ q = .int .i64 (k + (j : Int)) ∧ Below w.heap.size w wr) (fun _ i _ => n - (intOf i).toNat)
  case atStart => exact ⟨0, by omega, rfl, by simp, Below.refl _ _⟩
  case round =>
    obtain ⟨j, hj, rfl, rfl, hb⟩ := hrel
    by_cases hlt : j < n
    · have hji : (j : Int) < (n : Int) := by omega
      obtain ⟨b, off, rfl, hbb, hc⟩ := hr (by omega)
      have hc0 := hc j (by omega)
      unfold mkdT at hc0
      rw [← hb.cell (by exact hbb)] at hc0
      have hw1 : IntKind.i64.wrap (k + (j : Int) + 1) = k + (j : Int) + 1 := IntWalk.i64_in _ (by omega)
      have hbw : b < wr.heap.size := Nat.lt_of_lt_of_le hbb hb.size
      have q0 := kin_cell hc0 hbw
      have e1 := eqB_walk (eqB_refl (mtS (k + (j : Int))))
      have y0 : 0 ≤ k + (j : Int) := by omega
      have y1 : k + (j : Int) ≤ 1000000000000000 := by omega
      clear hc hr hc0
      go_wp2_with fail
      refine wp_region_kin (by kernel_rfl) (by kernel_rfl) ?_
      repeat (go_big_quiet_step ((go_at_call 64; exact kin_call (markText_any _ _ y0 y1))))
      refine wpQuiet_nil ?_
      intro _ hw'
      obtain ⟨⟨wq, hq⟩, hw''⟩ := hw'
      subst hw''
      have hb2 := kept_trans hb hq
      clear q0 hb hq
      go_wp2
      go_roundw
      case rel => exact ⟨j + 1, by omega, by go_num, by rw [show k + (((j + 1 : Nat)) : Int) = k + (j : Int) + 1 by omega], hb2⟩
      case measure => simp [intOf]; omega
    · have e : j = n := by omega
      subst e
      clear hr
      go_wp2
      go_ret
      exact ⟨ret_int (by omega), hb⟩
end Go.Proofs.Ytmnfcfhnmndakaa
