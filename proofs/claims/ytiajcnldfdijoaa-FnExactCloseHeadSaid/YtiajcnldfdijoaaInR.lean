/-
  The walk of spec.inRange.
-/
import Derived.Test.YtiajcnldfdijoaaBase2
namespace Go.Proofs.Ytiajcnldfdijoaa
open Go.RowKit
def inR (n lo hi : Int) : Bool := decide (lo ≤ n) && decide (n ≤ hi)
theorem inR_t {n lo hi : Int} (h : inR n lo hi = true) : lo ≤ n ∧ n ≤ hi := by simpa [inR] using h
theorem inR_f {n lo hi : Int} (h : inR n lo hi = false) : n < lo ∨ hi < n := by simp [inR] at h; omega
theorem inR_y {n lo hi : Int} (h : lo ≤ n ∧ n ≤ hi) : inR n lo hi = true := by simp [inR]; omega
theorem inR_n {n lo hi : Int} (h : n < lo ∨ hi < n) : inR n lo hi = false := by simp [inR]; omega
set_option maxHeartbeats 400000 in
theorem inRange_any (n lo hi : Int) (w : World) : Calls Try.prog 37 #[.int .i64 n, .int .i64 lo, .int .i64 hi] w fun e w' => e = .returned (.bool (inR n lo hi)) ∧ w = w' := by
  go_enter Try.func37, Try.ntmps37
  go_wp2
  all_goals go_ret
  · exact ⟨ret_bool (by simp [inR]; omega), rfl⟩
  · exact ⟨ret_bool (by simp [inR]; omega), rfl⟩
theorem inRange_q (n lo hi : Int) (w : World) : Calls Try.prog 37 #[.int .i64 n, .int .i64 lo, .int .i64 hi] w fun e w' => e = .returned (.bool (inR n lo hi)) ∧ w' = w :=
  (inRange_any n lo hi w).mono fun _ _ ⟨he, hw⟩ => ⟨he, hw.symm⟩
theorem inRS {a lo hi : Int} (h1 : lo ≤ a) (h2 : a ≤ hi) : inR a lo hi = true := by unfold inR; simp [h1, h2]
theorem inRS' {a lo hi : Int} (h : inR a lo hi = true) : lo ≤ a ∧ a ≤ hi := by unfold inR at h; simpa using h
end Go.Proofs.Ytiajcnldfdijoaa
