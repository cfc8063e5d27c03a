/-
  Walks: inRange, validTime, impl.ValidTiers.
-/
import Derived.Test.YtheckdenoomhjaaTierFn
namespace Go.Proofs.Ytheckdenoomhjaa
open Go.RowKit
def inR (n lo hi : Int) : Bool := decide (lo ≤ n) && decide (n ≤ hi)
set_option maxHeartbeats 400000 in
theorem inRange_any (n lo hi : Int) (w : World) : Calls Try.prog 35 #[.int .i64 n, .int .i64 lo, .int .i64 hi] w fun e w' => e = .returned (.bool (inR n lo hi)) ∧ w = w' := by
  go_enter Try.func35, Try.ntmps35
  go_wp2
  all_goals go_ret
  · exact ⟨ret_bool (by simp [inR]; omega), rfl⟩
  · exact ⟨ret_bool (by simp [inR]; omega), rfl⟩
set_option maxHeartbeats 400000 in
theorem validTime_any (n : Int) (w : World) : Calls Try.prog 37 #[.int .i64 n] w fun e w' => e = .returned (.bool (inR n 0 1000)) ∧ w = w' := by
  go_enter Try.func37, Try.ntmps37
  go_wp2
  all_goals go_ret
  · exact ⟨ret_bool (by simp [inR]; omega), rfl⟩
  · exact ⟨ret_bool (by simp [inR]; omega), rfl⟩

set_option maxHeartbeats 1000000 in
theorem validTiers_any (A : Option Addr) (n c : Nat) (l : List (Int × Int)) (w : World) (hn : l.length = n) (hm : n ≤ 1000000000000) (hr : Rd2 w w.heap.size A l) :
    Calls Try.prog 15 #[.slice A n c] w fun e w' => e = .returned (.bool (vT l)) ∧ Below w.heap.size w w' := by
  have HN := Lib.hid hn
  clear hn
  go_enter Try.func15, Try.ntmps15
  by_cases h1 : n < 1
  · go_wp2
    go_ret
    exact ⟨ret_bool (vT_short (by rw [HN.out]; exact h1)).symm, Below.refl _ _⟩
  · by_cases h4 : 4 < n
    · go_wp2
      go_ret
      exact ⟨ret_bool (vT_long (by rw [HN.out]; exact h4)).symm, Below.refl _ _⟩
    · go_wp2
      go_loopw [16] (fun i wr => ∃ k : Nat, k ≤ n ∧ i = .int .i64 k ∧ okTo l k ∧ Below w.heap.size w wr) (fun i _ => n - (intOf i).toNat)
      case atStart => exact ⟨0, by omega, rfl, okTo_zero l, Below.refl _ _⟩
      case round =>
        obtain ⟨k, hk, rfl, hok, hb⟩ := hrel
        obtain ⟨b, off, rfl, hbb, hc⟩ := hr.at_ (by rw [HN.out]; omega)
        by_cases hlt : k < n
        · obtain ⟨hc0, hc1⟩ := hc k (by rw [HN.out]; exact hlt)
          rw [← hb.cell (by exact hbb)] at hc0 hc1
          have hbw : b < wr.heap.size := Nat.lt_of_lt_of_le hbb hb.size
          have hln : k < l.length := by rw [HN.out]; exact hlt
          by_cases hk0 : k = 0
          · have hz : ((k : Int) == 0) = true := by simp [hk0]
            have HK := Lib.hid hk0
            clear hc hr hk0
            go_wp2
            all_goals first
              | (go_ret; exact ⟨ret_bool (vT_bad (k := k) hln (by unfold okT; omega)).symm, kept_alloc hb _⟩)
              | (go_roundw
                 case rel => exact ⟨k + 1, by omega, by go_num, okTo_succ hok ⟨by omega, by omega, by omega, by omega, fun h => absurd HK.out (by omega)⟩, kept_alloc hb _⟩
                 case measure => simp [intOf]; omega)
          · have hz : ((k : Int) == 0) = false := by simp [hk0]
            obtain ⟨hd0, hd1⟩ := hc (k - 1) (by rw [HN.out]; omega)
            rw [← hb.cell (by exact hbb)] at hd0 hd1
            have hp := (hok (k - 1) (by omega)).1
            have hk1 : 1 ≤ k := by omega
            clear hc hr hk0
            go_wp2
            all_goals first
              | (go_ret; exact ⟨ret_bool (vT_bad (k := k) hln (by unfold okT; omega)).symm, (by first | exact kept_alloc hb _ | exact kept_alloc (kept_alloc hb _) _)⟩)
              | (go_roundw
                 case rel => exact ⟨k + 1, by omega, by go_num, okTo_succ hok ⟨by omega, by omega, by omega, by omega, fun _ => ⟨by omega, by omega, by omega⟩⟩, kept_alloc (kept_alloc hb _) _⟩
                 case measure => simp [intOf]; omega)
        · clear hc hr
          go_wp2
          go_ret
          exact ⟨ret_bool (vT_good (by rw [HN.out]; omega) (by rw [HN.out]; omega) (by rw [HN.out]; exact (by omega : n = k) ▸ hok)).symm, hb⟩
end Go.Proofs.Ytheckdenoomhjaa
