/-
  Walks: toPoint, toPointS, eqPoint, eqPointS, szPointS of the package laws.
-/
import Derived.Test.YtiajcnldfdijoaaBase
namespace Go.Proofs.Ytiajcnldfdijoaa
open Go.RowKit

set_option maxHeartbeats 400000 in
theorem toPoint_any (a b : Int) (w : World) : Calls Try.prog 46 #[.agg #[.int .i64 a, .int .i64 b]] w fun e w' => e = .returned (.agg #[.int .i64 a, .int .i64 b]) ∧ Below w.heap.size w w' := by
  go_enter Try.func46, Try.ntmps46
  go_wp2
  exact bodyPost_ret (v := .agg #[.int .i64 a, .int .i64 b]) (by simp [results, go_sem]) rfl ⟨rfl, kept_alloc (kept_alloc (kept_alloc (Below.refl _ _) _) _) _⟩

set_option maxHeartbeats 400000 in
theorem eqPoint_any (a b c d : Int) (w : World) : Calls Try.prog 45 #[.agg #[.int .i64 a, .int .i64 b], .agg #[.int .i64 c, .int .i64 d]] w fun e w' => e = .returned (.bool (eqb2 a b c d)) ∧ Below w.heap.size w w' := by
  go_enter Try.func45, Try.ntmps45
  go_wp2
  all_goals go_ret
  all_goals refine ⟨ret_bool ?_, kept_alloc (kept_alloc (Below.refl _ _) _) _⟩
  · have h1 : (a != c) = true := by assumption
    have h2 : a ≠ c := by simpa using h1
    simp [eqb2, h2]
  · have h1 : (b != d) = true := by assumption
    have h2 : b ≠ d := by simpa using h1
    simp [eqb2, h2]
  · have h1 : (a != c) = false := by assumption
    have h2 : (b != d) = false := by assumption
    have h3 : a = c := by simpa using h1
    have h4 : b = d := by simpa using h2
    simp [eqb2, h3, h4]

set_option maxHeartbeats 400000 in
theorem szPointS_any (A : Option Addr) (n c : Nat) (k : Int) (w : World) (hm : n ≤ 9223372036854775807) (hk : 0 ≤ k) (hk2 : k ≤ 1048576) :
    Calls Try.prog 27 #[.slice A n c, .int .i64 k] w fun e w' => e = .returned (.int .i64 (if k < n then -1 else k - n)) ∧ w = w' := by
  by_cases h : k < n
  · rw [if_pos h]
    go_enter Try.func27, Try.ntmps27
    go_wp2
    all_goals go_ret
    exact ⟨rfl, rfl⟩
  · rw [if_neg h]
    go_enter Try.func27, Try.ntmps27
    go_wp2
    all_goals go_ret
    exact ⟨rfl, rfl⟩

theorem infoPoint : (Try.prog.info? 30).map (fun i => (i.zero, i.size, i.bytes)) = some (some (.agg #[.int .i64 0, .int .i64 0]), 2, 16) := by kernel_rfl
theorem madeSize (z : Array Value) (n : Nat) : (madeCells z n).size = n := by simp [madeCells]
set_option maxHeartbeats 1000000 in
theorem toPointS_any (A : Option Addr) (n c : Nat) (l : List (Int × Int)) (w : World) (hn : l.length = n) (hm : n ≤ 1048576) (hr : Rd2 w w.heap.size A l) :
    Calls Try.prog 28 #[.slice A n c] w (RetMade w 30 n 2 (cells2 l)) := by
  have HN := Lib.hid hn
  clear hn
  obtain ⟨i0, hi, hz0, hz1, hz2⟩ := info_parts infoPoint
  have hmk := fun W => run_make_rowN (P := Try.prog) 23 30 i0 _ Try.underlying23 hi hz0 .i64 .i64 n n (Nat.le_refl _) (by rw [hz2]; omega) (by omega) W
  rw [hz1] at hmk
  go_enter Try.func28, Try.ntmps28
  go_wp2
  go_loopw [4] (fun i wr => ∃ k : Nat, k ≤ n ∧ i = .int .i64 k ∧ Filled wr w.heap.size 30 (n * 2) (k * 2) (cells2 l) ∧ Below w.heap.size w wr) (fun i _ => n - (intOf i).toNat)
  case atStart => exact ⟨0, by omega, rfl, (by have := Filled.made w 30 (madeCells #[Value.int .i64 0, Value.int .i64 0] (n * 2)) (cells2 l); rw [madeSize] at this; simpa using this), kept_alloc (Below.refl _ _) _⟩
  case round =>
    obtain ⟨k, hk, rfl, hf, hb⟩ := hrel
    clear hmk
    by_cases hlt : k < n
    · obtain ⟨b, off, rfl, hbb, hc⟩ := hr.at_ (by rw [HN.out]; omega)
      obtain ⟨hc0, hc1⟩ := hc k (by rw [HN.out]; exact hlt)
      rw [← hb.cell (by exact hbb)] at hc0 hc1
      clear hc hr
      go_wp2_with fail
      refine (toPoint_any _ _ _).mono ?_
      rintro e w1 ⟨rfl, hb1⟩
      have hf1 := hf.kept hb1
      have hb2 := kept_trans hb hb1
      clear hc0 hc1 hf hb hb1
      obtain ⟨v0, hv0⟩ := hf1.some_ (j := k * 2) (by omega)
      obtain ⟨v1, hv1⟩ := hf1.some_ (j := k * 2 + 1) (by omega)
      have hf0 := hf1.frozen (k * 2)
      have hf2 := hf1.frozen (k * 2 + 1)
      go_wp2
      go_roundw
      case rel =>
        exact ⟨k + 1, by omega, by go_num, by rw [Nat.succ_mul]; exact (hf1.put (by omega) (cells2_a l k)).put (by omega) (cells2_b l k), (hb2.setCell (Nat.le_refl _) _).setCell (Nat.le_refl _) _⟩
      case measure => simp [intOf]; omega
    · clear hr
      go_wp2
      go_ret
      have e : n = k := by omega
      rw [← e] at hf
      exact ⟨_, rfl, Nat.le_refl _, hf, hb⟩

set_option maxHeartbeats 1000000 in
theorem eqPointS_any (A : Option Addr) (n c : Nat) (l : List (Int × Int)) (A' : Option Addr) (n' c' : Nat) (l' : List (Int × Int)) (w : World) (hn : l.length = n) (hn' : l'.length = n') (hm : n ≤ 1000000000000)
    (hr : Rd2 w w.heap.size A l) (hr' : Rd2 w w.heap.size A' l') :
    Calls Try.prog 21 #[.slice A n c, .slice A' n' c'] w fun e w' => e = .returned (.bool (eqP l l')) ∧ Below w.heap.size w w' := by
  have HN := Lib.hid hn
  have HN' := Lib.hid hn'
  clear hn hn'
  by_cases hl : n = n'
  · have hz : ((n : Int) != (n' : Int)) = false := by simp [hl]
    have HL := Lib.hid hl
    clear hl
    go_enter Try.func21, Try.ntmps21
    go_wp2
    go_loopw [5] (fun i wr => ∃ k : Nat, k ≤ n ∧ i = .int .i64 k ∧ sameTo l l' k ∧ Below w.heap.size w wr) (fun i _ => n - (intOf i).toNat)
    case atStart => exact ⟨0, by omega, rfl, sameTo_zero _ _, Below.refl _ _⟩
    case round =>
      obtain ⟨k, hk, rfl, hs, hb⟩ := hrel
      by_cases hlt : k < n
      · have hki : (k : Int) < (n : Int) := by omega
        have hki' : (k : Int) < (n' : Int) := by rw [← HL.out]; omega
        obtain ⟨b, off, rfl, hbb, hc⟩ := hr.at_ (by rw [HN.out]; omega)
        obtain ⟨b', off', rfl, hbb', hc'⟩ := hr'.at_ (by rw [HN'.out, ← HL.out]; omega)
        obtain ⟨hc0, hc1⟩ := hc k (by rw [HN.out]; exact hlt)
        obtain ⟨hd0, hd1⟩ := hc' k (by rw [HN'.out, ← HL.out]; exact hlt)
        rw [← hb.cell (by exact hbb)] at hc0 hc1
        rw [← hb.cell (by exact hbb')] at hd0 hd1
        have hbw : b < wr.heap.size := Nat.lt_of_lt_of_le hbb hb.size
        have hbw' : b' < wr.heap.size := Nat.lt_of_lt_of_le hbb' hb.size
        have q0 := kin_cell hc0 hbw
        have q1 := kin_cell hc1 hbw
        have q2 := kin_cell hd0 hbw'
        have q3 := kin_cell hd1 hbw'
        clear hc hc' hr hr' hc0 hc1 hd0 hd1
        by_cases he : x1 l k = x1 l' k ∧ x2 l k = x2 l' k
        · have hv : eqb2 (x1 l k) (x2 l k) (x1 l' k) (x2 l' k) = true := by simp [eqb2, he]
          have HE := Lib.hid he
          clear he
          go_wp2_with fail
          refine wp_region_kin (by kernel_rfl) (by kernel_rfl) ?_
          repeat (go_big_quiet_step ((go_at_call 45; exact kin_call (eqPoint_any _ _ _ _ _))))
          refine wpQuiet_nil ?_
          intro _ hw'
          obtain ⟨⟨wq, hq⟩, hw''⟩ := hw'
          subst hw''
          have hb2 := kept_trans hb hq
          clear q0 q1 q2 q3 hq
          go_wp2
          go_roundw
          case rel => exact ⟨k + 1, by omega, by go_num, sameTo_succ hs HE.out, hb2⟩
          case measure => simp [intOf]; omega
        · have hv : eqb2 (x1 l k) (x2 l k) (x1 l' k) (x2 l' k) = false := by simpa [eqb2] using he
          have HE := Lib.hid he
          clear he
          go_wp2_with fail
          refine wp_region_kin (by kernel_rfl) (by kernel_rfl) ?_
          repeat (go_big_quiet_step ((go_at_call 45; exact kin_call (eqPoint_any _ _ _ _ _))))
          refine wpQuiet_nil ?_
          intro _ hw'
          obtain ⟨⟨wq, hq⟩, hw''⟩ := hw'
          subst hw''
          have hb2 := kept_trans hb hq
          clear q0 q1 q2 q3 hq
          go_wp2
          go_ret
          exact ⟨ret_bool (eqP_bad HE.out).symm, hb2⟩
      · clear hr hr'
        go_wp2
        go_ret
        exact ⟨ret_bool (eqP_of hs (by rw [HN.out]; omega) (by rw [HN.out, HN'.out]; exact HL.out)).symm, hb⟩
  · have hz : ((n : Int) != (n' : Int)) = true := by simp; omega
    clear hl
    go_enter Try.func21, Try.ntmps21
    go_wp2
    go_ret
    exact ⟨ret_bool (eqP_len (by rw [HN.out, HN'.out]; simp at hz; omega)).symm, Below.refl _ _⟩
end Go.Proofs.Ytiajcnldfdijoaa
