/-
  Walks: toMatcherS, eqMatcherS, szMatcherS of the package laws.
-/
import Derived.Test.YtmnfcfhnmndakaaLabCopy
import Derived.Test.YtmnfcfhnmndakaaLabW3
namespace Go.Proofs.Ytmnfcfhnmndakaa
open Go.RowKit
set_option maxHeartbeats 400000 in
theorem toMatcher_any (a b : ByteArray) (z : Bool) (w : World) : Calls Try.prog 80 #[.agg #[.string a, .string b, .bool z]] w fun e w' => e = .returned (.agg #[.string a, .string b, .bool z]) ∧ Below w.heap.size w w' := by
  go_enter Try.func80, Try.ntmps80
  go_wp2
  exact bodyPost_ret (v := .agg #[.string a, .string b, .bool z]) (by simp [results, go_sem]) rfl ⟨rfl, kept_alloc (kept_alloc (kept_alloc (Below.refl _ _) _) _) _⟩
set_option maxHeartbeats 400000 in
theorem eqMatcher_same (a b : ByteArray) (z : Bool) (w : World) : Calls Try.prog 81 #[.agg #[.string a, .string b, .bool z], .agg #[.string a, .string b, .bool z]] w fun e w' => e = .returned (.bool true) ∧ Below w.heap.size w w' := by
  have h1 := eqB_walk (eqB_refl a)
  have h2 := eqB_walk (eqB_refl b)
  go_enter Try.func81, Try.ntmps81
  go_wp2
  go_ret
  exact ⟨rfl, kept_alloc (kept_alloc (Below.refl _ _) _) _⟩
theorem infoMatcher : (Try.prog.info? 65).map (fun i => (i.zero, i.size, i.bytes)) = some (some (.agg #[.string ByteArray.empty, .string ByteArray.empty, .bool false]), 3, 40) := by kernel_rfl
set_option maxHeartbeats 1000000 in
theorem toMatcherS_any (A : Option Addr) (n c : Nat) (l : List Mt) (w : World) (hn : l.length = n) (hm : n ≤ 1048576) (hr : RdM w w.heap.size A l) :
    Calls Try.prog 51 #[.slice A n c] w (RetMade w 65 n 3 (cellsG encM 3 l)) := by
  have HN := Lib.hid hn
  clear hn
  obtain ⟨i0, hi, hz0, hz1, hz2⟩ := info_parts infoMatcher
  have hmk := fun W => run_make_rowN (P := Try.prog) 57 65 i0 _ Try.underlying57 hi hz0 .i64 .i64 n n (Nat.le_refl _) (by rw [hz2]; omega) (by omega) W
  rw [hz1] at hmk
  go_enter Try.func51, Try.ntmps51
  go_wp2
  go_loopw [4] (fun i wr => ∃ k : Nat, k ≤ n ∧ i = .int .i64 k ∧ Filled wr w.heap.size 65 (n * 3) (k * 3) (cellsG encM 3 l) ∧ Below w.heap.size w wr) (fun i _ => n - (intOf i).toNat)
  case atStart => exact ⟨0, by omega, rfl, (by have := Filled.made w 65 (madeCells #[Value.string ByteArray.empty, Value.string ByteArray.empty, Value.bool false] (n * 3)) (cellsG encM 3 l); rw [madeSize] at this; simpa using this), kept_alloc (Below.refl _ _) _⟩
  case round =>
    obtain ⟨k, hk, rfl, hf, hb⟩ := hrel
    clear hmk
    by_cases hlt : k < n
    · obtain ⟨b, off, rfl, hbb, hc⟩ := hr.at_ (by rw [HN.out]; omega)
      obtain ⟨hc0, hc1, hc2⟩ := hc k (by rw [HN.out]; exact hlt)
      rw [← hb.cell (by exact hbb)] at hc0 hc1 hc2
      clear hc hr
      go_wp2_with fail
      refine (toMatcher_any _ _ _ _).mono ?_
      rintro e w1 ⟨rfl, hb1⟩
      have hf1 := hf.kept hb1
      have hb2 := kept_trans hb hb1
      clear hc0 hc1 hc2 hf hb hb1
      obtain ⟨v0, hv0⟩ := hf1.some_ (j := k * 3) (by omega)
      obtain ⟨v1, hv1⟩ := hf1.some_ (j := k * 3 + 1) (by omega)
      obtain ⟨v2, hv2⟩ := hf1.some_ (j := k * 3 + 2) (by omega)
      have hf0 := hf1.frozen (k * 3)
      have hf2 := hf1.frozen (k * 3 + 1)
      have hf3 := hf1.frozen (k * 3 + 2)
      have e0 : cellsG encM 3 l (k * 3) = .string (at0 l k).1 := by have := cellsG_at (enc := encM) l (i := k) (q := 0) (k := 3) (by omega); rw [Nat.add_zero] at this; rw [this]; rfl
      have e1 : cellsG encM 3 l (k * 3 + 1) = .string (at0 l k).2.1 := by have := cellsG_at (enc := encM) l (i := k) (q := 1) (k := 3) (by omega); rw [this]; rfl
      have e2 : cellsG encM 3 l (k * 3 + 2) = .bool (at0 l k).2.2 := by have := cellsG_at (enc := encM) l (i := k) (q := 2) (k := 3) (by omega); rw [this]; rfl
      have HF := Lib.hid (((hf1.put (by omega) e0).put (by omega) e1).put (by omega) e2)
      clear e0 e1 e2
      go_wp2
      go_roundw
      case rel =>
        exact ⟨k + 1, by omega, by go_num, by rw [Nat.succ_mul]; exact HF.out, ((hb2.setCell (Nat.le_refl _) _).setCell (Nat.le_refl _) _).setCell (Nat.le_refl _) _⟩
      case measure => simp [intOf]; omega
    · clear hr
      go_wp2
      go_ret
      have e : n = k := by omega
      rw [← e] at hf
      exact ⟨_, rfl, Nat.le_refl _, hf, hb⟩
set_option maxHeartbeats 1000000 in
theorem eqMatcherS_same (A : Option Addr) (n c : Nat) (A' : Option Addr) (c' : Nat) (l : List Mt) (w : World) (hn : l.length = n) (hm : n ≤ 1000000000000)
    (hr : RdM w w.heap.size A l) (hr' : RdM w w.heap.size A' l) :
    Calls Try.prog 52 #[.slice A n c, .slice A' n c'] w fun e w' => e = .returned (.bool true) ∧ Below w.heap.size w w' := by
  have HN := Lib.hid hn
  clear hn
  go_enter Try.func52, Try.ntmps52
  go_wp2
  go_loopw [5] (fun i wr => ∃ k : Nat, k ≤ n ∧ i = .int .i64 k ∧ Below w.heap.size w wr) (fun i _ => n - (intOf i).toNat)
  case atStart => exact ⟨0, by omega, rfl, Below.refl _ _⟩
  case round =>
    obtain ⟨k, hk, rfl, hb⟩ := hrel
    by_cases hlt : k < n
    · have hki : (k : Int) < (n : Int) := by omega
      obtain ⟨b, off, rfl, hbb, hc⟩ := hr.at_ (by rw [HN.out]; omega)
      obtain ⟨b', off', rfl, hbb', hc'⟩ := hr'.at_ (by rw [HN.out]; omega)
      obtain ⟨hc0, hc1, hc2⟩ := hc k (by rw [HN.out]; exact hlt)
      obtain ⟨hd0, hd1, hd2⟩ := hc' k (by rw [HN.out]; exact hlt)
      rw [← hb.cell (by exact hbb)] at hc0 hc1 hc2
      rw [← hb.cell (by exact hbb')] at hd0 hd1 hd2
      have hbw : b < wr.heap.size := Nat.lt_of_lt_of_le hbb hb.size
      have hbw' : b' < wr.heap.size := Nat.lt_of_lt_of_le hbb' hb.size
      have q0 := kin_cell hc0 hbw
      have q1 := kin_cell hc1 hbw
      have q2 := kin_cell hd0 hbw'
      have q3 := kin_cell hd1 hbw'
      have q4 := kin_cell hc2 hbw
      have q5 := kin_cell hd2 hbw'
      clear hc hc' hr hr' hc0 hc1 hd0 hd1 hc2 hd2
      go_wp2_with fail
      refine wp_region_kin (by kernel_rfl) (by kernel_rfl) ?_
      repeat (go_big_quiet_step ((go_at_call 81; exact kin_call (eqMatcher_same _ _ _ _))))
      refine wpQuiet_nil ?_
      intro _ hw'
      obtain ⟨⟨wq, hq⟩, hw''⟩ := hw'
      subst hw''
      have hb2 := kept_trans hb hq
      clear q0 q1 q2 q3 q4 q5 hq
      go_wp2
      go_roundw
      case rel => exact ⟨k + 1, by omega, by go_num, hb2⟩
      case measure => simp [intOf]; omega
    · clear hr hr'
      go_wp2
      go_ret
      exact ⟨rfl, hb⟩
set_option maxHeartbeats 1000000 in
theorem szMatcher_any (a b : ByteArray) (z : Bool) (k : Int) (w : World) (h1 : a.size ≤ 9223372036854775807) (h2 : b.size ≤ 9223372036854775807) (hk : 0 ≤ k) (hk2 : k ≤ 1048576) :
    Calls Try.prog 79 #[.agg #[.string a, .string b, .bool z], .int .i64 k] w fun e w' => e = .returned (.int .i64 (szR k a b)) ∧ Below w.heap.size w w' := by
  by_cases ha : k < a.size
  · have HZ := Lib.hid (show szR k a b = -1 by unfold szR; rw [if_pos ha])
    go_enter Try.func79, Try.ntmps79
    go_wp2
    go_ret
    exact ⟨ret_int HZ.out.symm, kept_alloc (Below.refl _ _) _⟩
  · by_cases hb : k - a.size < b.size
    · have HZ := Lib.hid (show szR k a b = -1 by unfold szR; rw [if_neg ha, if_pos hb])
      go_enter Try.func79, Try.ntmps79
      go_wp2
      go_ret
      exact ⟨ret_int HZ.out.symm, kept_alloc (Below.refl _ _) _⟩
    · have HZ := Lib.hid (show szR k a b = k - a.size - b.size by unfold szR; rw [if_neg ha, if_neg hb])
      go_enter Try.func79, Try.ntmps79
      go_wp2
      go_ret
      exact ⟨ret_int HZ.out.symm, kept_alloc (Below.refl _ _) _⟩
def SzPostM (k : Int) (n : Nat) (l : List Mt) (w : World) (e : Ending) (w' : World) : Prop := ∃ r : Int, e = .returned (.int .i64 r) ∧ -1 ≤ r ∧ r ≤ k ∧ (0 ≤ r → (n : Int) ≤ k ∧ ∀ i, i < l.length → (at0 l i).1.size ≤ 1048576 ∧ (at0 l i).2.1.size ≤ 1048576) ∧ Below w.heap.size w w'
def szMTo (l : List Mt) (k : Nat) : Prop := ∀ i, i < k → (at0 l i).1.size ≤ 1048576 ∧ (at0 l i).2.1.size ≤ 1048576
theorem szMTo_zero (l : List Mt) : szMTo l 0 := fun i hi => absurd hi (by omega)
theorem szMTo_succ {l : List Mt} {k : Nat} (h : szMTo l k) (h1 : (at0 l k).1.size ≤ 1048576 ∧ (at0 l k).2.1.size ≤ 1048576) : szMTo l (k + 1) := fun j hj => by
  rcases Nat.lt_or_ge j k with h2 | h2
  · exact h j h2
  · have : j = k := by omega
    subst this; exact h1
set_option maxHeartbeats 1000000 in
theorem szMatcherS_any (A : Option Addr) (n c : Nat) (l : List Mt) (k : Int) (w : World) (hn : l.length = n) (hm : n ≤ 9223372036854775807) (hz : SzM l) (hk : 0 ≤ k) (hk2 : k ≤ 1048576) (hr : RdM w w.heap.size A l) :
    Calls Try.prog 50 #[.slice A n c, .int .i64 k] w (SzPostM k n l w) := by
  have HN := Lib.hid hn
  have HSz := Lib.hid hz
  clear hn hz
  by_cases ha : k < n
  · go_enter Try.func50, Try.ntmps50
    go_wp2
    go_ret
    exact ⟨-1, rfl, by omega, by omega, fun h => absurd h (by omega), Below.refl _ _⟩
  · go_enter Try.func50, Try.ntmps50
    go_wp2
    go_loopw [1, 5] (fun q i wr => ∃ (j : Nat) (r : Int), j ≤ n ∧ i = .int .i64 j ∧ q = .int .i64 r ∧ 0 ≤ r ∧ r ≤ k ∧ szMTo l j ∧ Below w.heap.size w wr) (fun _ i _ => n - (intOf i).toNat)
    case atStart => exact ⟨0, k - n, by omega, rfl, rfl, by omega, by omega, szMTo_zero l, Below.refl _ _⟩
    case round =>
      obtain ⟨j, r, hj, rfl, rfl, r0, r1, hs, hb⟩ := hrel
      have HS := Lib.hid hs
      clear hs
      by_cases hlt : j < n
      · have hki : (j : Int) < (n : Int) := by omega
        obtain ⟨b, off, rfl, hbb, hc⟩ := hr.at_ (by rw [HN.out]; omega)
        obtain ⟨hc0, hc1, hc2⟩ := hc j (by rw [HN.out]; exact hlt)
        rw [← hb.cell (by exact hbb)] at hc0 hc1 hc2
        obtain ⟨z1, z2⟩ := HSz.out j (by rw [HN.out]; exact hlt)
        obtain ⟨y1, y2, y3⟩ := szR_bd r (at0 l j).1 (at0 l j).2.1 r0
        have HY := Lib.hid y3
        clear hc hr y3
        go_wp2_with fail
        refine (szMatcher_any _ _ _ r _ z1 z2 r0 (by omega)).mono ?_
        rintro e w1 ⟨rfl, hb1⟩
        have hb2 := kept_trans hb hb1
        clear hc0 hc1 hc2 hb hb1
        generalize szR r (at0 l j).1 (at0 l j).2.1 = r' at *
        by_cases hneg : r' < 0
        · go_wp2
          go_ret
          exact ⟨-1, rfl, by omega, by omega, fun h => absurd h (by omega), hb2⟩
        · have H0 := Lib.hid (szMTo_succ HS.out (by have := HY.out (by omega); omega))
          go_wp2
          go_roundw
          case rel => exact ⟨j + 1, r', by omega, by go_num, rfl, by omega, by omega, H0.out, hb2⟩
          case measure => simp [intOf]; omega
      · clear hr
        go_wp2
        go_ret
        exact ⟨r, rfl, by omega, r1, fun _ => ⟨by omega, fun i hi => HS.out i (by rw [HN.out] at hi; omega)⟩, hb⟩
end Go.Proofs.Ytmnfcfhnmndakaa
