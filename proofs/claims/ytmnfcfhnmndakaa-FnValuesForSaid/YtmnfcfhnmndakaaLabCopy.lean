/-
  Walks: toLabelS, eqLabelS, szLabelS of the package laws.
-/
import Derived.Test.YtmnfcfhnmndakaaLabW4
namespace Go.Proofs.Ytmnfcfhnmndakaa
open Go.RowKit
set_option maxHeartbeats 400000 in
theorem toLabel_any (a b : ByteArray) (w : World) : Calls Try.prog 73 #[.agg #[.string a, .string b]] w fun e w' => e = .returned (.agg #[.string a, .string b]) ∧ Below w.heap.size w w' := by
  go_enter Try.func73, Try.ntmps73
  go_wp2
  exact bodyPost_ret (v := .agg #[.string a, .string b]) (by simp [results, go_sem]) rfl ⟨rfl, kept_alloc (kept_alloc (kept_alloc (Below.refl _ _) _) _) _⟩
set_option maxHeartbeats 400000 in
theorem eqLabel_same (a b : ByteArray) (w : World) : Calls Try.prog 74 #[.agg #[.string a, .string b], .agg #[.string a, .string b]] w fun e w' => e = .returned (.bool true) ∧ Below w.heap.size w w' := by
  have h1 := eqB_walk (eqB_refl a)
  have h2 := eqB_walk (eqB_refl b)
  go_enter Try.func74, Try.ntmps74
  go_wp2
  go_ret
  exact ⟨rfl, kept_alloc (kept_alloc (Below.refl _ _) _) _⟩
theorem infoLabel : (Try.prog.info? 81).map (fun i => (i.zero, i.size, i.bytes)) = some (some (.agg #[.string ByteArray.empty, .string ByteArray.empty]), 2, 32) := by kernel_rfl
theorem madeSize (z : Array Value) (n : Nat) : (madeCells z n).size = n := by simp [madeCells]
set_option maxHeartbeats 1000000 in
theorem toLabelS_any (A : Option Addr) (n c : Nat) (l : List Lb) (w : World) (hn : l.length = n) (hm : n ≤ 1048576) (hr : RdL w w.heap.size A l) :
    Calls Try.prog 35 #[.slice A n c] w (RetMade w 81 n 2 (cellsG encL 2 l)) := by
  have HN := Lib.hid hn
  clear hn
  obtain ⟨i0, hi, hz0, hz1, hz2⟩ := info_parts infoLabel
  have hmk := fun W => run_make_rowN (P := Try.prog) 33 81 i0 _ Try.underlying33 hi hz0 .i64 .i64 n n (Nat.le_refl _) (by rw [hz2]; omega) (by omega) W
  rw [hz1] at hmk
  go_enter Try.func35, Try.ntmps35
  go_wp2
  go_loopw [4] (fun i wr => ∃ k : Nat, k ≤ n ∧ i = .int .i64 k ∧ Filled wr w.heap.size 81 (n * 2) (k * 2) (cellsG encL 2 l) ∧ Below w.heap.size w wr) (fun i _ => n - (intOf i).toNat)
  case atStart => exact ⟨0, by omega, rfl, (by have := Filled.made w 81 (madeCells #[Value.string ByteArray.empty, Value.string ByteArray.empty] (n * 2)) (cellsG encL 2 l); rw [madeSize] at this; simpa using this), kept_alloc (Below.refl _ _) _⟩
  case round =>
    obtain ⟨k, hk, rfl, hf, hb⟩ := hrel
    clear hmk
    by_cases hlt : k < n
    · obtain ⟨b, off, rfl, hbb, hc⟩ := hr.at_ (by rw [HN.out]; omega)
      obtain ⟨hc0, hc1⟩ := hc k (by rw [HN.out]; exact hlt)
      rw [← hb.cell (by exact hbb)] at hc0 hc1
      clear hc hr
      go_wp2_with fail
      refine (toLabel_any _ _ _).mono ?_
      rintro e w1 ⟨rfl, hb1⟩
      have hf1 := hf.kept hb1
      have hb2 := kept_trans hb hb1
      clear hc0 hc1 hf hb hb1
      obtain ⟨v0, hv0⟩ := hf1.some_ (j := k * 2) (by omega)
      obtain ⟨v1, hv1⟩ := hf1.some_ (j := k * 2 + 1) (by omega)
      have hf0 := hf1.frozen (k * 2)
      have hf2 := hf1.frozen (k * 2 + 1)
      have e0 : cellsG encL 2 l (k * 2) = .string (at0 l k).1 := by have := cellsG_at (enc := encL) l (i := k) (q := 0) (k := 2) (by omega); rw [Nat.add_zero] at this; rw [this]; rfl
      have e1 : cellsG encL 2 l (k * 2 + 1) = .string (at0 l k).2 := by have := cellsG_at (enc := encL) l (i := k) (q := 1) (k := 2) (by omega); rw [this]; rfl
      have HF := Lib.hid ((hf1.put (by omega) e0).put (by omega) e1)
      clear e0 e1
      go_wp2
      go_roundw
      case rel =>
        exact ⟨k + 1, by omega, by go_num, by rw [Nat.succ_mul]; exact HF.out, (hb2.setCell (Nat.le_refl _) _).setCell (Nat.le_refl _) _⟩
      case measure => simp [intOf]; omega
    · clear hr
      go_wp2
      go_ret
      have e : n = k := by omega
      rw [← e] at hf
      exact ⟨_, rfl, Nat.le_refl _, hf, hb⟩
set_option maxHeartbeats 1000000 in
theorem eqLabelS_same (A : Option Addr) (n c : Nat) (A' : Option Addr) (c' : Nat) (l : List Lb) (w : World) (hn : l.length = n) (hm : n ≤ 1000000000000)
    (hr : RdL w w.heap.size A l) (hr' : RdL w w.heap.size A' l) :
    Calls Try.prog 36 #[.slice A n c, .slice A' n c'] w fun e w' => e = .returned (.bool true) ∧ Below w.heap.size w w' := by
  have HN := Lib.hid hn
  clear hn
  go_enter Try.func36, Try.ntmps36
  go_wp2
  go_loopw [5] (fun i wr => ∃ k : Nat, k ≤ n ∧ i = .int .i64 k ∧ Below w.heap.size w wr) (fun i _ => n - (intOf i).toNat)
  case atStart => exact ⟨0, by omega, rfl, Below.refl _ _⟩
  case round =>
    obtain ⟨k, hk, rfl, hb⟩ := hrel
    by_cases hlt : k < n
    · have hki : (k : Int) < (n : Int) := by omega
      obtain ⟨b, off, rfl, hbb, hc⟩ := hr.at_ (by rw [HN.out]; omega)
      obtain ⟨b', off', rfl, hbb', hc'⟩ := hr'.at_ (by rw [HN.out]; omega)
      obtain ⟨hc0, hc1⟩ := hc k (by rw [HN.out]; exact hlt)
      obtain ⟨hd0, hd1⟩ := hc' k (by rw [HN.out]; exact hlt)
      rw [← hb.cell (by exact hbb)] at hc0 hc1
      rw [← hb.cell (by exact hbb')] at hd0 hd1
      have hbw : b < wr.heap.size := Nat.lt_of_lt_of_le hbb hb.size
      have hbw' : b' < wr.heap.size := Nat.lt_of_lt_of_le hbb' hb.size
      have q0 := kin_cell hc0 hbw
      have q1 := kin_cell hc1 hbw
      have q2 := kin_cell hd0 hbw'
      have q3 := kin_cell hd1 hbw'
      clear hc hc' hr hr' hc0 hc1 hd0 hd1
      go_wp2_with fail
      refine wp_region_kin (by kernel_rfl) (by kernel_rfl) ?_
      repeat (go_big_quiet_step ((go_at_call 74; exact kin_call (eqLabel_same _ _ _))))
      refine wpQuiet_nil ?_
      intro _ hw'
      obtain ⟨⟨wq, hq⟩, hw''⟩ := hw'
      subst hw''
      have hb2 := kept_trans hb hq
      clear q0 q1 q2 q3 hq
      go_wp2
      go_roundw
      case rel => exact ⟨k + 1, by omega, by go_num, hb2⟩
      case measure => simp [intOf]; omega
    · clear hr hr'
      go_wp2
      go_ret
      exact ⟨rfl, hb⟩
def szR (k : Int) (a b : ByteArray) : Int := if k < a.size then -1 else if k - a.size < b.size then -1 else k - a.size - b.size
theorem szR_bd (k : Int) (a b : ByteArray) (h : 0 ≤ k) : -1 ≤ szR k a b ∧ szR k a b ≤ k ∧ (0 ≤ szR k a b → (a.size : Int) ≤ k ∧ (b.size : Int) ≤ k) := by unfold szR; split <;> (try split) <;> omega
set_option maxHeartbeats 1000000 in
theorem szLabel_any (a b : ByteArray) (k : Int) (w : World) (h1 : a.size ≤ 9223372036854775807) (h2 : b.size ≤ 9223372036854775807) (hk : 0 ≤ k) (hk2 : k ≤ 1048576) :
    Calls Try.prog 72 #[.agg #[.string a, .string b], .int .i64 k] w fun e w' => e = .returned (.int .i64 (szR k a b)) ∧ Below w.heap.size w w' := by
  by_cases ha : k < a.size
  · have HZ := Lib.hid (show szR k a b = -1 by unfold szR; rw [if_pos ha])
    go_enter Try.func72, Try.ntmps72
    go_wp2
    go_ret
    exact ⟨ret_int HZ.out.symm, kept_alloc (Below.refl _ _) _⟩
  · by_cases hb : k - a.size < b.size
    · have HZ := Lib.hid (show szR k a b = -1 by unfold szR; rw [if_neg ha, if_pos hb])
      go_enter Try.func72, Try.ntmps72
      go_wp2
      go_ret
      exact ⟨ret_int HZ.out.symm, kept_alloc (Below.refl _ _) _⟩
    · have HZ := Lib.hid (show szR k a b = k - a.size - b.size by unfold szR; rw [if_neg ha, if_neg hb])
      go_enter Try.func72, Try.ntmps72
      go_wp2
      go_ret
      exact ⟨ret_int HZ.out.symm, kept_alloc (Below.refl _ _) _⟩
def SzPost (k : Int) (n : Nat) (l : List Lb) (w : World) (e : Ending) (w' : World) : Prop := ∃ r : Int, e = .returned (.int .i64 r) ∧ -1 ≤ r ∧ r ≤ k ∧ (0 ≤ r → (n : Int) ≤ k ∧ ∀ i, i < l.length → (at0 l i).1.size ≤ 1048576 ∧ (at0 l i).2.size ≤ 1048576) ∧ Below w.heap.size w w'
def szTo (l : List Lb) (k : Nat) : Prop := ∀ i, i < k → (at0 l i).1.size ≤ 1048576 ∧ (at0 l i).2.size ≤ 1048576
theorem szTo_zero (l : List Lb) : szTo l 0 := fun i hi => absurd hi (by omega)
theorem szTo_succ {l : List Lb} {k : Nat} (h : szTo l k) (h1 : (at0 l k).1.size ≤ 1048576 ∧ (at0 l k).2.size ≤ 1048576) : szTo l (k + 1) := fun j hj => by
  rcases Nat.lt_or_ge j k with h2 | h2
  · exact h j h2
  · have : j = k := by omega
    subst this; exact h1
set_option maxHeartbeats 1000000 in
theorem szLabelS_any (A : Option Addr) (n c : Nat) (l : List Lb) (k : Int) (w : World) (hn : l.length = n) (hm : n ≤ 9223372036854775807) (hz : SzL l) (hk : 0 ≤ k) (hk2 : k ≤ 1048576) (hr : RdL w w.heap.size A l) :
    Calls Try.prog 34 #[.slice A n c, .int .i64 k] w (SzPost k n l w) := by
  have HN := Lib.hid hn
  have HSz := Lib.hid hz
  clear hn hz
  by_cases ha : k < n
  · go_enter Try.func34, Try.ntmps34
    go_wp2
    go_ret
    exact ⟨-1, rfl, by omega, by omega, fun h => absurd h (by omega), Below.refl _ _⟩
  · go_enter Try.func34, Try.ntmps34
    go_wp2
    go_loopw [1, 5] (fun q i wr => ∃ (j : Nat) (r : Int), j ≤ n ∧ i = .int .i64 j ∧ q = .int .i64 r ∧ 0 ≤ r ∧ r ≤ k ∧ szTo l j ∧ Below w.heap.size w wr) (fun _ i _ => n - (intOf i).toNat)
    case atStart => exact ⟨0, k - n, by omega, rfl, rfl, by omega, by omega, szTo_zero l, Below.refl _ _⟩
    case round =>
      obtain ⟨j, r, hj, rfl, rfl, r0, r1, hs, hb⟩ := hrel
      have HS := Lib.hid hs
      clear hs
      by_cases hlt : j < n
      · have hki : (j : Int) < (n : Int) := by omega
        obtain ⟨b, off, rfl, hbb, hc⟩ := hr.at_ (by rw [HN.out]; omega)
        obtain ⟨hc0, hc1⟩ := hc j (by rw [HN.out]; exact hlt)
        rw [← hb.cell (by exact hbb)] at hc0 hc1
        obtain ⟨z1, z2⟩ := HSz.out j (by rw [HN.out]; exact hlt)
        obtain ⟨y1, y2, y3⟩ := szR_bd r (at0 l j).1 (at0 l j).2 r0
        have HY := Lib.hid y3
        clear hc hr y3
        go_wp2_with fail
        refine (szLabel_any _ _ r _ z1 z2 r0 (by omega)).mono ?_
        rintro e w1 ⟨rfl, hb1⟩
        have hb2 := kept_trans hb hb1
        clear hc0 hc1 hb hb1
        generalize szR r (at0 l j).1 (at0 l j).2 = r' at *
        by_cases hneg : r' < 0
        · go_wp2
          go_ret
          exact ⟨-1, rfl, by omega, by omega, fun h => absurd h (by omega), hb2⟩
        · have H0 := Lib.hid (szTo_succ HS.out (by have := HY.out (by omega); omega))
          go_wp2
          go_roundw
          case rel => exact ⟨j + 1, r', by omega, by go_num, rfl, by omega, by omega, H0.out, hb2⟩
          case measure => simp [intOf]; omega
      · clear hr
        go_wp2
        go_ret
        exact ⟨r, rfl, by omega, r1, fun _ => ⟨by omega, fun i hi => HS.out i (by rw [HN.out] at hi; omega)⟩, hb⟩
end Go.Proofs.Ytmnfcfhnmndakaa
