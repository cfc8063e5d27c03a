/-
  Walks: impl.TierCost, spec.TierCost.
-/
import Derived.Test.YtheckdenoomhjaaTierW4
namespace Go.Proofs.Ytheckdenoomhjaa
open Go.RowKit
theorem okArgs_of {l : List (Int × Int)} {now : Int} (hv : vT l = true) (hw : inR now 0 1000 = true) : okArgs l now = true := by unfold okArgs; rw [hv, hw]; rfl
set_option maxHeartbeats 1000000 in
theorem tierCost_any (A : Option Addr) (n c : Nat) (l : List (Int × Int)) (now : Int) (w : World) (hn : l.length = n) (hm : n ≤ 1000000000000) (hr : Rd2 w w.heap.size A l) :
    Calls Try.prog 23 #[.slice A n c, .int .i64 now] w fun e w' => e = .returned (.int .i64 (tierC l now)) ∧ Below w.heap.size w w' := by
  by_cases hv : vT l = true
  · by_cases hw : inR now 0 1000 = true
    · have ho := okArgs_of hv hw
      have hE : tierC l now = costTo l now l.length := by unfold tierC; rw [ho]; rfl
      rw [hE]
      have HN := Lib.hid hn
      have HV := Lib.hid (VT_of hv)
      have hw' : 0 ≤ now ∧ now ≤ 1000 := by simpa [inR] using hw
      obtain ⟨t1, t2⟩ := hw'
      have hn4 : n ≤ 4 := by rw [← HN.out]; exact HV.out.2.1
      clear hn hE
      go_enter Try.func23, Try.ntmps23
      go_wp2_with fail
      refine (validTiers_any A n c l _ HN.out hm hr).mono ?_
      rintro e w1 ⟨rfl, hb1⟩
      rw [hv]
      go_wp2_with fail
      refine (validTime_any _ _).mono ?_
      rintro e w' ⟨rfl, rfl⟩
      rw [hw]
      go_wp2_with fail
      refine (oldestKept_any A n c l now _ HN.out hm (hr.next hb1)).mono ?_
      rintro e w2 ⟨A1, c1, rfl, hown, hb2⟩
      rw [oldL_ok ho, oldTo_len, HN.out] at hown ⊢
      have hrd := own_rd1 hown (by rw [oldTo_len])
      have hb := kept_trans hb1 hb2
      have hr2 := hr.next hb
      clear hown hb1 hb2 hr
      go_wp2
      go_loop [5, 20] (fun s i => ∃ k : Nat, k ≤ n ∧ i = .int .i64 k ∧ s = .int .i64 (costTo l now k)) (fun _ i => n - (intOf i).toNat)
      case atStart => exact ⟨0, by omega, rfl, rfl⟩
      case round =>
        obtain ⟨k, hk, rfl, rfl⟩ := hrel
        obtain ⟨d0, d1⟩ := costTo_bd (l := l) t1 t2 k (fun i hi => (VT_pos HV.out (i := i) (by rw [HN.out]; omega)).1)
        by_cases hlt : k < n
        · obtain ⟨b, off, rfl, hbb, hc⟩ := hrd.at_ (by rw [oldTo_len]; omega)
          have hc0 := hc k (by rw [oldTo_len]; exact hlt)
          rw [xi_oldTo _ _ hlt] at hc0
          obtain ⟨b', off', rfl, hbb', hc'⟩ := hr2.at_ (by rw [HN.out]; omega)
          obtain ⟨hd0, hd1⟩ := hc' k (by rw [HN.out]; exact hlt)
          obtain ⟨o1, o2, o3, o4⟩ := VT_pos HV.out (i := k) (by rw [HN.out]; exact hlt)
          obtain ⟨e0, e1⟩ := costE_bd (l := l) (i := k) o1 t1 t2
          have p0 : 0 ≤ oldE l now k := oldI_nonneg _ _ _ o1
          clear hc hrd hc' hr2
          by_cases hf : oldE l now k ≤ now
          · have hq : (now - oldE l now k) / x1 l k + 1 = costE l now k := by unfold costE; rw [if_pos hf]
            have HQ := Lib.hid hq
            have q0 : 0 ≤ (now - oldE l now k) / x1 l k := Int.ediv_nonneg (by omega) (by omega)
            have q1 : (now - oldE l now k) / x1 l k ≤ 1000 := by omega
            clear hq
            go_wp2
            go_round
            case rel => exact ⟨k + 1, by omega, by go_num, by simp only [costTo]; rw [← HQ.out]⟩
            case measure => simp [intOf]; omega
          · have hq : costE l now k = 0 := by unfold costE; rw [if_neg hf]
            have HQ := Lib.hid hq
            clear hq
            go_wp2
            go_round
            case rel => exact ⟨k + 1, by omega, by go_num, by simp only [costTo]; rw [HQ.out, Int.add_zero]⟩
            case measure => simp [intOf]; omega
        · clear hrd hr2
          go_wp2
          go_ret
          exact ⟨ret_int (by rw [HN.out]; have e : n = k := by omega
                             rw [e]), hb⟩
    · have hw' : inR now 0 1000 = false := by simpa using hw
      have hE : tierC l now = -1 := by unfold tierC okArgs; rw [hw', Bool.and_false]; rfl
      rw [hE]
      go_enter Try.func23, Try.ntmps23
      go_wp2_with fail
      refine (validTiers_any A n c l _ hn hm hr).mono ?_
      rintro e w1 ⟨rfl, hb1⟩
      rw [hv]
      go_wp2_with fail
      refine (validTime_any _ _).mono ?_
      rintro e w' ⟨rfl, rfl⟩
      rw [hw']
      go_wp2
      go_ret
      exact ⟨rfl, hb1⟩
  · have hv' : vT l = false := by simpa using hv
    have hE : tierC l now = -1 := by unfold tierC okArgs; rw [hv', Bool.false_and]; rfl
    rw [hE]
    go_enter Try.func23, Try.ntmps23
    go_wp2_with fail
    refine (validTiers_any A n c l _ hn hm hr).mono ?_
    rintro e w1 ⟨rfl, hb1⟩
    rw [hv']
    go_wp2
    go_ret
    exact ⟨rfl, hb1⟩

set_option maxHeartbeats 1000000 in
theorem specTierCost_any (A : Option Addr) (n c : Nat) (l : List (Int × Int)) (now : Int) (w : World) (hn : l.length = n) (hm : n ≤ 1000000000000) (hr : Rd2 w w.heap.size A l) :
    Calls Try.prog 22 #[.slice A n c, .int .i64 now] w fun e w' => e = .returned (.int .i64 (tierC l now)) ∧ Below w.heap.size w w' := by
  by_cases hv : vT l = true
  · by_cases hw : inR now 0 1000 = true
    · have ho := okArgs_of hv hw
      have hE : tierC l now = costTo l now l.length := by unfold tierC; rw [ho]; rfl
      rw [hE]
      have HN := Lib.hid hn
      have HV := Lib.hid (VT_of hv)
      have hw' : 0 ≤ now ∧ now ≤ 1000 := by simpa [inR] using hw
      obtain ⟨t1, t2⟩ := hw'
      have hn4 : n ≤ 4 := by rw [← HN.out]; exact HV.out.2.1
      clear hn hE
      go_enter Try.func22, Try.ntmps22
      go_wp2_with fail
      refine (specValidTiers_any A n c l _ HN.out hm hr).mono ?_
      rintro e w1 ⟨rfl, hb1⟩
      rw [hv]
      go_wp2_with fail
      refine (inRange_any _ _ _ _).mono ?_
      rintro e w' ⟨rfl, rfl⟩
      rw [hw]
      go_wp2
      go_loopw [5, 6] (fun s i wr => ∃ k : Nat, k ≤ n ∧ i = .int .i64 k ∧ s = .int .i64 (costTo l now k) ∧ Below w.heap.size w wr) (fun _ i _ => n - (intOf i).toNat)
      case atStart => exact ⟨0, by omega, rfl, rfl, hb1⟩
      case round =>
        obtain ⟨k, hk, rfl, rfl, hb⟩ := hrel
        clear hb1
        obtain ⟨d0, d1⟩ := costTo_bd (l := l) t1 t2 k (fun i hi => (VT_pos HV.out (i := i) (by rw [HN.out]; omega)).1)
        by_cases hlt : k < n
        · obtain ⟨b', off', rfl, hbb', hc'⟩ := hr.at_ (by rw [HN.out]; omega)
          obtain ⟨hd0, hd1⟩ := hc' k (by rw [HN.out]; exact hlt)
          rw [← hb.cell (by exact hbb')] at hd0 hd1
          have hbw := Nat.lt_of_lt_of_le hbb' hb.size
          obtain ⟨o1, o2, o3, o4⟩ := VT_pos HV.out (i := k) (by rw [HN.out]; exact hlt)
          obtain ⟨e0, e1⟩ := costE_bd (l := l) (i := k) o1 t1 t2
          have p0 : 0 ≤ oldE l now k := oldI_nonneg _ _ _ o1
          clear hc' hr
          go_wp2_with fail
          refine (oldest_any _ _ _ _ o1 o2 o3 o4 t1 t2).mono ?_
          rintro e w2 ⟨rfl, hb2⟩
          have hbW := kept_trans hb hb2
          rw [← (hb2.cell (by exact hbw))] at hd0 hd1
          clear hb hb2
          rw [show oldI (x1 l k) (x2 l k) now = oldE l now k from rfl]
          by_cases hf : oldE l now k ≤ now
          · have hq : (now - oldE l now k) / x1 l k + 1 = costE l now k := by unfold costE; rw [if_pos hf]
            have HQ := Lib.hid hq
            have q0 : 0 ≤ (now - oldE l now k) / x1 l k := Int.ediv_nonneg (by omega) (by omega)
            have q1 : (now - oldE l now k) / x1 l k ≤ 1000 := by omega
            clear hq
            go_wp2
            go_roundw
            case rel => exact ⟨k + 1, by omega, by go_num, by simp only [costTo]; rw [← HQ.out, Int.add_assoc], hbW⟩
            case measure => simp [intOf]; omega
          · have hq : costE l now k = 0 := by unfold costE; rw [if_neg hf]
            have HQ := Lib.hid hq
            clear hq
            go_wp2
            go_roundw
            case rel => exact ⟨k + 1, by omega, by go_num, by simp only [costTo]; rw [HQ.out, Int.add_zero], hbW⟩
            case measure => simp [intOf]; omega
        · clear hr
          go_wp2
          go_ret
          exact ⟨ret_int (by rw [HN.out]; have e : n = k := by omega
                             rw [e]), hb⟩
    · have hw' : inR now 0 1000 = false := by simpa using hw
      have hE : tierC l now = -1 := by unfold tierC okArgs; rw [hw', Bool.and_false]; rfl
      rw [hE]
      go_enter Try.func22, Try.ntmps22
      go_wp2_with fail
      refine (specValidTiers_any A n c l _ hn hm hr).mono ?_
      rintro e w1 ⟨rfl, hb1⟩
      rw [hv]
      go_wp2_with fail
      refine (inRange_any _ _ _ _).mono ?_
      rintro e w' ⟨rfl, rfl⟩
      rw [hw']
      go_wp2
      go_ret
      exact ⟨rfl, hb1⟩
  · have hv' : vT l = false := by simpa using hv
    have hE : tierC l now = -1 := by unfold tierC okArgs; rw [hv', Bool.false_and]; rfl
    rw [hE]
    go_enter Try.func22, Try.ntmps22
    go_wp2_with fail
    refine (specValidTiers_any A n c l _ hn hm hr).mono ?_
    rintro e w1 ⟨rfl, hb1⟩
    rw [hv']
    go_wp2
    go_ret
    exact ⟨rfl, hb1⟩
end Go.Proofs.Ytheckdenoomhjaa
