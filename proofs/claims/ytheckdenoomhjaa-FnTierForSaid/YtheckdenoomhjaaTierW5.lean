/-
  Walks: impl.TierFor, spec.TierFor, impl.TierCost, spec.TierCost.
-/
import Derived.Test.YtheckdenoomhjaaTierW4
namespace Go.Proofs.Ytheckdenoomhjaa
open Go.RowKit
set_option maxHeartbeats 1000000 in
theorem tierFor_any (A : Option Addr) (n c : Nat) (l : List (Int × Int)) (now fr : Int) (w : World) (hn : l.length = n) (hm : n ≤ 1000000000000) (hr : Rd2 w w.heap.size A l) :
    Calls Try.prog 21 #[.slice A n c, .int .i64 now, .int .i64 fr] w fun e w' => e = .returned (.int .i64 (tierF l now fr)) ∧ Below w.heap.size w w' := by
  by_cases ht : inR fr 0 1000 = true
  · by_cases ho : okArgs l now = true
    · have hE : tierF l now fr = findT l now fr := by unfold tierF; rw [ho, ht]; rfl
      rw [hE]
      have HN := Lib.hid hn
      clear hn hE
      go_enter Try.func21, Try.ntmps21
      go_wp2_with fail
      refine (validTime_any _ _).mono ?_
      rintro e w' ⟨rfl, rfl⟩
      rw [ht]
      go_wp2_with fail
      refine (oldestKept_any A n c l now _ HN.out hm hr).mono ?_
      rintro e w1 ⟨A1, c1, rfl, hown, hb1⟩
      rw [oldL_ok ho, oldTo_len, HN.out] at hown ⊢
      have hrd := own_rd1 hown (by rw [oldTo_len])
      clear hown hr
      go_wp2
      go_loop [16] (fun i => ∃ k : Nat, k ≤ n ∧ i = .int .i64 k ∧ noneTo l now fr k) (fun i => n - (intOf i).toNat)
      case atStart => exact ⟨0, by omega, rfl, noneTo_zero _ _ _⟩
      case round =>
        obtain ⟨k, hk, rfl, hs⟩ := hrel
        by_cases hlt : k < n
        · obtain ⟨b, off, rfl, hbb, hc⟩ := hrd.at_ (by rw [oldTo_len]; omega)
          have hc0 := hc k (by rw [oldTo_len]; exact hlt)
          rw [xi_oldTo _ _ hlt] at hc0
          clear hc hrd
          by_cases hf : oldE l now k ≤ fr
          · go_wp2
            go_ret
            exact ⟨ret_int (findT_hit (by rw [HN.out]; exact hlt) hs hf).symm, hb1⟩
          · go_wp2
            go_round
            case rel => exact ⟨k + 1, by omega, by go_num, noneTo_succ hs (by omega)⟩
            case measure => simp [intOf]; omega
        · clear hrd
          go_wp2
          go_ret
          exact ⟨ret_int (findT_none (by rw [HN.out]; have e : n = k := by omega
                                         rw [e]; exact hs)).symm, hb1⟩
    · have ho' : okArgs l now = false := by simpa using ho
      have hE : tierF l now fr = -1 := by unfold tierF; rw [ho']; rfl
      rw [hE]
      have HN := Lib.hid hn
      clear hn hE
      go_enter Try.func21, Try.ntmps21
      go_wp2_with fail
      refine (validTime_any _ _).mono ?_
      rintro e w' ⟨rfl, rfl⟩
      rw [ht]
      go_wp2_with fail
      refine (oldestKept_any A n c l now _ HN.out hm hr).mono ?_
      rintro e w1 ⟨A1, c1, rfl, hown, hb1⟩
      rw [oldL_no ho'] at hown ⊢
      clear hown hr
      go_wp2
      go_loop [16] (fun i => i = .int .i64 0) (fun i => 0)
      case atStart => exact rfl
      case round =>
        subst hrel
        go_wp2
        go_ret
        exact ⟨rfl, hb1⟩
  · have ht' : inR fr 0 1000 = false := by simpa using ht
    have hE : tierF l now fr = -1 := by unfold tierF; rw [ht', Bool.and_false]; rfl
    rw [hE]
    go_enter Try.func21, Try.ntmps21
    go_wp2_with fail
    refine (validTime_any _ _).mono ?_
    rintro e w' ⟨rfl, rfl⟩
    rw [ht']
    go_wp2
    go_ret
    exact ⟨rfl, Below.refl _ _⟩

set_option maxHeartbeats 1000000 in
theorem specTierFor_any (A : Option Addr) (n c : Nat) (l : List (Int × Int)) (now fr : Int) (w : World) (hn : l.length = n) (hm : n ≤ 1000000000000) (hr : Rd2 w w.heap.size A l) :
    Calls Try.prog 20 #[.slice A n c, .int .i64 now, .int .i64 fr] w fun e w' => e = .returned (.int .i64 (tierF l now fr)) ∧ Below w.heap.size w w' := by
  by_cases hv : vT l = true
  · by_cases hw : inR now 0 1000 = true
    · by_cases ht : inR fr 0 1000 = true
      · have hE : tierF l now fr = findT l now fr := by unfold tierF okArgs; rw [hv, hw, ht]; rfl
        rw [hE]
        have HN := Lib.hid hn
        have HV := Lib.hid (VT_of hv)
        have hw' : 0 ≤ now ∧ now ≤ 1000 := by simpa [inR] using hw
        obtain ⟨t1, t2⟩ := hw'
        clear hn hE
        go_enter Try.func20, Try.ntmps20
        go_wp2_with fail
        refine (specValidTiers_any A n c l _ HN.out hm hr).mono ?_
        rintro e w1 ⟨rfl, hb1⟩
        rw [hv]
        go_wp2_with fail
        refine (inRange_any _ _ _ _).mono ?_
        rintro e w' ⟨rfl, rfl⟩
        rw [hw]
        go_wp2_with fail
        refine (inRange_any _ _ _ _).mono ?_
        rintro e w' ⟨rfl, rfl⟩
        rw [ht]
        go_wp2
        go_loopw [7] (fun i wr => ∃ k : Nat, k ≤ n ∧ i = .int .i64 k ∧ noneTo l now fr k ∧ Below w.heap.size w wr) (fun i _ => n - (intOf i).toNat)
        case atStart => exact ⟨0, by omega, rfl, noneTo_zero _ _ _, hb1⟩
        case round =>
          obtain ⟨k, hk, rfl, hs, hb⟩ := hrel
          clear hb1
          by_cases hlt : k < n
          · obtain ⟨b, off, rfl, hbb, hc⟩ := hr.at_ (by rw [HN.out]; omega)
            obtain ⟨hc0, hc1⟩ := hc k (by rw [HN.out]; exact hlt)
            rw [← hb.cell (by exact hbb)] at hc0 hc1
            clear hc hr
            obtain ⟨o1, o2, o3, o4⟩ := VT_pos HV.out (i := k) (by rw [HN.out]; exact hlt)
            go_wp2_with fail
            refine (oldest_any _ _ _ _ o1 o2 o3 o4 t1 t2).mono ?_
            rintro e w2 ⟨rfl, hb2⟩
            have hbW := kept_trans hb hb2
            clear hb hb2 hc0 hc1
            rw [show oldI (x1 l k) (x2 l k) now = oldE l now k from rfl]
            by_cases hf : oldE l now k ≤ fr
            · go_wp2
              go_ret
              exact ⟨ret_int (findT_hit (by rw [HN.out]; exact hlt) hs hf).symm, hbW⟩
            · go_wp2
              go_roundw
              case rel => exact ⟨k + 1, by omega, by go_num, noneTo_succ hs (by omega), hbW⟩
              case measure => simp [intOf]; omega
          · clear hr
            go_wp2
            go_ret
            exact ⟨ret_int (findT_none (by rw [HN.out]; have e : n = k := by omega
                                           rw [e]; exact hs)).symm, hb⟩
      · have ht' : inR fr 0 1000 = false := by simpa using ht
        have hE : tierF l now fr = -1 := by unfold tierF; rw [ht', Bool.and_false]; rfl
        rw [hE]
        go_enter Try.func20, Try.ntmps20
        go_wp2_with fail
        refine (specValidTiers_any A n c l _ hn hm hr).mono ?_
        rintro e w1 ⟨rfl, hb1⟩
        rw [hv]
        go_wp2_with fail
        refine (inRange_any _ _ _ _).mono ?_
        rintro e w' ⟨rfl, rfl⟩
        rw [hw]
        go_wp2_with fail
        refine (inRange_any _ _ _ _).mono ?_
        rintro e w' ⟨rfl, rfl⟩
        rw [ht']
        go_wp2
        go_ret
        exact ⟨rfl, hb1⟩
    · have hw' : inR now 0 1000 = false := by simpa using hw
      have hE : tierF l now fr = -1 := by unfold tierF okArgs; rw [hw', Bool.and_false, Bool.false_and]; rfl
      rw [hE]
      go_enter Try.func20, Try.ntmps20
      go_wp2_with fail
      refine (specValidTiers_any A n c l _ hn hm hr).mono ?_
      rintro e w1 ⟨rfl, hb1⟩
      rw [hv]
      go_wp2_with fail
      refine (inRange_any _ _ _ _).mono ?_
      rintro e w' ⟨rfl, rfl⟩
      rw [hw']
      go_wp2
      go_ret
      exact ⟨rfl, hb1⟩
  · have hv' : vT l = false := by simpa using hv
    have hE : tierF l now fr = -1 := by unfold tierF okArgs; rw [hv', Bool.false_and, Bool.false_and]; rfl
    rw [hE]
    go_enter Try.func20, Try.ntmps20
    go_wp2_with fail
    refine (specValidTiers_any A n c l _ hn hm hr).mono ?_
    rintro e w1 ⟨rfl, hb1⟩
    rw [hv']
    go_wp2
    go_ret
    exact ⟨rfl, hb1⟩
end Go.Proofs.Ytheckdenoomhjaa
