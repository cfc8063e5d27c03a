/-
  Walks: FnKeepLabelsAll, FnKeepLabels.
-/
import Derived.Test.YtjmdcdeccchlcaaLabL3
import Derived.Test.YtjmdcdeccchlcaaKeepFn3
namespace Go.Proofs.Ytjmdcdeccchlcaa
open Go.RowKit
set_option maxHeartbeats 4000000 in
theorem fnKeepLabelsAll_any (A : Option Addr) (n c : Nat) (w : World) (hm : n ≤ 9223372036854775807) (hc : n ≤ c) (hr : RdB w w.heap.size A n) :
    Calls Try.prog 10 #[.slice A n c] w fun e w' => e = .returned (.bool true) ∧ Below w.heap.size w w' := by
  obtain ⟨i0, hi, hz0, hz1, hz2⟩ := info_parts infoString
  by_cases hbig : (1048576 : Int) < n
  · go_enter Try.func10, Try.ntmps10
    go_wp2
    go_ret
    exact ⟨rfl, Below.refl _ _⟩
  · go_enter Try.func10, Try.ntmps10
    go_wp2_with fail
    refine (drawKeepLabels_any A n c _ hm hc hr).mono ?_
    rintro e w1 ⟨A2, c2, m, l, B2, d2, q, names, rfl, hl, hm2, hcap, hsz, hq, hq2, hqd, hsz2, hrd, hrn, hb1⟩
    have HL := Lib.hid (And.intro hl (And.intro hsz (And.intro hq hsz2)))
    have hkl : (keepV l names).length ≤ 5 := Nat.le_trans (keepV_len l names) (by omega)
    clear hl hr hsz hq hsz2
    go_wp2_with fail
    refine (keepLabels_any A2 m c2 l B2 q d2 names _ HL.out.1 hrd HL.out.2.2.1 (by omega) hrn).mono ?_
    intro e w2 h2
    obtain ⟨A3, c3, rfl, hr3, hcap3, hb2⟩ := h2.own
    have hb3 := kept_trans hb1 hb2
    have hrd3 := RdG.next hrd hb2
    have hrn3 := RdG.next hrn hb2
    clear hb1 hb2 hrd hrn h2
    go_wp2_with fail
    refine (specKeepLabels_any A2 m c2 l B2 q d2 names _ HL.out.1 (by omega) HL.out.2.1 hrd3 HL.out.2.2.1 (by omega) hrn3).mono ?_
    intro e w4 h4
    obtain ⟨A5, c5, rfl, hr5, hcap5, hb4⟩ := h4.own
    have hb5 := kept_trans hb3 hb4
    have hrd5 := RdG.next hrd3 hb4
    have hrn5 := RdG.next hrn3 hb4
    have hx5 := RdG.next hr3 hb4
    clear hb3 hb4 hrd3 hrn3 hr3 h4
    go_wp2_with fail
    refine (equalLabels_any A3 _ c3 _ A5 _ c5 _ _ rfl rfl (by omega) hx5 hr5).mono ?_
    rintro e w6 ⟨rfl, hb6⟩
    rw [eqLs_refl]
    have hb7 := kept_trans hb5 hb6
    have hrd7 := RdG.next hrd5 hb6
    have hrn7 := RdG.next hrn5 hb6
    have hx7 := RdG.next hx5 hb6
    clear hb5 hb6 hrd5 hrn5 hx5 hr5
    go_wp2_with fail
    refine (validLabels_any A2 m c2 l _ HL.out.1 hrd7).mono ?_
    rintro e w8 ⟨rfl, hb8⟩
    have hb9 := kept_trans hb7 hb8
    have hrd9 := RdG.next hrd7 hb8
    have hrn9 := RdG.next hrn7 hb8
    have hx9 := RdG.next hx7 hb8
    clear hb7 hb8 hrd7 hrn7 hx7
    rcases hv : vL l with _ | _
    · clear hv
      go_wp2_with fail
      refine (specKeepLabels_any A2 m c2 l B2 q d2 names _ HL.out.1 (by omega) HL.out.2.1 hrd9 HL.out.2.2.1 (by omega) hrn9).mono ?_
      intro e w10 h10
      obtain ⟨A11, c11, rfl, hr11, hcap11, hb10⟩ := h10.own
      have hb11 := kept_trans hb9 hb10
      have hx11 := RdG.next hx9 hb10
      clear hb9 hb10 hrd9 hrn9 hx9 h10
      go_wp2_with fail
      refine (equalLabels_any A3 _ c3 _ A11 _ c11 _ _ rfl rfl (by omega) hx11 hr11).mono ?_
      rintro e w12 ⟨rfl, hb12⟩
      rw [eqLs_refl]
      go_wp2
      go_ret
      exact ⟨rfl, kept_trans hb11 hb12⟩
    · have HV := Lib.hid hv
      have hbE := kept_alloc (Below.refl w8.heap.size w8) (Obj.cells #[] 9)
      have HRE := Lib.hid (RdG.rdN (RdG.next hrn9 hbE) HL.out.2.2.1)
      have HOE := Lib.hid (show (w8.alloc (Obj.cells #[] 9)).ownsRow w8.heap.size 9 1 (.slice (some ⟨w8.heap.size, 0, none⟩) 0 0) 0 [] from World.ownsRow_made w8 #[] 0 (Nat.le_refl _) (by unfold maxLen; omega) rfl)
      have HX := Lib.hid (And.intro hrd9 hb9)
      clear hv hrd9 hrn9 hx9 hb9
      go_wp2_with (at_builtin; refine wpList_append_rd _ rfl _ _ _ rfl w8.heap.size 9 i0 _ 1 16 Try.underlying48 hi hz0 hz1 hz2 rfl (by omega) _ 0 [] rfl HOE.out _ _ q _ (cellsG encS 1 names) rfl HRE.out (one_cellsS names) (by simp only [maxLen]; omega) (by omega) (by simp) ?_; intro A10 c10 w10 hown10 hgrow)
      have hb10 := below_own hbE HOE.out hgrow
      rw [List.nil_append, Nat.zero_add] at hown10
      have HO := Lib.hid (show w10.ownsRow w8.heap.size 9 1 (.slice A10 q c10) q (rowG encS 1 names) by unfold rowG; rw [HL.out.2.2.1]; exact hown10)
      clear hbE hgrow hown10
      go_wp2
      go_loopw [6, 7] (fun v i wr => ∃ (k z : Nat) (A' : Option Addr) (c' : Nat) (all : List ByteArray), v = .slice A' z c' ∧ i = .int .i64 k ∧ k ≤ m ∧ all.length = z ∧ z ≤ 3 + k ∧ all = names ++ (l.take k).map (·.1) ∧ wr.ownsRow w8.heap.size 9 1 (.slice A' z c') z (rowG encS 1 all) ∧ Below w8.heap.size w8 wr) (fun _ i _ => m - (intOf i).toNat)
      case atStart => exact ⟨0, q, _, _, names, rfl, rfl, by omega, HL.out.2.2.1, by omega, by simp, HO.out, hb10⟩
      case round =>
        obtain ⟨k, z, A', c', all, rfl, rfl, hk, hz, hzk, hall, hown, hb⟩ := hrel
        have HZ := Lib.hid hz
        have HA := Lib.hid hall
        have hrr := RdG.to HX.out.1 hb
        clear HO hb10 hz hall
        by_cases hlt : k < m
        · have hki : (k : Int) < (m : Int) := by omega
          obtain ⟨b, off, rfl, hbb, hcc⟩ := RdL.at_ hrr (by rw [HL.out.1]; omega)
          have hc0 := (hcc k (by rw [HL.out.1]; exact hlt)).1
          have HN := Lib.hid (names_succ (l := l) (k := k) (by rw [HL.out.1]; exact hlt))
          have hwr := hb.size
          clear hcc hrr
          go_wp2_with (at_builtin; refine wpList_append_lies _ rfl _ _ _ rfl (w8.heap.size) 9 i0 _ 1 16 Try.underlying48 hi hz0 hz1 hz2 rfl (by omega) _ (z) (rowG encS 1 all) rfl ((hown).alloc _) ⟨wr.heap.size, 0, none⟩ 1 1 ([.string (at0 l k).1]) rfl rfl (World.news_of_block (cs := ([.string (at0 l k).1]).toArray) (t := 9) (fr := (0, 0)) (heap_alloc_new wr _)) (by simp [Value.oneCell']) (by omega) (by simp only [maxLen]; omega) (by omega) (by simp; omega) (wr.heap.size + 1) (by simp) ?_; intro gg cap w2 hown2 hgrow hat hlt2)
          have hb2 := below_app' hb hown hgrow
          rw [← rowS_snoc] at hown2
          clear hgrow hat hown hb
          go_wp2
          go_roundw
          case rel => exact ⟨k + 1, z + 1, _, _, _, rfl, by go_num, by omega, by rw [List.length_append, HZ.out]; rfl, by omega, by rw [HN.out, HA.out, List.append_assoc], hown2, hb2⟩
          case measure => simp [intOf]; omega
        · have HK := Lib.hid (keepV_every' (names := names) (all := all) HV.out (by rw [HA.out, HL.out.1, show k = m by omega]))
          have hrS := own_rdG hown HZ.out
          clear hown
          go_wp2_with fail
          refine (keepLabels_any A2 m c2 l A' z c' all _ HL.out.1 hrr HZ.out (by omega) hrS).mono ?_
          rw [HK.out]
          intro e w12 h12
          obtain ⟨A13, c13, rfl, hr13, hcap13, hb12⟩ := h12.own
          have hb13 := kept_trans hb hb12
          have hrd13 := RdG.next hrr hb12
          clear hb hb12 hrr hrS h12
          go_wp2_with fail
          refine (equalLabels_any A13 _ c13 _ A2 m c2 l _ rfl HL.out.1 (by rw [HL.out.1]; omega) hr13 hrd13).mono ?_
          rintro e w14 ⟨rfl, hb14⟩
          rw [eqLs_refl]
          go_wp2
          go_ret
          exact ⟨rfl, kept_trans HX.out.2 (kept_trans hb13 hb14)⟩
set_option maxHeartbeats 4000000 in
theorem fnKeepLabels_any (A : Option Addr) (n c : Nat) (w : World) (hm : n ≤ 9223372036854775807) (hc : n ≤ c) (hr : RdB w w.heap.size A n) :
    Calls Try.prog 9 #[.slice A n c] w fun e w' => e = .returned (.bool true) ∧ Below w.heap.size w w' := by
  by_cases hbig : (1048576 : Int) < n
  · go_enter Try.func9, Try.ntmps9
    go_wp2
    go_ret
    exact ⟨rfl, Below.refl _ _⟩
  · go_enter Try.func9, Try.ntmps9
    go_wp2_with fail
    refine (drawKeepLabels_any A n c _ hm hc hr).mono ?_
    rintro e w1 ⟨A2, c2, m, l, B2, d2, q, names, rfl, hl, hm2, hcap, hsz, hq, hq2, hqd, hsz2, hrd, hrn, hb1⟩
    have HL := Lib.hid (And.intro hl (And.intro hsz (And.intro hq hsz2)))
    have hkl : (keepV l names).length ≤ 5 := Nat.le_trans (keepV_len l names) (by omega)
    clear hl hr hsz hq hsz2
    go_wp2_with fail
    refine (keepLabels_any A2 m c2 l B2 q d2 names _ HL.out.1 hrd HL.out.2.2.1 (by omega) hrn).mono ?_
    intro e w2 h2
    obtain ⟨A3, c3, rfl, hr3, hcap3, hb2⟩ := h2.own
    have hb3 := kept_trans hb1 hb2
    have hrd3 := RdG.next hrd hb2
    have hrn3 := RdG.next hrn hb2
    clear hb1 hb2 hrd hrn h2
    go_wp2_with fail
    refine (specKeepLabels_any A2 m c2 l B2 q d2 names _ HL.out.1 (by omega) HL.out.2.1 hrd3 HL.out.2.2.1 (by omega) hrn3).mono ?_
    intro e w4 h4
    obtain ⟨A5, c5, rfl, hr5, hcap5, hb4⟩ := h4.own
    have hb5 := kept_trans hb3 hb4
    have hrd5 := RdG.next hrd3 hb4
    have hrn5 := RdG.next hrn3 hb4
    have hx5 := RdG.next hr3 hb4
    clear hb3 hb4 hrd3 hrn3 hr3 h4
    go_wp2_with fail
    refine (equalLabels_any A3 _ c3 _ A5 _ c5 _ _ rfl rfl (by omega) hx5 hr5).mono ?_
    rintro e w6 ⟨rfl, hb6⟩
    rw [eqLs_refl]
    have hb7 := kept_trans hb5 hb6
    have hrd7 := RdG.next hrd5 hb6
    have hrn7 := RdG.next hrn5 hb6
    have hx7 := RdG.next hx5 hb6
    clear hb5 hb6 hrd5 hrn5 hx5 hr5
    go_wp2_with fail
    refine (validLabels_any A2 m c2 l _ HL.out.1 hrd7).mono ?_
    rintro e w8 ⟨rfl, hb8⟩
    have hb9 := kept_trans hb7 hb8
    have hrd9 := RdG.next hrd7 hb8
    have hrn9 := RdG.next hrn7 hb8
    have hx9 := RdG.next hx7 hb8
    clear hb7 hb8 hrd7 hrn7 hx7
    rcases hv : vL l with _ | _
    · clear hv
      go_wp2_with fail
      refine (specKeepLabels_any A2 m c2 l B2 q d2 names _ HL.out.1 (by omega) HL.out.2.1 hrd9 HL.out.2.2.1 (by omega) hrn9).mono ?_
      intro e w10 h10
      obtain ⟨A11, c11, rfl, hr11, hcap11, hb10⟩ := h10.own
      have hb11 := kept_trans hb9 hb10
      have hx11 := RdG.next hx9 hb10
      clear hb9 hb10 hrd9 hrn9 hx9 h10
      go_wp2_with fail
      refine (equalLabels_any A3 _ c3 _ A11 _ c11 _ _ rfl rfl (by omega) hx11 hr11).mono ?_
      rintro e w12 ⟨rfl, hb12⟩
      rw [eqLs_refl]
      go_wp2
      go_ret
      exact ⟨rfl, kept_trans hb11 hb12⟩
    · have HV := Lib.hid hv
      have HKV := Lib.hid (keepV_ok (names := names) hv)
      have HVV := Lib.hid (keepV_valid l names hv)
      have HX := Lib.hid (And.intro hrd9 (And.intro hrn9 hx9))
      clear hv hrd9 hrn9 hx9
      go_wp2
      go_loopw [6, 7] (fun v i wr => ∃ (k z : Nat), v = .int .i64 z ∧ i = .int .i64 k ∧ k ≤ m ∧ z ≤ k ∧ z = (keepL (l.take k) names).length ∧ Below w8.heap.size w8 wr) (fun _ i _ => m - (intOf i).toNat)
      case atStart => exact ⟨0, 0, rfl, rfl, by omega, by omega, rfl, Below.refl _ _⟩
      case round =>
        obtain ⟨k, z, rfl, rfl, hk, hzk, hz, hb⟩ := hrel
        have HZ := Lib.hid hz
        clear hz
        by_cases hlt : k < m
        · have hki : (k : Int) < (m : Int) := by omega
          have hln : k < l.length := by rw [HL.out.1]; exact hlt
          go_wp2
          go_loopw [8, 9] (fun v i wr => ∃ (j : Nat), v = .bool (hasN (names.take j) (at0 l k).1) ∧ i = .int .i64 j ∧ j ≤ q ∧ Below w8.heap.size w8 wr) (fun _ i _ => q - (intOf i).toNat)
          case atStart => exact ⟨0, rfl, rfl, by omega, hb⟩
          case round =>
            obtain ⟨j, rfl, rfl, hj, hbq⟩ := hrel
            clear hb
            by_cases hjt : j < q
            · have hji : (j : Int) < (q : Int) := by omega
              have hjl : j < names.length := by rw [HL.out.2.2.1]; exact hjt
              have hr1 := RdG.below HX.out.1 hbq
              have hr2 := RdG.below HX.out.2.1 hbq
              obtain ⟨b, off, rfl, hbb, hcc⟩ := RdL.at_ hr1 (by rw [HL.out.1]; omega)
              have hc0 := (hcc k (by rw [HL.out.1]; exact hlt)).1
              obtain ⟨b', off', rfl, hbb', hcc'⟩ := RdS.at_ hr2 (by rw [HL.out.2.2.1]; omega)
              have hd0 := hcc' j (by rw [HL.out.2.2.1]; exact hjt)
              have HT := Lib.hid (hasN_take_succ (s := (at0 l k).1) hjl)
              have HB := Lib.hid hbq
              clear hcc hcc' hr1 hr2 hbq
              rcases hh : hasN (names.take j) (at0 l k).1 with _ | _
              · have HH := Lib.hid hh
                rcases he : eqB (at0 names j) (at0 l k).1 with _ | _
                · have HE := Lib.hid he
                  have hw := eqB_walk he
                  clear hh he
                  go_wp2_with fail
                  go_quiet (fail)
                  go_wp2
                  go_roundw
                  case rel => exact ⟨j + 1, by rw [HT.out, HH.out, HE.out]; rfl, by go_num, by omega, kept_drewN HB.out _⟩
                  case measure => simp [intOf]; omega
                · have HE := Lib.hid he
                  have hw := eqB_walk he
                  clear hh he
                  go_wp2_with fail
                  go_quiet (fail)
                  go_wp2
                  go_roundw
                  case rel => exact ⟨j + 1, by rw [HT.out, HH.out, HE.out]; rfl, by go_num, by omega, kept_drewN HB.out _⟩
                  case measure => simp [intOf]; omega
              · have HH := Lib.hid hh
                clear hh hc0 hd0
                go_wp2_with fail
                go_quiet (fail)
                go_wp2
                go_roundw
                case rel => exact ⟨j + 1, by rw [HT.out, HH.out]; rfl, by go_num, by omega, kept_drewN HB.out _⟩
                case measure => simp [intOf]; omega
            · have HA := Lib.hid (hasN_take_all (names := names) (s := (at0 l k).1) (k := j) (by rw [HL.out.2.2.1]; omega))
              rcases hh : hasN (names.take j) (at0 l k).1 with _ | _
              · have HN := Lib.hid (keepL_not (names := names) hln (by rw [← HA.out]; exact hh))
                clear hh
                go_wp2
                go_roundw
                case rel => exact ⟨k + 1, z, rfl, by go_num, by omega, by omega, by rw [HN.out]; exact HZ.out, hbq⟩
                case measure => simp [intOf]; omega
              · have hsp := keep_split (names := names) hln (by rw [← HA.out]; exact hh)
                have HN := Lib.hid (keepL_yes (names := names) hln (by rw [← HA.out]; exact hh))
                rw [← HZ.out, ← HKV.out] at hsp
                have HS := Lib.hid hsp.2
                have hzl : (z : Int) < ((keepV l names).length : Int) := by have := hsp.1; omega
                have hzl2 : decide (((keepV l names).length : Int) ≤ (z : Int)) = false := decide_eq_false (by omega)
                have hzl3 : decide ((keepV l names).length ≤ z) = false := decide_eq_false (by omega)
                have hr1 := RdG.below HX.out.1 hbq
                have hr2 := RdG.below HX.out.2.2 hbq
                obtain ⟨b, off, rfl, hbb, hcc⟩ := RdL.at_ hr1 (by rw [HL.out.1]; omega)
                obtain ⟨hc0, hc1⟩ := hcc k (by rw [HL.out.1]; exact hlt)
                obtain ⟨b', off', rfl, hbb', hcc'⟩ := RdL.at_ hr2 (by omega)
                obtain ⟨hd0, hd1⟩ := hcc' z (by omega)
                rw [HS.out] at hd0 hd1
                have e1 := eqB_walk (eqB_refl (at0 l k).1)
                have e2 := eqB_walk (eqB_refl (at0 l k).2)
                have HB := Lib.hid hbq
                have hz10 : z ≤ 10 := by omega
                clear hh hsp hcc hcc' hr1 hr2 hbq
                go_wp2_with fail
                go_quiet (fail)
                go_wp2
                go_roundw
                case rel => exact ⟨k + 1, z + 1, by go_num, by go_num, by omega, by omega, by rw [HN.out, List.length_append, ← HZ.out]; rfl, kept_drewN HB.out _⟩
                case measure => simp [intOf]; omega
        · have HA := Lib.hid (keepL_all (l := l) (names := names) (k := k) (by rw [HL.out.1]; omega))
          have hzz : z = (keepV l names).length := by rw [HZ.out, HA.out, HKV.out]
          have hzq : ((z : Int) == ((keepV l names).length : Int)) = true := by rw [hzz]; simp
          have hr2 := RdG.to HX.out.2.2 hb
          clear hzz
          go_wp2_with fail
          refine (validLabels_any A3 _ c3 (keepV l names) _ rfl hr2).mono ?_
          rintro e w10 ⟨rfl, hb10⟩
          rw [HVV.out]
          have hb11 := kept_trans hb9 (kept_trans hb hb10)
          clear hb hb10 hr2
          go_wp2
          go_ret
          exact ⟨rfl, hb11⟩
end Go.Proofs.Ytjmdcdeccchlcaa
