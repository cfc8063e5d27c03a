/-
  Walks: slices.Contains at texts, KeepLabels of both packages.
-/
import Derived.Test.YtjmdcdeccchlcaaKeepFn
import Derived.Test.YtjmdcdeccchlcaaLabCopy
import Derived.Deep.Onto
namespace Go.Proofs.Ytjmdcdeccchlcaa
open Go.RowKit
def IdxP (b : Bool) (w : World) (e : Ending) (w' : World) : Prop := ∃ r : Int, e = .returned (.int .i64 r) ∧ b = decide (0 ≤ r) ∧ w = w'
set_option maxHeartbeats 1000000 in
theorem indexS_any (A : Option Addr) (n c : Nat) (names : List ByteArray) (s : ByteArray) (w : World) (hn : names.length = n) (hm : n ≤ 1000000000000) (hr : RdS w w.heap.size A names) :
    Calls Try.prog 71 #[.slice A n c, .string s] w (IdxP (hasN names s) w) := by
  have HN := Lib.hid hn
  clear hn
  go_enter Try.func71, Try.ntmps71
  go_wp2
  go_loop [8] (fun i => ∃ k : Nat, k ≤ n ∧ i = .int .i64 k ∧ noIn names s k) (fun i => n - (intOf i).toNat)
  case atStart => exact ⟨0, by omega, rfl, noIn_zero names s⟩
  case round =>
    obtain ⟨k, hk, rfl, hok⟩ := hrel
    have HK := Lib.hid hok
    clear hok
    by_cases hlt : k < n
    · have hki : (k : Int) < (n : Int) := by omega
      obtain ⟨b, off, rfl, hbb, hc⟩ := hr.at_ (by rw [HN.out]; omega)
      have hc0 := hc k (by rw [HN.out]; exact hlt)
      have hln : k < names.length := by rw [HN.out]; exact hlt
      clear hc hr
      rcases he : eqB s (at0 names k) with _ | _
      · have H0 := Lib.hid (noIn_succ HK.out he)
        have hw := eqB_walk he
        clear he
        go_wp2
        go_round
        case rel => exact ⟨k + 1, by omega, by go_num, H0.out⟩
        case measure => simp [intOf]; omega
      · have H0 := Lib.hid (hasN_at hln he)
        have hw := eqB_walk he
        clear he
        go_wp2
        go_ret
        exact ⟨k, rfl, by rw [H0.out]; exact (decide_eq_true (by omega)).symm, rfl⟩
    · have H0 := Lib.hid (hasN_none HK.out (by rw [HN.out]; omega))
      clear hr
      go_wp2
      go_ret
      exact ⟨-1, rfl, by rw [H0.out]; rfl, rfl⟩
theorem containsS_any (A : Option Addr) (n c : Nat) (names : List ByteArray) (s : ByteArray) (w : World) (hn : names.length = n) (hm : n ≤ 1000000000000) (hr : RdS w w.heap.size A names) :
    Calls Try.prog 58 #[.slice A n c, .string s] w fun e w' => e = .returned (.bool (hasN names s)) ∧ w = w' := by
  have HN := Lib.hid hn
  clear hn
  go_enter Try.func58, Try.ntmps58
  go_wp2_with fail
  refine (indexS_any A n c names s _ HN.out hm hr).mono ?_
  rintro e w1 ⟨r, rfl, hb, rfl⟩
  have HB := Lib.hid hb
  clear hb hr
  by_cases h : 0 ≤ r
  · go_wp2
    go_ret
    exact ⟨ret_bool (HB.out.trans (decide_eq_true h)).symm, rfl⟩
  · go_wp2
    go_ret
    exact ⟨ret_bool HB.out.symm, rfl⟩
set_option maxHeartbeats 2000000 in
theorem keepLabels_any (A : Option Addr) (n c : Nat) (l : List Lb) (B : Option Addr) (m d : Nat) (names : List ByteArray) (w : World) (hn : l.length = n) (hr : RdL w w.heap.size A l) (hm : names.length = m) (hm2 : m ≤ 1000000000000) (hr' : RdS w w.heap.size B names) :
    Calls Try.prog 31 #[.slice A n c, .slice B m d] w (RetG encL 2 46 w (keepV l names)) := by
  have HN := Lib.hid hn
  have HM := Lib.hid hm
  have HR := Lib.hid hr
  have HR' := Lib.hid hr'
  obtain ⟨i0, hi, hz0, hz1, hz2⟩ := info_parts infoLabel
  clear hn hm hr'
  rcases hv : vL l with _ | _
  · have HV := Lib.hid hv
    have HZ := Lib.hid (keepV_no (names := names) hv)
    clear hv
    go_enter Try.func31, Try.ntmps31
    go_wp2_with fail
    refine (validLabels_any A n c l _ HN.out hr).mono ?_
    rintro e w1 ⟨rfl, hb1⟩
    rw [HV.out]
    go_wp2
    go_ret
    exact retG_nil HZ.out hb1
  · have HV := Lib.hid hv
    have HZ := Lib.hid (keepV_ok (names := names) hv)
    have hn4 : n ≤ 4 := by have := (VL_of hv).1; rw [HN.out] at this; exact this
    clear hv
    go_enter Try.func31, Try.ntmps31
    go_wp2_with fail
    refine (validLabels_any A n c l _ HN.out hr).mono ?_
    rintro e w1 ⟨rfl, hb1⟩
    rw [HV.out]
    clear hr
    go_wp2
    go_loopw [5, 13] (fun v i wr => ∃ (k q : Nat) (A' : Option Addr) (c' : Nat) (pre : List Lb), v = .slice A' q c' ∧ i = .int .i64 k ∧ k ≤ n ∧ pre.length = q ∧ q ≤ k ∧ pre = keepL (l.take k) names ∧ wr.ownsRow w.heap.size 46 2 (.slice A' q c') q (rowG encL 2 pre) ∧ Below w.heap.size w wr) (fun _ i _ => n - (intOf i).toNat)
    case atStart => exact ⟨0, 0, none, 0, [], rfl, rfl, by omega, rfl, by omega, rfl, by rw [rowG_nil]; exact World.ownsRow_nil _ _ _ _, hb1⟩
    case round =>
      obtain ⟨k, q, A', c', pre, rfl, rfl, hk, hq, hqk, hpre, hown, hb⟩ := hrel
      have HQ := Lib.hid hq
      have HP := Lib.hid hpre
      clear hb1 hq hpre
      by_cases hlt : k < n
      · have hki : (k : Int) < (n : Int) := by omega
        have hr1 := HR.out.below hb
        obtain ⟨b, off, rfl, hbb, hc⟩ := RdL.at_ hr1 (by rw [HN.out]; omega)
        obtain ⟨hc0, hc1⟩ := hc k (by rw [HN.out]; exact hlt)
        have hln : k < l.length := by rw [HN.out]; exact hlt
        have hbW := kept_alloc hb (Obj.cells #[Value.string (at0 l k).1, Value.string (at0 l k).2] 46)
        have hownW := own_kept hown (kept_alloc (Below.refl _ _) (Obj.cells #[Value.string (at0 l k).1, Value.string (at0 l k).2] 46))
        have hrN := HR'.out.to hbW
        have hsz := hb.size
        clear hc hr1 hown hb
        rcases hh : hasN names (at0 l k).1 with _ | _
        · have HH := Lib.hid hh
          have HX := Lib.hid (keepL_not hln hh)
          have HY := Lib.hid (And.intro hbW hownW)
          clear hh hbW hownW
          go_wp2_with fail
          refine (containsS_any B m d names _ _ HM.out hm2 hrN).mono ?_
          rintro e w2 ⟨rfl, rfl⟩
          rw [HH.out]
          go_wp2
          go_roundw
          case rel => exact ⟨k + 1, q, A', c', pre, rfl, by go_num, by omega, HQ.out, by omega, by rw [HX.out]; exact HP.out, HY.out.2, HY.out.1⟩
          case measure => simp [intOf]; omega
        · have HH := Lib.hid hh
          have HX := Lib.hid (keepL_yes hln hh)
          have q0 : (wr.alloc (Obj.cells #[Value.string (at0 l k).1, Value.string (at0 l k).2] 46)).cell? ⟨wr.heap.size, 0, none⟩ = some (.string (at0 l k).1) := by simp
          have q1 : (wr.alloc (Obj.cells #[Value.string (at0 l k).1, Value.string (at0 l k).2] 46)).cell? ⟨wr.heap.size, 1, none⟩ = some (.string (at0 l k).2) := by simp
          clear hh
          go_wp2_with fail
          generalize (wr.alloc (Obj.cells #[Value.string (at0 l k).1, Value.string (at0 l k).2] 46)) = W at *
          refine (containsS_any B m d names _ _ HM.out hm2 hrN).mono ?_
          rintro e w2 ⟨rfl, rfl⟩
          rw [HH.out]
          have hwr := hbW.size
          go_wp2_with (at_builtin; refine wpList_append_lies _ rfl _ _ _ rfl (w.heap.size) 46 i0 _ 2 32 Try.underlying29 hi hz0 hz1 hz2 rfl (by omega) _ (q) (rowG encL 2 pre) rfl ((hownW).alloc _) ⟨W.heap.size, 0, none⟩ 1 1 ([.string (at0 l k).1, .string (at0 l k).2]) rfl rfl (World.news_of_block (cs := ([.string (at0 l k).1, .string (at0 l k).2]).toArray) (t := 46) (fr := (0, 0)) (heap_alloc_new W _)) (by simp [Value.oneCell']) (by omega) (by simp only [maxLen]; omega) (by omega) (by simp; omega) (W.heap.size + 1) (by simp) ?_; intro gg cap w2 hown2 hgrow hat hlt2)
          have hbW2 := below_app' hbW hownW hgrow
          rw [← rowL_snoc] at hown2
          clear hgrow hat hownW hbW
          go_wp2
          go_roundw
          case rel => exact ⟨k + 1, q + 1, _, _, _, rfl, by go_num, by omega, by rw [List.length_append, HQ.out]; rfl, by omega, by rw [HX.out, HP.out], hown2, hbW2⟩
          case measure => simp [intOf]; omega
      · have HX := Lib.hid (keepL_all (names := names) (l := l) (k := k) (by rw [HN.out]; omega))
        go_wp2
        go_ret
        exact ⟨A', c', by rw [HZ.out, ← HX.out, ← HP.out, HQ.out]; rfl, by rw [HZ.out, ← HX.out, ← HP.out, HQ.out]; exact hown, hb⟩
set_option maxHeartbeats 4000000 in
theorem keep_any (A : Option Addr) (n c : Nat) (l : List Lb) (B : Option Addr) (m d : Nat) (names : List ByteArray) (w : World) (hn : l.length = n) (hn2 : n ≤ 1000000) (hr : RdL w w.heap.size A l) (hm : names.length = m) (hm2 : m ≤ 1000000000000) (hr' : RdS w w.heap.size B names) :
    Calls Try.prog 59 #[.slice A n c, .slice B m d] w (RetG encL 2 46 w (keepL l names)) := by
  have HN := Lib.hid hn
  have HM := Lib.hid hm
  have HR := Lib.hid hr
  have HR' := Lib.hid hr'
  obtain ⟨i0, hi, hz0, hz1, hz2⟩ := info_parts infoLabel
  have hO : (w.alloc (Obj.cells #[] 46)).ownsRow w.heap.size 46 2 (.slice (some ⟨w.heap.size, 0, none⟩) 0 0) 0 (rowG encL 2 []) := by rw [rowG_nil]; exact World.ownsRow_made w #[] 0 (Nat.le_refl _) (by unfold maxLen; omega) rfl
  have HO := Lib.hid hO
  clear hn hm hr' hr hO
  go_enter Try.func59, Try.ntmps59
  go_wp2
  go_loopw [5, 6] (fun v i wr => ∃ (k q : Nat) (A' : Option Addr) (c' : Nat) (pre : List Lb), v = .slice A' q c' ∧ i = .int .i64 k ∧ k ≤ n ∧ pre.length = q ∧ q ≤ k ∧ pre = keepL (l.take k) names ∧ wr.ownsRow w.heap.size 46 2 (.slice A' q c') q (rowG encL 2 pre) ∧ Below w.heap.size w wr) (fun _ i _ => n - (intOf i).toNat)
  case atStart => exact ⟨0, 0, _, _, [], rfl, rfl, by omega, rfl, by omega, rfl, HO.out, kept_alloc (Below.refl _ _) _⟩
  case round =>
    obtain ⟨k, q, A', c', pre, rfl, rfl, hk, hq, hqk, hpre, hown, hb⟩ := hrel
    have HQ := Lib.hid hq
    have HP := Lib.hid hpre
    clear HO hq hpre
    by_cases hlt : k < n
    · have hki : (k : Int) < (n : Int) := by omega
      have hln : k < l.length := by rw [HN.out]; exact hlt
      go_wp2
      go_loopw [7, 8] (fun v i wq => ∃ (j : Nat), v = .bool (hasN (names.take j) (at0 l k).1) ∧ i = .int .i64 j ∧ j ≤ m ∧ wq.ownsRow w.heap.size 46 2 (.slice A' q c') q (rowG encL 2 pre) ∧ Below w.heap.size w wq) (fun _ i _ => m - (intOf i).toNat)
      case atStart => exact ⟨0, rfl, rfl, by omega, hown, hb⟩
      case round =>
        obtain ⟨j, rfl, rfl, hj, hownq, hbq⟩ := hrel
        have HOW := Lib.hid (And.intro hownq hbq)
        clear hown hb
        by_cases hjt : j < m
        · have hji : (j : Int) < (m : Int) := by omega
          have hjl : j < names.length := by rw [HM.out]; exact hjt
          have hr1 := HR.out.below hbq
          have hr2 := HR'.out.below hbq
          obtain ⟨b, off, rfl, hbb, hc⟩ := RdL.at_ hr1 (by rw [HN.out]; omega)
          have hc0 := (hc k (by rw [HN.out]; exact hlt)).1
          obtain ⟨b', off', rfl, hbb', hc'⟩ := RdS.at_ hr2 (by rw [HM.out]; omega)
          have hd0 := hc' j (by rw [HM.out]; exact hjt)
          have HT := Lib.hid (hasN_take_succ (s := (at0 l k).1) hjl)
          clear hc hc' hr1 hr2 hownq hbq
          rcases hh : hasN (names.take j) (at0 l k).1 with _ | _
          · have HH := Lib.hid hh
            rcases he : eqB (at0 names j) (at0 l k).1 with _ | _
            · have HE := Lib.hid he
              have hw := eqB_walk he
              clear hh he
              go_wp2_with fail
              go_quiet (fail)
              go_wp2
              go_roundw
              case rel => exact ⟨j + 1, by rw [HT.out, HH.out, HE.out]; rfl, by go_num, by omega, own_kept HOW.out.1 (kept_drewN (Below.refl _ _) _), kept_drewN HOW.out.2 _⟩
              case measure => simp [intOf]; omega
            · have HE := Lib.hid he
              have hw := eqB_walk he
              clear hh he
              go_wp2_with fail
              go_quiet (fail)
              go_wp2
              go_roundw
              case rel => exact ⟨j + 1, by rw [HT.out, HH.out, HE.out]; rfl, by go_num, by omega, own_kept HOW.out.1 (kept_drewN (Below.refl _ _) _), kept_drewN HOW.out.2 _⟩
              case measure => simp [intOf]; omega
          · have HH := Lib.hid hh
            clear hh hc0 hd0
            go_wp2_with fail
            go_quiet (fail)
            go_wp2
            go_roundw
            case rel => exact ⟨j + 1, by rw [HT.out, HH.out]; rfl, by go_num, by omega, own_kept HOW.out.1 (kept_drewN (Below.refl _ _) _), kept_drewN HOW.out.2 _⟩
            case measure => simp [intOf]; omega
        · have HA := Lib.hid (hasN_take_all (names := names) (s := (at0 l k).1) (k := j) (by rw [HM.out]; omega))
          have hr1 := HR.out.below hbq
          obtain ⟨b, off, rfl, hbb, hc⟩ := RdL.at_ hr1 (by rw [HN.out]; omega)
          obtain ⟨hc0, hc1⟩ := hc k (by rw [HN.out]; exact hlt)
          clear hc hr1
          rcases hh : hasN (names.take j) (at0 l k).1 with _ | _
          · have HX := Lib.hid (keepL_not (names := names) hln (by rw [← HA.out]; exact hh))
            clear hh
            go_wp2
            go_roundw
            case rel => exact ⟨k + 1, q, A', c', pre, rfl, by go_num, by omega, HQ.out, by omega, by rw [HX.out]; exact HP.out, HOW.out.1, HOW.out.2⟩
            case measure => simp [intOf]; omega
          · have HX := Lib.hid (keepL_yes (names := names) hln (by rw [← HA.out]; exact hh))
            have hwr := hbq.size
            clear hh
            go_wp2_with (at_builtin; refine wpList_append_lies _ rfl _ _ _ rfl (w.heap.size) 46 i0 _ 2 32 Try.underlying29 hi hz0 hz1 hz2 rfl (by omega) _ (q) (rowG encL 2 pre) rfl ((hownq).alloc _) ⟨wr.heap.size, 0, none⟩ 1 1 ([.string (at0 l k).1, .string (at0 l k).2]) rfl rfl (World.news_of_block (cs := ([.string (at0 l k).1, .string (at0 l k).2]).toArray) (t := 46) (fr := (0, 0)) (heap_alloc_new wr _)) (by simp [Value.oneCell']) (by omega) (by simp only [maxLen]; omega) (by omega) (by simp; omega) (wr.heap.size + 1) (by simp) ?_; intro gg cap w2 hown2 hgrow hat hlt2)
            have hbW2 := below_app' hbq hownq hgrow
            rw [← rowL_snoc] at hown2
            clear hgrow hat hownq hbq
            go_wp2
            go_roundw
            case rel => exact ⟨k + 1, q + 1, _, _, _, rfl, by go_num, by omega, by rw [List.length_append, HQ.out]; rfl, by omega, by rw [HX.out, HP.out], hown2, hbW2⟩
            case measure => simp [intOf]; omega
    · have HX := Lib.hid (keepL_all (names := names) (l := l) (k := k) (by rw [HN.out]; omega))
      go_wp2
      go_ret
      exact ⟨A', c', by rw [← HX.out, ← HP.out, HQ.out]; rfl, by rw [← HX.out, ← HP.out, HQ.out]; exact hown, hb⟩
set_option maxHeartbeats 2000000 in
theorem specKeepLabels_any (A : Option Addr) (n c : Nat) (l : List Lb) (B : Option Addr) (m d : Nat) (names : List ByteArray) (w : World) (hn : l.length = n) (hn2 : n ≤ 1000000000000) (hz : SzL l) (hr : RdL w w.heap.size A l) (hm : names.length = m) (hm2 : m ≤ 1000000000000) (hr' : RdS w w.heap.size B names) :
    Calls Try.prog 33 #[.slice A n c, .slice B m d] w (RetG encL 2 46 w (keepV l names)) := by
  have HN := Lib.hid hn
  have HR := Lib.hid hr
  have HR' := Lib.hid hr'
  clear hn hr'
  rcases hv : vL l with _ | _
  · have HV := Lib.hid hv
    have HZ := Lib.hid (keepV_no (names := names) hv)
    clear hv
    go_enter Try.func33, Try.ntmps33
    go_wp2_with fail
    refine (specValidLabels_any A n c l _ HN.out hn2 hz hr).mono ?_
    rintro e w1 ⟨rfl, hb1⟩
    rw [HV.out]
    go_wp2
    go_ret
    exact retG_nil HZ.out hb1
  · have HV := Lib.hid hv
    have HZ := Lib.hid (keepV_ok (names := names) hv)
    have hn4 : n ≤ 4 := by have := (VL_of hv).1; rw [HN.out] at this; exact this
    clear hv
    go_enter Try.func33, Try.ntmps33
    go_wp2_with fail
    refine (specValidLabels_any A n c l _ HN.out hn2 hz hr).mono ?_
    rintro e w1 ⟨rfl, hb1⟩
    rw [HV.out]
    have h1 := HR.out.to hb1
    have h2 := HR'.out.to hb1
    clear hr
    go_wp2_with fail
    refine (keep_any A n c l B m d names _ HN.out (by omega) h1 hm hm2 h2).mono ?_
    rintro e w2 ⟨A2, c2, rfl, hown2, hb2⟩
    have hO := World.ownsRow.mono hown2 hb1.size
    have hb3 := kept_trans hb1 hb2
    clear hown2 hb1 hb2 h1 h2
    go_wp2
    go_ret
    exact ⟨A2, c2, by rw [HZ.out]; rfl, by rw [HZ.out]; exact hO, hb3⟩
end Go.Proofs.Ytjmdcdeccchlcaa
