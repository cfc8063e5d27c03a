/-
  Walks: MatchesAll of both packages.
-/
import Derived.Test.YtmnfcfhnmndakaaMAFn
import Derived.Test.YtmnfcfhnmndakaaMatCopy
namespace Go.Proofs.Ytmnfcfhnmndakaa
open Go.RowKit
theorem kin_rd {α : Type} [Inhabited α] {enc : α → Nat → Value} {z : Nat} {W : World} {A : Option Addr} {l : List α} (h : RdG enc z W W.heap.size A l) (x : Kin W.heap.size W) : RdG enc z x.val x.val.heap.size A l := (h.below x.property).mono x.property.size
theorem labelValue_u (A : Option Addr) (n c : Nat) (l : List Lb) (s : ByteArray) (w : World) (hn : l.length = n) (hr : RdL w w.heap.size A l) (hv : Hid (vL l = true)) :
    Calls Try.prog 20 #[.slice A n c, .string s] w fun e w' => e = .returned (.string (valB l s)) ∧ Below w.heap.size w w' := by
  rw [← lvB_ok (s := s) hv.out]; exact labelValue_any A n c l s w hn hr
theorem valueOf_q (A : Option Addr) (n c : Nat) (l : List Lb) (s : ByteArray) (w : World) (hn : l.length = n) (hm : n ≤ 1000000000000) (hr : RdL w w.heap.size A l) :
    Calls Try.prog 60 #[.slice A n c, .string s] w fun e w' => e = .returned (.string (valB l s)) ∧ w' = w :=
  (valueOf_any A n c l s w hn hm hr).mono fun _ _ ⟨he, hw⟩ => ⟨he, hw.symm⟩
set_option maxHeartbeats 4000000 in
set_option maxRecDepth 100000 in
theorem matchesAll_any (A : Option Addr) (n c : Nat) (l : List Lb) (B : Option Addr) (m d : Nat) (want : List Mt) (w : World) (hn : l.length = n) (hm : want.length = m) (hr : RdL w w.heap.size A l) (hr' : RdM w w.heap.size B want) :
    Calls Try.prog 49 #[.slice A n c, .slice B m d] w fun e w' => e = .returned (.bool (maV l want)) ∧ Below w.heap.size w w' := by
  have HN := Lib.hid hn
  have HM := Lib.hid hm
  have HR := Lib.hid hr
  have HR' := Lib.hid hr'
  clear hn hm hr'
  rcases hv : vL l with _ | _
  · have HZ := Lib.hid (maV_no1 (want := want) hv)
    have HV := Lib.hid hv
    clear hv
    go_enter Try.func49, Try.ntmps49
    go_wp2_with fail
    refine (validLabels_any A n c l _ HN.out hr).mono ?_
    rintro e w1 ⟨rfl, hb1⟩
    rw [HV.out]
    clear hr
    go_wp2
    go_ret
    exact ⟨ret_bool HZ.out.symm, hb1⟩
  · have HV := Lib.hid hv
    rcases hv' : vM want with _ | _
    · have HZ := Lib.hid (maV_no2 (l := l) hv')
      have HV' := Lib.hid hv'
      clear hv hv'
      go_enter Try.func49, Try.ntmps49
      go_wp2_with fail
      refine (validLabels_any A n c l _ HN.out hr).mono ?_
      rintro e w1 ⟨rfl, hb1⟩
      rw [HV.out]
      have hr1 := HR'.out.to hb1
      clear hr
      go_wp2_with fail
      refine (validMatchers_any B m d want _ HM.out hr1).mono ?_
      rintro e w2 ⟨rfl, hb2⟩
      rw [HV'.out]
      have hb3 := kept_trans hb1 hb2
      clear hr1 hb1 hb2
      go_wp2
      go_ret
      exact ⟨ret_bool HZ.out.symm, hb3⟩
    · have HZ := Lib.hid (maV_ok hv hv')
      have HV' := Lib.hid hv'
      have hm4 : m ≤ 4 := by have := (VM_of hv').1; rw [HM.out] at this; exact this
      clear hv hv'
      go_enter Try.func49, Try.ntmps49
      go_wp2_with fail
      refine (validLabels_any A n c l _ HN.out hr).mono ?_
      rintro e w1 ⟨rfl, hb1⟩
      rw [HV.out]
      have hr1 := HR'.out.to hb1
      clear hr
      go_wp2_with fail
      refine (validMatchers_any B m d want _ HM.out hr1).mono ?_
      rintro e w2 ⟨rfl, hb2⟩
      rw [HV'.out]
      have hb3 := kept_trans hb1 hb2
      clear hr1 hb1 hb2
      go_wp2
      go_loopw [18] (fun i wr => ∃ k : Nat, k ≤ m ∧ i = .int .i64 k ∧ matTo l want k ∧ Below w.heap.size w wr) (fun i _ => m - (intOf i).toNat)
      case atStart => exact ⟨0, by omega, rfl, matTo_zero l want, hb3⟩
      case round =>
        obtain ⟨k, hk, rfl, hok, hb⟩ := hrel
        have HK := Lib.hid hok
        clear hok hb3
        by_cases hlt : k < m
        · have hki : (k : Int) < (m : Int) := by omega
          have hln : k < want.length := by rw [HM.out]; exact hlt
          have hrr := HR'.out.below hb
          obtain ⟨b, off, rfl, hbb, hcc⟩ := RdM.at_ hrr (by rw [HM.out]; omega)
          obtain ⟨hc0, hc1, hc2⟩ := hcc k hln
          have hbW := kept_alloc hb (Obj.cells #[Value.string (at0 want k).1, Value.string (at0 want k).2.1, Value.bool (at0 want k).2.2] 65)
          have hrW := HR.out.to hbW
          have q0 : (wr.alloc (Obj.cells #[Value.string (at0 want k).1, Value.string (at0 want k).2.1, Value.bool (at0 want k).2.2] 65)).cell? ⟨wr.heap.size, 0, none⟩ = some (.string (at0 want k).1) := by simp
          have q1 : (wr.alloc (Obj.cells #[Value.string (at0 want k).1, Value.string (at0 want k).2.1, Value.bool (at0 want k).2.2] 65)).cell? ⟨wr.heap.size, 1, none⟩ = some (.string (at0 want k).2.1) := by simp
          have q2 : (wr.alloc (Obj.cells #[Value.string (at0 want k).1, Value.string (at0 want k).2.1, Value.bool (at0 want k).2.2] 65)).cell? ⟨wr.heap.size, 2, none⟩ = some (.bool (at0 want k).2.2) := by simp
          have hlW : wr.heap.size < (wr.alloc (Obj.cells #[Value.string (at0 want k).1, Value.string (at0 want k).2.1, Value.bool (at0 want k).2.2] 65)).heap.size := by simp
          clear hcc hrr
          go_wp2_with fail
          generalize (wr.alloc (Obj.cells #[Value.string (at0 want k).1, Value.string (at0 want k).2.1, Value.bool (at0 want k).2.2] 65)) = W at *
          generalize wr.heap.size = gb at *
          have p0 := kin_cell q0 hlW
          have p1 := kin_cell q1 hlW
          have HQ2 := Lib.hid (And.intro q2 hlW)
          have HRW := Lib.hid hrW
          clear q0 q1 q2 hc0 hc1 hc2 hb hrW
          rcases hq : eqB (valB l (at0 want k).1) (at0 want k).2.1 with _ | _ <;> rcases hz : (at0 want k).2.2 with _ | _
          · have hmt : mat1 l (at0 want k) = false := by unfold mat1; rw [hq, hz]; rfl
            have H0 := Lib.hid (matL_bad hln hmt)
            have hw := eqB_walk hq
            have HZ2 := Lib.hid hz
            clear hq hz hmt
            refine wp_region_kin (by kernel_rfl) (by kernel_rfl) ?_
            repeat (go_big_quiet_step ((go_at_call 20; exact kin_call (labelValue_u _ n c l _ _ HN.out (kin_rd HRW.out _) HV))))
            refine wpQuiet_nil ?_
            intro _ hw'
            obtain ⟨⟨wq, hq⟩, hw''⟩ := hw'
            subst hw''
            have hb2 := kept_trans hbW hq
            have hcz := (hq.cell (p := ⟨gb, 2, none⟩) HQ2.out.2).trans HQ2.out.1
            rw [HZ2.out] at hcz
            clear p0 p1 hq hbW
            go_wp2
            go_ret
            exact ⟨ret_bool (by rw [HZ.out, H0.out]), hb2⟩
          · have hmt : mat1 l (at0 want k) = true := by unfold mat1; rw [hq, hz]; rfl
            have H0 := Lib.hid (matTo_succ HK.out hmt)
            have hw := eqB_walk hq
            have HZ2 := Lib.hid hz
            clear hq hz hmt
            refine wp_region_kin (by kernel_rfl) (by kernel_rfl) ?_
            repeat (go_big_quiet_step ((go_at_call 20; exact kin_call (labelValue_u _ n c l _ _ HN.out (kin_rd HRW.out _) HV))))
            refine wpQuiet_nil ?_
            intro _ hw'
            obtain ⟨⟨wq, hq⟩, hw''⟩ := hw'
            subst hw''
            have hb2 := kept_trans hbW hq
            have hcz := (hq.cell (p := ⟨gb, 2, none⟩) HQ2.out.2).trans HQ2.out.1
            rw [HZ2.out] at hcz
            clear p0 p1 hq hbW
            go_wp2
            go_roundw
            case rel => exact ⟨k + 1, by omega, by go_num, H0.out, hb2⟩
            case measure => simp [intOf]; omega
          · have hmt : mat1 l (at0 want k) = true := by unfold mat1; rw [hq, hz]; rfl
            have H0 := Lib.hid (matTo_succ HK.out hmt)
            have hw := eqB_walk hq
            have HZ2 := Lib.hid hz
            clear hq hz hmt
            refine wp_region_kin (by kernel_rfl) (by kernel_rfl) ?_
            repeat (go_big_quiet_step ((go_at_call 20; exact kin_call (labelValue_u _ n c l _ _ HN.out (kin_rd HRW.out _) HV))))
            refine wpQuiet_nil ?_
            intro _ hw'
            obtain ⟨⟨wq, hq⟩, hw''⟩ := hw'
            subst hw''
            have hb2 := kept_trans hbW hq
            have hcz := (hq.cell (p := ⟨gb, 2, none⟩) HQ2.out.2).trans HQ2.out.1
            rw [HZ2.out] at hcz
            clear p0 p1 hq hbW
            go_wp2
            go_roundw
            case rel => exact ⟨k + 1, by omega, by go_num, H0.out, hb2⟩
            case measure => simp [intOf]; omega
          · have hmt : mat1 l (at0 want k) = false := by unfold mat1; rw [hq, hz]; rfl
            have H0 := Lib.hid (matL_bad hln hmt)
            have hw := eqB_walk hq
            have HZ2 := Lib.hid hz
            clear hq hz hmt
            refine wp_region_kin (by kernel_rfl) (by kernel_rfl) ?_
            repeat (go_big_quiet_step ((go_at_call 20; exact kin_call (labelValue_u _ n c l _ _ HN.out (kin_rd HRW.out _) HV))))
            refine wpQuiet_nil ?_
            intro _ hw'
            obtain ⟨⟨wq, hq⟩, hw''⟩ := hw'
            subst hw''
            have hb2 := kept_trans hbW hq
            have hcz := (hq.cell (p := ⟨gb, 2, none⟩) HQ2.out.2).trans HQ2.out.1
            rw [HZ2.out] at hcz
            clear p0 p1 hq hbW
            go_wp2
            go_ret
            exact ⟨ret_bool (by rw [HZ.out, H0.out]), hb2⟩
        · have H0 := Lib.hid (matL_good HK.out (by rw [HM.out]; omega))
          go_wp2
          go_ret
          exact ⟨ret_bool (by rw [HZ.out, H0.out]), hb⟩
set_option maxHeartbeats 4000000 in
set_option maxRecDepth 100000 in
theorem matches_any (A : Option Addr) (n c : Nat) (l : List Lb) (B : Option Addr) (m d : Nat) (want : List Mt) (w : World) (hn : l.length = n) (hn2 : n ≤ 1000000000000) (hm : want.length = m) (hm2 : m ≤ 1000000000000) (hr : RdL w w.heap.size A l) (hr' : RdM w w.heap.size B want) :
    Calls Try.prog 78 #[.slice A n c, .slice B m d] w fun e w' => e = .returned (.bool (matL l want)) ∧ Below w.heap.size w w' := by
  have HN := Lib.hid hn
  have HM := Lib.hid hm
  have HR := Lib.hid hr
  have HR' := Lib.hid hr'
  clear hn hm hr' hr
  go_enter Try.func78, Try.ntmps78
  go_wp2
  go_loopw [5] (fun i wr => ∃ k : Nat, k ≤ m ∧ i = .int .i64 k ∧ matTo l want k ∧ Below w.heap.size w wr) (fun i _ => m - (intOf i).toNat)
  case atStart => exact ⟨0, by omega, rfl, matTo_zero l want, Below.refl _ _⟩
  case round =>
    obtain ⟨k, hk, rfl, hok, hb⟩ := hrel
    have HK := Lib.hid hok
    clear hok
    by_cases hlt : k < m
    · have hki : (k : Int) < (m : Int) := by omega
      have hln : k < want.length := by rw [HM.out]; exact hlt
      have hrr := HR'.out.below hb
      obtain ⟨b, off, rfl, hbb, hcc⟩ := RdM.at_ hrr (by rw [HM.out]; omega)
      obtain ⟨hc0, hc1, hc2⟩ := hcc k hln
      have HRW := Lib.hid (HR.out.to hb)
      clear hcc hrr
      rcases hq : eqB (valB l (at0 want k).1) (at0 want k).2.1 with _ | _ <;> rcases hz : (at0 want k).2.2 with _ | _
      · have hmt : mat1 l (at0 want k) = false := by unfold mat1; rw [hq, hz]; rfl
        have H0 := Lib.hid (matL_bad hln hmt)
        have hw := eqB_walk hq
        rw [hz] at hc2
        clear hq hz hmt
        go_wp2_with fail
        go_quiet ((go_at_call 60; exact Calls.quiet_of_same (valueOf_q _ n c l _ _ HN.out hn2 HRW.out)))
        go_wp2
        go_ret
        exact ⟨ret_bool H0.out.symm, kept_drewN hb _⟩
      · have hmt : mat1 l (at0 want k) = true := by unfold mat1; rw [hq, hz]; rfl
        have H0 := Lib.hid (matTo_succ HK.out hmt)
        have hw := eqB_walk hq
        rw [hz] at hc2
        clear hq hz hmt
        go_wp2_with fail
        go_quiet ((go_at_call 60; exact Calls.quiet_of_same (valueOf_q _ n c l _ _ HN.out hn2 HRW.out)))
        go_wp2
        go_roundw
        case rel => exact ⟨k + 1, by omega, by go_num, H0.out, kept_drewN hb _⟩
        case measure => simp [intOf]; omega
      · have hmt : mat1 l (at0 want k) = true := by unfold mat1; rw [hq, hz]; rfl
        have H0 := Lib.hid (matTo_succ HK.out hmt)
        have hw := eqB_walk hq
        rw [hz] at hc2
        clear hq hz hmt
        go_wp2_with fail
        go_quiet ((go_at_call 60; exact Calls.quiet_of_same (valueOf_q _ n c l _ _ HN.out hn2 HRW.out)))
        go_wp2
        go_roundw
        case rel => exact ⟨k + 1, by omega, by go_num, H0.out, kept_drewN hb _⟩
        case measure => simp [intOf]; omega
      · have hmt : mat1 l (at0 want k) = false := by unfold mat1; rw [hq, hz]; rfl
        have H0 := Lib.hid (matL_bad hln hmt)
        have hw := eqB_walk hq
        rw [hz] at hc2
        clear hq hz hmt
        go_wp2_with fail
        go_quiet ((go_at_call 60; exact Calls.quiet_of_same (valueOf_q _ n c l _ _ HN.out hn2 HRW.out)))
        go_wp2
        go_ret
        exact ⟨ret_bool H0.out.symm, kept_drewN hb _⟩
    · have H0 := Lib.hid (matL_good HK.out (by rw [HM.out]; omega))
      go_wp2
      go_ret
      exact ⟨ret_bool H0.out.symm, hb⟩
end Go.Proofs.Ytmnfcfhnmndakaa
