/-
  Walks: copyLabels, AddSeries of impl, equalCatalogs.
-/
import Derived.Test.YtmnfcfhnmndakaaCatW4
import Derived.Test.YtmnfcfhnmndakaaCatW2
namespace Go.Proofs.Ytmnfcfhnmndakaa
open Go.RowKit
set_option maxHeartbeats 1000000 in
theorem copyLabels_any (A : Option Addr) (n c : Nat) (l : List Lb) (w : World) (hn : l.length = n) (hn2 : n ≤ 1000000000) (hr : RdL w w.heap.size A l) :
    Calls Try.prog 66 #[.slice A n c] w (RetG encL 2 81 w l) := by
  have HN := Lib.hid hn
  have HR := Lib.hid (RdG.rdN hr hn)
  clear hn hr
  obtain ⟨j0, hj, yz0, yz1, yz2⟩ := info_parts infoLabel
  go_enter Try.func66, Try.ntmps66
  go_wp2_with (at_builtin; refine wpList_append_rd _ rfl _ _ _ rfl w.heap.size 81 j0 _ 2 32 Try.underlying33 hj yz0 yz1 yz2 rfl (by omega) _ 0 [] rfl (World.ownsRow_nil _ _ _ _) _ _ n _ (cellsG encL 2 l) rfl HR.out (one_cellsL _) (by simp only [maxLen]; omega) (by omega) (by simp) ?_; intro A5 c5 w5 hown5 hgrow5)
  have hb : Below w.heap.size w w5 := below_own (Below.refl _ _) (World.ownsRow_nil w w.heap.size 81 2) hgrow5
  rw [List.nil_append] at hown5
  simp only [Nat.zero_add] at hown5
  clear hgrow5
  go_wp2
  go_ret
  exact ⟨A5, c5, by rw [HN.out]; rfl, by rw [HN.out]; unfold rowG; rw [HN.out]; exact hown5, hb⟩
theorem OwnC.made {B : Nat} (w : World) (o : Obj) (c : Nat) (ho : (w.alloc o).ownsRow B 33 1 (.slice (some ⟨w.heap.size, 0, none⟩) 0 c) 0 []) : OwnC B (w.alloc o) (.slice (some ⟨w.heap.size, 0, none⟩) 0 c) 0 [] [] :=
  ⟨rfl, rfl, ho, fun i hi => absurd hi (by omega)⟩
set_option maxHeartbeats 4000000 in
set_option maxRecDepth 100000 in
theorem addSeries_any (A : Option Addr) (n c : Nat) (C : Ct) (B : Option Addr) (m d : Nat) (l : List Lb) (w : World) (hn : C.length = n) (hm : l.length = m) (hc : n ≤ c)
    (hr : RdC w w.heap.size A C) (hr' : RdL w w.heap.size B l) :
    Calls Try.prog 29 #[.slice A n c, .slice B m d] w (RetA w (adV C l)) := by
  have HN := Lib.hid hn
  have HM := Lib.hid hm
  have HR := Lib.hid hr
  have HR' := Lib.hid hr'
  clear hn hm
  rcases hv : vC C with _ | _
  · have HF := Lib.hid (adV_no1 (l := l) hv)
    have HV := Lib.hid hv
    clear hv
    go_enter Try.func29, Try.ntmps29
    go_wp2_with fail
    refine (validCatalog_any A n c C _ HN.out hc hr).mono ?_
    rintro e w1 ⟨rfl, hb1⟩
    rw [HV.out]
    clear hr hr'
    go_wp2
    go_ret3
    exact retA_none HF.out hb1
  · have HV := Lib.hid hv
    clear hv
    rcases hv2 : vL l with _ | _
    · have HF := Lib.hid (adV_no2 (C := C) hv2)
      have HV2 := Lib.hid hv2
      clear hv2
      go_enter Try.func29, Try.ntmps29
      go_wp2_with fail
      refine (validCatalog_any A n c C _ HN.out hc hr).mono ?_
      rintro e w1 ⟨rfl, hb1⟩
      rw [HV.out]
      have hr2 := RdG.next hr' hb1
      clear hr hr'
      go_wp2_with fail
      refine (validLabels_any B m d l _ HM.out hr2).mono ?_
      rintro e w2 ⟨rfl, hb2⟩
      rw [HV2.out]
      have hb3 := kept_trans hb1 hb2
      clear hb1 hb2 hr2
      go_wp2
      go_ret3
      exact retA_none HF.out hb3
    · have HV2 := Lib.hid hv2
      have hn8 : n ≤ 8 := by have := (VC_of HV.out).1; rw [HN.out] at this; exact this
      have hm4 : m ≤ 4 := by have := (VL_of hv2).1; rw [HM.out] at this; exact this
      have HZ4 := Lib.hid (show ∀ i, i < n → (at0 C i).length ≤ 1000 from fun i hi => by
        have := (VL_of ((VC_of HV.out).2 i (by rw [HN.out]; exact hi)).1).1
        omega)
      have HZP := Lib.hid (show ∀ i, i < n → (at0 C i).length ≤ 1000000000000 from fun i hi => by have := HZ4.out i hi; omega)
      clear hv2
      obtain ⟨i0, hi, hz0, hz1, hz2⟩ := info_parts infoSl
      have hmk : ∀ W, (Instr.makeSlice 23 (.int .i64 0) (.int .i64 ((n : Int) + 1))).run Try.prog W = .ok (.slice (some ⟨W.heap.size, 0, none⟩) 0 (n + 1)) (W.alloc (.cells (madeCells #[Value.slice none 0 0] (n + 1)) 33)) := fun W => by have h := run_make_cap (P := Try.prog) 23 33 i0 _ 1 Try.underlying23 hi hz0 hz1 (n + 1) (by rw [hz2]; omega) (by omega) W; rw [Nat.mul_one] at h; exact h
      have hpb := plc_bd C l
      rw [HN.out] at hpb
      obtain ⟨hpb1, hpb2⟩ := hpb
      go_enter Try.func29, Try.ntmps29
      go_wp2_with fail
      refine (validCatalog_any A n c C _ HN.out hc hr).mono ?_
      rintro e w1 ⟨rfl, hb1⟩
      rw [HV.out]
      have hr1 := RdC.next hr hb1
      have hr2 := RdG.next hr' hb1
      clear hr hr'
      go_wp2_with fail
      refine (validLabels_any B m d l _ HM.out hr2).mono ?_
      rintro e w2 ⟨rfl, hb2⟩
      rw [HV2.out]
      have hb3 := kept_trans hb1 hb2
      have hr3 := RdC.next hr1 hb2
      have hr4 := RdG.next hr2 hb2
      clear hb1 hb2 hr1 hr2
      go_wp2_with fail
      refine (placeOf_any A n c C B m d l _ HN.out HM.out (by omega) HZP.out hr3 hr4).mono ?_
      rintro e w3 ⟨rfl, hb4⟩
      have hb5 := kept_trans hb3 hb4
      have hr5 := RdC.next hr3 hb4
      have hr6 := RdG.next hr4 hb4
      clear hb3 hb4 hr3 hr4
      generalize hpl : plc C l = pl at *
      have HPL := Lib.hid hpl
      clear hpl
      have hbK := kept_alloc hb5 (Obj.cells (madeCells #[Value.slice none 0 0] (n + 1)) 33)
      have hoK := OwnC.made (B := w.heap.size) w3 (Obj.cells (madeCells #[Value.slice none 0 0] (n + 1)) 33) (n + 1) (by have h := own_made w3 33 1 (n + 1) #[Value.slice none 0 0] hb5.size (by unfold maxLen; omega); rwa [Nat.mul_one] at h)
      have HX := Lib.hid (And.intro hbK (And.intro hoK hb5))
      clear hbK hoK hr5 hr6 hb5
      by_cases hfull : pl < 0 ∧ n = 8
      · obtain ⟨hp, h8⟩ := hfull
        have HF := Lib.hid (adV_full HV.out HV2.out (by rw [HPL.out]; omega) (by rw [HN.out]; exact h8))
        have h8z : ((n : Int) == 8) = true := by simp [h8]
        have hb5 := HX.out.2.2
        clear h8 hmk
        go_wp2
        go_ret3
        exact retA_none HF.out hb5
      · have hgo : (¬ pl < 0) ∨ (pl < 0 ∧ n < 8) := by
          by_cases h : pl < 0
          · exact .inr ⟨h, by omega⟩
          · exact .inl h
        clear hfull
        rcases hgo with hp | ⟨hp, h8⟩
        all_goals
          have HPP := Lib.hid hp
          have h8z : pl < 0 → ((n : Int) == 8) = false := fun _ => by simp; omega
          first
            | (have h8w := h8z hp; clear h8z)
            | clear h8z
          go_wp2
          clear hmk
          generalize (w3.alloc (Obj.cells (madeCells #[Value.slice none 0 0] (n + 1)) 33)) = W at *
          generalize w3.heap.size = gw at *
          go_loopw [8, 35] (fun v i wr => ∃ (k : Nat) (A' : Option Addr) (c' z : Nat) (pre : Ct) (vs : List Value), v = .slice A' z c' ∧ i = .int .i64 k ∧ k ≤ n ∧ z = k ∧ pre = C.take k ∧ OwnC w.heap.size wr (.slice A' z c') z pre vs ∧ Below w.heap.size w wr) (fun _ i _ => n - (intOf i).toNat)
          case atStart => exact ⟨0, _, _, 0, [], [], rfl, rfl, by omega, rfl, rfl, HX.out.2.1, HX.out.1⟩
          case round =>
            obtain ⟨k, A', c', z, pre, vs, rfl, rfl, hk, hzk, hpre, hown, hb⟩ := hrel
            have HZK := Lib.hid hzk
            have HP := Lib.hid hpre
            have hz10 : z ≤ 1000 := by omega
            have HOW := Lib.hid hown
            have HBB := Lib.hid hb
            clear hzk hpre hown hb
            by_cases hlt : k < n
            · have hki : (k : Int) < (n : Int) := by omega
              have hln : k < C.length := by rw [HN.out]; exact hlt
              obtain ⟨b, off, rfl, hbb, a2, m2, c2, hcl, hl2, _, hrl⟩ := RdC.at_ (RdC.next HR.out HBB.out) HN.out hlt
              have hm2 : m2 ≤ 1000 := by rw [← hl2]; exact HZ4.out k hlt
              have HL2 := Lib.hid hl2
              clear hl2
              go_wp2_with fail
              refine (copyLabels_any a2 m2 c2 (at0 C k) _ HL2.out (by omega) hrl).mono ?_
              rintro e w4 ⟨A4, c4, rfl, hown4, hb4⟩
              rw [HL2.out] at hown4 ⊢
              have HI := Lib.hid hown4
              have hOK := (HOW.out.kept hb4).2.2.1
              have hbw4 := kept_trans HBB.out hb4
              have hwr4 := hbw4.size
              have HB4 := Lib.hid hb4
              clear hcl hrl hown4 hb4
              go_wp2_with (at_builtin; refine wpList_append_lies _ rfl _ _ _ rfl (w.heap.size) 33 i0 _ 1 24 Try.underlying23 hi hz0 hz1 hz2 rfl (by omega) _ (z) (vs) rfl ((hOK).alloc _) ⟨w4.heap.size, 0, none⟩ 1 1 ([.slice A4 m2 c4]) rfl rfl (World.news_of_block (cs := ([.slice A4 m2 c4]).toArray) (t := 33) (fr := (0, 0)) (heap_alloc_new w4 _)) (by simp [Value.oneCell']) (by omega) (by simp only [maxLen]; omega) (by omega) (by simp; omega) (w4.heap.size + 1) (by simp) ?_; intro gg cap w2 hown2 hgrow hat hlt2)
              have hb5 := below_app' hbw4 hOK hgrow
              have HS := Lib.hid (HOW.out.snoc HB4.out HL2.out HI.out HBB.out.size hown2 hgrow (by rw [size_alloc1]; exact hat))
              clear hOK hgrow hat hown2 hbw4
              go_wp2
              go_roundw
              case rel => exact ⟨k + 1, _, _, z + 1, _, _, rfl, by go_num, by omega, by rw [HZK.out], by rw [HP.out, take_succ_at C hln], HS.out, hb5⟩
              case measure => simp [intOf]; omega
            · have HPX := Lib.hid (show pre = C by rw [HP.out, List.take_of_length_le (by rw [HN.out]; omega)])
              have hzn : z = n := by rw [HZK.out]; omega
              subst hzn
              first
                | (have hneg : pl < 0 := HPP.out
                   have HF := Lib.hid (adV_new HV.out HV2.out (by rw [HPL.out]; omega) (by rw [HN.out]; omega))
                   have hrl := RdG.next HR'.out HBB.out
                   go_wp2_with fail
                   refine (copyLabels_any B m d l _ HM.out (by omega) hrl).mono ?_
                   rintro e w4 ⟨A4, c4, rfl, hown4, hb4⟩
                   rw [HM.out] at hown4 ⊢
                   have HI := Lib.hid hown4
                   have hOK := (HOW.out.kept hb4).2.2.1
                   have hbw4 := kept_trans HBB.out hb4
                   have hwr4 := hbw4.size
                   have HB4 := Lib.hid hb4
                   clear hrl hown4 hb4
                   go_wp2_with (at_builtin; refine wpList_append_lies _ rfl _ _ _ rfl (w.heap.size) 33 i0 _ 1 24 Try.underlying23 hi hz0 hz1 hz2 rfl (by omega) _ (z) (vs) rfl ((hOK).alloc _) ⟨w4.heap.size, 0, none⟩ 1 1 ([.slice A4 m c4]) rfl rfl (World.news_of_block (cs := ([.slice A4 m c4]).toArray) (t := 33) (fr := (0, 0)) (heap_alloc_new w4 _)) (by simp [Value.oneCell']) (by omega) (by simp only [maxLen]; omega) (by omega) (by simp; omega) (w4.heap.size + 1) (by simp) ?_; intro gg cap w2 hown2 hgrow hat hlt2)
                   have hb5 := below_app' hbw4 hOK hgrow
                   have HS := Lib.hid (HOW.out.snoc HB4.out HM.out HI.out HBB.out.size hown2 hgrow (by rw [size_alloc1]; exact hat))
                   have HF2 := Lib.hid (show adV C l = some (pre ++ [l], (z : Int)) by rw [HF.out, HN.out, HPX.out])
                   clear hOK hgrow hat hown2 hbw4
                   go_wp2
                   go_ret3
                   exact retA_some HF2.out HS.out hb5)
                | (have HF := Lib.hid (adV_in HV.out HV2.out (by rw [HPL.out]; omega))
                   have HF2 := Lib.hid (show adV C l = some (pre, pl) by rw [HF.out, HPL.out, HPX.out])
                   have hb5 := HBB.out
                   go_wp2
                   go_ret3
                   exact retA_some HF2.out HOW.out hb5)
theorem equalLabels_same (A : Option Addr) (n c : Nat) (l : List Lb) (A' : Option Addr) (c' : Nat) (w : World) (hn : l.length = n) (hm : n ≤ 1000000000000) (hr : RdL w w.heap.size A l) (hr' : RdL w w.heap.size A' l) :
    Calls Try.prog 70 #[.slice A n c, .slice A' n c'] w fun e w' => e = .returned (.bool true) ∧ Below w.heap.size w w' := by
  have h := equalLabels_any A n c l A' n c' l w hn hn hm hr hr'
  rwa [eqLs_refl] at h
set_option maxHeartbeats 1000000 in
theorem equalCatalogs_same (A : Option Addr) (n c : Nat) (A' : Option Addr) (c' : Nat) (C : Ct) (w : World) (hn : C.length = n) (hm : n ≤ 1000000000000) (hz : SzR C 1000000000000)
    (hr : RdC w w.heap.size A C) (hr' : RdC w w.heap.size A' C) :
    Calls Try.prog 31 #[.slice A n c, .slice A' n c'] w fun e w' => e = .returned (.bool true) ∧ Below w.heap.size w w' := by
  have HN := Lib.hid hn
  have HZ := Lib.hid hz
  have HR := Lib.hid hr
  have HR' := Lib.hid hr'
  clear hn hz hr hr'
  go_enter Try.func31, Try.ntmps31
  go_wp2
  go_loopw [5] (fun i wr => ∃ k : Nat, k ≤ n ∧ i = .int .i64 k ∧ Below w.heap.size w wr) (fun i _ => n - (intOf i).toNat)
  case atStart => exact ⟨0, by omega, rfl, Below.refl _ _⟩
  case round =>
    obtain ⟨k, hk, rfl, hb⟩ := hrel
    by_cases hlt : k < n
    · have hki : (k : Int) < (n : Int) := by omega
      obtain ⟨b, off, rfl, hbb, a2, m2, c2, hcl, hl2, _, hrl⟩ := RdC.at_ (RdC.next HR.out hb) HN.out hlt
      obtain ⟨b', off', rfl, hbb', a3, m3, c3, hcl', hl3, _, hrl'⟩ := RdC.at_ (RdC.next HR'.out hb) HN.out hlt
      have hm23 : m3 = m2 := by rw [← hl2, ← hl3]
      subst hm23
      have hm3 : m3 ≤ 1000000000000 := by rw [← hl2]; exact (HZ.out k (by rw [HN.out]; exact hlt)).2
      have HL2 := Lib.hid hl2
      have HRL := Lib.hid hrl
      have HRL' := Lib.hid hrl'
      have q0 := kin_cell hcl hbb
      have q1 := kin_cell hcl' hbb'
      clear hl2 hl3 hrl hrl' hcl hcl'
      go_wp2_with fail
      refine wp_region_kin (by kernel_rfl) (by kernel_rfl) ?_
      repeat (go_big_quiet_step ((go_at_call 70; exact kin_call (equalLabels_same a2 m3 c2 (at0 C k) a3 c3 _ HL2.out hm3 (kin_rdL HRL.out _) (kin_rdL HRL'.out _)))))
      refine wpQuiet_nil ?_
      intro _ hw'
      obtain ⟨⟨wq, hq⟩, hw''⟩ := hw'
      subst hw''
      have hb2 := kept_trans hb hq
      clear hb hq q0 q1
      go_wp2
      go_roundw
      case rel => exact ⟨k + 1, by omega, by go_num, hb2⟩
      case measure => simp [intOf]; omega
    · go_wp2
      go_ret
      exact ⟨rfl, hb⟩
end Go.Proofs.Ytmnfcfhnmndakaa
