/-
  Walk: FnLabelValue.
-/
import Derived.Test.YtjmdcdeccchlcaaLabFn3
import Derived.Test.YtjmdcdeccchlcaaLabGen2
import Derived.Test.YtjmdcdeccchlcaaLabW3
import Derived.Deep.RegionWith
namespace Go.Proofs.Ytjmdcdeccchlcaa
open Go.RowKit
theorem labelValue_v (A : Option Addr) (n c : Nat) (l : List Lb) (s v : ByteArray) (w : World) (hn : l.length = n) (hr : RdL w w.heap.size A l) (hv : Hid (lvB l s = v)) :
    Calls Try.prog 28 #[.slice A n c, .string s] w fun e w' => e = .returned (.string v) ∧ Below w.heap.size w w' := by
  rw [← hv.out]; exact labelValue_any A n c l s w hn hr
theorem neB_walk {a b : ByteArray} (h : eqB a b = true) : (a.toList != b.toList) = false := by
  have : (a.toList == b.toList) = true := h
  simp [bne, this]
set_option maxHeartbeats 4000000 in
theorem fnLabelValue_any (A : Option Addr) (n c : Nat) (w : World) (hm : n ≤ 9223372036854775807) (hc : n ≤ c) (hr : RdB w w.heap.size A n) :
    Calls Try.prog 7 #[.slice A n c] w fun e w' => e = .returned (.bool true) ∧ Below w.heap.size w w' := by
  by_cases hbig : (1048576 : Int) < n
  · go_enter Try.func7, Try.ntmps7
    go_wp2
    go_ret
    exact ⟨rfl, Below.refl _ _⟩
  · go_enter Try.func7, Try.ntmps7
    go_wp2_with fail
    refine (drawLabelValue_any A n c _ hm hc hr).mono ?_
    rintro e w1 ⟨A2, c2, m, l, s, rfl, hl, hm2, hcap, hsz, hs, hrd, hb1⟩
    have HL := Lib.hid hl
    have HS := Lib.hid hsz
    have he := eqB_walk (eqB_refl (lvB l s))
    clear hl hr hsz
    go_wp2_with fail
    refine (labelValue_any A2 m c2 l s _ HL.out hrd).mono ?_
    rintro e w2 ⟨rfl, hb2⟩
    have hb3 := kept_trans hb1 hb2
    have hrd3 := hrd.next hb2
    clear hb1 hb2 hrd
    go_wp2_with fail
    refine (specLabelValue_any A2 m c2 l s _ HL.out (by omega) HS.out hrd3).mono ?_
    rintro e w4 ⟨rfl, hb4⟩
    have hb5 := kept_trans hb3 hb4
    have hrd5 := hrd3.next hb4
    clear hb3 hb4 hrd3
    go_wp2_with fail
    refine (validLabels_any A2 m c2 l _ HL.out hrd5).mono ?_
    rintro e w6 ⟨rfl, hb6⟩
    have hb7 := kept_trans hb5 hb6
    have hrd7 := hrd5.next hb6
    clear hb5 hb6 hrd5
    rcases hv : vL l with _ | _
    · clear hv
      go_wp2_with fail
      refine (specLabelValue_any A2 m c2 l s _ HL.out (by omega) HS.out hrd7).mono ?_
      rintro e w8 ⟨rfl, hb8⟩
      go_wp2
      go_ret
      exact ⟨rfl, kept_trans hb7 hb8⟩
    · have HV := Lib.hid hv
      have HZ := Lib.hid (lvB_ok (s := s) hv)
      clear hv he
      go_wp2
      go_loopw [6, 7] (fun q i wr => ∃ k : Nat, k ≤ m ∧ i = .int .i64 k ∧ q = .bool (hasNm (l.take k) s) ∧ RdL wr wr.heap.size A2 l ∧ Below w.heap.size w wr) (fun _ i _ => m - (intOf i).toNat)
      case atStart => exact ⟨0, by omega, rfl, rfl, hrd7, hb7⟩
      case round =>
        obtain ⟨k, hk, rfl, rfl, hrr, hb⟩ := hrel
        clear hrd7 hb7
        by_cases hlt : k < m
        · have hki : (k : Int) < (m : Int) := by omega
          obtain ⟨b, off, rfl, hbb, hcc⟩ := RdL.at_ hrr (by rw [HL.out]; omega)
          obtain ⟨hc0, hc1⟩ := hcc k (by rw [HL.out]; exact hlt)
          have hln : k < l.length := by rw [HL.out]; exact hlt
          have HT := Lib.hid (hasNm_succ (s := s) hln)
          have HVO := Lib.hid (show lvB l (at0 l k).1 = (at0 l k).2 by rw [lvB_ok HV.out]; exact valB_own HV.out hln)
          have hee := eqB_walk (eqB_refl (at0 l k).2)
          have HR := Lib.hid hrr
          have HRD : Hid (RdL wr.drew wr.drew.heap.size (some ⟨b, off, none⟩) l) := Lib.hid hrr
          clear hcc hrr
          rcases hh : hasNm (l.take k) s with _ | _
          · rcases hq : eqB (at0 l k).1 s with _ | _
            · have HH := Lib.hid (And.intro hh hq)
              have hw := eqB_walk hq
              clear hh hq
              go_wp2_with fail
              go_region_with ((go_at_call 28; refine (labelValue_v _ m c2 l _ _ _ HL.out HRD.out HVO).mono ?_; rintro e w9 ⟨rfl, hb9⟩; have hcq := (hb9.cell (p := ⟨b, off + k * 2 + 1, none⟩) hbb).trans (show wr.drew.cell? ⟨b, off + k * 2 + 1, none⟩ = _ from hc1)))
              all_goals
                have hr9 := RdG.next HRD.out hb9
                have hb10 := kept_trans hb.drew hb9
                clear hc0 hc1 hb9 hb hcq
                go_wp2
                go_roundw
                case rel => exact ⟨k + 1, by omega, by go_num, by rw [HT.out, HH.out.1, HH.out.2]; rfl, hr9, hb10⟩
                case measure => simp [intOf]; omega
            · have HH := Lib.hid (And.intro hh hq)
              have hw := eqB_walk hq
              clear hh hq
              go_wp2_with fail
              go_region_with ((go_at_call 28; refine (labelValue_v _ m c2 l _ _ _ HL.out HRD.out HVO).mono ?_; rintro e w9 ⟨rfl, hb9⟩; have hcq := (hb9.cell (p := ⟨b, off + k * 2 + 1, none⟩) hbb).trans (show wr.drew.cell? ⟨b, off + k * 2 + 1, none⟩ = _ from hc1)))
              all_goals
                have hr9 := RdG.next HRD.out hb9
                have hb10 := kept_trans hb.drew hb9
                clear hc0 hc1 hb9 hb hcq
                go_wp2
                go_roundw
                case rel => exact ⟨k + 1, by omega, by go_num, by rw [HT.out, HH.out.1, HH.out.2]; rfl, hr9, hb10⟩
                case measure => simp [intOf]; omega
          · have HH := Lib.hid hh
            clear hh
            go_wp2_with fail
            go_region_with ((go_at_call 28; refine (labelValue_v _ m c2 l _ _ _ HL.out HRD.out HVO).mono ?_; rintro e w9 ⟨rfl, hb9⟩; have hcq := (hb9.cell (p := ⟨b, off + k * 2 + 1, none⟩) hbb).trans (show wr.drew.cell? ⟨b, off + k * 2 + 1, none⟩ = _ from hc1)))
            all_goals
              have hr9 := RdG.next HRD.out hb9
              have hb10 := kept_trans hb.drew hb9
              clear hc0 hc1 hb9 hb hcq
              go_wp2
              go_roundw
              case rel => exact ⟨k + 1, by omega, by go_num, by rw [HT.out, HH.out]; rfl, hr9, hb10⟩
              case measure => simp [intOf]; omega
        · have HA := Lib.hid (hasNm_all (l := l) (s := s) (k := k) (by rw [HL.out]; omega))
          have HE := Lib.hid (val_em HV.out s)
          clear hrr
          rcases hh : hasNm (l.take k) s with _ | _
          · have he : (lvB l s).toList = [] := emB_t (by rw [HZ.out, HE.out, ← HA.out, hh]; rfl)
            clear hh
            go_wp2
            go_ret
            exact ⟨rfl, hb⟩
          · have he : (lvB l s).toList.isEmpty = false := by have := HE.out; rw [← HA.out, hh, ← HZ.out] at this; exact this
            clear hh
            go_wp2
            go_ret
            exact ⟨rfl, hb⟩
end Go.Proofs.Ytjmdcdeccchlcaa
