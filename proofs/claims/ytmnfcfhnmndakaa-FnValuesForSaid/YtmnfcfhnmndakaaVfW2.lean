/-
  Walks: insert, ValuesFor of the spec; equalTexts of the laws.
-/
import Derived.Test.YtmnfcfhnmndakaaVfW
namespace Go.Proofs.Ytmnfcfhnmndakaa
open Go.RowKit
theorem gtB_a {a b : ByteArray} (h : ltB b a = true) : Op.bytesLess a.toList b.toList = false ∧ (a.toList == b.toList) = false := by
  have h1 := leB_no.2 h
  unfold leB at h1
  rw [Bool.or_eq_false_iff] at h1
  exact h1
theorem insB_stage {l : List ByteArray} {s : ByteArray} {k : Nat} (hk : k = l.length) : (l.take k).filter (fun x => ltB x s) ++ [s] = l.filter (fun x => ltB x s) ++ [s] ++ (l.take 0).filter (fun x => ltB s x) := by
  rw [hk, List.take_length]; simp
set_option maxHeartbeats 4000000 in
set_option maxRecDepth 100000 in
theorem insert_any (A : Option Addr) (n c : Nat) (l : List ByteArray) (s : ByteArray) (w : World) (hn : l.length = n) (hm : n ≤ 1000000000) (hr : RdS w w.heap.size A l) :
    Calls Try.prog 61 #[.slice A n c, .string s] w (RetS w (insB l s)) := by
  have HN := Lib.hid hn
  have HR := Lib.hid hr
  clear hn hr
  obtain ⟨i0, hi, hz0, hz1, hz2⟩ := info_parts infoString
  have HO := Lib.hid (World.ownsRow_made (e := 9) (size := 1) w #[] 0 (Nat.le_refl _) (by unfold maxLen; omega) rfl)
  have HB := Lib.hid (kept_alloc (Below.refl w.heap.size w) (Obj.cells #[] 9))
  go_enter Try.func61, Try.ntmps61
  go_wp2
  go_loopw [5, 6] (fun v i wr => ∃ (k : Nat) (A' : Option Addr) (c' z : Nat) (pre : List ByteArray), v = .slice A' z c' ∧ i = .int .i64 k ∧ k ≤ n ∧ pre.length = z ∧ z ≤ k ∧ pre = (l.take k).filter (fun x => ltB x s) ∧ wr.ownsRow w.heap.size 9 1 (.slice A' z c') z (rowG encS 1 pre) ∧ Below w.heap.size w wr) (fun _ i _ => n - (intOf i).toNat)
  case atStart => exact ⟨0, _, _, 0, [], rfl, rfl, by omega, rfl, by omega, by simp, by rw [rowG_nil]; exact HO.out, HB.out⟩
  case round =>
    obtain ⟨k, A', c', z, pre, rfl, rfl, hk, hz, hzk, hpre, hown, hb⟩ := hrel
    have HZl := Lib.hid hz
    have HP := Lib.hid hpre
    clear hz hpre
    by_cases hlt : k < n
    · have hki : (k : Int) < (n : Int) := by omega
      have hlc : k < l.length := by rw [HN.out]; exact hlt
      obtain ⟨b, off, rfl, hbb, hc⟩ := HR.out.at_ (by omega)
      have hc0 := hc k hlc
      rw [← hb.cell (by exact hbb)] at hc0
      have hwr := hb.size
      clear hc
      rcases hh : ltB (at0 l k) s with _ | _
      · have HS := Lib.hid (filter_not (f := fun x => ltB x s) hlc hh)
        have hw := ltB_walk hh
        clear hh
        go_wp2
        go_roundw
        case rel => exact ⟨k + 1, _, _, z, pre, rfl, by go_num, by omega, HZl.out, by omega, by rw [HS.out]; exact HP.out, hown, hb⟩
        case measure => simp [intOf]; omega
      · have HS := Lib.hid (filter_yes (f := fun x => ltB x s) hlc hh)
        have hw := ltB_walk hh
        clear hh
        go_wp2_with (at_builtin; refine wpList_append_lies _ rfl _ _ _ rfl (w.heap.size) 9 i0 _ 1 16 Try.underlying26 hi hz0 hz1 hz2 rfl (by omega) _ (z) (rowG encS 1 pre) rfl ((hown).alloc _) ⟨wr.heap.size, 0, none⟩ 1 1 ([.string (at0 l k)]) rfl rfl (World.news_of_block (cs := ([.string (at0 l k)]).toArray) (t := 9) (fr := (0, 0)) (heap_alloc_new wr _)) (by simp [Value.oneCell']) (by omega) (by simp only [maxLen]; omega) (by omega) (by simp; omega) (wr.heap.size + 1) (by simp) ?_; intro gg cap w2 hown2 hgrow hat hlt2)
        have hb4 := below_app' hb hown hgrow
        rw [← rowS_snoc] at hown2
        clear hgrow hat hown hb
        go_wp2
        go_roundw
        case rel => exact ⟨k + 1, _, _, z + 1, _, rfl, by go_num, by omega, by rw [List.length_append, HZl.out]; rfl, by omega, by rw [HS.out, HP.out], hown2, hb4⟩
        case measure => simp [intOf]; omega
    · have hwr := hb.size
      have HX := Lib.hid (show pre ++ [s] = l.filter (fun x => ltB x s) ++ [s] ++ (l.take 0).filter (fun x => ltB s x) by rw [HP.out]; exact insB_stage (by rw [HN.out]; omega))
      go_wp2_with (at_builtin; refine wpList_append_lies _ rfl _ _ _ rfl (w.heap.size) 9 i0 _ 1 16 Try.underlying26 hi hz0 hz1 hz2 rfl (by omega) _ (z) (rowG encS 1 pre) rfl ((hown).alloc _) ⟨wr.heap.size, 0, none⟩ 1 1 ([.string s]) rfl rfl (World.news_of_block (cs := ([.string s]).toArray) (t := 9) (fr := (0, 0)) (heap_alloc_new wr _)) (by simp [Value.oneCell']) (by omega) (by simp only [maxLen]; omega) (by omega) (by simp; omega) (wr.heap.size + 1) (by simp) ?_; intro gg cap w2 hown2 hgrow hat hlt2)
      have hb4 := below_app' hb hown hgrow
      rw [← rowS_snoc] at hown2
      have HO2 := Lib.hid hown2
      have HB2 := Lib.hid hb4
      have HZ2 := Lib.hid (show (pre ++ [s]).length = z + 1 by rw [List.length_append, HZl.out]; rfl)
      clear hgrow hat hown hb hown2 hb4 HZl HP
      go_wp2
      go_loopw [5, 7] (fun v i wr => ∃ (k : Nat) (A' : Option Addr) (c' z : Nat) (pre : List ByteArray), v = .slice A' z c' ∧ i = .int .i64 k ∧ k ≤ n ∧ pre.length = z ∧ z ≤ n + 1 + k ∧ pre = l.filter (fun x => ltB x s) ++ [s] ++ (l.take k).filter (fun x => ltB s x) ∧ wr.ownsRow w.heap.size 9 1 (.slice A' z c') z (rowG encS 1 pre) ∧ Below w.heap.size w wr) (fun _ i _ => n - (intOf i).toNat)
      case atStart => exact ⟨0, _, _, _, _, rfl, rfl, by omega, HZ2.out, by omega, HX.out, HO2.out, HB2.out⟩
      case round =>
        obtain ⟨k, A', c', z, pre, rfl, rfl, hk, hz, hzk, hpre, hown, hb⟩ := hrel
        have HZl := Lib.hid hz
        have HP := Lib.hid hpre
        clear hz hpre
        by_cases hlt : k < n
        · have hki : (k : Int) < (n : Int) := by omega
          have hlc : k < l.length := by rw [HN.out]; exact hlt
          obtain ⟨b, off, rfl, hbb, hc⟩ := HR.out.at_ (by omega)
          have hc0 := hc k hlc
          rw [← hb.cell (by exact hbb)] at hc0
          have hwr := hb.size
          clear hc
          rcases hh : ltB s (at0 l k) with _ | _
          · have HS := Lib.hid (filter_not (f := fun x => ltB s x) hlc hh)
            rcases h2 : ltB (at0 l k) s with _ | _
            · have e2 := ltB_total h2 hh
              have hw1 := ltB_walk h2
              have hw2 := eqB_walk (eqB_iff.2 e2)
              clear hh h2 e2
              go_wp2
              go_roundw
              case rel => exact ⟨k + 1, _, _, z, pre, rfl, by go_num, by omega, HZl.out, by omega, by rw [HS.out]; exact HP.out, hown, hb⟩
              case measure => simp [intOf]; omega
            · have hw1 := ltB_walk h2
              clear hh h2
              go_wp2
              go_roundw
              case rel => exact ⟨k + 1, _, _, z, pre, rfl, by go_num, by omega, HZl.out, by omega, by rw [HS.out]; exact HP.out, hown, hb⟩
              case measure => simp [intOf]; omega
          · have HS := Lib.hid (filter_yes (f := fun x => ltB s x) hlc hh)
            obtain ⟨hw1, hw2⟩ := gtB_a hh
            clear hh
            go_wp2_with (at_builtin; refine wpList_append_lies _ rfl _ _ _ rfl (w.heap.size) 9 i0 _ 1 16 Try.underlying26 hi hz0 hz1 hz2 rfl (by omega) _ (z) (rowG encS 1 pre) rfl ((hown).alloc _) ⟨wr.heap.size, 0, none⟩ 1 1 ([.string (at0 l k)]) rfl rfl (World.news_of_block (cs := ([.string (at0 l k)]).toArray) (t := 9) (fr := (0, 0)) (heap_alloc_new wr _)) (by simp [Value.oneCell']) (by omega) (by simp only [maxLen]; omega) (by omega) (by simp; omega) (wr.heap.size + 1) (by simp) ?_; intro gg cap w2 hown2 hgrow hat hlt2)
            have hb4 := below_app' hb hown hgrow
            rw [← rowS_snoc] at hown2
            clear hgrow hat hown hb
            go_wp2
            go_roundw
            case rel => exact ⟨k + 1, _, _, z + 1, _, rfl, by go_num, by omega, by rw [List.length_append, HZl.out]; rfl, by omega, by rw [HS.out, HP.out, List.append_assoc], hown2, hb4⟩
            case measure => simp [intOf]; omega
        · have HY := Lib.hid (show insB l s = pre by rw [HP.out, List.take_of_length_le (by rw [HN.out]; omega)]; rfl)
          go_wp2
          go_ret
          exact ⟨A', c', by rw [HY.out, HZl.out]; rfl, by rw [HY.out, HZl.out]; exact hown, hb⟩
set_option maxHeartbeats 2000000 in
theorem specValuesFor_any (A : Option Addr) (n c : Nat) (C : Ct) (s : ByteArray) (w : World) (hn : C.length = n) (hc : n ≤ c) (hn2 : n ≤ 1000000000000) (hsz : SzR C 1000000000000) (hr : RdC w w.heap.size A C) :
    Calls Try.prog 17 #[.slice A n c, .string s] w (RetS w (vfV C s)) := by
  have HN := Lib.hid hn
  have HR := Lib.hid hr
  have HSZ := Lib.hid hsz
  clear hn hsz
  have hbE := kept_alloc (Below.refl w.heap.size w) (Obj.cells #[] 9)
  have hrE := RdC.next hr hbE
  rcases hv : vC C with _ | _
  · have HV := Lib.hid hv
    have HZ := Lib.hid (vfV_no (s := s) hv)
    clear hv hr
    go_enter Try.func17, Try.ntmps17
    go_wp2_with fail
    refine (specValidCatalog_any A n c C _ HN.out hc hn2 HSZ.out hrE).mono ?_
    rintro e w1 ⟨rfl, hb1⟩
    rw [HV.out]
    have hb2 := kept_trans hbE hb1
    clear hrE hbE hb1
    go_wp2
    go_ret
    exact retG_nil HZ.out hb2
  · have HV := Lib.hid hv
    have HZ := Lib.hid (vfV_ok (s := s) hv)
    have hn8 : n ≤ 8 := by have := (VC_of hv).1; rw [HN.out] at this; exact this
    have hO := World.ownsRow_made (e := 9) (size := 1) w #[] 0 (Nat.le_refl _) (by unfold maxLen; omega) rfl
    clear hv hr
    go_enter Try.func17, Try.ntmps17
    go_wp2_with fail
    refine (specValidCatalog_any A n c C _ HN.out hc hn2 HSZ.out hrE).mono ?_
    rintro e w1 ⟨rfl, hb1⟩
    rw [HV.out]
    have HB1 := Lib.hid (kept_trans hbE hb1)
    have HO1 := Lib.hid (own_kept hO hb1)
    clear hrE hbE hb1 hO
    go_wp2
    go_loopw [5, 6] (fun v i wr => ∃ (k : Nat) (A' : Option Addr) (c' z : Nat) (pre : List ByteArray), v = .slice A' z c' ∧ i = .int .i64 k ∧ k ≤ n ∧ pre.length = z ∧ z ≤ k ∧ pre = insTo C s k ∧ wr.ownsRow w.heap.size 9 1 (.slice A' z c') z (rowG encS 1 pre) ∧ Below w.heap.size w wr) (fun _ i _ => n - (intOf i).toNat)
    case atStart => exact ⟨0, _, _, 0, [], rfl, rfl, by omega, rfl, by omega, rfl, by rw [rowG_nil]; exact HO1.out, HB1.out⟩
    case round =>
      obtain ⟨k, A', c', z, pre, rfl, rfl, hk, hz, hzk, hpre, hown, hb⟩ := hrel
      have HZl := Lib.hid hz
      have HP := Lib.hid hpre
      clear hz hpre
      by_cases hlt : k < n
      · have hki : (k : Int) < (n : Int) := by omega
        have hlc : k < C.length := by rw [HN.out]; exact hlt
        obtain ⟨b, off, rfl, hbb, a3, m3, c3, hcl, hl3, _, hrl3⟩ := RdC.at_ (RdC.next HR.out hb) HN.out hlt
        have hm3 : m3 ≤ 1000000000000 := by
          have := (VL_of ((VC_of HV.out).2 k hlc).1).1
          rw [hl3] at this; omega
        have HL3 := Lib.hid hl3
        clear hl3
        go_wp2_with fail
        refine (valueOf_any a3 m3 c3 (at0 C k) s _ HL3.out hm3 hrl3).mono ?_
        rintro e wq ⟨rfl, rfl⟩
        clear hrl3
        rcases hh : emB (valB (at0 C k) s) with _ | _
        · have HS := Lib.hid (insTo_in hh)
          have he : (valB (at0 C k) s).toList.isEmpty = false := hh
          have hro := own_rdG hown HZl.out
          have hwr := hb.size
          clear hh hcl
          go_wp2_with fail
          refine (insert_any A' z c' pre _ _ HZl.out (by omega) hro).mono ?_
          rintro e w2 ⟨A2, c2, rfl, hown2, hb2⟩
          have hown3 := World.ownsRow.mono hown2 hwr
          have hb3 := kept_trans hb hb2
          have hlen := insTo_len C s (k + 1)
          rw [HS.out, ← HP.out] at hlen
          clear hown2 hb2 hown hb hro
          go_wp2
          go_roundw
          case rel => exact ⟨k + 1, _, _, _, _, rfl, by go_num, by omega, rfl, hlen, by rw [HS.out, HP.out], hown3, hb3⟩
          case measure => simp [intOf]; omega
        · have HS := Lib.hid (insTo_em hh)
          have he : (valB (at0 C k) s).toList = [] := emB_t hh
          clear hh hcl
          go_wp2
          go_roundw
          case rel => exact ⟨k + 1, _, _, z, pre, rfl, by go_num, by omega, HZl.out, by omega, by rw [HS.out]; exact HP.out, hown, hb⟩
          case measure => simp [intOf]; omega
      · have HX := Lib.hid (show vfV C s = pre by rw [HZ.out, HP.out, HN.out, insTo_eq, show n = k by omega])
        go_wp2
        go_ret
        exact ⟨A', c', by rw [HX.out, HZl.out]; rfl, by rw [HX.out, HZl.out]; exact hown, hb⟩
set_option maxHeartbeats 1000000 in
theorem equalTexts_same (A : Option Addr) (n c : Nat) (A' : Option Addr) (c' : Nat) (l : List ByteArray) (w : World) (hn : l.length = n) (hm : n ≤ 1000000000000)
    (hr : RdS w w.heap.size A l) (hr' : RdS w w.heap.size A' l) :
    Calls Try.prog 16 #[.slice A n c, .slice A' n c'] w fun e w' => e = .returned (.bool true) ∧ Below w.heap.size w w' := by
  have HN := Lib.hid hn
  clear hn
  go_enter Try.func16, Try.ntmps16
  go_wp2
  go_loopw [5] (fun i wr => ∃ k : Nat, k ≤ n ∧ i = .int .i64 k ∧ Below w.heap.size w wr) (fun i _ => n - (intOf i).toNat)
  case atStart => exact ⟨0, by omega, rfl, Below.refl _ _⟩
  case round =>
    obtain ⟨k, hk, rfl, hb⟩ := hrel
    by_cases hlt : k < n
    · have hki : (k : Int) < (n : Int) := by omega
      obtain ⟨b, off, rfl, hbb, hc⟩ := hr.at_ (by rw [HN.out]; omega)
      obtain ⟨b', off', rfl, hbb', hc'⟩ := hr'.at_ (by rw [HN.out]; omega)
      have hc0 := hc k (by rw [HN.out]; exact hlt)
      have hd0 := hc' k (by rw [HN.out]; exact hlt)
      rw [← hb.cell (by exact hbb)] at hc0
      rw [← hb.cell (by exact hbb')] at hd0
      have he := eqB_walk (eqB_refl (at0 l k))
      clear hc hc' hr hr'
      go_wp2_with fail
      go_quiet (fail)
      go_wp2
      go_roundw
      case rel => exact ⟨k + 1, by omega, by go_num, kept_drewN hb _⟩
      case measure => simp [intOf]; omega
    · clear hr hr'
      go_wp2
      go_ret
      exact ⟨rfl, hb⟩
end Go.Proofs.Ytmnfcfhnmndakaa
