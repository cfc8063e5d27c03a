/-
  Walks: copyCatalog, AddSeries of the spec.
-/
import Derived.Test.YtmnfcfhnmndakaaCatOwn
namespace Go.Proofs.Ytmnfcfhnmndakaa
open Go.RowKit
def RetC (w : World) (C : Ct) (e : Ending) (w' : World) : Prop :=
  ∃ (A : Option Addr) (c n : Nat) (vs : List Value), e = .returned (.slice A n c) ∧ OwnC w.heap.size w' (.slice A n c) n C vs ∧ Below w.heap.size w w'
set_option maxHeartbeats 4000000 in
set_option maxRecDepth 100000 in
theorem copyCatalog_any (A : Option Addr) (n c : Nat) (C : Ct) (w : World) (hn : C.length = n) (hn2 : n ≤ 1000) (hsz : ∀ i, i < n → (at0 C i).length ≤ 1000) (hr : RdC w w.heap.size A C) :
    Calls Try.prog 69 #[.slice A n c] w (RetC w C) := by
  have HN := Lib.hid hn
  have HR := Lib.hid hr
  have HZ := Lib.hid hsz
  clear hn hr hsz
  obtain ⟨i0, hi, hz0, hz1, hz2⟩ := info_parts infoSl
  obtain ⟨j0, hj, yz0, yz1, yz2⟩ := info_parts infoLabel
  have HO := Lib.hid (OwnC.nil w (Obj.cells #[] 33) (World.ownsRow_made w #[] 0 (Nat.le_refl _) (by unfold maxLen; omega) rfl))
  have HB := Lib.hid (kept_alloc (Below.refl w.heap.size w) (Obj.cells #[] 33))
  go_enter Try.func69, Try.ntmps69
  go_wp2
  go_loopw [3, 4] (fun v i wr => ∃ (k : Nat) (A' : Option Addr) (c' z : Nat) (pre : Ct) (vs : List Value), v = .slice A' z c' ∧ i = .int .i64 k ∧ k ≤ n ∧ z = k ∧ pre = C.take k ∧ OwnC w.heap.size wr (.slice A' z c') z pre vs ∧ Below w.heap.size w wr) (fun _ i _ => n - (intOf i).toNat)
  case atStart => exact ⟨0, _, _, 0, [], [], rfl, rfl, by omega, rfl, rfl, HO.out, HB.out⟩
  case round =>
    obtain ⟨k, A', c', z, pre, vs, rfl, rfl, hk, hzk, hpre, hown, hb⟩ := hrel
    have HZK := Lib.hid hzk
    have HP := Lib.hid hpre
    have hz10 : z ≤ 1000 := by omega
    clear hzk hpre
    by_cases hlt : k < n
    · have hki : (k : Int) < (n : Int) := by omega
      have hln : k < C.length := by rw [HN.out]; exact hlt
      obtain ⟨b, off, rfl, hbb, a2, m2, c2, hcl, hl2, _, hrl⟩ := RdC.at_ (RdC.next HR.out hb) HN.out hlt
      have hm2 : m2 ≤ 1000 := by rw [← hl2]; exact HZ.out k hlt
      have HL2 := Lib.hid hl2
      have hbE := kept_alloc (Below.refl wr.heap.size wr) (Obj.cells #[] 81)
      have HRE := Lib.hid (RdG.rdN (RdG.next hrl hbE) hl2)
      have HOE := Lib.hid (show (wr.alloc (Obj.cells #[] 81)).ownsRow wr.heap.size 81 2 (.slice (some ⟨wr.heap.size, 0, none⟩) 0 0) 0 [] from World.ownsRow_made wr #[] 0 (Nat.le_refl _) (by unfold maxLen; omega) rfl)
      have HOW := Lib.hid hown
      have hwr := hb.size
      have hcl' : (wr.alloc (Obj.cells #[] 81)).cell? ⟨b, off + k, none⟩ = some (.slice a2 m2 c2) := (hbE.cell (p := ⟨b, off + k, none⟩) hbb).trans hcl
      clear hl2 hrl hown
      go_wp2_with (first
        | (at_builtin; refine wpList_append_rd _ rfl _ _ _ rfl wr.heap.size 81 j0 _ 2 32 Try.underlying33 hj yz0 yz1 yz2 rfl (by omega) _ 0 [] rfl HOE.out _ _ m2 _ (cellsG encL 2 (at0 C k)) rfl HRE.out (one_cellsL _) (by simp only [maxLen]; omega) (by omega) (by simp) ?_; intro A4 c4 w4 hown4 hgrow4; have hb4 := below_own hbE HOE.out hgrow4; rw [List.nil_append, Nat.zero_add] at hown4; have hown4' : w4.ownsRow wr.heap.size 81 2 (.slice A4 m2 c4) m2 (rowG encL 2 (at0 C k)) := by unfold rowG; rw [HL2.out]; exact hown4
           have HI := Lib.hid hown4'
           have hOK := (HOW.out.kept hb4).2.2.1
           have hwr4 := hb4.size
           rw [Nat.zero_add]
           have hb4' := kept_trans hb hb4
           clear hcl hcl' hgrow4 hown4 hown4' hbE)
        | (at_builtin; refine wpList_append_lies _ rfl _ _ _ rfl (w.heap.size) 33 i0 _ 1 24 Try.underlying23 hi hz0 hz1 hz2 rfl (by omega) _ (z) (vs) rfl ((hOK).alloc _) ⟨w4.heap.size, 0, none⟩ 1 1 ([.slice A4 m2 c4]) rfl rfl (World.news_of_block (cs := ([.slice A4 m2 c4]).toArray) (t := 33) (fr := (0, 0)) (heap_alloc_new w4 _)) (by simp [Value.oneCell']) (by omega) (by simp only [maxLen]; omega) (by omega) (by simp; omega) (w4.heap.size + 1) (by simp) ?_; intro gg cap w2 hown2 hgrow hat hlt2))
      have hb5 := below_app' hb4' hOK hgrow
      have HS := Lib.hid (HOW.out.snoc hb4 HL2.out HI.out hb.size hown2 hgrow (by rw [size_alloc1]; exact hat))
      clear hOK hgrow hat hown2 hb hb4 hb4'
      go_wp2
      go_roundw
      case rel => exact ⟨k + 1, _, _, z + 1, _, _, rfl, by go_num, by omega, by rw [HZK.out], by rw [HP.out, take_succ_at C hln], HS.out, hb5⟩
      case measure => simp [intOf]; omega
    · have HX := Lib.hid (show pre = C by rw [HP.out, List.take_of_length_le (by rw [HN.out]; omega)])
      have HOW := Lib.hid hown
      clear hown
      go_wp2
      go_ret
      exact ⟨_, _, z, vs, rfl, by rw [← HX.out]; exact HOW.out, hb⟩
/-- The catalog with a series, and its number. -/
def adV (C : Ct) (l : List Lb) : Option (Ct × Int) := if vC C = true ∧ vL l = true then (if 0 ≤ plc C l then some (C, plc C l) else if C.length = 8 then none else some (C ++ [l], (C.length : Int))) else none
theorem adV_no1 {C : Ct} {l : List Lb} (h : vC C = false) : adV C l = none := if_neg fun k => by rw [h] at k; cases k.1
theorem adV_no2 {C : Ct} {l : List Lb} (h : vL l = false) : adV C l = none := if_neg fun k => by rw [h] at k; cases k.2
theorem adV_in {C : Ct} {l : List Lb} (h : vC C = true) (h' : vL l = true) (hp : 0 ≤ plc C l) : adV C l = some (C, plc C l) := by unfold adV; rw [if_pos ⟨h, h'⟩, if_pos hp]
theorem adV_full {C : Ct} {l : List Lb} (h : vC C = true) (h' : vL l = true) (hp : ¬ 0 ≤ plc C l) (h8 : C.length = 8) : adV C l = none := by unfold adV; rw [if_pos ⟨h, h'⟩, if_neg hp, if_pos h8]
theorem adV_new {C : Ct} {l : List Lb} (h : vC C = true) (h' : vL l = true) (hp : ¬ 0 ≤ plc C l) (h8 : ¬ C.length = 8) : adV C l = some (C ++ [l], (C.length : Int)) := by unfold adV; rw [if_pos ⟨h, h'⟩, if_neg hp, if_neg h8]
def adC : Option (Ct × Int) → Ct | none => [] | some x => x.1
def adN : Option (Ct × Int) → Int | none => -1 | some x => x.2
def RetA (w : World) (r : Option (Ct × Int)) (e : Ending) (w' : World) : Prop :=
  ∃ (A : Option Addr) (c n : Nat) (vs : List Value), e = .returned (.tuple #[.slice A n c, .int .i64 (adN r), .bool r.isSome]) ∧ OwnC w.heap.size w' (.slice A n c) n (adC r) vs ∧ Below w.heap.size w w'
theorem retA_none {w w' : World} {r : Option (Ct × Int)} (h : r = none) (hb : Below w.heap.size w w') : RetA w r (.returned (.tuple #[.slice none 0 0, .int .i64 (-1), .bool false])) w' := by
  subst h; exact ⟨none, 0, 0, [], rfl, OwnC.none_ _ _, hb⟩
theorem retA_some {w w' : World} {r : Option (Ct × Int)} {D : Ct} {k : Int} (h : r = some (D, k)) {A : Option Addr} {c n : Nat} {vs : List Value} (ho : OwnC w.heap.size w' (.slice A n c) n D vs) (hb : Below w.heap.size w w') : RetA w r (.returned (.tuple #[.slice A n c, .int .i64 k, .bool true])) w' := by
  subst h; exact ⟨A, c, n, vs, rfl, ho, hb⟩
theorem OwnC.mono {B B' : Nat} {w : World} {v : Value} {n : Nat} {C : Ct} {vs : List Value} (h : OwnC B' w v n C vs) (hB : B ≤ B') : OwnC B w v n C vs :=
  ⟨h.1, h.2.1, World.ownsRow.mono h.2.2.1 hB, fun i hi => let ⟨a, c, h1, h2, h3⟩ := h.2.2.2 i hi; ⟨a, c, h1, World.ownsRow.mono h2 hB, h3⟩⟩
set_option maxHeartbeats 4000000 in
set_option maxRecDepth 100000 in
theorem specAddSeries_any (A : Option Addr) (n c : Nat) (C : Ct) (B : Option Addr) (m d : Nat) (l : List Lb) (w : World) (hn : C.length = n) (hm : l.length = m) (hc : n ≤ c) (hn2 : n ≤ 1000000000000) (hm2 : m ≤ 1000000000000) (hsz : SzR C 1000000000000) (hsl : SzL l)
    (hr : RdC w w.heap.size A C) (hr' : RdL w w.heap.size B l) :
    Calls Try.prog 30 #[.slice A n c, .slice B m d] w (RetA w (adV C l)) := by
  have HN := Lib.hid hn
  have HM := Lib.hid hm
  have HZ := Lib.hid hsz
  have HSL := Lib.hid hsl
  clear hn hm hsz hsl
  rcases hv : vC C with _ | _
  · have HF := Lib.hid (adV_no1 (l := l) hv)
    have HV := Lib.hid hv
    clear hv
    go_enter Try.func30, Try.ntmps30
    go_wp2_with fail
    refine (specValidCatalog_any A n c C _ HN.out hc hn2 HZ.out hr).mono ?_
    rintro e w1 ⟨rfl, hb1⟩
    rw [HV.out]
    clear hr hr'
    go_wp2
    go_ret3
    exact retA_none HF.out hb1
  · have HV := Lib.hid hv
    clear hv
    rcases hv2 : vL l with _ | _
    · have HF := Lib.hid (adV_no2 (C := C) hv2)
      have HV2 := Lib.hid hv2
      clear hv2
      go_enter Try.func30, Try.ntmps30
      go_wp2_with fail
      refine (specValidCatalog_any A n c C _ HN.out hc hn2 HZ.out hr).mono ?_
      rintro e w1 ⟨rfl, hb1⟩
      rw [HV.out]
      have hr2 := RdG.next hr' hb1
      clear hr hr'
      go_wp2_with fail
      refine (specValidLabels_any B m d l _ HM.out hm2 HSL.out hr2).mono ?_
      rintro e w2 ⟨rfl, hb2⟩
      rw [HV2.out]
      have hb3 := kept_trans hb1 hb2
      clear hb1 hb2 hr2
      go_wp2
      go_ret3
      exact retA_none HF.out hb3
    · have HV2 := Lib.hid hv2
      have hn8 : n ≤ 8 := by have := (VC_of HV.out).1; rw [HN.out] at this; exact this
      have hm4 : m ≤ 4 := by have := (VL_of hv2).1; rw [HM.out] at this; exact this
      have HZ4 := Lib.hid (show ∀ i, i < n → (at0 C i).length ≤ 1000 from fun i hi => by
        have := (VL_of ((VC_of HV.out).2 i (by rw [HN.out]; exact hi)).1).1
        omega)
      clear hv2
      obtain ⟨i0, hi, hz0, hz1, hz2⟩ := info_parts infoSl
      obtain ⟨j0, hj, yz0, yz1, yz2⟩ := info_parts infoLabel
      go_enter Try.func30, Try.ntmps30
      go_wp2_with fail
      refine (specValidCatalog_any A n c C _ HN.out hc hn2 HZ.out hr).mono ?_
      rintro e w1 ⟨rfl, hb1⟩
      rw [HV.out]
      have hr1 := RdC.next hr hb1
      have hr2 := RdG.next hr' hb1
      clear hr hr'
      go_wp2_with fail
      refine (specValidLabels_any B m d l _ HM.out hm2 HSL.out hr2).mono ?_
      rintro e w2 ⟨rfl, hb2⟩
      rw [HV2.out]
      have hb3 := kept_trans hb1 hb2
      have hr3 := RdC.next hr1 hb2
      have hr4 := RdG.next hr2 hb2
      clear hb1 hb2 hr1 hr2
      go_wp2_with fail
      refine (placeIn_any A n c C B m d l _ HN.out HM.out hn2 hm2 HZ.out hr3 hr4).mono ?_
      rintro e w3 ⟨rfl, hb4⟩
      have hb5 := kept_trans hb3 hb4
      have hr5 := RdC.next hr3 hb4
      have hr6 := RdG.next hr4 hb4
      clear hb3 hb4 hr3 hr4
      by_cases hp : 0 ≤ plc C l
      · have HF := Lib.hid (adV_in HV.out HV2.out hp)
        go_wp2_with fail
        refine (copyCatalog_any A n c C _ HN.out (by omega) HZ4.out hr5).mono ?_
        rintro e w4 ⟨A4, c4, n4, vs4, rfl, ho4, hb6⟩
        have HO := Lib.hid (ho4.mono hb5.size)
        have hb7 := kept_trans hb5 hb6
        clear ho4 hb5 hb6 hr5 hr6
        go_wp2
        go_ret3
        exact retA_some HF.out HO.out hb7
      · by_cases h8 : n = 8
        · have HF := Lib.hid (adV_full HV.out HV2.out hp (by rw [HN.out]; exact h8))
          have h8z : ((n : Int) == 8) = true := by simp [h8]
          clear h8 hr5 hr6
          go_wp2
          go_ret3
          exact retA_none HF.out hb5
        · have HF := Lib.hid (adV_new HV.out HV2.out hp (by rw [HN.out]; exact h8))
          have h8z : ((n : Int) == 8) = false := by simp; omega
          clear h8
          go_wp2_with fail
          refine (copyCatalog_any A n c C _ HN.out (by omega) HZ4.out hr5).mono ?_
          rintro e w4 ⟨A4, c4, n4, vs4, rfl, ho4, hb6⟩
          have HO := Lib.hid (ho4.mono hb5.size)
          have hn4 : n4 = n := by rw [← ho4.1, HN.out]
          subst hn4
          have hb7 := kept_trans hb5 hb6
          have hr7 := RdG.next hr6 hb6
          clear ho4 hb5 hb6 hr5 hr6
          have hbE := kept_alloc (Below.refl w4.heap.size w4) (Obj.cells #[] 81)
          have HRE := Lib.hid (RdG.rdN (RdG.next hr7 hbE) HM.out)
          have HOE := Lib.hid (show (w4.alloc (Obj.cells #[] 81)).ownsRow w4.heap.size 81 2 (.slice (some ⟨w4.heap.size, 0, none⟩) 0 0) 0 [] from World.ownsRow_made w4 #[] 0 (Nat.le_refl _) (by unfold maxLen; omega) rfl)
          have hs7 := hb7.size
          clear hr7
          go_wp2_with (first
            | (at_builtin; refine wpList_append_rd _ rfl _ _ _ rfl w4.heap.size 81 j0 _ 2 32 Try.underlying33 hj yz0 yz1 yz2 rfl (by omega) _ 0 [] rfl HOE.out _ _ m _ (cellsG encL 2 l) rfl HRE.out (one_cellsL _) (by simp only [maxLen]; omega) (by omega) (by simp) ?_; intro A5 c5 w5 hown5 hgrow5; have hb8 := below_own hbE HOE.out hgrow5; rw [List.nil_append, Nat.zero_add] at hown5; have hown5' : w5.ownsRow w4.heap.size 81 2 (.slice A5 m c5) m (rowG encL 2 l) := by unfold rowG; rw [HM.out]; exact hown5
               have HI := Lib.hid hown5'
               have hOK := (HO.out.kept hb8).2.2.1
               have hwr4 := hb8.size
               rw [Nat.zero_add]
               have hb9 := kept_trans hb7 hb8
               clear hgrow5 hown5 hown5' hbE)
            | (at_builtin; refine wpList_append_lies _ rfl _ _ _ rfl (w.heap.size) 33 i0 _ 1 24 Try.underlying23 hi hz0 hz1 hz2 rfl (by omega) _ (n4) (vs4) rfl ((hOK).alloc _) ⟨w5.heap.size, 0, none⟩ 1 1 ([.slice A5 m c5]) rfl rfl (World.news_of_block (cs := ([.slice A5 m c5]).toArray) (t := 33) (fr := (0, 0)) (heap_alloc_new w5 _)) (by simp [Value.oneCell']) (by omega) (by simp only [maxLen]; omega) (by omega) (by simp; omega) (w5.heap.size + 1) (by simp) ?_; intro gg cap w2 hown2 hgrow hat hlt2))
          have hb10 := below_app' hb9 hOK hgrow
          have HS := Lib.hid (HO.out.snoc hb8 HM.out HI.out hs7 hown2 hgrow (by rw [size_alloc1]; exact hat))
          have HF2 := Lib.hid (show adV C l = some (C ++ [l], (n4 : Int)) by rw [HF.out, HN.out])
          clear hOK hgrow hat hown2 hb7 hb8 hb9
          go_wp2
          go_ret3
          exact retA_some HF2.out HS.out hb10
end Go.Proofs.Ytmnfcfhnmndakaa
