/-
  Walk: FnPostingsAll.
-/
import Derived.Test.YtnnbfdlicadgfaaPosGen
import Derived.Test.YtnnbfdlicadgfaaPosW2
import Derived.Deep.RegionHeld3
namespace Go.Proofs.Ytnnbfdlicadgfaa
open Go.RowKit
theorem szN_t {C : Ct} (h : SzN C) : SzR C 1000000000000 := SzR.mono h (by omega)
theorem psV_len (C : Ct) (x : Lb) : (psV C x).length ≤ C.length := by
  unfold psV
  split
  · exact posTo_len _ _ _
  · simp
theorem psV_in {C : Ct} {x : Lb} {k : Nat} (hv : vC C = true) (hk : k < C.length) (h : x ∈ at0 C k) : (k : Int) ∈ psV C x := by
  rw [psV_ok hv]; exact posTo_mem.2 ⟨k, hk, rfl, hasL_iff.2 h⟩
theorem kc_start {w : World} {b1 o1 b2 o2 b3 o3 : Nat} {u v z : Value} (h : w.cell? ⟨b1, o1, none⟩ = some u ∧ w.cell? ⟨b2, o2, none⟩ = some v ∧ w.cell? ⟨b3, o3, none⟩ = some z) :
    (w.drew.cell? ⟨b1, o1, none⟩ = some u ∧ w.drew.cell? ⟨b2, o2, none⟩ = some v ∧ w.drew.cell? ⟨b3, o3, none⟩ = some z) ∧ Below w.heap.size w w.drew :=
  ⟨h, (Below.refl _ _).drew⟩
theorem kc_call {W w w' : World} {b1 o1 b2 o2 b3 o3 : Nat} {u v z : Value} (hg : b1 < W.heap.size ∧ b2 < W.heap.size ∧ b3 < W.heap.size) (h : (w.cell? ⟨b1, o1, none⟩ = some u ∧ w.cell? ⟨b2, o2, none⟩ = some v ∧ w.cell? ⟨b3, o3, none⟩ = some z) ∧ Below W.heap.size W w) (hb : Below w.heap.size w w') :
    (w'.cell? ⟨b1, o1, none⟩ = some u ∧ w'.cell? ⟨b2, o2, none⟩ = some v ∧ w'.cell? ⟨b3, o3, none⟩ = some z) ∧ Below W.heap.size W w' :=
  have hs := h.2.size
  ⟨⟨(hb.cell (p := ⟨b1, o1, none⟩) (show b1 < _ by omega)).trans h.1.1, (hb.cell (p := ⟨b2, o2, none⟩) (show b2 < _ by omega)).trans h.1.2.1, (hb.cell (p := ⟨b3, o3, none⟩) (show b3 < _ by omega)).trans h.1.2.2⟩, kept_trans h.2 hb⟩
set_option maxHeartbeats 8000000 in
set_option maxRecDepth 100000 in
theorem fnPostingsAll_any (A : Option Addr) (n c : Nat) (w : World) (hm : n ≤ 9223372036854775807) (hc : n ≤ c) (hr : RdB w w.heap.size A n) :
    Calls Try.prog 13 #[.slice A n c] w fun e w' => e = .returned (.bool true) ∧ Below w.heap.size w w' := by
  by_cases hbig : (1048576 : Int) < n
  · go_enter Try.func13, Try.ntmps13
    go_wp2
    go_ret
    exact ⟨rfl, Below.refl _ _⟩
  · go_enter Try.func13, Try.ntmps13
    go_wp2_with fail
    refine (drawPostings_any A n c _ hm hc hr).mono ?_
    rintro e w1 ⟨A2, c2, m, C, s, t, rfl, hC, hm2, hcap, hsz, hs, ht, hrd, hb1⟩
    have HL := Lib.hid (And.intro hC hsz)
    clear hC hr hsz
    go_wp2_with fail
    refine (postings_any A2 m c2 C (s, t) _ HL.out.1 hcap hrd).mono ?_
    rintro e w2 ⟨A3, c3, rfl, hown3, hb2⟩
    have hb3 := kept_trans hb1 hb2
    have hrd3 := RdC.next hrd hb2
    have hri3 := own_rd1 hown3 rfl
    clear hb1 hb2 hrd hown3
    go_wp2_with fail
    refine (specPostings_any A2 m c2 C (s, t) _ HL.out.1 hcap (by omega) (szN_t HL.out.2) hrd3).mono ?_
    rintro e w4 ⟨A4, c4, rfl, hown4, hb4⟩
    have hb5 := kept_trans hb3 hb4
    have hrd5 := RdC.next hrd3 hb4
    have hri5 := Rd1.next hri3 hb4
    have hrj5 := own_rd1 hown4 rfl
    have hpl := psV_len C (s, t)
    have hplm : (psV C (s, t)).length ≤ 9 := by rw [HL.out.1] at hpl; omega
    clear hb3 hb4 hrd3 hri3 hown4
    go_wp2_with fail
    refine (equalInts_any A3 _ c3 (psV C (s, t)) A4 _ c4 (psV C (s, t)) _ rfl rfl (by omega) hri5 hrj5).mono ?_
    rintro e w6 ⟨rfl, hb6⟩
    rw [eqI_refl]
    have hb7 := kept_trans hb5 hb6
    have hrd7 := RdC.next hrd5 hb6
    have hri7 := Rd1.next hri5 hb6
    clear hb5 hb6 hrd5 hri5 hrj5
    go_wp2_with fail
    refine (validCatalog_any A2 m c2 C _ HL.out.1 hcap hrd7).mono ?_
    rintro e w8 ⟨rfl, hb8⟩
    have hb9 := kept_trans hb7 hb8
    have hrd9 := RdC.next hrd7 hb8
    have hri9 := Rd1.next hri7 hb8
    clear hb7 hb8 hrd7 hri7
    rcases hv : vC C with _ | _
    · clear hv
      go_wp2_with fail
      refine (specPostings_any A2 m c2 C (s, t) _ HL.out.1 hcap (by omega) (szN_t HL.out.2) hrd9).mono ?_
      rintro e w10 ⟨A5, c5, rfl, hown5, hb10⟩
      have hb11 := kept_trans hb9 hb10
      have hri11 := Rd1.next hri9 hb10
      have hrj11 := own_rd1 hown5 rfl
      clear hb9 hb10 hrd9 hri9 hown5
      go_wp2_with fail
      refine (equalInts_any A3 _ c3 (psV C (s, t)) A5 _ c5 (psV C (s, t)) _ rfl rfl (by omega) hri11 hrj11).mono ?_
      rintro e w12 ⟨rfl, hb12⟩
      rw [eqI_refl]
      go_wp2
      go_ret
      exact ⟨rfl, kept_trans hb11 hb12⟩
    · have HV := Lib.hid hv
      have HR := Lib.hid (And.intro hrd9 hb9)
      clear hv hrd9 hb9 hri9 hpl hplm
      generalize hgp : psV C (s, t) = pl
      clear hgp
      go_wp2
      go_loopw [7] (fun i wr => ∃ k : Nat, k ≤ m ∧ i = .int .i64 k ∧ Below w8.heap.size w8 wr) (fun i _ => m - (intOf i).toNat)
      case atStart => exact ⟨0, by omega, rfl, Below.refl _ _⟩
      case round =>
        obtain ⟨k, hk, rfl, hb⟩ := hrel
        have HB0 := Lib.hid hb
        clear hb
        by_cases hlt : k < m
        · have hki : (k : Int) < (m : Int) := by omega
          have hlc : k < C.length := by rw [HL.out.1]; exact hlt
          have HV3 := Lib.hid ((VC_of HV.out).2 k hlc).1
          go_wp2
          go_loopw [8] (fun i wr => ∃ j : Nat, j ≤ (at0 C k).length ∧ i = .int .i64 j ∧ Below w8.heap.size w8 wr) (fun i _ => (at0 C k).length - (intOf i).toNat)
          case atStart => exact ⟨0, by omega, rfl, HB0.out⟩
          case round =>
            obtain ⟨j, hj, rfl, hb⟩ := hrel
            have hrw := RdC.next HR.out.1 hb
            have HRW := Lib.hid hrw
            obtain ⟨b, off, rfl, hbb, a3, m3, c3', hcl, hl3, _, hrl3⟩ := RdC.at_ hrw HL.out.1 hlt
            have HL3 := Lib.hid hl3
            rw [hl3] at hj
            have hm4 : m3 ≤ 4 := by have := (VL_of HV3.out).1; rw [hl3] at this; exact this
            have HBW := Lib.hid (kept_trans HR.out.2 hb)
            have HBB := Lib.hid hb
            clear hl3 hb hrw
            by_cases hjl : j < m3
            · have hji : (j : Int) < (m3 : Int) := by omega
              have hjc : j < (at0 C k).length := by rw [HL3.out]; exact hjl
              obtain ⟨b3, off3, rfl, hbb3, hc3⟩ := RdL.at_ hrl3 (by rw [HL3.out]; omega)
              obtain ⟨d0, d1⟩ := hc3 j hjc
              have HIN := Lib.hid (show decide ((k : Int) ∈ psV C ((at0 (at0 C k) j).1, (at0 (at0 C k) j).2)) = true from decide_eq_true (psV_in HV.out hlc (at0_mem hjc)))
              have HPL := Lib.hid (show (psV C ((at0 (at0 C k) j).1, (at0 (at0 C k) j).2)).length ≤ 1000000000000 by have := psV_len C ((at0 (at0 C k) j).1, (at0 (at0 C k) j).2); rw [HL.out.1] at this; omega)
              have hKS := And.intro hcl (And.intro d0 d1)
              have hKB := And.intro hbb (And.intro hbb3 hbb3)
              clear hc3 hrl3
              go_wp2_with fail
              go_region_held3 (fun w' => (w'.cell? ⟨b, off + k, none⟩ = some (.slice (some ⟨b3, off3, none⟩) m3 c3') ∧ w'.cell? ⟨b3, off3 + j * 2, none⟩ = some (.string (at0 (at0 C k) j).1) ∧ w'.cell? ⟨b3, off3 + j * 2 + 1, none⟩ = some (.string (at0 (at0 C k) j).2)) ∧ Below wr.heap.size wr w')
                (first | exact kc_start hKS | assumption | exact kc_call hKB (by assumption) (by assumption))
                (first
                | (go_at_call 41; refine (postings_any _ m c2 C ((at0 (at0 C k) j).1, (at0 (at0 C k) j).2) _ HL.out.1 hcap ?_).mono ?_; exact RdC.next HRW.out (And.right (by assumption)); rintro e w10 ⟨A5, c5, rfl, hown5, hb10⟩; have hri5 := own_rd1 hown5 rfl)
                | (go_at_call 44; refine (isIn_any A5 _ c5 _ _ _ rfl HPL.out hri5).mono ?_; rintro e w12 ⟨rfl, rfl⟩; rw [HIN.out]))
              all_goals
                have hlast := kept_trans HBB.out (And.right (by assumption) : Below wr.heap.size wr _)
                go_wp2
                go_roundw
                case rel => exact ⟨j + 1, by rw [HL3.out]; omega, by go_num, hlast⟩
                case measure => simp [intOf]; rw [HL3.out]; omega
            · clear hrl3
              go_wp2
              go_roundw
              case rel => exact ⟨k + 1, by omega, by go_num, HBB.out⟩
              case measure => simp [intOf]; omega
        · have hlast := kept_trans HR.out.2 HB0.out
          go_wp2
          go_ret
          exact ⟨rfl, hlast⟩
end Go.Proofs.Ytnnbfdlicadgfaa
