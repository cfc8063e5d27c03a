/-
  Walk: FnPostings.
-/
import Derived.Test.YtnnbfdlicadgfaaPosL1
import Derived.Test.YtnnbfdlicadgfaaMAL3
namespace Go.Proofs.Ytnnbfdlicadgfaa
open Go.RowKit
theorem posTo_nil {f : List Lb → Bool} {C : Ct} : ∀ {k : Nat}, (∀ i, i < k → f (at0 C i) = false) → posTo f C k = []
  | 0, _ => rfl
  | k + 1, h => by rw [posTo_no (h k (by omega)), posTo_nil (fun i hi => h i (by omega))]
theorem val_has {l : List Lb} (h : vL l = true) {s t : ByteArray} (ht : emB t = false) : eqB (valB l s) t = hasL l (s, t) := by
  rcases hh : hasL l (s, t) with _ | _
  · rcases he : eqB (valB l s) t with _ | _
    · rfl
    · rw [eqB_iff] at he
      have hem := val_em h s
      rw [he, ht] at hem
      have hn : hasNm l s = true := by simpa using hem.symm
      unfold hasNm at hn
      rw [List.any_eq_true] at hn
      obtain ⟨x, hx, hxe⟩ := hn
      obtain ⟨i, hi, rfl⟩ := mem_at0 hx
      rw [eqB_iff] at hxe
      have hv := valB_own h hi
      rw [hxe, he] at hv
      have hmem : (s, t) ∈ l := by
        have : at0 l i = (s, t) := Prod.ext hxe hv.symm
        rw [← this]; exact at0_mem hi
      rw [hasL_iff.2 hmem] at hh; cases hh
  · obtain ⟨i, hi, e⟩ := mem_at0 (hasL_iff.1 hh)
    have hv := valB_own h hi
    rw [e] at hv
    rw [hv]; exact eqB_refl t
theorem sel_post {C : Ct} {s t : ByteArray} (ht : emB t = false) : slV C [(s, t, false)] (fun l => matL l [(s, t, false)]) = psV C (s, t) := by
  rcases hv : vC C with _ | _
  · rw [slV_no1 hv, psV_no hv]
  · have hV := VC_of hv
    rcases hm : vM [(s, t, false)] with _ | _
    · rw [slV_no2 hm, psV_ok hv, posTo_nil]
      intro i hi
      refine hasL_no fun hx => ?_
      obtain ⟨j, hj, e⟩ := mem_at0 hx
      have hl := (VL_of (hV.2 i hi).1).2 j hj
      have h1 := hl.1
      have h2 := hl.2.1
      rw [e] at h1 h2
      have : vM [(s, t, false)] = true := vM_good (k := 1) (by simp) (fun q hq => by
        have : q = 0 := by omega
        subst this
        show (okW s && (emB t || okW t)) = true
        have h1' : okW s = true := h1
        have h2' : okW t = true := h2
        rw [h1', h2']; simp) rfl
      rw [hm] at this; cases this
    · rw [slV_ok hv hm, psV_ok hv]
      refine posTo_ext fun i hi => ?_
      show matL (at0 C i) [(s, t, false)] = hasL (at0 C i) (s, t)
      rw [matL_one, ← val_has (hV.2 i hi).1 ht]
      unfold mat1; simp
theorem sl_len {C : Ct} {want : List Mt} {f : List Lb → Bool} : (slV C want f).length ≤ C.length := by
  unfold slV
  split
  · exact posTo_len _ _ _
  · simp
set_option maxHeartbeats 8000000 in
set_option maxRecDepth 100000 in
theorem fnPostings_any (A : Option Addr) (n c : Nat) (w : World) (hm : n ≤ 9223372036854775807) (hc : n ≤ c) (hr : RdB w w.heap.size A n) :
    Calls Try.prog 14 #[.slice A n c] w fun e w' => e = .returned (.bool true) ∧ Below w.heap.size w w' := by
  by_cases hbig : (1048576 : Int) < n
  · go_enter Try.func14, Try.ntmps14
    go_wp2
    go_ret
    exact ⟨rfl, Below.refl _ _⟩
  · go_enter Try.func14, Try.ntmps14
    go_wp2_with fail
    refine (drawPostings_any A n c _ hm hc hr).mono ?_
    rintro e w1 ⟨A2, c2, m, C, s, t, rfl, hC, hm2, hcap, hsz, hs, ht, hrd, hb1⟩
    have HL := Lib.hid (And.intro hC hsz)
    clear hC hr hsz
    go_wp2_with fail
    refine (postings_any A2 m c2 C (s, t) _ HL.out.1 hcap hrd).mono ?_
    rintro e w2 ⟨A3, c3, rfl, hown3, hb2⟩
    have hb3 := kept_trans hb1 hb2
    have hrd3 := RdC.next hrd hb2
    have hri3 := own_rd1 hown3 rfl
    clear hb1 hb2 hrd hown3
    go_wp2_with fail
    refine (specPostings_any A2 m c2 C (s, t) _ HL.out.1 hcap (by omega) (szN_t HL.out.2) hrd3).mono ?_
    rintro e w4 ⟨A4, c4, rfl, hown4, hb4⟩
    have hb5 := kept_trans hb3 hb4
    have hrd5 := RdC.next hrd3 hb4
    have hri5 := Rd1.next hri3 hb4
    have hrj5 := own_rd1 hown4 rfl
    have hpl := psV_len C (s, t)
    have hplm : (psV C (s, t)).length ≤ 9 := by rw [HL.out.1] at hpl; omega
    clear hb3 hb4 hrd3 hri3 hown4
    go_wp2_with fail
    refine (equalInts_any A3 _ c3 (psV C (s, t)) A4 _ c4 (psV C (s, t)) _ rfl rfl (by omega) hri5 hrj5).mono ?_
    rintro e w6 ⟨rfl, hb6⟩
    rw [eqI_refl]
    have hb7 := kept_trans hb5 hb6
    have hrd7 := RdC.next hrd5 hb6
    have hri7 := Rd1.next hri5 hb6
    clear hb5 hb6 hrd5 hri5 hrj5
    rcases hes : emB s with _ | _
    · have hs2 : s.toList.isEmpty = false := hes
      rcases het : emB t with _ | _
      · have ht2 : t.toList.isEmpty = false := het
        have HP := Lib.hid (sel_post (C := C) (s := s) het)
        have HSL := Lib.hid (show (slV C [(s, t, false)] (fun l => matL l [(s, t, false)])).length ≤ 1000000000000 by have := sl_len (C := C) (want := [(s, t, false)]) (f := fun l => matL l [(s, t, false)]); rw [HL.out.1] at this; omega)
        have hbE := kept_alloc (Below.refl w6.heap.size w6) (Obj.cells #[Value.string s, Value.string t, Value.bool false] 32)
        have hrE := RdC.next hrd7 hbE
        have hiE := Rd1.next hri7 hbE
        have hbE2 := kept_trans hb7 hbE
        have hmE := rdM_new w6 (s, t, false) w6.heap.size rfl
        have HX := Lib.hid (And.intro hrE (And.intro hiE (And.intro hbE2 hmE)))
        clear hbE hrE hiE hbE2 hmE hrd7 hri7 hb7
        go_wp2_with fail
        generalize (w6.alloc (Obj.cells #[Value.string s, Value.string t, Value.bool false] 32)) = W at *
        obtain ⟨hrE, hiE, hbE, hmE⟩ := HX.out
        clear HX
        refine (selectSeries_any A2 m c2 C _ 1 1 [(s, t, false)] _ HL.out.1 hcap rfl hrE hmE).mono ?_
        rintro e w10 ⟨A5, c5, rfl, hown5, hb10⟩
        have hb11 := kept_trans hbE hb10
        have hri11 := Rd1.next hiE hb10
        have hrj11 := own_rd1 hown5 rfl
        clear hrE hiE hbE hmE hb10 hown5
        go_wp2_with fail
        refine (equalInts_any A5 _ c5 _ A3 _ c3 (psV C (s, t)) _ rfl rfl HSL.out hrj11 hri11).mono ?_
        rintro e w12 ⟨rfl, hb12⟩
        rw [HP.out, eqI_refl]
        go_wp2
        go_ret
        exact ⟨rfl, kept_trans hb11 hb12⟩
      · have ht2 : t.toList = [] := List.isEmpty_iff.1 het
        go_wp2_with fail
        refine (specPostings_any A2 m c2 C (s, t) _ HL.out.1 hcap (by omega) (szN_t HL.out.2) hrd7).mono ?_
        rintro e w10 ⟨A5, c5, rfl, hown5, hb10⟩
        have hb11 := kept_trans hb7 hb10
        have hri11 := Rd1.next hri7 hb10
        have hrj11 := own_rd1 hown5 rfl
        clear hb7 hb10 hrd7 hri7 hown5
        go_wp2_with fail
        refine (equalInts_any A3 _ c3 (psV C (s, t)) A5 _ c5 (psV C (s, t)) _ rfl rfl (by omega) hri11 hrj11).mono ?_
        rintro e w12 ⟨rfl, hb12⟩
        rw [eqI_refl]
        go_wp2
        go_ret
        exact ⟨rfl, kept_trans hb11 hb12⟩
    · have hs2 : s.toList = [] := List.isEmpty_iff.1 hes
      go_wp2_with fail
      refine (specPostings_any A2 m c2 C (s, t) _ HL.out.1 hcap (by omega) (szN_t HL.out.2) hrd7).mono ?_
      rintro e w10 ⟨A5, c5, rfl, hown5, hb10⟩
      have hb11 := kept_trans hb7 hb10
      have hri11 := Rd1.next hri7 hb10
      have hrj11 := own_rd1 hown5 rfl
      clear hb7 hb10 hrd7 hri7 hown5
      go_wp2_with fail
      refine (equalInts_any A3 _ c3 (psV C (s, t)) A5 _ c5 (psV C (s, t)) _ rfl rfl (by omega) hri11 hrj11).mono ?_
      rintro e w12 ⟨rfl, hb12⟩
      rw [eqI_refl]
      go_wp2
      go_ret
      exact ⟨rfl, kept_trans hb11 hb12⟩
end Go.Proofs.Ytnnbfdlicadgfaa
