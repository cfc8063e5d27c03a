/-
  Walks: slices.CompareFunc at labels, CompareLabels of both packages.
-/
import Derived.Test.YtnnbfdlicadgfaaCmpW
namespace Go.Proofs.Ytnnbfdlicadgfaa
open Go.RowKit
set_option maxRecDepth 100000 in
set_option maxHeartbeats 2000000 in
theorem compareFunc_any (A : Option Addr) (n c : Nat) (l : List Lb) (A' : Option Addr) (n' c' : Nat) (l' : List Lb) (w : World) (hn : l.length = n) (hn' : l'.length = n') (hm : n ≤ 1000000000000) (hm' : n' ≤ 1000000000000)
    (hr : RdL w w.heap.size A l) (hr' : RdL w w.heap.size A' l') :
    Calls Try.prog 54 #[.slice A n c, .slice A' n' c', .func (.func 55) #[] #[]] w fun e w' => e = .returned (.int .i64 (cmpLs l l')) ∧ Below w.heap.size w w' := by
  have HN := Lib.hid hn
  have HN' := Lib.hid hn'
  clear hn hn'
  go_enter Try.func54, Try.ntmps54
  go_wp2
  go_loopw [13] (fun i wr => ∃ k : Nat, k ≤ n ∧ k ≤ n' ∧ i = .int .i64 k ∧ cmpLs l l' = cmpLs (l.drop k) (l'.drop k) ∧ Below w.heap.size w wr) (fun i _ => n - (intOf i).toNat)
  case atStart => exact ⟨0, by omega, by omega, rfl, rfl, Below.refl _ _⟩
  case round =>
    obtain ⟨k, hk, hk', rfl, he, hb⟩ := hrel
    have HE := Lib.hid he
    clear he
    by_cases hlt : k < n
    · have hki : (k : Int) < (n : Int) := by omega
      obtain ⟨b, off, rfl, hbb, hc⟩ := hr.at_ (by rw [HN.out]; omega)
      obtain ⟨hc0, hc1⟩ := hc k (by rw [HN.out]; exact hlt)
      rw [← hb.cell (by exact hbb)] at hc0 hc1
      have hbw : b < wr.heap.size := Nat.lt_of_lt_of_le hbb hb.size
      by_cases hlt' : k < n'
      · have hki' : (k : Int) < (n' : Int) := by omega
        obtain ⟨b', off', rfl, hbb', hc'⟩ := hr'.at_ (by rw [HN'.out]; omega)
        obtain ⟨hd0, hd1⟩ := hc' k (by rw [HN'.out]; exact hlt')
        rw [← hb.cell (by exact hbb')] at hd0 hd1
        have hbw' : b' < wr.heap.size := Nat.lt_of_lt_of_le hbb' hb.size
        have HS := Lib.hid (cmpLs_step (l := l) (l' := l') (k := k) (by rw [HN.out]; exact hlt) (by rw [HN'.out]; exact hlt'))
        have hbW := kept_alloc (kept_alloc hb (Obj.cells #[Value.string (at0 l k).1, Value.string (at0 l k).2] 35)) (Obj.cells #[Value.string (at0 l' k).1, Value.string (at0 l' k).2] 35)
        clear hc hc' hr hr' hb
        go_wp2_with fail
        refine (cmpCl_any _ _ _ _ _).mono ?_
        rintro e w2 ⟨rfl, hb2⟩
        have kb2 := hbW.trans (hb2.mono hbW.size)
        clear hbW hb2 hc0 hc1 hd0 hd1
        by_cases hx : cmpX (at0 l k) (at0 l' k) = 0
        · have hz : (cmpX ((at0 l k).1, (at0 l k).2) ((at0 l' k).1, (at0 l' k).2) != 0) = false := by simp [hx]
          have HX := Lib.hid hx
          clear hx
          go_wp2
          go_roundw
          case rel => exact ⟨k + 1, by omega, by omega, by go_num, by rw [HE.out, HS.out, if_pos HX.out], kb2⟩
          case measure => simp [intOf]; omega
        · have hz : (cmpX ((at0 l k).1, (at0 l k).2) ((at0 l' k).1, (at0 l' k).2) != 0) = true := by simp [hx]
          have HX := Lib.hid hx
          clear hx
          go_wp2
          go_ret
          exact ⟨ret_int (by rw [HE.out, HS.out, if_neg HX.out]), kb2⟩
      · have HS := Lib.hid (cmpLs_short (l := l) (l' := l') (k := k) (by rw [HN.out]; exact hlt) (by rw [HN'.out]; omega))
        have HB := Lib.hid (kept_alloc hb (Obj.cells #[Value.string (at0 l k).1, Value.string (at0 l k).2] 35))
        clear hc hr hr' hb
        go_wp2
        go_ret
        exact ⟨ret_int (by rw [HE.out, HS.out]), HB.out⟩
    · clear hr hr'
      by_cases hlt' : n < n'
      · have HS := Lib.hid (cmpLs_long (l := l) (l' := l') (k := k) (by rw [HN.out]; omega) (by rw [HN'.out]; omega))
        have hd : decide ((n : Int) < (n' : Int)) = true := decide_eq_true (by omega)
        have hd2 : decide (n < n') = true := decide_eq_true (by omega)
        go_wp2
        go_ret
        exact ⟨ret_int (by rw [HE.out, HS.out]), hb⟩
      · have HS := Lib.hid (cmpLs_both (l := l) (l' := l') (k := k) (by rw [HN.out]; omega) (by rw [HN'.out]; omega))
        have hd : decide ((n : Int) < (n' : Int)) = false := decide_eq_false (by omega)
        have hd2 : decide (n < n') = false := decide_eq_false (by omega)
        go_wp2
        go_ret
        exact ⟨ret_int (by rw [HE.out, HS.out]), hb⟩
set_option maxHeartbeats 2000000 in
theorem compareLabels_any (A : Option Addr) (n c : Nat) (l : List Lb) (A' : Option Addr) (n' c' : Nat) (l' : List Lb) (w : World) (hn : l.length = n) (hn' : l'.length = n')
    (hr : RdL w w.heap.size A l) (hr' : RdL w w.heap.size A' l') :
    Calls Try.prog 22 #[.slice A n c, .slice A' n' c'] w fun e w' => e = .returned (.int .i64 (cmpV l l')) ∧ Below w.heap.size w w' := by
  have HN := Lib.hid hn
  have HN' := Lib.hid hn'
  have HR' := Lib.hid hr'
  have HR := Lib.hid hr
  clear hn hn' hr'
  rcases hv : vL l with _ | _
  · have HZ := Lib.hid (cmpV_no1 (l' := l') hv)
    have HV := Lib.hid hv
    clear hv
    go_enter Try.func22, Try.ntmps22
    go_wp2_with fail
    refine (validLabels_any A n c l _ HN.out hr).mono ?_
    rintro e w1 ⟨rfl, hb1⟩
    rw [HV.out]
    clear hr
    go_wp2
    go_ret
    exact ⟨ret_int HZ.out.symm, hb1⟩
  · have HV := Lib.hid hv
    have hn4 : n ≤ 4 := by have := (VL_of hv).1; rw [HN.out] at this; exact this
    rcases hv' : vL l' with _ | _
    · have HZ := Lib.hid (cmpV_no2 (l := l) hv')
      have HV' := Lib.hid hv'
      clear hv hv'
      go_enter Try.func22, Try.ntmps22
      go_wp2_with fail
      refine (validLabels_any A n c l _ HN.out hr).mono ?_
      rintro e w1 ⟨rfl, hb1⟩
      rw [HV.out]
      have hr1 := HR'.out.to hb1
      clear hr
      go_wp2_with fail
      refine (validLabels_any A' n' c' l' _ HN'.out hr1).mono ?_
      rintro e w2 ⟨rfl, hb2⟩
      rw [HV'.out]
      have hb3 := kept_trans hb1 hb2
      clear hr1 hb1 hb2
      go_wp2
      go_ret
      exact ⟨ret_int HZ.out.symm, hb3⟩
    · have HZ := Lib.hid (cmpV_ok hv hv')
      have hn4' : n' ≤ 4 := by have := (VL_of hv').1; rw [HN'.out] at this; exact this
      have HV' := Lib.hid hv'
      clear hv hv'
      go_enter Try.func22, Try.ntmps22
      go_wp2_with fail
      refine (validLabels_any A n c l _ HN.out hr).mono ?_
      rintro e w1 ⟨rfl, hb1⟩
      rw [HV.out]
      have hr1 := HR'.out.to hb1
      clear hr
      go_wp2_with fail
      refine (validLabels_any A' n' c' l' _ HN'.out hr1).mono ?_
      rintro e w2 ⟨rfl, hb2⟩
      rw [HV'.out]
      have hb3 := kept_trans hb1 hb2
      have hr3 := HR.out.to hb3
      have hr3' := HR'.out.to hb3
      clear hr1 hb1 hb2
      go_wp2_with fail
      refine (compareFunc_any A n c l A' n' c' l' _ HN.out HN'.out (by omega) (by omega) hr3 hr3').mono ?_
      rintro e w4 ⟨rfl, hb4⟩
      have hb5 := kept_trans hb3 hb4
      clear hb3 hb4 hr3 hr3'
      go_wp2
      go_ret
      exact ⟨ret_int HZ.out.symm, hb5⟩
theorem toInt_any (b : Bool) (w : World) : Calls Try.prog 76 #[.bool b] w fun e w' => e = .returned (.int .i64 (if b then 1 else 0)) ∧ w = w' := by
  cases b with
  | true =>
    go_enter Try.func76, Try.ntmps76
    go_wp2
    go_ret
    exact ⟨rfl, rfl⟩
  | false =>
    go_enter Try.func76, Try.ntmps76
    go_wp2
    go_ret
    exact ⟨rfl, rfl⟩
theorem cmpX_1 {x y : Lb} (h : ltB x.1 y.1 = true) : cmpX x y = -1 := by unfold cmpX; rw [cmpT_lt h]; rfl
theorem cmpX_2 {x y : Lb} (h : ltB y.1 x.1 = true) : cmpX x y = 1 := by unfold cmpX; rw [cmpT_gt h]; rfl
theorem cmpX_3 {x y : Lb} (h1 : ltB x.1 y.1 = false) (h2 : ltB y.1 x.1 = false) : cmpX x y = cmpT x.2 y.2 := by unfold cmpX; rw [if_pos (cmpT_eq h1 h2).1]
theorem ltB_walk {a b : ByteArray} {v : Bool} (h : ltB a b = v) : Op.bytesLess a.toList b.toList = v := h
theorem eqB_of_nn {a b : ByteArray} (h1 : ltB a b = false) (h2 : ltB b a = false) : (a.toList == b.toList) = true := eqB_iff.2 (ltB_total h1 h2)
theorem eqB_of_gt {a b : ByteArray} (h2 : ltB b a = true) : (a.toList == b.toList) = false := eqB_no.2 (by rintro rfl; rw [ltB_irrefl] at h2; cases h2)
end Go.Proofs.Ytnnbfdlicadgfaa
