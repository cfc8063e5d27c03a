/-
  Walks: slices.Contains at labels, Postings, SelectSeries, isIn.
-/
import Derived.Test.YtmnfcfhnmndakaaPosFn
import Derived.Test.YtmnfcfhnmndakaaCatW2
import Derived.Test.YtmnfcfhnmndakaaEqInts
import Derived.Test.YtmnfcfhnmndakaaMAW
namespace Go.Proofs.Ytmnfcfhnmndakaa
open Go.RowKit
def IdxB (b : Bool) (w : World) (e : Ending) (w' : World) : Prop := ∃ r : Int, e = .returned (.int .i64 r) ∧ b = decide (0 ≤ r) ∧ Below w.heap.size w w'
set_option maxHeartbeats 2000000 in
theorem indexL_any (A : Option Addr) (n c : Nat) (l : List Lb) (x : Lb) (w : World) (hn : l.length = n) (hm : n ≤ 1000000000000) (hr : RdL w w.heap.size A l) :
    Calls Try.prog 91 #[.slice A n c, .agg #[.string x.1, .string x.2]] w (IdxB (hasL l x) w) := by
  have HN := Lib.hid hn
  have HR := Lib.hid hr
  clear hn hr
  have HB := Lib.hid (kept_alloc (Below.refl w.heap.size w) (Obj.cells #[Value.string x.1, Value.string x.2] 81))
  have HC := Lib.hid (And.intro (show (w.alloc (Obj.cells #[Value.string x.1, Value.string x.2] 81)).cell? ⟨w.heap.size, 0, none⟩ = some (.string x.1) by simp) (show (w.alloc (Obj.cells #[Value.string x.1, Value.string x.2] 81)).cell? ⟨w.heap.size, 1, none⟩ = some (.string x.2) by simp))
  have HS := Lib.hid (show w.heap.size < (w.alloc (Obj.cells #[Value.string x.1, Value.string x.2] 81)).heap.size by simp)
  go_enter Try.func91, Try.ntmps91
  go_wp2_with fail
  generalize (w.alloc (Obj.cells #[Value.string x.1, Value.string x.2] 81)) = W at *
  go_loopw [8] (fun i wr => ∃ k : Nat, k ≤ n ∧ i = .int .i64 k ∧ noL l x k ∧ Below W.heap.size W wr) (fun i _ => n - (intOf i).toNat)
  case atStart => exact ⟨0, by omega, rfl, noL_zero l x, Below.refl _ _⟩
  case round =>
    obtain ⟨k, hk, rfl, hok, hb⟩ := hrel
    have HK := Lib.hid hok
    clear hok
    by_cases hlt : k < n
    · have hki : (k : Int) < (n : Int) := by omega
      have hln : k < l.length := by rw [HN.out]; exact hlt
      obtain ⟨b, off, rfl, hbb, hc⟩ := RdL.at_ (RdG.next (RdG.next HR.out HB.out) hb) (by rw [HN.out]; omega)
      obtain ⟨hc0, hc1⟩ := hc k hln
      have hx0 := (hb.cell (p := ⟨w.heap.size, 0, none⟩) HS.out).trans HC.out.1
      have hx1 := (hb.cell (p := ⟨w.heap.size, 1, none⟩) HS.out).trans HC.out.2
      clear hc
      by_cases he : at0 l k = x
      · have H0 := Lib.hid (hasL_at hln he)
        rw [he] at hc0 hc1
        have e1 := eqB_walk (eqB_refl x.1)
        have e2 := eqB_walk (eqB_refl x.2)
        have hbF := kept_trans HB.out hb
        clear he
        go_wp2_with fail
        go_quiet (fail)
        go_wp2
        go_ret
        exact ⟨k, rfl, by rw [H0.out]; exact (decide_eq_true (by omega)).symm, kept_drewN hbF _⟩
      · have H0 := Lib.hid (noL_succ HK.out he)
        by_cases h1 : x.1 = (at0 l k).1
        · have h2 : x.2 ≠ (at0 l k).2 := fun h => he (Prod.ext h1.symm h.symm)
          rw [← h1] at hc0
          have e1 := eqB_walk (eqB_refl x.1)
          have e2 := eqB_ne h2
          clear he h1 h2
          go_wp2_with fail
          go_quiet (fail)
          go_wp2
          go_roundw
          case rel => exact ⟨k + 1, by omega, by go_num, H0.out, kept_drewN hb _⟩
          case measure => simp [intOf]; omega
        · have e1 := eqB_ne h1
          clear he h1
          go_wp2_with fail
          go_quiet (fail)
          go_wp2
          go_roundw
          case rel => exact ⟨k + 1, by omega, by go_num, H0.out, kept_drewN hb _⟩
          case measure => simp [intOf]; omega
    · have H0 := Lib.hid (hasL_none HK.out (by rw [HN.out]; omega))
      have hbF := kept_trans HB.out hb
      go_wp2
      go_ret
      exact ⟨-1, rfl, by rw [H0.out]; rfl, hbF⟩
set_option maxHeartbeats 1000000 in
theorem containsL_any (A : Option Addr) (n c : Nat) (l : List Lb) (x : Lb) (w : World) (hn : l.length = n) (hm : n ≤ 1000000000000) (hr : RdL w w.heap.size A l) :
    Calls Try.prog 63 #[.slice A n c, .agg #[.string x.1, .string x.2]] w fun e w' => e = .returned (.bool (hasL l x)) ∧ Below w.heap.size w w' := by
  have HN := Lib.hid hn
  have HB := Lib.hid (kept_alloc (Below.refl w.heap.size w) (Obj.cells #[Value.string x.1, Value.string x.2] 81))
  have hr1 := RdG.next hr HB.out
  clear hn hr
  go_enter Try.func63, Try.ntmps63
  go_wp2_with fail
  refine (indexL_any A n c l x _ HN.out hm hr1).mono ?_
  rintro e w1 ⟨r, rfl, hb, hb1⟩
  have hb2 := kept_trans HB.out hb1
  have HX := Lib.hid hb
  clear hb hr1 hb1
  by_cases h : 0 ≤ r
  · go_wp2
    go_ret
    exact ⟨ret_bool (HX.out.trans (decide_eq_true h)).symm, hb2⟩
  · go_wp2
    go_ret
    exact ⟨ret_bool HX.out.symm, hb2⟩
set_option maxHeartbeats 2000000 in
theorem postings_any (A : Option Addr) (n c : Nat) (C : Ct) (x : Lb) (w : World) (hn : C.length = n) (hc : n ≤ c) (hr : RdC w w.heap.size A C) :
    Calls Try.prog 19 #[.slice A n c, .string x.1, .string x.2] w (RetI w (psV C x)) := by
  have HN := Lib.hid hn
  have HR := Lib.hid hr
  clear hn
  obtain ⟨i0, hi, hz0, hz1, hz2⟩ := info_parts Try.infoInt
  rcases hv : vC C with _ | _
  · have HV := Lib.hid hv
    have HZ := Lib.hid (psV_no (x := x) hv)
    clear hv
    go_enter Try.func19, Try.ntmps19
    go_wp2_with fail
    refine (validCatalog_any A n c C _ HN.out hc hr).mono ?_
    rintro e w1 ⟨rfl, hb1⟩
    rw [HV.out]
    clear hr
    go_wp2
    go_ret
    exact ⟨none, 0, by rw [HZ.out]; rfl, by rw [HZ.out]; exact World.ownsRow_nil _ _ _ _, hb1⟩
  · have HV := Lib.hid hv
    have HZ := Lib.hid (psV_ok (x := x) hv)
    have hn8 : n ≤ 8 := by have := (VC_of hv).1; rw [HN.out] at this; exact this
    clear hv
    go_enter Try.func19, Try.ntmps19
    go_wp2_with fail
    refine (validCatalog_any A n c C _ HN.out hc hr).mono ?_
    rintro e w1 ⟨rfl, hb1⟩
    rw [HV.out]
    have HB1 := Lib.hid hb1
    clear hr hb1
    go_wp2
    go_loopw [7, 15] (fun v i wr => ∃ (k : Nat) (A' : Option Addr) (c' z : Nat) (pre : List Int), v = .slice A' z c' ∧ i = .int .i64 k ∧ k ≤ n ∧ pre.length = z ∧ z ≤ k ∧ pre = posTo (fun l => hasL l x) C k ∧ wr.ownsRow w.heap.size 3 1 (.slice A' z c') z (pre.map (Value.int .i64)) ∧ Below w.heap.size w wr) (fun _ i _ => n - (intOf i).toNat)
    case atStart => exact ⟨0, none, 0, 0, [], rfl, rfl, by omega, rfl, by omega, rfl, World.ownsRow_nil _ _ _ _, HB1.out⟩
    case round =>
      obtain ⟨k, A', c', z, pre, rfl, rfl, hk, hz, hzk, hpre, hown, hb⟩ := hrel
      have HZl := Lib.hid hz
      have HP := Lib.hid hpre
      clear hz hpre
      by_cases hlt : k < n
      · have hki : (k : Int) < (n : Int) := by omega
        have hlc : k < C.length := by rw [HN.out]; exact hlt
        obtain ⟨b, off, rfl, hbb, a3, m3, c3, hcl, hl3, _, hrl3⟩ := RdC.at_ (RdC.next HR.out hb) HN.out hlt
        have hm3 : m3 ≤ 1000000000000 := by
          have := (VL_of ((VC_of HV.out).2 k hlc).1).1
          rw [hl3] at this; omega
        have HL3 := Lib.hid hl3
        clear hl3
        go_wp2_with fail
        refine (containsL_any a3 m3 c3 (at0 C k) x _ HL3.out hm3 hrl3).mono ?_
        rintro e w2 ⟨rfl, hb2⟩
        have hO2 := own_kept hown hb2
        have hb3 := kept_trans hb hb2
        have hwr := hb3.size
        clear hown hb hb2 hcl hrl3
        rcases hh : hasL (at0 C k) x with _ | _
        · have HS := Lib.hid (posTo_no (f := fun l => hasL l x) (C := C) (k := k) hh)
          clear hh
          go_wp2
          go_roundw
          case rel => exact ⟨k + 1, _, _, z, pre, rfl, by go_num, by omega, HZl.out, by omega, by rw [HS.out]; exact HP.out, hO2, hb3⟩
          case measure => simp [intOf]; omega
        · have HS := Lib.hid (posTo_yes (f := fun l => hasL l x) (C := C) (k := k) hh)
          clear hh
          go_wp2_with (at_builtin; refine wpList_append_lies _ rfl _ _ _ rfl (w.heap.size) 3 i0 _ 1 8 Try.underlying30 hi hz0 hz1 hz2 rfl (by omega) _ (z) (pre.map (Value.int .i64)) rfl ((hO2).alloc _) ⟨w2.heap.size, 0, none⟩ 1 1 ([.int .i64 k]) rfl rfl (World.news_of_block (cs := ([.int .i64 k]).toArray) (t := 3) (fr := (0, 0)) (heap_alloc_new w2 _)) (by simp [Value.oneCell']) (by omega) (by simp only [maxLen]; omega) (by omega) (by simp; omega) (w2.heap.size + 1) (by simp) ?_; intro gg cap w2 hown2 hgrow hat hlt2)
          have hb4 := below_app' hb3 hO2 hgrow
          rw [show pre.map (Value.int .i64) ++ [Value.int .i64 (k : Int)] = (pre ++ [(k : Int)]).map (Value.int .i64) by simp] at hown2
          clear hgrow hat hO2 hb3
          go_wp2
          go_roundw
          case rel => exact ⟨k + 1, _, _, z + 1, _, rfl, by go_num, by omega, by rw [List.length_append, HZl.out]; rfl, by omega, by rw [HS.out, HP.out], hown2, hb4⟩
          case measure => simp [intOf]; omega
      · have HX := Lib.hid (show psV C x = pre by rw [HZ.out, HP.out, HN.out, show n = k by omega])
        go_wp2
        go_ret
        exact ⟨A', c', by rw [HX.out, HZl.out]; rfl, by rw [HX.out, HZl.out]; exact hown, hb⟩
set_option maxHeartbeats 1000000 in
theorem isIn_any (A : Option Addr) (n c : Nat) (l : List Int) (x : Int) (w : World) (hn : l.length = n) (hm : n ≤ 1000000000000) (hr : Rd1 w w.heap.size A l) :
    Calls Try.prog 48 #[.slice A n c, .int .i64 x] w fun e w' => e = .returned (.bool (decide (x ∈ l))) ∧ w = w' := by
  have HN := Lib.hid hn
  clear hn
  go_enter Try.func48, Try.ntmps48
  go_wp2
  go_loop [5] (fun i => ∃ k : Nat, k ≤ n ∧ i = .int .i64 k ∧ ∀ j, j < k → xi l j ≠ x) (fun i => n - (intOf i).toNat)
  case atStart => exact ⟨0, by omega, rfl, fun j hj => absurd hj (by omega)⟩
  case round =>
    obtain ⟨k, hk, rfl, hok⟩ := hrel
    have HK := Lib.hid hok
    clear hok
    by_cases hlt : k < n
    · have hki : (k : Int) < (n : Int) := by omega
      obtain ⟨b, off, rfl, hbb, hc⟩ := hr.at_ (by rw [HN.out]; omega)
      have hc0 := hc k (by rw [HN.out]; exact hlt)
      have hln : k < l.length := by rw [HN.out]; exact hlt
      clear hc hr
      by_cases he : xi l k = x
      · have H0 := Lib.hid (show decide (x ∈ l) = true from decide_eq_true (by
          rw [← he]
          unfold xi
          rw [List.getD_eq_getElem?_getD, List.getElem?_eq_getElem hln]
          exact List.getElem_mem hln))
        have hz : (xi l k == x) = true := by simp [he]
        clear he
        go_wp2
        go_ret
        exact ⟨ret_bool H0.out.symm, rfl⟩
      · have H0 := Lib.hid (show ∀ j, j < k + 1 → xi l j ≠ x from fun j hj => by
          rcases Nat.lt_or_ge j k with h1 | h1
          · exact HK.out j h1
          · have : j = k := by omega
            subst this; exact he)
        have hz : (xi l k == x) = false := by simp [he]
        clear he
        go_wp2
        go_round
        case rel => exact ⟨k + 1, by omega, by go_num, H0.out⟩
        case measure => simp [intOf]; omega
    · have H0 := Lib.hid (show decide (x ∈ l) = false from decide_eq_false (by
        intro hc
        obtain ⟨i, hi, e⟩ := List.mem_iff_getElem.1 hc
        refine HK.out i (by rw [← HN.out] at hlt; omega) ?_
        unfold xi
        rw [List.getD_eq_getElem?_getD, List.getElem?_eq_getElem hi]
        exact e))
      clear hr
      go_wp2
      go_ret
      exact ⟨ret_bool H0.out.symm, rfl⟩
end Go.Proofs.Ytmnfcfhnmndakaa
