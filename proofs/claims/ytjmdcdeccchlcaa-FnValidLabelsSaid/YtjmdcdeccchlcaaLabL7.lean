/-
  Walk: FnValidLabels.
-/
import Derived.Test.YtjmdcdeccchlcaaLabGen2
import Derived.Test.YtjmdcdeccchlcaaLabL1
import Derived.Deep.Onto
import Derived.Deep.RegionLaw
namespace Go.Proofs.Ytjmdcdeccchlcaa
open Go.RowKit
theorem vL_leave {l : List Lb} (h : vL l = true) (k : Nat) : vL (l.take k ++ l.drop (k + 1)) = true := vL_sub h (by
  have h1 : (l.drop (k + 1)).Sublist (l.drop k) := by
    rw [← List.drop_drop]; exact List.drop_sublist _ _
  have := List.Sublist.append (List.Sublist.refl (l.take k)) h1
  rwa [List.take_append_drop] at this)
theorem RdG.slice {α : Type} [Inhabited α] {enc : α → Nat → Value} {z : Nat} {w : World} {B : Nat} {b off : Nat} {l : List α} (h : RdG enc z w B (some ⟨b, off, none⟩) l) (i : Nat) : RdG enc z w B (some ⟨b, off + i * z, none⟩) (l.drop i) := by
  intro hm
  rw [List.length_drop] at hm
  have hz : 0 < z := by
    rcases Nat.eq_zero_or_pos z with h0 | h0
    · subst h0; simp at hm
    · exact h0
  have hi : i < l.length := by
    rcases Nat.lt_or_ge i l.length with h1 | h1
    · exact h1
    · rw [Nat.sub_eq_zero_of_le h1, Nat.zero_mul] at hm; exact absurd hm (by omega)
  obtain ⟨b', off', he, hlt, hc⟩ := h (Nat.mul_pos (by omega) hz)
  injection he with he
  injection he with e1 e2
  subst e1; subst e2
  refine ⟨b, off + i * z, rfl, hlt, fun q hq => ?_⟩
  rw [List.length_drop] at hq
  have h3 : i * z + q < l.length * z := by
    have : (l.length - i) * z + i * z = l.length * z := by rw [← Nat.add_mul]; congr 1; omega
    omega
  have := hc (i * z + q) h3
  rw [Nat.add_assoc, this]
  have e1 : (i * z + q) / z = i + q / z := by rw [Nat.mul_comm, Nat.mul_add_div hz]
  have e2 : (i * z + q) % z = q % z := by rw [Nat.mul_comm, Nat.mul_add_mod]
  unfold cellsG
  rw [at0_drop, e1, e2]
set_option maxHeartbeats 4000000 in
theorem fnValidLabels_any (A : Option Addr) (n c : Nat) (w : World) (hm : n ≤ 9223372036854775807) (hc : n ≤ c) (hr : RdB w w.heap.size A n) :
    Calls Try.prog 4 #[.slice A n c] w fun e w' => e = .returned (.bool true) ∧ Below w.heap.size w w' := by
  obtain ⟨i0, hi, hz0, hz1, hz2⟩ := info_parts infoLabel
  by_cases hbig : (1048576 : Int) < n
  · go_enter Try.func4, Try.ntmps4
    go_wp2
    go_ret
    exact ⟨rfl, Below.refl _ _⟩
  · go_enter Try.func4, Try.ntmps4
    go_wp2_with fail
    refine (drawValidLabels_any A n c _ hm hc hr).mono ?_
    rintro e w1 ⟨A2, c2, m, l, rfl, hl, hm2, hcap, hsz, hrd, hb1⟩
    have HL := Lib.hid (And.intro hl hsz)
    clear hl hr hsz
    go_wp2_with fail
    refine (validLabels_any A2 m c2 l _ HL.out.1 hrd).mono ?_
    rintro e w2 ⟨rfl, hb2⟩
    have hb3 := kept_trans hb1 hb2
    have hrd3 := RdG.next hrd hb2
    clear hb1 hb2 hrd
    go_wp2_with fail
    refine (specValidLabelsE_any A2 m c2 l _ HL.out.1 (by omega) HL.out.2 hrd3).mono ?_
    rintro e w4 ⟨rfl, hb4⟩
    have hb5 := kept_trans hb3 hb4
    have hrd5 := RdG.next hrd3 hb4
    clear hb3 hb4 hrd3
    rcases hv : vL l with _ | _
    · have HV := Lib.hid hv
      clear hv
      go_wp2_with fail
      refine (specValidLabelsE_any A2 m c2 l _ HL.out.1 (by omega) HL.out.2 hrd5).mono ?_
      rintro e w6 ⟨rfl, hb6⟩
      rw [HV.out]
      go_wp2
      go_ret
      exact ⟨rfl, kept_trans hb5 hb6⟩
    · have HV := Lib.hid hv
      clear hv
      by_cases hm0 : m = 0
      · have hmz : ((m : Int) == 0) = true := by simp [hm0]
        clear hm0
        go_wp2_with fail
        refine (specValidLabelsE_any A2 m c2 l _ HL.out.1 (by omega) HL.out.2 hrd5).mono ?_
        rintro e w6 ⟨rfl, hb6⟩
        rw [HV.out]
        go_wp2
        go_ret
        exact ⟨rfl, kept_trans hb5 hb6⟩
      · have hmz : ((m : Int) == 0) = false := by simp [hm0]
        have hm1 : (1 : Int) ≤ (m : Int) := by omega
        obtain ⟨b, off, rfl, hbb, _⟩ := RdL.at_ hrd5 (by rw [HL.out.1]; omega)
        have k0 := Int.emod_nonneg (n : Int) (b := (m : Int)) (by omega)
        have k1 := Int.emod_lt_of_pos (n : Int) (b := (m : Int)) (by omega)
        rw [show ((n : Int) % (m : Int)) = ((n % m : Nat) : Int) from (Int.natCast_emod n m).symm] at k0 k1
        have hk : n % m < m := Nat.mod_lt _ (by omega)
        go_wp2_with fail
        rw [show ((n : Int) % (m : Int)) = ((n % m : Nat) : Int) from (Int.natCast_emod n m).symm]
        generalize n % m = k at *
        have HVL := Lib.hid (vL_leave HV.out k)
        have hbE := (kept_alloc (Below.refl w4.heap.size w4) (Obj.cells #[] 46)).drew
        have HB := Lib.hid hbE
        have HSZ := Lib.hid hbE.size
        have HO := Lib.hid (show ((w4.alloc (Obj.cells #[] 46)).drew).ownsRow w4.heap.size 46 2 (.slice (some ⟨w4.heap.size, 0, none⟩) 0 0) 0 [] from World.ownsRow_made w4 #[] 0 (Nat.le_refl _) (by unfold maxLen; omega) rfl)
        have HTL := Lib.hid (show (l.take k).length = k by rw [List.length_take, HL.out.1]; omega)
        have HDL := Lib.hid (show (l.drop (k + 1)).length = m - (k + 1) by rw [List.length_drop, HL.out.1])
        have HAL := Lib.hid (show (l.take k ++ l.drop (k + 1)).length = k + (m - (k + 1)) by rw [List.length_append, HTL.out, HDL.out])
        have HT := Lib.hid (RdG.rdN (RdG.take (m := k) (RdG.below hrd5 hbE)) HTL.out)
        have HD1 := Lib.hid (RdG.rdN (RdG.slice hrd5 (k + 1)) HDL.out)
        have hw1 : IntKind.i64.wrap ((k : Int) + 1) = (k : Int) + 1 := IntWalk.i64_in _ (by omega)
        have hw2 : ((k : Int) + 1).toNat = k + 1 := by omega
        have hw3 : (0 : Int) ≤ (k : Int) + 1 := by omega
        have hw4 : (k : Int) + 1 ≤ (m : Int) := by omega
        have hw5 : (k : Int) ≤ (c2 : Int) := by omega
        clear hbE hrd5 hm0
        by_cases hcc : c2 = k + 1
        · have hmk : m = k + 1 := by omega
          subst hmk
          subst hcc
          have HD0 := Lib.hid (show Rd w4 w4.heap.size (some ⟨b, off, none⟩) (0 * 2) (cellsG encL 2 (l.drop (k + 1))) from fun h => absurd h (by omega))
          have HVT := Lib.hid (vL_sub HV.out (List.take_sublist k l))
          have hw6 : (k : Int) ≤ (k : Int) + 1 := by omega
          go_region_law (first
            | (refine step_append_rd _ rfl (.tmp 35) (.tmp 38) _ rfl w4.heap.size 46 i0 _ 2 32 Try.underlying29 hi hz0 hz1 hz2 rfl (by omega) _ _ _ rfl HO.out _ _ k _ (cellsG encL 2 (l.take k)) rfl HT.out (one_cellsL _) (by simp only [maxLen]; omega) (by omega) HSZ.out ?_; intro A6 c6 w6 hown6 hgrow6; have hb6 := below_own HB.out HO.out hgrow6; rw [List.nil_append, Nat.zero_add] at hown6; rw [Nat.zero_add]; have hsz6 := hb6.size; clear hgrow6)
            | (refine step_append_rd _ rfl (.tmp 39) (.tmp 43) _ rfl w4.heap.size 46 i0 _ 2 32 Try.underlying29 hi hz0 hz1 hz2 rfl (by omega) _ _ _ rfl hown6 w4.heap.size _ 0 _ (cellsG encL 2 (l.drop (k + 1))) rfl (Rd.below HD0.out hb6) (one_cellsL _) (by simp only [maxLen]; omega) (by omega) hsz6 ?_; intro A7 c7 w7 hown7 hgrow7; have hb7 := below_own hb6 hown6 hgrow7; rw [Nat.zero_mul, List.range_zero, List.map_nil, List.append_nil, Nat.add_zero] at hown7; rw [Nat.add_zero]; have hr7 := own_rdG (l := l.take k) (by unfold rowG; rw [HTL.out]; exact hown7) HTL.out; clear hgrow7 hown6)
            | (go_simp; go_at_call 19; (with_reducible refine (validLabels_any A7 _ c7 (l.take k) _ HTL.out hr7).mono ?_); rintro ee w8 ⟨rfl, hb8⟩; rw [HVT.out]; have hb9 := hb7.trans (hb8.mono hb7.size))
            | (go_simp; go_at_call 19; (with_reducible refine (validLabels_any none 0 0 [] _ rfl (RdG.nil _ _ _ _ rfl)).mono ?_); rintro ee w10 ⟨rfl, hb10⟩; rw [vL_nil]))
          all_goals
            have hb11 := kept_trans hb5 (hb9.trans (hb10.mono hb9.size))
            clear hown7 hr7 hb7 hb8 hb9 hb10 hb6
            go_wp2
            go_ret
            exact ⟨rfl, hb11⟩
        · have hcc2 : ¬ c2 = k + 1 := hcc
          have hcc3 : (k : Int) + 1 ≤ (c2 : Int) := by omega
          go_region_law (first
            | (refine step_append_rd _ rfl (.tmp 35) (.tmp 38) _ rfl w4.heap.size 46 i0 _ 2 32 Try.underlying29 hi hz0 hz1 hz2 rfl (by omega) _ _ _ rfl HO.out _ _ k _ (cellsG encL 2 (l.take k)) rfl HT.out (one_cellsL _) (by simp only [maxLen]; omega) (by omega) HSZ.out ?_; intro A6 c6 w6 hown6 hgrow6; have hb6 := below_own HB.out HO.out hgrow6; rw [List.nil_append, Nat.zero_add] at hown6; rw [Nat.zero_add]; have hsz6 := hb6.size; clear hgrow6)
            | (refine step_append_rd _ rfl (.tmp 39) (.tmp 43) _ rfl w4.heap.size 46 i0 _ 2 32 Try.underlying29 hi hz0 hz1 hz2 rfl (by omega) _ _ _ rfl hown6 w4.heap.size _ (m - (k + 1)) _ (cellsG encL 2 (l.drop (k + 1))) rfl (Rd.below HD1.out hb6) (one_cellsL _) (by simp only [maxLen]; omega) (by omega) hsz6 ?_; intro A7 c7 w7 hown7 hgrow7; have hb7 := below_own hb6 hown6 hgrow7; have hr7 := own_rdG (l := l.take k ++ l.drop (k + 1)) (by rw [rowG_append]; unfold rowG; rw [HTL.out, HDL.out]; exact hown7) HAL.out; clear hgrow7 hown6)
            | (go_simp; go_at_call 19; (with_reducible refine (validLabels_any A7 _ c7 (l.take k ++ l.drop (k + 1)) _ HAL.out hr7).mono ?_); rintro ee w8 ⟨rfl, hb8⟩; rw [HVL.out]; have hb9 := hb7.trans (hb8.mono hb7.size))
            | (go_simp; go_at_call 19; (with_reducible refine (validLabels_any none 0 0 [] _ rfl (RdG.nil _ _ _ _ rfl)).mono ?_); rintro ee w10 ⟨rfl, hb10⟩; rw [vL_nil]))
          all_goals
            have hb11 := kept_trans hb5 (hb9.trans (hb10.mono hb9.size))
            clear hown7 hr7 hb7 hb8 hb9 hb10 hb6
            go_wp2
            go_ret
            exact ⟨rfl, hb11⟩
end Go.Proofs.Ytjmdcdeccchlcaa
