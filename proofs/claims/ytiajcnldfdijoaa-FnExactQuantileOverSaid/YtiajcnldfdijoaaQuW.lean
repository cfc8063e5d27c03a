/-
  Walks: valuesOf of both packages, sorted, slices.Sort at integers, QuantileOver of both packages.
-/
import Derived.Test.YtiajcnldfdijoaaQuFn
import Derived.Test.YtiajcnldfdijoaaPtW4
import Derived.Test.YtiajcnldfdijoaaPtW5
import Derived.Test.YtiajcnldfdijoaaInR
import Derived.Test.YtiajcnldfdijoaaShelf
import Derived.Sort.OwnSortedInts
namespace Go.Proofs.Ytiajcnldfdijoaa
open Go.RowKit
set_option maxHeartbeats 1000000 in
theorem valuesOf_any (A : Option Addr) (n c : Nat) (l : List (Int × Int)) (w : World) (hn : l.length = n) (hm : n ≤ 1000000000) (hr : Rd2 w w.heap.size A l) :
    Calls Try.prog 32 #[.slice A n c] w (RetI w (vals l)) := by
  have HN := Lib.hid hn
  clear hn
  obtain ⟨i0, hi, hz0, hz1, hz2⟩ := info_parts Try.infoInt
  have hmk : ∀ W, (Instr.makeSlice 60 (.int .i64 0) (.int .i64 (n : Int))).run Try.prog W = .ok (.slice (some ⟨W.heap.size, 0, none⟩) 0 n) (W.alloc (.cells (madeCells #[Value.int .i64 0] n) 3)) := fun W => by have h := run_make_cap (P := Try.prog) 60 3 i0 _ 1 Try.underlying60 hi hz0 hz1 n (by rw [hz2]; omega) (by omega) W; rw [Nat.mul_one] at h; exact h
  have HO := Lib.hid (show (w.alloc (Obj.cells (madeCells #[Value.int .i64 0] n) 3)).ownsRow w.heap.size 3 1 (.slice (some ⟨w.heap.size, 0, none⟩) 0 n) 0 [] by have h := own_made w 3 1 n #[Value.int .i64 0] (Nat.le_refl _) (by unfold maxLen; omega); rwa [Nat.mul_one] at h)
  have HB := Lib.hid (kept_alloc (Below.refl w.heap.size w) (Obj.cells (madeCells #[Value.int .i64 0] n) 3))
  go_enter Try.func32, Try.ntmps32
  go_wp2
  clear hmk
  go_loopw [3, 11] (fun v i wr => ∃ (k : Nat) (A' : Option Addr) (c' z : Nat) (pre : List Int), v = .slice A' z c' ∧ i = .int .i64 k ∧ k ≤ n ∧ z = k ∧ pre = (vals l).take k ∧ wr.ownsRow w.heap.size 3 1 (.slice A' z c') z (pre.map (Value.int .i64)) ∧ Below w.heap.size w wr) (fun _ i _ => n - (intOf i).toNat)
  case atStart => exact ⟨0, _, _, 0, [], rfl, rfl, by omega, rfl, by simp, HO.out, HB.out⟩
  case round =>
    obtain ⟨k, A', c', z, pre, rfl, rfl, hk, hzk, hpre, hown, hb⟩ := hrel
    have HZ := Lib.hid hzk
    have HP := Lib.hid hpre
    have hz9 : z ≤ 1000000000 := by omega
    clear hzk hpre
    by_cases hlt : k < n
    · have hki : (k : Int) < (n : Int) := by omega
      have hlc : k < l.length := by rw [HN.out]; exact hlt
      obtain ⟨b, off, rfl, hbb, hc⟩ := hr.at_ (by omega)
      obtain ⟨hc0, hc1⟩ := hc k hlc
      rw [← hb.cell (by exact hbb)] at hc0 hc1
      have hwr := hb.size
      have hN : ((wr.alloc (Obj.cells #[Value.int .i64 (x1 l k), Value.int .i64 (x2 l k)] 30)).alloc (Obj.cells #[Value.int .i64 (x2 l k)] 3)).heap[wr.heap.size + 1]? = some (Obj.cells #[Value.int .i64 (x2 l k)] 3) := by
        have := heap_alloc_new (wr.alloc (Obj.cells #[Value.int .i64 (x1 l k), Value.int .i64 (x2 l k)] 30)) (Obj.cells #[Value.int .i64 (x2 l k)] 3)
        rwa [show (wr.alloc (Obj.cells #[Value.int .i64 (x1 l k), Value.int .i64 (x2 l k)] 30)).heap.size = wr.heap.size + 1 by simp] at this
      have hNW := World.news_of_block (cs := #[Value.int .i64 (x2 l k)]) (t := 3) (fr := (0, 0)) hN
      have HT := Lib.hid (vals_take hlc)
      clear hc hr hN
      go_wp2_with (at_builtin; refine wpList_append_lies _ rfl _ _ _ rfl w.heap.size 3 i0 _ 1 8 Try.underlying60 hi hz0 hz1 hz2 rfl (by omega) _ z (pre.map (Value.int .i64)) rfl ((hown.alloc _).alloc _) ⟨wr.heap.size + 1, 0, none⟩ 1 1 ([Value.int .i64 (x2 l k)]) rfl rfl hNW (by simp [Value.oneCell']) (by omega) (by simp only [maxLen]; omega) (by omega) (by simp; omega) (wr.heap.size + 1 + 1) (by simp) ?_; intro gg cap w2 hown2 hgrow hat hlt2)
      have hb4 := below_app' (kept_alloc hb _) (hown.alloc _) hgrow
      rw [show pre.map (Value.int .i64) ++ [Value.int .i64 (x2 l k)] = (pre ++ [x2 l k]).map (Value.int .i64) by simp] at hown2
      clear hgrow hat hown hb hNW hc0 hc1
      go_wp2
      go_roundw
      case rel => exact ⟨k + 1, _, _, z + 1, _, rfl, by go_num, by omega, by rw [HZ.out], by rw [HT.out, HP.out], hown2, hb4⟩
      case measure => simp [intOf]; omega
    · have HX := Lib.hid (show vals l = pre by rw [HP.out, List.take_of_length_le (by rw [vals_len, HN.out]; omega)])
      have hzn : z = (vals l).length := by rw [vals_len, HN.out, HZ.out]; omega
      clear hr
      go_wp2
      go_ret
      exact ⟨A', c', by rw [← hzn]; rfl, by rw [← hzn, HX.out]; exact hown, hb⟩
set_option maxHeartbeats 1000000 in
theorem specValuesOf_any (A : Option Addr) (n c : Nat) (l : List (Int × Int)) (w : World) (hn : l.length = n) (hm : n ≤ 1000000000) (hr : Rd2 w w.heap.size A l) :
    Calls Try.prog 35 #[.slice A n c] w (RetI w (vals l)) := by
  have HN := Lib.hid hn
  clear hn
  obtain ⟨i0, hi, hz0, hz1, hz2⟩ := info_parts Try.infoInt
  have HO := Lib.hid (World.ownsRow_made (e := 3) (size := 1) w #[] 0 (Nat.le_refl _) (by unfold maxLen; omega) rfl)
  have HB := Lib.hid (kept_alloc (Below.refl w.heap.size w) (Obj.cells #[] 3))
  go_enter Try.func35, Try.ntmps35
  go_wp2
  go_loopw [3, 4] (fun v i wr => ∃ (k : Nat) (A' : Option Addr) (c' z : Nat) (pre : List Int), v = .slice A' z c' ∧ i = .int .i64 k ∧ k ≤ n ∧ z = k ∧ pre = (vals l).take k ∧ wr.ownsRow w.heap.size 3 1 (.slice A' z c') z (pre.map (Value.int .i64)) ∧ Below w.heap.size w wr) (fun _ i _ => n - (intOf i).toNat)
  case atStart => exact ⟨0, _, _, 0, [], rfl, rfl, by omega, rfl, by simp, HO.out, HB.out⟩
  case round =>
    obtain ⟨k, A', c', z, pre, rfl, rfl, hk, hzk, hpre, hown, hb⟩ := hrel
    have HZ := Lib.hid hzk
    have HP := Lib.hid hpre
    have hz9 : z ≤ 1000000000 := by omega
    clear hzk hpre
    by_cases hlt : k < n
    · have hki : (k : Int) < (n : Int) := by omega
      have hlc : k < l.length := by rw [HN.out]; exact hlt
      obtain ⟨b, off, rfl, hbb, hc⟩ := hr.at_ (by omega)
      obtain ⟨hc0, hc1⟩ := hc k hlc
      rw [← hb.cell (by exact hbb)] at hc0 hc1
      have hwr := hb.size
      have HT := Lib.hid (vals_take hlc)
      clear hc hr
      go_wp2_with (at_builtin; refine wpList_append_lies _ rfl _ _ _ rfl (w.heap.size) 3 i0 _ 1 8 Try.underlying60 hi hz0 hz1 hz2 rfl (by omega) _ (z) (pre.map (Value.int .i64)) rfl ((hown).alloc _) ⟨wr.heap.size, 0, none⟩ 1 1 ([.int .i64 (x2 l k)]) rfl rfl (World.news_of_block (cs := ([.int .i64 (x2 l k)]).toArray) (t := 3) (fr := (0, 0)) (heap_alloc_new wr _)) (by simp [Value.oneCell']) (by omega) (by simp only [maxLen]; omega) (by omega) (by simp; omega) (wr.heap.size + 1) (by simp) ?_; intro gg cap w2 hown2 hgrow hat hlt2)
      have hb4 := below_app' hb hown hgrow
      rw [show pre.map (Value.int .i64) ++ [Value.int .i64 (x2 l k)] = (pre ++ [x2 l k]).map (Value.int .i64) by simp] at hown2
      clear hgrow hat hown hb hc0 hc1
      go_wp2
      go_roundw
      case rel => exact ⟨k + 1, _, _, z + 1, _, rfl, by go_num, by omega, by rw [HZ.out], by rw [HT.out, HP.out], hown2, hb4⟩
      case measure => simp [intOf]; omega
    · have HX := Lib.hid (show vals l = pre by rw [HP.out, List.take_of_length_le (by rw [vals_len, HN.out]; omega)])
      have hzn : z = (vals l).length := by rw [vals_len, HN.out, HZ.out]; omega
      clear hr
      go_wp2
      go_ret
      exact ⟨A', c', by rw [← hzn]; rfl, by rw [← hzn, HX.out]; exact hown, hb⟩
theorem own_cellI {w : World} {B : Nat} {g n c : Nat} {l : List Int} (h : w.ownsRow B 3 1 (.slice (some ⟨g, 0, none⟩) n c) n (l.map (Value.int .i64))) {j : Nat} (hl : l.length = n) (hj : j < n) : w.cell? ⟨g, j, none⟩ = some (.int .i64 (xi l j)) := by
  rw [h.cellAt j (by omega), List.getElem?_map, List.getElem?_eq_getElem (by omega)]
  simp [xi, List.getD_eq_getElem?_getD, List.getElem?_eq_getElem (show j < l.length by omega)]
theorem own_swap {w : World} {B : Nat} {g n c : Nat} {l : List Int} (h : w.ownsRow B 3 1 (.slice (some ⟨g, 0, none⟩) n c) n (l.map (Value.int .i64))) (i j : Nat) (y x : Int) :
    ((w.setCell ⟨g, i, none⟩ (.int .i64 y)).setCell ⟨g, j, none⟩ (.int .i64 x)).ownsRow B 3 1 (.slice (some ⟨g, 0, none⟩) n c) n (((l.set i y).set j x).map (Value.int .i64)) := by
  have h1 := (h.stored i (.int .i64 y)).1
  rw [← List.map_set] at h1
  have h2 := (h1.stored j (.int .i64 x)).1
  rwa [← List.map_set] at h2
set_option maxHeartbeats 4000000 in
set_option maxRecDepth 100000 in
theorem sorted_any (A : Option Addr) (n c : Nat) (l : List Int) (w : World) (hn : l.length = n) (hm : n ≤ 1000000000) (hr : Rd1 w w.heap.size A l) :
    Calls Try.prog 34 #[.slice A n c] w (RetI w (srt l)) := by
  have HN := Lib.hid hn
  clear hn
  obtain ⟨i0, hi, hz0, hz1, hz2⟩ := info_parts Try.infoInt
  have HO := Lib.hid (World.ownsRow_made (e := 3) (size := 1) w #[] 0 (Nat.le_refl _) (by unfold maxLen; omega) rfl)
  have HB := Lib.hid (kept_alloc (Below.refl w.heap.size w) (Obj.cells #[] 3))
  go_enter Try.func34, Try.ntmps34
  go_wp2
  go_loopw [3, 4] (fun v i wr => ∃ (k : Nat) (A' : Option Addr) (c' z : Nat) (acc : List Int), v = .slice A' z c' ∧ i = .int .i64 k ∧ k ≤ n ∧ z = k ∧ acc.length = z ∧ Asc acc ∧ acc.Perm (l.take k) ∧ wr.ownsRow w.heap.size 3 1 (.slice A' z c') z (acc.map (Value.int .i64)) ∧ Below w.heap.size w wr) (fun _ i _ => n - (intOf i).toNat)
  case atStart => exact ⟨0, _, _, 0, [], rfl, rfl, by omega, rfl, rfl, List.Pairwise.nil, by simp, HO.out, HB.out⟩
  case round =>
    obtain ⟨k, A', c', z, acc, rfl, rfl, hk, hzk, hal, hasc, hperm, hown, hb⟩ := hrel
    have HZ := Lib.hid hzk
    have HA := Lib.hid (And.intro hal (And.intro hasc hperm))
    have hz9 : z ≤ 1000000000 := by omega
    clear hzk hal hasc hperm
    by_cases hlt : k < n
    · have hki : (k : Int) < (n : Int) := by omega
      have hlc : k < l.length := by rw [HN.out]; exact hlt
      obtain ⟨b, off, rfl, hbb, hc⟩ := hr.at_ (by omega)
      have hc0 := hc k hlc
      rw [← hb.cell (by exact hbb)] at hc0
      have hwr := hb.size
      have HT := Lib.hid (show l.take (k + 1) = l.take k ++ [xi l k] by
        rw [List.take_succ_eq_append_getElem hlc]; simp [xi, List.getD_eq_getElem?_getD, List.getElem?_eq_getElem hlc])
      clear hc hr
      go_wp2_with (at_builtin; refine wpList_append_lies _ rfl _ _ _ rfl (w.heap.size) 3 i0 _ 1 8 Try.underlying60 hi hz0 hz1 hz2 rfl (by omega) _ (z) (acc.map (Value.int .i64)) rfl ((hown).alloc _) ⟨wr.heap.size, 0, none⟩ 1 1 ([.int .i64 (xi l k)]) rfl rfl (World.news_of_block (cs := ([.int .i64 (xi l k)]).toArray) (t := 3) (fr := (0, 0)) (heap_alloc_new wr _)) (by simp [Value.oneCell']) (by omega) (by simp only [maxLen]; omega) (by omega) (by simp; omega) (wr.heap.size + 1) (by simp) ?_; intro gg cap w2 hown2 hgrow hat hlt2)
      have hb4 := below_app' hb hown hgrow
      rw [show acc.map (Value.int .i64) ++ [Value.int .i64 (xi l k)] = (acc ++ [xi l k]).map (Value.int .i64) by simp] at hown2
      clear hgrow hat hown hb hc0
      generalize xi l k = x at *
      have hs2 := (hown2.lt gg rfl).1
      have HI0 := Lib.hid (show InsAt acc x (acc ++ [x]) z by have := insAt_start acc x; rwa [HA.out.1] at this)
      have HO2 := Lib.hid hown2
      have HB4 := Lib.hid hb4
      clear hown2 hb4
      go_wp2
      obtain ⟨wo, hwo⟩ : ∃ wo : World, wo = wr := ⟨_, rfl⟩
      clear hwo
      go_loopw [5, 6] (fun v u wr => ∃ (j : Nat) (out : List Int), v = .int .i64 j ∧ j ≤ z ∧ InsAt acc x out j ∧ wr.ownsRow w.heap.size 3 1 (.slice (some ⟨gg, 0, none⟩) (z + 1) cap) (z + 1) (out.map (Value.int .i64)) ∧ Below w.heap.size w wr) (fun v _ _ => (intOf v).toNat)
      case atStart => exact ⟨z, _, rfl, Nat.le_refl _, HI0.out, HO2.out, HB4.out⟩
      case round =>
        obtain ⟨j, out, rfl, hjz, hins, hown, hb⟩ := hrel
        have HI := Lib.hid hins
        have hol : out.length = z + 1 := by rw [hins.cur.2.2, HA.out.1]
        have HOL := Lib.hid hol
        have hcx : xi out j = x := hins.cur.1
        have hd0 := own_cellI hown (j := j) hol (by omega)
        rw [hcx] at hd0
        clear hins hcx hol
        rcases j with _ | jj
        · have HD := Lib.hid (HI.out.done HA.out.2.1 (.inl rfl))
          have HOW := Lib.hid (And.intro hown hb)
          clear hown hb hd0
          go_wp2_with fail
          go_quiet (fail)
          go_wp2
          go_roundw
          case rel => exact ⟨k + 1, _, _, z + 1, out, rfl, by go_num, by omega, by rw [HZ.out], HOL.out, HD.out.1, by rw [HT.out]; exact HD.out.2.trans (HA.out.2.2.append_right _), HOW.out.1, kept_drewN HOW.out.2 _⟩
          case measure => simp [intOf]; omega
        · have hd1 := own_cellI hown (j := jj) HOL.out (by omega)
          generalize hy : xi out jj = y at hd1
          have HY := Lib.hid hy
          clear hy
          have hw1 : IntKind.i64.wrap ((jj : Int) + 1 - 1) = (jj : Int) := by rw [show (jj : Int) + 1 - 1 = (jj : Int) by omega]; exact IntWalk.i64_in _ (by omega)
          have hn1 : ((jj : Int) + 1).toNat = jj + 1 := by omega
          have hn2 : (jj : Int).toNat = jj := by omega
          have hp1 : (0 : Int) < (jj : Int) + 1 := by omega
          have hp2 : (jj : Int) + 1 < (z : Int) + 1 := by omega
          have hp3 : (jj : Int) < (z : Int) + 1 := by omega
          by_cases hlt2 : x < y
          · have HS := Lib.hid (HI.out.step (by rw [HY.out]; exact hlt2))
            have hf0 := hown.frozenAt (jj + 1)
            have hf1 := hown.frozenAt jj
            have HOW := Lib.hid (And.intro hown hb)
            have hnj : ¬ jj = jj + 1 := by omega
            have hnj2 : ¬ jj + 1 = jj := by omega
            clear hown hb
            go_wp2_with fail
            go_quiet (fail)
            go_wp2
            go_roundw
            case rel => exact ⟨jj, (out.set (jj + 1) y).set jj x, by go_num, by omega, by have := HS.out; rwa [HY.out] at this, own_swap (w := wr.drewN _) HOW.out.1 (jj + 1) jj y x, ((kept_drewN HOW.out.2 _).setCell hs2 _).setCell hs2 _⟩
            case measure => simp [intOf]
          · have HD := Lib.hid (HI.out.done HA.out.2.1 (.inr (by rw [Nat.add_sub_cancel, HY.out]; omega)))
            have HOW := Lib.hid (And.intro hown hb)
            clear hown hb
            go_wp2_with fail
            go_quiet (fail)
            go_wp2
            go_roundw
            case rel => exact ⟨k + 1, _, _, z + 1, out, rfl, by go_num, by omega, by rw [HZ.out], HOL.out, HD.out.1, by rw [HT.out]; exact HD.out.2.trans (HA.out.2.2.append_right _), HOW.out.1, kept_drewN HOW.out.2 _⟩
            case measure => simp [intOf]; omega
    · have hl : l.take k = l := List.take_of_length_le (by rw [HN.out]; omega)
      have HX := Lib.hid (show srt l = acc from (asc_srt HA.out.2.1 (by have := HA.out.2.2; rwa [hl] at this)).symm)
      have hzn : z = (srt l).length := by rw [HX.out, HA.out.1]
      clear hr hl
      go_wp2
      go_ret
      exact ⟨A', c', by rw [← hzn]; rfl, by rw [← hzn, HX.out]; exact hown, hb⟩
/-- slices.Sort at integers of the call's own. -/
def SortP (w : World) (B : Nat) (A : Option Addr) (n c : Nat) (l : List Int) (e : Ending) (w' : World) : Prop :=
  e = .returned (.tuple #[]) ∧ w'.ownsRow B 3 1 (.slice A n c) n ((srt l).map (Value.int .i64)) ∧ w.grownBy w' (Value.slice A n c).ownBlock
theorem sortInts_any (B : Nat) (A : Option Addr) (n c : Nat) (l : List Int) (w : World) (hn : l.length = n) (hm : n ≤ 1000000000) (hown : w.ownsRow B 3 1 (.slice A n c) n (l.map (Value.int .i64))) :
    Calls Try.prog 33 #[.slice A n c] w (SortP w B A n c l) := by
  rcases hown.2 with ⟨h1, h2⟩ | ⟨g, cap, cur, h1, hb, hblk, hnc, hcm, hs, hcur⟩
  · injection h1 with e1 e2 e3
    subst e1; subst e2; subst e3
    have hl : l = [] := List.length_eq_zero_iff.1 hn
    subst hl
    refine (slices_Sort_int_none none 0 w).mono ?_
    rintro e w' ⟨rfl, rfl⟩
    exact ⟨rfl, by rw [show srt [] = [] by simp [srt]]; exact World.ownsRow_nil _ _ _ _, World.grownBy.refl _ _⟩
  · injection h1 with e1 e2 e3
    subst e1; subst e3
    subst hn
    rw [Nat.mul_one] at hcur
    have hlt : g < w.heap.size := by
      rcases Nat.lt_or_ge g w.heap.size with hlt | hge
      · exact hlt
      · rw [Array.getElem?_eq_none hge] at hblk; cases hblk
    refine (slices_Sort_int g 0 c l w (holds_of_blockI hblk hcur) hlt (by omega)).mono ?_
    rintro e w' ⟨rfl, q, os, rfl⟩
    exact ⟨rfl, ownsRow_sortedI (srt_len l) hb hblk hnc hcm hs, grownBy_sortedI _⟩
set_option maxHeartbeats 2000000 in
set_option maxRecDepth 100000 in
theorem quantileOver_any (A : Option Addr) (n c : Nat) (l : List (Int × Int)) (fr to p : Int) (w : World) (hn : l.length = n) (hm : n ≤ 1000000000000) (hc : n ≤ c) (hr : Rd2 w w.heap.size A l) :
    Calls Try.prog 9 #[.slice A n c, .int .i64 fr, .int .i64 to, .int .i64 p] w fun e w' => e = .returned (.tuple #[.int .i64 (quN (quV l fr to p)), .bool (quV l fr to p).isSome]) ∧ Below w.heap.size w w' := by
  have HN := Lib.hid hn
  obtain ⟨q, hq⟩ : ∃ q, quV l fr to p = q := ⟨_, rfl⟩
  rw [hq]
  have HQV := Lib.hid hq
  clear hq
  clear hn
  by_cases hp : p < 0 ∨ 100 < p
  · have HQ := (quV_no1 (l := l) (fr := fr) (to := to) hp)
    have HQE := HQV.out.symm.trans HQ
    subst HQE
    clear HQ HQV
    rcases hp with hp | hp
    · go_enter Try.func9, Try.ntmps9
      go_wp2
      go_ret2
      exact ⟨rfl, Below.refl _ _⟩
    · have hp' : ¬ p < 0 := by omega
      go_enter Try.func9, Try.ntmps9
      go_wp2
      go_ret2
      exact ⟨rfl, Below.refl _ _⟩
  · have h0 : 0 ≤ p := by omega
    have h1 : p ≤ 100 := by omega
    have h0' : ¬ p < 0 := by omega
    have h1' : ¬ 100 < p := by omega
    have hB := rngL_bd l fr to
    have hql := qL_len l fr to
    clear hp
    go_enter Try.func9, Try.ntmps9
    go_wp2_with fail
    refine (rangeOf_any A n c l fr to _ HN.out hm hc hr).mono ?_
    rintro e w1 ⟨A6, c6, rfl, hown6, hb1⟩
    have hr6 := own_rd2 hown6 rfl
    have h16 : (rngL l fr to).length ≤ 16 := hB.1
    clear hown6 hr hB
    generalize hm6 : (rngL l fr to).length = m at *
    have HM := Lib.hid hm6
    have HQL := Lib.hid hql
    clear hm6 hql
    by_cases hz : m = 0
    · have HQ := (quV_no2 (p := p) (show (qL l fr to).length = 0 by rw [HQL.out]; exact hz))
      have hmz : ((m : Int) == 0) = true := by simp [hz]
      have HQE := HQV.out.symm.trans HQ
      subst HQE
      clear HQ HQV
      clear hz hr6
      go_wp2
      go_ret2
      exact ⟨rfl, hb1⟩
    · have HQ := (quV_yes h0 h1 (show 0 < (qL l fr to).length by rw [HQL.out]; omega))
      have hmz : ((m : Int) == 0) = false := by simp [hz]
      have hmp : 0 < m := by omega
      rw [HQL.out] at HQ
      have HQE := HQV.out.symm.trans HQ
      subst HQE
      clear HQ HQV
      clear hz
      go_wp2_with fail
      refine (valuesOf_any A6 m c6 (rngL l fr to) _ HM.out (by omega) hr6).mono ?_
      rintro e w2 ⟨A7, c7, rfl, hown7, hb2⟩
      rw [vals_len, HM.out] at hown7 ⊢
      have kb2 := kept_trans hb1 hb2
      have HS1 := Lib.hid hb1.size
      clear hr6 hb1 hb2
      go_wp2_with fail
      refine (sortInts_any _ A7 m c7 (vals (rngL l fr to)) _ (by rw [vals_len]; exact HM.out) (by omega) hown7).mono ?_
      rintro e w3 ⟨rfl, hown8, hg8⟩
      have kb3 : Below w.heap.size w w3 := kb2.grown hg8 kb2.size (fun k hk => Nat.le_trans HS1.out (hown7.lt k hk).1)
      obtain ⟨g, cap, hv8, _, _⟩ := hown8.form hmp
      have hA : A7 = some ⟨g, 0, none⟩ := by injection hv8
      subst hA
      have hq := qI_lt h0 h1 hmp
      have hbd := qI_bd h0 h1 hmp
      have hc8 := own_cellI hown8 (j := qI p m) (by rw [srt_len, vals_len]; exact HM.out) hq
      have hmm : IntKind.i64.wrap ((m : Int) - 1) = (m : Int) - 1 := IntWalk.i64_in _ (by omega)
      have hmu : IntKind.i64.wrap (p * ((m : Int) - 1)) = p * ((m : Int) - 1) := IntWalk.i64_in _ (by omega)
      have had : IntKind.i64.wrap (p * ((m : Int) - 1) + 99) = p * ((m : Int) - 1) + 99 := IntWalk.i64_in _ (by omega)
      have hdv : (p * ((m : Int) - 1) + 99).tdiv 100 = (qI p m : Int) := by
        rw [Int.tdiv_eq_ediv_of_nonneg (by omega)]
        unfold qI
        omega
      have hdw : IntKind.i64.wrap (qI p m : Int) = (qI p m : Int) := IntWalk.i64_in _ (by omega)
      clear hown7 hown8 hg8 kb2 hv8
      go_wp2
      go_ret2
      exact ⟨rfl, kb3⟩
set_option maxHeartbeats 2000000 in
set_option maxRecDepth 100000 in
theorem specQuantileOver_any (A : Option Addr) (n c : Nat) (l : List (Int × Int)) (fr to p : Int) (w : World) (hn : l.length = n) (hm : n ≤ 1000000000000) (hr : Rd2 w w.heap.size A l) :
    Calls Try.prog 10 #[.slice A n c, .int .i64 fr, .int .i64 to, .int .i64 p] w fun e w' => e = .returned (.tuple #[.int .i64 (quN (quV l fr to p)), .bool (quV l fr to p).isSome]) ∧ Below w.heap.size w w' := by
  have HN := Lib.hid hn
  obtain ⟨q, hq⟩ : ∃ q, quV l fr to p = q := ⟨_, rfl⟩
  rw [hq]
  have HQV := Lib.hid hq
  clear hq
  have hB := (rngL_bd l fr to).1
  have HQL := Lib.hid (qL_len l fr to)
  clear hn
  go_enter Try.func10, Try.ntmps10
  go_wp2_with fail
  refine (specRangeOf_any A n c l fr to _ HN.out hm hr).mono ?_
  rintro e w1 ⟨A6, c6, rfl, hown6, hb1⟩
  have hr6 := own_rd2 hown6 rfl
  clear hown6 hr
  generalize hm6 : (rngL l fr to).length = m at *
  have HM := Lib.hid hm6
  clear hm6
  go_wp2_with fail
  refine (specValuesOf_any A6 m c6 (rngL l fr to) _ HM.out (by omega) hr6).mono ?_
  rintro e w2 ⟨A7, c7, rfl, hown7, hb2⟩
  have hr7 := own_rd1 hown7 rfl
  rw [vals_len, HM.out]
  have kb2 := kept_trans hb1 hb2
  clear hr6 hb1 hb2 hown7
  go_wp2_with fail
  refine (sorted_any A7 m c7 (vals (rngL l fr to)) _ (by rw [vals_len]; exact HM.out) (by omega) hr7).mono ?_
  rintro e w3 ⟨A8, c8, rfl, hown8, hb3⟩
  rw [srt_len, vals_len, HM.out] at hown8 ⊢
  have kb3 := kept_trans kb2 hb3
  clear hr7 hb3 kb2
  by_cases hz : m = 0
  · have HQ := (quV_no2 (p := p) (show (qL l fr to).length = 0 by rw [HQL.out]; exact hz))
    have hmz : ((m : Int) == 0) = true := by simp [hz]
    have HQE := HQV.out.symm.trans HQ
    subst HQE
    clear HQ HQV
    clear hz hown8
    go_wp2
    go_ret2
    exact ⟨rfl, kb3⟩
  · have hmz : ((m : Int) == 0) = false := by simp [hz]
    have hmp : 0 < m := by omega
    clear hz
    rcases hi : inR p 0 100 with _ | _
    · have HI := Lib.hid hi
      have HQ := (quV_no1 (l := l) (fr := fr) (to := to) (by have := inR_f hi; omega))
      have HQE := HQV.out.symm.trans HQ
      subst HQE
      clear HQ HQV
      clear hi hown8
      go_wp2_with fail
      refine (inRange_q _ _ _ _).mono ?_
      rintro e wq ⟨rfl, rfl⟩
      rw [HI.out]
      go_wp2
      go_ret2
      exact ⟨rfl, kb3⟩
    · have HI := Lib.hid hi
      have h0 := (inR_t hi).1
      have h1 := (inR_t hi).2
      have HQ := (quV_yes h0 h1 (show 0 < (qL l fr to).length by rw [HQL.out]; omega))
      rw [HQL.out] at HQ
      have HQE := HQV.out.symm.trans HQ
      subst HQE
      clear HQ HQV
      obtain ⟨g, cap, hv8, _, _⟩ := hown8.form hmp
      have hA : A8 = some ⟨g, 0, none⟩ := by injection hv8
      subst hA
      have hq := qI_lt h0 h1 hmp
      have hbd := qI_bd h0 h1 hmp
      have hc8 := own_cellI hown8 (j := qI p m) (by rw [srt_len, vals_len]; exact HM.out) hq
      have hmm : IntKind.i64.wrap ((m : Int) - 1) = (m : Int) - 1 := IntWalk.i64_in _ (by omega)
      have hmu : IntKind.i64.wrap (p * ((m : Int) - 1)) = p * ((m : Int) - 1) := IntWalk.i64_in _ (by omega)
      have had : IntKind.i64.wrap (p * ((m : Int) - 1) + 99) = p * ((m : Int) - 1) + 99 := IntWalk.i64_in _ (by omega)
      have hdv : (p * ((m : Int) - 1) + 99).tdiv 100 = (qI p m : Int) := by
        rw [Int.tdiv_eq_ediv_of_nonneg (by omega)]
        unfold qI
        omega
      have hdw : IntKind.i64.wrap (qI p m : Int) = (qI p m : Int) := IntWalk.i64_in _ (by omega)
      clear hown8 hv8 hi
      go_wp2_with fail
      refine (inRange_q _ _ _ _).mono ?_
      rintro e wq ⟨rfl, rfl⟩
      rw [HI.out]
      go_wp2
      go_ret2
      exact ⟨rfl, kb3⟩
end Go.Proofs.Ytiajcnldfdijoaa
