/-
  Walks: slices.Sort and slices.Compact at texts of the call's own; ValuesFor of the program.
-/
import Derived.Test.YtmnfcfhnmndakaaVfFn
import Derived.Test.YtmnfcfhnmndakaaCatW2
import Derived.Test.YtmnfcfhnmndakaaLabW4
import Derived.Test.YtmnfcfhnmndakaaLabGen3
import Derived.Test.YtmnfcfhnmndakaaLabW3
import Derived.Test.YtmnfcfhnmndakaaShelf
import Derived.Sort.OwnSorted
import Derived.Deep.Onto
namespace Go.Proofs.Ytmnfcfhnmndakaa
open Go.RowKit Go.Sort
theorem rowS_map (l : List ByteArray) : rowG encS 1 l = l.map Value.string := by
  refine List.ext_getElem? fun i => ?_
  by_cases h : i < l.length
  · rw [rowG_at l (by omega), List.getElem?_map, List.getElem?_eq_getElem h]
    unfold cellsG
    rw [Nat.div_one, at0_get h]; rfl
  · rw [List.getElem?_eq_none (by rw [rowG_len]; omega), List.getElem?_eq_none (by simp; omega)]
theorem encT (l : List ByteArray) : (toT l).map encStr = l.map Value.string := by
  unfold toT; rw [List.map_map]; exact List.map_congr_left fun b _ => congrArg Value.string (byT b)
theorem encF (l : List Bs) : (ofT l).map Value.string = l.map encStr := by unfold ofT; rw [List.map_map]; rfl
theorem toT_len (l : List ByteArray) : (toT l).length = l.length := List.length_map _
theorem ofT_len (l : List Bs) : (ofT l).length = l.length := List.length_map _
theorem toT_ofT (l : List Bs) : toT (ofT l) = l := by
  unfold toT ofT
  rw [List.map_map]
  have : (ByteArray.toList ∘ fun x : Bs => (⟨x.toArray⟩ : ByteArray)) = id := by funext x; exact toBy x
  rw [this, List.map_id]
/-- slices.Sort at texts of the call's own. -/
def SortT (w : World) (B : Nat) (A : Option Addr) (n c : Nat) (l : List ByteArray) (e : Ending) (w' : World) : Prop :=
  e = .returned (.tuple #[]) ∧ w'.ownsRow B 9 1 (.slice A n c) n (rowG encS 1 (ofT (srtT (toT l)))) ∧ w.grownBy w' (Value.slice A n c).ownBlock
theorem sortTexts_any (B : Nat) (A : Option Addr) (n c : Nat) (l : List ByteArray) (w : World) (hn : l.length = n) (hm : n ≤ 1000000000) (hown : w.ownsRow B 9 1 (.slice A n c) n (rowG encS 1 l)) :
    Calls Try.prog 57 #[.slice A n c] w (SortT w B A n c l) := by
  have hlen : (srtT (toT l)).length = (toT l).length := srtT_len _
  rcases hown.2 with ⟨h1, h2⟩ | ⟨g, cap, cur, h1, hb, hblk, hnc, hcm, hs, hcur⟩
  · injection h1 with e1 e2 e3
    subst e1; subst e2; subst e3
    have hl : l = [] := List.length_eq_zero_iff.1 hn
    subst hl
    refine (slices_Sort_string_none none 0 w).mono ?_
    rintro e w' ⟨rfl, rfl⟩
    have : srtT (toT []) = [] := List.length_eq_zero_iff.1 (by rw [srtT_len]; rfl)
    exact ⟨rfl, by rw [this]; exact World.ownsRow_nil _ _ _ _, World.grownBy.refl _ _⟩
  · injection h1 with e1 e2 e3
    subst e1; subst e3
    have hn' : (toT l).length = n := by rw [toT_len]; exact hn
    subst hn'
    rw [Nat.mul_one, rowS_map, ← encT] at hcur
    have hlt : g < w.heap.size := by
      rcases Nat.lt_or_ge g w.heap.size with hlt | hge
      · exact hlt
      · rw [Array.getElem?_eq_none hge] at hblk; cases hblk
    refine (slices_Sort_string g 0 c (toT l) w (holds_of_block hblk hcur) hlt (by omega)).mono ?_
    rintro e w' ⟨rfl, q, os, rfl⟩
    refine ⟨rfl, ?_, grownBy_sorted _⟩
    rw [rowS_map, encF]
    exact ownsRow_sorted hlen hb hblk hnc hcm hs
theorem heap_put {w : World} {g n : Nat} {cur : Array Value} {e : TypeId} {fr : Nat × Nat} (d : Array (List UInt8)) (hb : w.heap[g]? = some (.cells cur e fr)) :
    (putRow encStr (Sort.ahead w n) g 0 d).heap[g]? = some (.cells (putCells encStr 0 d cur) e fr) := by
  have := heap_sorted (n := n) (os := #[]) d hb
  rwa [grow_empty] at this
theorem grownBy_put {w : World} {g n : Nat} (d : Array (List UInt8)) : w.grownBy (putRow encStr (Sort.ahead w n) g 0 d) (some g) := by
  have := grownBy_sorted (w := w) (g := g) (n := n) (os := #[]) d
  rwa [grow_empty] at this
/-- slices.Compact at texts of the call's own. -/
def CompT (w : World) (B : Nat) (A : Option Addr) (n c : Nat) (zs : List Bs) (e : Ending) (w' : World) : Prop :=
  e = .returned (.slice A (Lib.compact zs).length c) ∧ w'.ownsRow B 9 1 (.slice A (Lib.compact zs).length c) (Lib.compact zs).length (rowG encS 1 (ofT (Lib.compact zs))) ∧ w.grownBy w' (Value.slice A n c).ownBlock
theorem compact_len (zs : List Bs) : (Lib.compact zs).length ≤ zs.length := by
  unfold Lib.compact Lib.compactUpTo
  rw [List.length_map]
  exact Nat.le_trans (List.length_filter_le _ _) (by simp)
theorem compactTexts_any (B : Nat) (A : Option Addr) (n c : Nat) (zs : List Bs) (w : World) (hn : zs.length = n) (hm : n ≤ 1000000000) (hown : w.ownsRow B 9 1 (.slice A n c) n (rowG encS 1 (ofT zs))) :
    Calls Try.prog 58 #[.slice A n c] w (CompT w B A n c zs) := by
  have hle := compact_len zs
  rcases hown.2 with ⟨h1, h2⟩ | ⟨g, cap, cur, h1, hb, hblk, hnc, hcm, hs, hcur⟩
  · injection h1 with e1 e2 e3
    subst e1; subst e2; subst e3
    have hl : zs = [] := List.length_eq_zero_iff.1 hn
    subst hl
    refine (slices_Compact_string_empty none 0 w).mono ?_
    rintro e w' ⟨rfl, rfl⟩
    have : Lib.compact ([] : List Bs) = [] := List.length_eq_zero_iff.1 (by simpa using hle)
    exact ⟨by rw [this]; rfl, by rw [this]; exact World.ownsRow_nil _ _ _ _, World.grownBy.refl _ _⟩
  · injection h1 with e1 e2 e3
    subst e1; subst e3
    subst hn
    rw [Nat.mul_one, rowS_map, encF] at hcur
    have hlt : g < w.heap.size := by
      rcases Nat.lt_or_ge g w.heap.size with hlt | hge
      · exact hlt
      · rw [Array.getElem?_eq_none hge] at hblk; cases hblk
    refine (slices_Compact_string g 0 c zs w (holds_of_block hblk hcur) (by omega) hnc).mono ?_
    rintro e w' ⟨rfl, q, rfl⟩
    refine ⟨rfl, ⟨by rw [rowG_len, ofT_len, Nat.mul_one], .inr ⟨g, c, _, rfl, hb, heap_put _ hblk, by omega, hcm, by simp [putCells, hs], ?_⟩⟩, grownBy_put _⟩
    rw [Nat.mul_one, rowS_map, encF]
    have ht := take_putCells cur (Lib.compact zs ++ List.replicate (zs.length - (Lib.compact zs).length) []) (by simp; omega)
    have h2 := congrArg (List.take (Lib.compact zs).length) ht
    rw [List.take_take, Nat.min_eq_left (by simp), List.map_append, List.take_append_of_le_length (by simp)] at h2
    rw [h2, List.take_of_length_le (by simp)]
abbrev RetS (w : World) (l : List ByteArray) : Ending → World → Prop := RetG encS 1 9 w l
set_option maxHeartbeats 2000000 in
theorem valuesFor_any (A : Option Addr) (n c : Nat) (C : Ct) (s : ByteArray) (w : World) (hn : C.length = n) (hc : n ≤ c) (hr : RdC w w.heap.size A C) :
    Calls Try.prog 15 #[.slice A n c, .string s] w (RetS w (vfV C s)) := by
  have HN := Lib.hid hn
  have HR := Lib.hid hr
  clear hn
  obtain ⟨i0, hi, hz0, hz1, hz2⟩ := info_parts infoString
  rcases hv : vC C with _ | _
  · have HV := Lib.hid hv
    have HZ := Lib.hid (vfV_no (s := s) hv)
    clear hv
    go_enter Try.func15, Try.ntmps15
    go_wp2_with fail
    refine (validCatalog_any A n c C _ HN.out hc hr).mono ?_
    rintro e w1 ⟨rfl, hb1⟩
    rw [HV.out]
    clear hr
    go_wp2
    go_ret
    exact retG_nil HZ.out hb1
  · have HV := Lib.hid hv
    have HZ := Lib.hid (vfV_ok (s := s) hv)
    have hn8 : n ≤ 8 := by have := (VC_of hv).1; rw [HN.out] at this; exact this
    clear hv
    go_enter Try.func15, Try.ntmps15
    go_wp2_with fail
    refine (validCatalog_any A n c C _ HN.out hc hr).mono ?_
    rintro e w1 ⟨rfl, hb1⟩
    rw [HV.out]
    have HB1 := Lib.hid hb1
    clear hr hb1
    go_wp2
    go_loopw [5, 14] (fun v i wr => ∃ (k : Nat) (A' : Option Addr) (c' z : Nat) (pre : List ByteArray), v = .slice A' z c' ∧ i = .int .i64 k ∧ k ≤ n ∧ pre.length = z ∧ z ≤ k ∧ pre = vlsTo C s k ∧ wr.ownsRow w.heap.size 9 1 (.slice A' z c') z (rowG encS 1 pre) ∧ Below w.heap.size w wr) (fun _ i _ => n - (intOf i).toNat)
    case atStart => exact ⟨0, none, 0, 0, [], rfl, rfl, by omega, rfl, by omega, rfl, World.ownsRow_nil _ _ _ _, HB1.out⟩
    case round =>
      obtain ⟨k, A', c', z, pre, rfl, rfl, hk, hz, hzk, hpre, hown, hb⟩ := hrel
      have HZl := Lib.hid hz
      have HP := Lib.hid hpre
      clear hz hpre
      by_cases hlt : k < n
      · have hki : (k : Int) < (n : Int) := by omega
        have hlc : k < C.length := by rw [HN.out]; exact hlt
        obtain ⟨b, off, rfl, hbb, a3, m3, c3, hcl, hl3, _, hrl3⟩ := RdC.at_ (RdC.next HR.out hb) HN.out hlt
        have hvl := lvB_ok (s := s) (vC_row HV.out hlc)
        have HL3 := Lib.hid hl3
        clear hl3
        go_wp2_with fail
        refine (labelValue_any a3 m3 c3 (at0 C k) s _ HL3.out hrl3).mono ?_
        rw [hvl]
        rintro e w2 ⟨rfl, hb2⟩
        have hO2 := own_kept hown hb2
        have hb3 := kept_trans hb hb2
        have hwr := hb3.size
        clear hown hb hb2 hcl hrl3 hvl
        rcases hh : emB (valB (at0 C k) s) with _ | _
        · have HS := Lib.hid (vlsTo_in hh)
          have he : (valB (at0 C k) s).toList.isEmpty = false := hh
          clear hh
          go_wp2_with (at_builtin; refine wpList_append_lies _ rfl _ _ _ rfl (w.heap.size) 9 i0 _ 1 16 Try.underlying26 hi hz0 hz1 hz2 rfl (by omega) _ (z) (rowG encS 1 pre) rfl ((hO2).alloc _) ⟨w2.heap.size, 0, none⟩ 1 1 ([.string (valB (at0 C k) s)]) rfl rfl (World.news_of_block (cs := ([.string (valB (at0 C k) s)]).toArray) (t := 9) (fr := (0, 0)) (heap_alloc_new w2 _)) (by simp [Value.oneCell']) (by omega) (by simp only [maxLen]; omega) (by omega) (by simp; omega) (w2.heap.size + 1) (by simp) ?_; intro gg cap w2 hown2 hgrow hat hlt2)
          have hb4 := below_app' hb3 hO2 hgrow
          rw [← rowS_snoc] at hown2
          clear hgrow hat hO2 hb3
          go_wp2
          go_roundw
          case rel => exact ⟨k + 1, _, _, z + 1, _, rfl, by go_num, by omega, by rw [List.length_append, HZl.out]; rfl, by omega, by rw [HS.out, HP.out], hown2, hb4⟩
          case measure => simp [intOf]; omega
        · have HS := Lib.hid (vlsTo_em hh)
          have he : (valB (at0 C k) s).toList = [] := emB_t hh
          clear hh
          go_wp2
          go_roundw
          case rel => exact ⟨k + 1, _, _, z, pre, rfl, by go_num, by omega, HZl.out, by omega, by rw [HS.out]; exact HP.out, hO2, hb3⟩
          case measure => simp [intOf]; omega
      · have HX := Lib.hid (show vfV C s = ofT (Lib.compact (srtT (toT pre))) by rw [HZ.out, HP.out, HN.out, show n = k by omega]; rfl)
        have hzb : z ≤ 1000000000 := by omega
        have hsl : (srtT (toT pre)).length = z := by rw [srtT_len, toT_len]; exact HZl.out
        have HSL := Lib.hid hsl
        clear hsl
        go_wp2_with fail
        refine (sortTexts_any _ A' z c' pre _ HZl.out hzb hown).mono ?_
        rintro e w2 ⟨rfl, hown2, hg2⟩
        have hb2 := below_own hb hown hg2
        clear hown hb hg2
        go_wp2_with fail
        refine (compactTexts_any _ A' z c' _ _ HSL.out hzb hown2).mono ?_
        rintro e w3 ⟨rfl, hown3, hg3⟩
        have hb3 := below_own hb2 hown2 hg3
        clear hown2 hb2 hg3
        go_wp2
        go_ret
        exact ⟨A', c', by rw [HX.out, ofT_len]; rfl, by rw [HX.out, ofT_len]; exact hown3, hb3⟩
end Go.Proofs.Ytmnfcfhnmndakaa
