/-
  Walks: spec.OldestKept, impl.TierFor, spec.TierFor, impl.TierCost, spec.TierCost.
-/
import Derived.Test.YtheckdenoomhjaaTierW3
import Derived.Test.YtheckdenoomhjaaTierFn3
namespace Go.Proofs.Ytheckdenoomhjaa
open Go.RowKit
theorem oldL_ok {l : List (Int × Int)} {now : Int} (h : okArgs l now = true) : oldL l now = oldTo l now l.length := by unfold oldL; unfold okArgs at h; rw [h]; rfl
theorem oldL_no {l : List (Int × Int)} {now : Int} (h : okArgs l now = false) : oldL l now = [] := by unfold oldL; unfold okArgs at h; rw [h]; rfl

set_option maxHeartbeats 1000000 in
theorem specOldestKept_any (A : Option Addr) (n c : Nat) (l : List (Int × Int)) (now : Int) (w : World) (hn : l.length = n) (hm : n ≤ 1000000000000) (hr : Rd2 w w.heap.size A l) :
    Calls Try.prog 27 #[.slice A n c, .int .i64 now] w (RetI w (oldL l now)) := by
  have HN := Lib.hid hn
  clear hn
  by_cases hv : vT l = true
  · by_cases ht : inR now 0 1000 = true
    · have ho : oldL l now = oldTo l now n := by unfold oldL; rw [hv, ht, HN.out]; rfl
      rw [ho]
      have HO := VT_of hv
      have HV := Lib.hid HO
      have ht' : 0 ≤ now ∧ now ≤ 1000 := by simpa [inR] using ht
      obtain ⟨t1, t2⟩ := ht'
      have hn4 : n ≤ 4 := by rw [← HN.out]; exact HO.2.1
      clear HO ho
      obtain ⟨i0, hi, hz0, hz1, hz2⟩ := info_parts Try.infoInt
      go_enter Try.func27, Try.ntmps27
      go_wp2_with fail
      refine (specValidTiers_any A n c l _ HN.out hm (hr.next (kept_alloc (Below.refl _ _) _))).mono ?_
      rintro e w1 ⟨rfl, hb1⟩
      have hb1' := kept_trans (kept_alloc (Below.refl _ _) _) hb1
      have hO : (w.alloc (Obj.cells #[] 3)).ownsRow w.heap.size 3 1 (.slice (some ⟨w.heap.size, 0, none⟩) 0 0) 0 [] := World.ownsRow_made w #[] 0 (Nat.le_refl _) (by unfold maxLen; omega) rfl
      have hO1 := own_kept hO hb1
      clear hO hb1
      rw [hv]
      go_wp2_with fail
      refine (inRange_any _ _ _ _).mono ?_
      rintro e w' ⟨rfl, rfl⟩
      rw [ht]
      go_wp2
      go_loopw [5, 6] (fun v i wr => ∃ (k : Nat) (A' : Option Addr) (c' : Nat), k ≤ n ∧ i = .int .i64 k ∧ v = .slice A' k c' ∧ wr.ownsRow w.heap.size 3 1 (.slice A' k c') k ((oldTo l now k).map (Value.int .i64)) ∧ Below w.heap.size w wr) (fun _ i _ => n - (intOf i).toNat)
      case atStart => exact ⟨0, _, _, by omega, rfl, rfl, hO1, hb1'⟩
      case round =>
        obtain ⟨k, A', c', hk, rfl, rfl, hown, hb⟩ := hrel
        clear hb1' hO1
        by_cases hlt : k < n
        · obtain ⟨b, off, rfl, hbb, hc⟩ := hr.at_ (by rw [HN.out]; omega)
          obtain ⟨hc0, hc1⟩ := hc k (by rw [HN.out]; exact hlt)
          rw [← hb.cell (by exact hbb)] at hc0 hc1
          clear hc hr
          obtain ⟨o1, o2, o3, o4⟩ := VT_pos HV.out (i := k) (by rw [HN.out]; exact hlt)
          go_wp2_with fail
          refine (oldest_any _ _ _ _ o1 o2 o3 o4 t1 t2).mono ?_
          rintro e w2 ⟨rfl, hb2⟩
          have hownW := own_kept hown hb2
          have hbW := kept_trans hb hb2
          have hwr := hbW.size
          clear hown hb hb2 hc0 hc1
          rw [show oldI (x1 l k) (x2 l k) now = oldE l now k from rfl]
          go_wp2_with (at_builtin; refine wpList_append_lies _ rfl _ _ _ rfl (w.heap.size) 3 i0 _ 1 8 Try.underlying38 hi hz0 hz1 hz2 rfl (by omega) _ (k) ((oldTo l now k).map (Value.int .i64)) rfl ((hownW).alloc _) ⟨w2.heap.size, 0, none⟩ 1 1 ([.int .i64 (oldE l now k)]) rfl rfl (World.news_of_block (cs := ([.int .i64 (oldE l now k)]).toArray) (t := 3) (fr := (0, 0)) (heap_alloc_new w2 _)) (by simp [Value.oneCell']) (by omega) (by simp only [maxLen]; omega) (by omega) (by simp; omega) (w2.heap.size + 1) (by simp) ?_; intro gg cap w2 hown2 hgrow hat hlt2)
          have hbW2 := below_app' hbW hownW hgrow
          clear hownW hbW hgrow hat
          go_wp2
          go_roundw
          case rel => exact ⟨k + 1, _, _, by omega, by go_num, rfl, by rw [oldTo_succ, List.map_append]; exact hown2, hbW2⟩
          case measure => simp [intOf]; omega
        · clear hr
          go_wp2
          go_ret
          have e : k = n := by omega
          subst e
          exact ⟨A', c', by show Ending.returned (Value.slice A' k c') = _; rw [oldTo_len], by rw [oldTo_len]; exact hown, hb⟩
    · have ht' : inR now 0 1000 = false := by simpa using ht
      have ho : oldL l now = [] := by unfold oldL; rw [ht', Bool.and_false]; rfl
      rw [ho]
      go_enter Try.func27, Try.ntmps27
      go_wp2_with fail
      refine (specValidTiers_any A n c l _ HN.out hm (hr.next (kept_alloc (Below.refl _ _) _))).mono ?_
      rintro e w1 ⟨rfl, hb1⟩
      have hb1' := kept_trans (kept_alloc (Below.refl _ _) _) hb1
      rw [hv]
      go_wp2_with fail
      refine (inRange_any _ _ _ _).mono ?_
      rintro e w' ⟨rfl, rfl⟩
      rw [ht']
      go_wp2
      go_ret
      exact ⟨none, 0, rfl, World.ownsRow_nil _ _ _ _, hb1'⟩
  · have hv' : vT l = false := by simpa using hv
    have ho : oldL l now = [] := by unfold oldL; rw [hv', Bool.false_and]; rfl
    rw [ho]
    go_enter Try.func27, Try.ntmps27
    go_wp2_with fail
    refine (specValidTiers_any A n c l _ HN.out hm (hr.next (kept_alloc (Below.refl _ _) _))).mono ?_
    rintro e w1 ⟨rfl, hb1⟩
    have hb1' := kept_trans (kept_alloc (Below.refl _ _) _) hb1
    rw [hv']
    go_wp2
    go_ret
    exact ⟨none, 0, rfl, World.ownsRow_nil _ _ _ _, hb1'⟩
end Go.Proofs.Ytheckdenoomhjaa
