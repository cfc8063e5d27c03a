/-
  Walks: spec.oldest, impl.OldestKept, spec.OldestKept.
-/
import Derived.Test.YtheckdenoomhjaaTierW2
import Derived.Test.YtheckdenoomhjaaTierFn2
import Derived.Test.YtheckdenoomhjaaBase2
import Derived.Deep.RegionHeld3
namespace Go.Proofs.Ytheckdenoomhjaa
open Go.RowKit
set_option maxHeartbeats 1000000 in
theorem oldest_any (a b now : Int) (w : World) (ha : 1 ≤ a) (ha2 : a ≤ 100) (hb : 1 ≤ b) (hb2 : b ≤ 1000) (h0 : 0 ≤ now) (h1 : now ≤ 1000) :
    Calls Try.prog 36 #[.agg #[.int .i64 a, .int .i64 b], .int .i64 now] w fun e w' => e = .returned (.int .i64 (oldI a b now)) ∧ Below w.heap.size w w' := by
  by_cases h : b < now
  · have e1 := Int.emod_nonneg (now - b) (b := a) (by omega)
    have e2 := Int.emod_lt_of_pos (now - b) (b := a) (by omega)
    have e3 := Int.emod_nonneg (-((now - b) % a)) (b := a) (by omega)
    have e4 := Int.emod_lt_of_pos (-((now - b) % a)) (b := a) (by omega)
    have hfin : now - b + (-((now - b) % a)) % a = oldI a b now := by
      have e5 : (-((now - b) % a)) % a = (a - (now - b) % a) % a := by simp
      rw [e5, round_up _ _ ha]; unfold oldI; rw [show max (now - b) 0 = now - b by omega]
    have HF := Lib.hid hfin
    clear hfin
    go_enter Try.func36, Try.ntmps36
    go_wp2
    go_quiet (fail)
    go_wp2
    go_ret
    exact ⟨ret_int HF.out, kept_drewN (kept_alloc (Below.refl _ _) _) _⟩
  · have hfin : 0 = oldI a b now := by
      unfold oldI; rw [show max (now - b) 0 = 0 by omega, Int.ediv_eq_zero_of_lt (by omega) (by omega)]; omega
    have HF := Lib.hid hfin
    clear hfin
    go_enter Try.func36, Try.ntmps36
    go_wp2
    go_quiet (fail)
    go_wp2
    go_ret
    exact ⟨ret_int HF.out, kept_drewN (kept_alloc (Below.refl _ _) _) _⟩

def oldL (l : List (Int × Int)) (now : Int) : List Int := if vT l && inR now 0 1000 then oldTo l now l.length else []
set_option maxHeartbeats 1000000 in
theorem oldestKept_any (A : Option Addr) (n c : Nat) (l : List (Int × Int)) (now : Int) (w : World) (hn : l.length = n) (hm : n ≤ 1000000000000) (hr : Rd2 w w.heap.size A l) :
    Calls Try.prog 25 #[.slice A n c, .int .i64 now] w (RetI w (oldL l now)) := by
  have HN := Lib.hid hn
  clear hn
  by_cases hv : vT l = true
  · by_cases ht : inR now 0 1000 = true
    · have ho : oldL l now = oldTo l now n := by unfold oldL; rw [hv, ht, HN.out]; rfl
      rw [ho]
      have HO := VT_of hv
      have HV := Lib.hid HO
      have ht' : 0 ≤ now ∧ now ≤ 1000 := by simpa [inR] using ht
      obtain ⟨t1, t2⟩ := ht'
      have hn4 : n ≤ 4 := by rw [← HN.out]; exact HO.2.1
      have hn1 : 1 ≤ n := by rw [← HN.out]; exact HO.1
      clear HO ho
      obtain ⟨i0, hi, hz0, hz1, hz2⟩ := info_parts Try.infoInt
      have hmk := run_make_cap (P := Try.prog) 38 3 i0 _ 1 Try.underlying38 hi hz0 hz1 n (by rw [hz2]; omega) (by omega)
      go_enter Try.func25, Try.ntmps25
      go_wp2_with fail
      refine (validTiers_any A n c l _ HN.out hm hr).mono ?_
      rintro e w1 ⟨rfl, hb1⟩
      rw [hv]
      go_wp2_with fail
      refine (validTime_any _ _).mono ?_
      rintro e w' ⟨rfl, rfl⟩
      rw [ht]
      go_wp2
      go_loopw [5, 22] (fun v i wr => ∃ (k : Nat) (A' : Option Addr) (c' : Nat), k ≤ n ∧ i = .int .i64 k ∧ v = .slice A' k c' ∧ wr.ownsRow w.heap.size 3 1 (.slice A' k c') k ((oldTo l now k).map (Value.int .i64)) ∧ Below w.heap.size w wr) (fun _ i _ => n - (intOf i).toNat)
      case atStart =>
        have hO := own_made w1 3 1 n #[.int .i64 0] hb1.size (by unfold maxLen; omega)
        rw [Nat.mul_one] at hO
        exact ⟨0, _, _, by omega, rfl, rfl, hO, kept_alloc hb1 _⟩
      case round =>
        obtain ⟨k, A', c', hk, rfl, rfl, hown, hb⟩ := hrel
        clear hmk hb1
        by_cases hlt : k < n
        · obtain ⟨b, off, rfl, hbb, hc⟩ := hr.at_ (by rw [HN.out]; omega)
          obtain ⟨hc0, hc1⟩ := hc k (by rw [HN.out]; exact hlt)
          rw [← hb.cell (by exact hbb)] at hc0 hc1
          clear hc hr
          obtain ⟨o1, o2, o3, o4, _⟩ := HV.out.2.2 k (by rw [HN.out]; exact hlt)
          by_cases hf : x2 l k ≤ now
          · go_wp2
            have q0 : (wr.alloc (Obj.cells #[Value.int IntKind.i64 (x1 l k), Value.int IntKind.i64 (x2 l k)] 42)).cell? ⟨wr.heap.size, 0, none⟩ = some (.int .i64 (x1 l k)) := by simp
            have hownW := hown.alloc (Obj.cells #[Value.int IntKind.i64 (x1 l k), Value.int IntKind.i64 (x2 l k)] 42)
            have hbW := kept_alloc hb (Obj.cells #[Value.int IntKind.i64 (x1 l k), Value.int IntKind.i64 (x2 l k)] 42)
            have hne : (Value.slice A' k c').ownBlock ≠ some wr.heap.size := fun h => by have := (hown.lt _ h).2; omega
            have hlW : wr.heap.size < (wr.alloc (Obj.cells #[Value.int IntKind.i64 (x1 l k), Value.int IntKind.i64 (x2 l k)] 42)).heap.size := by simp
            have hwr := hb.size
            generalize (wr.alloc (Obj.cells #[Value.int IntKind.i64 (x1 l k), Value.int IntKind.i64 (x2 l k)] 42)) = W at *
            generalize wr.heap.size = gb at *
            obtain ⟨a1, a2, a3, a4⟩ := old_steps (now - x2 l k) (x1 l k) o1 o2 (by omega) (by omega)
            have a5 : (now - x2 l k + x1 l k - 1) / x1 l k * x1 l k = oldE l now k := by
              unfold oldE oldI; rw [show max (now - x2 l k) 0 = now - x2 l k by omega]
            have a6 := a4.trans a5
            have hz : ¬ x1 l k = 0 := by omega
            clear a5 a4
            clear hown hc0 hc1
            go_region_held3 (fun w' => w'.cell? ⟨gb, 0, none⟩ = some (.int .i64 (x1 l k)))
              (first | go_keep | (go_split_ands; (repeat' apply And.intro) <;> (rw [hgrow.cell_far _ (by simp; omega) (Ne.symm hne)]; assumption)))
              ((refine step_append_lies _ (by rfl) _ _ _ (by rfl) w.heap.size 3 i0 _ 1 8 Try.underlying38 hi hz0 hz1 hz2 rfl (by omega) _ k ((oldTo l now k).map (Value.int .i64)) (by rfl) ((hownW.alloc _).drew) ⟨W.heap.size, 0, none⟩ 1 1 ([.int .i64 (oldE l now k)]) (by rfl) (by rfl) (World.news_of_block (cs := ([.int .i64 (oldE l now k)]).toArray) (t := 3) (fr := (0, 0)) (heap_alloc_new W _)) (by simp [Value.oneCell']) (by omega) (by simp only [maxLen]; omega) (by omega) (by simp; omega) (W.heap.size + 1) (by simp) ?_; intro gg cap w2 hown2 hgrow hat hlt2))
            have hbW2 := below_app hbW hownW hgrow
            clear hownW hbW hgrow hne hat a1 a2 a3 a6 q0 hlW
            go_wp2
            go_roundw
            case rel => exact ⟨k + 1, _, _, by omega, by go_num, rfl, by rw [oldTo_succ, List.map_append]; exact hown2, hbW2⟩
            case measure => simp [intOf]; omega
          · go_wp2
            have q0 : (wr.alloc (Obj.cells #[Value.int IntKind.i64 (x1 l k), Value.int IntKind.i64 (x2 l k)] 42)).cell? ⟨wr.heap.size, 0, none⟩ = some (.int .i64 (x1 l k)) := by simp
            have hownW := hown.alloc (Obj.cells #[Value.int IntKind.i64 (x1 l k), Value.int IntKind.i64 (x2 l k)] 42)
            have hbW := kept_alloc hb (Obj.cells #[Value.int IntKind.i64 (x1 l k), Value.int IntKind.i64 (x2 l k)] 42)
            have hne : (Value.slice A' k c').ownBlock ≠ some wr.heap.size := fun h => by have := (hown.lt _ h).2; omega
            have hlW : wr.heap.size < (wr.alloc (Obj.cells #[Value.int IntKind.i64 (x1 l k), Value.int IntKind.i64 (x2 l k)] 42)).heap.size := by simp
            have hwr := hb.size
            generalize (wr.alloc (Obj.cells #[Value.int IntKind.i64 (x1 l k), Value.int IntKind.i64 (x2 l k)] 42)) = W at *
            generalize wr.heap.size = gb at *
            obtain ⟨a1, a2, a3, a4⟩ := old_steps 0 (x1 l k) o1 o2 (by omega) (by omega)
            rw [Int.zero_add] at a1 a2 a3 a4
            have a5 : (x1 l k - 1) / x1 l k * x1 l k = oldE l now k := by
              unfold oldE oldI; rw [show max (now - x2 l k) 0 = 0 by omega, Int.zero_add]
            have a6 := a4.trans a5
            have hz : ¬ x1 l k = 0 := by omega
            clear a5 a4
            clear hown hc0 hc1
            go_region_held3 (fun w' => w'.cell? ⟨gb, 0, none⟩ = some (.int .i64 (x1 l k)))
              (first | go_keep | (go_split_ands; (repeat' apply And.intro) <;> (rw [hgrow.cell_far _ (by simp; omega) (Ne.symm hne)]; assumption)))
              ((refine step_append_lies _ (by rfl) _ _ _ (by rfl) w.heap.size 3 i0 _ 1 8 Try.underlying38 hi hz0 hz1 hz2 rfl (by omega) _ k ((oldTo l now k).map (Value.int .i64)) (by rfl) ((hownW.alloc _).drew) ⟨W.heap.size, 0, none⟩ 1 1 ([.int .i64 (oldE l now k)]) (by rfl) (by rfl) (World.news_of_block (cs := ([.int .i64 (oldE l now k)]).toArray) (t := 3) (fr := (0, 0)) (heap_alloc_new W _)) (by simp [Value.oneCell']) (by omega) (by simp only [maxLen]; omega) (by omega) (by simp; omega) (W.heap.size + 1) (by simp) ?_; intro gg cap w2 hown2 hgrow hat hlt2))
            have hbW2 := below_app hbW hownW hgrow
            clear hownW hbW hgrow hne hat a1 a2 a3 a6 q0 hlW
            go_wp2
            go_roundw
            case rel => exact ⟨k + 1, _, _, by omega, by go_num, rfl, by rw [oldTo_succ, List.map_append]; exact hown2, hbW2⟩
            case measure => simp [intOf]; omega
        · clear hr
          go_wp2
          go_ret
          have e : k = n := by omega
          subst e
          exact ⟨A', c', by show Ending.returned (Value.slice A' k c') = _; rw [oldTo_len], by rw [oldTo_len]; exact hown, hb⟩
    · have ht' : inR now 0 1000 = false := by simpa using ht
      have ho : oldL l now = [] := by unfold oldL; rw [ht', Bool.and_false]; rfl
      rw [ho]
      go_enter Try.func25, Try.ntmps25
      go_wp2_with fail
      refine (validTiers_any A n c l _ HN.out hm hr).mono ?_
      rintro e w1 ⟨rfl, hb1⟩
      rw [hv]
      go_wp2_with fail
      refine (validTime_any _ _).mono ?_
      rintro e w' ⟨rfl, rfl⟩
      rw [ht']
      go_wp2
      go_ret
      exact ⟨none, 0, rfl, World.ownsRow_nil _ _ _ _, hb1⟩
  · have hv' : vT l = false := by simpa using hv
    have ho : oldL l now = [] := by unfold oldL; rw [hv', Bool.false_and]; rfl
    rw [ho]
    go_enter Try.func25, Try.ntmps25
    go_wp2_with fail
    refine (validTiers_any A n c l _ HN.out hm hr).mono ?_
    rintro e w1 ⟨rfl, hb1⟩
    rw [hv']
    go_wp2
    go_ret
    exact ⟨none, 0, rfl, World.ownsRow_nil _ _ _ _, hb1⟩
end Go.Proofs.Ytheckdenoomhjaa
