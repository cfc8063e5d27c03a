/-
  Walks: copyPoints, RangeOf of both packages, part.
-/
import Derived.Test.YtiajcnldfdijoaaBase3
import Derived.Deep.Onto
import Derived.Test.YtiajcnldfdijoaaPtFn2
import Derived.Test.YtiajcnldfdijoaaPtW3
import Derived.Test.YtiajcnldfdijoaaPointCopy
namespace Go.Proofs.Ytiajcnldfdijoaa
open Go.RowKit
set_option maxHeartbeats 1000000 in
theorem copyPoints_any (A : Option Addr) (n c : Nat) (l : List (Int × Int)) (w : World) (hn : l.length = n) (hm : n ≤ 1000000000) (hr : Rd2 w w.heap.size A l) :
    Calls Try.prog 39 #[.slice A n c] w (RetP 30 w l) := by
  obtain ⟨i0, hi, hz0, hz1, hz2⟩ := info_parts infoPoint
  have HN := Lib.hid hn
  have hr' : Rd w w.heap.size A (n * 2) (cells2 l) := by rw [← hn]; exact hr
  have HR := Lib.hid hr'
  clear hn hr hr'
  go_enter Try.func39, Try.ntmps39
  go_wp2_with (at_builtin; refine wpList_append_rd _ rfl _ _ _ rfl w.heap.size 30 i0 _ 2 16 Try.underlying23 hi hz0 hz1 hz2 rfl (by omega) (.slice none 0 0) 0 [] rfl (World.ownsRow_nil _ _ _ _) w.heap.size _ n _ (cells2 l) rfl HR.out (one_cells2 l) (by simp only [maxLen]; omega) (by omega) (Nat.le_refl _) ?_; intro A2 c2 w2 hown2 hgrow)
  have hb := Below.grown (Below.refl w.heap.size w) hgrow (Nat.le_refl _) (fun k hk => by simp [Value.ownBlock] at hk)
  rw [List.nil_append, Nat.zero_add] at hown2
  clear hgrow
  go_wp2
  go_ret
  refine ⟨A2, c2, ?_, ?_, hb⟩
  · rw [HN.out]; rfl
  · unfold cellsL; rw [HN.out]; exact hown2

theorem addr_add (b off k : Nat) : (⟨b, off, none⟩ : Addr).add k = ⟨b, off + k, none⟩ := by
  unfold Addr.add
  split
  · rename_i hz; rw [hz]; simp
  · rfl
theorem Rd2.empty {w : World} {B : Nat} (A : Option Addr) (l : List (Int × Int)) (h : l.length = 0) : Rd2 w B A l := fun h0 => absurd h0 (by omega)
theorem Rd2.slice {w : World} {B : Nat} {A : Option Addr} {l : List (Int × Int)} (h : Rd2 w B A l) (i j : Nat) (hij : i ≤ j) (hj : j ≤ l.length) :
    Rd2 w B (Option.map (fun x => x.add (i * 2)) A) ((l.take j).drop i) := by
  intro hm
  have h0 : 0 < l.length := by rw [List.length_drop, List.length_take] at hm; omega
  obtain ⟨b, off, rfl, _, _⟩ := h.at_ h0
  have := h.mid i j hij hj
  rw [Option.map_some, addr_add]
  exact this hm
set_option maxHeartbeats 1000000 in
theorem rangeOf_any (A : Option Addr) (n c : Nat) (l : List (Int × Int)) (fr to : Int) (w : World) (hn : l.length = n) (hm : n ≤ 1000000000000) (hc : n ≤ c) (hr : Rd2 w w.heap.size A l) :
    Calls Try.prog 11 #[.slice A n c, .int .i64 fr, .int .i64 to] w (RetP 30 w (rngL l fr to)) := by
  by_cases ho : okS l fr to = true
  · by_cases hft : fr < to
    · have HN := Lib.hid hn
      have HO := Lib.hid ho
      have hV := VS_of (okS_t ho).1
      have hR := okR_t (okS_t ho).2
      have hn16 : n ≤ 16 := by rw [← hn]; exact hV.1
      have HV := Lib.hid hV
      rw [rngL_ok ho]
      clear hn ho hR hV
      go_enter Try.func11, Try.ntmps11
      go_wp2_with fail
      refine (validRange_any A n c l fr to _ HN.out hm hr).mono ?_
      rintro e w1 ⟨rfl, hb1⟩
      rw [HO.out]
      have hr1 := hr.next hb1
      clear hr
      go_wp2_with fail
      refine (placeOf_any A n c l fr _ HN.out HV.out hr1).mono ?_
      rintro e w2 ⟨i, rfl, hi, i1, i2, hb2⟩
      have hb3 := kept_trans hb1 hb2
      have hr3 := hr1.next hb2
      have I1 := Lib.hid i1
      have I2 := Lib.hid i2
      clear hr1 hb1 hb2 i1 i2
      go_wp2_with fail
      refine (placeOf_any A n c l to _ HN.out HV.out hr3).mono ?_
      rintro e w4 ⟨j, rfl, hj, j1, j2, hb4⟩
      have hb5 := kept_trans hb3 hb4
      have hr5 := hr3.next hb4
      have hij : i ≤ j := by
        rcases Nat.lt_or_ge j i with h | h
        · have := I1.out j h
          have := j2 j (Nat.le_refl _) (by omega)
          omega
        · exact h
      have HP := Lib.hid (part_eq hij hj I1.out I2.out j1 j2)
      have hjn : j ≤ n := by rw [← HN.out]; exact hj
      clear hr3 hb3 hb4 j1 j2 hi
      go_wp2_with fail
      · have hji : j - i = 0 := by omega
        refine (copyPoints_any A (j - i) _ ((l.take j).drop i) _ (by rw [List.length_drop, List.length_take, HN.out, Nat.min_eq_left hjn]) (by omega) (Rd2.empty _ _ (by rw [List.length_drop, List.length_take, HN.out, Nat.min_eq_left hjn]; exact hji))).mono ?_
        rintro e w6 ⟨A6, c6, rfl, hown6, hb6⟩
        have hb7 := kept_trans hb5 hb6
        rw [← HP.out] at hown6 ⊢
        have hown7 := hown6.mono hb5.size
        clear hown6 hb5 hb6
        go_wp2
        go_ret
        exact ⟨A6, c6, rfl, hown7, hb7⟩
      · refine (copyPoints_any _ (j - i) _ ((l.take j).drop i) _ (by rw [List.length_drop, List.length_take, HN.out, Nat.min_eq_left hjn]) (by omega) (hr5.slice i j hij hj)).mono ?_
        rintro e w6 ⟨A6, c6, rfl, hown6, hb6⟩
        have hb7 := kept_trans hb5 hb6
        rw [← HP.out] at hown6 ⊢
        have hown7 := hown6.mono hb5.size
        clear hown6 hb5 hb6
        go_wp2
        go_ret
        exact ⟨A6, c6, rfl, hown7, hb7⟩
    · rw [show rngL l fr to = [] by rw [rngL_ok ho]; exact part_none (by omega)]
      go_enter Try.func11, Try.ntmps11
      go_wp2_with fail
      refine (validRange_any A n c l fr to _ hn hm hr).mono ?_
      rintro e w1 ⟨rfl, hb1⟩
      rw [ho]
      go_wp2
      go_ret
      exact ⟨none, 0, rfl, World.ownsRow_nil _ _ _ _, hb1⟩
  · have ho' : okS l fr to = false := by simpa using ho
    rw [rngL_no ho']
    go_enter Try.func11, Try.ntmps11
    go_wp2_with fail
    refine (validRange_any A n c l fr to _ hn hm hr).mono ?_
    rintro e w1 ⟨rfl, hb1⟩
    rw [ho']
    go_wp2
    go_ret
    exact ⟨none, 0, rfl, World.ownsRow_nil _ _ _ _, hb1⟩
end Go.Proofs.Ytiajcnldfdijoaa
