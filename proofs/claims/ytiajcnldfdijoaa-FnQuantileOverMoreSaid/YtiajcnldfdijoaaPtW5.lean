/-
  Walks: part, RangeOf of spec.
-/
import Derived.Test.YtiajcnldfdijoaaPtW4
namespace Go.Proofs.Ytiajcnldfdijoaa
open Go.RowKit
set_option maxHeartbeats 1000000 in
theorem part_any (A : Option Addr) (n c : Nat) (l : List (Int × Int)) (fr to : Int) (w : World) (hn : l.length = n) (hm : n ≤ 16) (hr : Rd2 w w.heap.size A l) (h1 : -2000 ≤ to) (h2 : to ≤ 2000) :
    Calls Try.prog 54 #[.slice A n c, .int .i64 fr, .int .i64 to] w (RetP 30 w (part l fr to)) := by
  obtain ⟨i0, hi, hz0, hz1, hz2⟩ := info_parts infoPoint
  have HN := Lib.hid hn
  clear hn
  have hto : IntKind.i64.wrap (to - 1) = to - 1 := IntWalk.i64_in _ (by omega)
  go_enter Try.func54, Try.ntmps54
  go_wp2
  go_loopw [7, 8] (fun v i wr => ∃ (k m : Nat) (A' : Option Addr) (c' : Nat), k ≤ n ∧ m ≤ k ∧ (part (l.take k) fr to).length = m ∧ i = .int .i64 k ∧ v = .slice A' m c' ∧ wr.ownsRow w.heap.size 30 2 (.slice A' m c') m (cellsL (part (l.take k) fr to)) ∧ Below w.heap.size w wr) (fun _ i _ => n - (intOf i).toNat)
  case atStart =>
    exact ⟨0, 0, _, _, by omega, by omega, rfl, rfl, rfl, World.ownsRow_made w #[] 0 (Nat.le_refl _) (by unfold maxLen; omega) rfl, kept_alloc (Below.refl _ _) _⟩
  case round =>
    obtain ⟨k, m, A', c', hk, hmk, hL, rfl, rfl, hown, hb⟩ := hrel
    have HL := Lib.hid hL
    clear hL
    by_cases hlt : k < n
    · have hlt' : k < l.length := by rw [HN.out]; exact hlt
      obtain ⟨b, off, rfl, hbb, hc⟩ := hr.at_ (by omega)
      obtain ⟨hc0, hc1⟩ := hc k hlt'
      rw [← hb.cell (by exact hbb)] at hc0 hc1
      clear hc hr
      have HS := Lib.hid (part_take_succ (fr := fr) (to := to) hlt')
      clear hlt'
      go_wp2_with fail
      refine (inRange_any _ _ _ _).mono ?_
      rintro e w' ⟨rfl, rfl⟩
      by_cases hp : inR (x1 l k) fr (to - 1) = true
      · rw [hp]
        have hS2 := HS.out
        rw [if_pos hp] at hS2
        have HS2 := Lib.hid hS2
        clear hS2 HS
        have hwr := hb.size
        go_wp2_with (at_builtin; refine wpList_append_lies _ rfl _ _ _ rfl (w.heap.size) 30 i0 _ 2 16 Try.underlying23 hi hz0 hz1 hz2 rfl (by omega) _ (m) (cellsL (part (l.take k) fr to)) rfl ((hown).alloc _) ⟨wr.heap.size, 0, none⟩ 1 1 ([.int .i64 (x1 l k), .int .i64 (x2 l k)]) rfl rfl (World.news_of_block (cs := ([.int .i64 (x1 l k), .int .i64 (x2 l k)]).toArray) (t := 30) (fr := (0, 0)) (heap_alloc_new wr _)) (by simp [Value.oneCell']) (by omega) (by simp only [maxLen]; omega) (by omega) (by simp; omega) (wr.heap.size + 1) (by simp) ?_; intro gg cap w2 hown2 hgrow hat hlt2)
        have hbW2 := below_app' hb hown hgrow
        clear hb hgrow hat
        go_wp2
        go_roundw
        case rel => exact ⟨k + 1, m + 1, _, _, by omega, by omega, by rw [HS2.out, List.length_append, HL.out]; rfl, by go_num, rfl, by rw [HS2.out, cellsL_snoc]; exact hown2, hbW2⟩
        case measure => simp [intOf]; omega
      · have hp' : inR (x1 l k) fr (to - 1) = false := by simpa using hp
        rw [hp']
        have hS2 := HS.out
        rw [if_neg hp, List.append_nil] at hS2
        have HS2 := Lib.hid hS2
        clear hS2 HS
        go_wp2
        go_roundw
        case rel => exact ⟨k + 1, m, _, _, by omega, by omega, by rw [HS2.out, HL.out], by go_num, rfl, by rw [HS2.out]; exact hown, hb⟩
        case measure => simp [intOf]; omega
    · clear hr
      go_wp2
      go_ret
      have e : l.take k = l := List.take_of_length_le (by rw [HN.out]; omega)
      rw [e] at hown HL
      refine ⟨A', c', ?_, ?_, hb⟩
      · rw [HL.out]; rfl
      · rw [HL.out]; exact hown

set_option maxHeartbeats 1000000 in
theorem specRangeOf_any (A : Option Addr) (n c : Nat) (l : List (Int × Int)) (fr to : Int) (w : World) (hn : l.length = n) (hm : n ≤ 1000000000000) (hr : Rd2 w w.heap.size A l) :
    Calls Try.prog 36 #[.slice A n c, .int .i64 fr, .int .i64 to] w (RetP 30 w (rngL l fr to)) := by
  have HN := Lib.hid hn
  by_cases hv : vS l = true
  · by_cases ht : okR fr to = true
    · have ho : okS l fr to = true := by unfold okS; rw [hv, ht]; rfl
      have hn16 : n ≤ 16 := by rw [← hn]; exact (VS_of hv).1
      have h2 := okR_t ht
      rw [rngL_ok ho]
      clear hn ho
      go_enter Try.func36, Try.ntmps36
      go_wp2_with fail
      refine (specValidSeries_any A n c l _ HN.out hm hr).mono ?_
      rintro e w1 ⟨rfl, hb1⟩
      rw [hv]
      go_wp2_with fail
      refine (specValidRange_any _ _ _).mono ?_
      rintro e w' ⟨rfl, rfl⟩
      rw [ht]
      have hb := hb1
      clear hb1
      go_wp2_with fail
      refine (part_any A n c l fr to _ HN.out hn16 (hr.next hb) (by omega) (by omega)).mono ?_
      rintro e w3 ⟨A6, c6, rfl, hown6, hb6⟩
      have hb7 := kept_trans hb hb6
      have hown7 := hown6.mono hb.size
      clear hown6 hb hb6
      go_wp2
      go_ret
      exact ⟨A6, c6, rfl, hown7, hb7⟩
    · have ht' : okR fr to = false := by simpa using ht
      rw [rngL_no (by unfold okS; rw [ht', Bool.and_false])]
      go_enter Try.func36, Try.ntmps36
      go_wp2_with fail
      refine (specValidSeries_any A n c l _ HN.out hm hr).mono ?_
      rintro e w1 ⟨rfl, hb1⟩
      rw [hv]
      go_wp2_with fail
      refine (specValidRange_any _ _ _).mono ?_
      rintro e w' ⟨rfl, rfl⟩
      rw [ht']
      have hb := hb1
      go_wp2
      go_ret
      exact ⟨none, 0, rfl, World.ownsRow_nil _ _ _ _, hb⟩
  · have hv' : vS l = false := by simpa using hv
    rw [rngL_no (by unfold okS; rw [hv', Bool.false_and])]
    go_enter Try.func36, Try.ntmps36
    go_wp2_with fail
    refine (specValidSeries_any A n c l _ HN.out hm hr).mono ?_
    rintro e w1 ⟨rfl, hb1⟩
    rw [hv']
    go_wp2
    go_ret
    exact ⟨none, 0, rfl, World.ownsRow_nil _ _ _ _, hb1⟩
end Go.Proofs.Ytiajcnldfdijoaa
