/-
  The generators of series: anySeries, counter.
-/
import Derived.Test.YtiajcnldfdijoaaPtGen
namespace Go.Proofs.Ytiajcnldfdijoaa
open Go.RowKit
def lenOf (v : Value) : Nat := match v with | .slice _ n _ => n | _ => 0
theorem lenOf_slice (A : Option Addr) (n c : Nat) : lenOf (.slice A n c) = n := rfl
def AnyPost (w : World) (g : Nat) (p : Int) (e : Ending) (w' : World) : Prop := ∃ (A : Option Addr) (c m : Nat) (l : List (Int × Int)) (p' : Int), e = .returned (.slice A m c) ∧ l.length = m ∧ m ≤ 17 ∧ m ≤ c ∧ w'.ownsRow w.heap.size 30 2 (.slice A m c) m (cellsL l) ∧ Rdr w' g p' ∧ p' ≤ p + 300 ∧ Only g w w'
set_option maxHeartbeats 4000000 in
theorem anySeries_any (g : Nat) (p : Int) (w : World) (hp : p ≤ 1000000000) (hr : Rdr w g p) :
    Calls Try.prog 47 #[.pointer (some ⟨g, 0, none⟩)] w (AnyPost w g p) := by
  have hg := hr.lt
  obtain ⟨i0, hi, hz0, hz1, hz2⟩ := info_parts infoPoint
  go_enter Try.func47, Try.ntmps47
  go_wp2_with fail
  refine (someSeries_any g p _ hp hr).mono ?_
  rintro e w1 ⟨A1, c1, m, l, p1, rfl, hl, hm, hcap, hO1, hr1, hp1, ho1⟩
  have HL := Lib.hid hl
  clear hl hr
  go_wp2_with fail
  refine (pick_any g p1 24 _ (by omega) hr1).mono ?_
  rintro e w2 ⟨x, rfl, x0, x1', _, hr2, ho2⟩
  have hO2 := Only.own hO1 ho2 hg
  have hs2 := ho1.trans ho2
  clear hO1 hr1 ho1 ho2 x1'
  by_cases hx : x = 0
  · have hxz : (x == 0) = true := by simp [hx]
    clear hx
    go_wp2_with fail
    refine (one_lit g (p1 + 1) [0, 1000, 1001, -1] 4 _ _ _ rfl rfl (by omega) (by omega) (by simp) (by omega) hr2).mono ?_
    rintro e w3 ⟨a, rfl, _, hr3, ho3⟩
    have hO3 := Only.own hO2 ho3 hg
    have hs3 := hs2.trans ho3
    clear hO2 hr2 hs2 ho3
    go_wp2_with fail
    refine (one_lit g (p1 + 1 + 1) [0, 1001, -1001] 3 _ _ _ rfl rfl (by omega) (by omega) (by simp) (by omega) hr3).mono ?_
    rintro e w4 ⟨b, rfl, _, hr4, ho4⟩
    have hO4 := Only.own hO3 ho4 hg
    have hs4 := hs3.trans ho4
    have hwr := hs4.size
    clear hO3 hr3 hs3 ho4
    go_wp2_with (at_builtin; refine wpList_append_lies _ rfl _ _ _ rfl (w.heap.size) 30 i0 _ 2 16 Try.underlying23 hi hz0 hz1 hz2 rfl (by omega) _ (m) (cellsL l) rfl ((hO4).alloc _) ⟨w4.heap.size, 0, none⟩ 1 1 ([.int .i64 a, .int .i64 b]) rfl rfl (World.news_of_block (cs := ([.int .i64 a, .int .i64 b]).toArray) (t := 30) (fr := (0, 0)) (heap_alloc_new w4 _)) (by simp [Value.oneCell']) (by omega) (by simp only [maxLen]; omega) (by omega) (by simp; omega) (w4.heap.size + 1) (by simp) ?_; intro gg cap w2 hown2 hgrow hat hlt2)
    have hrW := rdr_app hr4 hO4 hg hgrow
    have hoW := only_app hs4 hO4 hgrow
    rw [← cellsL_snoc] at hown2
    have hcap2 := own_cap hown2
    clear hO4 hgrow hat hr4 hs4 hwr
    go_wp2
    go_ret
    exact ⟨_, _, m + 1, _, _, rfl, by rw [List.length_append, HL.out]; rfl, by omega, hcap2, hown2, hrW, by omega, hoW⟩
  · have hxz : (x == 0) = false := by simp [hx]
    clear hx
    by_cases hx1 : x = 1
    · have hxo : (x == 1) = true := by simp [hx1]
      clear hx1
      go_wp2
      go_loopw [3] (fun v wr => ∃ (A' : Option Addr) (c' m' : Nat) (l' : List (Int × Int)), v = .slice A' m' c' ∧ l'.length = m' ∧ m' ≤ 17 ∧
          wr.ownsRow w.heap.size 30 2 (.slice A' m' c') m' (cellsL l') ∧ Rdr wr g (p1 + 1) ∧ Only g w wr) (fun v _ => 17 - lenOf v)
      case atStart => exact ⟨_, _, m, l, rfl, HL.out, by omega, hO2, hr2, hs2⟩
      case round =>
        obtain ⟨A', c', m', l', rfl, hlm, hm17, hown, hrr, hon⟩ := hrel
        clear hO2 hr2 hs2
        have HL2 := Lib.hid hlm
        clear hlm
        have hwr := hon.size
        by_cases hlt : m' < 17
        · have hlt1 : decide ((m' : Int) < 17) = true := decide_eq_true (by omega)
          have hlt2 : ((m' : Int) < 17) := by omega
          have hsm : IntKind.i64.wrap (500 + (m' : Int)) = 500 + (m' : Int) := IntWalk.i64_in _ (by omega)
          have hm100 : m' ≤ 100 := by omega
          have HLT := Lib.hid hlt
          clear hlt hm17
          go_wp2_with (at_builtin; refine wpList_append_lies _ rfl _ _ _ rfl (w.heap.size) 30 i0 _ 2 16 Try.underlying23 hi hz0 hz1 hz2 rfl (by omega) _ (m') (cellsL l') rfl ((hown).alloc _) ⟨wr.heap.size, 0, none⟩ 1 1 ([.int .i64 (500 + (m' : Int)), .int .i64 0]) rfl rfl (World.news_of_block (cs := ([.int .i64 (500 + (m' : Int)), .int .i64 0]).toArray) (t := 30) (fr := (0, 0)) (heap_alloc_new wr _)) (by simp [Value.oneCell']) (by omega) (by simp only [maxLen]; omega) (by omega) (by simp; omega) (wr.heap.size + 1) (by simp) ?_; intro gg cap w2 hown2 hgrow hat hlt2)
          have hrW := rdr_app hrr hown hg hgrow
          have hoW := only_app hon hown hgrow
          rw [← cellsL_snoc] at hown2
          clear hown hgrow hat hrr hon
          go_wp2
          go_roundw
          case rel => exact ⟨_, _, m' + 1, _, rfl, by rw [List.length_append, HL2.out]; rfl, HLT.out, hown2, hrW, hoW⟩
          case measure => have := HLT.out; simp [lenOf_slice]; omega
        · have hcap2 := own_cap hown
          have hlt1 : decide ((m' : Int) < 17) = false := decide_eq_false (by omega)
          have hlt2 : ¬ ((m' : Int) < 17) := by omega
          have HM17 := Lib.hid hm17
          clear hlt hm17
          go_wp2
          go_ret
          exact ⟨_, _, m', _, _, rfl, HL2.out, HM17.out, hcap2, hown, hrr, by omega, hon⟩
    · have hxo : (x == 1) = false := by simp [hx1]
      clear hx1
      go_wp2
      go_ret
      exact ⟨_, _, m, _, _, rfl, HL.out, by omega, hcap, hO2, hr2, by omega, hs2⟩

theorem cellsL_set2 (l : List (Int × Int)) (b : Int) (i : Nat) (hi : i < l.length) : (cellsL l).set (i * 2 + 1) (.int .i64 b) = cellsL (l.set i (x1 l i, b)) := by
  rw [← cellsL_set l (x1 l i) b i hi]
  congr 1
  refine List.ext_getElem? fun j => ?_
  rw [List.getElem?_set]
  split
  · rename_i h
    subst h
    rw [if_pos (by rw [cellsL_len]; omega), cellsL_at _ (by omega), cells2_a]
  · rfl

end Go.Proofs.Ytiajcnldfdijoaa
