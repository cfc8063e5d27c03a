/-
  Walks: strings.Compare, cmp.Or, slices.CompareFunc at labels, CompareLabels of the program.
-/
import Derived.Test.YtnnbfdlicadgfaaCmpFn
import Derived.Test.YtnnbfdlicadgfaaLabCopy
import Derived.Deep.RegionHeld3
import Derived.Lib.Bytealg
namespace Go.Proofs.Ytnnbfdlicadgfaa
open Go.RowKit
set_option maxRecDepth 100000 in
set_option maxHeartbeats 1000000 in
theorem compareString_any (a b : ByteArray) (w : World) : Calls Try.prog 75 #[.string a, .string b] w fun e w' => e = .returned (.int .i64 (cmpT a b)) ∧ w' = w := by
  rw [← cmpT_bl]
  go_enter Try.func75, Try.ntmps75
  go_wp2
  rw [run_callFunc_extern Try.func83 (by kernel_rfl) (by kernel_rfl) (by kernel_rfl) (e := Extern.BytealgCompare.compare) (by kernel_rfl), Lib.run_compareString]
  simp only [Result.andThen]
  rw [Oper.upon_value]
  go_wp2
  go_ret
  exact ⟨rfl, rfl⟩
theorem stringsCompare_any (a b : ByteArray) (w : World) : Calls Try.prog 57 #[.string a, .string b] w fun e w' => e = .returned (.int .i64 (cmpT a b)) ∧ w' = w := by
  go_enter Try.func57, Try.ntmps57
  go_wp2_with fail
  refine (compareString_any a b _).mono ?_
  rintro e w' ⟨rfl, rfl⟩
  go_wp2
  go_ret
  exact ⟨rfl, rfl⟩
def orI (a b : Int) : Int := if a = 0 then b else a
set_option maxHeartbeats 1000000 in
theorem or_any (q : Nat) (a b : Int) (w : World) (hc0 : w.cell? ⟨q, 0, none⟩ = some (.int .i64 a)) (hc1 : w.cell? ⟨q, 1, none⟩ = some (.int .i64 b)) :
    Calls Try.prog 56 #[.slice (some ⟨q, 0, none⟩) 2 2] w fun e w' => e = .returned (.int .i64 (orI a b)) ∧ w = w' := by
  go_enter Try.func56, Try.ntmps56
  go_wp2
  go_loop [8] (fun i => ∃ k : Nat, k ≤ 2 ∧ i = .int .i64 k ∧ (1 ≤ k → a = 0) ∧ (2 ≤ k → b = 0)) (fun i => 2 - (intOf i).toNat)
  case atStart => exact ⟨0, by omega, rfl, fun h => absurd h (by omega), fun h => absurd h (by omega)⟩
  case round =>
    obtain ⟨k, hk, rfl, ha, hb⟩ := hrel
    have HA := Lib.hid (And.intro ha hb)
    clear ha hb
    by_cases hk0 : k = 0
    · subst hk0
      by_cases h : a = 0
      · have hz : (a != 0) = false := by simp [h]
        have HZ := Lib.hid h
        clear h
        go_wp2
        go_round
        case rel => exact ⟨1, by omega, rfl, fun _ => HZ.out, fun h => absurd h (by omega)⟩
        case measure => simp [intOf]
      · have hz : (a != 0) = true := by simp [h]
        have HZ := Lib.hid (show orI a b = a from if_neg h)
        clear h
        go_wp2
        go_ret
        exact ⟨ret_int HZ.out.symm, rfl⟩
    · by_cases hk1 : k = 1
      · subst hk1
        have HZ := Lib.hid (show orI a b = b from if_pos (HA.out.1 (by omega)))
        by_cases h : b = 0
        · have hz : (b != 0) = false := by simp [h]
          have HY := Lib.hid h
          clear h
          go_wp2
          go_round
          case rel => exact ⟨2, by omega, rfl, fun _ => HA.out.1 (by omega), fun _ => HY.out⟩
          case measure => simp [intOf]
        · have hz : (b != 0) = true := by simp [h]
          clear h
          go_wp2
          go_ret
          exact ⟨ret_int HZ.out.symm, rfl⟩
      · have hk2 : k = 2 := by omega
        subst hk2
        have HZ := Lib.hid (show orI a b = 0 by unfold orI; rw [if_pos (HA.out.1 (by omega)), HA.out.2 (by omega)])
        clear hc0 hc1
        go_wp2
        go_ret
        exact ⟨ret_int HZ.out.symm, rfl⟩
theorem or_lit (a b : Int) (W : World) (q : Nat) (hq : W.heap.size = q) : Calls Try.prog 56 #[.slice (some ⟨q, 0, none⟩) 2 2] (W.alloc (.cells #[.int .i64 a, .int .i64 b] 3)).drew fun e w' => e = .returned (.int .i64 (orI a b)) ∧ w' = (W.alloc (.cells #[.int .i64 a, .int .i64 b] 3)).drew := by
  subst hq
  exact (or_any _ a b _ (by simp) (by simp)).mono fun _ _ ⟨h1, h2⟩ => ⟨h1, h2.symm⟩
theorem orI_cmp (x y : Lb) : orI (cmpT x.1 y.1) (cmpT x.2 y.2) = cmpX x y := rfl
set_option maxHeartbeats 2000000 in
theorem cmpCl_any (a b c d : ByteArray) (w : World) :
    Calls Try.prog 55 #[.agg #[.string a, .string b], .agg #[.string c, .string d]] w fun e w' => e = .returned (.int .i64 (cmpX (a, b) (c, d))) ∧ Below w.heap.size w w' := by
  have q0 : ((w.alloc (Obj.cells #[Value.string a, .string b] 35)).alloc (Obj.cells #[Value.string c, .string d] 35)).cell? ⟨w.heap.size, 0, none⟩ = some (.string a) := by simp
  have q1 : ((w.alloc (Obj.cells #[Value.string a, .string b] 35)).alloc (Obj.cells #[Value.string c, .string d] 35)).cell? ⟨w.heap.size, 1, none⟩ = some (.string b) := by simp
  have q2 : ((w.alloc (Obj.cells #[Value.string a, .string b] 35)).alloc (Obj.cells #[Value.string c, .string d] 35)).cell? ⟨w.heap.size + 1, 0, none⟩ = some (.string c) := by simp
  have q3 : ((w.alloc (Obj.cells #[Value.string a, .string b] 35)).alloc (Obj.cells #[Value.string c, .string d] 35)).cell? ⟨w.heap.size + 1, 1, none⟩ = some (.string d) := by simp
  have hbW := kept_alloc (kept_alloc (Below.refl w.heap.size w) (Obj.cells #[Value.string a, .string b] 35)) (Obj.cells #[Value.string c, .string d] 35)
  have hlt : w.heap.size + 1 < ((w.alloc (Obj.cells #[Value.string a, .string b] 35)).alloc (Obj.cells #[Value.string c, .string d] 35)).heap.size := by simp
  go_enter Try.func55, Try.ntmps55
  go_wp2_with fail
  generalize (w.alloc (Obj.cells #[Value.string a, .string b] 35)).alloc (Obj.cells #[Value.string c, .string d] 35) = W at *
  have n1 : ¬ w.heap.size = W.heap.size := by omega
  have n2 : ¬ w.heap.size + 1 = W.heap.size := by omega
  go_region_held3 (fun w' => w'.cell? ⟨w.heap.size, 0, none⟩ = some (.string a) ∧ w'.cell? ⟨w.heap.size, 1, none⟩ = some (.string b) ∧ w'.cell? ⟨w.heap.size + 1, 0, none⟩ = some (.string c) ∧ w'.cell? ⟨w.heap.size + 1, 1, none⟩ = some (.string d))
    (first | go_keep)
    (first
    | (go_at_call 57; refine (stringsCompare_any _ _ _).mono ?_; rintro e w' ⟨rfl, rfl⟩)
    | (go_at_call 56; refine (or_lit _ _ _ _ rfl).mono ?_; rintro e w' ⟨rfl, rfl⟩))
  all_goals
    go_wp2
    go_ret
    exact ⟨rfl, (kept_alloc hbW _).drew⟩
end Go.Proofs.Ytnnbfdlicadgfaa
