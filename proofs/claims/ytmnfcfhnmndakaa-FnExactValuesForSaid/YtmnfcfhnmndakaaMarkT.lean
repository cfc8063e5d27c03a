/-
  Walks: markText, markLabelS, heldLabelS of the laws.
-/
import Derived.Test.YtmnfcfhnmndakaaLabCopy
import Derived.Test.YtmnfcfhnmndakaaReader
import Derived.Laws.BytesArg
namespace Go.Proofs.Ytmnfcfhnmndakaa
open Go.RowKit
/-- The digits ahead of a text. -/
def mtT : Nat → Int → ByteArray → ByteArray
  | 0, _, s => s
  | f + 1, k, s => if 0 < k then mtT f (k / 10) (strOfNums [48 + k % 10] ++ s) else s
theorem mtT_end {f : Nat} {k : Int} {s : ByteArray} (h : ¬ 0 < k) : mtT f k s = s := by
  cases f with
  | zero => rfl
  | succ f => show (if 0 < k then _ else s) = s; rw [if_neg h]
theorem mtT_step {f : Nat} {k : Int} {s : ByteArray} (h : 0 < k) : mtT (f + 1) k s = mtT f (k / 10) (strOfNums [48 + k % 10] ++ s) := by
  show (if 0 < k then _ else s) = _; rw [if_pos h]
def mtS (k : Int) : ByteArray := if k ≤ 0 then ⟨#[109, 48]⟩ else (⟨#[109]⟩ : ByteArray) ++ mtT 16 k ⟨#[]⟩
set_option maxHeartbeats 2000000 in
theorem markText_any (k : Int) (w : World) (h0 : 0 ≤ k) (h1 : k ≤ 1000000000000000) :
    Calls Try.prog 64 #[.int .i64 k] w fun e w' => e = .returned (.string (mtS k)) ∧ Below w.heap.size w w' := by
  by_cases hz : k ≤ 0
  · have HZ := Lib.hid (show mtS k = ⟨#[109, 48]⟩ from if_pos hz)
    go_enter Try.func64, Try.ntmps64
    go_wp2
    go_ret
    exact ⟨by rw [HZ.out]; rfl, Below.refl _ _⟩
  · have HZ := Lib.hid (show mtS k = (⟨#[109]⟩ : ByteArray) ++ mtT 16 k ⟨#[]⟩ from if_neg hz)
    go_enter Try.func64, Try.ntmps64
    go_wp2
    go_loopw [0, 3] (fun q v wr => ∃ (f : Nat) (x : Int) (s : ByteArray), q = .int .i64 x ∧ v = .string s ∧ 0 ≤ x ∧ x < 10 ^ f ∧ x ≤ 1000000000000000 ∧ s.size + f ≤ 16 ∧ mtT 16 k ⟨#[]⟩ = mtT f x s ∧ Below w.heap.size w wr) (fun q _ _ => (intOf q).toNat)
    case atStart => exact ⟨16, k, ⟨#[]⟩, rfl, rfl, h0, by omega, h1, by decide, rfl, Below.refl _ _⟩
    case round =>
      obtain ⟨f, x, s, rfl, rfl, x0, xf, x1, hs, he, hb⟩ := hrel
      have HE := Lib.hid he
      clear he
      by_cases hx : 0 < x
      · have hm0 := Int.emod_nonneg x (b := 10) (by omega)
        have hm1 := Int.emod_lt_of_pos x (b := 10) (by omega)
        have hf : f ≠ 0 := by rintro rfl; simp at xf; omega
        have hss : s.size ≤ 16 := by omega
        have HXF := Lib.hid xf
        have hcv : (convert 22 9 (.slice (some ⟨wr.heap.size, 0, none⟩) 1 1)).run Try.prog (wr.alloc (Obj.cells #[Value.int .u8 (48 + x % 10)] 5)) = .ok (.string (strOfNums [48 + x % 10])) (wr.alloc (Obj.cells #[Value.int .u8 (48 + x % 10)] 5)) :=
          run_convert_bytes_arg _ _ _ Try.underlying22 Try.underlying5 _ 0 1 1 [48 + x % 10] rfl (fun i hi => by
            have e : i = 0 := by omega
            subst e
            simp) _ Try.underlying9
        have hs1 : (strOfNums [48 + x % 10]).size = 1 := strOfNums_size _
        obtain ⟨f', rfl⟩ : ∃ f', f = f' + 1 := ⟨f - 1, by omega⟩
        have HF := Lib.hid (mtT_step (f := f') (s := s) hx)
        have hxd : x / 10 < 10 ^ f' := by
          have h3 := HXF.out
          have h2 : (10 : Int) ^ (f' + 1) = 10 ^ f' * 10 := Int.pow_succ 10 f'
          generalize (10 : Int) ^ f' = z at h2 ⊢
          rw [h2] at h3
          omega
        have HD := Lib.hid hxd
        have HS1 := Lib.hid (show (strOfNums [48 + x % 10] ++ s).size = 1 + s.size by rw [ByteArray.size_append, hs1])
        have hbW := kept_alloc hb (Obj.cells #[Value.int .u8 (48 + x % 10)] 5)
        clear hf hxd hb
        go_wp2
        go_roundw
        case rel => exact ⟨f', x / 10, _, rfl, rfl, by omega, HD.out, by omega, by rw [HS1.out]; omega, by rw [HE.out, HF.out], hbW⟩
        case measure => simp [intOf]; omega
      · have HF := Lib.hid (mtT_end (f := f) (s := s) hx)
        have hss : s.size ≤ 16 := by omega
        clear xf
        go_wp2
        go_ret
        exact ⟨by rw [HZ.out, HE.out, HF.out]; rfl, hb⟩
end Go.Proofs.Ytmnfcfhnmndakaa
