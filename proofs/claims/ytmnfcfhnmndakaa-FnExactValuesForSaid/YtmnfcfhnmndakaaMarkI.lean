/-
  Walks: eqIntS, markIntS, heldIntS, markMatcherS of the laws; copies of catalogs as owned catalogs.
-/
import Derived.Test.YtmnfcfhnmndakaaMarkC
import Derived.Test.YtmnfcfhnmndakaaCatW3
import Derived.Test.YtmnfcfhnmndakaaEqInts
import Derived.Test.YtmnfcfhnmndakaaMatCopy
namespace Go.Proofs.Ytmnfcfhnmndakaa
open Go.RowKit
theorem Within.filled {lo hi : Nat} {w w' : World} {g : Nat} {t : TypeId} {M m : Nat} {f : Nat → Value} (k : Within lo hi w w') (h : Filled w g t M m f) (hg : hi ≤ g) : Filled w' g t M m f := by
  obtain ⟨cs, hb, r⟩ := h
  exact ⟨cs, by unfold Blk at hb ⊢; rw [k.block g (Blk.lt hb) (.inr hg)]; exact hb, r⟩
theorem Filled.setAny {w : World} {g : Nat} {t : TypeId} {M m : Nat} {f : Nat → Value} (h : Filled w g t M m f) {j : Nat} {u : Value} (hj : j < m) : ∃ f', Filled (w.setCell ⟨g, j, none⟩ u) g t M m f' :=
  ⟨fun i => if i = j then u else f i, h.set_ hj (if_pos rfl) (fun _ hi => if_neg hi)⟩
theorem OwnC.row {B : Nat} {w : World} {v : Value} {n : Nat} {C : Ct} {vs : List Value} (h : OwnC B w v n C vs) {i : Nat} (hi : i < n) : RowC B w v (at0 C i) vs i := h.2.2.2 i hi
theorem CatAt.ownC {B : Nat} {w : World} {g n : Nat} {C : Ct} {f : Nat → Nat} (h : CatAt B w g n n C f) (hn : C.length = n) (hm : n ≤ 1048576) (hz : ∀ i, i < n → (at0 C i).length ≤ 1048576) :
    OwnC B w (.slice (some ⟨g, 0, none⟩) n n) n C ((List.range n).map (slF C f)) := by
  have hat : ∀ i, i < n → ((List.range n).map (slF C f))[i]? = some (slF C f i) := fun i hi => by rw [List.getElem?_map, List.getElem?_range hi]; rfl
  refine ⟨hn, by simp, ?_, fun i hi => ?_⟩
  · have := Filled.ownT (base := B) (T := 33) (c := n) (s := 1) (n := n) (f := slF C f) (by rw [Nat.mul_one]; exact h.2.1) h.1 (Nat.le_refl _) (by unfold maxLen; omega)
    rwa [Nat.mul_one] at this
  · obtain ⟨hlt, hF⟩ := h.2.2.1 i hi
    refine ⟨some ⟨f i, 0, none⟩, (at0 C i).length, hat i hi, ?_, fun q hq hv => ?_, fun j u hj hu q hq hz' => ?_⟩
    · have := Filled.ownT (base := B) (T := 81) (c := (at0 C i).length) (s := 2) (n := (at0 C i).length) hF (Nat.le_trans h.1 (Nat.le_of_lt hlt)) (Nat.le_refl _) (by have := hz i hi; unfold maxLen; omega)
      exact this
    · have e1 : f i = q := by injection hq
      have e2 : g = q := by injection hv
      omega
    · rw [hat j (by omega)] at hu
      injection hu with hu
      subst hu
      have e1 : f i = q := by injection hq
      have e2 : f j = q := by injection hz'
      have := h.2.2.2 j i hj hi
      omega
set_option maxHeartbeats 1000000 in
theorem eqIntS_same (A : Option Addr) (n c : Nat) (A' : Option Addr) (c' : Nat) (l : List Int) (w : World) (hn : l.length = n) (hm : n ≤ 1000000000000)
    (hr : Rd1 w w.heap.size A l) (hr' : Rd1 w w.heap.size A' l) :
    Calls Try.prog 40 #[.slice A n c, .slice A' n c'] w fun e w' => e = .returned (.bool true) ∧ Below w.heap.size w w' := by
  have HN := Lib.hid hn
  clear hn
  go_enter Try.func40, Try.ntmps40
  go_wp2
  go_loopw [5] (fun i wr => ∃ k : Nat, k ≤ n ∧ i = .int .i64 k ∧ Below w.heap.size w wr) (fun i _ => n - (intOf i).toNat)
  case atStart => exact ⟨0, by omega, rfl, Below.refl _ _⟩
  case round =>
    obtain ⟨k, hk, rfl, hb⟩ := hrel
    by_cases hlt : k < n
    · have hki : (k : Int) < (n : Int) := by omega
      obtain ⟨b, off, rfl, hbb, hc⟩ := hr.at_ (by rw [HN.out]; omega)
      obtain ⟨b', off', rfl, hbb', hc'⟩ := hr'.at_ (by rw [HN.out]; omega)
      have hc0 := hc k (by rw [HN.out]; exact hlt)
      have hd0 := hc' k (by rw [HN.out]; exact hlt)
      rw [← hb.cell (by exact hbb)] at hc0
      rw [← hb.cell (by exact hbb')] at hd0
      have he : (xi l k != xi l k) = false := by simp
      clear hc hc' hr hr'
      go_wp2_with fail
      go_quiet (fail)
      go_wp2
      go_roundw
      case rel => exact ⟨k + 1, by omega, by go_num, kept_drewN hb _⟩
      case measure => simp [intOf]; omega
    · clear hr hr'
      go_wp2
      go_ret
      exact ⟨rfl, hb⟩
def mkdI (k : Int) (j : Nat) : Value := .int .i64 (k + j)
def mkI (k : Int) (f : Nat → Value) (i j : Nat) : Value := if j < i then mkdI k j else f j
theorem mkI_zero (k : Int) (f : Nat → Value) : mkI k f 0 = f := by funext j; simp [mkI]
theorem mkI_next (k : Int) (f : Nat → Value) (i j : Nat) (h : j ≠ i) : mkI k f (i + 1) j = mkI k f i j := by
  unfold mkI
  by_cases h1 : j < i
  · rw [if_pos h1, if_pos (by omega)]
  · rw [if_neg h1, if_neg (by omega)]
theorem mkI_at (k : Int) (f : Nat → Value) (i : Nat) : mkI k f (i + 1) i = .int .i64 (k + i) := if_pos (by omega)
theorem mkI_all (k : Int) (f : Nat → Value) (n j : Nat) (h : j < n) : mkI k f n j = mkdI k j := if_pos h
set_option maxHeartbeats 2000000 in
theorem markIntS_any (g n c : Nat) (T : TypeId) (M : Nat) (f : Nat → Value) (k : Int) (w : World) (hn : n ≤ 1048576) (k0 : 0 ≤ k) (k1 : k ≤ 100000000000000) (hf : Filled w g T M n f) :
    Calls Try.prog 41 #[.slice (some ⟨g, 0, none⟩) n c, .int .i64 k] w fun e w' => e = .returned (.int .i64 (k + n)) ∧ Filled w' g T M n (mkdI k) ∧ Only g w w' := by
  go_enter Try.func41, Try.ntmps41
  go_wp2
  go_loopw [1, 5] (fun q i wr => ∃ j : Nat, j ≤ n ∧ i = .int .i64 j ∧ q = .int .i64 (k + (j : Int)) ∧ Filled wr g T M n (mkI k f j) ∧ Only g w wr) (fun _ i _ => n - (intOf i).toNat)
  case atStart => exact ⟨0, by omega, rfl, by simp, by rw [mkI_zero]; exact hf, Only.refl _ _⟩
  case round =>
    obtain ⟨j, hj, rfl, rfl, hF, hO⟩ := hrel
    clear hf
    by_cases hlt : j < n
    · have hw1 : IntKind.i64.wrap (k + (j : Int) + 1) = k + (j : Int) + 1 := IntWalk.i64_in _ (by omega)
      obtain ⟨v0, hv0⟩ := hF.some_ (j := j) (by obtain ⟨_, _, _, h, _⟩ := hF; omega)
      have hf0 := hF.frozen j
      have HF2 := Lib.hid (hF.set_ (j := j) (by omega) (mkI_at k f j) (fun i hi => mkI_next k f j i hi))
      have HO2 := Lib.hid (hO.trans (Only.set_ _ j (.int .i64 (k + (j : Int)))))
      clear hF hO
      go_wp2
      go_roundw
      case rel => exact ⟨j + 1, by omega, by go_num, by rw [show k + (((j + 1 : Nat)) : Int) = k + (j : Int) + 1 by omega], HF2.out, HO2.out⟩
      case measure => simp [intOf]; omega
    · have e : j = n := by omega
      subst e
      go_wp2
      go_ret
      exact ⟨rfl, hF.congr (fun i hi => mkI_all k f j i hi), hO⟩
theorem markIntS_nil (A : Option Addr) (c : Nat) (k : Int) (w : World) : Calls Try.prog 41 #[.slice A 0 c, .int .i64 k] w fun e w' => e = .returned (.int .i64 k) ∧ w = w' := by
  go_enter Try.func41, Try.ntmps41
  go_wp2
  go_loopw [1, 5] (fun q i wr => i = .int .i64 0 ∧ q = .int .i64 k ∧ w = wr) (fun _ _ _ => 0)
  case atStart => exact ⟨rfl, rfl, rfl⟩
  case round =>
    obtain ⟨rfl, rfl, rfl⟩ := hrel
    go_wp2
    go_ret
    exact ⟨rfl, rfl⟩
def rowI (k : Int) (n : Nat) : List Value := (List.range n).map (mkdI k)
theorem rowI_at (k : Int) {m j : Nat} (h : j < m) : (rowI k m)[j]? = some (mkdI k j) := by
  unfold rowI; rw [List.getElem?_map, List.getElem?_range h]; rfl
def MarkOwnI (w : World) (base : Nat) (T : TypeId) (A : Option Addr) (n c : Nat) (k : Int) (e : Ending) (w' : World) : Prop :=
  e = .returned (.int .i64 (k + n)) ∧ w'.ownsRow base T 1 (.slice A n c) n (rowI k n) ∧ w.grownBy w' (Value.slice A n c).ownBlock
theorem markOwnI_any (base : Nat) (T : TypeId) (A : Option Addr) (n c : Nat) (xs : List Value) (k : Int) (w : World) (hn : n ≤ 1048576) (k0 : 0 ≤ k) (k1 : k ≤ 100000000000000) (h : w.ownsRow base T 1 (.slice A n c) n xs) :
    Calls Try.prog 41 #[.slice A n c, .int .i64 k] w (MarkOwnI w base T A n c k) := by
  rcases own_filled h with ⟨rfl, rfl, rfl⟩ | ⟨g, f, rfl, hb, hnc, hm, hF⟩
  · refine (markIntS_nil none 0 k w).mono ?_
    rintro e w' ⟨rfl, rfl⟩
    exact ⟨by simp, World.ownsRow_nil _ _ _ _, World.grownBy.refl w _⟩
  · rw [Nat.mul_one, Nat.mul_one] at hF
    refine (markIntS_any g n c T c f k w hn k0 k1 hF).mono ?_
    rintro e w' ⟨rfl, hF', ho⟩
    have := Filled.ownT (base := base) (c := c) (s := 1) (n := n) (by rw [Nat.mul_one, Nat.mul_one]; exact hF') hb hnc hm
    rw [Nat.mul_one] at this
    exact ⟨rfl, this, ho⟩
theorem own_rdI {w : World} {B : Nat} {t : TypeId} {A : Option Addr} {n c : Nat} {k : Int} (h : w.ownsRow B t 1 (.slice A n c) n (rowI k n)) : Rd w w.heap.size A n (mkdI k) := by
  have := Rd.of_own h (g := mkdI k) (fun j hj => rowI_at k (by omega))
  rwa [Nat.mul_one] at this
set_option maxHeartbeats 2000000 in
theorem heldIntS_any (A : Option Addr) (n c : Nat) (k : Int) (w : World) (hn : n ≤ 1048576) (k0 : 0 ≤ k) (k1 : k ≤ 100000000000000) (hr : Rd w w.heap.size A n (mkdI k)) :
    Calls Try.prog 42 #[.slice A n c, .int .i64 k] w fun e w' => e = .returned (.int .i64 (k + n)) ∧ w = w' := by
  go_enter Try.func42, Try.ntmps42
  go_wp2
  go_loop [1, 5] (fun q i => ∃ j : Nat, j ≤ n ∧ i = .int .i64 j ∧ q = .int .i64 (k + (j : Int))) (fun _ i => n - (intOf i).toNat)
  case atStart => exact ⟨0, by omega, rfl, by simp⟩
  case round =>
    obtain ⟨j, hj, rfl, rfl⟩ := hrel
    by_cases hlt : j < n
    · have hji : (j : Int) < (n : Int) := by omega
      obtain ⟨b, off, rfl, hbb, hc⟩ := hr (by omega)
      have hc0 : w.cell? ⟨b, off + j, none⟩ = some (.int .i64 (k + (j : Int))) := hc j (by omega)
      have hw1 : IntKind.i64.wrap (k + (j : Int) + 1) = k + (j : Int) + 1 := IntWalk.i64_in _ (by omega)
      have he : (k + (j : Int) != k + (j : Int)) = false := by simp
      clear hc hr
      go_wp2
      go_round
      case rel => exact ⟨j + 1, by omega, by go_num, by rw [show k + (((j + 1 : Nat)) : Int) = k + (j : Int) + 1 by omega]⟩
      case measure => simp [intOf]; omega
    · have e : j = n := by omega
      subst e
      clear hr
      go_wp2
      go_ret
      exact ⟨rfl, rfl⟩
set_option maxHeartbeats 4000000 in
theorem markMatcherS_any (g n c : Nat) (T : TypeId) (M : Nat) (f : Nat → Value) (k : Int) (w : World) (hn : n ≤ 1048576) (k0 : 0 ≤ k) (k1 : k ≤ 100000000000000) (hf : Filled w g T M (n * 3) f) :
    Calls Try.prog 53 #[.slice (some ⟨g, 0, none⟩) n c, .int .i64 k] w fun e w' => e = .returned (.int .i64 (k + 3 * n)) ∧ Only g w w' := by
  go_enter Try.func53, Try.ntmps53
  go_wp2
  go_loopw [1, 5] (fun q i wr => ∃ (j : Nat) (f' : Nat → Value), j ≤ n ∧ i = .int .i64 j ∧ q = .int .i64 (k + 3 * (j : Int)) ∧ Filled wr g T M (n * 3) f' ∧ Only g w wr) (fun _ i _ => n - (intOf i).toNat)
  case atStart => exact ⟨0, f, by omega, rfl, by simp, hf, Only.refl _ _⟩
  case round =>
    obtain ⟨j, f', hj, rfl, rfl, hF, hO⟩ := hrel
    clear hf
    by_cases hlt : j < n
    · have hw1 : IntKind.i64.wrap (k + 3 * (j : Int) + 1) = k + 3 * (j : Int) + 1 := IntWalk.i64_in _ (by omega)
      have hw2 : IntKind.i64.wrap (k + 3 * (j : Int) + 1 + 1) = k + 3 * (j : Int) + 1 + 1 := IntWalk.i64_in _ (by omega)
      have hw3 : IntKind.i64.wrap (k + 3 * (j : Int) + 1 + 1 + 1) = k + 3 * (j : Int) + 1 + 1 + 1 := IntWalk.i64_in _ (by omega)
      have hM : n * 3 ≤ M := by obtain ⟨_, _, _, h, _⟩ := hF; exact h
      go_wp2_with fail
      refine (markText_any _ _ (by omega) (by omega)).mono ?_
      rintro e w1 ⟨rfl, hb1⟩
      have hF1 := hF.kept hb1
      have hO1 := hO.trans (Only.of_below hb1)
      obtain ⟨v0, hv0⟩ := hF1.some_ (j := j * 3) (by omega)
      have hf0 := hF1.frozen (j * 3)
      have HF2 := Lib.hid (hF1.setAny (j := j * 3) (u := .string (mtS (k + 3 * (j : Int)))) (by omega))
      have HO2 := Lib.hid (hO1.trans (Only.set_ _ (j * 3) (.string (mtS (k + 3 * (j : Int))))))
      clear hF hF1 hO hO1 hb1
      go_wp2_with fail
      obtain ⟨f2, hF2⟩ := HF2.out
      have hO2 := HO2.out
      clear HF2 HO2 hv0 hf0
      generalize w1.setCell ⟨g, j * 3, none⟩ (Value.string (mtS (k + 3 * (j : Int)))) = W2 at *
      refine (markText_any _ _ (by omega) (by omega)).mono ?_
      rintro e w3 ⟨rfl, hb3⟩
      have hF3 := hF2.kept hb3
      have hO3 := hO2.trans (Only.of_below hb3)
      obtain ⟨v1, hv1⟩ := hF3.some_ (j := j * 3 + 1) (by omega)
      have hf1 := hF3.frozen (j * 3 + 1)
      have HF4 := hF3.setAny (j := j * 3 + 1) (u := .string (mtS (k + 3 * (j : Int) + 1))) (by omega)
      have hO4 := hO3.trans (Only.set_ _ (j * 3 + 1) (.string (mtS (k + 3 * (j : Int) + 1))))
      obtain ⟨f4, hF4⟩ := HF4
      obtain ⟨v2, hv2⟩ := hF4.some_ (j := j * 3 + 2) (by omega)
      have hf2 := hF4.frozen (j * 3 + 2)
      have HX := Lib.hid (And.intro hF4 hO4)
      clear hF2 hF3 hO2 hO3 hb3 hF4 hO4
      go_wp2
      go_roundw
      case rel => exact ⟨j + 1, fun i => if i = j * 3 + 2 then _ else f4 i, by omega, by go_num, by rw [show k + 3 * (((j + 1 : Nat)) : Int) = k + 3 * (j : Int) + 1 + 1 + 1 by omega], HX.out.1.set_ (j := j * 3 + 2) (by omega) (if_pos rfl) (fun i hi => if_neg hi), HX.out.2.trans (Only.set_ _ (j * 3 + 2) _)⟩
      case measure => simp [intOf]; omega
    · have e : j = n := by omega
      subst e
      go_wp2
      go_ret
      exact ⟨rfl, hO⟩
end Go.Proofs.Ytmnfcfhnmndakaa
