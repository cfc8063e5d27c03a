/-
  Walks: toLabelSS, eqLabelSS, szLabelSS of the package laws.
-/
import Derived.Test.YtmnfcfhnmndakaaCatW2
import Derived.Test.YtmnfcfhnmndakaaLabL1
namespace Go.Proofs.Ytmnfcfhnmndakaa
open Go.RowKit
def slF (C : Ct) (f : Nat → Nat) (j : Nat) : Value := .slice (some ⟨f j, 0, none⟩) (at0 C j).length (at0 C j).length
/-- The first k rows of a catalog in memory of its own. -/
def CatAt (B : Nat) (w : World) (g n k : Nat) (C : Ct) (f : Nat → Nat) : Prop :=
  B ≤ g ∧ Filled w g 33 n k (slF C f) ∧ (∀ j, j < k → g < f j ∧ Filled w (f j) 81 ((at0 C j).length * 2) ((at0 C j).length * 2) (cellsG encL 2 (at0 C j))) ∧ ∀ i j, i < j → j < k → f i < f j
def upd (f : Nat → Nat) (k g : Nat) (j : Nat) : Nat := if j = k then g else f j
theorem upd_at (f : Nat → Nat) (k g : Nat) : upd f k g k = g := if_pos rfl
theorem upd_ne {f : Nat → Nat} {k g j : Nat} (h : j ≠ k) : upd f k g j = f j := if_neg h
section
variable {B g n k : Nat} {w w' : World} {C : Ct} {f : Nat → Nat}
theorem CatAt.kept (h : CatAt B w g n k C f) (hb : Below w.heap.size w w') : CatAt B w' g n k C f :=
  ⟨h.1, h.2.1.kept hb, fun j hj => ⟨(h.2.2.1 j hj).1, (h.2.2.1 j hj).2.kept hb⟩, h.2.2.2⟩
theorem CatAt.step (h : CatAt B w g n k C f) (hk : k < n) {gn : Nat} (hg : w.heap.size ≤ gn) (hb : Below w.heap.size w w') (hf : Filled w' gn 81 ((at0 C k).length * 2) ((at0 C k).length * 2) (cellsG encL 2 (at0 C k))) {v : Value} (hv : v = .slice (some ⟨gn, 0, none⟩) (at0 C k).length (at0 C k).length) :
    CatAt B (w'.setCell ⟨g, k, none⟩ v) g n (k + 1) C (upd f k gn) := by
  have hgl := h.2.1.lt
  have hk' := h.kept hb
  refine ⟨h.1, (hk'.2.1.congr (f' := slF C (upd f k gn)) fun j hj => ?_).put hk (by rw [hv]; unfold slF; rw [upd_at]), fun j hj => ?_, fun i j hij hj => ?_⟩
  · unfold slF; rw [upd_ne (by omega)]
  · rcases Nat.lt_or_ge j k with h1 | h1
    · rw [upd_ne (by omega)]
      have := hk'.2.2.1 j h1
      exact ⟨this.1, this.2.other (p := ⟨g, k, none⟩) (show f j ≠ g by omega) _⟩
    · have : j = k := by omega
      subst this
      rw [upd_at]
      exact ⟨by omega, hf.other (p := ⟨g, j, none⟩) (show gn ≠ g by omega) _⟩
  · rcases Nat.lt_or_ge j k with h1 | h1
    · rw [upd_ne (by omega), upd_ne (by omega)]; exact h.2.2.2 i j hij h1
    · have : j = k := by omega
      subst this
      rw [upd_at, upd_ne (by omega)]
      have := (h.2.2.1 i hij).2.lt
      omega
theorem CatAt.rdC (h : CatAt B w g n n C f) (hn : C.length = n) : RdC w w.heap.size (some ⟨g, 0, none⟩) C := fun _ =>
  ⟨g, 0, rfl, h.2.1.lt, fun i hi => ⟨_, _, _, by rw [Nat.zero_add]; exact h.2.1.cell (by omega), rfl, Nat.le_refl _, (h.2.2.1 i (by omega)).2.rdG rfl⟩⟩
end
def RetCat (w : World) (n : Nat) (C : Ct) (e : Ending) (w' : World) : Prop :=
  ∃ g f, e = .returned (.slice (some ⟨g, 0, none⟩) n n) ∧ CatAt w.heap.size w' g n n C f ∧ Below w.heap.size w w'
theorem infoSl : (Try.prog.info? 33).map (fun i => (i.zero, i.size, i.bytes)) = some (some (.slice none 0 0), 1, 24) := by kernel_rfl
set_option maxHeartbeats 1000000 in
theorem toLabelSS_any (A : Option Addr) (n c : Nat) (C : Ct) (w : World) (hn : C.length = n) (hm : n ≤ 1048576) (hz : SzR C 1048576) (hr : RdC w w.heap.size A C) :
    Calls Try.prog 22 #[.slice A n c] w (RetCat w n C) := by
  have HN := Lib.hid hn
  have HZ := Lib.hid hz
  have HR := Lib.hid hr
  clear hn hz hr
  obtain ⟨i0, hi, hz0, hz1, hz2⟩ := info_parts infoSl
  have hmk := fun W => run_make_rowN (P := Try.prog) 23 33 i0 _ Try.underlying23 hi hz0 .i64 .i64 n n (Nat.le_refl _) (by rw [hz2]; omega) (by omega) W
  rw [hz1] at hmk
  go_enter Try.func22, Try.ntmps22
  go_wp2
  go_loopw [4] (fun i wr => ∃ (k : Nat) (f : Nat → Nat), k ≤ n ∧ i = .int .i64 k ∧ CatAt w.heap.size wr w.heap.size n k C f ∧ Below w.heap.size w wr) (fun i _ => n - (intOf i).toNat)
  case atStart => exact ⟨0, fun _ => 0, by omega, rfl, ⟨Nat.le_refl _, (by have := Filled.made w 33 (madeCells #[Value.slice none 0 0] (n * 1)) (slF C fun _ => 0); rw [madeSize, Nat.mul_one] at this; simpa using this), fun j hj => absurd hj (by omega), fun i j _ hj => absurd hj (by omega)⟩, kept_alloc (Below.refl _ _) _⟩
  case round =>
    obtain ⟨k, f, hk, rfl, hf, hb⟩ := hrel
    clear hmk
    by_cases hlt : k < n
    · obtain ⟨b, off, rfl, hbb, a2, m2, c2, hcl, hl2, _, hrl⟩ := RdC.at_ (RdC.next HR.out hb) HN.out hlt
      have hm2 : m2 ≤ 1048576 := by rw [← hl2]; exact (HZ.out k (by rw [HN.out]; exact hlt)).2
      have HL2 := Lib.hid hl2
      have HF := Lib.hid hf
      clear hl2 hf
      go_wp2_with fail
      refine (toLabelS_any a2 m2 c2 (at0 C k) _ HL2.out hm2 hrl).mono ?_
      rintro e w1 ⟨g1, rfl, hg1, hf1, hb1⟩
      have hb2 := kept_trans hb hb1
      have hk1 := HF.out.kept hb1
      obtain ⟨v0, hv0⟩ := hk1.2.1.some_ (j := k) hlt
      have hf0 := hk1.2.1.frozen k
      have HS := Lib.hid (HF.out.step hlt hg1 hb1 (by rw [HL2.out]; exact hf1) (v := .slice (some ⟨g1, 0, none⟩) m2 m2) (by rw [HL2.out]))
      clear hk1 hb hb1 hcl hrl hf1 hg1
      go_wp2
      go_roundw
      case rel => exact ⟨k + 1, _, by omega, by go_num, HS.out, hb2.setCell (Nat.le_refl _) _⟩
      case measure => simp [intOf]; omega
    · go_wp2
      go_ret
      have e : n = k := by omega
      rw [← e] at hf
      exact ⟨_, f, rfl, hf, hb⟩
set_option maxHeartbeats 1000000 in
theorem eqLabelSS_same (A : Option Addr) (n c : Nat) (A' : Option Addr) (c' : Nat) (C : Ct) (w : World) (hn : C.length = n) (hm : n ≤ 1000000000000) (hz : SzR C 1000000000000)
    (hr : RdC w w.heap.size A C) (hr' : RdC w w.heap.size A' C) :
    Calls Try.prog 24 #[.slice A n c, .slice A' n c'] w fun e w' => e = .returned (.bool true) ∧ Below w.heap.size w w' := by
  have HN := Lib.hid hn
  have HZ := Lib.hid hz
  have HR := Lib.hid hr
  have HR' := Lib.hid hr'
  clear hn hz hr hr'
  go_enter Try.func24, Try.ntmps24
  go_wp2
  go_loopw [5] (fun i wr => ∃ k : Nat, k ≤ n ∧ i = .int .i64 k ∧ Below w.heap.size w wr) (fun i _ => n - (intOf i).toNat)
  case atStart => exact ⟨0, by omega, rfl, Below.refl _ _⟩
  case round =>
    obtain ⟨k, hk, rfl, hb⟩ := hrel
    by_cases hlt : k < n
    · have hki : (k : Int) < (n : Int) := by omega
      obtain ⟨b, off, rfl, hbb, a2, m2, c2, hcl, hl2, _, hrl⟩ := RdC.at_ (RdC.next HR.out hb) HN.out hlt
      obtain ⟨b', off', rfl, hbb', a3, m3, c3, hcl', hl3, _, hrl'⟩ := RdC.at_ (RdC.next HR'.out hb) HN.out hlt
      have hm23 : m3 = m2 := by rw [← hl2, ← hl3]
      subst hm23
      have hm3 : m3 ≤ 1000000000000 := by rw [← hl2]; exact (HZ.out k (by rw [HN.out]; exact hlt)).2
      have HL2 := Lib.hid hl2
      have HRL := Lib.hid hrl
      have HRL' := Lib.hid hrl'
      have q0 := kin_cell hcl hbb
      have q1 := kin_cell hcl' hbb'
      clear hl2 hl3 hrl hrl' hcl hcl'
      go_wp2_with fail
      refine wp_region_kin (by kernel_rfl) (by kernel_rfl) ?_
      repeat (go_big_quiet_step ((go_at_call 36; exact kin_call (eqLabelS_same a2 m3 c2 a3 c3 (at0 C k) _ HL2.out hm3 (kin_rdL HRL.out _) (kin_rdL HRL'.out _)))))
      refine wpQuiet_nil ?_
      intro _ hw'
      obtain ⟨⟨wq, hq⟩, hw''⟩ := hw'
      subst hw''
      have hb2 := kept_trans hb hq
      clear hb hq q0 q1
      go_wp2
      go_roundw
      case rel => exact ⟨k + 1, by omega, by go_num, hb2⟩
      case measure => simp [intOf]; omega
    · go_wp2
      go_ret
      exact ⟨rfl, hb⟩
/-- Texts and lengths within 1 << 20. -/
def SzB (C : Ct) (k : Nat) : Prop := ∀ i, i < k → (at0 C i).length ≤ 1048576 ∧ ∀ q, q < (at0 C i).length → (at0 (at0 C i) q).1.size ≤ 1048576 ∧ (at0 (at0 C i) q).2.size ≤ 1048576
theorem SzB_zero (C : Ct) : SzB C 0 := fun j hj => absurd hj (by omega)
theorem SzB_succ {C : Ct} {k : Nat} (h : SzB C k) (hk : (at0 C k).length ≤ 1048576 ∧ ∀ q, q < (at0 C k).length → (at0 (at0 C k) q).1.size ≤ 1048576 ∧ (at0 (at0 C k) q).2.size ≤ 1048576) : SzB C (k + 1) := fun j hj => by
  rcases Nat.lt_or_ge j k with h1 | h1
  · exact h j h1
  · have : j = k := by omega
    subst this; exact hk
theorem SzB.szR {C : Ct} (h : SzB C C.length) : SzR C 1048576 := fun i hi => ⟨SzL_of (h i hi).2, (h i hi).1⟩
theorem SzR.mono {C : Ct} {a b : Nat} (h : SzR C a) (hab : a ≤ b) : SzR C b := fun i hi => ⟨(h i hi).1, by have := (h i hi).2; omega⟩
def SzCPost (k : Int) (n : Nat) (C : Ct) (w : World) (e : Ending) (w' : World) : Prop := ∃ r : Int, e = .returned (.int .i64 r) ∧ -1 ≤ r ∧ r ≤ k ∧ (0 ≤ r → (n : Int) ≤ k ∧ SzB C C.length) ∧ Below w.heap.size w w'
set_option maxHeartbeats 1000000 in
theorem szLabelSS_any (A : Option Addr) (n c : Nat) (C : Ct) (k : Int) (w : World) (hn : C.length = n) (hm : n ≤ 9223372036854775807) (hz : SzR C 9223372036854775807) (hk : 0 ≤ k) (hk2 : k ≤ 1048576) (hr : RdC w w.heap.size A C) :
    Calls Try.prog 21 #[.slice A n c, .int .i64 k] w (SzCPost k n C w) := by
  have HN := Lib.hid hn
  have HZ := Lib.hid hz
  have HR := Lib.hid hr
  clear hn hz hr
  by_cases ha : k < n
  · go_enter Try.func21, Try.ntmps21
    go_wp2
    go_ret
    exact ⟨-1, rfl, by omega, by omega, fun h => absurd h (by omega), Below.refl _ _⟩
  · go_enter Try.func21, Try.ntmps21
    go_wp2
    go_loopw [1, 5] (fun q i wr => ∃ (j : Nat) (r : Int), j ≤ n ∧ i = .int .i64 j ∧ q = .int .i64 r ∧ 0 ≤ r ∧ r ≤ k ∧ SzB C j ∧ Below w.heap.size w wr) (fun _ i _ => n - (intOf i).toNat)
    case atStart => exact ⟨0, k - n, by omega, rfl, rfl, by omega, by omega, SzB_zero C, Below.refl _ _⟩
    case round =>
      obtain ⟨j, r, hj, rfl, rfl, r0, r1, hs, hb⟩ := hrel
      have HS := Lib.hid hs
      clear hs
      by_cases hlt : j < n
      · have hki : (j : Int) < (n : Int) := by omega
        obtain ⟨b, off, rfl, hbb, a2, m2, c2, hcl, hl2, _, hrl⟩ := RdC.at_ (RdC.next HR.out hb) HN.out hlt
        have hzj := HZ.out j (by rw [HN.out]; exact hlt)
        have hm2 : m2 ≤ 9223372036854775807 := by rw [← hl2]; exact hzj.2
        have HL2 := Lib.hid hl2
        have HSL := Lib.hid hzj.1
        clear hl2 hzj
        go_wp2_with fail
        refine (szLabelS_any a2 m2 c2 (at0 C j) r _ HL2.out hm2 HSL.out r0 (by omega) hrl).mono ?_
        rintro e w1 ⟨r', rfl, y1, y2, y3, hb1⟩
        have HY := Lib.hid y3
        have hb2 := kept_trans hb hb1
        clear hcl hrl hb hb1 y3
        by_cases hneg : r' < 0
        · go_wp2
          go_ret
          exact ⟨-1, rfl, by omega, by omega, fun h => absurd h (by omega), hb2⟩
        · have H0 := Lib.hid (SzB_succ HS.out (by have h := HY.out (by omega); exact ⟨by rw [HL2.out]; omega, h.2⟩))
          go_wp2
          go_roundw
          case rel => exact ⟨j + 1, r', by omega, by go_num, rfl, by omega, by omega, H0.out, hb2⟩
          case measure => simp [intOf]; omega
      · have H0 := Lib.hid (show SzB C C.length from fun i hi => HS.out i (by rw [HN.out] at hi; omega))
        go_wp2
        go_ret
        exact ⟨r, rfl, by omega, r1, fun _ => ⟨by omega, H0.out⟩, hb⟩
end Go.Proofs.Ytmnfcfhnmndakaa
