/-
  Walk: FnValidCatalog.
-/
import Derived.Test.YtnnbfdlicadgfaaCatGen
import Derived.Test.YtnnbfdlicadgfaaCatW2
import Derived.Deep.RegionHeld3
namespace Go.Proofs.Ytnnbfdlicadgfaa
open Go.RowKit
theorem szN_u {C : Ct} (h : SzN C) : SzR C 1000000000000 := SzR.mono h (by omega)
/-- A catalog that is read, as a row of values. -/
def ValsC (w : World) (B : Nat) (C : Ct) (g : Nat → Value) : Prop := (∀ j, (g j).oneCell' = true) ∧ ∀ i, i < C.length → ∃ a m c, g i = .slice a m c ∧ (at0 C i).length = m ∧ m ≤ c ∧ RdL w B a (at0 C i)
theorem RdC.vals {w : World} {B : Nat} {A : Option Addr} {C : Ct} (h : RdC w B A C) : ∃ g, Rd w B A (C.length * 1) g ∧ ValsC w B C g := by
  rcases Nat.eq_zero_or_pos C.length with h0 | h0
  · exact ⟨fun _ => .slice none 0 0, fun hp => absurd hp (by omega), fun _ => rfl, fun i hi => absurd hi (by omega)⟩
  · obtain ⟨b, off, e, hlt, hc⟩ := h h0
    have each : ∀ i, i < C.length → ∃ v : Value, w.cell? ⟨b, off + i, none⟩ = some v ∧ ∃ a m c, v = .slice a m c ∧ (at0 C i).length = m ∧ m ≤ c ∧ RdL w B a (at0 C i) := fun i hi => by
      obtain ⟨a, m, c, h1, h2, h3, h4⟩ := hc i hi
      exact ⟨_, h1, a, m, c, rfl, h2, h3, h4⟩
    obtain ⟨f, hf⟩ : ∃ f : Nat → Value, ∀ i, i < C.length → w.cell? ⟨b, off + i, none⟩ = some (f i) ∧ ∃ a m c, f i = .slice a m c ∧ (at0 C i).length = m ∧ m ≤ c ∧ RdL w B a (at0 C i) :=
      ⟨fun i => if hi : i < C.length then Classical.choose (each i hi) else .slice none 0 0, fun i hi => by simp only [dif_pos hi]; exact Classical.choose_spec (each i hi)⟩
    refine ⟨fun i => if i < C.length then f i else .slice none 0 0, fun _ => ⟨b, off, e, hlt, fun j hj => ?_⟩, fun j => ?_, fun i hi => ?_⟩
    · have hj' : j < C.length := by omega
      show _ = some (if j < C.length then f j else _)
      rw [if_pos hj']; exact (hf j hj').1
    · show (if j < C.length then f j else Value.slice none 0 0).oneCell' = true
      split
      · rename_i hj
        obtain ⟨_, a, m, c, e', _⟩ := hf j hj
        rw [e']; rfl
      · rfl
    · show ∃ a m c, (if i < C.length then f i else Value.slice none 0 0) = _ ∧ _
      rw [if_pos hi]; exact (hf i hi).2
theorem ValsC.below {w w' : World} {B : Nat} {C : Ct} {g : Nat → Value} (h : ValsC w B C g) (hb : Below B w w') : ValsC w' B C g :=
  ⟨h.1, fun i hi => let ⟨a, m, c, h1, h2, h3, h4⟩ := h.2 i hi; ⟨a, m, c, h1, h2, h3, RdG.below h4 hb⟩⟩
theorem ValsC.mono {w : World} {B B' : Nat} {C : Ct} {g : Nat → Value} (h : ValsC w B C g) (hB : B ≤ B') : ValsC w B' C g :=
  ⟨h.1, fun i hi => let ⟨a, m, c, h1, h2, h3, h4⟩ := h.2 i hi; ⟨a, m, c, h1, h2, h3, RdG.mono h4 hB⟩⟩
/-- The catalog twice its first row, in memory of its own. -/
theorem twice_rdC {w : World} {B0 : Nat} {T : TypeId} {A : Option Addr} {c n m : Nat} {C : Ct} {g : Nat → Value} {u : Value} (hn : C.length = n) (hm : m = n + 1) (hp : 0 < n) (h : ValsC w w.heap.size C g) (hu : g 0 = u)
    (ho : w.ownsRow B0 T 1 (.slice A m c) m ((List.range n).map g ++ [u])) : RdC w w.heap.size A (C ++ [at0 C 0]) := fun _ => by
  subst hm; subst hu
  have hl : ((List.range n).map g).length = n := by simp
  have := Rd.of_own ho (g := fun j => if j < n then g j else g 0) (fun j hj => by
    rw [Nat.mul_one] at hj
    rcases Nat.lt_or_ge j n with h1 | h1
    · rw [List.getElem?_append_left (by rw [hl]; exact h1), List.getElem?_map, List.getElem?_range h1]
      show some (g j) = some (if j < n then g j else g 0)
      rw [if_pos h1]
    · have : j = n := by omega
      subst this
      rw [List.getElem?_append_right (by rw [hl]; exact Nat.le_refl _), hl, Nat.sub_self]
      show some (g 0) = some (if j < j then g j else g 0)
      rw [if_neg (by omega)])
  obtain ⟨b, off, e, hlt, hc⟩ := this (by omega)
  refine ⟨b, off, e, hlt, fun i hi => ?_⟩
  rw [List.length_append, List.length_singleton, hn] at hi
  rw [hc i (by omega)]
  rcases Nat.lt_or_ge i n with h1 | h1
  · show ∃ a m c, some (if i < n then g i else g 0) = _ ∧ _
    rw [if_pos h1, at0_append _ _ (by rw [hn]; exact h1)]
    obtain ⟨a, m, c, h2, h3, h4, h5⟩ := h.2 i (by rw [hn]; exact h1)
    exact ⟨a, m, c, by rw [h2], h3, h4, h5⟩
  · have : i = n := by omega
    subst this
    show ∃ a m c, some (if i < i then g i else g 0) = _ ∧ _
    rw [if_neg (by omega), at0_append_r _ _ (by omega), hn, Nat.sub_self]
    obtain ⟨a, m, c, h2, h3, h4, h5⟩ := h.2 0 (by rw [hn]; exact hp)
    exact ⟨a, m, c, by rw [h2], h3, h4, h5⟩
theorem step_append_rdw {P : Program} {ops : Array Oper} {o : Oper} {a : Act} {w : World} {K : Act → World → Prop} {Q : Exit → Act → World → Prop} {E : Prop} (hw : Region.wanted o (yielded ops a.tmps) = true) (s x : Operand) (t : TypeId)
    (ho : o.op = .call { callee := .builtin .append, args := #[s, x], argTypes := #[t, t] })
    (base : Nat) (e : TypeId) (i : TypeInfo) (z : Value) (size bytes : Nat) (ht : P.underlying t = some (.slice e)) (hi : P.info? e = some i) (hz : i.zero = some z)
    (hsize : i.size = size) (hby : i.bytes = bytes) (hzs : z.cells.size = size) (hsz : 0 < size)
    (v : Value) (n : Nat) (xs : List Value) (hs : a.eval s = v) (hown : w.ownsRow base e size v n xs)
    (B : Nat) (A : Option Addr) (m c : Nat) (g : Nat → Value) (hx : a.eval x = .slice A m c) (hr : Rd w B A (m * size) g) (h1 : ∀ j, (g j).oneCell' = true)
    (h63 : n + m ≤ maxLen) (hbytes : (n + m) * bytes ≤ 140737488355328) (hbase : base ≤ w.heap.size)
    (h : ∀ A' c' w', w'.ownsRow base e size (.slice A' (n + m) c') (n + m) (xs ++ (List.range (m * size)).map g) → w.grownBy w' v.ownBlock → Below base w w' → K (a.put o.dst (.slice A' (n + m) c')) w') :
    if Region.wanted o (yielded ops a.tmps) = true then Oper.wp P o a w K Q else E := by
  rw [if_pos hw]
  exact wp_append_rd w s x t ho base e i z size bytes ht hi hz hsize hby hzs hsz v n xs hs hown B A m c g hx hr h1 h63 hbytes hbase fun A' c' w' h2 h3 =>
    h A' c' w' h2 h3 ((Below.refl base w).grown h3 hbase fun k hk => (hown.lt k hk).1)
theorem step_append_rdb {P : Program} {ops : Array Oper} {o : Oper} {a : Act} {w : World} {K : Act → World → Prop} {Q : Exit → Act → World → Prop} {E : Prop} (hw : Region.wanted o (yielded ops a.tmps) = true) (s x : Operand) (t : TypeId)
    (ho : o.op = .call { callee := .builtin .append, args := #[s, x], argTypes := #[t, t] })
    (base : Nat) (e : TypeId) (i : TypeInfo) (z : Value) (size bytes : Nat) (ht : P.underlying t = some (.slice e)) (hi : P.info? e = some i) (hz : i.zero = some z)
    (hsize : i.size = size) (hby : i.bytes = bytes) (hzs : z.cells.size = size) (hsz : 0 < size)
    (v : Value) (n : Nat) (xs : List Value) (hs : a.eval s = v) (hown : w.ownsRow base e size v n xs)
    (A : Option Addr) (m c : Nat) (g : Nat → Value) (hx : a.eval x = .slice A m c) (hr : Rd w w.heap.size A (m * size) g) (h1 : ∀ j, (g j).oneCell' = true)
    (h63 : n + m ≤ maxLen) (hbytes : (n + m) * bytes ≤ 140737488355328) (hbase : base ≤ w.heap.size)
    (h : ∀ A' c' w', w'.ownsRow base e size (.slice A' (n + m) c') (n + m) (xs ++ (List.range (m * size)).map g) → w.grownBy w' v.ownBlock → Below base w w' → K (a.put o.dst (.slice A' (n + m) c')) w') :
    if Region.wanted o (yielded ops a.tmps) = true then Oper.wp P o a w K Q else E := by
  exact step_append_rdw hw s x t ho base e i z size bytes ht hi hz hsize hby hzs hsz v n xs hs hown _ A m c g hx hr h1 h63 hbytes hbase h
theorem kv_start {w : World} {b o : Nat} {u : Value} (h : w.cell? ⟨b, o, none⟩ = some u) : w.drew.cell? ⟨b, o, none⟩ = some u ∧ Below w.heap.size w w.drew := ⟨h, (Below.refl _ _).drew⟩
theorem kv_below {W w w' : World} {b o : Nat} {u : Value} (hg : b < W.heap.size) (h : w.cell? ⟨b, o, none⟩ = some u ∧ Below W.heap.size W w) (hb : Below W.heap.size w w') : w'.cell? ⟨b, o, none⟩ = some u ∧ Below W.heap.size W w' :=
  ⟨(hb.cell (p := ⟨b, o, none⟩) hg).trans h.1, h.2.trans hb⟩
theorem kv_call {W w w' : World} {b o : Nat} {u : Value} (hg : b < W.heap.size) (h : w.cell? ⟨b, o, none⟩ = some u ∧ Below W.heap.size W w) (hb : Below w.heap.size w w') : w'.cell? ⟨b, o, none⟩ = some u ∧ Below W.heap.size W w' :=
  kv_below hg h (hb.mono h.2.size)
theorem kv_alloc {W w : World} {b o : Nat} {u : Value} (hg : b < W.heap.size) (h : w.cell? ⟨b, o, none⟩ = some u ∧ Below W.heap.size W w) (ob : Obj) : (w.alloc ob).cell? ⟨b, o, none⟩ = some u ∧ Below W.heap.size W (w.alloc ob) :=
  kv_call hg h (kept_alloc (Below.refl w.heap.size w) ob)
theorem made_at {w : World} {q base : Nat} (hq : w.heap.size = q) (hb : base ≤ q) : (w.alloc (Obj.cells #[] 23)).ownsRow base 23 1 (.slice (some ⟨q, 0, none⟩) 0 0) 0 [] := by
  subst hq
  exact World.ownsRow_made w #[] 0 hb (by unfold maxLen; omega) rfl
theorem box_two (w : World) (u : Value) (T : TypeId) (o : Obj) : ((w.alloc (Obj.cells #[u] T)).alloc o).cell? ⟨w.heap.size, 0, none⟩ = some u :=
  ((kept_alloc (Below.refl (w.alloc (Obj.cells #[u] T)).heap.size (w.alloc (Obj.cells #[u] T))) o).cell (p := ⟨w.heap.size, 0, none⟩) (by simp)).trans (by simp)
theorem box_rd {w : World} {q : Nat} {u : Value} (h : w.cell? ⟨q, 0, none⟩ = some u) (hq : q < w.heap.size) : Rd w w.heap.size (some ⟨q, 0, none⟩) (1 * 1) (fun _ => u) := fun _ =>
  ⟨q, 0, rfl, hq, fun j hj => by
    have : j = 0 := by omega
    subst this; exact h⟩
theorem box_far {w w' : World} {q q0 : Nat} {u : Value} (h : w.cell? ⟨q, 0, none⟩ = some u) (hq : q < w.heap.size) (hg : w.grownBy w' (some q0)) (hne : q ≠ q0) : w'.cell? ⟨q, 0, none⟩ = some u :=
  (World.cell?_of_block (a := ⟨q, 0, none⟩) (hg.block q hq (by simpa using hne))).trans h
set_option maxHeartbeats 8000000 in
set_option maxRecDepth 100000 in
theorem fnValidCatalog_any (A : Option Addr) (n c : Nat) (w : World) (hm : n ≤ 9223372036854775807) (hc : n ≤ c) (hr : RdB w w.heap.size A n) :
    Calls Try.prog 7 #[.slice A n c] w fun e w' => e = .returned (.bool true) ∧ Below w.heap.size w w' := by
  obtain ⟨i0, hi, hz0, hz1, hz2⟩ := info_parts infoSl
  by_cases hbig : (1048576 : Int) < n
  · go_enter Try.func7, Try.ntmps7
    go_wp2
    go_ret
    exact ⟨rfl, Below.refl _ _⟩
  · go_enter Try.func7, Try.ntmps7
    go_wp2_with fail
    refine (drawValidCatalog_any A n c _ hm hc hr).mono ?_
    rintro e w1 ⟨A2, c2, m, C, rfl, hC, hm2, hcap, hsz, hrd, hb1⟩
    have HL := Lib.hid (And.intro hC hsz)
    clear hC hr hsz
    go_wp2_with fail
    refine (validCatalog_any A2 m c2 C _ HL.out.1 hcap hrd).mono ?_
    rintro e w2 ⟨rfl, hb2⟩
    have hb3 := kept_trans hb1 hb2
    have hrd3 := RdC.next hrd hb2
    clear hb1 hb2 hrd
    go_wp2_with fail
    refine (specValidCatalogE_any A2 m c2 C _ HL.out.1 hcap (by omega) (szN_u HL.out.2) hrd3).mono ?_
    rintro e w4 ⟨rfl, hb4⟩
    have hb5 := kept_trans hb3 hb4
    have hrd5 := RdC.next hrd3 hb4
    clear hb3 hb4 hrd3
    rcases hv : vC C with _ | _
    · have HV := Lib.hid hv
      clear hv
      go_wp2_with fail
      refine (specValidCatalogE_any A2 m c2 C _ HL.out.1 hcap (by omega) (szN_u HL.out.2) hrd5).mono ?_
      rintro e w6 ⟨rfl, hb6⟩
      rw [HV.out]
      go_wp2
      go_ret
      exact ⟨rfl, kept_trans hb5 hb6⟩
    · have HV := Lib.hid hv
      clear hv
      by_cases hm0 : m = 0
      · have hmz : ((m : Int) == 0) = true := by simp [hm0]
        clear hm0
        go_wp2_with fail
        refine (specValidCatalogE_any A2 m c2 C _ HL.out.1 hcap (by omega) (szN_u HL.out.2) hrd5).mono ?_
        rintro e w6 ⟨rfl, hb6⟩
        rw [HV.out]
        go_wp2
        go_ret
        exact ⟨rfl, kept_trans hb5 hb6⟩
      · have hmz : ((m : Int) == 0) = false := by simp [hm0]
        have hmp : (0 : Int) < (m : Int) := by omega
        obtain ⟨b, off, rfl, hbb, a3, m3, c3, hcl, hl3, _, hrl3⟩ := RdC.at_ hrd5 HL.out.1 (k := 0) (by omega)
        rw [Nat.add_zero] at hcl
        have HT := Lib.hid (vC_take HV.out (m - 1))
        have HTL := Lib.hid (show (C.take (m - 1)).length = m - 1 by rw [List.length_take, HL.out.1]; omega)
        have HTW := Lib.hid (vC_twice (C := C) (by rw [HL.out.1]; omega))
        have hw1 : IntKind.i64.wrap ((m : Int) - 1) = ((m - 1 : Nat) : Int) := by rw [show ((m : Int) - 1) = ((m - 1 : Nat) : Int) by omega]; exact IntWalk.i64_in _ (by omega)
        have hw2 : ((m - 1 : Nat) : Int) ≤ (c2 : Int) := by omega
        obtain ⟨g, hg1, hg2⟩ := hrd5.vals
        have hg3 : g 0 = .slice a3 m3 c3 := by
          obtain ⟨b9, off9, e9, _, hc9⟩ := hg1 (by rw [HL.out.1]; omega)
          have h1 : b9 = b ∧ off9 = off := by injection e9 with e9; injection e9 with e1 e2; exact ⟨e1.symm, e2.symm⟩
          have h2 := hc9 0 (by rw [HL.out.1]; omega)
          rw [h1.1, h1.2, Nat.add_zero, hcl] at h2
          injection h2 with h2; exact h2.symm
        rw [HL.out.1] at hg1
        have HG := Lib.hid (And.intro hg1 (And.intro hg2 hg3))
        have HRT := Lib.hid (RdC.take hrd5 (m - 1))
        have HB := Lib.hid hb5
        have hmm : m ≤ 1000 := by omega
        have HML := Lib.hid (show 0 + m ≤ maxLen ∧ (0 + m) * 24 ≤ 140737488355328 ∧ m + 1 ≤ maxLen ∧ (m + 1) * 24 ≤ 140737488355328 by unfold maxLen; omega)
        have HCL := Lib.hid (show (C ++ [at0 C 0]).length = m + 1 by rw [List.length_append, HL.out.1]; rfl)
        have hmpn : 0 < m := by omega
        clear hrd5 hb5 hrl3 hg1 hg2 hg3
        go_wp2_with fail
        go_region_held3 (fun w' => w'.cell? ⟨b, off, none⟩ = some (.slice a3 m3 c3) ∧ Below w4.heap.size w4 w')
          (first | exact kv_start hcl | exact kv_alloc hbb (by assumption) _ | exact kv_below hbb (by assumption) (by assumption) | exact kv_call hbb (by assumption) (by assumption))
          (first
            | (go_at_call_of 26 A7; refine (validCatalog_any A7 (m + 1) c7 (C ++ [at0 C 0]) _ HCL.out (own_cap hown7') ?_).mono ?_
               · exact twice_rdC HL.out.1 rfl hmpn (ValsC.mono (ValsC.below HG.out.2.1 (And.right (by assumption))) (And.right (by assumption) : Below w4.heap.size w4 _).size) HG.out.2.2 hown7'
               rintro e wy ⟨rfl, hby⟩
               rw [HTW.out])
            | (go_at_call 26; refine (validCatalog_any _ (m - 1) c2 (C.take (m - 1)) _ HTL.out ?_ ?_).mono ?_
               · omega
               · exact RdC.next HRT.out (And.right (by assumption))
               rintro e wx ⟨rfl, hbx⟩
               have hsx : w4.heap.size ≤ wx.heap.size := hbx.size
               rw [HT.out])
            | (refine step_append_rdw (by rfl) (.tmp 36) (.tmp 37) _ (by rfl) w4.heap.size 23 i0 _ 1 24 Try.underlying40 hi hz0 hz1 hz2 rfl (by omega) _ 0 [] (by rfl) ?_ w4.heap.size _ m _ g (by rfl) ?_ HG.out.2.1.1 HML.out.1 HML.out.2.1 ?_ ?_
               · first | exact made_at (by first | rfl | simp) (by omega) | exact (made_at (by first | rfl | simp) (by omega)).alloc _
               · exact Rd.below HG.out.1 (And.right (by assumption))
               · exact (And.right (by assumption) : Below w4.heap.size w4 _).size
               intro A6 c6 w6 hown6 hgrow6 hbl6
               rw [List.nil_append, Nat.zero_add, Nat.mul_one] at hown6
               have hgrow7 : World.grownBy _ w6 (some _) := hgrow6
               clear hgrow6
               rw [Nat.zero_add])
            | (refine step_append_rdb (by rfl) (.tmp 38) (.tmp 42) _ (by rfl) w4.heap.size 23 i0 _ 1 24 Try.underlying40 hi hz0 hz1 hz2 rfl (by omega) _ m ((List.range m).map g) (by rfl) ?_ _ 1 _ (fun _ => .slice a3 m3 c3) (by rfl) ?_ (fun _ => rfl) HML.out.2.2.1 HML.out.2.2.2 ?_ ?_
               · first | exact hown6.alloc _ | exact hown6
               · first | exact box_rd (by simp) (by simp) | exact box_rd (box_far (by first | exact box_two _ _ _ _ | (simp; done)) (by first | (simp; done) | (simp; omega)) hgrow7 (by first | omega | simp)) (by have := hgrow7.size; simp at this; omega)
               · exact (And.right (by assumption) : Below w4.heap.size w4 _).size
               intro A7 c7 w7 hown7 hgrow8 hbl7
               have hown7' : w7.ownsRow w4.heap.size 23 1 (.slice A7 (m + 1) c7) (m + 1) ((List.range m).map g ++ [Value.slice a3 m3 c3]) := hown7)
            | fail)
        all_goals
          have hlast := kept_trans HB.out (And.right (by assumption) : Below w4.heap.size w4 _)
          go_wp2
          go_ret
          exact ⟨rfl, hlast⟩
end Go.Proofs.Ytnnbfdlicadgfaa
