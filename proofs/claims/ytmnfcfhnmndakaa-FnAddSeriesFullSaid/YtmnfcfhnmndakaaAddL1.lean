/-
  Walks: FnAddSeries, FnAddSeriesFull, FnAddSeriesTwice.
-/
import Derived.Test.YtmnfcfhnmndakaaAddW
import Derived.Test.YtmnfcfhnmndakaaCatGen2
namespace Go.Proofs.Ytmnfcfhnmndakaa
open Go.RowKit
/-! Plain. -/
theorem noC_app {C x : Ct} {l : List Lb} {k : Nat} (hk : k ≤ C.length) : noC (C ++ x) l k ↔ noC C l k :=
  ⟨fun h j hj => by rw [← at0_append C x (by omega)]; exact h j hj, fun h j hj => by rw [at0_append C x (by omega)]; exact h j hj⟩
theorem at0_last (C : Ct) (l : List Lb) : at0 (C ++ [l]) C.length = l := by rw [at0_append_r _ _ (Nat.le_refl _), Nat.sub_self]; rfl
theorem vC_snoc {C : Ct} {l : List Lb} (h : vC C = true) (hl : vL l = true) (hn : noC C l C.length) (h8 : C.length < 8) : vC (C ++ [l]) = true := by
  have hV := VC_of h
  refine vC_good (k := C.length + 1) (by rw [List.length_append, List.length_singleton]; omega) (okCo_succ (fun j hj => ?_) ?_ ?_) (by rw [List.length_append, List.length_singleton])
  · rw [at0_append _ _ hj]
    exact ⟨(hV.2 j hj).1, (noC_app (by omega)).2 (hV.2 j hj).2⟩
  · rw [at0_last]; exact hl
  · rw [at0_last]; exact (noC_app (Nat.le_refl _)).2 hn
structure AdOk (C : Ct) (l : List Lb) (D : Ct) (N : Int) : Prop where
  find : fsV D l = N
  len : C.length ≤ D.length
  take : D.take C.length = C
  ok : vC D = true
  okC : vC C = true
  okL : vL l = true
  pos : 0 ≤ N
  old : (D.length = C.length ↔ 0 ≤ fsV C l)
theorem adV_ok {C : Ct} {l : List Lb} {D : Ct} {N : Int} (h : adV C l = some (D, N)) : AdOk C l D N := by
  unfold adV at h
  split at h
  · rename_i hv
    split at h
    · rename_i hp
      injection h with h; injection h with h3 h4; subst h3; subst h4
      exact ⟨fsV_ok hv.1 hv.2, Nat.le_refl _, List.take_length, hv.1, hv.1, hv.2, hp, ⟨fun _ => by rw [fsV_ok hv.1 hv.2]; exact hp, fun _ => rfl⟩⟩
    · rename_i hp
      split at h
      · cases h
      · rename_i h8
        injection h with h; injection h with h3 h4; subst h3; subst h4
        have hno : noC C l C.length := by
          rcases plc_cases C l with ⟨_, h1⟩ | ⟨k, _, h1, _⟩
          · exact h1
          · omega
        have h8' := (VC_of hv.1).1
        have hV := vC_snoc hv.1 hv.2 hno (by omega)
        refine ⟨?_, by rw [List.length_append]; omega, by rw [List.take_left'] ; rfl, hV, hv.1, hv.2, by omega, ⟨fun h => by rw [List.length_append, List.length_singleton] at h; omega, fun h => by rw [fsV_ok hv.1 hv.2] at h; omega⟩⟩
        rw [fsV_ok hV hv.2]
        exact plc_hit (by rw [List.length_append, List.length_singleton]; omega) ((noC_app (Nat.le_refl _)).2 hno) (at0_last C l)
  · cases h
theorem AdOk.again {C : Ct} {l : List Lb} {D : Ct} {N : Int} (h : AdOk C l D N) : adV D l = some (D, N) := by
  have hf := h.find
  rw [fsV_ok h.ok h.okL] at hf
  rw [adV_in h.ok h.okL (by rw [hf]; exact h.pos), hf]
theorem adV_noFull {C : Ct} {l : List Lb} (h : adV C l = none) (hC : vC C = true) (hl : vL l = true) : C.length = 8 ∧ fsV C l < 0 := by
  unfold adV at h
  rw [if_pos ⟨hC, hl⟩] at h
  split at h
  · cases h
  · split at h
    · exact ⟨by assumption, by rw [fsV_ok hC hl]; omega⟩
    · cases h
theorem AdOk.room {C : Ct} {l : List Lb} {D : Ct} {N : Int} (h : AdOk C l D N) : C.length < 8 ∨ 0 ≤ fsV C l := by
  by_cases he : D.length = C.length
  · exact .inr (h.old.1 he)
  · have := (VC_of h.ok).1
    have := h.len
    exact .inl (by omega)
/-! Contracts by the result. -/
def NoneA (w : World) (e : Ending) (w' : World) : Prop := ∃ A c, e = .returned (.tuple #[.slice A 0 c, .int .i64 (-1), .bool false]) ∧ Below w.heap.size w w'
def SomeA (w : World) (D : Ct) (N : Int) (e : Ending) (w' : World) : Prop := ∃ A c n, e = .returned (.tuple #[.slice A n c, .int .i64 N, .bool true]) ∧ D.length = n ∧ n ≤ c ∧ RdC w' w'.heap.size A D ∧ Below w.heap.size w w'
theorem retA_no {w w' : World} {e : Ending} {r : Option (Ct × Int)} (hr : r = none) (h : RetA w r e w') : NoneA w e w' := by
  subst hr
  obtain ⟨A, c, n, vs, he, ho, hb⟩ := h
  have hn : n = 0 := ho.1.symm
  subst hn
  exact ⟨A, c, he, hb⟩
theorem retA_yes {w w' : World} {e : Ending} {r : Option (Ct × Int)} {D : Ct} {N : Int} (hr : r = some (D, N)) (h : RetA w r e w') : SomeA w D N e w' := by
  subst hr
  obtain ⟨A, c, n, vs, he, ho, hb⟩ := h
  exact ⟨A, c, n, he, ho.1, own_cap ho.2.2.1, ho.rdC, hb⟩
section
variable (A : Option Addr) (n c : Nat) (C : Ct) (B : Option Addr) (m d : Nat) (l : List Lb) (w : World)
theorem addSeries_no (hn : C.length = n) (hm : l.length = m) (hc : n ≤ c) (hr : RdC w w.heap.size A C) (hr' : RdL w w.heap.size B l) (h : Hid (adV C l = none)) :
    Calls Try.prog 29 #[.slice A n c, .slice B m d] w (NoneA w) := (addSeries_any A n c C B m d l w hn hm hc hr hr').mono fun _ _ k => retA_no h.out k
theorem addSeries_yes (D : Ct) (N : Int) (hn : C.length = n) (hm : l.length = m) (hc : n ≤ c) (hr : RdC w w.heap.size A C) (hr' : RdL w w.heap.size B l) (h : Hid (adV C l = some (D, N))) :
    Calls Try.prog 29 #[.slice A n c, .slice B m d] w (SomeA w D N) := (addSeries_any A n c C B m d l w hn hm hc hr hr').mono fun _ _ k => retA_yes h.out k
theorem specAddSeries_no (hn : C.length = n) (hm : l.length = m) (hc : n ≤ c) (hn2 : n ≤ 1000000000000) (hm2 : m ≤ 1000000000000) (hsz : SzR C 1000000000000) (hsl : SzL l) (hr : RdC w w.heap.size A C) (hr' : RdL w w.heap.size B l) (h : Hid (adV C l = none)) :
    Calls Try.prog 30 #[.slice A n c, .slice B m d] w (NoneA w) := (specAddSeries_any A n c C B m d l w hn hm hc hn2 hm2 hsz hsl hr hr').mono fun _ _ k => retA_no h.out k
theorem specAddSeries_yes (D : Ct) (N : Int) (hn : C.length = n) (hm : l.length = m) (hc : n ≤ c) (hn2 : n ≤ 1000000000000) (hm2 : m ≤ 1000000000000) (hsz : SzR C 1000000000000) (hsl : SzL l) (hr : RdC w w.heap.size A C) (hr' : RdL w w.heap.size B l) (h : Hid (adV C l = some (D, N))) :
    Calls Try.prog 30 #[.slice A n c, .slice B m d] w (SomeA w D N) := (specAddSeries_any A n c C B m d l w hn hm hc hn2 hm2 hsz hsl hr hr').mono fun _ _ k => retA_yes h.out k
end
theorem adN_t {C : Ct} (h : SzN C) : SzR C 1000000000000 := SzR.mono h (by omega)
set_option maxRecDepth 100000 in
theorem drawAddSeries_any (A : Option Addr) (n c : Nat) (w : World) (hm : n ≤ 9223372036854775807) (hc : n ≤ c) (hr : RdB w w.heap.size A n) :
    Calls Try.prog 28 #[.slice A n c] w (DrawCL w) := by
  go_enter Try.func28, Try.ntmps28
  go_wp2_with fail
  refine (drawFindSeries_any A n c _ hm hc hr).mono ?_
  rintro e w1 ⟨A2, c2, m, C, B2, d2, q, l, rfl, hC, hm2, hcap, hsz, hl, hq2, hqd, hszl, hrd, hrl, hb1⟩
  have HX := Lib.hid (And.intro hC (And.intro hsz (And.intro hl (And.intro hszl (And.intro hrd (And.intro hrl hb1))))))
  clear hC hsz hl hszl hrd hrl hb1 hr
  go_wp2
  go_ret2
  exact ⟨A2, c2, m, C, B2, d2, q, l, rfl, HX.out.1, hm2, hcap, HX.out.2.1, HX.out.2.2.1, hq2, hqd, HX.out.2.2.2.1, HX.out.2.2.2.2.1, HX.out.2.2.2.2.2.1, HX.out.2.2.2.2.2.2⟩
set_option maxHeartbeats 8000000 in
set_option maxRecDepth 100000 in
theorem fnAddSeries_any (A : Option Addr) (n c : Nat) (w : World) (hm : n ≤ 9223372036854775807) (hc : n ≤ c) (hr : RdB w w.heap.size A n) :
    Calls Try.prog 5 #[.slice A n c] w fun e w' => e = .returned (.bool true) ∧ Below w.heap.size w w' := by
  by_cases hbig : (1048576 : Int) < n
  · go_enter Try.func5, Try.ntmps5
    go_wp2
    go_ret
    exact ⟨rfl, Below.refl _ _⟩
  · go_enter Try.func5, Try.ntmps5
    go_wp2_with fail
    refine (drawAddSeries_any A n c _ hm hc hr).mono ?_
    rintro e w1 ⟨A2, c2, m, C, B2, d2, q, l, rfl, hC, hm2, hcap, hsz, hl, hq2, hqd, hszl, hrd, hrl, hb1⟩
    have HL := Lib.hid (And.intro hC (And.intro hsz (And.intro hl hszl)))
    have HT := Lib.hid (adN_t hsz)
    clear hr
    rcases hq : adV C l with _ | ⟨D, N⟩
    · have HQ := Lib.hid hq
      clear hq hC hsz hl hszl
      go_wp2_with fail
      refine (addSeries_no A2 m c2 C B2 q d2 l _ HL.out.1 HL.out.2.2.1 hcap hrd hrl HQ).mono ?_
      rintro e w2 ⟨A3, c3, rfl, hb2⟩
      have hb3 := kept_trans hb1 hb2
      have hrd3 := RdC.next hrd hb2
      have hrl3 := RdG.next hrl hb2
      clear hb1 hb2 hrd hrl
      go_wp2_with fail
      refine (specAddSeries_no A2 m c2 C B2 q d2 l _ HL.out.1 HL.out.2.2.1 hcap (by omega) (by omega) HT.out HL.out.2.2.2 hrd3 hrl3 HQ).mono ?_
      rintro e w4 ⟨A4, c4, rfl, hb4⟩
      have hb5 := kept_trans hb3 hb4
      have hrd5 := RdC.next hrd3 hb4
      have hrl5 := RdG.next hrl3 hb4
      clear hb3 hb4 hrd3 hrl3
      go_wp2_with fail
      refine (equalCatalogs_same A3 0 c3 A4 c4 [] _ rfl (by omega) (fun i hi => absurd hi (by simp)) (RdC.nil _ _ _) (RdC.nil _ _ _)).mono ?_
      rintro e w6 ⟨rfl, hb6⟩
      have hb7 := kept_trans hb5 hb6
      have hrd7 := RdC.next hrd5 hb6
      have hrl7 := RdG.next hrl5 hb6
      clear hb5 hb6 hrd5 hrl5
      go_wp2_with fail
      refine (equalCatalogs_same A3 0 c3 A4 c4 [] _ rfl (by omega) (fun i hi => absurd hi (by simp)) (RdC.nil _ _ _) (RdC.nil _ _ _)).mono ?_
      rintro e w8 ⟨rfl, hb8⟩
      have hb9 := kept_trans hb7 hb8
      clear hb7 hb8 hrd7 hrl7
      go_wp2
      go_ret
      exact ⟨rfl, hb9⟩
    · have HQ := Lib.hid hq
      have HOK := Lib.hid (adV_ok hq)
      have hD := adV_some hq hsz hszl (by rw [hl]; exact hq2)
      have HTD := Lib.hid (adN_t hD.1)
      have hD8 := hD.2
      clear hq hC hsz hl hszl hD
      go_wp2_with fail
      refine (addSeries_yes A2 m c2 C B2 q d2 l _ D N HL.out.1 HL.out.2.2.1 hcap hrd hrl HQ).mono ?_
      rintro e w2 ⟨A3, c3, z, rfl, hz, hzc, hrD, hb2⟩
      have HZ := Lib.hid hz
      rw [hz] at hD8
      have hb3 := kept_trans hb1 hb2
      have hrd3 := RdC.next hrd hb2
      have hrl3 := RdG.next hrl hb2
      clear hb1 hb2 hrd hrl hz
      go_wp2_with fail
      refine (specAddSeries_yes A2 m c2 C B2 q d2 l _ D N HL.out.1 HL.out.2.2.1 hcap (by omega) (by omega) HT.out HL.out.2.2.2 hrd3 hrl3 HQ).mono ?_
      rintro e w4 ⟨A4, c4, z', rfl, hz', _, hrE, hb4⟩
      rw [HZ.out] at hz'
      subst hz'
      have hb5 := kept_trans hb3 hb4
      have hrd5 := RdC.next hrd3 hb4
      have hrl5 := RdG.next hrl3 hb4
      have hrD5 := RdC.next hrD hb4
      clear hb3 hb4 hrd3 hrl3 hrD
      go_wp2_with fail
      refine (equalCatalogs_same A3 z c3 A4 c4 D _ HZ.out (by omega) HTD.out hrD5 hrE).mono ?_
      rintro e w6 ⟨rfl, hb6⟩
      have hb7 := kept_trans hb5 hb6
      have hrd7 := RdC.next hrd5 hb6
      have hrl7 := RdG.next hrl5 hb6
      have hrD7 := RdC.next hrD5 hb6
      clear hb5 hb6 hrd5 hrl5 hrD5 hrE
      have hnn : (N != N) = false := by simp
      have hcz : m ≤ z := by have := HOK.out.len; rw [HL.out.1, HZ.out] at this; exact this
      have hczi : (m : Int) ≤ (z : Int) := by omega
      have hczc : (m : Int) ≤ (c3 : Int) := by omega
      go_wp2_with fail
      refine (findSeries_any A3 z c3 D B2 q d2 l _ HZ.out HL.out.2.2.1 hzc hrD7 hrl7).mono ?_
      rintro e w8 ⟨rfl, hb8⟩
      rw [HOK.out.find]
      have hb9 := kept_trans hb7 hb8
      have hrd9 := RdC.next hrd7 hb8
      have hrD9 := RdC.next hrD7 hb8
      have hNN : (N == N) = true := by simp
      clear hb7 hb8 hrd7 hrl7 hrD7
      have HTK := Lib.hid (show D.take m = C by rw [← HL.out.1]; exact HOK.out.take)
      have hrT := RdC.take hrD9 m
      rw [HTK.out] at hrT
      go_wp2_with fail
      refine (equalCatalogs_same A3 m c3 A2 c2 C _ HL.out.1 (by omega) HT.out hrT hrd9).mono ?_
      rintro e w10 ⟨rfl, hb10⟩
      have hb11 := kept_trans hb9 hb10
      have hrD11 := RdC.next hrD9 hb10
      clear hb9 hb10 hrd9 hrD9 hrT
      go_wp2_with fail
      refine (validCatalog_any A3 z c3 D _ HZ.out hzc hrD11).mono ?_
      rintro e w12 ⟨rfl, hb12⟩
      rw [HOK.out.ok]
      have hb13 := kept_trans hb11 hb12
      clear hb11 hb12 hrD11
      go_wp2
      go_ret
      exact ⟨rfl, hb13⟩
set_option maxHeartbeats 8000000 in
set_option maxRecDepth 100000 in
theorem fnAddSeriesTwice_any (A : Option Addr) (n c : Nat) (w : World) (hm : n ≤ 9223372036854775807) (hc : n ≤ c) (hr : RdB w w.heap.size A n) :
    Calls Try.prog 7 #[.slice A n c] w fun e w' => e = .returned (.bool true) ∧ Below w.heap.size w w' := by
  by_cases hbig : (1048576 : Int) < n
  · go_enter Try.func7, Try.ntmps7
    go_wp2
    go_ret
    exact ⟨rfl, Below.refl _ _⟩
  · go_enter Try.func7, Try.ntmps7
    go_wp2_with fail
    refine (drawAddSeries_any A n c _ hm hc hr).mono ?_
    rintro e w1 ⟨A2, c2, m, C, B2, d2, q, l, rfl, hC, hm2, hcap, hsz, hl, hq2, hqd, hszl, hrd, hrl, hb1⟩
    have HL := Lib.hid (And.intro hC (And.intro hsz (And.intro hl hszl)))
    have HT := Lib.hid (adN_t hsz)
    clear hr
    rcases hq : adV C l with _ | ⟨D, N⟩
    · have HQ := Lib.hid hq
      clear hq hC hsz hl hszl
      go_wp2_with fail
      refine (addSeries_no A2 m c2 C B2 q d2 l _ HL.out.1 HL.out.2.2.1 hcap hrd hrl HQ).mono ?_
      rintro e w2 ⟨A3, c3, rfl, hb2⟩
      have hb3 := kept_trans hb1 hb2
      have hrd3 := RdC.next hrd hb2
      have hrl3 := RdG.next hrl hb2
      clear hb1 hb2 hrd hrl
      go_wp2_with fail
      refine (specAddSeries_no A2 m c2 C B2 q d2 l _ HL.out.1 HL.out.2.2.1 hcap (by omega) (by omega) HT.out HL.out.2.2.2 hrd3 hrl3 HQ).mono ?_
      rintro e w4 ⟨A4, c4, rfl, hb4⟩
      have hb5 := kept_trans hb3 hb4
      have hrd5 := RdC.next hrd3 hb4
      have hrl5 := RdG.next hrl3 hb4
      clear hb3 hb4 hrd3 hrl3
      go_wp2_with fail
      refine (equalCatalogs_same A3 0 c3 A4 c4 [] _ rfl (by omega) (fun i hi => absurd hi (by simp)) (RdC.nil _ _ _) (RdC.nil _ _ _)).mono ?_
      rintro e w6 ⟨rfl, hb6⟩
      have hb7 := kept_trans hb5 hb6
      have hrd7 := RdC.next hrd5 hb6
      have hrl7 := RdG.next hrl5 hb6
      clear hb5 hb6 hrd5 hrl5
      go_wp2_with fail
      refine (equalCatalogs_same A3 0 c3 A4 c4 [] _ rfl (by omega) (fun i hi => absurd hi (by simp)) (RdC.nil _ _ _) (RdC.nil _ _ _)).mono ?_
      rintro e w8 ⟨rfl, hb8⟩
      have hb9 := kept_trans hb7 hb8
      clear hb7 hb8 hrd7 hrl7
      go_wp2
      go_ret
      exact ⟨rfl, hb9⟩
    · have HQ := Lib.hid hq
      have HOK := Lib.hid (adV_ok hq)
      have hD := adV_some hq hsz hszl (by rw [hl]; exact hq2)
      have HTD := Lib.hid (adN_t hD.1)
      have hD8 := hD.2
      clear hq hC hsz hl hszl hD
      go_wp2_with fail
      refine (addSeries_yes A2 m c2 C B2 q d2 l _ D N HL.out.1 HL.out.2.2.1 hcap hrd hrl HQ).mono ?_
      rintro e w2 ⟨A3, c3, z, rfl, hz, hzc, hrD, hb2⟩
      have HZ := Lib.hid hz
      rw [hz] at hD8
      have hb3 := kept_trans hb1 hb2
      have hrd3 := RdC.next hrd hb2
      have hrl3 := RdG.next hrl hb2
      clear hb1 hb2 hrd hrl hz
      go_wp2_with fail
      refine (specAddSeries_yes A2 m c2 C B2 q d2 l _ D N HL.out.1 HL.out.2.2.1 hcap (by omega) (by omega) HT.out HL.out.2.2.2 hrd3 hrl3 HQ).mono ?_
      rintro e w4 ⟨A4, c4, z', rfl, hz', _, hrE, hb4⟩
      rw [HZ.out] at hz'
      subst hz'
      have hb5 := kept_trans hb3 hb4
      have hrd5 := RdC.next hrd3 hb4
      have hrl5 := RdG.next hrl3 hb4
      have hrD5 := RdC.next hrD hb4
      clear hb3 hb4 hrd3 hrl3 hrD
      go_wp2_with fail
      refine (equalCatalogs_same A3 z c3 A4 c4 D _ HZ.out (by omega) HTD.out hrD5 hrE).mono ?_
      rintro e w6 ⟨rfl, hb6⟩
      have hb7 := kept_trans hb5 hb6
      have hrd7 := RdC.next hrd5 hb6
      have hrl7 := RdG.next hrl5 hb6
      have hrD7 := RdC.next hrD5 hb6
      clear hb5 hb6 hrd5 hrl5 hrD5 hrE
      have hnn : (N != N) = false := by simp
      have hcz : m ≤ z := by have := HOK.out.len; rw [HL.out.1, HZ.out] at this; exact this
      have hczi : (m : Int) ≤ (z : Int) := by omega
      have hczc : (m : Int) ≤ (c3 : Int) := by omega
      have HAG := Lib.hid HOK.out.again
      go_wp2_with fail
      refine (addSeries_yes A3 z c3 D B2 q d2 l _ D N HZ.out HL.out.2.2.1 hzc hrD7 hrl7 HAG).mono ?_
      rintro e w8 ⟨A5, c5, z', rfl, hz', _, hrF, hb8⟩
      rw [HZ.out] at hz'
      subst hz'
      have hb9 := kept_trans hb7 hb8
      have hrd9 := RdC.next hrd7 hb8
      have hrl9 := RdG.next hrl7 hb8
      have hrD9 := RdC.next hrD7 hb8
      have hNN : (N == N) = true := by simp
      clear hb7 hb8 hrd7 hrl7 hrD7
      go_wp2_with fail
      refine (equalCatalogs_same A5 z c5 A3 c3 D _ HZ.out (by omega) HTD.out hrF hrD9).mono ?_
      rintro e w10 ⟨rfl, hb10⟩
      have hb11 := kept_trans hb9 hb10
      have hrd11 := RdC.next hrd9 hb10
      have hrl11 := RdG.next hrl9 hb10
      clear hb9 hb10 hrd9 hrl9 hrD9 hrF
      have hold : z = m ↔ 0 ≤ fsV C l := by rw [← HZ.out, ← HL.out.1]; exact HOK.out.old
      generalize hfs : fsV C l = f at hold
      have HFS := Lib.hid hfs
      clear hfs
      by_cases hzm : z = m
      · have h1 : ((z : Int) == (m : Int)) = true := by simp [hzm]
        have h2 : 0 ≤ f := hold.1 hzm
        clear hold hzm
        go_wp2_with fail
        refine (findSeries_any A2 m c2 C B2 q d2 l _ HL.out.1 HL.out.2.2.1 hcap hrd11 hrl11).mono ?_
        rintro e w12 ⟨rfl, hb12⟩
        rw [HFS.out]
        have hb13 := kept_trans hb11 hb12
        clear hb11 hb12 hrd11 hrl11
        go_wp2
        go_ret
        exact ⟨rfl, hb13⟩
      · have h1 : ((z : Int) == (m : Int)) = false := by simp; omega
        have h2 : ¬ 0 ≤ f := fun h => hzm (hold.2 h)
        clear hold hzm
        go_wp2_with fail
        refine (findSeries_any A2 m c2 C B2 q d2 l _ HL.out.1 HL.out.2.2.1 hcap hrd11 hrl11).mono ?_
        rintro e w12 ⟨rfl, hb12⟩
        rw [HFS.out]
        have hb13 := kept_trans hb11 hb12
        clear hb11 hb12 hrd11 hrl11
        go_wp2
        go_ret
        exact ⟨ret_bool (show (!decide (0 ≤ f)) = true by rw [decide_eq_false (show ¬ 0 ≤ f by omega)]; rfl), hb13⟩
set_option maxHeartbeats 8000000 in
set_option maxRecDepth 100000 in
theorem fnAddSeriesFull_any (A : Option Addr) (n c : Nat) (w : World) (hm : n ≤ 9223372036854775807) (hc : n ≤ c) (hr : RdB w w.heap.size A n) :
    Calls Try.prog 6 #[.slice A n c] w fun e w' => e = .returned (.bool true) ∧ Below w.heap.size w w' := by
  by_cases hbig : (1048576 : Int) < n
  · go_enter Try.func6, Try.ntmps6
    go_wp2
    go_ret
    exact ⟨rfl, Below.refl _ _⟩
  · go_enter Try.func6, Try.ntmps6
    go_wp2_with fail
    refine (drawAddSeries_any A n c _ hm hc hr).mono ?_
    rintro e w1 ⟨A2, c2, m, C, B2, d2, q, l, rfl, hC, hm2, hcap, hsz, hl, hq2, hqd, hszl, hrd, hrl, hb1⟩
    have HL := Lib.hid (And.intro hC (And.intro hsz (And.intro hl hszl)))
    have HT := Lib.hid (adN_t hsz)
    clear hr
    rcases hq : adV C l with _ | ⟨D, N⟩
    · have HQ := Lib.hid hq
      clear hq hC hsz hl hszl
      go_wp2_with fail
      refine (addSeries_no A2 m c2 C B2 q d2 l _ HL.out.1 HL.out.2.2.1 hcap hrd hrl HQ).mono ?_
      rintro e w2 ⟨A3, c3, rfl, hb2⟩
      have hb3 := kept_trans hb1 hb2
      have hrd3 := RdC.next hrd hb2
      have hrl3 := RdG.next hrl hb2
      clear hb1 hb2 hrd hrl
      go_wp2_with fail
      refine (specAddSeries_no A2 m c2 C B2 q d2 l _ HL.out.1 HL.out.2.2.1 hcap (by omega) (by omega) HT.out HL.out.2.2.2 hrd3 hrl3 HQ).mono ?_
      rintro e w4 ⟨A4, c4, rfl, hb4⟩
      have hb5 := kept_trans hb3 hb4
      have hrd5 := RdC.next hrd3 hb4
      have hrl5 := RdG.next hrl3 hb4
      clear hb3 hb4 hrd3 hrl3
      go_wp2_with fail
      refine (equalCatalogs_same A3 0 c3 A4 c4 [] _ rfl (by omega) (fun i hi => absurd hi (by simp)) (RdC.nil _ _ _) (RdC.nil _ _ _)).mono ?_
      rintro e w6 ⟨rfl, hb6⟩
      have hb7 := kept_trans hb5 hb6
      have hrd7 := RdC.next hrd5 hb6
      have hrl7 := RdG.next hrl5 hb6
      clear hb5 hb6 hrd5 hrl5
      go_wp2_with fail
      refine (validCatalog_any A2 m c2 C _ HL.out.1 hcap hrd7).mono ?_
      rintro e w8 ⟨rfl, hb8⟩
      have hb9 := kept_trans hb7 hb8
      have hrd9 := RdC.next hrd7 hb8
      have hrl9 := RdG.next hrl7 hb8
      clear hb7 hb8 hrd7 hrl7
      rcases hv : vC C with _ | _
      · clear hv hrd9 hrl9
        go_wp2_with fail
        refine (equalCatalogs_same A3 0 c3 A4 c4 [] _ rfl (by omega) (fun i hi => absurd hi (by simp)) (RdC.nil _ _ _) (RdC.nil _ _ _)).mono ?_
        rintro e w10 ⟨rfl, hb10⟩
        have hb11 := kept_trans hb9 hb10
        clear hb9 hb10
        go_wp2
        go_ret
        exact ⟨rfl, hb11⟩
      · have HV := Lib.hid hv
        clear hv
        go_wp2_with fail
        refine (validLabels_any B2 q d2 l _ HL.out.2.2.1 hrl9).mono ?_
        rintro e w10 ⟨rfl, hb10⟩
        have hb11 := kept_trans hb9 hb10
        have hrd11 := RdC.next hrd9 hb10
        have hrl11 := RdG.next hrl9 hb10
        clear hb9 hb10 hrd9 hrl9
        rcases hv : vL l with _ | _
        · clear hv hrd11 hrl11
          go_wp2_with fail
          refine (equalCatalogs_same A3 0 c3 A4 c4 [] _ rfl (by omega) (fun i hi => absurd hi (by simp)) (RdC.nil _ _ _) (RdC.nil _ _ _)).mono ?_
          rintro e w12 ⟨rfl, hb12⟩
          have hb13 := kept_trans hb11 hb12
          clear hb11 hb12
          go_wp2
          go_ret
          exact ⟨rfl, hb13⟩
        · have hfl := adV_noFull HQ.out HV.out hv
          rw [HL.out.1] at hfl
          obtain ⟨h8, hneg⟩ := hfl
          generalize hfs : fsV C l = f at hneg
          have HFS := Lib.hid hfs
          have h8' : ¬ ((m : Int) < 8) := by omega
          clear hv hfs h8
          go_wp2_with fail
          refine (findSeries_any A2 m c2 C B2 q d2 l _ HL.out.1 HL.out.2.2.1 hcap hrd11 hrl11).mono ?_
          rintro e w12 ⟨rfl, hb12⟩
          rw [HFS.out]
          have hb13 := kept_trans hb11 hb12
          have hneg' : ¬ 0 ≤ f := by omega
          clear hb11 hb12 hrd11 hrl11
          go_wp2
          go_ret
          exact ⟨ret_bool (show (!decide ((m : Int) < 8) && !decide (0 ≤ f)) = true by rw [decide_eq_false (show ¬ (m : Int) < 8 by omega), decide_eq_false (show ¬ 0 ≤ f by omega)]; rfl), hb13⟩
    · have HQ := Lib.hid hq
      have HOK := Lib.hid (adV_ok hq)
      have hD := adV_some hq hsz hszl (by rw [hl]; exact hq2)
      have HTD := Lib.hid (adN_t hD.1)
      have hD8 := hD.2
      clear hq hC hsz hl hszl hD
      go_wp2_with fail
      refine (addSeries_yes A2 m c2 C B2 q d2 l _ D N HL.out.1 HL.out.2.2.1 hcap hrd hrl HQ).mono ?_
      rintro e w2 ⟨A3, c3, z, rfl, hz, hzc, hrD, hb2⟩
      have HZ := Lib.hid hz
      rw [hz] at hD8
      have hb3 := kept_trans hb1 hb2
      have hrd3 := RdC.next hrd hb2
      have hrl3 := RdG.next hrl hb2
      clear hb1 hb2 hrd hrl hz
      go_wp2_with fail
      refine (specAddSeries_yes A2 m c2 C B2 q d2 l _ D N HL.out.1 HL.out.2.2.1 hcap (by omega) (by omega) HT.out HL.out.2.2.2 hrd3 hrl3 HQ).mono ?_
      rintro e w4 ⟨A4, c4, z', rfl, hz', _, hrE, hb4⟩
      rw [HZ.out] at hz'
      subst hz'
      have hb5 := kept_trans hb3 hb4
      have hrd5 := RdC.next hrd3 hb4
      have hrl5 := RdG.next hrl3 hb4
      have hrD5 := RdC.next hrD hb4
      clear hb3 hb4 hrd3 hrl3 hrD
      go_wp2_with fail
      refine (equalCatalogs_same A3 z c3 A4 c4 D _ HZ.out (by omega) HTD.out hrD5 hrE).mono ?_
      rintro e w6 ⟨rfl, hb6⟩
      have hb7 := kept_trans hb5 hb6
      have hrd7 := RdC.next hrd5 hb6
      have hrl7 := RdG.next hrl5 hb6
      have hrD7 := RdC.next hrD5 hb6
      clear hb5 hb6 hrd5 hrl5 hrD5 hrE
      have hnn : (N != N) = false := by simp
      have hcz : m ≤ z := by have := HOK.out.len; rw [HL.out.1, HZ.out] at this; exact this
      have hczi : (m : Int) ≤ (z : Int) := by omega
      have hczc : (m : Int) ≤ (c3 : Int) := by omega
      go_wp2_with fail
      refine (validCatalog_any A2 m c2 C _ HL.out.1 hcap hrd7).mono ?_
      rintro e w8 ⟨rfl, hb8⟩
      rw [HOK.out.okC]
      have hb9 := kept_trans hb7 hb8
      have hrd9 := RdC.next hrd7 hb8
      have hrl9 := RdG.next hrl7 hb8
      clear hb7 hb8 hrd7 hrl7 hrD7
      go_wp2_with fail
      refine (validLabels_any B2 q d2 l _ HL.out.2.2.1 hrl9).mono ?_
      rintro e w10 ⟨rfl, hb10⟩
      rw [HOK.out.okL]
      have hb11 := kept_trans hb9 hb10
      have hrd11 := RdC.next hrd9 hb10
      have hrl11 := RdG.next hrl9 hb10
      clear hb9 hb10 hrd9 hrl9
      have hroom := HOK.out.room
      rw [HL.out.1] at hroom
      by_cases h8 : m < 8
      · have h8' : (m : Int) < 8 := by omega
        clear hroom hrd11 hrl11
        go_wp2_with fail
        go_ret
        exact ⟨rfl, hb11⟩
      · have hf : 0 ≤ fsV C l := by
          rcases hroom with h | h
          · omega
          · exact h
        generalize hfs : fsV C l = f at hf
        have HFS := Lib.hid hfs
        have h8' : ¬ (m : Int) < 8 := by omega
        clear hroom hfs
        go_wp2_with fail
        refine (findSeries_any A2 m c2 C B2 q d2 l _ HL.out.1 HL.out.2.2.1 hcap hrd11 hrl11).mono ?_
        rintro e w12 ⟨rfl, hb12⟩
        rw [HFS.out]
        have hb13 := kept_trans hb11 hb12
        clear hb11 hb12 hrd11 hrl11
        go_wp2
        go_ret
        exact ⟨rfl, hb13⟩
end Go.Proofs.Ytmnfcfhnmndakaa
