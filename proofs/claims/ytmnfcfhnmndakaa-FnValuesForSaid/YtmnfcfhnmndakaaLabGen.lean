/-
  The generators of labels: of, someLabels, anyLabels.
-/
import Derived.Test.YtmnfcfhnmndakaaLabCopy
import Derived.Test.YtmnfcfhnmndakaaReader
import Derived.Deep.RegionHeld3
namespace Go.Proofs.Ytmnfcfhnmndakaa
open Go.RowKit
theorem own_cap {w : World} {B : Nat} {e : TypeId} {size n c : Nat} {A : Option Addr} {xs : List Value} (h : w.ownsRow B e size (.slice A n c) n xs) : n ≤ c := by
  rcases h.2 with ⟨h1, h2⟩ | ⟨_, cap, _, h1, _, _, h2, _⟩
  · omega
  · injection h1 with _ _ h3; omega
theorem size_alloc1 (w : World) (o : Obj) : (w.alloc o).heap.size = w.heap.size + 1 := by simp
/-- One of some texts. -/
def OfPost (w : World) (g : Nat) (p : Int) (e : Ending) (w' : World) : Prop := ∃ x : ByteArray, e = .returned (.string x) ∧ x.size ≤ 16 ∧ Rdr w' g (p + 1) ∧ Only g w w'
set_option maxHeartbeats 1000000 in
set_option maxRecDepth 100000 in
theorem of_any (g : Nat) (p : Int) (b n c : Nat) (l : List ByteArray) (w : World) (hp : p ≤ 1000000000000) (hr : Rdr w g p) (hn : l.length = n) (hn1 : 1 ≤ n) (hn2 : n ≤ 1000) (hsz : ∀ x ∈ l, x.size ≤ 16)
    (hbg : b ≠ g) (hbs : b < w.heap.size) (hc : ∀ k, k < n → w.cell? ⟨b, k, none⟩ = some (.string (at0 l k))) :
    Calls Try.prog 56 #[.pointer (some ⟨g, 0, none⟩), .slice (some ⟨b, 0, none⟩) n c] w (OfPost w g p) := by
  have HN := Lib.hid hn
  have HS := Lib.hid hsz
  clear hn hsz
  go_enter Try.func56, Try.ntmps56
  go_wp2_with fail
  refine (pick_any g p n _ hp hr).mono ?_
  rintro e w1 ⟨x, rfl, hx0, hx1, _, hr1, ho1⟩
  have hx2 := hx1 (by omega)
  have hcx := hc x.toNat (by omega)
  rw [← World.cell?_of_block (a := ⟨b, x.toNat, none⟩) (ho1.block b hbs (by simpa using hbg))] at hcx
  have HX := Lib.hid (HS.out _ (at0_mem (l := l) (i := x.toNat) (by rw [HN.out]; omega)))
  clear hc hx1
  go_wp2
  go_ret
  exact ⟨_, rfl, HX.out, hr1, ho1⟩
theorem of_lit (g : Nat) (p : Int) (l : List ByteArray) (n q : Nat) (cs : Array Value) (W : World) (hcs : cs = (l.map Value.string).toArray) (hn : l.length = n) (hn1 : 1 ≤ n) (hn2 : n ≤ 1000) (hsz : ∀ x ∈ l, x.size ≤ 16) (hq : W.heap.size = q) (hp : p ≤ 1000000000000) (hr : Rdr W g p) :
    Calls Try.prog 56 #[.pointer (some ⟨g, 0, none⟩), .slice (some ⟨q, 0, none⟩) n n] (W.alloc (.cells cs 9)) (OfPost W g p) := by
  subst hq
  have hg := hr.lt
  have hb := Blk.new W 9 cs
  refine (of_any g p _ n n l _ hp (hr.kept (kept_alloc (Below.refl _ _) _)) hn hn1 hn2 hsz (by omega) (by simp) (fun k hk => ?_)).mono ?_
  · rw [hb.cell k, hcs]
    have hk' : k < l.length := by omega
    rw [at0_get hk']
    simp [List.getElem?_eq_getElem hk']
  · rintro e w' ⟨x, rfl, hx, h1, h2⟩
    exact ⟨_, rfl, hx, h1, ((Only.refl g W).alloc _).trans h2⟩
def GenL (b : Nat) (d : Int) (w : World) (g : Nat) (p : Int) (e : Ending) (w' : World) : Prop :=
  ∃ (A : Option Addr) (c m : Nat) (l : List Lb) (p' : Int), e = .returned (.slice A m c) ∧ l.length = m ∧ m ≤ b ∧ m ≤ c ∧ SzL l ∧ w'.ownsRow w.heap.size 81 2 (.slice A m c) m (rowG encL 2 l) ∧ Rdr w' g p' ∧ p' ≤ p + d ∧ Only g w w'
theorem SzL_nil : SzL [] := fun i hi => absurd hi (by simp)
theorem SzL_snoc {l : List Lb} {a b : ByteArray} (h : SzL l) (h1 : a.size ≤ 16) (h2 : b.size ≤ 16) : SzL (l ++ [(a, b)]) := fun i hi => by
  rw [List.length_append, List.length_singleton] at hi
  rcases Nat.lt_or_ge i l.length with h3 | h3
  · rw [at0_append _ _ h3]; exact h i h3
  · have e : i = l.length := by omega
    subst e
    rw [at0_append_r _ _ (Nat.le_refl _), Nat.sub_self]
    show a.size ≤ _ ∧ b.size ≤ _
    omega
def nms : Array Value := #[.string ⟨#[97]⟩, .string ⟨#[104, 111, 115, 116]⟩, .string ⟨#[106, 111, 98]⟩, .string ⟨#[122, 111, 110, 101]⟩]
theorem nms_at {k : Nat} (h : k < 4) : ∃ s : ByteArray, nms[k]? = some (.string s) ∧ s.size ≤ 16 := by
  match k, h with
  | 0, _ => exact ⟨_, rfl, by decide⟩
  | 1, _ => exact ⟨_, rfl, by decide⟩
  | 2, _ => exact ⟨_, rfl, by decide⟩
  | 3, _ => exact ⟨_, rfl, by decide⟩
set_option maxHeartbeats 4000000 in
set_option maxRecDepth 100000 in
theorem someLabels_any (g : Nat) (p : Int) (w : World) (hp : p ≤ 1000000000) (hr : Rdr w g p) :
    Calls Try.prog 83 #[.pointer (some ⟨g, 0, none⟩)] w (GenL 4 20 w g p) := by
  have hg := hr.lt
  obtain ⟨i0, hi, hz0, hz1, hz2⟩ := info_parts infoLabel
  have hO0 : (w.alloc (Obj.cells #[] 81)).ownsRow w.heap.size 81 2 (.slice (some ⟨w.heap.size, 0, none⟩) 0 0) 0 (rowG encL 2 []) := by rw [rowG_nil]; exact World.ownsRow_made w #[] 0 (Nat.le_refl _) (by unfold maxLen; omega) rfl
  have hO1 := own_kept hO0 (kept_alloc (Below.refl _ _) (Obj.cells nms 9))
  have hr1 := (hr.kept (kept_alloc (Below.refl _ _) (Obj.cells #[] 81))).kept (kept_alloc (Below.refl _ _) (Obj.cells nms 9))
  have ho1 := ((Only.refl g w).alloc (Obj.cells #[] 81)).alloc (Obj.cells nms 9)
  have hb1 := Blk.new (w.alloc (Obj.cells #[] 81)) 9 nms
  rw [size_alloc1] at hb1
  have HX := Lib.hid (And.intro hO1 (And.intro hr1 (And.intro ho1 hb1)))
  clear hr hO0 hO1 hr1 ho1 hb1
  go_enter Try.func83, Try.ntmps83
  go_wp2
  go_loopw [3, 5] (fun v i wr => ∃ (A' : Option Addr) (c' m k : Nat) (l' : List Lb) (p' : Int), v = .slice A' m c' ∧ i = .int .i64 k ∧ k ≤ 4 ∧ l'.length = m ∧ m ≤ k ∧ SzL l' ∧
      wr.ownsRow w.heap.size 81 2 (.slice A' m c') m (rowG encL 2 l') ∧ (Value.slice A' m c').ownBlock ≠ some (w.heap.size + 1) ∧ Blk wr (w.heap.size + 1) 9 nms ∧ Rdr wr g p' ∧ p' ≤ p + 2 * k ∧ Only g w wr) (fun _ i _ => 4 - (intOf i).toNat)
  case atStart => exact ⟨_, _, 0, 0, [], _, rfl, rfl, by omega, rfl, by omega, SzL_nil, HX.out.1, by intro h; have h2 : w.heap.size = w.heap.size + 1 := Option.some.inj h; omega, HX.out.2.2.2, HX.out.2.1, by omega, HX.out.2.2.1⟩
  case round =>
    obtain ⟨A', c', m, k, l', p', rfl, rfl, hk, hlm, hmk, hsz, hown, hne, hbl, hrr, hpp, hon⟩ := hrel
    have HL := Lib.hid hlm
    have HSz := Lib.hid hsz
    have HNE := Lib.hid hne
    have hwr := hon.size
    have hlb := hbl.lt
    clear HX hlm hsz hne
    by_cases hlt : k < 4
    · have hki : (k : Int) < 4 := by omega
      go_wp2_with fail
      refine (pick_any g p' 2 _ (by omega) hrr).mono ?_
      rintro e w4 ⟨y, rfl, y0, y1, _, hr4, ho4⟩
      have hO4 := Only.own hown ho4 hg
      have hs4 := hon.trans ho4
      have hb4 := Only.blk hbl ho4 (by omega)
      have hwr4 := hs4.size
      have hlb4 := hb4.lt
      clear hown hrr hon ho4 hwr y1 hbl hlb
      by_cases hy : y = 0
      · have hyz : (y == 0) = true := by simp [hy]
        obtain ⟨s, hs1, hs2⟩ := nms_at hlt
        have hcs := (hb4.cell k).trans hs1
        have hrD : Rdr w4.drew g (p' + 1) := hr4
        have hO4D : w4.drew.ownsRow w.heap.size 81 2 (.slice A' m c') m (rowG encL 2 l') := hO4
        have hb4D : Blk w4.drew (w.heap.size + 1) 9 nms := hb4
        have HNG := Lib.hid (show w.heap.size + 1 ≠ g by omega)
        have HSS := Lib.hid (show ∀ x ∈ ([⟨#[120]⟩, ⟨#[121]⟩, ⟨#[117, 112]⟩, ⟨#[120]⟩] : List ByteArray), x.size ≤ 16 by decide)
        have HS1 := Lib.hid hs1
        clear hy hs1
        go_wp2_with fail
        go_region_held3 (fun w' => w'.cell? ⟨w.heap.size + 1, k, none⟩ = some (.string s))
          (first | go_keep | exact hcs5 | exact hcs7)
          (first
          | (go_at_call 56; refine (of_lit g (p' + 1) [⟨#[120]⟩, ⟨#[121]⟩, ⟨#[117, 112]⟩, ⟨#[120]⟩] 4 _ _ _ rfl rfl (by omega) (by omega) HSS.out rfl (by omega) hrD).mono ?_; rintro e w5 ⟨x, rfl, hx, hr5, ho5⟩; have hO5 := Only.own hO4D ho5 hg; have hb5 := Only.blk hb4D ho5 HNG.out; have hcs5 := (hb5.cell k).trans HS1.out; have h5sz := ((hs4.drew).trans ho5).size)
          | ((refine step_append_lies _ (by rfl) _ _ _ (by rfl) w.heap.size 81 i0 _ 2 32 Try.underlying33 hi hz0 hz1 hz2 rfl (by omega) _ m (rowG encL 2 l') (by rfl) (hO5.alloc _) ⟨w5.heap.size, 0, none⟩ 1 1 ([.string s, .string x]) (by rfl) (by rfl) (World.news_of_block (cs := ([.string s, .string x]).toArray) (t := 81) (fr := (0, 0)) (heap_alloc_new w5 _)) (by simp [Value.oneCell']) (by omega) (by simp only [maxLen]; omega) (by omega) (by simp; omega) (w5.heap.size + 1) (by simp) ?_; intro gg cap w2 hown2 hgrow hat hlt2); have hcs7 := (((hb5.alloc (Obj.cells #[Value.string s, Value.string x] 81)).grown hgrow (Ne.symm HNE.out)).cell k).trans HS1.out))
        have hb6 := (hb5.alloc (Obj.cells #[Value.string s, Value.string x] 81)).grown hgrow (Ne.symm HNE.out)
        have hrW := rdr_app hr5 hO5 hg hgrow
        have hoW := only_app ((hs4.drew).trans ho5) hO5 hgrow
        have h5s := ho5.size
        have hneW : (Value.slice (some ⟨gg, 0, none⟩) (m + 1) cap).ownBlock ≠ some (w.heap.size + 1) := fun h => by
          have e : gg = w.heap.size + 1 := Option.some.inj h
          rcases hat with h1 | h1
          · exact HNE.out (by rw [h1, e])
          · have : w4.drew.heap.size = w4.heap.size := rfl
            omega
        have HW := Lib.hid hneW
        rw [← rowL_snoc] at hown2
        clear hgrow hat hO5 hs4 hwr4 hneW hr5 ho5 hcs5 hcs hb4 hb5 hb4D hO4 hO4D hrD hr4
        go_wp2
        go_roundw
        case rel => exact ⟨_, _, m + 1, k + 1, _, _, rfl, by go_num, by omega, by rw [List.length_append, HL.out]; rfl, by omega, SzL_snoc HSz.out hs2 hx, hown2, HW.out, hb6, hrW, by omega, hoW⟩
        case measure => simp [intOf]; omega
      · have hyz : (y == 0) = false := by simp [hy]
        clear hy
        go_wp2
        go_roundw
        case rel => exact ⟨_, _, m, k + 1, _, _, rfl, by go_num, by omega, HL.out, by omega, HSz.out, hO4, HNE.out, hb4, hr4, by omega, hs4⟩
        case measure => simp [intOf]; omega
    · have hcap := own_cap hown
      go_wp2
      go_ret
      exact ⟨A', c', m, l', p', rfl, HL.out, by omega, hcap, HSz.out, hown, hrr, by omega, hon⟩
set_option maxHeartbeats 4000000 in
set_option maxRecDepth 100000 in
theorem anyLabels_any (g : Nat) (p : Int) (w : World) (hp : p ≤ 900000000) (hr : Rdr w g p) :
    Calls Try.prog 85 #[.pointer (some ⟨g, 0, none⟩)] w (GenL 5 30 w g p) := by
  have hg := hr.lt
  obtain ⟨i0, hi, hz0, hz1, hz2⟩ := info_parts infoLabel
  go_enter Try.func85, Try.ntmps85
  go_wp2_with fail
  refine (someLabels_any g p _ (by omega) hr).mono ?_
  rintro e w1 ⟨A, c, m, l, p1, rfl, hl, hm, hcap, hsz, hown, hr1, hp1, ho1⟩
  have HL := Lib.hid hl
  have HS := Lib.hid hsz
  clear hl hsz hr
  go_wp2_with fail
  refine (pick_any g p1 16 _ (by omega) hr1).mono ?_
  rintro e w2 ⟨x, rfl, x0, x1', _, hr2, ho2⟩
  have hO2 := Only.own hown ho2 hg
  have hs2 := ho1.trans ho2
  clear hown hr1 ho1 ho2 x1'
  by_cases hx : x = 0
  · have hxz : (x == 0) = true := by simp [hx]
    clear hx
    go_wp2_with fail
    refine (of_lit g (p1 + 1) [⟨#[97]⟩, ⟨#[122, 122]⟩, ⟨#[122, 122, 122, 122, 122]⟩, ⟨#[]⟩, ⟨#[122, 65]⟩] 5 _ _ _ rfl rfl (by omega) (by omega) (by decide) rfl (by omega) hr2).mono ?_
    rintro e w3 ⟨a, rfl, ha, hr3, ho3⟩
    have hO3 := Only.own hO2 ho3 hg
    have hs3 := hs2.trans ho3
    clear hO2 hr2 hs2 ho3
    go_wp2_with fail
    refine (of_lit g (p1 + 1 + 1) [⟨#[120]⟩, ⟨#[]⟩, ⟨#[120, 120, 120, 120, 120]⟩, ⟨#[49]⟩] 4 _ _ _ rfl rfl (by omega) (by omega) (by decide) rfl (by omega) hr3).mono ?_
    rintro e w4 ⟨b, rfl, hb, hr4, ho4⟩
    have hO4 := Only.own hO3 ho4 hg
    have hs4 := hs3.trans ho4
    have hwr := hs4.size
    clear hO3 hr3 hs3 ho4
    go_wp2_with (at_builtin; refine wpList_append_lies _ rfl _ _ _ rfl (w.heap.size) 81 i0 _ 2 32 Try.underlying33 hi hz0 hz1 hz2 rfl (by omega) _ (m) (rowG encL 2 l) rfl ((hO4).alloc _) ⟨w4.heap.size, 0, none⟩ 1 1 ([.string a, .string b]) rfl rfl (World.news_of_block (cs := ([.string a, .string b]).toArray) (t := 81) (fr := (0, 0)) (heap_alloc_new w4 _)) (by simp [Value.oneCell']) (by omega) (by simp only [maxLen]; omega) (by omega) (by simp; omega) (w4.heap.size + 1) (by simp) ?_; intro gg cap w2 hown2 hgrow hat hlt2)
    have hrW := rdr_app hr4 hO4 hg hgrow
    have hoW := only_app hs4 hO4 hgrow
    rw [← rowL_snoc] at hown2
    have hcap2 := own_cap hown2
    clear hO4 hgrow hat hr4 hs4 hwr
    go_wp2
    go_ret
    exact ⟨_, _, m + 1, _, _, rfl, by rw [List.length_append, HL.out]; rfl, by omega, hcap2, SzL_snoc HS.out ha hb, hown2, hrW, by omega, hoW⟩
  · have hxz : (x == 0) = false := by simp [hx]
    clear hx
    go_wp2
    go_ret
    exact ⟨_, _, m, _, _, rfl, HL.out, by omega, hcap, HS.out, hO2, hr2, by omega, hs2⟩
/-- Drawn labels, as the laws take them. -/
def DrawL (w : World) (e : Ending) (w' : World) : Prop :=
  ∃ (A : Option Addr) (c m : Nat) (l : List Lb), e = .returned (.slice A m c) ∧ l.length = m ∧ m ≤ 5 ∧ m ≤ c ∧ SzL l ∧ RdL w' w'.heap.size A l ∧ Below w.heap.size w w'
end Go.Proofs.Ytmnfcfhnmndakaa
