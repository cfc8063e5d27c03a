/-
  Walk: FnValidMatchers.
-/
import Derived.Test.YtjmdcdeccchlcaaMatGen
import Derived.Test.YtjmdcdeccchlcaaMatL1
import Derived.Deep.RegionHeld3
namespace Go.Proofs.Ytjmdcdeccchlcaa
open Go.RowKit
def flipM (x : Mt) : Mt := (x.1, x.2.1, !x.2.2)
theorem okMb_flip (x : Mt) : okMb (flipM x) = okMb x := rfl
theorem vM_flip (l : List Mt) : vM (l.map flipM) = vM l := by
  have : VM (l.map flipM) ↔ VM l := by
    unfold VM okMo
    rw [List.length_map]
    constructor
    · rintro ⟨h1, h2⟩
      exact ⟨h1, fun j hj => by have := h2 j hj; rwa [at0_map flipM l hj, okMb_flip] at this⟩
    · rintro ⟨h1, h2⟩
      exact ⟨h1, fun j hj => by rw [at0_map flipM l hj, okMb_flip]; exact h2 j hj⟩
  unfold vM
  exact decide_eq_decide.2 this
theorem flip_succ {l : List Mt} {k : Nat} (hk : k < l.length) : (l.take (k + 1)).map flipM = (l.take k).map flipM ++ [((at0 l k).1, (at0 l k).2.1, !(at0 l k).2.2)] := by rw [take_succ_at l hk, List.map_append]; rfl
theorem own_low {w : World} {v : Value} {e : TypeId} {size n B g : Nat} {xs : List Value} (h : w.ownsRow B e size v n xs) (hg : g < B) : v.ownBlock ≠ some g := fun hc => by
  have := (h.lt g hc).1
  omega
set_option maxHeartbeats 1000000 in
theorem drawValidMatchers_any (A : Option Addr) (n c : Nat) (w : World) (hm : n ≤ 9223372036854775807) (hc : n ≤ c) (hr : RdB w w.heap.size A n) :
    Calls Try.prog 15 #[.slice A n c] w (DrawM w) := by
  go_enter Try.func15, Try.ntmps15
  go_wp2_with fail
  refine (newReader_any A n c _ hm hc hr).mono ?_
  rintro e w1 ⟨rfl, hr1, hb1⟩
  clear hr
  go_wp2_with fail
  refine (anyMatchers_any w.heap.size 0 _ (by omega) hr1).mono ?_
  rintro e w2 ⟨A2, c2, m, l, p1, rfl, hl, hm2, hcap, hsz, hown, hr2, hp2, ho2⟩
  have hb2 := Only.below hb1 ho2 (Nat.le_refl _)
  have hrd := own_rdG hown hl
  have HS := Lib.hid (And.intro hl (And.intro hsz hrd))
  clear hl hsz hrd hr1 hr2 hb1 ho2 hown
  go_wp2
  go_ret
  exact ⟨_, _, m, l, rfl, HS.out.1, hm2, hcap, HS.out.2.1, HS.out.2.2, hb2⟩
set_option maxHeartbeats 4000000 in
theorem fnValidMatchers_any (A : Option Addr) (n c : Nat) (w : World) (hm : n ≤ 9223372036854775807) (hc : n ≤ c) (hr : RdB w w.heap.size A n) :
    Calls Try.prog 3 #[.slice A n c] w fun e w' => e = .returned (.bool true) ∧ Below w.heap.size w w' := by
  obtain ⟨i0, hi, hz0, hz1, hz2⟩ := info_parts infoMatcher
  by_cases hbig : (1048576 : Int) < n
  · go_enter Try.func3, Try.ntmps3
    go_wp2
    go_ret
    exact ⟨rfl, Below.refl _ _⟩
  · go_enter Try.func3, Try.ntmps3
    go_wp2_with fail
    refine (drawValidMatchers_any A n c _ hm hc hr).mono ?_
    rintro e w1 ⟨A2, c2, m, l, rfl, hl, hm2, hcap, hsz, hrd, hb1⟩
    have HL := Lib.hid (And.intro hl hsz)
    clear hl hr hsz
    go_wp2_with fail
    refine (validMatchers_any A2 m c2 l _ HL.out.1 hrd).mono ?_
    rintro e w2 ⟨rfl, hb2⟩
    have hb3 := kept_trans hb1 hb2
    have hrd3 := RdG.next hrd hb2
    clear hb1 hb2 hrd
    go_wp2_with fail
    refine (specValidMatchersE_any A2 m c2 l _ HL.out.1 (by omega) HL.out.2 hrd3).mono ?_
    rintro e w4 ⟨rfl, hb4⟩
    have hb5 := kept_trans hb3 hb4
    have hrd5 := RdG.next hrd3 hb4
    clear hb3 hb4 hrd3
    have HX := Lib.hid (And.intro hb5 hrd5)
    have HF := Lib.hid (vM_flip l)
    have HO := Lib.hid (show (w4.alloc (Obj.cells #[] 27)).ownsRow w4.heap.size 27 3 (.slice (some ⟨w4.heap.size, 0, none⟩) 0 0) 0 (rowG encM 3 []) by rw [rowG_nil]; exact World.ownsRow_made w4 #[] 0 (Nat.le_refl _) (by unfold maxLen; omega) rfl)
    have HB := Lib.hid (kept_alloc (Below.refl w4.heap.size w4) (Obj.cells #[] 27))
    clear hb5 hrd5
    rcases hv : vM l with _ | _
    all_goals
      have HV := Lib.hid hv
      clear hv
      go_wp2
      go_loopw [5, 6] (fun v i wr => ∃ (k : Nat) (A' : Option Addr) (c' : Nat) (z : Nat) (pre : List Mt), v = .slice A' z c' ∧ i = .int .i64 k ∧ k ≤ m ∧ pre.length = z ∧ z = k ∧ pre = (l.take k).map flipM ∧ wr.ownsRow w4.heap.size 27 3 (.slice A' z c') z (rowG encM 3 pre) ∧ Below w4.heap.size w4 wr) (fun _ i _ => m - (intOf i).toNat)
      case atStart => exact ⟨0, _, _, 0, [], rfl, rfl, by omega, rfl, rfl, rfl, HO.out, HB.out⟩
      case round =>
        obtain ⟨k, A', c', z, pre, rfl, rfl, hk, hz, hzk, hpre, hown, hb⟩ := hrel
        have HZ := Lib.hid hz
        have HP := Lib.hid hpre
        have HZK := Lib.hid hzk
        have hz10 : z ≤ 5 := by omega
        clear hz hpre hzk
        by_cases hlt : k < m
        · have hki : (k : Int) < (m : Int) := by omega
          have hln : k < l.length := by rw [HL.out.1]; exact hlt
          have HS := Lib.hid (flip_succ hln)
          have hrr := RdG.below HX.out.2 hb
          obtain ⟨b, off, rfl, hbb, hcc⟩ := RdM.at_ hrr (by rw [HL.out.1]; omega)
          obtain ⟨hc0, hc1, hc2⟩ := hcc k hln
          have hne := own_low hown hbb
          have hwr := hb.size
          clear hcc hrr
          go_wp2_with fail
          go_region_held3 (fun w' => w'.cell? ⟨b, off + k * 3, none⟩ = some (.string (at0 l k).1) ∧ w'.cell? ⟨b, off + k * 3 + 1, none⟩ = some (.string (at0 l k).2.1) ∧ w'.cell? ⟨b, off + k * 3 + 2, none⟩ = some (.bool (at0 l k).2.2))
            (first | go_keep | (go_split_ands; (repeat' apply And.intro) <;> (rw [hgrow.cell_far _ (by simp; omega) (Ne.symm hne)]; assumption)))
            ((refine step_append_lies _ (by rfl) _ _ _ (by rfl) w4.heap.size 27 i0 _ 3 40 Try.underlying23 hi hz0 hz1 hz2 rfl (by omega) _ z (rowG encM 3 pre) (by rfl) ((hown.alloc _).drew) ⟨wr.heap.size, 0, none⟩ 1 1 ([.string (at0 l k).1, .string (at0 l k).2.1, .bool (!(at0 l k).2.2)]) (by rfl) (by rfl) (World.news_of_block (cs := ([.string (at0 l k).1, .string (at0 l k).2.1, .bool (!(at0 l k).2.2)]).toArray) (t := 27) (fr := (0, 0)) (heap_alloc_new wr _)) (by simp [Value.oneCell']) (by omega) (by simp only [maxLen]; omega) (by omega) (by simp; omega) (wr.heap.size + 1) (by simp) ?_; intro gg cap w2 hown2 hgrow hat hlt2))
          have hb2 := below_app hb hown hgrow
          rw [← rowM_snoc] at hown2
          clear hgrow hat hown hb hne hc0 hc1 hc2
          go_wp2
          go_roundw
          case rel => exact ⟨k + 1, _, _, z + 1, _, rfl, by go_num, by omega, by rw [List.length_append, HZ.out]; rfl, by rw [HZK.out], by rw [HS.out, HP.out], hown2, hb2⟩
          case measure => simp [intOf]; omega
        · have HA := Lib.hid (show pre = l.map flipM by rw [HP.out, List.take_of_length_le (by rw [HL.out.1]; omega)])
          have hro := own_rdG hown HZ.out
          clear hown
          go_wp2_with fail
          refine (validMatchers_any A' z c' pre _ HZ.out hro).mono ?_
          rintro e w6 ⟨rfl, hb6⟩
          rw [HA.out, HF.out, HV.out]
          have hb7 := kept_trans HX.out.1 (kept_trans hb hb6)
          clear hb hb6 hro
          go_wp2
          go_ret
          exact ⟨rfl, hb7⟩
end Go.Proofs.Ytjmdcdeccchlcaa
