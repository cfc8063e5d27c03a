/-
  Walk: FnMatchesAllValue.
-/
import Derived.Test.YtnnbfdlicadgfaaMAGen
import Derived.Test.YtnnbfdlicadgfaaMAW
import Derived.Deep.RegionHeld3
import Derived.Deep.RegionLaw
namespace Go.Proofs.Ytnnbfdlicadgfaa
open Go.RowKit
theorem own_low {w : World} {v : Value} {e : TypeId} {size n B g : Nat} {xs : List Value} (h : w.ownsRow B e size v n xs) (hg : g < B) : v.ownBlock ≠ some g := fun hc => by
  have := (h.lt g hc).1
  omega
set_option maxHeartbeats 8000000 in
set_option maxRecDepth 100000 in
theorem fnMatchesAllValue_any (A : Option Addr) (n c : Nat) (w : World) (hm : n ≤ 9223372036854775807) (hc : n ≤ c) (hr : RdB w w.heap.size A n) :
    Calls Try.prog 5 #[.slice A n c] w fun e w' => e = .returned (.bool true) ∧ Below w.heap.size w w' := by
  obtain ⟨i0, hi, hz0, hz1, hz2⟩ := info_parts infoMatcher
  by_cases hbig : (1048576 : Int) < n
  · go_enter Try.func5, Try.ntmps5
    go_wp2
    go_ret
    exact ⟨rfl, Below.refl _ _⟩
  · go_enter Try.func5, Try.ntmps5
    go_wp2_with fail
    refine (drawMatchesAll_any A n c _ hm hc hr).mono ?_
    rintro e w1 ⟨A2, c2, m, l, B2, d2, q, want, rfl, hl, hm2, hcap, hsz, hq, hq2, hqd, hsz2, hrd, hrn, hb1⟩
    have HL := Lib.hid (And.intro hl (And.intro hsz (And.intro hq hsz2)))
    clear hl hr hsz hq hsz2
    go_wp2_with fail
    refine (matchesAll_any A2 m c2 l B2 q d2 want _ HL.out.1 HL.out.2.2.1 hrd hrn).mono ?_
    rintro e w2 ⟨rfl, hb2⟩
    have hb3 := kept_trans hb1 hb2
    have hrd3 := RdG.next hrd hb2
    have hrn3 := RdG.next hrn hb2
    clear hb1 hb2 hrd hrn
    go_wp2_with fail
    refine (specMatchesAll_any A2 m c2 l B2 q d2 want _ HL.out.1 (by omega) HL.out.2.2.1 (by omega) HL.out.2.1 HL.out.2.2.2 hrd3 hrn3).mono ?_
    rintro e w4 ⟨rfl, hb4⟩
    have hb5 := kept_trans hb3 hb4
    have hrd5 := RdG.next hrd3 hb4
    have hrn5 := RdG.next hrn3 hb4
    clear hb3 hb4 hrd3 hrn3
    go_wp2_with fail
    refine (validLabels_any A2 m c2 l _ HL.out.1 hrd5).mono ?_
    rintro e w6 ⟨rfl, hb6⟩
    have hb7 := kept_trans hb5 hb6
    have hrd7 := RdG.next hrd5 hb6
    have hrn7 := RdG.next hrn5 hb6
    clear hb5 hb6 hrd5 hrn5
    rcases hv : vL l with _ | _
    · have HMV := Lib.hid (maV_no1 (want := want) hv)
      clear hv
      go_wp2_with fail
      refine (specMatchesAll_any A2 m c2 l B2 q d2 want _ HL.out.1 (by omega) HL.out.2.2.1 (by omega) HL.out.2.1 HL.out.2.2.2 hrd7 hrn7).mono ?_
      rintro e w8 ⟨rfl, hb8⟩
      rw [HMV.out]
      go_wp2
      go_ret
      exact ⟨rfl, kept_trans hb7 hb8⟩
    · have HV := Lib.hid hv
      clear hv
      have HO := Lib.hid (show (w6.alloc (Obj.cells #[] 32)).ownsRow w6.heap.size 32 3 (.slice (some ⟨w6.heap.size, 0, none⟩) 0 0) 0 (rowG encM 3 []) by rw [rowG_nil]; exact World.ownsRow_made w6 #[] 0 (Nat.le_refl _) (by unfold maxLen; omega) rfl)
      have HB := Lib.hid (kept_alloc (Below.refl w6.heap.size w6) (Obj.cells #[] 32))
      have HX := Lib.hid (And.intro hb7 hrd7)
      have HA := Lib.hid (own_all HV.out)
      have hb9 : True := trivial
      clear hb7 hrd7 hrn7 hb9
      rcases hmv : maV l want with _ | _
      all_goals
        clear hmv
        go_wp2
        go_loopw [6, 7] (fun v i wr => ∃ (k : Nat) (A' : Option Addr) (c' : Nat) (z : Nat) (pre : List Mt), v = .slice A' z c' ∧ i = .int .i64 k ∧ k ≤ m ∧ pre.length = z ∧ z = k ∧ pre = (l.take k).map ownM ∧ wr.ownsRow w6.heap.size 32 3 (.slice A' z c') z (rowG encM 3 pre) ∧ Below w6.heap.size w6 wr) (fun _ i _ => m - (intOf i).toNat)
        case atStart => exact ⟨0, _, _, 0, [], rfl, rfl, by omega, rfl, rfl, rfl, HO.out, HB.out⟩
        case round =>
          obtain ⟨k, A', c', z, pre, rfl, rfl, hk, hz, hzk, hpre, hown, hb⟩ := hrel
          have HZ := Lib.hid hz
          have HP := Lib.hid hpre
          have HZK := Lib.hid hzk
          have hz10 : z ≤ 5 := by omega
          clear hz hpre hzk
          by_cases hlt : k < m
          · have hki : (k : Int) < (m : Int) := by omega
            have hln : k < l.length := by rw [HL.out.1]; exact hlt
            have HS := Lib.hid (show (l.take (k + 1)).map ownM = (l.take k).map ownM ++ [((at0 l k).1, (at0 l k).2, false)] by rw [take_succ_at l hln, List.map_append]; rfl)
            have hrr := RdG.below HX.out.2 hb
            obtain ⟨b, off, rfl, hbb, hcc⟩ := RdL.at_ hrr (by rw [HL.out.1]; omega)
            obtain ⟨hc0, hc1⟩ := hcc k hln
            have hne := own_low hown hbb
            have hwr := hb.size
            clear hcc hrr
            go_wp2_with fail
            go_region_held3 (fun w' => w'.cell? ⟨b, off + k * 2, none⟩ = some (.string (at0 l k).1) ∧ w'.cell? ⟨b, off + k * 2 + 1, none⟩ = some (.string (at0 l k).2))
              (first | go_keep | (go_split_ands; (repeat' apply And.intro) <;> (rw [hgrow.cell_far _ (by simp; omega) (Ne.symm hne)]; assumption)))
              ((refine step_append_lies _ (by rfl) _ _ _ (by rfl) w6.heap.size 32 i0 _ 3 40 Try.underlying24 hi hz0 hz1 hz2 rfl (by omega) _ z (rowG encM 3 pre) (by rfl) ((hown.alloc _).drew) ⟨wr.heap.size, 0, none⟩ 1 1 ([.string (at0 l k).1, .string (at0 l k).2, .bool false]) (by rfl) (by rfl) (World.news_of_block (cs := ([.string (at0 l k).1, .string (at0 l k).2, .bool false]).toArray) (t := 32) (fr := (0, 0)) (heap_alloc_new wr _)) (by simp [Value.oneCell']) (by omega) (by simp only [maxLen]; omega) (by omega) (by simp; omega) (wr.heap.size + 1) (by simp) ?_; intro gg cap w2 hown2 hgrow hat hlt2))
            have hb2 := below_app hb hown hgrow
            rw [← rowM_snoc] at hown2
            clear hgrow hat hown hb hne hc0 hc1
            go_wp2
            go_roundw
            case rel => exact ⟨k + 1, _, _, z + 1, _, rfl, by go_num, by omega, by rw [List.length_append, HZ.out]; rfl, by rw [HZK.out], by rw [HS.out, HP.out], hown2, hb2⟩
            case measure => simp [intOf]; omega
          · have HAA := Lib.hid (show maV l pre = true by rw [HP.out, List.take_of_length_le (by rw [HL.out.1]; omega)]; exact HA.out)
            have hro := own_rdG hown HZ.out
            have hrl := RdG.to HX.out.2 hb
            clear hown
            go_wp2_with fail
            refine (matchesAll_any A2 m c2 l A' z c' pre _ HL.out.1 HZ.out hrl hro).mono ?_
            rintro e w8 ⟨rfl, hb8⟩
            rw [HAA.out]
            have hb9 := kept_trans HX.out.1 (kept_trans hb hb8)
            clear hb hb8 hro hrl
            go_wp2
            go_ret
            exact ⟨rfl, hb9⟩
end Go.Proofs.Ytnnbfdlicadgfaa
