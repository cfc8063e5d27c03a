/-
  Walk: FnMatchesAllNot.
-/
import Derived.Test.YtnnbfdlicadgfaaMAGen
import Derived.Test.YtnnbfdlicadgfaaMAW
import Derived.Deep.RegionHeld3
import Derived.Deep.RegionLaw
namespace Go.Proofs.Ytnnbfdlicadgfaa
open Go.RowKit
theorem rdM_new (w : World) (x : Mt) (g : Nat) (h : w.heap.size = g) : RdM (w.alloc (Obj.cells #[Value.string x.1, Value.string x.2.1, Value.bool x.2.2] 32)) (w.alloc (Obj.cells #[Value.string x.1, Value.string x.2.1, Value.bool x.2.2] 32)).heap.size (some ⟨g, 0, none⟩) [x] := by
  subst h
  exact fun _ => ⟨w.heap.size, 0, rfl, by simp, fun j hj => by
    rw [(Blk.new w _ _).cell]
    match j, hj with
    | 0, _ => rfl
    | 1, _ => rfl
    | 2, _ => rfl⟩
theorem rdM_head {w : World} {B : Nat} {A : Option Addr} {want : List Mt} (h : RdM w B A want) (hq : 0 < want.length) : RdM w B A [at0 want 0] := by
  have := RdG.take (m := 1) h
  rwa [show want.take 1 = [at0 want 0] from by
    cases want with
    | nil => simp at hq
    | cons a t => rfl] at this
theorem mat1_cases {l : List Lb} {x : Mt} {v n : Bool} (hv : eqB (valB l x.1) x.2.1 = v) (hn : x.2.2 = n) : mat1 l x = (v != n) ∧ mat1 l (x.1, x.2.1, !n) = !(v != n) := by
  subst hv; subst hn
  exact ⟨rfl, mat1_not l x⟩
theorem vM_flip {x : Mt} (h : vM [x] = true) (n : Bool) : vM [(x.1, x.2.1, n)] = true :=
  vM_good (k := 1) (by simp) (fun j hj => by
    have : j = 0 := by omega
    subst this
    exact (VM_of h).2 0 (by simp)) rfl
theorem ks_start {w : World} {g : Nat} {u v z : Value} (h : w.cell? ⟨g, 0, none⟩ = some u ∧ w.cell? ⟨g, 1, none⟩ = some v ∧ w.cell? ⟨g, 2, none⟩ = some z ∧ Below w.heap.size w w) :
    (w.drew.cell? ⟨g, 0, none⟩ = some u ∧ w.drew.cell? ⟨g, 1, none⟩ = some v ∧ w.drew.cell? ⟨g, 2, none⟩ = some z) ∧ Below w.heap.size w w.drew :=
  ⟨⟨h.1, h.2.1, h.2.2.1⟩, h.2.2.2.drew⟩
theorem ks_call {W w w' : World} {g : Nat} {u v z : Value} (hg : g < W.heap.size) (h : (w.cell? ⟨g, 0, none⟩ = some u ∧ w.cell? ⟨g, 1, none⟩ = some v ∧ w.cell? ⟨g, 2, none⟩ = some z) ∧ Below W.heap.size W w) (hb : Below w.heap.size w w') :
    (w'.cell? ⟨g, 0, none⟩ = some u ∧ w'.cell? ⟨g, 1, none⟩ = some v ∧ w'.cell? ⟨g, 2, none⟩ = some z) ∧ Below W.heap.size W w' :=
  have hg' := Nat.lt_of_lt_of_le hg h.2.size
  ⟨⟨(hb.cell (p := ⟨g, 0, none⟩) hg').trans h.1.1, (hb.cell (p := ⟨g, 1, none⟩) hg').trans h.1.2.1, (hb.cell (p := ⟨g, 2, none⟩) hg').trans h.1.2.2⟩, kept_trans h.2 hb⟩
theorem ks_alloc {W w : World} {g : Nat} {u v z : Value} (hg : g < W.heap.size) (h : (w.cell? ⟨g, 0, none⟩ = some u ∧ w.cell? ⟨g, 1, none⟩ = some v ∧ w.cell? ⟨g, 2, none⟩ = some z) ∧ Below W.heap.size W w) (o : Obj) :
    ((w.alloc o).cell? ⟨g, 0, none⟩ = some u ∧ (w.alloc o).cell? ⟨g, 1, none⟩ = some v ∧ (w.alloc o).cell? ⟨g, 2, none⟩ = some z) ∧ Below W.heap.size W (w.alloc o) :=
  ks_call hg h (kept_alloc (Below.refl w.heap.size w) o)
set_option maxHeartbeats 8000000 in
set_option maxRecDepth 100000 in
theorem fnMatchesAllNot_any (A : Option Addr) (n c : Nat) (w : World) (hm : n ≤ 9223372036854775807) (hc : n ≤ c) (hr : RdB w w.heap.size A n) :
    Calls Try.prog 4 #[.slice A n c] w fun e w' => e = .returned (.bool true) ∧ Below w.heap.size w w' := by
  obtain ⟨i0, hi, hz0, hz1, hz2⟩ := info_parts infoMatcher
  by_cases hbig : (1048576 : Int) < n
  · go_enter Try.func4, Try.ntmps4
    go_wp2
    go_ret
    exact ⟨rfl, Below.refl _ _⟩
  · go_enter Try.func4, Try.ntmps4
    go_wp2_with fail
    refine (drawMatchesAll_any A n c _ hm hc hr).mono ?_
    rintro e w1 ⟨A2, c2, m, l, B2, d2, q, want, rfl, hl, hm2, hcap, hsz, hq, hq2, hqd, hsz2, hrd, hrn, hb1⟩
    have HL := Lib.hid (And.intro hl (And.intro hsz (And.intro hq hsz2)))
    clear hl hr hsz hq hsz2
    go_wp2_with fail
    refine (matchesAll_any A2 m c2 l B2 q d2 want _ HL.out.1 HL.out.2.2.1 hrd hrn).mono ?_
    rintro e w2 ⟨rfl, hb2⟩
    have hb3 := kept_trans hb1 hb2
    have hrd3 := RdG.next hrd hb2
    have hrn3 := RdG.next hrn hb2
    clear hb1 hb2 hrd hrn
    go_wp2_with fail
    refine (specMatchesAll_any A2 m c2 l B2 q d2 want _ HL.out.1 (by omega) HL.out.2.2.1 (by omega) HL.out.2.1 HL.out.2.2.2 hrd3 hrn3).mono ?_
    rintro e w4 ⟨rfl, hb4⟩
    have hb5 := kept_trans hb3 hb4
    have hrd5 := RdG.next hrd3 hb4
    have hrn5 := RdG.next hrn3 hb4
    clear hb3 hb4 hrd3 hrn3
    go_wp2_with fail
    refine (validLabels_any A2 m c2 l _ HL.out.1 hrd5).mono ?_
    rintro e w6 ⟨rfl, hb6⟩
    have hb7 := kept_trans hb5 hb6
    have hrd7 := RdG.next hrd5 hb6
    have hrn7 := RdG.next hrn5 hb6
    clear hb5 hb6 hrd5 hrn5
    rcases hv : vL l with _ | _
    · have HMV := Lib.hid (maV_no1 (want := want) hv)
      clear hv
      go_wp2_with fail
      refine (specMatchesAll_any A2 m c2 l B2 q d2 want _ HL.out.1 (by omega) HL.out.2.2.1 (by omega) HL.out.2.1 HL.out.2.2.2 hrd7 hrn7).mono ?_
      rintro e w8 ⟨rfl, hb8⟩
      rw [HMV.out]
      go_wp2
      go_ret
      exact ⟨rfl, kept_trans hb7 hb8⟩
    · have HV := Lib.hid hv
      clear hv
      go_wp2_with fail
      refine (validMatchers_any B2 q d2 want _ HL.out.2.2.1 hrn7).mono ?_
      rintro e w8 ⟨rfl, hb8⟩
      have hb9 := kept_trans hb7 hb8
      have hrd9 := RdG.next hrd7 hb8
      have hrn9 := RdG.next hrn7 hb8
      clear hb7 hb8 hrd7 hrn7
      rcases hv : vM want with _ | _
      · have HMV := Lib.hid (maV_no2 (l := l) hv)
        clear hv
        go_wp2_with fail
        refine (specMatchesAll_any A2 m c2 l B2 q d2 want _ HL.out.1 (by omega) HL.out.2.2.1 (by omega) HL.out.2.1 HL.out.2.2.2 hrd9 hrn9).mono ?_
        rintro e w10 ⟨rfl, hb10⟩
        rw [HMV.out]
        go_wp2
        go_ret
        exact ⟨rfl, kept_trans hb9 hb10⟩
      · have HVM := Lib.hid hv
        clear hv
        by_cases hq0 : q = 0
        · have hqz : ((q : Int) == 0) = true := by simp [hq0]
          clear hq0
          have HMV := Lib.hid (maV_ok HV.out HVM.out)
          go_wp2_with fail
          refine (specMatchesAll_any A2 m c2 l B2 q d2 want _ HL.out.1 (by omega) HL.out.2.2.1 (by omega) HL.out.2.1 HL.out.2.2.2 hrd9 hrn9).mono ?_
          rintro e w10 ⟨rfl, hb10⟩
          rcases hmv : maV l want with _ | _
          all_goals
            go_wp2
            go_ret
            exact ⟨rfl, kept_trans hb9 hb10⟩
        · have hqz : ((q : Int) == 0) = false := by simp [hq0]
          have hqp : (0 : Int) < (q : Int) := by omega
          have hln : 0 < want.length := by rw [HL.out.2.2.1]; omega
          obtain ⟨b, off, rfl, hbb, hcc⟩ := RdM.at_ hrn9 hln
          obtain ⟨y0, y1, y2⟩ := hcc 0 hln
          rw [Nat.zero_mul, Nat.add_zero] at y0 y1 y2
          have HMR := Lib.hid hrn9
          have HB9 := Lib.hid hb9
          have HRL0 := Lib.hid hrd9
          clear hcc hrn9 hb9 hrd9
          rcases hmv : maV l want with _ | _ <;> rcases hq : eqB (valB l (at0 want 0).1) (at0 want 0).2.1 with _ | _ <;> rcases hz : (at0 want 0).2.2 with _ | _
          all_goals
            obtain ⟨hm1, hm2'⟩ := mat1_cases hq hz
            simp only [bne_self_eq_false, Bool.bne_false, Bool.bne_true, Bool.not_true, Bool.not_false] at hm1 hm2'
            have HO1 := Lib.hid (show maV l [at0 want 0] = _ from (maV_ok HV.out (vM_one HVM.out hln)).trans ((matL_one l _).trans hm1))
            have HO2 := Lib.hid (show maV l [((at0 want 0).1, (at0 want 0).2.1, _)] = _ from (maV_ok HV.out (vM_flip (vM_one HVM.out hln) _)).trans ((matL_one l _).trans hm2'))
            rw [hz] at y2
            have hw := eqB_walk hq
            clear hmv hq hz hm1 hm2'
            first
              | (have hbW := kept_alloc (Below.refl w8.heap.size w8) (Obj.cells #[Value.string (at0 want 0).1, Value.string (at0 want 0).2.1, Value.bool true] 32)
                 have q0 : (w8.alloc (Obj.cells #[Value.string (at0 want 0).1, Value.string (at0 want 0).2.1, Value.bool true] 32)).cell? ⟨w8.heap.size, 0, none⟩ = some (.string (at0 want 0).1) := by simp
                 have q1 : (w8.alloc (Obj.cells #[Value.string (at0 want 0).1, Value.string (at0 want 0).2.1, Value.bool true] 32)).cell? ⟨w8.heap.size, 1, none⟩ = some (.string (at0 want 0).2.1) := by simp
                 have q2 : (w8.alloc (Obj.cells #[Value.string (at0 want 0).1, Value.string (at0 want 0).2.1, Value.bool true] 32)).cell? ⟨w8.heap.size, 2, none⟩ = some (.bool true) := by simp
                 have hlW : w8.heap.size < (w8.alloc (Obj.cells #[Value.string (at0 want 0).1, Value.string (at0 want 0).2.1, Value.bool true] 32)).heap.size := by simp
                 go_wp2_with fail
                 generalize (w8.alloc (Obj.cells #[Value.string (at0 want 0).1, Value.string (at0 want 0).2.1, Value.bool true] 32)) = W at *
                 guard_hyp HO2 : Hid (maV l [((at0 want 0).1, (at0 want 0).2.1, true)] = _))
              | (have hbW := kept_alloc (Below.refl w8.heap.size w8) (Obj.cells #[Value.string (at0 want 0).1, Value.string (at0 want 0).2.1, Value.bool false] 32)
                 have q0 : (w8.alloc (Obj.cells #[Value.string (at0 want 0).1, Value.string (at0 want 0).2.1, Value.bool false] 32)).cell? ⟨w8.heap.size, 0, none⟩ = some (.string (at0 want 0).1) := by simp
                 have q1 : (w8.alloc (Obj.cells #[Value.string (at0 want 0).1, Value.string (at0 want 0).2.1, Value.bool false] 32)).cell? ⟨w8.heap.size, 1, none⟩ = some (.string (at0 want 0).2.1) := by simp
                 have q2 : (w8.alloc (Obj.cells #[Value.string (at0 want 0).1, Value.string (at0 want 0).2.1, Value.bool false] 32)).cell? ⟨w8.heap.size, 2, none⟩ = some (.bool false) := by simp
                 have hlW : w8.heap.size < (w8.alloc (Obj.cells #[Value.string (at0 want 0).1, Value.string (at0 want 0).2.1, Value.bool false] 32)).heap.size := by simp
                 go_wp2_with fail
                 generalize (w8.alloc (Obj.cells #[Value.string (at0 want 0).1, Value.string (at0 want 0).2.1, Value.bool false] 32)) = W at *
                 guard_hyp HO2 : Hid (maV l [((at0 want 0).1, (at0 want 0).2.1, false)] = _))
            have HRW := Lib.hid (RdG.to HRL0.out hbW)
            have HMW := Lib.hid (RdG.to (rdM_head HMR.out hln) hbW)
            have HBW := Lib.hid (kept_trans HB9.out hbW)
            generalize w8.heap.size = gb at *
            have p0 := kin_cell q0 hlW
            have p1 := kin_cell q1 hlW
            have HQ := Lib.hid (And.intro q0 (And.intro q1 q2))
            clear q0 q1 q2 y0 y1 y2 hbW
            refine wp_region_kin (by kernel_rfl) (by kernel_rfl) ?_
            repeat (go_big_quiet_step ((go_at_call 20; exact kin_call (labelValue_u _ m c2 l _ _ HL.out.1 (kin_rd HRW.out _) HV))))
            refine wpQuiet_nil ?_
            intro _ hw'
            obtain ⟨⟨wq, hq⟩, hw''⟩ := hw'
            subst hw''
            rename_i wq
            have p0 := (hq.cell (p := ⟨gb, 0, none⟩) hlW).trans HQ.out.1
            have p1 := (hq.cell (p := ⟨gb, 1, none⟩) hlW).trans HQ.out.2.1
            have p2 := (hq.cell (p := ⟨gb, 2, none⟩) hlW).trans HQ.out.2.2
            have HRQ := Lib.hid (RdG.next HRW.out hq)
            have HMQ := Lib.hid (RdG.next HMW.out hq)
            have HBQ := Lib.hid (kept_trans HBW.out hq)
            have hlq : gb < wq.heap.size := Nat.lt_of_lt_of_le hlW hq.size
            clear hq
            have HR1 := HMQ
            have hd1 : (1 : Int) ≤ (d2 : Int) := by omega
            have hKS := And.intro p0 (And.intro p1 (And.intro p2 (Below.refl wq.heap.size wq)))
            go_wp2_with fail
            first
              | (go_region_held3 (fun w' => (w'.cell? ⟨gb, 0, none⟩ = some (.string (at0 want 0).1) ∧ w'.cell? ⟨gb, 1, none⟩ = some (.string (at0 want 0).2.1) ∧ w'.cell? ⟨gb, 2, none⟩ = some (.bool true)) ∧ Below wq.heap.size wq w')
                   (first | exact ks_start hKS | exact ks_alloc hlq (by assumption) _ | exact ks_call hlq (by assumption) (by assumption))
                   (first
                     | (go_at_call_of 16 d2; refine (matchesAll_any A2 m c2 l (some ⟨b, off, none⟩) 1 d2 [at0 want 0] _ HL.out.1 rfl (RdG.to HRQ.out (And.right (by assumption))) (RdG.to HMQ.out (And.right (by assumption)))).mono ?_; rintro e wx ⟨rfl, hbx⟩; rw [HO1.out])
                     | (go_at_call 16; refine (matchesAll_any A2 m c2 l _ 1 1 [((at0 want 0).1, (at0 want 0).2.1, true)] _ HL.out.1 rfl ?_ ?_).mono ?_; exact RdG.to HRQ.out (And.right (by assumption)); exact rdM_new _ ((at0 want 0).1, (at0 want 0).2.1, true) _ rfl; rintro e wy ⟨rfl, hby⟩; rw [HO2.out])))
              | (go_region_held3 (fun w' => (w'.cell? ⟨gb, 0, none⟩ = some (.string (at0 want 0).1) ∧ w'.cell? ⟨gb, 1, none⟩ = some (.string (at0 want 0).2.1) ∧ w'.cell? ⟨gb, 2, none⟩ = some (.bool false)) ∧ Below wq.heap.size wq w')
                   (first | exact ks_start hKS | exact ks_alloc hlq (by assumption) _ | exact ks_call hlq (by assumption) (by assumption))
                   (first
                     | (go_at_call_of 16 d2; refine (matchesAll_any A2 m c2 l (some ⟨b, off, none⟩) 1 d2 [at0 want 0] _ HL.out.1 rfl (RdG.to HRQ.out (And.right (by assumption))) (RdG.to HMQ.out (And.right (by assumption)))).mono ?_; rintro e wx ⟨rfl, hbx⟩; rw [HO1.out])
                     | (go_at_call 16; refine (matchesAll_any A2 m c2 l _ 1 1 [((at0 want 0).1, (at0 want 0).2.1, false)] _ HL.out.1 rfl ?_ ?_).mono ?_; exact RdG.to HRQ.out (And.right (by assumption)); exact rdM_new _ ((at0 want 0).1, (at0 want 0).2.1, false) _ rfl; rintro e wy ⟨rfl, hby⟩; rw [HO2.out])))
            all_goals
              have hlast := Below.trans HBQ.out ((And.right (by assumption) : Below wq.heap.size wq _).mono HBQ.out.size)
              go_wp2
              go_ret
              exact ⟨rfl, hlast⟩
end Go.Proofs.Ytnnbfdlicadgfaa
