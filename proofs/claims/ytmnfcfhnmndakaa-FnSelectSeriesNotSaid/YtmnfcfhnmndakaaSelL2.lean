/-
  Walk: FnSelectSeriesNot.
-/
import Derived.Test.YtmnfcfhnmndakaaSelL1
namespace Go.Proofs.Ytmnfcfhnmndakaa
open Go.RowKit
set_option maxHeartbeats 8000000 in
set_option maxRecDepth 100000 in
theorem fnSelectSeriesNot_any (A : Option Addr) (n c : Nat) (w : World) (hm : n ≤ 9223372036854775807) (hc : n ≤ c) (hr : RdB w w.heap.size A n) :
    Calls Try.prog 12 #[.slice A n c] w fun e w' => e = .returned (.bool true) ∧ Below w.heap.size w w' := by
  by_cases hbig : (1048576 : Int) < n
  · go_enter Try.func12, Try.ntmps12
    go_wp2
    go_ret
    exact ⟨rfl, Below.refl _ _⟩
  · go_enter Try.func12, Try.ntmps12
    go_wp2_with fail
    refine (drawSelectSeries_any A n c _ hm hc hr).mono ?_
    rintro e w1 ⟨A2, c2, m, C, B2, d2, q, want, rfl, hC, hm2, hcap, hsz, hq, hq2, hqd, hszm, hrd, hrn, hb1⟩
    have HL := Lib.hid (And.intro hC (And.intro hsz (And.intro hq hszm)))
    have hsl := slV_len (C := C) (want := want) (f := fun l => matL l want)
    have HSL := Lib.hid (show (slV C want (fun l => matL l want)).length ≤ 1000000000000 by rw [hC] at hsl; omega)
    clear hC hr hsz hq hszm hsl
    go_wp2_with fail
    refine (selectSeries_any A2 m c2 C B2 q d2 want _ HL.out.1 hcap HL.out.2.2.1 hrd hrn).mono ?_
    rintro e w2 ⟨A3, c3, rfl, hown3, hb2⟩
    have hb3 := kept_trans hb1 hb2
    have hrd3 := RdC.next hrd hb2
    have hrn3 := RdG.next hrn hb2
    have hri3 := own_rd1 hown3 rfl
    clear hb1 hb2 hrd hrn hown3
    go_wp2_with fail
    refine (specSelectSeries_any A2 m c2 C B2 q d2 want _ HL.out.1 hcap HL.out.2.2.1 (by omega) (by omega) (slN_t HL.out.2.1) HL.out.2.2.2 hrd3 hrn3).mono ?_
    rintro e w4 ⟨A4, c4, rfl, hown4, hb4⟩
    have hb5 := kept_trans hb3 hb4
    have hrd5 := RdC.next hrd3 hb4
    have hrn5 := RdG.next hrn3 hb4
    have hri5 := Rd1.next hri3 hb4
    have hrj5 := own_rd1 hown4 rfl
    clear hb3 hb4 hrd3 hrn3 hri3 hown4
    go_wp2_with fail
    refine (equalInts_any A3 _ c3 _ A4 _ c4 (slV C want (fun l => matL l want)) _ rfl rfl HSL.out hri5 hrj5).mono ?_
    rintro e w6 ⟨rfl, hb6⟩
    rw [eqI_refl]
    have hb7 := kept_trans hb5 hb6
    have hrd7 := RdC.next hrd5 hb6
    have hrn7 := RdG.next hrn5 hb6
    have hri7 := Rd1.next hri5 hb6
    clear hb5 hb6 hrd5 hrn5 hri5 hrj5
    go_wp2_with fail
    refine (validCatalog_any A2 m c2 C _ HL.out.1 hcap hrd7).mono ?_
    rintro e w8 ⟨rfl, hb8⟩
    have hb9 := kept_trans hb7 hb8
    have hrd9 := RdC.next hrd7 hb8
    have hrn9 := RdG.next hrn7 hb8
    have hri9 := Rd1.next hri7 hb8
    clear hb7 hb8 hrd7 hrn7 hri7
    rcases hv : vC C with _ | _
    · clear hv
      go_wp2_with fail
      refine (specSelectSeries_any A2 m c2 C B2 q d2 want _ HL.out.1 hcap HL.out.2.2.1 (by omega) (by omega) (slN_t HL.out.2.1) HL.out.2.2.2 hrd9 hrn9).mono ?_
      rintro e w10 ⟨A5, c5, rfl, hown5, hb10⟩
      have hb11 := kept_trans hb9 hb10
      have hri11 := Rd1.next hri9 hb10
      have hrj11 := own_rd1 hown5 rfl
      clear hb9 hb10 hrd9 hrn9 hri9 hown5
      go_wp2_with fail
      refine (equalInts_any A3 _ c3 _ A5 _ c5 (slV C want (fun l => matL l want)) _ rfl rfl HSL.out hri11 hrj11).mono ?_
      rintro e w12 ⟨rfl, hb12⟩
      rw [eqI_refl]
      go_wp2
      go_ret
      exact ⟨rfl, kept_trans hb11 hb12⟩
    · have HV := Lib.hid hv
      clear hv
      go_wp2_with fail
      refine (validMatchers_any B2 q d2 want _ HL.out.2.2.1 hrn9).mono ?_
      rintro e w10 ⟨rfl, hb10⟩
      have hb11 := kept_trans hb9 hb10
      have hrd11 := RdC.next hrd9 hb10
      have hrn11 := RdG.next hrn9 hb10
      have hri11 := Rd1.next hri9 hb10
      clear hb9 hb10 hrd9 hrn9 hri9
      rcases hv : vM want with _ | _
      · clear hv
        go_wp2_with fail
        refine (specSelectSeries_any A2 m c2 C B2 q d2 want _ HL.out.1 hcap HL.out.2.2.1 (by omega) (by omega) (slN_t HL.out.2.1) HL.out.2.2.2 hrd11 hrn11).mono ?_
        rintro e w12 ⟨A5, c5, rfl, hown5, hb12⟩
        have hb13 := kept_trans hb11 hb12
        have hri13 := Rd1.next hri11 hb12
        have hrj13 := own_rd1 hown5 rfl
        clear hb11 hb12 hrd11 hrn11 hri11 hown5
        go_wp2_with fail
        refine (equalInts_any A3 _ c3 _ A5 _ c5 (slV C want (fun l => matL l want)) _ rfl rfl HSL.out hri13 hrj13).mono ?_
        rintro e w14 ⟨rfl, hb14⟩
        rw [eqI_refl]
        go_wp2
        go_ret
        exact ⟨rfl, kept_trans hb13 hb14⟩
      · have HVM := Lib.hid hv
        clear hv
        by_cases hq0 : q = 0
        · have hqz : ((q : Int) == 0) = true := by simp [hq0]
          clear hq0
          go_wp2_with fail
          refine (specSelectSeries_any A2 m c2 C B2 q d2 want _ HL.out.1 hcap HL.out.2.2.1 (by omega) (by omega) (slN_t HL.out.2.1) HL.out.2.2.2 hrd11 hrn11).mono ?_
          rintro e w12 ⟨A5, c5, rfl, hown5, hb12⟩
          have hb13 := kept_trans hb11 hb12
          have hri13 := Rd1.next hri11 hb12
          have hrj13 := own_rd1 hown5 rfl
          clear hb11 hb12 hrd11 hrn11 hri11 hown5
          go_wp2_with fail
          refine (equalInts_any A3 _ c3 _ A5 _ c5 (slV C want (fun l => matL l want)) _ rfl rfl HSL.out hri13 hrj13).mono ?_
          rintro e w14 ⟨rfl, hb14⟩
          rw [eqI_refl]
          go_wp2
          go_ret
          exact ⟨rfl, kept_trans hb13 hb14⟩
        · have hqz : ((q : Int) == 0) = false := by simp [hq0]
          have hqp : (0 : Int) < (q : Int) := by omega
          have hln : 0 < want.length := by rw [HL.out.2.2.1]; omega
          have HV1 := Lib.hid (vM_one HVM.out hln)
          obtain ⟨b, off, rfl, hbb, hcc⟩ := RdM.at_ hrn11 hln
          obtain ⟨y0, y1, y2⟩ := hcc 0 hln
          rw [Nat.zero_mul, Nat.add_zero] at y0 y1 y2
          clear hcc hq0 hri11 hrn11
          generalize at0 want 0 = x at *
          obtain ⟨s, t, v⟩ := x
          have HN := Lib.hid (vM_flip HV1.out (!v))
          have HSA := Lib.hid (show (slV C [(s, t, v)] (fun l => matL l [(s, t, v)])).length ≤ 1000000000000 by
            have := slV_len (C := C) (want := [(s, t, v)]) (f := fun l => matL l [(s, t, v)]); rw [HL.out.1] at this; omega)
          have HSB := Lib.hid (show (slV C [(s, t, !v)] (fun l => matL l [(s, t, !v)])).length ≤ 1000000000000 by
            have := slV_len (C := C) (want := [(s, t, !v)]) (f := fun l => matL l [(s, t, !v)]); rw [HL.out.1] at this; omega)
          have hM := Blk.new w10 65 #[.string s, .string t, .bool v]
          have hM2 := hM.alloc (Obj.cells #[Value.string s, Value.string t, Value.bool v] 65)
          have hbM := kept_alloc (kept_alloc (Below.refl w10.heap.size w10) (Obj.cells #[Value.string s, Value.string t, Value.bool v] 65)) (Obj.cells #[Value.string s, Value.string t, Value.bool v] 65)
          have hnew := rdM_new (w10.alloc (Obj.cells #[Value.string s, Value.string t, Value.bool v] 65)) (s, t, v) (w10.heap.size + 1) (size_alloc1 _ _)
          have hlt0 : w10.heap.size < ((w10.alloc (Obj.cells #[Value.string s, Value.string t, Value.bool v] 65)).alloc (Obj.cells #[Value.string s, Value.string t, Value.bool v] 65)).heap.size := by rw [size_alloc1, size_alloc1]; omega
          have HX := Lib.hid (And.intro hM2 (And.intro hbM (And.intro hnew (And.intro hlt0 (RdC.next hrd11 hbM)))))
          have HR10 := Lib.hid hrd11
          have HB10 := Lib.hid hb11
          have HZ : ∀ k, k < C.length → Hid (decide ((k : Int) ∈ slV C [(s, t, v)] (fun l => matL l [(s, t, v)])) = mat1 (at0 C k) (s, t, v) ∧ decide ((k : Int) ∈ slV C [(s, t, !v)] (fun l => matL l [(s, t, !v)])) = !mat1 (at0 C k) (s, t, v)) := fun k hk => Lib.hid ⟨by
            rw [slV_mem HV.out HV1.out hk]; exact matL_one _ _, by
            rw [slV_mem HV.out HN.out hk]; exact (matL_one _ _).trans (mat1_not _ (s, t, v))⟩
          have HZZ := Lib.hid HZ
          clear hM hM2 hbM hnew hlt0 hrd11 hb11 HZ
          dsimp only at y0 y1 y2
          go_wp2_with fail
          generalize hW1 : (w10.alloc (Obj.cells #[Value.string s, Value.string t, Value.bool v] 65)) = W1 at *
          generalize hW2 : (W1.alloc (Obj.cells #[Value.string s, Value.string t, Value.bool v] 65)) = W2 at *
          clear hW1 hW2
          generalize hg0 : w10.heap.size = g0 at HX ⊢
          have HG0 := Lib.hid hg0
          clear hg0
          obtain ⟨hM, hbM, hnew, hlt0, hrd⟩ := HX.out
          clear y0 y1 y2 HX
          refine (selectSeries_any A2 m c2 C _ 1 1 [(s, t, v)] _ HL.out.1 hcap rfl hrd hnew).mono ?_
          rintro e w12 ⟨A5, c5, rfl, hown5, hb12⟩
          have hM12 := hM.kept hb12
          have p0 := hM12.cell 0
          have p1 := hM12.cell 1
          have p2 := hM12.cell 2
          have p3 := hM12.frozen 2
          have hlt12 : g0 < w12.heap.size := Nat.lt_of_lt_of_le hlt0 hb12.size
          have HK := Lib.hid (And.intro hown5 (And.intro (hbM.trans (hb12.mono (Nat.le_of_lt hlt0))) (And.intro hlt0 (And.intro hlt12 (And.intro (Only.set_ (g := g0) w12 2 (.bool (!v))) (World.size_setCell w12 ⟨g0, 2, none⟩ (.bool (!v))))))))
          clear hM hbM hnew hlt0 hrd hM12 hown5 hb12
          simp only [List.getElem?_toArray, List.getElem?_cons_zero, List.getElem?_cons_succ] at p0 p1 p2
          go_wp2_with fail
          generalize w12.setCell ⟨g0, 2, none⟩ (Value.bool (!v)) = W3 at *
          obtain ⟨hown5, hb12, hlt0, hlt12, ho3, hz3⟩ := HK.out
          have hs3 := ho3.size
          have hownA3 := Only.own hown5 ho3 hlt0
          have hb13 : Below g0 w10 W3 := hb12.grown ho3 (by omega) (fun i hi => by injection hi with hi; omega)
          have hnew3 := rdM_new W3 (s, t, !v) w12.heap.size hz3
          have hbA := kept_alloc (Below.refl W3.heap.size W3) (Obj.cells #[Value.string s, Value.string t, Value.bool (!v)] 65)
          have hownA4 := own_kept hownA3 hbA
          have hb14 : Below g0 w10 _ := hb13.trans (hbA.mono (by omega))
          have hrd14 := (HR10.out.below (by rw [HG0.out]; exact hb14)).mono hb14.size
          have hbw := (HB10.out.trans (by rw [← HG0.out] at hb14; exact hb14.mono HB10.out.size))
          clear p0 p1 p2 p3 HK hown5 hb12 ho3 hz3 hownA3 hb13 hbA hb14
          refine (selectSeries_any A2 m c2 C _ 1 1 [(s, t, !v)] _ HL.out.1 hcap rfl hrd14 hnew3).mono ?_
          rintro e w14 ⟨A6, c6, rfl, hown6, hb14⟩
          have hri5 := own_rd1 (own_kept hownA4 hb14) rfl
          have hri6 := own_rd1 hown6 rfl
          have HR := Lib.hid (And.intro hri5 (And.intro hri6 (kept_trans hbw hb14)))
          clear hrd14 hnew3 hownA4 hb14 hbw hown6 hri5 hri6
          generalize slV C [(s, t, v)] (fun l => matL l [(s, t, v)]) = pa at *
          generalize slV C [(s, t, !v)] (fun l => matL l [(s, t, !v)]) = pb at *
          go_wp2
          go_loopw [9] (fun i wr => ∃ k : Nat, k ≤ m ∧ i = .int .i64 k ∧ Below w14.heap.size w14 wr) (fun i _ => m - (intOf i).toNat)
          case atStart => exact ⟨0, by omega, rfl, Below.refl _ _⟩
          case round =>
            obtain ⟨k, hk, rfl, hb⟩ := hrel
            by_cases hlt : k < m
            · have hki : (k : Int) < (m : Int) := by omega
              have hlc : k < C.length := by rw [HL.out.1]; exact hlt
              obtain ⟨ha1, ha2⟩ := (HZZ.out k hlc).out
              have HRW := Lib.hid (And.intro (Rd1.next HR.out.1 hb) (Rd1.next HR.out.2.1 hb))
              have HBB := Lib.hid hb
              clear hb
              rcases hz : mat1 (at0 C k) (s, t, v) with _ | _
              all_goals
                rw [hz] at ha1 ha2
                have HA1 := Lib.hid ha1
                have HA2 := Lib.hid ha2
                clear hz ha1 ha2
                go_wp2_with fail
                refine (isIn_v A5 _ _ _ _ _ _ rfl HSA.out HRW.out.1 HA1).mono ?_
                rintro e wx ⟨rfl, rfl⟩
                go_wp2_with fail
                refine (isIn_v A6 _ _ _ _ _ _ rfl HSB.out HRW.out.2 HA2).mono ?_
                rintro e wx ⟨rfl, rfl⟩
                have hb2 := HBB.out
                go_wp2
                go_roundw
                case rel => exact ⟨k + 1, by omega, by go_num, hb2⟩
                case measure => simp [intOf]; omega
            · have hb2 := kept_trans HR.out.2.2 hb
              go_wp2
              go_ret
              exact ⟨rfl, hb2⟩
end Go.Proofs.Ytmnfcfhnmndakaa
