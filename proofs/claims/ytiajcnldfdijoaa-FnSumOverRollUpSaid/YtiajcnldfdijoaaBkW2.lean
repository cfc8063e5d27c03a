/-
  Walk: RollUp of the program, at width 10.
-/
import Derived.Test.YtiajcnldfdijoaaBkW
import Derived.Test.YtiajcnldfdijoaaPtW2
import Derived.Deep.RegionHeld3
namespace Go.Proofs.Ytiajcnldfdijoaa
open Go.RowKit
/-- What RollUp hands back. -/
def RollP (w : World) (S : Int) (k : Nat) (e : Ending) (w' : World) : Prop :=
  ∃ (A : Option Addr) (c z : Nat) (l' : List Bk), e = .returned (.slice A z c) ∧ l'.length = z ∧ Tot l' S k ∧ w'.ownsRow w.heap.size 39 5 (.slice A z c) z (rowG bkE 5 l') ∧ Below w.heap.size w w'
set_option maxHeartbeats 4000000 in
set_option maxRecDepth 100000 in
theorem rollUp_any (A : Option Addr) (n c : Nat) (l : List (Int × Int)) (w : World) (hn : l.length = n) (hV : vS l = true) (hr : Rd2 w w.heap.size A l) :
    Calls Try.prog 16 #[.slice A n c, .int .i64 10] w (RollP w (sumL l) n) := by
  have HN := Lib.hid hn
  have hVS := VS_of hV
  have HV := Lib.hid hV
  have h16 : n ≤ 16 := by have := hVS.1; omega
  have HVS := Lib.hid hVS
  clear hn hV hVS
  go_enter Try.func16, Try.ntmps16
  go_wp2_with fail
  refine (validSeries_any A n c l _ HN.out (by omega) hr).mono ?_
  rintro e w1 ⟨rfl, hb1⟩
  rw [HV.out]
  have hr1 := hr.below hb1
  clear hr
  go_wp2
  go_loopw [5, 21] (fun v i wr => ∃ (k : Nat) (A' : Option Addr) (c' z : Nat) (acc : List Bk), v = .slice A' z c' ∧ i = .int .i64 k ∧ k ≤ n ∧ acc.length = z ∧ Tot acc (sumTo l k) k ∧ wr.ownsRow w.heap.size 39 5 (.slice A' z c') z (rowG bkE 5 acc) ∧ Below w.heap.size w wr) (fun _ i _ => n - (intOf i).toNat)
  case atStart => exact ⟨0, none, 0, 0, [], rfl, rfl, by omega, rfl, Tot.nil, by rw [rowG_nil]; exact World.ownsRow_nil _ _ _ _, hb1⟩
  case round =>
    obtain ⟨k, A', c', z, acc, rfl, rfl, hk, hz, hT, hown, hb⟩ := hrel
    by_cases hlt : k < n
    · have HZ := Lib.hid (And.intro hz hT)
      have hki : (k : Int) < (n : Int) := by omega
      have hlc : k < l.length := by rw [HN.out]; exact hlt
      have hbd := VS_at HVS.out hlc
      obtain ⟨b, off, rfl, hbb, hc⟩ := hr1.at_ (by omega)
      obtain ⟨hc0, hc1⟩ := hc k hlc
      have hbw := hb1.trans (Below.refl w.heap.size w1)
      rw [hb1.cell (by exact hbb), ← hb.cell (by exact hbb)] at hc0 hc1
      have hwr := hb.size
      have HS := Lib.hid (show sumTo l (k + 1) = sumTo l k + x2 l k from rfl)
      clear hc hr1 hz hT hbw
      go_wp2_with fail
      have bP := Blk.new wr 30 #[.int .i64 (x1 l k), .int .i64 (x2 l k)]
      have hO1 := own_kept hown (kept_alloc (Below.refl wr.heap.size wr) (Obj.cells #[.int .i64 (x1 l k), .int .i64 (x2 l k)] 30))
      have hB1 := kept_alloc hb (Obj.cells #[Value.int .i64 (x1 l k), .int .i64 (x2 l k)] 30)
      generalize wr.alloc (Obj.cells #[Value.int .i64 (x1 l k), .int .i64 (x2 l k)] 30) = W1 at *
      have bP2 : Blk W1.drew wr.heap.size 30 #[.int .i64 (x1 l k), .int .i64 (x2 l k)] := bP
      have hO2 : W1.drew.ownsRow w.heap.size 39 5 (.slice A' z c') z (rowG bkE 5 acc) := hO1
      have hB2 := hB1.drew
      have p0 := bP2.cell 0
      have p1 := bP2.cell 1
      have hs2 := hB2.size
      simp only [List.getElem?_toArray, List.getElem?_cons_zero, List.getElem?_cons_succ] at p0 p1
      have hO0 := hown
      clear bP hO1 hB1 hown hb hc0 hc1
      have hfr : some wr.heap.size ≠ (Value.slice A' z c').ownBlock := fun hc => by
        have := (hO0.lt wr.heap.size hc.symm).2
        omega
      have HFR := Lib.hid hfr
      clear hfr hO0
      go_region_held3 (fun w' => w'.cell? ⟨wr.heap.size, 0, none⟩ = some (.int .i64 (x1 l k)) ∧ w'.cell? ⟨wr.heap.size, 1, none⟩ = some (.int .i64 (x2 l k)))
        (first | go_keep | exact ⟨e0, e1⟩)
        (first
        | (go_at_call 42; refine (addBucket_any w.heap.size A' z c' acc _ 1 (x2 l k) (x2 l k) (x2 l k) (sumTo l k) k _ HZ.out.1 HZ.out.2 (by omega) (by omega) (by omega) hO2 hs2).mono ?_; rintro ee w4 ⟨A4, c4, z4, acc4, rfl, hl4, ht4, hown4, hb4, hf4⟩; have bP4 : Blk w4 wr.heap.size 30 #[.int .i64 (x1 l k), .int .i64 (x2 l k)] := (hf4 _ bP2.lt HFR.out).trans bP2; have e0 := bP4.cell 0; have e1 := bP4.cell 1; simp only [List.getElem?_toArray, List.getElem?_cons_zero, List.getElem?_cons_succ] at e0 e1))
      all_goals
        have hB5 := hB2.trans hb4
        clear hO2 hB2 hb4 bP2 p0 p1 e0 e1 bP4 hf4
        go_wp2
        go_roundw
        case rel => exact ⟨k + 1, A4, c4, z4, acc4, rfl, by go_num, by omega, hl4, by rw [HS.out]; exact ht4, hown4, hB5⟩
        case measure => simp [intOf]; omega
    · have hkn : k = n := by omega
      have hT' : Tot acc (sumL l) n := by rw [← hkn]; unfold sumL; rw [HN.out, ← hkn]; exact hT
      clear hr1 hT
      go_wp2
      go_ret
      exact ⟨A', c', z, acc, rfl, hz, hT', hown, hb⟩
end Go.Proofs.Ytiajcnldfdijoaa
