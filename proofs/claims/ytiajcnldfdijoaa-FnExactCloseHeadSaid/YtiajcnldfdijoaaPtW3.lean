/-
  Walks: placeOf, ValueAt of the program.
-/
import Derived.Test.YtiajcnldfdijoaaSearch
import Derived.Test.YtiajcnldfdijoaaPtW2
namespace Go.Proofs.Ytiajcnldfdijoaa
open Go.RowKit
set_option maxHeartbeats 400000 in
theorem placeCl_any (k n c : Nat) (b off bs bt : Nat) (x t : Int) (w : World) (hk : k < n) (hs : w.cell? ⟨bs, 0, none⟩ = some (.slice (some ⟨b, off, none⟩) n c)) (ht : w.cell? ⟨bt, 0, none⟩ = some (.int .i64 t))
    (hx : w.cell? ⟨b, off + k * 2, none⟩ = some (.int .i64 x)) :
    Calls Try.prog 57 #[.int .i64 k, .pointer (some ⟨bs, 0, none⟩), .pointer (some ⟨bt, 0, none⟩)] w fun e w' => e = .returned (.bool (decide (t ≤ x))) ∧ Below w.heap.size w w' := by
  have hki : (k : Int) < (n : Int) := by omega
  go_enter Try.func57, Try.ntmps57
  go_wp2
  go_quiet (fail)
  go_wp2
  go_ret
  exact ⟨rfl, kept_drewN (Below.refl _ _) _⟩
def PlacePost (l : List (Int × Int)) (t : Int) (w : World) (e : Ending) (w' : World) : Prop :=
  ∃ i : Nat, e = .returned (.int .i64 i) ∧ i ≤ l.length ∧ (∀ j, j < i → x1 l j < t) ∧ (∀ j, i ≤ j → j < l.length → t ≤ x1 l j) ∧ Below w.heap.size w w'
set_option maxHeartbeats 1000000 in
theorem placeOf_any (A : Option Addr) (n c : Nat) (l : List (Int × Int)) (t : Int) (w : World) (hn : l.length = n) (hv : VS l) (hr : Rd2 w w.heap.size A l) :
    Calls Try.prog 40 #[.slice A n c, .int .i64 t] w (PlacePost l t w) := by
  have HN := Lib.hid hn
  have HV := Lib.hid hv
  have hn16 : n ≤ 16 := by rw [← hn]; exact hv.1
  clear hn hv
  go_enter Try.func40, Try.ntmps40
  go_wp2_with fail
  have c0 : ((w.alloc (Obj.cells #[Value.slice A n c] 23)).alloc (Obj.cells #[Value.int IntKind.i64 t] 3)).cell? ⟨w.heap.size, 0, none⟩ = some (.slice A n c) := by simp
  have c1 : ((w.alloc (Obj.cells #[Value.slice A n c] 23)).alloc (Obj.cells #[Value.int IntKind.i64 t] 3)).cell? ⟨w.heap.size + 1, 0, none⟩ = some (.int .i64 t) := by simp
  have hbW := kept_alloc (kept_alloc (Below.refl w.heap.size w) (Obj.cells #[Value.slice A n c] 23)) (Obj.cells #[Value.int IntKind.i64 t] 3)
  have hl : w.heap.size + 1 < ((w.alloc (Obj.cells #[Value.slice A n c] 23)).alloc (Obj.cells #[Value.int IntKind.i64 t] 3)).heap.size := by simp
  generalize ((w.alloc (Obj.cells #[Value.slice A n c] 23)).alloc (Obj.cells #[Value.int IntKind.i64 t] 3)) = W at *
  refine (search_any 57 _ _ n (fun j => decide (t ≤ x1 l j)) W (by omega) (fun args W => by simp [go_sem]) (fun i j hij hj hp => ?_) (fun W2 j hj hb2 => ?_)).mono ?_
  · have hp' : t ≤ x1 l i := by simpa using hp
    rcases Nat.lt_or_ge i j with h | h
    · have := VS_lt HV.out h (by rw [HN.out]; exact hj)
      simp; omega
    · have : i = j := by omega
      subst this; exact hp
  · obtain ⟨b, off, rfl, hbb, hc⟩ := hr.at_ (by rw [HN.out]; omega)
    refine placeCl_any j n c b off _ _ (x1 l j) t W2 hj ?_ ?_ ?_
    · rw [hb2.cell (p := ⟨w.heap.size, 0, none⟩) (by simp; omega)]; exact c0
    · rw [hb2.cell (p := ⟨w.heap.size + 1, 0, none⟩) (by simp; omega)]; exact c1
    · rw [hb2.cell (p := ⟨b, off + j * 2, none⟩) (by simp; omega), hbW.cell (p := ⟨b, off + j * 2, none⟩) (by simp; omega)]; exact (hc j (by rw [HN.out]; exact hj)).1
  · rintro e w1 ⟨i, rfl, hi, h1, h2, hb1⟩
    have hb2 := hbW.trans (hb1.mono hbW.size)
    have H1 := Lib.hid h1
    have H2 := Lib.hid h2
    clear h1 h2 hb1 hbW c0 c1 hr
    go_wp2
    go_ret
    exact ⟨i, rfl, by rw [HN.out]; exact hi, fun j hj => by have := H1.out j hj; simp at this; omega, fun j hj hjl => by have := H2.out j hj (by rw [← HN.out]; exact hjl); simpa using this, hb2⟩

def ValuePost (l : List (Int × Int)) (t : Int) (w : World) (e : Ending) (w' : World) : Prop :=
  ∃ i : Nat, i ≤ l.length ∧ (∀ j, j < i → x1 l j ≤ t) ∧ (∀ j, i ≤ j → j < l.length → t < x1 l j) ∧ (e = if i = 0 then .returned (.tuple #[.int .i64 0, .bool false]) else .returned (.tuple #[.int .i64 (x2 l (i - 1)), .bool true])) ∧ Below w.heap.size w w'
end Go.Proofs.Ytiajcnldfdijoaa
