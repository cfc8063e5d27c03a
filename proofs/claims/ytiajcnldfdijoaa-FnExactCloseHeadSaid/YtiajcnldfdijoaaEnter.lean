/-
  A row's closed facts, with the program's head words read once as a list of signs
  (a long text's 'toList' sends the kernel out of memory).
-/
import Derived.Test.YtiajcnldfdijoaaRows
import Derived.JoinedOf
import Derived.KernelRfl
namespace Go.Proofs.Ytiajcnldfdijoaa
open Go
set_option maxRecDepth 1000000 in
def initSigns : {cs : List Char // Try.prog.initOrder = String.ofList cs} := ⟨_, rfl⟩
theorem initList : Try.prog.initOrder.toList = initSigns.1 := (congrArg String.toList initSigns.2).trans String.toList_ofList
def factsF (P : Program) (f : FuncId) (fn : Func) (s : ChangeSpec) (c : OpenClaim) (cs : List Char) : {b : Bool // P.initOrder.toList = cs → joinedFacts P f fn s c = b} := by
  refine ⟨?_, fun h => ?_⟩
  rotate_left
  · unfold joinedFacts Program.mayEnter Program.liftsFinal Program.make Program.headLifts
    rw [h]
theorem closed_of {f : FuncId} {fn : Func} {s : ChangeSpec} {c : OpenClaim} (h : (factsF Try.prog f fn s c initSigns.1).1 = true) : joinedFacts Try.prog f fn s c = true :=
  ((factsF Try.prog f fn s c initSigns.1).2 initList).trans h
end Go.Proofs.Ytiajcnldfdijoaa
