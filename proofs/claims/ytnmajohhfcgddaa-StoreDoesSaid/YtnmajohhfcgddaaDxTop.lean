/- A part. -/
import Derived.Test.YtnmajohhfcgddaaDxXx
import Derived.Calls
import GoSem.ClaimChange
set_option linter.unusedVariables false
set_option linter.unusedSimpArgs false
set_option linter.unusedSectionVars false
namespace Go.Dx
open Go
def s0 : DS := DS.start .nil 0
structure Kept (W w' : World) : Prop where
 os : w'.os = W.os
 tape : w'.tape = W.tape
 output : w'.output = W.output
 heap : ∀ i, i < W.heap.size → w'.heap[i]? = W.heap[i]?
 size : W.heap.size ≤ w'.heap.size
theorem Kept.keptBut {W w' : World} (h : Kept W w') (may : MemPlace → Prop) : W.keptBut w' may := by
 refine ⟨h.os, h.output, fun i hi => ?_⟩
 rw [h.heap i hi]
 cases hg : W.heap[i]? with
 | none => trivial
 | some ob =>
  cases ob <;> first | exact ⟨rfl, rfl, rfl, fun _ _ => rfl⟩ | exact .inr ⟨rfl, rfl⟩ | rfl
end Go.Dx
