/- A part. -/
import Derived.Test.YtnmajohhfcgddaaDxCall
import Derived.Shelf.SlIterI.Sorted
set_option linter.unusedVariables false
set_option linter.unusedSimpArgs false
set_option linter.unusedSectionVars false
namespace Go.Dx
open Go Go.Proofs Go.Shelf Go.RowKit Go.Maps
section
variable {P : Program} {ρ : Ren} {β : Emb} {s s' : DS} {w w' : World}
theorem Step.below (h : Rel P β s.get w) (hb : Below w.heap.size w w') : Step P β s.get s.next w β s.get s.next w' := by
 refine { le := Nat.le_refl _, emb := Emb.le.refl _, dom := fun k hk hk' => absurd hk hk', rel := ⟨fun k o hk => ?_, h.inj⟩, size := hb.size, os := hb.os, tape := hb.tape, output := hb.output, frame := fun r hr _ => hb.block r hr, fresh := fun k o l hk hl => .inr ⟨k, o, l, hk, hl, rfl, id⟩ }
 obtain ⟨l, h1, h2⟩ := h.obj k o hk
 exact ⟨l, h1, h2.keep (Emb.le.refl _) (hb.block _ h2.lt)⟩
end
end Go.Dx
