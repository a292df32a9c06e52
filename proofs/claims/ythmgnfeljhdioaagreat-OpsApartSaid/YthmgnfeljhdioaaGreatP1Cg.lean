/- A part. -/
import Derived.Test.YthmgnfeljhdioaaGreatP1Cd
import Derived.Test.YthmgnfeljhdioaaGreatDxIn
set_option linter.unusedVariables false
set_option linter.unusedSimpArgs false
set_option linter.unusedSectionVars false
set_option maxRecDepth 100000
set_option maxHeartbeats 4000000
namespace Go.Dx.TbA
open Go Go.Dx Go.Proofs.YthmgnfeljhdioaaGreat
structure P3 (E : Env) : Prop where
 ftake : E.fn 91 = some d91
 itake : E.intr 91 = none
 fglow : E.fn 123 = some d123
 iglow : E.intr 123 = none
 fnum2 : E.fn 122 = some d122
 inum2 : E.intr 122 = none
 lf : 10000 ≤ E.lf
theorem SlR.cell {s : DS} {v : Value} {l : List Int} (h : SlR s v l) (hl : l ≠ []) : ∃ b off sp c cc ro, v = .slice (some ⟨b, off, sp⟩) l.length c ∧ s.get b = some (.cells cc ro) ∧ ∀ i x, l[i]? = some x → cc.get (off + i) = some (.int .u8 x) := by
 rcases h with ⟨_, rfl⟩ | ⟨b, off, sp, c, rfl, h1, h2, h3⟩
 · exact absurd rfl hl
 · unfold DS.read at h3
   split at h3
   · rename_i cc ro hg
     obtain ⟨_, h4⟩ := WL h3
     refine ⟨b, off, sp, c, cc, ro, rfl, hg, fun i x hx => ?_⟩
     rw [h4 i (List.getElem?_eq_some_iff.1 hx).1]
     unfold u8s
     rw [List.getElem?_map, hx]
     rfl
   · cases h3
theorem SlR.of' {s s' : DS} {v : Value} {r : List Int} (h : SlR s v r) (e : ∀ k, k ∈ blk v → s'.get k = s.get k) : SlR s' v r := by
 rcases h with h | ⟨b, off, sp, c, rfl, h1, h2, h3⟩
 · exact .inl h
 · refine .inr ⟨b, off, sp, c, rfl, h1, h2, ?_⟩
   unfold DS.read at h3 ⊢
   rw [e b (by simp [blk])]
   exact h3
end Go.Dx.TbA
