/- A part. -/
import Derived.Test.YthmgnfeljhdioaaGreatDxOp
set_option linter.unusedVariables false
set_option linter.unusedSimpArgs false
set_option linter.unusedSectionVars false
namespace Go.Dx
open Go
structure zo (s s' : DS) : Prop where
 next : s.next ≤ s'.next
 vis : s'.vis = s.vis
 wr : s'.wr = s.wr
 keep : ∀ k, k < s.next → s.wr k = false → s'.heap.get k = s.heap.get k
theorem zo.refl (s : DS) : zo s s := ⟨Nat.le_refl _, rfl, rfl, fun _ _ _ => rfl⟩
theorem zo.trans {a b c : DS} (h : zo a b) (h' : zo b c) : zo a c :=
 ⟨Nat.le_trans h.next h'.next, h'.vis.trans h.vis, h'.wr.trans h.wr, fun k hk hw => (h'.keep k (Nat.lt_of_lt_of_le hk h.next) (by rw [h.wr]; exact hw)).trans (h.keep k hk hw)⟩
theorem zo.new (s : DS) (o : DObj) : zo s (s.new o) :=
 ⟨Nat.le_succ _, rfl, rfl, fun k hk _ => by simp [DS.new, PT.get_put, Nat.ne_of_lt hk]⟩
theorem zo.set {s s' : DS} {k : Nat} {o : DObj} (h : s.set k o = some s') : zo s s' := by
 unfold DS.set at h
 split at h
 · rename_i hw
   cases h
   refine ⟨Nat.le_refl _, rfl, rfl, fun j hj hwj => ?_⟩
   have : j ≠ k := by rintro rfl; rw [hw] at hwj; cases hwj
   simp [PT.get_put, this]
 · cases h
theorem zo.kill {s s' : DS} {k : Nat} (h : s.kill k = some s') : zo s s' := by
 unfold DS.kill at h
 split at h
 · rename_i hw
   cases h
   refine ⟨Nat.le_refl _, rfl, rfl, fun j hj hwj => ?_⟩
   have : j ≠ k := by rintro rfl; rw [hw] at hwj; cases hwj
   simp [PT.get_put, this]
 · cases h
theorem zo.write {s s' : DS} {k off : Nat} {l : List Value} (h : s.write k off l = some s') : zo s s' := by
 unfold DS.write at h
 (repeat' split at h) <;> first | exact zo.set h | cases h
section
variable {ρ : Operand → Value} {s s' : DS} {v : Value} {o : DOp}
theorem FC (h : zF ρ s o = some (v, s')) : zo s s' := by
 unfold zF at h
 (repeat' split at h) <;> simp only [z2, Prod.mk.injEq, reduceCtorEq] at h <;> (obtain ⟨_, rfl⟩ := h; exact zo.new _ _)
theorem VW (h : zj ρ s o = some (v, s')) : zo s s' := by
 unfold zj at h
 cases o <;> simp only [reduceCtorEq] at h
 all_goals
  (repeat' split at h) <;> (try simp only [z2, Prod.mk.injEq, reduceCtorEq] at h) <;>
  first
   | (obtain ⟨_, rfl⟩ := h; first | exact zo.refl _ | exact zo.new _ _ | (exact zo.set (by assumption)) | (exact zo.write (by assumption)) | (exact (zo.kill (by assumption)).trans (zo.new _ _)))
   | done
def zB (call : zm) : Prop := ∀ fv args s v s', call fv args s = some (v, s') → zo s s'
theorem Yu {call : zm} (hc : zB call) (h : dop call ρ s o = some (v, s')) : zo s s' := by
 unfold dop at h
 split at h
 · split at h
   · cases h; exact zo.refl _
   · cases h
 · split at h
   · cases h; exact zo.refl _
   · cases h
 · exact FC h
 · exact VW h
 · split at h
   · exact hc _ _ _ _ _ h
   · cases h
 · cases h
theorem Kj {call : zm} (hc : zB call) : ∀ {l : List zE} {notes : List Zq} {t t' : PT Value} {s s' : DS}, ZO call l notes t s = some (t', s') → zo s s' := by
 intro l
 induction l with
 | nil => intro notes t t' s s' h; simp only [ZO, z2, Prod.mk.injEq] at h; obtain ⟨_, rfl⟩ := h; exact zo.refl _
 | cons o rest ih =>
  intro notes t t' s s' h
  simp only [ZO] at h
  split at h
  · split at h
    · split at h
      · rename_i v s1 h1
        exact (Yu hc h1).trans (ih h)
      · cases h
    · split at h
      · rename_i v s1 h1
        have hf := Yu hc h1
        refine zo.trans (b := { s1 with vis := s.vis, wr := s.wr }) ⟨hf.next, rfl, rfl, fun k hk hw => ?_⟩ (ih h)
        exact hf.keep k hk (by simp [hw])
      · cases h
  · exact ih h
end
end Go.Dx
