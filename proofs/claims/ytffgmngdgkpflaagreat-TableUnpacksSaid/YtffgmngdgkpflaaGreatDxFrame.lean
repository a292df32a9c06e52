/- A part. -/
import Derived.Test.YtffgmngdgkpflaaGreatDxOp
set_option linter.unusedVariables false
set_option linter.unusedSimpArgs false
set_option linter.unusedSectionVars false
namespace Go.Dx
open Go
structure Zr (s s' : DS) : Prop where
 next : s.next ≤ s'.next
 vis : s'.vis = s.vis
 wr : s'.wr = s.wr
 keep : ∀ k, k < s.next → s.wr k = false → s'.heap.get k = s.heap.get k
theorem Zr.refl (s : DS) : Zr s s := ⟨Nat.le_refl _, rfl, rfl, fun _ _ _ => rfl⟩
theorem Zr.trans {a b c : DS} (h : Zr a b) (h' : Zr b c) : Zr a c :=
 ⟨Nat.le_trans h.next h'.next, h'.vis.trans h.vis, h'.wr.trans h.wr, fun k hk hw => (h'.keep k (Nat.lt_of_lt_of_le hk h.next) (by rw [h.wr]; exact hw)).trans (h.keep k hk hw)⟩
theorem Zr.new (s : DS) (o : DObj) : Zr s (s.new o) :=
 ⟨Nat.le_succ _, rfl, rfl, fun k hk _ => by simp [DS.new, PT.get_put, Nat.ne_of_lt hk]⟩
theorem Zr.set {s s' : DS} {k : Nat} {o : DObj} (h : s.set k o = some s') : Zr s s' := by
 unfold DS.set at h
 split at h
 · rename_i hw
   cases h
   refine ⟨Nat.le_refl _, rfl, rfl, fun j hj hwj => ?_⟩
   have : j ≠ k := by rintro rfl; rw [hw] at hwj; cases hwj
   simp [PT.get_put, this]
 · cases h
theorem Zr.kill {s s' : DS} {k : Nat} (h : s.kill k = some s') : Zr s s' := by
 unfold DS.kill at h
 split at h
 · rename_i hw
   cases h
   refine ⟨Nat.le_refl _, rfl, rfl, fun j hj hwj => ?_⟩
   have : j ≠ k := by rintro rfl; rw [hw] at hwj; cases hwj
   simp [PT.get_put, this]
 · cases h
theorem Zr.write {s s' : DS} {k off : Nat} {l : List Value} (h : s.write k off l = some s') : Zr s s' := by
 unfold DS.write at h
 (repeat' split at h) <;> first | exact Zr.set h | cases h
section
variable {ρ : Operand → Value} {s s' : DS} {v : Value} {o : DOp}
theorem Sl (h : Z9 ρ s o = some (v, s')) : Zr s s' := by
 unfold Z9 at h
 (repeat' split at h) <;> simp only [z2, Prod.mk.injEq, reduceCtorEq] at h <;> (obtain ⟨_, rfl⟩ := h; exact Zr.new _ _)
theorem Cw (h : z6 ρ s o = some (v, s')) : Zr s s' := by
 unfold z6 at h
 cases o <;> simp only [reduceCtorEq] at h
 all_goals
  (repeat' split at h) <;> (try simp only [z2, Prod.mk.injEq, reduceCtorEq] at h) <;>
  first
   | (obtain ⟨_, rfl⟩ := h; first | exact Zr.refl _ | exact Zr.new _ _ | (exact Zr.set (by assumption)) | (exact Zr.write (by assumption)) | (exact (Zr.kill (by assumption)).trans (Zr.new _ _)))
   | done
def ZR (call : Zg) : Prop := ∀ fv args s v s', call fv args s = some (v, s') → Zr s s'
theorem WU {call : Zg} (hc : ZR call) (h : dop call ρ s o = some (v, s')) : Zr s s' := by
 unfold dop at h
 split at h
 · split at h
   · cases h; exact Zr.refl _
   · cases h
 · split at h
   · cases h; exact Zr.refl _
   · cases h
 · exact Sl h
 · exact Cw h
 · split at h
   · exact hc _ _ _ _ _ h
   · cases h
 · cases h
theorem FE {call : Zg} (hc : ZR call) : ∀ {l : List Ya} {notes : List YS} {t t' : PT Value} {s s' : DS}, XY call l notes t s = some (t', s') → Zr s s' := by
 intro l
 induction l with
 | nil => intro notes t t' s s' h; simp only [XY, z2, Prod.mk.injEq] at h; obtain ⟨_, rfl⟩ := h; exact Zr.refl _
 | cons o rest ih =>
  intro notes t t' s s' h
  simp only [XY] at h
  split at h
  · split at h
    · split at h
      · rename_i v s1 h1
        exact (WU hc h1).trans (ih h)
      · cases h
    · split at h
      · rename_i v s1 h1
        have hf := WU hc h1
        refine Zr.trans (b := { s1 with vis := s.vis, wr := s.wr }) ⟨hf.next, rfl, rfl, fun k hk hw => ?_⟩ (ih h)
        exact hf.keep k hk (by simp [hw])
      · cases h
  · exact ih h
end
end Go.Dx
