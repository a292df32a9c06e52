/- A part. -/
import Derived.Test.YtpfkbiaikfbpeaaGreatDxOp
set_option linter.unusedVariables false
set_option linter.unusedSimpArgs false
set_option linter.unusedSectionVars false
namespace Go.Dx
open Go
structure zX (s s' : DS) : Prop where
 next : s.next ≤ s'.next
 vis : s'.vis = s.vis
 wr : s'.wr = s.wr
 keep : ∀ k, k < s.next → s.wr k = false → s'.heap.get k = s.heap.get k
theorem zX.refl (s : DS) : zX s s := ⟨Nat.le_refl _, rfl, rfl, fun _ _ _ => rfl⟩
theorem zX.trans {a b c : DS} (h : zX a b) (h' : zX b c) : zX a c :=
 ⟨Nat.le_trans h.next h'.next, h'.vis.trans h.vis, h'.wr.trans h.wr, fun k hk hw => (h'.keep k (Nat.lt_of_lt_of_le hk h.next) (by rw [h.wr]; exact hw)).trans (h.keep k hk hw)⟩
theorem zX.new (s : DS) (o : DObj) : zX s (s.new o) :=
 ⟨Nat.le_succ _, rfl, rfl, fun k hk _ => by simp [DS.new, PT.get_put, Nat.ne_of_lt hk]⟩
theorem zX.set {s s' : DS} {k : Nat} {o : DObj} (h : s.set k o = some s') : zX s s' := by
 unfold DS.set at h
 split at h
 · rename_i hw
   cases h
   refine ⟨Nat.le_refl _, rfl, rfl, fun j hj hwj => ?_⟩
   have : j ≠ k := by rintro rfl; rw [hw] at hwj; cases hwj
   simp [PT.get_put, this]
 · cases h
theorem zX.kill {s s' : DS} {k : Nat} (h : s.kill k = some s') : zX s s' := by
 unfold DS.kill at h
 split at h
 · rename_i hw
   cases h
   refine ⟨Nat.le_refl _, rfl, rfl, fun j hj hwj => ?_⟩
   have : j ≠ k := by rintro rfl; rw [hw] at hwj; cases hwj
   simp [PT.get_put, this]
 · cases h
theorem zX.write {s s' : DS} {k off : Nat} {l : List Value} (h : s.write k off l = some s') : zX s s' := by
 unfold DS.write at h
 (repeat' split at h) <;> first | exact zX.set h | cases h
section
variable {ρ : Operand → Value} {s s' : DS} {v : Value} {o : DOp}
theorem DR (h : Zw ρ s o = some (v, s')) : zX s s' := by
 unfold Zw at h
 (repeat' split at h) <;> simp only [z2, Prod.mk.injEq, reduceCtorEq] at h <;> (obtain ⟨_, rfl⟩ := h; exact zX.new _ _)
theorem Fs (h : zG ρ s o = some (v, s')) : zX s s' := by
 unfold zG at h
 cases o <;> simp only [reduceCtorEq] at h
 all_goals
  (repeat' split at h) <;> (try simp only [z2, Prod.mk.injEq, reduceCtorEq] at h) <;>
  first
   | (obtain ⟨_, rfl⟩ := h; first | exact zX.refl _ | exact zX.new _ _ | (exact zX.set (by assumption)) | (exact zX.write (by assumption)) | (exact (zX.kill (by assumption)).trans (zX.new _ _)))
   | done
def ZM (call : zN) : Prop := ∀ fv args s v s', call fv args s = some (v, s') → zX s s'
theorem XZ {call : zN} (hc : ZM call) (h : dop call ρ s o = some (v, s')) : zX s s' := by
 unfold dop at h
 split at h
 · split at h
   · cases h; exact zX.refl _
   · cases h
 · split at h
   · cases h; exact zX.refl _
   · cases h
 · exact DR h
 · exact Fs h
 · split at h
   · exact hc _ _ _ _ _ h
   · cases h
 · cases h
theorem VY {call : zN} (hc : ZM call) : ∀ {l : List Zr} {notes : List Yv} {t t' : PT Value} {s s' : DS}, Y9 call l notes t s = some (t', s') → zX s s' := by
 intro l
 induction l with
 | nil => intro notes t t' s s' h; simp only [Y9, z2, Prod.mk.injEq] at h; obtain ⟨_, rfl⟩ := h; exact zX.refl _
 | cons o rest ih =>
  intro notes t t' s s' h
  simp only [Y9] at h
  split at h
  · split at h
    · split at h
      · rename_i v s1 h1
        exact (XZ hc h1).trans (ih h)
      · cases h
    · split at h
      · rename_i v s1 h1
        have hf := XZ hc h1
        refine zX.trans (b := { s1 with vis := s.vis, wr := s.wr }) ⟨hf.next, rfl, rfl, fun k hk hw => ?_⟩ (ih h)
        exact hf.keep k hk (by simp [hw])
      · cases h
  · exact ih h
end
end Go.Dx
