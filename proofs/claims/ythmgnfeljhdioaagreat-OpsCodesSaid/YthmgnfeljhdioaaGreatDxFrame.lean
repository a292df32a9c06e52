/- A part. -/
import Derived.Test.YthmgnfeljhdioaaGreatDxOp
set_option linter.unusedVariables false
set_option linter.unusedSimpArgs false
set_option linter.unusedSectionVars false
namespace Go.Dx
open Go
structure zq (s s' : DS) : Prop where
 next : s.next ≤ s'.next
 vis : s'.vis = s.vis
 wr : s'.wr = s.wr
 keep : ∀ k, k < s.next → s.wr k = false → s'.heap.get k = s.heap.get k
theorem zq.refl (s : DS) : zq s s := ⟨Nat.le_refl _, rfl, rfl, fun _ _ _ => rfl⟩
theorem zq.trans {a b c : DS} (h : zq a b) (h' : zq b c) : zq a c :=
 ⟨Nat.le_trans h.next h'.next, h'.vis.trans h.vis, h'.wr.trans h.wr, fun k hk hw => (h'.keep k (Nat.lt_of_lt_of_le hk h.next) (by rw [h.wr]; exact hw)).trans (h.keep k hk hw)⟩
theorem zq.new (s : DS) (o : DObj) : zq s (s.new o) :=
 ⟨Nat.le_succ _, rfl, rfl, fun k hk _ => by simp [DS.new, PT.get_put, Nat.ne_of_lt hk]⟩
theorem zq.set {s s' : DS} {k : Nat} {o : DObj} (h : s.set k o = some s') : zq s s' := by
 unfold DS.set at h
 split at h
 · rename_i hw
   cases h
   refine ⟨Nat.le_refl _, rfl, rfl, fun j hj hwj => ?_⟩
   have : j ≠ k := by rintro rfl; rw [hw] at hwj; cases hwj
   simp [PT.get_put, this]
 · cases h
theorem zq.kill {s s' : DS} {k : Nat} (h : s.kill k = some s') : zq s s' := by
 unfold DS.kill at h
 split at h
 · rename_i hw
   cases h
   refine ⟨Nat.le_refl _, rfl, rfl, fun j hj hwj => ?_⟩
   have : j ≠ k := by rintro rfl; rw [hw] at hwj; cases hwj
   simp [PT.get_put, this]
 · cases h
theorem zq.write {s s' : DS} {k off : Nat} {l : List Value} (h : s.write k off l = some s') : zq s s' := by
 unfold DS.write at h
 (repeat' split at h) <;> first | exact zq.set h | cases h
section
variable {ρ : Operand → Value} {s s' : DS} {v : Value} {o : DOp}
theorem DU (h : zL ρ s o = some (v, s')) : zq s s' := by
 unfold zL at h
 (repeat' split at h) <;> simp only [z2, Prod.mk.injEq, reduceCtorEq] at h <;> (obtain ⟨_, rfl⟩ := h; exact zq.new _ _)
theorem GM (h : zl ρ s o = some (v, s')) : zq s s' := by
 unfold zl at h
 cases o <;> simp only [reduceCtorEq] at h
 all_goals
  (repeat' split at h) <;> (try simp only [z2, Prod.mk.injEq, reduceCtorEq] at h) <;>
  first
   | (obtain ⟨_, rfl⟩ := h; first | exact zq.refl _ | exact zq.new _ _ | (exact zq.set (by assumption)) | (exact zq.write (by assumption)) | (exact (zq.kill (by assumption)).trans (zq.new _ _)))
   | done
def zG (call : zn) : Prop := ∀ fv args s v s', call fv args s = some (v, s') → zq s s'
theorem YN {call : zn} (hc : zG call) (h : dop call ρ s o = some (v, s')) : zq s s' := by
 unfold dop at h
 split at h
 · split at h
   · cases h; exact zq.refl _
   · cases h
 · split at h
   · cases h; exact zq.refl _
   · cases h
 · exact DU h
 · exact GM h
 · split at h
   · exact hc _ _ _ _ _ h
   · cases h
 · cases h
theorem KW {call : zn} (hc : zG call) : ∀ {l : List zK} {notes : List Zw} {t t' : PT Value} {s s' : DS}, Z0 call l notes t s = some (t', s') → zq s s' := by
 intro l
 induction l with
 | nil => intro notes t t' s s' h; simp only [Z0, z2, Prod.mk.injEq] at h; obtain ⟨_, rfl⟩ := h; exact zq.refl _
 | cons o rest ih =>
  intro notes t t' s s' h
  simp only [Z0] at h
  split at h
  · split at h
    · split at h
      · rename_i v s1 h1
        exact (YN hc h1).trans (ih h)
      · cases h
    · split at h
      · rename_i v s1 h1
        have hf := YN hc h1
        refine zq.trans (b := { s1 with vis := s.vis, wr := s.wr }) ⟨hf.next, rfl, rfl, fun k hk hw => ?_⟩ (ih h)
        exact hf.keep k hk (by simp [hw])
      · cases h
  · exact ih h
end
end Go.Dx
