/- A part. -/
import Derived.Test.YthmgnfeljhdioaaGreatDxOp
set_option linter.unusedVariables false
set_option linter.unusedSimpArgs false
set_option linter.unusedSectionVars false
namespace Go.Dx
open Go
structure zj (s s' : DS) : Prop where
 next : s.next ≤ s'.next
 vis : s'.vis = s.vis
 wr : s'.wr = s.wr
 keep : ∀ k, k < s.next → s.wr k = false → s'.heap.get k = s.heap.get k
theorem zj.refl (s : DS) : zj s s := ⟨Nat.le_refl _, rfl, rfl, fun _ _ _ => rfl⟩
theorem zj.trans {a b c : DS} (h : zj a b) (h' : zj b c) : zj a c :=
 ⟨Nat.le_trans h.next h'.next, h'.vis.trans h.vis, h'.wr.trans h.wr, fun k hk hw => (h'.keep k (Nat.lt_of_lt_of_le hk h.next) (by rw [h.wr]; exact hw)).trans (h.keep k hk hw)⟩
theorem zj.new (s : DS) (o : DObj) : zj s (s.new o) :=
 ⟨Nat.le_succ _, rfl, rfl, fun k hk _ => by simp [DS.new, PT.get_put, Nat.ne_of_lt hk]⟩
theorem zj.set {s s' : DS} {k : Nat} {o : DObj} (h : s.set k o = some s') : zj s s' := by
 unfold DS.set at h
 split at h
 · rename_i hw
   cases h
   refine ⟨Nat.le_refl _, rfl, rfl, fun j hj hwj => ?_⟩
   have : j ≠ k := by rintro rfl; rw [hw] at hwj; cases hwj
   simp [PT.get_put, this]
 · cases h
theorem zj.kill {s s' : DS} {k : Nat} (h : s.kill k = some s') : zj s s' := by
 unfold DS.kill at h
 split at h
 · rename_i hw
   cases h
   refine ⟨Nat.le_refl _, rfl, rfl, fun j hj hwj => ?_⟩
   have : j ≠ k := by rintro rfl; rw [hw] at hwj; cases hwj
   simp [PT.get_put, this]
 · cases h
theorem zj.write {s s' : DS} {k off : Nat} {l : List Value} (h : s.write k off l = some s') : zj s s' := by
 unfold DS.write at h
 (repeat' split at h) <;> first | exact zj.set h | cases h
section
variable {ρ : Operand → Value} {s s' : DS} {v : Value} {o : DOp}
theorem G5 (h : zx ρ s o = some (v, s')) : zj s s' := by
 unfold zx at h
 (repeat' split at h) <;> simp only [z2, Prod.mk.injEq, reduceCtorEq] at h <;> (obtain ⟨_, rfl⟩ := h; exact zj.new _ _)
theorem Vw (h : zf ρ s o = some (v, s')) : zj s s' := by
 unfold zf at h
 cases o <;> simp only [reduceCtorEq] at h
 all_goals
  (repeat' split at h) <;> (try simp only [z2, Prod.mk.injEq, reduceCtorEq] at h) <;>
  first
   | (obtain ⟨_, rfl⟩ := h; first | exact zj.refl _ | exact zj.new _ _ | (exact zj.set (by assumption)) | (exact zj.write (by assumption)) | (exact (zj.kill (by assumption)).trans (zj.new _ _)))
   | done
def zO (call : zg) : Prop := ∀ fv args s v s', call fv args s = some (v, s') → zj s s'
theorem Yb {call : zg} (hc : zO call) (h : dop call ρ s o = some (v, s')) : zj s s' := by
 unfold dop at h
 split at h
 · split at h
   · cases h; exact zj.refl _
   · cases h
 · split at h
   · cases h; exact zj.refl _
   · cases h
 · exact G5 h
 · exact Vw h
 · split at h
   · exact hc _ _ _ _ _ h
   · cases h
 · cases h
theorem JU {call : zg} (hc : zO call) : ∀ {l : List zw} {notes : List Zc} {t t' : PT Value} {s s' : DS}, ZD call l notes t s = some (t', s') → zj s s' := by
 intro l
 induction l with
 | nil => intro notes t t' s s' h; simp only [ZD, z2, Prod.mk.injEq] at h; obtain ⟨_, rfl⟩ := h; exact zj.refl _
 | cons o rest ih =>
  intro notes t t' s s' h
  simp only [ZD] at h
  split at h
  · split at h
    · split at h
      · rename_i v s1 h1
        exact (Yb hc h1).trans (ih h)
      · cases h
    · split at h
      · rename_i v s1 h1
        have hf := Yb hc h1
        refine zj.trans (b := { s1 with vis := s.vis, wr := s.wr }) ⟨hf.next, rfl, rfl, fun k hk hw => ?_⟩ (ih h)
        exact hf.keep k hk (by simp [hw])
      · cases h
  · exact ih h
end
end Go.Dx
