/- The evaluator Dx: what a run of its own leaves alone. -/
import Derived.Test.YtnmajohhfcgddaaDxOp
set_option linter.unusedVariables false
set_option linter.unusedSimpArgs false
set_option linter.unusedSectionVars false
namespace Go.Dx
open Go

/-- no number is lost; what may not be written is as it was -/
structure DFrame (s s' : DS) : Prop where
  next : s.next ≤ s'.next
  vis : s'.vis = s.vis
  wr : s'.wr = s.wr
  keep : ∀ k, k < s.next → s.wr k = false → s'.heap.get k = s.heap.get k
theorem DFrame.refl (s : DS) : DFrame s s := ⟨Nat.le_refl _, rfl, rfl, fun _ _ _ => rfl⟩
theorem DFrame.trans {a b c : DS} (h : DFrame a b) (h' : DFrame b c) : DFrame a c :=
  ⟨Nat.le_trans h.next h'.next, h'.vis.trans h.vis, h'.wr.trans h.wr, fun k hk hw => (h'.keep k (Nat.lt_of_lt_of_le hk h.next) (by rw [h.wr]; exact hw)).trans (h.keep k hk hw)⟩
theorem DFrame.new (s : DS) (o : DObj) : DFrame s (s.new o) :=
  ⟨Nat.le_succ _, rfl, rfl, fun k hk _ => by simp [DS.new, PT.get_put, Nat.ne_of_lt hk]⟩
theorem DFrame.set {s s' : DS} {k : Nat} {o : DObj} (h : s.set k o = some s') : DFrame s s' := by
  unfold DS.set at h
  split at h
  · rename_i hw
    cases h
    refine ⟨Nat.le_refl _, rfl, rfl, fun j hj hwj => ?_⟩
    have : j ≠ k := by rintro rfl; rw [hw] at hwj; cases hwj
    simp [PT.get_put, this]
  · cases h
theorem DFrame.kill {s s' : DS} {k : Nat} (h : s.kill k = some s') : DFrame s s' := by
  unfold DS.kill at h
  split at h
  · rename_i hw
    cases h
    refine ⟨Nat.le_refl _, rfl, rfl, fun j hj hwj => ?_⟩
    have : j ≠ k := by rintro rfl; rw [hw] at hwj; cases hwj
    simp [PT.get_put, this]
  · cases h
theorem DFrame.write {s s' : DS} {k off : Nat} {l : List Value} (h : s.write k off l = some s') : DFrame s s' := by
  unfold DS.write at h
  (repeat' split at h) <;> first | exact DFrame.set h | cases h

section
variable {ρ : Operand → Value} {s s' : DS} {v : Value} {o : DOp}
theorem make_frame (h : dmake ρ s o = some (v, s')) : DFrame s s' := by
  unfold dmake at h
  (repeat' split at h) <;> simp only [Option.some.injEq, Prod.mk.injEq, reduceCtorEq] at h <;> (obtain ⟨_, rfl⟩ := h; exact DFrame.new _ _)
theorem write_frame (h : dwrite ρ s o = some (v, s')) : DFrame s s' := by
  unfold dwrite at h
  cases o <;> simp only [reduceCtorEq] at h
  all_goals
    (repeat' split at h) <;> (try simp only [Option.some.injEq, Prod.mk.injEq, reduceCtorEq] at h) <;>
    first
      | (obtain ⟨_, rfl⟩ := h; first | exact DFrame.refl _ | exact DFrame.new _ _ | (exact DFrame.set (by assumption)) | (exact DFrame.write (by assumption)) | (exact (DFrame.kill (by assumption)).trans (DFrame.new _ _)))
      | done

/-- what calls leave alone -/
def CallFrame (call : CallFn) : Prop := ∀ fv args s v s', call fv args s = some (v, s') → DFrame s s'
theorem dop_frame {call : CallFn} (hc : CallFrame call) (h : dop call ρ s o = some (v, s')) : DFrame s s' := by
  unfold dop at h
  split at h
  · split at h
    · cases h; exact DFrame.refl _
    · cases h
  · split at h
    · cases h; exact DFrame.refl _
    · cases h
  · exact make_frame h
  · exact write_frame h
  · split at h
    · exact hc _ _ _ _ _ h
    · cases h
  · cases h
theorem dops_frame {call : CallFn} (hc : CallFrame call) : ∀ {l : List DOper} {notes : List Note} {t t' : PT Value} {s s' : DS}, dops call l notes t s = some (t', s') → DFrame s s' := by
  intro l
  induction l with
  | nil => intro notes t t' s s' h; simp only [dops, Option.some.injEq, Prod.mk.injEq] at h; obtain ⟨_, rfl⟩ := h; exact DFrame.refl _
  | cons o rest ih =>
    intro notes t t' s s' h
    simp only [dops] at h
    split at h
    · split at h
      · split at h
        · rename_i v s1 h1
          exact (dop_frame hc h1).trans (ih h)
        · cases h
      · split at h
        · rename_i v s1 h1
          have hf := dop_frame hc h1
          refine DFrame.trans (b := { s1 with vis := s.vis, wr := s.wr }) ⟨hf.next, rfl, rfl, fun k hk hw => ?_⟩ (ih h)
          exact hf.keep k hk (by simp [hw])
        · cases h
    · exact ih h
end
end Go.Dx
