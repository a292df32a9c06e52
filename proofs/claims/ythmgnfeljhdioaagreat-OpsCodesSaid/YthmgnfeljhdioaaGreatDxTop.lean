/- A part. -/
import Derived.Test.YthmgnfeljhdioaaGreatDxX4
import Derived.Calls
import GoSem.ClaimChange
set_option linter.unusedVariables false
set_option linter.unusedSimpArgs false
set_option linter.unusedSectionVars false
namespace Go.Dx
open Go
def MR (o : Option (Value × DS)) : Bool := match o with
 | some (.bool b, _) => b
 | _ => false
def s0 : DS := DS.start .nil 0
structure Kept (W w' : World) : Prop where
 os : w'.os = W.os
 tape : w'.tape = W.tape
 output : w'.output = W.output
 heap : ∀ i, i < W.heap.size → w'.heap[i]? = W.heap[i]?
 size : W.heap.size ≤ w'.heap.size
theorem Kept.keptBut {W w' : World} (h : Kept W w') (may : MemPlace → Prop) : W.keptBut w' may := by
 refine ⟨h.os, h.output, fun i hi => ?_⟩
 rw [h.heap i hi]
 cases hg : W.heap[i]? with
 | none => trivial
 | some ob =>
  cases ob <;> first | exact ⟨rfl, rfl, rfl, fun _ _ => rfl⟩ | exact .inr ⟨rfl, rfl⟩ | rfl
theorem top {P : Program} {E : Env} (hE : Dt P E) {d g : Nat} {all : List Value} {args : Array Value} (h : MR (GL E d (.func (.func g) #[] #[]) all s0) = true) (ha : ∀ β, LRel β all args.toList) (W : World) :
 Calls P g args W fun e w' => e = .returned (.bool true) ∧ Kept W w' := by
 rw [GK] at h
 obtain ⟨hfr, hb, hok⟩ := Yh hE d
 unfold MR at h
 split at h
 · rename_i b s' hr
   subst h
   have hR : Rel P (fun _ => none) s0.get W := ⟨fun k o hk => by have := DS.get_lt hk; simp [s0, DS.start] at this, fun k k' o o' l l' hk => by have := DS.get_lt hk; simp [s0, DS.start] at this⟩
   have he := hok _ _ _ _ _ hr (fun _ => none) W (.func (.func g) #[] #[]) args (.func .nil .nil) (ha _) hR (fun _ _ _ => rfl)
   simp only [Deferred.ofValue, Sem.run_bind, Sem.run_pure, Result.andThen_ok, invoke, hb _ _ _ _ _ _ hr] at he
   simp only [Enters] at he
   have e1 : #[] ++ args ++ #[] = args := by simp
   rw [e1] at he
   refine (callsIn_wide.1 he).mono ?_
   rintro e w' ⟨v', rfl, β', hv, st⟩
   cases hv
   exact ⟨rfl, st.os, st.tape, st.output, fun i hi => st.frame i hi fun k o l hk => by have := DS.get_lt hk; simp [s0, DS.start] at this, st.size⟩
 · cases h
end Go.Dx
