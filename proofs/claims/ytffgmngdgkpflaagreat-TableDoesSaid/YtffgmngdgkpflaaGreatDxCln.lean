/- A part. -/
import Derived.Test.YtffgmngdgkpflaaGreatDxSorted
import Derived.Shelf.SlMaps.Clone
set_option linter.unusedVariables false
set_option linter.unusedSimpArgs false
set_option linter.unusedSectionVars false
namespace Go.Dx
open Go Go.Proofs Go.Shelf Go.RowKit Go.Maps
def Wp (all : List Value) (s : DS) : Option (Value × DS) := match all with
 | [.map (some m)] => match s.get m with
  | some (.map es clock) => some (.map (some s.next), s.new (.map es clock))
  | _ => none
 | _ => none
theorem CM {all : List Value} {s s' : DS} {v : Value} (h : Wp all s = some (v, s')) : zu s s' := by
 unfold Wp at h
 split at h
 · split at h
   · cases h; exact zu.new _ _
   · cases h
 · cases h
section
variable {P : Program} {ρ : Ren} {β : Emb} {s s' : DS} {w : World}
theorem CL (L : SlLaysW.n5 P ρ) {all : List Value} {v : Value} (h : Wp all s = some (v, s')) {args' : Array Value} (hargs : LRel β all args'.toList) (hR : Rel P β s.get w) (hf : fresh β s s') :
 CallsIn Fence.wide 0 P (ρ.f 5) args' w fun e w'' => ∃ v', e = .returned v' ∧ ∃ β', VRel β' v v' ∧ Step P β s.get s.next w β' s'.get s'.next w'' := by
 unfold Wp at h
 split at h
 rotate_left
 · cases h
 rename_i m
 split at h
 rotate_left
 · cases h
 rename_i es clock hmap
 cases h
 obtain ⟨args'⟩ := args'
 simp only at hargs
 cases hargs with
 | @cons _ A _ l1 hA hargs =>
 cases hargs
 cases hA with
 | @map _ lm hm =>
 obtain ⟨lm', hm', xs, hxs, hE⟩ := hR.obj m _ hmap
 rw [hm] at hm'
 cases hm'
 have hfn : β s.next = none := hf s.next (Nat.le_refl _) (Nat.lt_succ_self _)
 refine callsIn_wide.2 ((AnyW.maps_Clone L lm.blk xs clock w hxs).mono ?_)
 rintro e w'' ⟨rfl, rfl⟩
 have hB : Below w.heap.size w (w.alloc (.map xs clock)) := (Below.refl _ w).alloc (Nat.le_refl _) _
 have hO : KQ P (β.upd s.next ⟨w.heap.size, 0, 0, 1, 0⟩) ⟨w.heap.size, 0, 0, 1, 0⟩ (.map es clock) (w.alloc (.map xs clock)) := ⟨xs, (MapKept.heap_alloc w _).1, ZH.mono (Emb.le_upd hfn) hE⟩
 have st := Step.newB (P := P) (w' := w.alloc (.map xs clock)) (o := .map es clock) hR hfn (l := ⟨w.heap.size, 0, 0, 1, 0⟩) (Nat.le_refl _) hB.size hB.block hB.os hB.tape hB.output hO
 exact ⟨_, rfl, _, .map (Emb.upd_same _ _ _), st⟩
theorem NK (L : SlLaysW.n5 P ρ) (hbody : ∀ X w, (callFunc (ρ.f 5) X).run P w = .ok (.enter (ρ.f 5) X) w) : Jc P (ρ.f 5) Wp :=
 ⟨fun _ _ _ _ h => CM h, hbody, fun _ _ _ _ h _ _ _ hargs hR hf => CL L h hargs hR hf⟩
end
end Go.Dx
