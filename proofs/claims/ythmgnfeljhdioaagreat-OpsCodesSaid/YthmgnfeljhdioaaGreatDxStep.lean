/- A part. -/
import Derived.Test.YthmgnfeljhdioaaGreatDxNum
set_option linter.unusedVariables false
set_option linter.unusedSimpArgs false
set_option linter.unusedSectionVars false
namespace Go.Dx
open Go
def Emb.upd (β : Emb) (k : Nat) (l : Loc) : Emb := fun j => if j = k then some l else β j
theorem Emb.le_upd {β : Emb} {k : Nat} {l : Loc} (h : β k = none) : β.le (β.upd k l) := by
 intro j x hj
 unfold Emb.upd
 by_cases e : j = k
 · subst e; rw [h] at hj; cases hj
 · simp [e, hj]
theorem Emb.upd_same (β : Emb) (k : Nat) (l : Loc) : β.upd k l k = some l := by simp [Emb.upd]
section
variable {P : Program} {β β' : Emb} {s s' : DS} {w w' : World}
theorem Rel.sub {g g' : Nat → Option DObj} (h : Rel P β g w) (hs : ∀ k o, g' k = some o → g k = some o) : Rel P β g' w :=
 ⟨fun k o hk => h.obj k o (hs k o hk), fun k k' o o' l l' h1 h2 => h.inj k k' o o' l l' (hs _ _ h1) (hs _ _ h2)⟩
theorem Rel.same {g : Nat → Option DObj} (h : Rel P β g w) (hw : w'.heap = w.heap) : Rel P β g w' :=
 ⟨fun k o hk => let ⟨l, a, b⟩ := h.obj k o hk; ⟨l, a, b.keep (Emb.le.refl _) (by rw [hw])⟩, h.inj⟩
theorem Step.same {g : Nat → Option DObj} {n : Nat} (h : Rel P β g w) (hh : w'.heap = w.heap) (ho : w'.os = w.os) (ht : w'.tape = w.tape) (hu : w'.output = w.output) :
 Step P β g n w β g n w' where
 le := Nat.le_refl _
 emb := Emb.le.refl _
 dom := fun k h h' => absurd h h'
 rel := h.same hh
 size := by rw [hh]; exact Nat.le_refl _
 os := ho
 tape := ht
 output := hu
 frame := fun _ _ _ => by rw [hh]
 fresh := fun k o l ho hl => .inr ⟨k, o, l, ho, hl, rfl, id⟩
theorem zX (a b : Nat) : Nat.blt a b = true ↔ a < b := by rw [Nat.blt_eq]
theorem DS.get_new (s : DS) (o : DObj) (k : Nat) : (s.new o).get k = if Nat.blt k (s.next + 1) && s.vis k then (if k = s.next then some o else s.heap.get k) else none := by
 simp [DS.get, DS.new, PT.get_put]
theorem DS.get_new_old {s : DS} {o : DObj} {k : Nat} (h : k ≠ s.next) : (s.new o).get k = s.get k := by
 rw [DS.get_new]; simp only [h, if_false]
 have : Nat.blt k (s.next + 1) = Nat.blt k s.next := by
  rw [Bool.eq_iff_iff, zX, zX]; omega
 rw [this]; rfl
theorem DS.get_lt {s : DS} {k : Nat} {o : DObj} (h : s.get k = some o) : k < s.next := by
 unfold DS.get at h
 split at h
 · rename_i hc
   simp only [Bool.and_eq_true] at hc
   exact (zX _ _).1 hc.1
 · cases h
theorem Step.new (h : Rel P β s.get w) (hf : β s.next = none) {o : DObj} {O : Obj} {l : Loc} (hl : l.blk = w.heap.size)
 (hh : w'.heap = w.heap.push O) (hos : w'.os = w.os) (ht : w'.tape = w.tape) (hu : w'.output = w.output)
 (hO : JW P (β.upd s.next l) l o w') : Step P β s.get s.next w (β.upd s.next l) (s.new o).get (s.new o).next w' := by
 have hle : β.le (β.upd s.next l) := Emb.le_upd hf
 have hold : ∀ r, r < w.heap.size → w'.heap[r]? = w.heap[r]? := by
  intro r hr
  rw [hh, Array.getElem?_push]
  simp [Nat.ne_of_lt hr]
 have hobj : ∀ k o', (s.new o).get k = some o' → k = s.next ∧ o' = o ∨ k ≠ s.next ∧ s.get k = some o' := by
  intro k o' hk
  by_cases e : k = s.next
  · subst e
    rw [DS.get_new] at hk
    split at hk
    · simp at hk; exact .inl ⟨rfl, hk.symm⟩
    · cases hk
  · exact .inr ⟨e, by rwa [DS.get_new_old e] at hk⟩
 have hβ : ∀ k, k ≠ s.next → β.upd s.next l k = β k := fun k e => by simp [Emb.upd, e]
 refine { le := Nat.le_succ _, emb := hle, dom := ?_, rel := ⟨?_, ?_⟩, size := by rw [hh]; simp, os := hos, tape := ht, output := hu, frame := fun r hr _ => hold r hr, fresh := ?_ }
 · intro k hk hk'
   by_cases e : k = s.next
   · subst e; exact ⟨Nat.le_refl _, Nat.lt_succ_self _⟩
   · rw [hβ k e] at hk'; exact absurd hk hk'
 · intro k o' hk
   rcases hobj k o' hk with ⟨rfl, rfl⟩ | ⟨e, hk⟩
   · exact ⟨l, Emb.upd_same _ _ _, hO⟩
   · obtain ⟨l', h1, h2⟩ := h.obj k o' hk
     exact ⟨l', hle _ _ h1, h2.keep hle (hold _ h2.lt)⟩
 · intro k k' o1 o2 l1 l2 h1 h2 e1 e2 hne how
   rcases hobj k o1 h1 with ⟨rfl, rfl⟩ | ⟨e, h1⟩
   · rcases hobj k' o2 h2 with ⟨rfl, rfl⟩ | ⟨e', h2⟩
     · exact absurd rfl hne
     · rw [Emb.upd_same] at e1
       cases e1
       rw [hβ k' e'] at e2
       obtain ⟨l', h3, h4⟩ := h.obj k' o2 h2
       rw [e2] at h3
       cases h3
       have := h4.lt
       omega
   · rw [hβ k e] at e1
     rcases hobj k' o2 h2 with ⟨rfl, _⟩ | ⟨e', h2⟩
     · rw [Emb.upd_same] at e2
       cases e2
       obtain ⟨l', h3, h4⟩ := h.obj k o1 h1
       rw [e1] at h3
       cases h3
       have := h4.lt
       omega
     · rw [hβ k' e'] at e2
       exact h.inj k k' o1 o2 l1 l2 h1 h2 e1 e2 hne how
 · intro k o' l' hk hl'
   rcases hobj k o' hk with ⟨rfl, rfl⟩ | ⟨e, hk⟩
   · rw [Emb.upd_same] at hl'; cases hl'; left; omega
   · rw [hβ k e] at hl'
     exact .inr ⟨k, o', l', hk, hl', rfl, id⟩
theorem DS.get_set {k : Nat} {o : DObj} (h : s.set k o = some s') (j : Nat) : s'.get j = if Nat.blt j s.next && s.vis j then (if j = k then some o else s.heap.get j) else none := by
 unfold DS.set at h
 split at h
 · cases h; simp [DS.get, PT.get_put]
 · cases h
theorem DS.set_next {k : Nat} {o : DObj} (h : s.set k o = some s') : s'.next = s.next := by
 unfold DS.set at h
 split at h <;> cases h
 rfl
theorem Step.write (h : Rel P β s.get w) {k : Nat} {o o' : DObj} (hs : s.set k o' = some s') (hk : s.get k = some o) (ho : owned o = true) (ho' : owned o' = true)
 {l : Loc} (hl : β k = some l) (hsz : w'.heap.size = w.heap.size) (hw : ∀ r, r ≠ l.blk → w'.heap[r]? = w.heap[r]?)
 (hos : w'.os = w.os) (ht : w'.tape = w.tape) (hu : w'.output = w.output) (hO : JW P β l o' w') :
 Step P β s.get s.next w β s'.get s'.next w' := by
 have hobj : ∀ j x, s'.get j = some x → j = k ∧ x = o' ∨ j ≠ k ∧ s.get j = some x := by
  intro j x hj
  rw [DS.get_set hs] at hj
  by_cases e : j = k
  · subst e
    split at hj
    · simp at hj; exact .inl ⟨rfl, hj.symm⟩
    · cases hj
  · refine .inr ⟨e, ?_⟩
    simp only [e, if_false] at hj
    exact hj
 refine { le := by rw [DS.set_next hs]; exact Nat.le_refl _, emb := Emb.le.refl _, dom := fun k h h' => absurd h h', rel := ⟨?_, ?_⟩, size := by omega, os := hos, tape := ht, output := hu, frame := ?_, fresh := ?_ }
 · intro j x hj
   rcases hobj j x hj with ⟨rfl, rfl⟩ | ⟨e, hj⟩
   · exact ⟨l, hl, hO⟩
   · obtain ⟨l', h1, h2⟩ := h.obj j x hj
     exact ⟨l', h1, h2.keep (Emb.le.refl _) (hw _ fun e' => h.inj k j o x l l' hk hj hl h1 (Ne.symm e) ho e'.symm)⟩
 · intro j j' x x' l1 l2 h1 h2 e1 e2 hne how
   rcases hobj j x h1 with ⟨rfl, rfl⟩ | ⟨e, h1⟩
   · rcases hobj j' x' h2 with ⟨rfl, rfl⟩ | ⟨e', h2⟩
     · exact absurd rfl hne
     · exact h.inj _ _ o x' l1 l2 hk h2 e1 e2 hne ho
   · rcases hobj j' x' h2 with ⟨rfl, rfl⟩ | ⟨e', h2⟩
     · exact h.inj _ _ x o l1 l2 h1 hk e1 e2 hne how
     · exact h.inj _ _ x x' l1 l2 h1 h2 e1 e2 hne how
 · intro r hr hno
   exact hw r fun e => hno k o l hk ho hl e.symm
 · intro j x l' hj hl'
   rcases hobj j x hj with ⟨rfl, rfl⟩ | ⟨e, hj⟩
   · exact .inr ⟨j, o, l', hk, hl', rfl, fun _ => ho⟩
   · exact .inr ⟨j, x, l', hj, hl', rfl, id⟩
theorem DS.get_kill {k : Nat} (h : s.kill k = some s') (j : Nat) : s'.get j = if j = k then none else s.get j := by
 unfold DS.kill at h
 split at h
 · cases h
   simp only [DS.get, PT.get_put]
   by_cases e : j = k <;> simp [e]
 · cases h
theorem DS.kill_next {k : Nat} (h : s.kill k = some s') : s'.next = s.next := by
 unfold DS.kill at h
 split at h <;> cases h
 rfl
theorem Step.kill (h : Rel P β s.get w) {k : Nat} (hs : s.kill k = some s') : Step P β s.get s.next w β s'.get s'.next w := by
 have hsub : ∀ j x, s'.get j = some x → s.get j = some x := by
  intro j x hj
  rw [DS.get_kill hs] at hj
  split at hj
  · cases hj
  · exact hj
 exact { le := by rw [DS.kill_next hs]; exact Nat.le_refl _, emb := Emb.le.refl _, dom := fun k h h' => absurd h h', rel := h.sub hsub, size := Nat.le_refl _, os := rfl, tape := rfl, output := rfl, frame := fun _ _ _ => rfl, fresh := fun j x l hj hl => .inr ⟨j, x, l, hsub j x hj, hl, rfl, id⟩ }
end
end Go.Dx
