/- The evaluator Dx: regions that draw their order: what stands apart. -/
import Derived.Test.YtnmajohhfcgddaaDxPlain
set_option linter.unusedVariables false
set_option linter.unusedSimpArgs false
set_option linter.unusedSectionVars false
namespace Go.Dx
open Go

/-! ### Values along the canonical order, and behind some of its steps -/
/-- what stands at a place behind those steps of S that write it -/
def sel {α : Type} (f : Nat → α) (wr S : Nat → Bool) : Nat → α
  | 0 => f 0
  | p + 1 => if S p && wr p then f (p + 1) else sel f wr S p
theorem sel_eq {α : Type} {f : Nat → α} {wr S : Nat → Bool} {q : Nat} : ∀ {m : Nat}, (∀ p, p < m → wr p = false → f (p + 1) = f p) → (∀ p, p < m → wr p = true → (S p = true ↔ p < q)) →
    sel f wr S m = f (min m q)
  | 0, _, _ => by simp [sel]
  | m + 1, h1, h2 => by
    have ih := sel_eq (m := m) (q := q) (fun p hp => h1 p (by omega)) (fun p hp => h2 p (by omega))
    simp only [sel]
    by_cases hw : wr m = true
    · have := h2 m (by omega) hw
      by_cases hs : S m = true
      · have hq := this.1 hs
        simp only [hs, hw, Bool.and_self, if_true]
        rw [show min (m + 1) q = m + 1 from by omega]
      · have hq : ¬ m < q := fun h => hs (this.2 h)
        simp only [hs, Bool.false_and, Bool.false_eq_true, if_false, ih]
        rw [show min (m + 1) q = min m q from by omega]
    · have hwf : wr m = false := by simpa using hw
      simp only [hwf, Bool.and_false, Bool.false_eq_true, if_false, ih]
      by_cases hq : m < q
      · rw [show min (m + 1) q = m + 1 from by omega, show min m q = m from by omega]
        exact (h1 m (by omega) hwf).symm
      · rw [show min (m + 1) q = min m q from by omega]
theorem sel_same {α : Type} {f : Nat → α} {wr S S' : Nat → Bool} : ∀ {m : Nat}, (∀ p, p < m → wr p = true → S p = S' p) → sel f wr S m = sel f wr S' m
  | 0, _ => rfl
  | m + 1, h => by
    simp only [sel, sel_same (m := m) fun p hp => h p (by omega)]
    by_cases hw : wr m = true
    · rw [h m (by omega) hw]
    · simp [hw]

section
variable {P : Program} {β β' : Emb} {w w' : World} {g gs g' gs' : Nat → Option DObj} {n n' : Nat}
/-- A STEP OF A PART IS A STEP OF THE WHOLE. -/
theorem Step.part (hR : Rel P β g w) (hsub : ∀ k o, gs k = some o → g k = some o) (st : Step P β gs n w β' gs' n' w')
    (hg : ∀ k o, g' k = some o → gs' k = some o ∨ (g k = some o ∧ gs k = none)) : Step P β g n w β' g' n' w' := by
  have hkeep : ∀ k o l, g k = some o → gs k = none → β k = some l → w'.heap[l.blk]? = w.heap[l.blk]? := by
    intro k o l hk hn hl
    obtain ⟨l2, h1, h2⟩ := hR.obj k o hk
    rw [hl] at h1; cases h1
    refine st.frame _ h2.lt ?_
    intro k0 o0 l0 h0 how hl0 e
    have hne : k0 ≠ k := by rintro rfl; rw [h0] at hn; cases hn
    exact hR.inj k0 k o0 o l0 l (hsub _ _ h0) hk hl0 hl hne how e
  have hsplit : ∀ k o l, g' k = some o → β' k = some l → (gs' k = some o) ∨ (g k = some o ∧ gs k = none ∧ β k = some l) := by
    intro k o l hk hl
    rcases hg k o hk with h | ⟨h1, h2⟩
    · exact .inl h
    · obtain ⟨l2, h3, _⟩ := hR.obj k o h1
      have := st.emb _ _ h3
      rw [hl] at this; cases this
      exact .inr ⟨h1, h2, h3⟩
  -- of one of the part and one beside it
  have hcross : ∀ k k' o o' l l', gs' k = some o → β' k = some l → g k' = some o' → gs k' = none → β k' = some l' → (owned o = true ∨ owned o' = true) → l.blk ≠ l'.blk := by
    intro k k' o o' l l' h1 hl h2 h3 hl' how e
    obtain ⟨l2, h4, h5⟩ := hR.obj k' o' h2
    rw [hl'] at h4; cases h4
    rcases st.fresh k o l h1 hl with h | ⟨k0, o0, l0, h6, h7, h8, h9⟩
    · have := h5.lt; omega
    · have hne : k0 ≠ k' := by rintro rfl; rw [h6] at h3; cases h3
      rcases how with how | how
      · exact hR.inj k0 k' o0 o' l0 l' (hsub _ _ h6) h2 h7 hl' hne (h9 how) (h8.trans e)
      · exact hR.inj k' k0 o' o0 l' l0 h2 (hsub _ _ h6) hl' h7 (Ne.symm hne) how (e.symm.trans h8.symm)
  refine { le := st.le, emb := st.emb, dom := st.dom, rel := ⟨?_, ?_⟩, size := st.size, os := st.os, tape := st.tape, output := st.output, frame := ?_, fresh := ?_ }
  · intro k o hk
    rcases hg k o hk with h | ⟨h1, h2⟩
    · exact st.rel.obj k o h
    · obtain ⟨l, h3, h4⟩ := hR.obj k o h1
      exact ⟨l, st.emb _ _ h3, h4.keep st.emb (hkeep k o l h1 h2 h3)⟩
  · intro k k' o o' l l' h1 h2 e1 e2 hne how
    rcases hsplit k o l h1 e1 with a1 | ⟨a1, a2, a3⟩
    · rcases hsplit k' o' l' h2 e2 with b1 | ⟨b1, b2, b3⟩
      · exact st.rel.inj k k' o o' l l' a1 b1 e1 e2 hne how
      · exact hcross k k' o o' l l' a1 e1 b1 b2 b3 (.inl how)
    · rcases hsplit k' o' l' h2 e2 with b1 | ⟨b1, b2, b3⟩
      · exact Ne.symm (hcross k' k o' o l' l b1 e2 a1 a2 a3 (.inr how))
      · exact hR.inj k k' o o' l l' a1 b1 a3 b3 hne how
  · intro r hr hno
    exact st.frame r hr fun k o l hk how hl => hno k o l (hsub _ _ hk) how hl
  · intro k o l hk hl
    rcases hsplit k o l hk hl with a1 | ⟨a1, a2, a3⟩
    · rcases st.fresh k o l a1 hl with h | ⟨k0, o0, l0, h6, h7, h8, h9⟩
      · exact .inl h
      · exact .inr ⟨k0, o0, l0, hsub _ _ h6, h7, h8, h9⟩
    · exact .inr ⟨k, o, l, a1, a3, rfl, id⟩
end

/-! ### What is read alone -/
section
variable {ρ : Operand → Value} {s s2 : DS} {v : Value} {s' : DS}
theorem read_local {k off n : Nat} {l : List Value} (h : s.read k off n = some l) (he : s2.get k = s.get k) : s2.read k off n = some l := by
  unfold DS.read at h ⊢
  rw [he]; exact h
theorem dread_local {o : DOp} (h : dread ρ s o = some v) (he : ∀ k ∈ foot ρ s o, s2.get k = s.get k) : dread ρ s2 o = some v := by
  cases o <;> try (simp only [dread, reduceCtorEq] at h; done)
  case ld agg a =>
    simp only [dread, foot] at h he ⊢
    split at h
    · rename_i k off hk
      have := he k (by first | simp | (rw [hk]; simp))
      cases agg with
      | none => simp only [this]; exact h
      | some n => simp only [DS.read, this] at h ⊢; exact h
    · cases h
  case cvToStr x =>
    simp only [dread, foot] at h he ⊢
    split at h
    · exact h
    · rename_i k off sp len c hk
      have := he k (by first | simp | (rw [hk]; simp))
      simp only [DS.read, this] at h ⊢
      exact h
    · cases h
  case look str z ok m k =>
    simp only [dread, foot] at h he ⊢
    cases hm : ρ m <;> rw [hm] at h he <;> try (simp only [reduceCtorEq] at h; done)
    rename_i r
    cases r with
    | none => exact h
    | some r =>
      have := he r (by simp)
      simp only [this]
      exact h
  case blenM x =>
    simp only [dread, foot] at h he ⊢
    cases hm : ρ x <;> rw [hm] at h he <;> try (simp only [reduceCtorEq] at h; done)
    rename_i r
    cases r with
    | none => exact h
    | some r =>
      have := he r (by simp)
      simp only [this]
      exact h
  case ent it =>
    simp only [dread, foot] at h he ⊢
    split at h
    · rename_i r hr
      cases hg : s.get r with
      | none => simp [hg] at h
      | some ob =>
        cases ob <;> simp only [hg, reduceCtorEq] at h
        rename_i m since seen last
        cases m with
        | none => simp at h
        | some m =>
          have e1 := he r (by rw [hr]; simp [hg])
          have e2 := he m (by rw [hr]; simp [hg])
          rw [e1, hg]
          simp only [e2]
          exact h
    · cases h
theorem dmake_local {o : DOp} (h : dmake ρ s o = some (v, s')) (hn : s2.next = s.next) (he : ∀ k ∈ foot ρ s o, s2.get k = s.get k) :
    ∃ x, s' = s.new x ∧ dmake ρ s2 o = some (v, s2.new x) := by
  cases o <;> try (simp only [dmake, reduceCtorEq] at h; done)
  case alloc z => simp only [dmake, Option.some.injEq, Prod.mk.injEq] at h ⊢; obtain ⟨rfl, rfl⟩ := h; exact ⟨_, rfl, by rw [hn], rfl⟩
  case box x => simp only [dmake, Option.some.injEq, Prod.mk.injEq] at h ⊢; obtain ⟨rfl, rfl⟩ := h; exact ⟨_, rfl, by rw [hn], rfl⟩
  case bslice n sz z parts =>
    simp only [dmake] at h ⊢
    split at h
    · rename_i hc
      simp only [hc, if_true]
      split at h
      · rename_i cs hcs
        simp only [Option.some.injEq, Prod.mk.injEq] at h ⊢
        obtain ⟨rfl, rfl⟩ := h
        exact ⟨_, rfl, by rw [hn], rfl⟩
      · cases h
    · cases h
  case mkmap r =>
    simp only [dmake] at h ⊢
    split at h
    · rename_i hc
      simp only [Option.some.injEq, Prod.mk.injEq] at h
      obtain ⟨rfl, rfl⟩ := h
      exact ⟨_, rfl, by rw [hn]⟩
    · cases h
  case mkslice by_ z l c =>
    simp only [dmake] at h ⊢
    cases hi : asIdx (ρ l) with
    | none => simp [hi] at h
    | some a =>
      cases hj : asIdx (ρ c) with
      | none => simp [hi, hj] at h
      | some b =>
        simp only [hi, hj] at h ⊢
        split at h
        · rename_i hc
          simp only [hc, if_true, Option.some.injEq, Prod.mk.injEq] at h ⊢
          obtain ⟨rfl, rfl⟩ := h
          exact ⟨_, rfl, by rw [hn], rfl⟩
        · cases h
  case cvToBytes x =>
    simp only [dmake] at h ⊢
    cases hx : ρ x <;> rw [hx] at h <;> try (simp only [reduceCtorEq] at h; done)
    simp only at h ⊢
    split at h
    · rename_i hc
      simp only [hc, if_true, Option.some.injEq, Prod.mk.injEq] at h ⊢
      obtain ⟨rfl, rfl⟩ := h
      exact ⟨_, rfl, by rw [hn], rfl⟩
    · cases h
  case rng x =>
    simp only [dmake, foot] at h he ⊢
    cases hm : ρ x <;> rw [hm] at h he <;> try (simp only [reduceCtorEq] at h; done)
    rename_i r
    cases r with
    | none => simp only [Option.some.injEq, Prod.mk.injEq] at h ⊢; obtain ⟨rfl, rfl⟩ := h; exact ⟨_, rfl, by rw [hn], rfl⟩
    | some r =>
      have := he r (by simp)
      simp only [this]
      cases hg : s.get r with
      | none => simp [hg] at h
      | some ob =>
        cases ob <;> simp only [hg, reduceCtorEq, Option.some.injEq, Prod.mk.injEq] at h
        obtain ⟨rfl, rfl⟩ := h
        exact ⟨_, rfl, by simp only [hn]⟩
end
end Go.Dx
