/- A part. -/
import Derived.Test.YthmgnfeljhdioaaGreatDxPlain
set_option linter.unusedVariables false
set_option linter.unusedSimpArgs false
set_option linter.unusedSectionVars false
namespace Go.Dx
open Go
def sel {α : Type} (f : Nat → α) (wr S : Nat → Bool) : Nat → α
 | 0 => f 0
 | p + 1 => if S p && wr p then f (p + 1) else sel f wr S p
theorem XJ {α : Type} {f : Nat → α} {wr S : Nat → Bool} {q : Nat} : ∀ {m : Nat}, (∀ p, p < m → wr p = false → f (p + 1) = f p) → (∀ p, p < m → wr p = true → (S p = true ↔ p < q)) →
 sel f wr S m = f (min m q)
 | 0, _, _ => by simp [sel]
 | m + 1, h1, h2 => by
  have ih := XJ (m := m) (q := q) (fun p hp => h1 p (by omega)) (fun p hp => h2 p (by omega))
  simp only [sel]
  by_cases hw : wr m = true
  · have := h2 m (by omega) hw
    by_cases hs : S m = true
    · have hq := this.1 hs
      simp only [hs, hw, Bool.and_self, if_true]
      rw [show min (m + 1) q = m + 1 from by omega]
    · have hq : ¬ m < q := fun h => hs (this.2 h)
      simp only [hs, Bool.false_and, z3, if_false, ih]
      rw [show min (m + 1) q = min m q from by omega]
  · have hwf : wr m = false := by simpa using hw
    simp only [hwf, Bool.and_false, z3, if_false, ih]
    by_cases hq : m < q
    · rw [show min (m + 1) q = m + 1 from by omega, show min m q = m from by omega]
      exact (h1 m (by omega) hwf).symm
    · rw [show min (m + 1) q = min m q from by omega]
theorem Ki {α : Type} {f : Nat → α} {wr S S' : Nat → Bool} : ∀ {m : Nat}, (∀ p, p < m → wr p = true → S p = S' p) → sel f wr S m = sel f wr S' m
 | 0, _ => rfl
 | m + 1, h => by
  simp only [sel, Ki (m := m) fun p hp => h p (by omega)]
  by_cases hw : wr m = true
  · rw [h m (by omega) hw]
  · simp [hw]
section
variable {P : Program} {β β' : Emb} {w w' : World} {g gs g' gs' : Nat → Option DObj} {n n' : Nat}
theorem Step.part (hR : Rel P β g w) (hsub : ∀ k o, gs k = some o → g k = some o) (st : Step P β gs n w β' gs' n' w')
 (hg : ∀ k o, g' k = some o → gs' k = some o ∨ (g k = some o ∧ gs k = none)) : Step P β g n w β' g' n' w' := by
 have hkeep : ∀ k o l, g k = some o → gs k = none → β k = some l → w'.heap[l.blk]? = w.heap[l.blk]? := by
  intro k o l hk hn hl
  obtain ⟨l2, h1, h2⟩ := hR.obj k o hk
  rw [hl] at h1; cases h1
  refine st.frame _ h2.lt ?_
  intro k0 o0 l0 h0 how hl0 e
  have hne : k0 ≠ k := by rintro rfl; rw [h0] at hn; cases hn
  exact hR.inj k0 k o0 o l0 l (hsub _ _ h0) hk hl0 hl hne how e
 have hsplit : ∀ k o l, g' k = some o → β' k = some l → (gs' k = some o) ∨ (g k = some o ∧ gs k = none ∧ β k = some l) := by
  intro k o l hk hl
  rcases hg k o hk with h | ⟨h1, h2⟩
  · exact .inl h
  · obtain ⟨l2, h3, _⟩ := hR.obj k o h1
    have := st.emb _ _ h3
    rw [hl] at this; cases this
    exact .inr ⟨h1, h2, h3⟩
 have hcross : ∀ k k' o o' l l', gs' k = some o → β' k = some l → g k' = some o' → gs k' = none → β k' = some l' → (owned o = true ∨ owned o' = true) → l.blk ≠ l'.blk := by
  intro k k' o o' l l' h1 hl h2 h3 hl' how e
  obtain ⟨l2, h4, h5⟩ := hR.obj k' o' h2
  rw [hl'] at h4; cases h4
  rcases st.fresh k o l h1 hl with h | ⟨k0, o0, l0, h6, h7, h8, h9⟩
  · have := h5.lt; omega
  · have hne : k0 ≠ k' := by rintro rfl; rw [h6] at h3; cases h3
    rcases how with how | how
    · exact hR.inj k0 k' o0 o' l0 l' (hsub _ _ h6) h2 h7 hl' hne (h9 how) (h8.trans e)
    · exact hR.inj k' k0 o' o0 l' l0 h2 (hsub _ _ h6) hl' h7 (Ne.symm hne) how (e.symm.trans h8.symm)
 refine { le := st.le, emb := st.emb, dom := st.dom, rel := ⟨?_, ?_⟩, size := st.size, os := st.os, tape := st.tape, output := st.output, frame := ?_, fresh := ?_ }
 · intro k o hk
   rcases hg k o hk with h | ⟨h1, h2⟩
   · exact st.rel.obj k o h
   · obtain ⟨l, h3, h4⟩ := hR.obj k o h1
     exact ⟨l, st.emb _ _ h3, h4.keep st.emb (hkeep k o l h1 h2 h3)⟩
 · intro k k' o o' l l' h1 h2 e1 e2 hne how
   rcases hsplit k o l h1 e1 with a1 | ⟨a1, a2, a3⟩
   · rcases hsplit k' o' l' h2 e2 with b1 | ⟨b1, b2, b3⟩
     · exact st.rel.inj k k' o o' l l' a1 b1 e1 e2 hne how
     · exact hcross k k' o o' l l' a1 e1 b1 b2 b3 (.inl how)
   · rcases hsplit k' o' l' h2 e2 with b1 | ⟨b1, b2, b3⟩
     · exact Ne.symm (hcross k' k o' o l' l b1 e2 a1 a2 a3 (.inr how))
     · exact hR.inj k k' o o' l l' a1 b1 a3 b3 hne how
 · intro r hr hno
   exact st.frame r hr fun k o l hk how hl => hno k o l (hsub _ _ hk) how hl
 · intro k o l hk hl
   rcases hsplit k o l hk hl with a1 | ⟨a1, a2, a3⟩
   · rcases st.fresh k o l a1 hl with h | ⟨k0, o0, l0, h6, h7, h8, h9⟩
     · exact .inl h
     · exact .inr ⟨k0, o0, l0, hsub _ _ h6, h7, h8, h9⟩
   · exact .inr ⟨k, o, l, a1, a3, rfl, id⟩
end
section
variable {ρ : Operand → Value} {s s2 : DS} {v : Value} {s' : DS}
theorem F0 {o : DOp} (h : zk ρ s o = some v) (he : ∀ k ∈ foot ρ s o, s2.get k = s.get k) : zk ρ s2 o = some v := by
 cases o <;> try (simp only [zk, reduceCtorEq] at h; done)
 case ld agg a =>
  simp only [zk, foot] at h he ⊢
  split at h
  · rename_i k off hk
    have := he k (by first | simp | (rw [hk]; simp))
    cases agg with
    | none => simp only [this]; exact h
    | some n => simp only [DS.read, this] at h ⊢; exact h
  · cases h
 case cvToStr x =>
  simp only [zk, foot] at h he ⊢
  split at h
  · exact h
  · rename_i k off sp len c hk
    have := he k (by first | simp | (rw [hk]; simp))
    simp only [DS.read, this] at h ⊢
    exact h
  · cases h
 case look str z ok m k =>
  simp only [zk, foot] at h he ⊢
  cases hm : ρ m <;> rw [hm] at h he <;> try (simp only [reduceCtorEq] at h; done)
  rename_i r
  cases r with
  | none => exact h
  | some r =>
   have := he r (by simp)
   simp only [this]
   exact h
 case blenM x =>
  simp only [zk, foot] at h he ⊢
  cases hm : ρ x <;> rw [hm] at h he <;> try (simp only [reduceCtorEq] at h; done)
  rename_i r
  cases r with
  | none => exact h
  | some r =>
   have := he r (by simp)
   simp only [this]
   exact h
 case ent it =>
  simp only [zk, foot] at h he ⊢
  split at h
  · rename_i r hr
    cases hg : s.get r with
    | none => simp [hg] at h
    | some ob =>
     cases ob <;> simp only [hg, reduceCtorEq] at h
     rename_i m since seen last
     cases m with
     | none => simp at h
     | some m =>
      have e1 := he r (by rw [hr]; simp [hg])
      have e2 := he m (by rw [hr]; simp [hg])
      rw [e1, hg]
      simp only [e2]
      exact h
  · cases h
theorem JL {o : DOp} (h : zL ρ s o = some (v, s')) (hn : s2.next = s.next) (he : ∀ k ∈ foot ρ s o, s2.get k = s.get k) :
 ∃ x, s' = s.new x ∧ zL ρ s2 o = some (v, s2.new x) := by
 cases o <;> try (simp only [zL, reduceCtorEq] at h; done)
 case alloc z => simp only [zL, z2, Prod.mk.injEq] at h ⊢; obtain ⟨rfl, rfl⟩ := h; exact ⟨_, rfl, by rw [hn], rfl⟩
 case box x => simp only [zL, z2, Prod.mk.injEq] at h ⊢; obtain ⟨rfl, rfl⟩ := h; exact ⟨_, rfl, by rw [hn], rfl⟩
 case bslice n sz z parts =>
  simp only [zL] at h ⊢
  split at h
  · rename_i hc
    simp only [hc, if_true]
    split at h
    · rename_i cs hcs
      simp only [z2, Prod.mk.injEq] at h ⊢
      obtain ⟨rfl, rfl⟩ := h
      exact ⟨_, rfl, by rw [hn], rfl⟩
    · cases h
  · cases h
 case mkmap r =>
  simp only [zL] at h ⊢
  split at h
  · rename_i hc
    simp only [z2, Prod.mk.injEq] at h
    obtain ⟨rfl, rfl⟩ := h
    exact ⟨_, rfl, by rw [hn]⟩
  · cases h
 case mkslice by_ z l c =>
  simp only [zL] at h ⊢
  cases hi : zU (ρ l) with
  | none => simp [hi] at h
  | some a =>
   cases hj : zU (ρ c) with
   | none => simp [hi, hj] at h
   | some b =>
    simp only [hi, hj] at h ⊢
    split at h
    · rename_i hc
      simp only [hc, if_true, z2, Prod.mk.injEq] at h ⊢
      obtain ⟨rfl, rfl⟩ := h
      exact ⟨_, rfl, by rw [hn], rfl⟩
    · cases h
 case cvToBytes x =>
  simp only [zL] at h ⊢
  cases hx : ρ x <;> rw [hx] at h <;> try (simp only [reduceCtorEq] at h; done)
  simp only at h ⊢
  split at h
  · rename_i hc
    simp only [hc, if_true, z2, Prod.mk.injEq] at h ⊢
    obtain ⟨rfl, rfl⟩ := h
    exact ⟨_, rfl, by rw [hn], rfl⟩
  · cases h
 case rng x =>
  simp only [zL, foot] at h he ⊢
  cases hm : ρ x <;> rw [hm] at h he <;> try (simp only [reduceCtorEq] at h; done)
  rename_i r
  cases r with
  | none => simp only [z2, Prod.mk.injEq] at h ⊢; obtain ⟨rfl, rfl⟩ := h; exact ⟨_, rfl, by rw [hn], rfl⟩
  | some r =>
   have := he r (by simp)
   simp only [this]
   cases hg : s.get r with
   | none => simp [hg] at h
   | some ob =>
    cases ob <;> simp only [hg, reduceCtorEq, z2, Prod.mk.injEq] at h
    obtain ⟨rfl, rfl⟩ := h
    exact ⟨_, rfl, by simp only [hn]⟩
end
end Go.Dx
namespace Go.Dx
open Go
def veil (s : DS) (nts : List Zw) (haz : List Nat) : DS :=
 { s with vis := fun k => s.vis k && !hidden nts haz k, wr := fun k => s.wr k && !hidden nts haz k && !shielded nts haz k }
def TD (call : zn) (l : zK) (nts : List Zw) (t : PT Value) (s : DS) (t' : PT Value) (s' : DS) : Prop :=
 (zE t l.guard = true ∧ ∃ v s1, dop call (ev t) (veil s nts l.haz) l.op = some (v, s1) ∧ t' = ZJ t l.dst v ∧ s' = { s1 with vis := s.vis, wr := s.wr }) ∨
 (zE t l.guard = false ∧ t' = ZJ t l.dst zv ∧ s' = s)
def YI (l : zK) (t : PT Value) (s s' : DS) : Zw :=
 if zE t l.guard then ⟨foot (ev t) s l.op, s.next, s'.next⟩ else ⟨[], s.next, s.next⟩
theorem Sw (s : DS) (nts : List Zw) : veil s nts [] = s := by
 simp [veil, hidden, shielded]
theorem Sz {call : zn} (hfr : zG call) : ∀ (L : List zK) (nts : List Zw) (t : PT Value) (s : DS) {t' : PT Value} {s' : DS}, Z0 call L nts t s = some (t', s') →
 ∃ (T : Nat → PT Value) (S : Nat → DS) (N : Nat → List Zw), T 0 = t ∧ S 0 = s ∧ N 0 = nts ∧ T L.length = t' ∧ S L.length = s' ∧
  ∀ q l, L[q]? = some l → TD call l (N q) (T q) (S q) (T (q + 1)) (S (q + 1)) ∧ N (q + 1) = if l.note then N q ++ [YI l (T q) (S q) (S (q + 1))] else N q := by
 intro L
 induction L with
 | nil =>
  intro nts t s t' s' h
  simp only [Z0, z2, Prod.mk.injEq] at h
  obtain ⟨rfl, rfl⟩ := h
  exact ⟨fun _ => t, fun _ => s, fun _ => nts, rfl, rfl, rfl, rfl, rfl, fun q l hl => by simp at hl⟩
 | cons l L ih =>
  intro nts t s t' s' h
  have key : ∀ (t1 : PT Value) (s1 : DS), TD call l nts t s t1 s1 → Z0 call L (if l.note then nts ++ [YI l t s s1] else nts) t1 s1 = some (t', s') →
   ∃ (T : Nat → PT Value) (S : Nat → DS) (N : Nat → List Zw), T 0 = t ∧ S 0 = s ∧ N 0 = nts ∧ T (l :: L).length = t' ∧ S (l :: L).length = s' ∧
    ∀ q l', (l :: L)[q]? = some l' → TD call l' (N q) (T q) (S q) (T (q + 1)) (S (q + 1)) ∧ N (q + 1) = if l'.note then N q ++ [YI l' (T q) (S q) (S (q + 1))] else N q := by
   intro t1 s1 hst hr
   obtain ⟨T, S, N, h1, h2, h3, h4, h5, h6⟩ := ih _ t1 s1 hr
   refine ⟨fun q => match q with | 0 => t | q + 1 => T q, fun q => match q with | 0 => s | q + 1 => S q, fun q => match q with | 0 => nts | q + 1 => N q, rfl, rfl, rfl, h4, h5, ?_⟩
   intro q l' hl'
   cases q with
   | zero =>
    simp only [List.getElem?_cons_zero, z2] at hl'
    subst hl'
    refine ⟨by simp only [h1, h2]; exact hst, by simp only [h2]; exact h3⟩
   | succ q => exact h6 q l' (by simpa using hl')
  simp only [Z0] at h
  by_cases hw : zE t l.guard = true
  · simp only [hw, if_true] at h
    cases hhz : l.haz with
    | nil =>
     simp only [hhz] at h
     cases hd : dop call (ev t) s l.op with
     | none => simp [hd] at h
     | some r =>
      obtain ⟨v, s1⟩ := r
      simp only [hd] at h
      have hf := YN hfr hd
      have e : ({ s1 with vis := s.vis, wr := s.wr } : DS) = s1 := by rw [← hf.vis, ← hf.wr]
      refine key _ s1 (.inl ⟨hw, v, s1, by rw [hhz, Sw]; exact hd, rfl, e.symm⟩) ?_
      simpa [YI, hw] using h
    | cons a r =>
     simp only [hhz] at h
     cases hd : dop call (ev t) (veil s nts (a :: r)) l.op with
     | none => simp only [veil] at hd; simp [hd] at h
     | some rr =>
      obtain ⟨v, s1⟩ := rr
      have hd' := hd
      simp only [veil] at hd'
      simp only [hd'] at h
      refine key _ { s1 with vis := s.vis, wr := s.wr } (.inl ⟨hw, v, s1, by rw [hhz]; exact hd, rfl, rfl⟩) ?_
      simpa [YI, hw] using h
  · have hw' : zE t l.guard = false := by simpa using hw
    simp only [hw', z3, if_false] at h
    refine key _ s (.inr ⟨hw', rfl, rfl⟩) ?_
    simpa [YI, hw'] using h
theorem Jz : ∀ (l : List Nat) (i : Nat), (Xi l).testBit i = true → ∃ x ∈ l, x.testBit i = true
 | [], i, h => by simp [Xi] at h
 | x :: l, i, h => by
  simp only [Xi, Nat.testBit_or, Bool.or_eq_true] at h
  rcases h with h | h
  · exact ⟨x, by simp, h⟩
  · obtain ⟨y, hy, hi⟩ := Jz l i h
    exact ⟨y, by simp [hy], hi⟩
theorem YB : ∀ (ops : List Oper) (acc : List Nat), (∃ r, Zf ops acc = acc ++ r ∧ r.length = ops.length) ∧
 ∀ j o, ops[j]? = some o → (Zf ops acc)[acc.length + j]? = some (Xi ((zY o).map fun i => 2 ^ i ||| ((Zf ops acc).take (acc.length + j)).getD i 0))
 | [], acc => ⟨⟨[], by simp [Zf], rfl⟩, fun j o h => by simp at h⟩
 | o :: ops, acc => by
  obtain ⟨⟨r, h1, h2⟩, h3⟩ := YB ops (acc ++ [Xi ((zY o).map fun i => 2 ^ i ||| acc.getD i 0)])
  have e0 : Zf (o :: ops) acc = Zf ops (acc ++ [Xi ((zY o).map fun i => 2 ^ i ||| acc.getD i 0)]) := rfl
  rw [e0]
  refine ⟨⟨Xi ((zY o).map fun i => 2 ^ i ||| acc.getD i 0) :: r, by rw [h1]; simp, by simp [h2]⟩, ?_⟩
  intro j o' hj
  cases j with
  | zero =>
   simp only [List.getElem?_cons_zero, z2] at hj
   subst hj
   rw [h1]
   simp
  | succ j =>
   have := h3 j o' (by simpa using hj)
   simp only [List.length_append, List.length_cons, List.length_nil] at this
   rw [show acc.length + (0 + 1) + j = acc.length + (j + 1) from by omega] at this
   exact this
theorem Cc {l : List Oper} {S : Nat → Prop} (hS : ∀ j o, l[j]? = some o → S j → ∀ i ∈ zY o, S i) :
 ∀ (j : Nat) (o : Oper), l[j]? = some o → (∀ i ∈ zY o, S i) → ∀ b, (Zf l [])[j]? = some b → ∀ i, b.testBit i = true → S i := by
 intro j
 induction j using Nat.strongRecOn with
 | _ j ih =>
  intro o ho hedge b hb i hi
  have h := (YB l []).2 j o ho
  simp only [List.length_nil, Nat.zero_add] at h
  rw [h] at hb
  cases hb
  obtain ⟨x, hx, hxi⟩ := Jz _ _ hi
  obtain ⟨e, he, rfl⟩ := List.mem_map.1 hx
  rw [Nat.testBit_or, Bool.or_eq_true] at hxi
  rcases hxi with hxi | hxi
  · rw [Nat.testBit_two_pow] at hxi
    have : e = i := by simpa using hxi
    subst this
    exact hedge e he
  · have hlt : e < j := by
     rcases Nat.lt_or_ge e j with h | h
     · exact h
     · rw [List.getD_eq_getElem?_getD, List.getElem?_eq_none (by simp; omega)] at hxi
       simp at hxi
    have hjl : j < l.length := (List.getElem?_eq_some_iff.1 ho).1
    have hoe : l[e]? = some l[e] := List.getElem?_eq_getElem (by omega)
    have hbe := (YB l []).2 e _ hoe
    simp only [List.length_nil, Nat.zero_add] at hbe
    rw [List.getD_eq_getElem?_getD, List.getElem?_take, if_pos hlt, hbe] at hxi
    simp only [z1] at hxi
    exact ih e hlt _ hoe (hS e _ hoe (hedge e he)) _ hbe i hxi
theorem Wl : ∀ {l : List zJ} {done : Nat} {w : Bool} {c : zJ} {r : List zJ}, W6 done w l = some (c, r) → l.Perm (c :: r)
 | [], _, _, _, _, h => by simp [W6] at h
 | x :: l, done, w, c, r, h => by
  unfold W6 at h
  split at h
  · simp only [z2, Prod.mk.injEq] at h
    obtain ⟨rfl, rfl⟩ := h
    exact List.Perm.refl _
  · split at h
    · rename_i y l' hp
      simp only [z2, Prod.mk.injEq] at h
      obtain ⟨rfl, rfl⟩ := h
      exact ((Wl hp).cons x).trans (List.Perm.swap _ _ _)
    · cases h
theorem Q8 : ∀ {n done : Nat} {l ord : List zJ}, Wx n done l = some ord → l.Perm ord
 | 0, _, [], _, h => by simp [Wx] at h; subst h; exact List.Perm.refl _
 | _ + 1, _, [], _, h => by simp [Wx] at h; subst h; exact List.Perm.refl _
 | 0, _, _ :: _, _, h => by simp [Wx] at h
 | n + 1, done, x :: l, ord, h => by
  unfold Wx at h
  split at h
  · cases h
  · rename_i c rest hp
    have hperm : (x :: l).Perm (c :: rest) := by
     split at hp
     · rename_i r hp1
       simp only [z2] at hp
       subst hp
       exact Wl hp1
     · exact Wl hp
    split at h
    · rename_i l' hl'
      simp only [z2] at h
      subst h
      exact hperm.trans ((Q8 hl').cons c)
    · cases h
theorem VS (P : Program) : ∀ (ops all : List Oper) (bs : List Nat) (i p : Nat) (o : Oper) (b : Nat), ops[p]? = some o → bs[p]? = some b →
 (WD P ops all bs i)[p]? = some { bit := i + p, bef := b, dop := zC P o, dst := o.dst, uses := WK all o, guard := (Z9 all o.guard).getD none }
 | [], _, _, _, p, _, _, h, _ => by simp at h
 | _ :: _, _, [], _, p, _, _, _, h => by simp at h
 | o :: ops, all, b :: bs, i, 0, _, _, h1, h2 => by simp at h1 h2; subst h1; subst h2; simp [WD]
 | _ :: ops, all, _ :: bs, i, p + 1, o, b, h1, h2 => by
  simp only [WD, List.getElem?_cons_succ]
  rw [VS P ops all bs (i + 1) p o b (by simpa using h1) (by simpa using h2)]
  congr 2
  omega
theorem Q5 (P : Program) : ∀ (ops all : List Oper) (bs : List Nat) (i : Nat), bs.length = ops.length → (WD P ops all bs i).length = ops.length
 | [], _, bs, _, h => by cases bs <;> simp [WD]
 | _ :: ops, all, [], _, h => by simp at h
 | _ :: ops, all, _ :: bs, i, h => by simp [WD, Q5 P ops all bs (i + 1) (by simpa using h)]
theorem Jy : ∀ {l front : List zJ}, J0 front l = true → ∀ (q : Nat) (c : zJ), l[q]? = some c → ∀ a : zJ, (a ∈ front ∨ ∃ p, p < q ∧ l[p]? = some a) → Xh a c = true
 | [], _, _, q, c, h, _, _ => by simp at h
 | x :: l, front, h, q, c, hq, a, ha => by
  simp only [J0, Bool.and_eq_true] at h
  cases q with
  | zero =>
   simp only [List.getElem?_cons_zero, z2] at hq
   subst hq
   rcases ha with ha | ⟨p, hp, _⟩
   · exact List.all_eq_true.1 h.1 a ha
   · omega
  | succ q =>
   refine Jy h.2 q c (by simpa using hq) a ?_
   rcases ha with ha | ⟨p, hp, hpa⟩
   · exact .inl (by simp [ha])
   · cases p with
     | zero => simp only [List.getElem?_cons_zero, z2] at hpa; subst hpa; exact .inl (by simp)
     | succ p => exact .inr ⟨p, by omega, by simpa using hpa⟩
theorem Di {a b i : Nat} (h : a &&& b = a) (ha : a.testBit i = true) : b.testBit i = true := by
 rw [← h, Nat.testBit_and, Bool.and_eq_true] at ha
 exact ha.2
theorem Qt : ∀ {l : List zJ} {done : Nat}, Qh done l = true → ∀ (q : Nat) (c : zJ), l[q]? = some c → ∀ i, c.bef.testBit i = true → done.testBit i = true ∨ ∃ (p : Nat) (a : zJ), p < q ∧ l[p]? = some a ∧ a.bit = i
 | [], _, _, q, c, h, _, _ => by simp at h
 | x :: l, done, h, q, c, hq, i, hi => by
  simp only [Qh, Bool.and_eq_true] at h
  cases q with
  | zero =>
   simp only [List.getElem?_cons_zero, z2] at hq
   subst hq
   exact .inl (Di (eq_of_beq (by simpa using h.1)) hi)
  | succ q =>
   rcases Qt h.2 q c (by simpa using hq) i hi with h1 | ⟨p, a, h1, h2, h3⟩
   · rw [Nat.testBit_or, Bool.or_eq_true] at h1
     rcases h1 with h1 | h1
     · exact .inl h1
     · rw [Nat.testBit_two_pow] at h1
       exact .inr ⟨0, x, by omega, rfl, by simpa using h1⟩
   · exact .inr ⟨p + 1, a, by omega, by simpa using h2, h3⟩
theorem Qe : ∀ (l : List zJ) (c : zJ) (i k : Nat), k ∈ zQ l c i ↔ ∃ p a, k = i + p ∧ l[p]? = some a ∧ Yf a c = true
 | [], c, i, k => by simp [zQ]
 | x :: l, c, i, k => by
  have ih := Qe l c (i + 1) k
  have key : (∃ p a, k = i + p ∧ (x :: l)[p]? = some a ∧ Yf a c = true) ↔ (k = i ∧ Yf x c = true) ∨ k ∈ zQ l c (i + 1) := by
   rw [ih]
   constructor
   · rintro ⟨p, a, h1, h2, h3⟩
     cases p with
     | zero => simp only [List.getElem?_cons_zero, z2] at h2; subst h2; exact .inl ⟨by omega, h3⟩
     | succ p => exact .inr ⟨p, a, by omega, by simpa using h2, h3⟩
   · rintro (⟨h1, h2⟩ | ⟨p, a, h1, h2, h3⟩)
     · exact ⟨0, x, by omega, rfl, h2⟩
     · exact ⟨p + 1, a, by omega, by simpa using h2, h3⟩
  have e0 : zQ (x :: l) c i = if Yf x c then i :: zQ l c (i + 1) else zQ l c (i + 1) := rfl
  rw [key, e0]
  by_cases hh : Yf x c = true
  · simp only [hh, if_true, List.mem_cons, and_true]
  · simp [hh]
theorem WJ : ∀ (l front : List zJ) (q : Nat) (c : zJ), l[q]? = some c → (Y0 front l)[q]? = some (c, zQ (front ++ l.take q) c 0)
 | [], _, q, _, h => by simp at h
 | x :: l, front, 0, c, h => by simp at h; subst h; simp [Y0]
 | x :: l, front, q + 1, c, h => by
  simp only [Y0, List.getElem?_cons_succ]
  rw [WJ l (front ++ [x]) q c (by simpa using h)]
  simp
theorem WI : ∀ (l front : List zJ), (Y0 front l).length = l.length
 | [], _ => rfl
 | _ :: l, front => by simp [Y0, WI l]
end Go.Dx
namespace Go.Dx
open Go
theorem KH {nts : List Zw} {k : Nat} : ∀ {haz : List Nat}, hidden nts haz k = true ↔ ∃ p ∈ haz, (noteAt nts p).lo ≤ k ∧ k < (noteAt nts p).hi
 | [] => by simp [hidden]
 | i :: r => by
  have ih := KH (nts := nts) (k := k) (haz := r)
  simp only [hidden, Bool.or_eq_true, Bool.and_eq_true, ih, List.mem_cons, Nat.blt_eq, Nat.ble_eq]
  constructor
  · rintro (h | ⟨p, hp, h⟩)
    · exact ⟨i, .inl rfl, h⟩
    · exact ⟨p, .inr hp, h⟩
  · rintro ⟨p, rfl | hp, h⟩
    · exact .inl h
    · exact .inr ⟨p, hp, h⟩
theorem QL {nts : List Zw} {k : Nat} : ∀ {haz : List Nat}, shielded nts haz k = true ↔ ∃ p ∈ haz, k ∈ (noteAt nts p).foot
 | [] => by simp [shielded]
 | i :: r => by
  have ih := QL (nts := nts) (k := k) (haz := r)
  simp only [shielded, Bool.or_eq_true, XZ, ih, List.mem_cons]
  constructor
  · rintro (h | ⟨p, hp, h⟩)
    · exact ⟨i, .inl rfl, h⟩
    · exact ⟨p, .inr hp, h⟩
  · rintro ⟨p, rfl | hp, h⟩
    · exact .inl h
    · exact .inr ⟨p, hp, h⟩
theorem Qr : ∀ (l : List Zw) (x : Zw) (p : Nat), noteAt (l ++ [x]) p = if p < l.length then noteAt l p else if p = l.length then x else ⟨[], 0, 0⟩
 | [], x, p => by cases p <;> simp [noteAt]
 | y :: l, x, 0 => by simp [noteAt]
 | y :: l, x, p + 1 => by
  simp only [List.cons_append, noteAt, Qr l x p, List.length_cons]
  by_cases h : p < l.length
  · simp [h]
  · simp [h]
theorem C5 {ρ : Operand → Value} {s : DS} {c : zJ} {k : Nat} (h : k ∈ foot ρ s c.dop) : RG c = true := by
 unfold RG
 cases hd : c.dop <;> rw [hd] at h <;> simp [foot] at h <;> simp [DOp.cls]
theorem RX {ρ : Operand → Value} {s s2 : DS} {o : DOp} {k : Nat} (hs : ∀ k o, s2.get k = some o → s.get k = some o) (h : k ∈ foot ρ s2 o) : k ∈ foot ρ s o := by
 cases o <;> simp only [foot] at h ⊢ <;> try exact h
 case ent it =>
  split at h
  · rename_i a ha
    cases hg : s2.get a.block with
    | none =>
     simp only [hg, List.mem_cons, List.not_mem_nil, or_false] at h
     subst h
     split <;> simp
    | some ob =>
     have := hs _ _ hg
     rw [this]
     rw [hg] at h
     exact h
  · cases h
structure Reg (P : Program) (n : Nat) (ops : Array Oper) (ord : List zJ) (L : List zK) (note : Bool) : Prop where
 ok : ∀ (i : Nat) (o : Oper), ops[i]? = some o → QN n ops.toList o = true
 get : ∀ (p : Nat) (c : zJ), ord[p]? = some c → ∃ o, ops[c.bit]? = some o ∧ (Zf ops.toList [])[c.bit]? = some c.bef ∧ c.dop = zC P o ∧ c.dst = o.dst ∧ c.uses = WK ops.toList o ∧ Z9 ops.toList o.guard = some c.guard
 cover : ∀ (i : Nat), i < ops.size → ∃ (p : Nat) (c : zJ), ord[p]? = some c ∧ c.bit = i
 inj : ∀ (p q : Nat) (c c' : zJ), ord[p]? = some c → ord[q]? = some c' → c.bit = c'.bit → p = q
 pairs : ∀ (p q : Nat) (a c : zJ), p < q → ord[p]? = some a → ord[q]? = some c → Xh a c = true
 ext : ∀ (q : Nat) (c : zJ), ord[q]? = some c → ∀ i, c.bef.testBit i = true → ∃ (p : Nat) (a : zJ), p < q ∧ ord[p]? = some a ∧ a.bit = i
 list : ∀ (q : Nat) (c : zJ), ord[q]? = some c → L[q]? = some { dst := c.dst, op := c.dop, guard := c.guard, haz := zQ (ord.take q) c 0, note }
 len : L.length = ord.length
 noted : note = true ∨ ∀ (q : Nat) (c : zJ), ord[q]? = some c → zQ (ord.take q) c 0 = []
theorem Step.widen {P : Program} {β β' : Emb} {g g' : Nat → Option DObj} {n n' m m' : Nat} {w w' : World} (h : Step P β g n w β' g' n' w') (h1 : m ≤ n) (h2 : n' ≤ m') : Step P β g m w β' g' m' w' :=
 { le := Nat.le_trans h1 (Nat.le_trans h.le h2), emb := h.emb, dom := fun k a b => by have := h.dom k a b; omega, rel := h.rel, size := h.size, os := h.os, tape := h.tape, output := h.output, frame := h.frame, fresh := h.fresh }
theorem Step.congr {P : Program} {β β' : Emb} {g g' g2 : Nat → Option DObj} {n n' : Nat} {w w' : World} (h : Step P β g n w β' g' n' w') (e : ∀ k, g2 k = g' k) : Step P β g n w β' g2 n' w' := by
 have : g2 = g' := funext e
 subst this
 exact h
section
variable {P : Program} {n : Nat} {ops : Array Oper} {ord : List zJ} {L : List zK} {note : Bool} {call : zn}
variable {T : Nat → PT Value} {S : Nat → DS} {N : Nat → List Zw}
structure Run (call : zn) (L : List zK) (T : Nat → PT Value) (S : Nat → DS) (N : Nat → List Zw) : Prop where
 start : N 0 = []
 step : ∀ (q : Nat) (l : zK), L[q]? = some l → TD call l (N q) (T q) (S q) (T (q + 1)) (S (q + 1)) ∧ N (q + 1) = if l.note then N q ++ [YI l (T q) (S q) (S (q + 1))] else N q
def dw (ord : List zJ) (p x : Nat) : Bool := match ord[p]? with | some c => c.dst == some x | none => false
def mw (ord : List zJ) (S : Nat → DS) (N : Nat → List Zw) (p k : Nat) : Bool :=
 match ord[p]? with
 | some c => (Nat.ble (S p).next k && Nat.blt k (S (p + 1)).next) || (isW c && (veil (S p) (N p) (zQ (ord.take p) c 0)).wr k)
 | none => false
variable (R : Reg P n ops ord L note) (U : Run call L T S N) (hfr : zG call)
include R U hfr
theorem Run.frame {q : Nat} {c : zJ} (hq : ord[q]? = some c) : (S q).next ≤ (S (q + 1)).next ∧ (S (q + 1)).vis = (S q).vis ∧ (S (q + 1)).wr = (S q).wr := by
 rcases (U.step q _ (R.list q c hq)).1 with ⟨_, v, s1, hd, _, hs⟩ | ⟨_, _, hs⟩
 · have hf := YN hfr hd
   rw [hs]
   exact ⟨hf.next, rfl, rfl⟩
 · rw [hs]; exact ⟨Nat.le_refl _, rfl, rfl⟩
theorem Run.mono : ∀ {p q : Nat}, p ≤ q → q ≤ ord.length → (S p).next ≤ (S q).next ∧ (S q).vis = (S p).vis ∧ (S q).wr = (S p).wr := by
 intro p q hpq
 induction q with
 | zero => intro _; have : p = 0 := by omega
           subst this; exact ⟨Nat.le_refl _, rfl, rfl⟩
 | succ q ih =>
  intro hq
  rcases Nat.lt_or_ge q p with h | h
  · have : p = q + 1 := by omega
    subst this; exact ⟨Nat.le_refl _, rfl, rfl⟩
  · obtain ⟨h1, h2, h3⟩ := ih h (by omega)
    obtain ⟨c, hc⟩ : ∃ c, ord[q]? = some c := ⟨ord[q], List.getElem?_eq_getElem (by omega)⟩
    obtain ⟨g1, g2, g3⟩ := Run.frame R U hfr hc
    exact ⟨Nat.le_trans h1 g1, g2.trans h2, g3.trans h3⟩
theorem Run.noteAt {p q : Nat} {a : zJ} (hn : note = true) (hpq : p < q) (hq : q ≤ ord.length) (ha : ord[p]? = some a) :
 noteAt (N q) p = YI { dst := a.dst, op := a.dop, guard := a.guard, haz := zQ (ord.take p) a 0, note } (T p) (S p) (S (p + 1)) := by
 have _ := hfr
 have key : ∀ q, q ≤ ord.length → (N q).length = q ∧ ∀ p a, p < q → ord[p]? = some a → Dx.noteAt (N q) p = YI { dst := a.dst, op := a.dop, guard := a.guard, haz := zQ (ord.take p) a 0, note } (T p) (S p) (S (p + 1)) := by
  intro q
  induction q with
  | zero => intro _; exact ⟨by rw [U.start]; rfl, fun p a h => by omega⟩
  | succ q ih =>
   intro hq
   obtain ⟨h1, h2⟩ := ih (by omega)
   obtain ⟨c, hc⟩ : ∃ c, ord[q]? = some c := ⟨ord[q], List.getElem?_eq_getElem (by omega)⟩
   have hs := (U.step q _ (R.list q c hc)).2
   simp only [hn, if_true] at hs
   rw [hs]
   refine ⟨by simp [h1], ?_⟩
   intro p a hp ha
   rw [Qr, h1]
   by_cases e : p < q
   · rw [if_pos e]
     exact h2 p a e ha
   · have e2 : p = q := by omega
     subst e2
     rw [hc] at ha; cases ha
     rw [if_neg e, if_pos rfl]
     simp [hn]
 exact (key q hq).2 p a hpq ha
theorem Run.range {p : Nat} {a : zJ} (ha : ord[p]? = some a) (l : zK) (hl : l = { dst := a.dst, op := a.dop, guard := a.guard, haz := zQ (ord.take p) a 0, note }) :
 (YI l (T p) (S p) (S (p + 1))).lo = (S p).next ∧ (YI l (T p) (S p) (S (p + 1))).hi = (S (p + 1)).next := by
 have _ := hfr
 subst hl
 unfold YI
 rcases (U.step p _ (R.list p a ha)).1 with ⟨hw, _⟩ | ⟨hw, _, hs⟩
 · simp only at hw
   simp [hw]
 · simp only at hw
   simp [hw, hs]
theorem Run.hidden {q : Nat} {c : zJ} (hq : ord[q]? = some c) (hlt : q < ord.length) {k : Nat} :
 Dx.hidden (N q) (zQ (ord.take q) c 0) k = true ↔ ∃ p a, p < q ∧ ord[p]? = some a ∧ Yf a c = true ∧ (S p).next ≤ k ∧ k < (S (p + 1)).next := by
 rw [KH]
 constructor
 · rintro ⟨p, hp, h1, h2⟩
   obtain ⟨p', a, e, ha, hh⟩ := (Qe _ _ _ _).1 hp
   have e' : p = p' := by omega
   subst e'
   rw [List.getElem?_take] at ha
   split at ha
   · rename_i hpq
     rcases R.noted with hn | hn
     · rw [Run.noteAt R U hfr hn hpq (by omega) ha] at h1 h2
       obtain ⟨r1, r2⟩ := Run.range R U hfr ha _ rfl
       rw [r1] at h1; rw [r2] at h2
       exact ⟨p, a, hpq, ha, hh, h1, h2⟩
     · rw [hn q c hq] at hp; cases hp
   · cases ha
 · rintro ⟨p, a, hpq, ha, hh, h1, h2⟩
   have hmem : p ∈ zQ (ord.take q) c 0 := (Qe _ _ _ _).2 ⟨p, a, by omega, by rw [List.getElem?_take, if_pos hpq]; exact ha, hh⟩
   rcases R.noted with hn | hn
   · refine ⟨p, hmem, ?_⟩
     rw [Run.noteAt R U hfr hn hpq (by omega) ha]
     obtain ⟨r1, r2⟩ := Run.range R U hfr ha _ rfl
     rw [r1, r2]
     exact ⟨h1, h2⟩
   · rw [hn q c hq] at hmem; cases hmem
theorem Run.shielded {q p k : Nat} {c a : zJ} (hq : ord[q]? = some c) (hlt : q < ord.length) (hpq : p < q) (ha : ord[p]? = some a) (hh : Yf a c = true) (hw : zE (T p) a.guard = true) (hk : k ∈ foot (ev (T p)) (S p) a.dop) :
 Dx.shielded (N q) (zQ (ord.take q) c 0) k = true := by
 have hmem : p ∈ zQ (ord.take q) c 0 := (Qe _ _ _ _).2 ⟨p, a, by omega, by rw [List.getElem?_take, if_pos hpq]; exact ha, hh⟩
 rcases R.noted with hn | hn
 · rw [QL]
   refine ⟨p, hmem, ?_⟩
   rw [Run.noteAt R U hfr hn hpq (by omega) ha]
   simp only [YI, hw, if_true]
   exact hk
 · rw [hn q c hq] at hmem; cases hmem
theorem Run.plainStep {q : Nat} {c : zJ} (hq : ord[q]? = some c) (hW : isW c = false) :
 (S (q + 1)).heap = (S q).heap ∧ (S (q + 1)).next = (S q).next ∨ (MT c = true ∧ zE (T q) c.guard = true ∧ ∃ x, (S (q + 1)).heap = ((S q).new x).heap ∧ (S (q + 1)).next = (S q).next + 1) := by
 have _ := hfr
 rcases (U.step q _ (R.list q c hq)).1 with ⟨hw, v, s1, hd, _, hs⟩ | ⟨_, _, hs⟩
 · simp only at hd
   unfold dop at hd
   have hW' : c.dop.cls ≠ .write ∧ c.dop.cls ≠ .call ∧ c.dop.cls ≠ .bad := by
    unfold isW at hW
    simp only [Bool.or_eq_false_iff, decide_eq_false_iff_not] at hW
    exact ⟨hW.1.1, hW.1.2, hW.2⟩
   cases hc : c.dop.cls <;> simp only [hc] at hd
   · split at hd
     · cases hd; left; rw [hs]; exact ⟨rfl, rfl⟩
     · cases hd
   · split at hd
     · cases hd; left; rw [hs]; exact ⟨rfl, rfl⟩
     · cases hd
   · obtain ⟨x, e1, _⟩ := JL (s2 := veil (S q) (N q) (zQ (ord.take q) c 0)) hd rfl (fun _ _ => rfl)
     right
     refine ⟨by simp [MT, hc], hw, x, ?_, ?_⟩
     · rw [hs, e1]; rfl
     · rw [hs, e1]; rfl
   · exact absurd hc hW'.1
   · exact absurd hc hW'.2.1
   · exact absurd hc hW'.2.2
 · left; rw [hs]; exact ⟨rfl, rfl⟩
theorem Run.same {q k : Nat} {c : zJ} (hq : ord[q]? = some c) (hm : mw ord S N q k = false) : (S (q + 1)).get k = (S q).get k := by
 unfold mw at hm
 rw [hq] at hm
 simp only [Bool.or_eq_false_iff] at hm
 obtain ⟨hrange, hwr⟩ := hm
 obtain ⟨hnx, hvis, _⟩ := Run.frame R U hfr hq
 have hr : ¬ ((S q).next ≤ k ∧ k < (S (q + 1)).next) := by
  intro ⟨a, b⟩
  rw [Bool.and_eq_false_iff] at hrange
  rcases hrange with h | h
  · rw [Nat.ble_eq_true_of_le a] at h; cases h
  · rw [(zX _ _).2 b] at h; cases h
 unfold DS.get
 rw [hvis]
 by_cases hk : k < (S q).next
 · have hk' : k < (S (q + 1)).next := by omega
   rw [(zX _ _).2 hk, (zX _ _).2 hk']
   have : (S (q + 1)).heap.get k = (S q).heap.get k := by
    by_cases hW : isW c = true
    · rw [hW, Bool.true_and] at hwr
      rcases (U.step q _ (R.list q c hq)).1 with ⟨_, v, s1, hd, _, hs⟩ | ⟨_, _, hs⟩
      · have hf := YN hfr hd
        rw [hs]
        exact hf.keep k hk hwr
      · rw [hs]
    · have hW' : isW c = false := by simpa using hW
      rcases Run.plainStep R U hfr hq hW' with ⟨h1, _⟩ | ⟨_, _, x, h1, _⟩
      · rw [h1]
      · rw [h1]; simp [DS.new, PT.get_put, Nat.ne_of_lt hk]
   rw [this]
 · have hk' : ¬ k < (S (q + 1)).next := by omega
   have e1 : Nat.blt k (S q).next = false := by
    cases h : Nat.blt k (S q).next with
    | false => rfl
    | true => exact absurd ((zX _ _).1 h) hk
   have e2 : Nat.blt k (S (q + 1)).next = false := by
    cases h : Nat.blt k (S (q + 1)).next with
    | false => rfl
    | true => exact absurd ((zX _ _).1 h) hk'
   rw [e1, e2]; rfl
end
end Go.Dx
namespace Go.Dx
open Go
theorem Kx : ∀ {l : List Nat} {x i : Nat}, x ∈ l → x.testBit i = true → (Xi l).testBit i = true
 | y :: l, x, i, h, hi => by
  simp only [Xi, Nat.testBit_or, Bool.or_eq_true]
  rcases List.mem_cons.1 h with rfl | h
  · exact .inl hi
  · exact .inr (Kx h hi)
theorem R9 {l : List Oper} {j : Nat} {o : Oper} (ho : l[j]? = some o) {b : Nat} (hb : (Zf l [])[j]? = some b) {e : Nat} (he : e ∈ zY o) : b.testBit e = true := by
 have h := (YB l []).2 j o ho
 simp only [List.length_nil, Nat.zero_add] at h
 rw [h] at hb
 cases hb
 refine Kx (List.mem_map.2 ⟨e, he, rfl⟩) ?_
 rw [Nat.testBit_or, Nat.testBit_two_pow_self, Bool.true_or]
def lis (ord : List zJ) (listed : Array Bool) (p : Nat) : Bool := match ord[p]? with | some c => listed.getD c.bit false | none => false
section
variable {P : Program} {n : Nat} {ops : Array Oper} {ord : List zJ} {L : List zK} {note : Bool} {call : zn}
variable {T : Nat → PT Value} {S : Nat → DS} {N : Nat → List Zw}
abbrev VT (ord : List zJ) (T : Nat → PT Value) (listed : Array Bool) (x : Nat) : Option Value := sel (fun p => (T p).get x) (fun p => dw ord p x) (lis ord listed) ord.length
abbrev VH (ord : List zJ) (S : Nat → DS) (N : Nat → List Zw) (listed : Array Bool) (k : Nat) : Option DObj := sel (fun p => (S p).get k) (fun p => mw ord S N p k) (lis ord listed) ord.length
structure Inv (P : Program) (n : Nat) (ops : Array Oper) (ord : List zJ) (T : Nat → PT Value) (S : Nat → DS) (N : Nat → List Zw) (β0 : Emb) (w0 : World) (ds : List Deferred) (listed : Array Bool) (β : Emb) (a : Act) (w : World) : Prop where
 size : listed.size = ops.size
 closed : ∀ (i : Nat) (o : Oper), ops[i]? = some o → listed.getD i false = true → ∀ e ∈ zY o, listed.getD e false = true
 tsize : a.tmps.size = n
 tmp : ∀ x, VRel β ((VT ord T listed x).getD zv) (a.tmps.getD x undef)
 step : Step P β0 (S 0).get (S 0).next w0 β (VH ord S N listed) (S ord.length).next w
 fresh : ∀ (p : Nat) (c : zJ), ord[p]? = some c → listed.getD c.bit false = false → ∀ k, (S p).next ≤ k → k < (S (p + 1)).next → β k = none
 defers : a.defers = ds
variable (R : Reg P n ops ord L note) (U : Run call L T S N) (hfr : zG call)
include R U hfr
structure Next (ops : Array Oper) (ord : List zJ) (listed : Array Bool) (q : Nat) (c : zJ) : Prop where
 at_ : ord[q]? = some c
 un : listed.getD c.bit false = false
 lt : ∀ (p : Nat) (a : zJ), p < q → ord[p]? = some a → ZF a c = true → listed.getD a.bit false = true
 gt : ∀ (p : Nat) (a : zJ), q < p → ord[p]? = some a → ZF c a = true → listed.getD a.bit false = false
theorem Nf {listed : Array Bool} (hcl : ∀ (i : Nat) (o : Oper), ops[i]? = some o → listed.getD i false = true → ∀ e ∈ zY o, listed.getD e false = true)
 {q : Nat} {c : zJ} (hq : ord[q]? = some c) (hun : listed.getD c.bit false = false) {o : Oper} (ho : ops[c.bit]? = some o) (hedge : ∀ e ∈ zY o, listed.getD e false = true) : Next ops ord listed q c := by
 have hcl' : ∀ (j : Nat) (o : Oper), ops.toList[j]? = some o → listed.getD j false = true → ∀ i ∈ zY o, listed.getD i false = true := fun j o h => hcl j o (by rwa [Array.getElem?_toList] at h)
 have hbef : ∀ (p : Nat) (a : zJ), ord[p]? = some a → (∀ oa, ops[a.bit]? = some oa → ∀ e ∈ zY oa, listed.getD e false = true) → ∀ i, a.bef.testBit i = true → listed.getD i false = true := by
  intro p a ha he i hi
  obtain ⟨oa, h1, h2, _⟩ := R.get p a ha
  exact Cc (S := fun i => listed.getD i false = true) hcl' a.bit oa (by rw [Array.getElem?_toList]; exact h1) (he oa h1) a.bef h2 i hi
 have hc : ∀ i, c.bef.testBit i = true → listed.getD i false = true := hbef q c hq fun oa h => by rw [ho] at h; cases h; exact hedge
 refine ⟨hq, hun, ?_, ?_⟩
 · intro p a hp ha hord
   unfold ZF at hord
   rw [Bool.or_eq_true] at hord
   rcases hord with h | h
   · exact hc _ h
   · obtain ⟨p', a', h1, h2, h3⟩ := R.ext p a ha _ h
     have := R.inj p' q a' c h2 hq h3
     omega
 · intro p a hp ha hord
   unfold ZF at hord
   rw [Bool.or_eq_true] at hord
   rcases hord with h | h
   · cases hl : listed.getD a.bit false with
     | false => rfl
     | true =>
      have := hbef p a ha (fun oa h1 => hcl a.bit oa h1 hl) _ h
      rw [hun] at this; cases this
   · obtain ⟨p', a', h1, h2, h3⟩ := R.ext q c hq _ h
     have := R.inj p' p a' a h2 ha h3
     omega
theorem GC {p x : Nat} (hp : p < ord.length) (h : dw ord p x = false) : (T (p + 1)).get x = (T p).get x := by
 obtain ⟨a, ha⟩ : ∃ a, ord[p]? = some a := ⟨ord[p], List.getElem?_eq_getElem hp⟩
 unfold dw at h
 rw [ha] at h
 have hne : a.dst ≠ some x := by intro e; simp [e] at h
 have hput : ∀ v, (ZJ (T p) a.dst v).get x = (T p).get x := by
  intro v
  cases hd : a.dst with
  | none => rfl
  | some d =>
   simp only [ZJ, PT.get_put]
   have : ¬ x = d := by rintro rfl; exact hne hd
   simp [this]
 rcases (U.step p _ (R.list p a ha)).1 with ⟨_, v, s1, _, ht, _⟩ | ⟨_, ht, _⟩
 · rw [ht]; exact hput v
 · rw [ht]; exact hput _
variable {listed : Array Bool} {q : Nat} {c : zJ} (X : Next ops ord listed q c)
include X
theorem Gi {p : Nat} {a : zJ} (hp : p < q) (ha : ord[p]? = some a) (h : ZF a c = true) : lis ord listed p = true := by
 unfold lis; rw [ha]; exact X.lt p a hp ha h
theorem Gj {p : Nat} {a : zJ} (hp : q < p) (ha : ord[p]? = some a) (h : ZF c a = true) : lis ord listed p = false := by
 unfold lis; rw [ha]; exact X.gt p a hp ha h
theorem DW : lis ord listed q = false := by unfold lis; rw [X.at_]; exact X.un
theorem RT {x : Nat} (hx : x ∈ c.uses) (hlt : q < ord.length) : VT ord T listed x = (T q).get x := by
 have := XJ (f := fun p => (T p).get x) (wr := fun p => dw ord p x) (S := lis ord listed) (q := q) (m := ord.length) (fun p hp h => GC R U hfr hp h) ?_
 · rw [show min ord.length q = q from by omega] at this; exact this
 · intro p hp hw
   obtain ⟨a, ha⟩ : ∃ a, ord[p]? = some a := ⟨ord[p], List.getElem?_eq_getElem hp⟩
   unfold dw at hw
   rw [ha] at hw
   have hd : a.dst = some x := eq_of_beq hw
   have hmem : zO c.uses x = true := (XZ _ _).2 hx
   rcases Nat.lt_trichotomy p q with h | h | h
   · have hpr := R.pairs p q a c h ha X.at_
     unfold Xh at hpr
     rw [Bool.or_eq_true, Bool.and_eq_true] at hpr
     rcases hpr with hpr | ⟨hpr, _⟩
     · simp [Gi R U hfr X h ha hpr, h]
     · unfold We at hpr
       rw [hd] at hpr
       simp [hmem] at hpr
   · subst h
     simp [DW R U hfr X]
   · have hpr := R.pairs q p c a h X.at_ ha
     unfold Xh at hpr
     rw [Bool.or_eq_true, Bool.and_eq_true] at hpr
     rcases hpr with hpr | ⟨hpr, _⟩
     · simp [Gj R U hfr X h ha hpr]; omega
     · unfold We at hpr
       rw [hd] at hpr
       simp [hmem] at hpr
theorem RH {k : Nat} (hlt : q < ord.length) (hk : (isW c = true ∧ hidden (N q) (zQ (ord.take q) c 0) k = false) ∨
 (k ∈ foot (ev (T q)) (S q) c.dop ∧ zE (T q) c.guard = true ∧ hidden (N q) (zQ (ord.take q) c 0) k = false ∧ k < (S q).next)) : VH ord S N listed k = (S q).get k := by
 have := XJ (f := fun p => (S p).get k) (wr := fun p => mw ord S N p k) (S := lis ord listed) (q := q) (m := ord.length) (fun p hp h => by
  obtain ⟨a, ha⟩ : ∃ a, ord[p]? = some a := ⟨ord[p], List.getElem?_eq_getElem hp⟩
  exact Run.same R U hfr ha h) ?_
 · rw [show min ord.length q = q from by omega] at this; exact this
 · intro p hp hw
   obtain ⟨a, ha⟩ : ∃ a, ord[p]? = some a := ⟨ord[p], List.getElem?_eq_getElem hp⟩
   unfold mw at hw
   rw [ha] at hw
   simp only [Bool.or_eq_true, Bool.and_eq_true] at hw
   have hrd : isW c = true ∨ RG c = true := by
    rcases hk with hk | hk
    · exact .inl hk.1
    · exact .inr (C5 hk.1)
   have hnh : hidden (N q) (zQ (ord.take q) c 0) k = false := by
    rcases hk with hk | hk
    · exact hk.2
    · exact hk.2.2.1
   rcases Nat.lt_trichotomy p q with h | h | h
   · by_cases hor : ZF a c = true
     · simp [Gi R U hfr X h ha hor, h]
     · exfalso
       have hpr := R.pairs p q a c h ha X.at_
       unfold Xh at hpr
       simp only [hor, Bool.false_or, Bool.and_eq_true] at hpr
       have haW : isW a = false := by simpa using hpr.2
       rcases hw with ⟨h1, h2⟩ | ⟨h1, _⟩
       · have h1 := Nat.le_of_ble_eq_true h1
         have h2 := (zX _ _).1 h2
         rcases Run.plainStep R U hfr ha haW with ⟨_, e⟩ | ⟨hmk, _, _⟩
         · omega
         · have hhz : Yf a c = true := by
            unfold Yf
            have : ZF a c = false := by simpa using hor
            rw [this]
            rcases hrd with hrd | hrd <;> simp [hmk, hrd]
           have := (Run.hidden R U hfr X.at_ hlt).2 ⟨p, a, h, ha, hhz, h1, h2⟩
           rw [hnh] at this; cases this
       · rw [haW] at h1; cases h1
   · subst h
     simp [DW R U hfr X]
   · by_cases hor : ZF c a = true
     · simp [Gj R U hfr X h ha hor]; omega
     · exfalso
       have hpr := R.pairs q p c a h X.at_ ha
       unfold Xh at hpr
       simp only [hor, Bool.false_or, Bool.and_eq_true] at hpr
       have hcW : isW c = false := by simpa using hpr.2
       rcases hk with ⟨hk, _⟩ | ⟨hk, hwt, _, hkn⟩
       · rw [hcW] at hk; cases hk
       · have hrd := C5 hk
         rcases hw with ⟨h1, h2⟩ | ⟨h1, h2⟩
         · have h1 := Nat.le_of_ble_eq_true h1
           have := (Run.mono R U hfr (show q ≤ p from by omega) (by omega)).1
           omega
         · have hhz : Yf c a = true := by
            unfold Yf
            have : ZF c a = false := by simpa using hor
            rw [this]
            simp [hrd, h1]
           have := Run.shielded R U hfr ha hp h X.at_ hhz hwt hk
           simp only [veil] at h2
           rw [this] at h2
           simp at h2
theorem WT {x : Nat} {listed' : Array Bool} (hlt : q < ord.length) (hl : ∀ p a, ord[p]? = some a → listed'.getD a.bit false = if p = q then true else listed.getD a.bit false) :
 VT ord T listed' x = if c.dst = some x then (T (q + 1)).get x else VT ord T listed x := by
 have hlis : ∀ p, p < ord.length → lis ord listed' p = if p = q then true else lis ord listed p := by
  intro p hp
  obtain ⟨a, ha⟩ : ∃ a, ord[p]? = some a := ⟨ord[p], List.getElem?_eq_getElem hp⟩
  unfold lis; rw [ha]; exact hl p a ha
 by_cases hd : c.dst = some x
 · rw [if_pos hd]
   have := XJ (f := fun p => (T p).get x) (wr := fun p => dw ord p x) (S := lis ord listed') (q := q + 1) (m := ord.length) (fun p hp h => GC R U hfr hp h) ?_
   · rw [show min ord.length (q + 1) = q + 1 from by omega] at this; exact this
   · intro p hp hw
     obtain ⟨a, ha⟩ : ∃ a, ord[p]? = some a := ⟨ord[p], List.getElem?_eq_getElem hp⟩
     unfold dw at hw
     rw [ha] at hw
     have hda : a.dst = some x := eq_of_beq hw
     rw [hlis p hp]
     rcases Nat.lt_trichotomy p q with h | h | h
     · have hpr := R.pairs p q a c h ha X.at_
       unfold Xh at hpr
       rw [Bool.or_eq_true, Bool.and_eq_true] at hpr
       rcases hpr with hpr | ⟨hpr, _⟩
       · rw [if_neg (by omega), Gi R U hfr X h ha hpr]; simp; omega
       · unfold We at hpr
         rw [hda, hd] at hpr
         simp at hpr
     · subst h; simp
     · have hpr := R.pairs q p c a h X.at_ ha
       unfold Xh at hpr
       rw [Bool.or_eq_true, Bool.and_eq_true] at hpr
       rcases hpr with hpr | ⟨hpr, _⟩
       · rw [if_neg (by omega), Gj R U hfr X h ha hpr]; simp; omega
       · unfold We at hpr
         rw [hda, hd] at hpr
         simp at hpr
 · rw [if_neg hd]
   refine Ki fun p hp hw => ?_
   rw [hlis p hp]
   by_cases e : p = q
   · subst e
     unfold dw at hw
     rw [X.at_] at hw
     exact absurd (eq_of_beq hw) hd
   · rw [if_neg e]
theorem Ls {p k : Nat} (hlt : q < ord.length) (hp : p < ord.length) (hq : mw ord S N q k = true) (hpw : mw ord S N p k = true) (hne : p ≠ q) : lis ord listed p = true ↔ p < q := by
 obtain ⟨a, ha⟩ : ∃ a, ord[p]? = some a := ⟨ord[p], List.getElem?_eq_getElem hp⟩
 unfold mw at hq hpw
 rw [X.at_] at hq
 rw [ha] at hpw
 simp only [Bool.or_eq_true, Bool.and_eq_true] at hq hpw
 rcases Nat.lt_or_gt_of_ne hne with h | h
 · by_cases hor : ZF a c = true
   · simp [Gi R U hfr X h ha hor, h]
   · exfalso
     have hpr := R.pairs p q a c h ha X.at_
     unfold Xh at hpr
     simp only [hor, Bool.false_or, Bool.and_eq_true] at hpr
     have haW : isW a = false := by simpa using hpr.2
     rcases hpw with ⟨h1, h2⟩ | ⟨h1, _⟩
     · have h1 := Nat.le_of_ble_eq_true h1
       have h2 := (zX _ _).1 h2
       rcases Run.plainStep R U hfr ha haW with ⟨_, e⟩ | ⟨hmk, _, _⟩
       · omega
       · rcases hq with ⟨h3, _⟩ | ⟨h3, h4⟩
         · have h3 := Nat.le_of_ble_eq_true h3
           have := (Run.mono R U hfr (show p + 1 ≤ q from by omega) (by omega)).1
           omega
         · have hhz : Yf a c = true := by
            unfold Yf
            have : ZF a c = false := by simpa using hor
            rw [this]
            simp [hmk, h3]
           have := (Run.hidden R U hfr X.at_ hlt).2 ⟨p, a, h, ha, hhz, h1, h2⟩
           simp only [veil] at h4
           rw [this] at h4
           simp at h4
     · rw [haW] at h1; cases h1
 · by_cases hor : ZF c a = true
   · simp [Gj R U hfr X h ha hor]; omega
   · exfalso
     have hpr := R.pairs q p c a h X.at_ ha
     unfold Xh at hpr
     simp only [hor, Bool.false_or, Bool.and_eq_true] at hpr
     have hcW : isW c = false := by simpa using hpr.2
     rcases hq with ⟨h1, h2⟩ | ⟨h1, _⟩
     · have h1 := Nat.le_of_ble_eq_true h1
       have h2 := (zX _ _).1 h2
       rcases Run.plainStep R U hfr X.at_ hcW with ⟨_, e⟩ | ⟨hmk, _, _⟩
       · omega
       · rcases hpw with ⟨h3, _⟩ | ⟨h3, h4⟩
         · have h3 := Nat.le_of_ble_eq_true h3
           have := (Run.mono R U hfr (show q + 1 ≤ p from by omega) (by omega)).1
           omega
         · have hhz : Yf c a = true := by
            unfold Yf
            have : ZF c a = false := by simpa using hor
            rw [this]
            simp [hmk, h3]
           have := (Run.hidden R U hfr ha hp).2 ⟨q, c, h, X.at_, hhz, h1, h2⟩
           simp only [veil] at h4
           rw [this] at h4
           simp at h4
     · rw [hcW] at h1; cases h1
theorem WH {k : Nat} {listed' : Array Bool} (hlt : q < ord.length) (hl : ∀ p a, ord[p]? = some a → listed'.getD a.bit false = if p = q then true else listed.getD a.bit false) :
 VH ord S N listed' k = if mw ord S N q k then (S (q + 1)).get k else VH ord S N listed k := by
 have hlis : ∀ p, p < ord.length → lis ord listed' p = if p = q then true else lis ord listed p := by
  intro p hp
  obtain ⟨a, ha⟩ : ∃ a, ord[p]? = some a := ⟨ord[p], List.getElem?_eq_getElem hp⟩
  unfold lis; rw [ha]; exact hl p a ha
 by_cases hd : mw ord S N q k = true
 · rw [if_pos hd]
   have := XJ (f := fun p => (S p).get k) (wr := fun p => mw ord S N p k) (S := lis ord listed') (q := q + 1) (m := ord.length) (fun p hp h => by
    obtain ⟨a, ha⟩ : ∃ a, ord[p]? = some a := ⟨ord[p], List.getElem?_eq_getElem hp⟩
    exact Run.same R U hfr ha h) ?_
   · rw [show min ord.length (q + 1) = q + 1 from by omega] at this; exact this
   · intro p hp hw
     rw [hlis p hp]
     by_cases e : p = q
     · subst e; simp
     · rw [if_neg e, Ls R U hfr X hlt hp hd hw e]
       omega
 · rw [if_neg hd]
   refine Ki fun p hp hw => ?_
   rw [hlis p hp]
   by_cases e : p = q
   · subst e; exact absurd hw hd
   · rw [if_neg e]
theorem LL {k : Nat} (hlt : q < ord.length) (hd : mw ord S N q k = true) : VH ord S N listed k = (S q).get k := by
 have := XJ (f := fun p => (S p).get k) (wr := fun p => mw ord S N p k) (S := lis ord listed) (q := q) (m := ord.length) (fun p hp h => by
  obtain ⟨a, ha⟩ : ∃ a, ord[p]? = some a := ⟨ord[p], List.getElem?_eq_getElem hp⟩
  exact Run.same R U hfr ha h) ?_
 · rw [show min ord.length q = q from by omega] at this; exact this
 · intro p hp hw
   by_cases e : p = q
   · subst e; simp [DW R U hfr X]
   · exact Ls R U hfr X hlt hp hd hw e
end
end Go.Dx
namespace Go.Dx
open Go
theorem Step.trans' {P : Program} {β β' β'' : Emb} {g g' g'' : Nat → Option DObj} {n0 a b M : Nat} {w w' w'' : World} (h : Step P β g n0 w β' g' M w') (h' : Step P β' g' a w' β'' g'' b w'') (h1 : n0 ≤ a) (h2 : b ≤ M) :
 Step P β g n0 w β'' g'' M w'' where
 le := h.le
 emb := h.emb.trans h'.emb
 dom := fun k hk hk' => by
  by_cases e : β' k = none
  · have := h'.dom k e hk'; omega
  · exact h.dom k hk e
 rel := h'.rel
 size := Nat.le_trans h.size h'.size
 os := h'.os.trans h.os
 tape := h'.tape.trans h.tape
 output := h'.output.trans h.output
 frame := fun r hr hk => by
  refine (h'.frame r (Nat.lt_of_lt_of_le hr h.size) fun k o l ho hown hl e => ?_).trans (h.frame r hr hk)
  rcases h.fresh k o l ho hl with hlt | ⟨k0, o0, l0, h0, hl0, hb, hw⟩
  · omega
  · exact hk k0 o0 l0 h0 (hw hown) hl0 (hb.trans e)
 fresh := fun k o l ho hl => by
  rcases h'.fresh k o l ho hl with hlt | ⟨k1, o1, l1, h1, hl1, hb1, hw1⟩
  · exact .inl (Nat.le_trans h.size hlt)
  · rcases h.fresh k1 o1 l1 h1 hl1 with hlt | ⟨k0, o0, l0, h0, hl0, hb0, hw0⟩
    · exact .inl (by omega)
    · exact .inr ⟨k0, o0, l0, h0, hl0, hb0.trans hb1, fun hh => hw0 (hw1 hh)⟩
theorem M3 {α : Type} (a b h : Bool) (x : Option α) : (if a && (b && !h) then x else none) = if h then none else if a && b then x else none := by
 cases a <;> cases b <;> cases h <;> rfl
theorem Nn {c : zJ} (h : isW c = false) : c.dop.cls = .pure ∨ c.dop.cls = .read ∨ c.dop.cls = .make := by
 unfold isW at h
 simp only [Bool.or_eq_false_iff, decide_eq_false_iff_not] at h
 cases hc : c.dop.cls <;> simp_all
theorem NH {P : Program} {ops : List Oper} {o : Oper} {t : Nat} (h : Operand.tmp t ∈ o.op.operands) : t ∈ WK ops o := by
 unfold WK
 refine List.mem_append_left _ (List.mem_filterMap.2 ⟨.tmp t, by simpa using h, rfl⟩)
section
variable {P : Program} {n : Nat} {ops : Array Oper} {ord : List zJ} {L : List zK} {note : Bool} {call : zn}
variable {T : Nat → PT Value} {S : Nat → DS} {N : Nat → List Zw} {β0 : Emb} {w0 : World} {ds : List Deferred} {ro : Option Nat}
theorem SD (R : Reg P n ops ord L note) (U : Run call L T S N) (hfr : zG call) (hcall : QG P call) {listed : Array Bool} {β : Emb} {a : Act} {w : World} {q : Nat} {c : zJ} {o : Oper} {K : Act → World → Prop} {Q : Exit → Act → World → Prop}
 (I : Inv P n ops ord T S N β0 w0 ds listed β a w) (X : Next ops ord listed q c) (ho : ops[c.bit]? = some o) (hedge : ∀ e ∈ zY o, listed.getD e false = true)
 (hK : ∀ β' a' w', Inv P n ops ord T S N β0 w0 ds (listed.setIfInBounds c.bit true) β' a' w' → K a' w') : wpOpIn (FW ro) 0 P ops Q c.bit K a w := by
 have hlt : q < ord.length := (List.getElem?_eq_some_iff.1 X.at_).1
 obtain ⟨o', ho', hbef, hdop, hdst, huses, hguard⟩ := R.get q c X.at_
 rw [ho] at ho'; cases ho'
 have hok := R.ok c.bit o ho
 have hbit : c.bit < listed.size := by rw [I.size]; exact (Array.getElem?_eq_some_iff.1 ho).1
 have hl : ∀ p a', ord[p]? = some a' → (listed.setIfInBounds c.bit true).getD a'.bit false = if p = q then true else listed.getD a'.bit false := by
  intro p a' ha'
  by_cases e : p = q
  · subst e
    rw [X.at_] at ha'; cases ha'
    simp [hbit]
  · have hne : c.bit ≠ a'.bit := fun e' => e (R.inj p q a' c ha' X.at_ e'.symm)
    simp [e, Array.getElem?_setIfInBounds, hne]
 have hclosed : ∀ (i : Nat) (o : Oper), ops[i]? = some o → (listed.setIfInBounds c.bit true).getD i false = true → ∀ e ∈ zY o, (listed.setIfInBounds c.bit true).getD e false = true := by
  have hup : ∀ e, listed.getD e false = true → (listed.setIfInBounds c.bit true).getD e false = true := by
   intro e he
   by_cases h : c.bit = e
   · subst h; simp [hbit]
   · simpa [Array.getElem?_setIfInBounds, h] using he
  intro i oi hi hli e he
  by_cases h : c.bit = i
  · subst h
    rw [ho] at hi; cases hi
    exact hup e (hedge e he)
  · refine hup e (I.closed i oi hi ?_ e he)
    simpa [Array.getElem?_setIfInBounds, h] using hli
 have htmp : ∀ x, x ∈ c.uses → VRel β (((T q).get x).getD zv) (a.tmps.getD x undef) := by
  intro x hx
  have := I.tmp x
  rw [RT R U hfr X hx hlt] at this
  exact this
 have hρ : ∀ x ∈ o.op.operands, VRel β (ev (T q) x) (a.eval x) := by
  intro x hx
  have hox := Qq hok x hx
  cases x with
  | tmp t => exact htmp t (by rw [huses]; exact NH (P := P) hx)
  | const v => exact VRel.closedV hox
  | global g => simp [JA] at hox
  | func f => exact .func .nil .nil
 have hwant := Jq (β := β) (t := T q) (tmps := a.tmps) hok hguard (fun j b x h1 h2 => by
  refine ⟨htmp x ?_, ?_⟩
  · rw [huses]; unfold WK; rw [h1]; simp [h2]
  · obtain ⟨x', hx', hlt'⟩ := Xj hok h1
    rw [h2] at hx'; cases hx'
    rw [I.tsize]; exact hlt')
 have hdlt : ∀ d, c.dst = some d → d < n := fun d h => Fi hok (by rw [← hdst]; exact h)
 obtain ⟨hnx, hvis, hwr⟩ := Run.frame R U hfr X.at_
 have hrel := I.step.rel
 have finish : ∀ β' v v' w', T (q + 1) = ZJ (T q) c.dst v → VRel β' v v' → Step P β (VH ord S N listed) (S q).next w β' (VH ord S N (listed.setIfInBounds c.bit true)) (S (q + 1)).next w' → K (a.put o.dst v') w' := by
  intro β' v v' w' hT hv st
  have hm0 := (Run.mono R U hfr (Nat.zero_le q) (by omega)).1
  have hm1 := (Run.mono R U hfr (show q + 1 ≤ ord.length from by omega) (Nat.le_refl _)).1
  refine hK β' _ w' { size := by simp [I.size], closed := hclosed, tsize := ?_, tmp := ?_, step := ?_, fresh := ?_, defers := ?_ }
  · cases hd : o.dst <;> simp [Act.put, I.tsize]
  · intro x
    rw [WT R U hfr X hlt hl]
    cases hd : c.dst with
    | none =>
     have hod : o.dst = none := by rw [← hdst]; exact hd
     simp only [reduceCtorEq, if_false, hod, Act.put]
     exact (I.tmp x).mono st.emb
    | some d =>
     have hod : o.dst = some d := by rw [← hdst]; exact hd
     simp only [z2, hod, Act.put]
     by_cases e : d = x
     · subst e
       simp only [if_true, hT, hd, ZJ, PT.get_put, z1]
       have : d < a.tmps.size := by rw [I.tsize]; exact hdlt d hd
       simp [this]
       exact hv
     · simp only [e, if_false]
       have := (I.tmp x).mono st.emb
       simpa [Array.getElem?_setIfInBounds, e] using this
  · exact I.step.trans' st hm0 hm1
  · intro p a' ha' hun k h1 h2
    rw [hl p a' ha'] at hun
    split at hun
    · cases hun
    · rename_i hpq
      have h0 := I.fresh p a' ha' hun k h1 h2
      cases hb : β' k with
      | none => rfl
      | some l =>
       have := st.dom k h0 (by rw [hb]; simp)
       rcases Nat.lt_or_gt_of_ne hpq with h | h
       · have := (Run.mono R U hfr (show p + 1 ≤ q from by omega) (by omega)).1; omega
       · have := (Run.mono R U hfr (show q + 1 ≤ p from by omega) (by
          have := (List.getElem?_eq_some_iff.1 ha').1; omega)).1
         omega
  · rw [← I.defers]; cases o.dst <;> rfl
 have hnoh : ∀ k, (S q).next ≤ k → hidden (N q) (zQ (ord.take q) c 0) k = false := by
  intro k hk
  cases hh : hidden (N q) (zQ (ord.take q) c 0) k with
  | false => rfl
  | true =>
   obtain ⟨p, a', hp, _, _, _, h2⟩ := (Run.hidden R U hfr X.at_ hlt).1 hh
   have := (Run.mono R U hfr (show p + 1 ≤ q from by omega) (by omega)).1
   omega
 unfold wpOpIn
 simp only [ho]
 rw [hwant]
 rcases (U.step q _ (R.list q c X.at_)).1 with ⟨hwt, v, s1, hd, hT, hS⟩ | ⟨hwt, hT, hS⟩
 · simp only at hwt hd hT
   rw [hwt]
   simp only [if_true]
   have hnx1 : (S (q + 1)).next = s1.next := by rw [hS]
   have hfrv := YN hfr hd
   have hfresh : ∀ k, (S q).next ≤ k → k < s1.next → β k = none := fun k h1 h2 => I.fresh q c X.at_ X.un k h1 (by rw [hnx1]; exact h2)
   have hvget : ∀ k, (veil (S q) (N q) (zQ (ord.take q) c 0)).get k = if hidden (N q) (zQ (ord.take q) c 0) k then none else (S q).get k := by
    intro k
    exact M3 _ _ _ _
   by_cases hW : isW c = true
   · have hsub : ∀ k o, (veil (S q) (N q) (zQ (ord.take q) c 0)).get k = some o → VH ord S N listed k = some o := by
      intro k ob hk
      rw [hvget] at hk
      split at hk
      · cases hk
      · rename_i hh
        rw [RH R U hfr X hlt (.inl ⟨hW, by simpa using hh⟩)]
        exact hk
     refine Gp hcall o (Qx hok) hρ (hrel.sub hsub) (s := veil (S q) (N q) (zQ (ord.take q) c 0)) hfresh (by rw [← hdop]; exact hd) ?_
     intro β' v' w' hv st
     suffices hg : ∀ k o, VH ord S N (listed.setIfInBounds c.bit true) k = some o → s1.get k = some o ∨ (VH ord S N listed k = some o ∧ (veil (S q) (N q) (zQ (ord.take q) c 0)).get k = none) from
      finish β' v v' w' hT hv (by rw [hnx1]; exact Step.part hrel hsub st hg)
     intro k ob hk
     rw [WH R U hfr X hlt hl] at hk
     by_cases hm : mw ord S N q k = true
     · left
       rw [if_pos hm] at hk
       have hh : hidden (N q) (zQ (ord.take q) c 0) k = false := by
        unfold mw at hm
        rw [X.at_] at hm
        simp only [Bool.or_eq_true, Bool.and_eq_true] at hm
        rcases hm with ⟨h1, _⟩ | ⟨_, h1⟩
        · exact hnoh k (Nat.le_of_ble_eq_true h1)
        · simp only [veil, Bool.and_eq_true, Bool.not_eq_true'] at h1
          exact h1.1.2
       rw [hS] at hk
       simp only [DS.get] at hk ⊢
       rw [hfrv.vis]
       simp only [veil, hh, Bool.not_false, Bool.and_true]
       exact hk
     · rw [if_neg hm] at hk
       cases hh : hidden (N q) (zQ (ord.take q) c 0) k with
       | true => exact .inr ⟨hk, by rw [hvget, hh]; rfl⟩
       | false =>
        left
        rw [RH R U hfr X hlt (.inl ⟨hW, hh⟩)] at hk
        have hlt' := DS.get_lt hk
        have hwrk : (veil (S q) (N q) (zQ (ord.take q) c 0)).wr k = false := by
         unfold mw at hm
         rw [X.at_] at hm
         simp only [hW, Bool.true_and, Bool.or_eq_true, not_or] at hm
         simpa using hm.2
        have hkeep := hfrv.keep k hlt' hwrk
        simp only [DS.get] at hk ⊢
        rw [hfrv.vis, hkeep]
        simp only [veil, hh, Bool.not_false, Bool.and_true]
        have e1 : Nat.blt k (S q).next = true := (zX _ _).2 hlt'
        have e2 : Nat.blt k s1.next = true := (zX _ _).2 (Nat.lt_of_lt_of_le hlt' hfrv.next)
        rw [e2]
        rw [e1] at hk
        exact hk
   · have hW' : isW c = false := by simpa using hW
     let sr : DS := { S q with vis := fun k => (S q).vis k && !hidden (N q) (zQ (ord.take q) c 0) k && (zO (foot (ev (T q)) (S q) c.dop) k || Nat.ble (S q).next k) }
     have hsrget : ∀ k, sr.get k = if zO (foot (ev (T q)) (S q) c.dop) k then (veil (S q) (N q) (zQ (ord.take q) c 0)).get k else none := by
      intro k
      simp only [veil, DS.get, sr]
      by_cases hk : k < (S q).next
      · have : Nat.ble (S q).next k = false := by
         cases h : Nat.ble (S q).next k with
         | false => rfl
         | true => have := Nat.le_of_ble_eq_true h; omega
        rw [this]
        cases zO (foot (ev (T q)) (S q) c.dop) k <;> simp
      · have : Nat.blt k (S q).next = false := by
         cases h : Nat.blt k (S q).next with
         | false => rfl
         | true => exact absurd ((zX _ _).1 h) hk
        simp [this]
     have hsub : ∀ k o, sr.get k = some o → VH ord S N listed k = some o := by
      intro k ob hk
      rw [hsrget] at hk
      split at hk
      · rename_i hmem
        rw [hvget] at hk
        split at hk
        · cases hk
        · rename_i hh
          rw [RH R U hfr X hlt (.inr ⟨(XZ _ _).1 hmem, hwt, by simpa using hh, DS.get_lt hk⟩)]
          exact hk
      · cases hk
     have hloc : ∀ k ∈ foot (ev (T q)) (veil (S q) (N q) (zQ (ord.take q) c 0)) c.dop, sr.get k = (veil (S q) (N q) (zQ (ord.take q) c 0)).get k := by
      intro k hk
      have : k ∈ foot (ev (T q)) (S q) c.dop := RX (s2 := veil (S q) (N q) (zQ (ord.take q) c 0)) (fun k o h => by
       rw [hvget] at h
       split at h
       · cases h
       · exact h) hk
      rw [hsrget, (XZ _ _).2 this]; rfl
     have hdr : ∃ s1r, dop call (ev (T q)) sr c.dop = some (v, s1r) ∧ ((s1 = veil (S q) (N q) (zQ (ord.take q) c 0) ∧ s1r = sr) ∨ ∃ x, s1 = (veil (S q) (N q) (zQ (ord.take q) c 0)).new x ∧ s1r = sr.new x) := by
      rcases Nn hW' with hc | hc | hc
      · unfold dop at hd ⊢
        simp only [hc] at hd ⊢
        split at hd
        · rename_i v0 hv0
          cases hd
          exact ⟨sr, rfl, .inl ⟨rfl, rfl⟩⟩
        · cases hd
      · unfold dop at hd ⊢
        simp only [hc] at hd ⊢
        split at hd
        · rename_i v0 hv0
          cases hd
          exact ⟨sr, by rw [F0 hv0 hloc], .inl ⟨rfl, rfl⟩⟩
        · cases hd
      · unfold dop at hd ⊢
        simp only [hc] at hd ⊢
        obtain ⟨x, h1, h2⟩ := JL (s2 := sr) hd rfl hloc
        exact ⟨sr.new x, h2, .inr ⟨x, h1, rfl⟩⟩
     obtain ⟨s1r, hdr, hcase⟩ := hdr
     have hn1 : s1r.next = s1.next := by
      rcases hcase with ⟨h1, h2⟩ | ⟨x, h1, h2⟩ <;> rw [h1, h2] <;> rfl
     refine Gp hcall o (Qx hok) hρ (hrel.sub hsub) (s := sr) (fun k h1 h2 => hfresh k h1 (by rw [← hn1]; exact h2)) (by rw [← hdop]; exact hdr) ?_
     intro β' v' w' hv st
     suffices hg : ∀ k o, VH ord S N (listed.setIfInBounds c.bit true) k = some o → s1r.get k = some o ∨ (VH ord S N listed k = some o ∧ sr.get k = none) from
      finish β' v v' w' hT hv (by rw [hnx1, ← hn1]; exact Step.part hrel hsub st hg)
     intro k ob hk
     rw [WH R U hfr X hlt hl] at hk
     by_cases hm : mw ord S N q k = true
     · left
       rw [if_pos hm] at hk
       unfold mw at hm
       rw [X.at_] at hm
       simp only [hW', Bool.false_and, Bool.or_false, Bool.and_eq_true] at hm
       have h1 := Nat.le_of_ble_eq_true hm.1
       have h2 := (zX _ _).1 hm.2
       rw [hnx1] at h2
       rcases hcase with ⟨e1, e2⟩ | ⟨x, e1, e2⟩
       · rw [e1] at h2
         simp only [veil] at h2
         omega
       · rw [hS, e1] at hk
         have hv2 : sr.vis k = (S q).vis k := by
          show ((S q).vis k && !hidden (N q) (zQ (ord.take q) c 0) k && (zO (foot (ev (T q)) (S q) c.dop) k || Nat.ble (S q).next k)) = _
          rw [hnoh k h1, Nat.ble_eq_true_of_le h1]; simp
         rw [e2, DS.get_new, hv2]
         show (if Nat.blt k ((S q).next + 1) && (S q).vis k then (if k = (S q).next then some x else (S q).heap.get k) else none) = some ob
         have hk2 : (if Nat.blt k ((S q).next + 1) && (S q).vis k then ((S q).heap.put (S q).next (some x)).get k else none) = some ob := hk
         rw [PT.get_put] at hk2
         exact hk2
     · rw [if_neg hm] at hk
       cases hs : sr.get k with
       | none => exact .inr ⟨hk, rfl⟩
       | some o' =>
        left
        have := hsub k o' hs
        rw [hk] at this; cases this
        rcases hcase with ⟨e1, e2⟩ | ⟨x, e1, e2⟩
        · rw [e2]; exact hs
        · rw [e2, DS.get_new_old (Nat.ne_of_lt (DS.get_lt hs))]; exact hs
 · simp only at hwt hT
   rw [hwt]
   simp only [z3, if_false]
   refine ⟨fun _ _ => trivial, ?_⟩
   refine finish β zv undef w hT .undef ?_
   rw [hS]
   refine (Step.refl hrel).congr fun k => ?_
   rw [WH R U hfr X hlt hl]
   by_cases hm : mw ord S N q k = true
   · rw [if_pos hm, LL R U hfr X hlt hm, hS]
   · rw [if_neg hm]
end
end Go.Dx
namespace Go.Dx
open Go
theorem Nl {l : List zJ} (hn : (l.map (·.bit)).Nodup) : ∀ (p q : Nat) (c c' : zJ), l[p]? = some c → l[q]? = some c' → c.bit = c'.bit → p = q := by
 intro p q c c' h1 h2 he
 have e1 : (l.map (·.bit))[p]? = some c.bit := by simp [h1]
 have e2 : (l.map (·.bit))[q]? = some c.bit := by simp [h2, he]
 have hp : p < (l.map (·.bit)).length := (List.getElem?_eq_some_iff.1 e1).1
 exact (List.getElem?_inj hp hn).1 (e1.trans e2.symm)
theorem MO {P : Program} {n : Nat} {ops : Array Oper} {L : List zK} (h : XW P n ops true = some L) : ∃ ord note, Reg P n ops ord L note := by
 unfold XW at h
 simp only [Bool.not_true, z3, if_false] at h
 split at h
 · cases h
 rename_i hall
 simp only [Bool.not_eq_true', Bool.not_eq_false] at hall
 split at h
 · cases h
 rename_i ord harr
 split at h
 rotate_left
 · cases h
 rename_i hchk
 simp only [Bool.and_eq_true] at hchk
 simp only [z2] at h
 have hperm := Q8 harr
 obtain ⟨⟨r, hr1, hr2⟩, hbs⟩ := YB ops.toList []
 have hblen : (Zf ops.toList []).length = ops.toList.length := by rw [hr1]; simpa using hr2
 have hclen : (WD P ops.toList ops.toList (Zf ops.toList []) 0).length = ops.toList.length := Q5 P _ _ _ _ hblen
 have hok : ∀ (i : Nat) (o : Oper), ops[i]? = some o → QN n ops.toList o = true := by
  intro i o ho
  refine List.all_eq_true.1 hall o ?_
  have : ops.toList[i]? = some o := by rw [Array.getElem?_toList]; exact ho
  exact List.mem_of_getElem? this
 have hcget : ∀ (i : Nat) (o : Oper), ops.toList[i]? = some o → ∃ b, (Zf ops.toList [])[i]? = some b ∧
  (WD P ops.toList ops.toList (Zf ops.toList []) 0)[i]? = some { bit := i, bef := b, dop := zC P o, dst := o.dst, uses := WK ops.toList o, guard := (Z9 ops.toList o.guard).getD none } := by
  intro i o ho
  have hi : i < (Zf ops.toList []).length := by rw [hblen]; exact (List.getElem?_eq_some_iff.1 ho).1
  refine ⟨(Zf ops.toList [])[i], List.getElem?_eq_getElem hi, ?_⟩
  have := VS P ops.toList ops.toList (Zf ops.toList []) 0 i o _ ho (List.getElem?_eq_getElem hi)
  simpa using this
 have hnd : (ord.map (·.bit)).Nodup := by
  have h1 : (WD P ops.toList ops.toList (Zf ops.toList []) 0).map (·.bit) = List.range ops.toList.length := by
   apply List.ext_getElem?
   intro i
   by_cases hi : i < ops.toList.length
   · obtain ⟨b, _, hb⟩ := hcget i _ (List.getElem?_eq_getElem hi)
     rw [List.getElem?_map, hb, List.getElem?_range hi]
     rfl
   · rw [List.getElem?_eq_none (by simp [hclen]; simpa using hi), List.getElem?_eq_none (by simpa using hi)]
  rw [← (hperm.map (·.bit)).nodup_iff, h1]
  exact List.nodup_range
 have hget : ∀ (p : Nat) (c : zJ), ord[p]? = some c → ∃ i o b, ops.toList[i]? = some o ∧ (Zf ops.toList [])[i]? = some b ∧ c = { bit := i, bef := b, dop := zC P o, dst := o.dst, uses := WK ops.toList o, guard := (Z9 ops.toList o.guard).getD none } := by
  intro p c hc
  have hm : c ∈ WD P ops.toList ops.toList (Zf ops.toList []) 0 := hperm.mem_iff.2 (List.mem_of_getElem? hc)
  obtain ⟨i, hi, e⟩ := List.mem_iff_getElem.1 hm
  have hi' : i < ops.toList.length := by rw [← hclen]; exact hi
  obtain ⟨b, h1, h2⟩ := hcget i _ (List.getElem?_eq_getElem hi')
  refine ⟨i, _, b, List.getElem?_eq_getElem hi', h1, ?_⟩
  rw [List.getElem?_eq_getElem hi, e] at h2
  exact Option.some.inj h2
 refine ⟨ord, (Y0 [] ord).any fun x => !x.2.isEmpty, ?_⟩
 refine { ok := hok, get := ?_, cover := ?_, inj := Nl hnd, pairs := ?_, ext := ?_, list := ?_, len := ?_, noted := ?_ }
 · intro p c hc
   obtain ⟨i, o, b, h1, h2, rfl⟩ := hget p c hc
   rw [Array.getElem?_toList] at h1
   refine ⟨o, h1, h2, rfl, rfl, rfl, ?_⟩
   have hgd := hok i o h1
   cases hg : o.guard with
   | none => rfl
   | some jb =>
    obtain ⟨j, w⟩ := jb
    obtain ⟨g, hg2, _⟩ := Xj hgd hg
    simp [Z9, hg2]
 · intro i hi
   have hi' : i < ops.toList.length := by simpa using hi
   obtain ⟨b, h1, h2⟩ := hcget i _ (List.getElem?_eq_getElem hi')
   have hm := hperm.mem_iff.1 (List.mem_of_getElem? h2)
   obtain ⟨p, hp, e⟩ := List.mem_iff_getElem.1 hm
   exact ⟨p, _, by rw [List.getElem?_eq_getElem hp, e], rfl⟩
 · intro p q a c hpq ha hc
   exact Jy hchk.1 q c hc a (.inr ⟨p, hpq, ha⟩)
 · intro q c hc i hi
   rcases Qt hchk.2 q c hc i hi with h1 | h1
   · simp at h1
   · exact h1
 · intro q c hc
   rw [← h, List.getElem?_map, WJ _ _ _ _ hc]
   simp
 · rw [← h]; simp [WI]
 · cases hn : (Y0 [] ord).any fun x => !x.2.isEmpty with
   | true => exact .inl rfl
   | false =>
    right
    intro q c hc
    have h1 := WJ ord [] q c hc
    rw [List.nil_append] at h1
    have h2 := List.any_eq_false.1 hn _ (List.mem_of_getElem? h1)
    simpa using h2
theorem VG {α : Type} {p p' : α → Bool} : ∀ {l : List α}, (∀ x, p' x = true → p x = true) → (∃ x ∈ l, p x = true ∧ p' x = false) → l.countP p' < l.countP p
 | [], _, ⟨x, h, _⟩ => by cases h
 | y :: l, h, ⟨x, hx, h1, h2⟩ => by
  have hle : l.countP p' ≤ l.countP p := List.countP_mono_left fun x _ => h x
  rcases List.mem_cons.1 hx with rfl | hx
  · simp [List.countP_cons, h1, h2]; omega
  · have := VG (l := l) h ⟨x, hx, h1, h2⟩
    simp only [List.countP_cons]
    by_cases e : p' y = true
    · simp [e, h y e]; omega
    · simp [e]; omega
section
variable {P : Program} {n : Nat} {ops : Array Oper} {ord : List zJ} {L : List zK} {note : Bool} {call : zn}
variable {T : Nat → PT Value} {S : Nat → DS} {N : Nat → List Zw} {β0 : Emb} {w0 : World} {ds : List Deferred} {ro : Option Nat}
theorem Kp {listed : Array Bool} {i : Nat} (h : i ∈ Region.ready .any ops listed) : ∃ o, ops[i]? = some o ∧ listed.getD i true = false ∧ ∀ e ∈ zY o, listed.getD e false = true := by
 unfold Region.ready at h
 rw [List.mem_filter, List.mem_range] at h
 obtain ⟨h1, h2⟩ := h
 simp only [Bool.and_eq_true, Bool.not_eq_true'] at h2
 obtain ⟨h2, h3⟩ := h2
 rw [Array.getElem?_eq_getElem h1] at h3
 simp only [Option.map_some, z1] at h3
 refine ⟨ops[i], Array.getElem?_eq_getElem h1, h2, ?_⟩
 intro e he
 unfold zY at he
 obtain ⟨x, hx, rfl⟩ := List.mem_map.1 he
 obtain ⟨hx1, hx2⟩ := List.mem_filter.1 hx
 have := Array.all_eq_true_iff_forall_mem.1 h3 x (by simpa using hx1)
 simpa [hx2] using this
theorem D9 {listed : Array Bool} {i : Nat} {o : Oper} (ho : ops[i]? = some o) (hl : listed.getD i true = false) (he : ∀ e ∈ zY o, listed.getD e false = true) : i ∈ Region.ready .any ops listed := by
 unfold Region.ready
 rw [List.mem_filter, List.mem_range]
 obtain ⟨hlt, hget⟩ := Array.getElem?_eq_some_iff.1 ho
 refine ⟨hlt, ?_⟩
 simp only [Bool.and_eq_true, Bool.not_eq_true']
 refine ⟨hl, ?_⟩
 rw [ho]
 simp only [Option.map_some, z1]
 rw [Array.all_eq_true_iff_forall_mem]
 intro x hx
 by_cases hb : Region.binds .any x = true
 · rw [he x.on]
   · simp
   · unfold zY
     exact List.mem_map.2 ⟨x, List.mem_filter.2 ⟨by simpa using hx, hb⟩, rfl⟩
 · simp [hb]
theorem getD_both {listed : Array Bool} {i : Nat} (h : i < listed.size) : listed.getD i true = listed.getD i false := by
 simp [h]
theorem M5 (R : Reg P n ops ord L note) (U : Run call L T S N) (hfr : zG call) (hcall : QG P call) {Q : Exit → Act → World → Prop}
 (hQ : ∀ β' a' w', YF β' n (T ord.length) a'.tmps → a'.defers = ds → Step P β0 (S 0).get (S 0).next w0 β' (S ord.length).get (S ord.length).next w' → Q .normal a' w') :
 ∀ (fuel : Nat) (listed : Array Bool) (β : Emb) (a : Act) (w : World), Inv P n ops ord T S N β0 w0 ds listed β a w → (List.range ops.size).countP (fun i => !listed.getD i true) ≤ fuel →
  wpAnyIn (FW ro) 0 P .any ops Q fuel listed a w := by
 have hnil : ∀ (listed : Array Bool) (β : Emb) (a : Act) (w : World), Inv P n ops ord T S N β0 w0 ds listed β a w → Region.ready .any ops listed = [] → Q .normal a w := by
  intro listed β a w I hr
  have hall : ∀ (p : Nat) (c : zJ), ord[p]? = some c → listed.getD c.bit false = true := by
   intro p
   induction p using Nat.strongRecOn with
   | _ p ih =>
    intro c hc
    obtain ⟨o, h1, h2, _⟩ := R.get p c hc
    cases hl : listed.getD c.bit false with
    | true => rfl
    | false =>
     have : c.bit ∈ Region.ready .any ops listed := by
      refine D9 h1 ?_ ?_
      · rw [getD_both (by rw [I.size]; exact (Array.getElem?_eq_some_iff.1 h1).1)]; exact hl
      · intro e he
        have hb := R9 (by rw [Array.getElem?_toList]; exact h1) h2 he
        obtain ⟨p', a', hp', ha', rfl⟩ := R.ext p c hc e hb
        exact ih p' hp' a' ha'
     rw [hr] at this; cases this
  have hlis : ∀ p, p < ord.length → lis ord listed p = true := by
   intro p hp
   unfold lis
   rw [List.getElem?_eq_getElem hp]
   exact hall p _ (List.getElem?_eq_getElem hp)
  have hT : ∀ x, VT ord T listed x = (T ord.length).get x := by
   intro x
   have := XJ (f := fun p => (T p).get x) (wr := fun p => dw ord p x) (S := lis ord listed) (q := ord.length) (m := ord.length) (fun p hp h => GC R U hfr hp h) (fun p hp _ => by simp [hlis p hp, hp])
   rw [Nat.min_self] at this
   exact this
  have hS : ∀ k, VH ord S N listed k = (S ord.length).get k := by
   intro k
   have := XJ (f := fun p => (S p).get k) (wr := fun p => mw ord S N p k) (S := lis ord listed) (q := ord.length) (m := ord.length) (fun p hp h => by
    obtain ⟨a, ha⟩ : ∃ a, ord[p]? = some a := ⟨ord[p], List.getElem?_eq_getElem hp⟩
    exact Run.same R U hfr ha h) (fun p hp _ => by simp [hlis p hp, hp])
   rw [Nat.min_self] at this
   exact this
  refine hQ β a w ⟨I.tsize, fun x => ?_⟩ I.defers (I.step.congr fun k => (hS k).symm)
  rw [← hT x]; exact I.tmp x
 have hone : ∀ (fuel : Nat) (listed : Array Bool) (β : Emb) (a : Act) (w : World), Inv P n ops ord T S N β0 w0 ds listed β a w → (List.range ops.size).countP (fun i => !listed.getD i true) ≤ fuel + 1 →
  (∀ (listed : Array Bool) (β : Emb) (a : Act) (w : World), Inv P n ops ord T S N β0 w0 ds listed β a w → (List.range ops.size).countP (fun i => !listed.getD i true) ≤ fuel → wpAnyIn (FW ro) 0 P .any ops Q fuel listed a w) →
  ∀ i ∈ Region.ready .any ops listed, wpOpIn (FW ro) 0 P ops Q i (wpAnyIn (FW ro) 0 P .any ops Q fuel (listed.setIfInBounds i true)) a w := by
  intro fuel listed β a w I hc ih i hi
  obtain ⟨o, ho, hl, he⟩ := Kp hi
  have hilt : i < ops.size := (Array.getElem?_eq_some_iff.1 ho).1
  obtain ⟨q, c, hq, rfl⟩ := R.cover i hilt
  have hl' : listed.getD c.bit false = false := by rw [← getD_both (by rw [I.size]; exact hilt)]; exact hl
  have X := Nf R U hfr I.closed hq hl' ho he
  refine SD R U hfr hcall I X ho he ?_
  intro β' a' w' I'
  refine ih _ β' a' w' I' ?_
  have : (List.range ops.size).countP (fun j => !(listed.setIfInBounds c.bit true).getD j true) < (List.range ops.size).countP (fun i => !listed.getD i true) := by
   refine VG ?_ ⟨c.bit, List.mem_range.2 hilt, by rw [hl]; rfl, ?_⟩
   · intro x hx
     by_cases e : c.bit = x
     · subst e; simp [hl]
     · simpa [Array.getElem?_setIfInBounds, e] using hx
   · have : c.bit < listed.size := by rw [I.size]; exact hilt
     simp [this]
  omega
 intro fuel
 induction fuel with
 | zero =>
  intro listed β a w I hc
  have hr : Region.ready .any ops listed = [] := by
   cases h : Region.ready .any ops listed with
   | nil => rfl
   | cons i r =>
    exfalso
    have hi : i ∈ Region.ready .any ops listed := by rw [h]; simp
    obtain ⟨o, ho, hl, he⟩ := Kp hi
    have h0 : (List.range ops.size).countP (fun i => !listed.getD i true) = 0 := by omega
    have := List.countP_eq_zero.1 h0 i (List.mem_range.2 (Array.getElem?_eq_some_iff.1 ho).1)
    rw [hl] at this
    exact this rfl
  exact ⟨hr, hnil listed β a w I hr⟩
 | succ fuel ih =>
  intro listed β a w I hc
  exact ⟨hnil listed β a w I, hone fuel listed β a w I hc ih⟩
end
theorem Sa {P : Program} {n id : Nat} {ops : Array Oper} {L : List zK} {call : zn} {t t' : PT Value} {s s' : DS} {β : Emb} {a : Act} {w : World} {ro : Option Nat} {Q : Exit → Act → World → Prop}
 (hm : P.follows .mixedOrders = true) (hcall : QG P call) (hfr : zG call) (htr : XW P n ops true = some L) (h : Z0 call L [] t s = some (t', s'))
 (ht : YF β n t a.tmps) (hR : Rel P β s.get w) (hf : fresh β s s')
 (hQ : ∀ β' a' w', YF β' n t' a'.tmps → a'.defers = a.defers → Step P β s.get s.next w β' s'.get s'.next w' → Q .normal a' w') :
 (Code.region id ops true).wpIn (FW ro) 0 P Q a w := by
 obtain ⟨ord, note, R⟩ := MO htr
 obtain ⟨T, S, N, hT, hS, hN, hT', hS', hst⟩ := Sz hfr L [] t s h
 have U : Run call L T S N := ⟨hN, hst⟩
 rw [R.len] at hT' hS'
 refine wpIn_region_any hm ?_
 have hlis : ∀ p, lis ord (Array.replicate ops.size false) p = false := by
  intro p
  unfold lis
  split
  · simp only [Array.getD_eq_getD_getElem?, Array.getElem?_replicate]
    split <;> rfl
  · rfl
 refine M5 (T := T) (S := S) (N := N) (β0 := β) (w0 := w) (ds := a.defers) R U hfr hcall ?_ ops.size _ β a _ ?_ ?_
 · rw [hT', hS', hS]
   exact hQ
 · have hmono := (Run.mono R U hfr (Nat.zero_le ord.length) (Nat.le_refl _)).1
   have h0T : ∀ x, VT ord T (Array.replicate ops.size false) x = (T 0).get x := by
    intro x
    have := XJ (f := fun p => (T p).get x) (wr := fun p => dw ord p x) (S := lis ord (Array.replicate ops.size false)) (q := 0) (m := ord.length) (fun p hp h => GC R U hfr hp h) (fun p hp _ => by simp [hlis p])
    rw [Nat.min_zero] at this
    exact this
   have h0S : ∀ k, VH ord S N (Array.replicate ops.size false) k = (S 0).get k := by
    intro k
    have := XJ (f := fun p => (S p).get k) (wr := fun p => mw ord S N p k) (S := lis ord (Array.replicate ops.size false)) (q := 0) (m := ord.length) (fun p hp h => by
     obtain ⟨a, ha⟩ : ∃ a, ord[p]? = some a := ⟨ord[p], List.getElem?_eq_getElem hp⟩
     exact Run.same R U hfr ha h) (fun p hp _ => by simp [hlis p])
    rw [Nat.min_zero] at this
    exact this
   refine { size := by simp, closed := ?_, tsize := ht.1, tmp := ?_, step := ?_, fresh := ?_, defers := rfl }
   · intro i o _ hl
     simp only [Array.getD_eq_getD_getElem?, Array.getElem?_replicate] at hl
     split at hl <;> simp at hl
   · intro x
     rw [h0T x, hT]
     exact ht.2 x
   · refine Step.congr ?_ h0S
     rw [hS]
     refine Step.widen (Step.same hR rfl rfl rfl rfl) (Nat.le_refl _) ?_
     rw [← hS]; exact hmono
   · intro p c hc _ k h1 h2
     have hp := (List.getElem?_eq_some_iff.1 hc).1
     have m1 := (Run.mono R U hfr (Nat.zero_le p) (by omega)).1
     have m2 := (Run.mono R U hfr (show p + 1 ≤ ord.length from by omega) (Nat.le_refl _)).1
     rw [hS] at m1
     rw [hS'] at m2
     exact hf k (by omega) (by omega)
 · have := List.countP_le_length (p := fun i => !(Array.replicate ops.size false).getD i true) (l := List.range ops.size)
   simpa using this
end Go.Dx
