/- The evaluator Dx: regions that draw their order: the canonical run, step by step; the static facts. -/
import Derived.Test.YtnmajohhfcgddaaDxDraw
set_option linter.unusedVariables false
set_option linter.unusedSimpArgs false
set_option linter.unusedSectionVars false
namespace Go.Dx
open Go

/-! ### The canonical run -/
def veil (s : DS) (nts : List Note) (haz : List Nat) : DS :=
  { s with vis := fun k => s.vis k && !hidden nts haz k, wr := fun k => s.wr k && !hidden nts haz k && !shielded nts haz k }
def StepQ (call : CallFn) (l : DOper) (nts : List Note) (t : PT Value) (s : DS) (t' : PT Value) (s' : DS) : Prop :=
  (wantedD t l.guard = true ∧ ∃ v s1, dop call (ev t) (veil s nts l.haz) l.op = some (v, s1) ∧ t' = putT t l.dst v ∧ s' = { s1 with vis := s.vis, wr := s.wr }) ∨
  (wantedD t l.guard = false ∧ t' = putT t l.dst undefD ∧ s' = s)
def noteOf (l : DOper) (t : PT Value) (s s' : DS) : Note :=
  if wantedD t l.guard then ⟨foot (ev t) s l.op, s.next, s'.next⟩ else ⟨[], s.next, s.next⟩
theorem veil_nil (s : DS) (nts : List Note) : veil s nts [] = s := by
  simp [veil, hidden, shielded]
theorem trace_ex {call : CallFn} (hfr : CallFrame call) : ∀ (L : List DOper) (nts : List Note) (t : PT Value) (s : DS) {t' : PT Value} {s' : DS}, dops call L nts t s = some (t', s') →
    ∃ (T : Nat → PT Value) (S : Nat → DS) (N : Nat → List Note), T 0 = t ∧ S 0 = s ∧ N 0 = nts ∧ T L.length = t' ∧ S L.length = s' ∧
      ∀ q l, L[q]? = some l → StepQ call l (N q) (T q) (S q) (T (q + 1)) (S (q + 1)) ∧ N (q + 1) = if l.note then N q ++ [noteOf l (T q) (S q) (S (q + 1))] else N q := by
  intro L
  induction L with
  | nil =>
    intro nts t s t' s' h
    simp only [dops, Option.some.injEq, Prod.mk.injEq] at h
    obtain ⟨rfl, rfl⟩ := h
    exact ⟨fun _ => t, fun _ => s, fun _ => nts, rfl, rfl, rfl, rfl, rfl, fun q l hl => by simp at hl⟩
  | cons l L ih =>
    intro nts t s t' s' h
    have key : ∀ (t1 : PT Value) (s1 : DS), StepQ call l nts t s t1 s1 → dops call L (if l.note then nts ++ [noteOf l t s s1] else nts) t1 s1 = some (t', s') →
        ∃ (T : Nat → PT Value) (S : Nat → DS) (N : Nat → List Note), T 0 = t ∧ S 0 = s ∧ N 0 = nts ∧ T (l :: L).length = t' ∧ S (l :: L).length = s' ∧
          ∀ q l', (l :: L)[q]? = some l' → StepQ call l' (N q) (T q) (S q) (T (q + 1)) (S (q + 1)) ∧ N (q + 1) = if l'.note then N q ++ [noteOf l' (T q) (S q) (S (q + 1))] else N q := by
      intro t1 s1 hst hr
      obtain ⟨T, S, N, h1, h2, h3, h4, h5, h6⟩ := ih _ t1 s1 hr
      refine ⟨fun q => match q with | 0 => t | q + 1 => T q, fun q => match q with | 0 => s | q + 1 => S q, fun q => match q with | 0 => nts | q + 1 => N q, rfl, rfl, rfl, h4, h5, ?_⟩
      intro q l' hl'
      cases q with
      | zero =>
        simp only [List.getElem?_cons_zero, Option.some.injEq] at hl'
        subst hl'
        refine ⟨by simp only [h1, h2]; exact hst, by simp only [h2]; exact h3⟩
      | succ q => exact h6 q l' (by simpa using hl')
    simp only [dops] at h
    by_cases hw : wantedD t l.guard = true
    · simp only [hw, if_true] at h
      cases hhz : l.haz with
      | nil =>
        simp only [hhz] at h
        cases hd : dop call (ev t) s l.op with
        | none => simp [hd] at h
        | some r =>
          obtain ⟨v, s1⟩ := r
          simp only [hd] at h
          have hf := dop_frame hfr hd
          have e : ({ s1 with vis := s.vis, wr := s.wr } : DS) = s1 := by rw [← hf.vis, ← hf.wr]
          refine key _ s1 (.inl ⟨hw, v, s1, by rw [hhz, veil_nil]; exact hd, rfl, e.symm⟩) ?_
          simpa [noteOf, hw] using h
      | cons a r =>
        simp only [hhz] at h
        cases hd : dop call (ev t) (veil s nts (a :: r)) l.op with
        | none => simp only [veil] at hd; simp [hd] at h
        | some rr =>
          obtain ⟨v, s1⟩ := rr
          have hd' := hd
          simp only [veil] at hd'
          simp only [hd'] at h
          refine key _ { s1 with vis := s.vis, wr := s.wr } (.inl ⟨hw, v, s1, by rw [hhz]; exact hd, rfl, rfl⟩) ?_
          simpa [noteOf, hw] using h
    · have hw' : wantedD t l.guard = false := by simpa using hw
      simp only [hw', Bool.false_eq_true, if_false] at h
      refine key _ s (.inr ⟨hw', rfl, rfl⟩) ?_
      simpa [noteOf, hw'] using h

/-! ### Who comes before whom -/
theorem orBits_test : ∀ (l : List Nat) (i : Nat), (orBits l).testBit i = true → ∃ x ∈ l, x.testBit i = true
  | [], i, h => by simp [orBits] at h
  | x :: l, i, h => by
    simp only [orBits, Nat.testBit_or, Bool.or_eq_true] at h
    rcases h with h | h
    · exact ⟨x, by simp, h⟩
    · obtain ⟨y, hy, hi⟩ := orBits_test l i h
      exact ⟨y, by simp [hy], hi⟩
theorem befores_spec : ∀ (ops : List Oper) (acc : List Nat), (∃ r, befores ops acc = acc ++ r ∧ r.length = ops.length) ∧
    ∀ j o, ops[j]? = some o → (befores ops acc)[acc.length + j]? = some (orBits ((anyEdges o).map fun i => 2 ^ i ||| ((befores ops acc).take (acc.length + j)).getD i 0))
  | [], acc => ⟨⟨[], by simp [befores], rfl⟩, fun j o h => by simp at h⟩
  | o :: ops, acc => by
    obtain ⟨⟨r, h1, h2⟩, h3⟩ := befores_spec ops (acc ++ [orBits ((anyEdges o).map fun i => 2 ^ i ||| acc.getD i 0)])
    have e0 : befores (o :: ops) acc = befores ops (acc ++ [orBits ((anyEdges o).map fun i => 2 ^ i ||| acc.getD i 0)]) := rfl
    rw [e0]
    refine ⟨⟨orBits ((anyEdges o).map fun i => 2 ^ i ||| acc.getD i 0) :: r, by rw [h1]; simp, by simp [h2]⟩, ?_⟩
    intro j o' hj
    cases j with
    | zero =>
      simp only [List.getElem?_cons_zero, Option.some.injEq] at hj
      subst hj
      rw [h1]
      simp
    | succ j =>
      have := h3 j o' (by simpa using hj)
      simp only [List.length_append, List.length_cons, List.length_nil] at this
      rw [show acc.length + (0 + 1) + j = acc.length + (j + 1) from by omega] at this
      exact this

/-- a set that holds, with each of its operations, what that one stands behind, holds all that comes before -/
theorem closed_bef {l : List Oper} {S : Nat → Prop} (hS : ∀ j o, l[j]? = some o → S j → ∀ i ∈ anyEdges o, S i) :
    ∀ (j : Nat) (o : Oper), l[j]? = some o → (∀ i ∈ anyEdges o, S i) → ∀ b, (befores l [])[j]? = some b → ∀ i, b.testBit i = true → S i := by
  intro j
  induction j using Nat.strongRecOn with
  | _ j ih =>
    intro o ho hedge b hb i hi
    have h := (befores_spec l []).2 j o ho
    simp only [List.length_nil, Nat.zero_add] at h
    rw [h] at hb
    cases hb
    obtain ⟨x, hx, hxi⟩ := orBits_test _ _ hi
    obtain ⟨e, he, rfl⟩ := List.mem_map.1 hx
    rw [Nat.testBit_or, Bool.or_eq_true] at hxi
    rcases hxi with hxi | hxi
    · rw [Nat.testBit_two_pow] at hxi
      have : e = i := by simpa using hxi
      subst this
      exact hedge e he
    · have hlt : e < j := by
        rcases Nat.lt_or_ge e j with h | h
        · exact h
        · rw [List.getD_eq_getElem?_getD, List.getElem?_eq_none (by simp; omega)] at hxi
          simp at hxi
      have hjl : j < l.length := (List.getElem?_eq_some_iff.1 ho).1
      have hoe : l[e]? = some l[e] := List.getElem?_eq_getElem (by omega)
      have hbe := (befores_spec l []).2 e _ hoe
      simp only [List.length_nil, Nat.zero_add] at hbe
      rw [List.getD_eq_getElem?_getD, List.getElem?_take, if_pos hlt, hbe] at hxi
      simp only [Option.getD_some] at hxi
      exact ih e hlt _ hoe (hS e _ hoe (hedge e he)) _ hbe i hxi

/-! ### The canonical order -/
theorem pickOne_perm : ∀ {l : List Cand} {done : Nat} {w : Bool} {c : Cand} {r : List Cand}, pickOne done w l = some (c, r) → l.Perm (c :: r)
  | [], _, _, _, _, h => by simp [pickOne] at h
  | x :: l, done, w, c, r, h => by
    unfold pickOne at h
    split at h
    · simp only [Option.some.injEq, Prod.mk.injEq] at h
      obtain ⟨rfl, rfl⟩ := h
      exact List.Perm.refl _
    · split at h
      · rename_i y l' hp
        simp only [Option.some.injEq, Prod.mk.injEq] at h
        obtain ⟨rfl, rfl⟩ := h
        exact ((pickOne_perm hp).cons x).trans (List.Perm.swap _ _ _)
      · cases h
theorem arrange_perm : ∀ {n done : Nat} {l ord : List Cand}, arrange n done l = some ord → l.Perm ord
  | 0, _, [], _, h => by simp [arrange] at h; subst h; exact List.Perm.refl _
  | _ + 1, _, [], _, h => by simp [arrange] at h; subst h; exact List.Perm.refl _
  | 0, _, _ :: _, _, h => by simp [arrange] at h
  | n + 1, done, x :: l, ord, h => by
    unfold arrange at h
    split at h
    · cases h
    · rename_i c rest hp
      have hperm : (x :: l).Perm (c :: rest) := by
        split at hp
        · rename_i r hp1
          simp only [Option.some.injEq] at hp
          subst hp
          exact pickOne_perm hp1
        · exact pickOne_perm hp
      split at h
      · rename_i l' hl'
        simp only [Option.some.injEq] at h
        subst h
        exact hperm.trans ((arrange_perm hl').cons c)
      · cases h
theorem cands_get (P : Program) : ∀ (ops all : List Oper) (bs : List Nat) (i p : Nat) (o : Oper) (b : Nat), ops[p]? = some o → bs[p]? = some b →
    (cands P ops all bs i)[p]? = some { bit := i + p, bef := b, dop := trOp P o, dst := o.dst, uses := usesOf all o, guard := (trGuard all o.guard).getD none }
  | [], _, _, _, p, _, _, h, _ => by simp at h
  | _ :: _, _, [], _, p, _, _, _, h => by simp at h
  | o :: ops, all, b :: bs, i, 0, _, _, h1, h2 => by simp at h1 h2; subst h1; subst h2; simp [cands]
  | _ :: ops, all, _ :: bs, i, p + 1, o, b, h1, h2 => by
    simp only [cands, List.getElem?_cons_succ]
    rw [cands_get P ops all bs (i + 1) p o b (by simpa using h1) (by simpa using h2)]
    congr 2
    omega
theorem cands_length (P : Program) : ∀ (ops all : List Oper) (bs : List Nat) (i : Nat), bs.length = ops.length → (cands P ops all bs i).length = ops.length
  | [], _, bs, _, h => by cases bs <;> simp [cands]
  | _ :: ops, all, [], _, h => by simp at h
  | _ :: ops, all, _ :: bs, i, h => by simp [cands, cands_length P ops all bs (i + 1) (by simpa using h)]
theorem pairsOk_get : ∀ {l front : List Cand}, pairsOk front l = true → ∀ (q : Nat) (c : Cand), l[q]? = some c → ∀ a : Cand, (a ∈ front ∨ ∃ p, p < q ∧ l[p]? = some a) → pairOk a c = true
  | [], _, _, q, c, h, _, _ => by simp at h
  | x :: l, front, h, q, c, hq, a, ha => by
    simp only [pairsOk, Bool.and_eq_true] at h
    cases q with
    | zero =>
      simp only [List.getElem?_cons_zero, Option.some.injEq] at hq
      subst hq
      rcases ha with ha | ⟨p, hp, _⟩
      · exact List.all_eq_true.1 h.1 a ha
      · omega
    | succ q =>
      refine pairsOk_get h.2 q c (by simpa using hq) a ?_
      rcases ha with ha | ⟨p, hp, hpa⟩
      · exact .inl (by simp [ha])
      · cases p with
        | zero => simp only [List.getElem?_cons_zero, Option.some.injEq] at hpa; subst hpa; exact .inl (by simp)
        | succ p => exact .inr ⟨p, by omega, by simpa using hpa⟩
theorem and_testBit {a b i : Nat} (h : a &&& b = a) (ha : a.testBit i = true) : b.testBit i = true := by
  rw [← h, Nat.testBit_and, Bool.and_eq_true] at ha
  exact ha.2
theorem extendsOk_get : ∀ {l : List Cand} {done : Nat}, extendsOk done l = true → ∀ (q : Nat) (c : Cand), l[q]? = some c → ∀ i, c.bef.testBit i = true → done.testBit i = true ∨ ∃ (p : Nat) (a : Cand), p < q ∧ l[p]? = some a ∧ a.bit = i
  | [], _, _, q, c, h, _, _ => by simp at h
  | x :: l, done, h, q, c, hq, i, hi => by
    simp only [extendsOk, Bool.and_eq_true] at h
    cases q with
    | zero =>
      simp only [List.getElem?_cons_zero, Option.some.injEq] at hq
      subst hq
      exact .inl (and_testBit (eq_of_beq (by simpa using h.1)) hi)
    | succ q =>
      rcases extendsOk_get h.2 q c (by simpa using hq) i hi with h1 | ⟨p, a, h1, h2, h3⟩
      · rw [Nat.testBit_or, Bool.or_eq_true] at h1
        rcases h1 with h1 | h1
        · exact .inl h1
        · rw [Nat.testBit_two_pow] at h1
          exact .inr ⟨0, x, by omega, rfl, by simpa using h1⟩
      · exact .inr ⟨p + 1, a, by omega, by simpa using h2, h3⟩
theorem hazOf_mem : ∀ (l : List Cand) (c : Cand) (i k : Nat), k ∈ hazOf l c i ↔ ∃ p a, k = i + p ∧ l[p]? = some a ∧ hazard a c = true
  | [], c, i, k => by simp [hazOf]
  | x :: l, c, i, k => by
    have ih := hazOf_mem l c (i + 1) k
    have key : (∃ p a, k = i + p ∧ (x :: l)[p]? = some a ∧ hazard a c = true) ↔ (k = i ∧ hazard x c = true) ∨ k ∈ hazOf l c (i + 1) := by
      rw [ih]
      constructor
      · rintro ⟨p, a, h1, h2, h3⟩
        cases p with
        | zero => simp only [List.getElem?_cons_zero, Option.some.injEq] at h2; subst h2; exact .inl ⟨by omega, h3⟩
        | succ p => exact .inr ⟨p, a, by omega, by simpa using h2, h3⟩
      · rintro (⟨h1, h2⟩ | ⟨p, a, h1, h2, h3⟩)
        · exact ⟨0, x, by omega, rfl, h2⟩
        · exact ⟨p + 1, a, by omega, by simpa using h2, h3⟩
    have e0 : hazOf (x :: l) c i = if hazard x c then i :: hazOf l c (i + 1) else hazOf l c (i + 1) := rfl
    rw [key, e0]
    by_cases hh : hazard x c = true
    · simp only [hh, if_true, List.mem_cons, and_true]
    · simp [hh]
theorem withHaz_get : ∀ (l front : List Cand) (q : Nat) (c : Cand), l[q]? = some c → (withHaz front l)[q]? = some (c, hazOf (front ++ l.take q) c 0)
  | [], _, q, _, h => by simp at h
  | x :: l, front, 0, c, h => by simp at h; subst h; simp [withHaz]
  | x :: l, front, q + 1, c, h => by
    simp only [withHaz, List.getElem?_cons_succ]
    rw [withHaz_get l (front ++ [x]) q c (by simpa using h)]
    simp
theorem withHaz_length : ∀ (l front : List Cand), (withHaz front l).length = l.length
  | [], _ => rfl
  | _ :: l, front => by simp [withHaz, withHaz_length l]
end Go.Dx
