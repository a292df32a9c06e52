/- The evaluator Dx: regions that draw their order: whatever order is drawn. -/
import Derived.Test.YtnmajohhfcgddaaDxDraw2
set_option linter.unusedVariables false
set_option linter.unusedSimpArgs false
set_option linter.unusedSectionVars false
namespace Go.Dx
open Go

theorem hidden_iff {nts : List Note} {k : Nat} : ∀ {haz : List Nat}, hidden nts haz k = true ↔ ∃ p ∈ haz, (noteAt nts p).lo ≤ k ∧ k < (noteAt nts p).hi
  | [] => by simp [hidden]
  | i :: r => by
    have ih := hidden_iff (nts := nts) (k := k) (haz := r)
    simp only [hidden, Bool.or_eq_true, Bool.and_eq_true, ih, List.mem_cons, Nat.blt_eq, Nat.ble_eq]
    constructor
    · rintro (h | ⟨p, hp, h⟩)
      · exact ⟨i, .inl rfl, h⟩
      · exact ⟨p, .inr hp, h⟩
    · rintro ⟨p, rfl | hp, h⟩
      · exact .inl h
      · exact .inr ⟨p, hp, h⟩
theorem shielded_iff {nts : List Note} {k : Nat} : ∀ {haz : List Nat}, shielded nts haz k = true ↔ ∃ p ∈ haz, k ∈ (noteAt nts p).foot
  | [] => by simp [shielded]
  | i :: r => by
    have ih := shielded_iff (nts := nts) (k := k) (haz := r)
    simp only [shielded, Bool.or_eq_true, memN_iff, ih, List.mem_cons]
    constructor
    · rintro (h | ⟨p, hp, h⟩)
      · exact ⟨i, .inl rfl, h⟩
      · exact ⟨p, .inr hp, h⟩
    · rintro ⟨p, rfl | hp, h⟩
      · exact .inl h
      · exact .inr ⟨p, hp, h⟩
theorem noteAt_append : ∀ (l : List Note) (x : Note) (p : Nat), noteAt (l ++ [x]) p = if p < l.length then noteAt l p else if p = l.length then x else ⟨[], 0, 0⟩
  | [], x, p => by cases p <;> simp [noteAt]
  | y :: l, x, 0 => by simp [noteAt]
  | y :: l, x, p + 1 => by
    simp only [List.cons_append, noteAt, noteAt_append l x p, List.length_cons]
    by_cases h : p < l.length
    · simp [h]
    · simp [h]
theorem foot_rd {ρ : Operand → Value} {s : DS} {c : Cand} {k : Nat} (h : k ∈ foot ρ s c.dop) : isRd c = true := by
  unfold isRd
  cases hd : c.dop <;> rw [hd] at h <;> simp [foot] at h <;> simp [DOp.cls]
theorem foot_sub {ρ : Operand → Value} {s s2 : DS} {o : DOp} {k : Nat} (hs : ∀ k o, s2.get k = some o → s.get k = some o) (h : k ∈ foot ρ s2 o) : k ∈ foot ρ s o := by
  cases o <;> simp only [foot] at h ⊢ <;> try exact h
  case ent it =>
    split at h
    · rename_i a ha
      cases hg : s2.get a.block with
      | none =>
        simp only [hg, List.mem_cons, List.not_mem_nil, or_false] at h
        subst h
        split <;> simp
      | some ob =>
        have := hs _ _ hg
        rw [this]
        rw [hg] at h
        exact h
    · cases h

/-- what is known of a region that draws: its canonical order `ord` -/
structure Reg (P : Program) (n : Nat) (ops : Array Oper) (ord : List Cand) (L : List DOper) (note : Bool) : Prop where
  ok : ∀ (i : Nat) (o : Oper), ops[i]? = some o → opOk n ops.toList o = true
  get : ∀ (p : Nat) (c : Cand), ord[p]? = some c → ∃ o, ops[c.bit]? = some o ∧ (befores ops.toList [])[c.bit]? = some c.bef ∧ c.dop = trOp P o ∧ c.dst = o.dst ∧ c.uses = usesOf ops.toList o ∧ trGuard ops.toList o.guard = some c.guard
  cover : ∀ (i : Nat), i < ops.size → ∃ (p : Nat) (c : Cand), ord[p]? = some c ∧ c.bit = i
  inj : ∀ (p q : Nat) (c c' : Cand), ord[p]? = some c → ord[q]? = some c' → c.bit = c'.bit → p = q
  pairs : ∀ (p q : Nat) (a c : Cand), p < q → ord[p]? = some a → ord[q]? = some c → pairOk a c = true
  ext : ∀ (q : Nat) (c : Cand), ord[q]? = some c → ∀ i, c.bef.testBit i = true → ∃ (p : Nat) (a : Cand), p < q ∧ ord[p]? = some a ∧ a.bit = i
  list : ∀ (q : Nat) (c : Cand), ord[q]? = some c → L[q]? = some { dst := c.dst, op := c.dop, guard := c.guard, haz := hazOf (ord.take q) c 0, note }
  len : L.length = ord.length
  noted : note = true ∨ ∀ (q : Nat) (c : Cand), ord[q]? = some c → hazOf (ord.take q) c 0 = []

theorem Step.widen {P : Program} {β β' : Emb} {g g' : Nat → Option DObj} {n n' m m' : Nat} {w w' : World} (h : Step P β g n w β' g' n' w') (h1 : m ≤ n) (h2 : n' ≤ m') : Step P β g m w β' g' m' w' :=
  { le := Nat.le_trans h1 (Nat.le_trans h.le h2), emb := h.emb, dom := fun k a b => by have := h.dom k a b; omega, rel := h.rel, size := h.size, os := h.os, tape := h.tape, output := h.output, frame := h.frame, fresh := h.fresh }
theorem Step.congr {P : Program} {β β' : Emb} {g g' g2 : Nat → Option DObj} {n n' : Nat} {w w' : World} (h : Step P β g n w β' g' n' w') (e : ∀ k, g2 k = g' k) : Step P β g n w β' g2 n' w' := by
  have : g2 = g' := funext e
  subst this
  exact h

section
variable {P : Program} {n : Nat} {ops : Array Oper} {ord : List Cand} {L : List DOper} {note : Bool} {call : CallFn}
variable {T : Nat → PT Value} {S : Nat → DS} {N : Nat → List Note}

/-- the canonical run's facts -/
structure Run (call : CallFn) (L : List DOper) (T : Nat → PT Value) (S : Nat → DS) (N : Nat → List Note) : Prop where
  start : N 0 = []
  step : ∀ (q : Nat) (l : DOper), L[q]? = some l → StepQ call l (N q) (T q) (S q) (T (q + 1)) (S (q + 1)) ∧ N (q + 1) = if l.note then N q ++ [noteOf l (T q) (S q) (S (q + 1))] else N q

def dw (ord : List Cand) (p x : Nat) : Bool := match ord[p]? with | some c => c.dst == some x | none => false
def mw (ord : List Cand) (S : Nat → DS) (N : Nat → List Note) (p k : Nat) : Bool :=
  match ord[p]? with
  | some c => (Nat.ble (S p).next k && Nat.blt k (S (p + 1)).next) || (isW c && (veil (S p) (N p) (hazOf (ord.take p) c 0)).wr k)
  | none => false

variable (R : Reg P n ops ord L note) (U : Run call L T S N) (hfr : CallFrame call)
include R U hfr

theorem Run.frame {q : Nat} {c : Cand} (hq : ord[q]? = some c) : (S q).next ≤ (S (q + 1)).next ∧ (S (q + 1)).vis = (S q).vis ∧ (S (q + 1)).wr = (S q).wr := by
  rcases (U.step q _ (R.list q c hq)).1 with ⟨_, v, s1, hd, _, hs⟩ | ⟨_, _, hs⟩
  · have hf := dop_frame hfr hd
    rw [hs]
    exact ⟨hf.next, rfl, rfl⟩
  · rw [hs]; exact ⟨Nat.le_refl _, rfl, rfl⟩
theorem Run.mono : ∀ {p q : Nat}, p ≤ q → q ≤ ord.length → (S p).next ≤ (S q).next ∧ (S q).vis = (S p).vis ∧ (S q).wr = (S p).wr := by
  intro p q hpq
  induction q with
  | zero => intro _; have : p = 0 := by omega
            subst this; exact ⟨Nat.le_refl _, rfl, rfl⟩
  | succ q ih =>
    intro hq
    rcases Nat.lt_or_ge q p with h | h
    · have : p = q + 1 := by omega
      subst this; exact ⟨Nat.le_refl _, rfl, rfl⟩
    · obtain ⟨h1, h2, h3⟩ := ih h (by omega)
      obtain ⟨c, hc⟩ : ∃ c, ord[q]? = some c := ⟨ord[q], List.getElem?_eq_getElem (by omega)⟩
      obtain ⟨g1, g2, g3⟩ := Run.frame R U hfr hc
      exact ⟨Nat.le_trans h1 g1, g2.trans h2, g3.trans h3⟩
/-- what is kept of a step -/
theorem Run.noteAt {p q : Nat} {a : Cand} (hn : note = true) (hpq : p < q) (hq : q ≤ ord.length) (ha : ord[p]? = some a) :
    noteAt (N q) p = noteOf { dst := a.dst, op := a.dop, guard := a.guard, haz := hazOf (ord.take p) a 0, note } (T p) (S p) (S (p + 1)) := by
  have _ := hfr
  have key : ∀ q, q ≤ ord.length → (N q).length = q ∧ ∀ p a, p < q → ord[p]? = some a → Dx.noteAt (N q) p = noteOf { dst := a.dst, op := a.dop, guard := a.guard, haz := hazOf (ord.take p) a 0, note } (T p) (S p) (S (p + 1)) := by
    intro q
    induction q with
    | zero => intro _; exact ⟨by rw [U.start]; rfl, fun p a h => by omega⟩
    | succ q ih =>
      intro hq
      obtain ⟨h1, h2⟩ := ih (by omega)
      obtain ⟨c, hc⟩ : ∃ c, ord[q]? = some c := ⟨ord[q], List.getElem?_eq_getElem (by omega)⟩
      have hs := (U.step q _ (R.list q c hc)).2
      simp only [hn, if_true] at hs
      rw [hs]
      refine ⟨by simp [h1], ?_⟩
      intro p a hp ha
      rw [noteAt_append, h1]
      by_cases e : p < q
      · rw [if_pos e]
        exact h2 p a e ha
      · have e2 : p = q := by omega
        subst e2
        rw [hc] at ha; cases ha
        rw [if_neg e, if_pos rfl]
        simp [hn]
  exact (key q hq).2 p a hpq ha
theorem Run.range {p : Nat} {a : Cand} (ha : ord[p]? = some a) (l : DOper) (hl : l = { dst := a.dst, op := a.dop, guard := a.guard, haz := hazOf (ord.take p) a 0, note }) :
    (noteOf l (T p) (S p) (S (p + 1))).lo = (S p).next ∧ (noteOf l (T p) (S p) (S (p + 1))).hi = (S (p + 1)).next := by
  have _ := hfr
  subst hl
  unfold noteOf
  rcases (U.step p _ (R.list p a ha)).1 with ⟨hw, _⟩ | ⟨hw, _, hs⟩
  · simp only at hw
    simp [hw]
  · simp only at hw
    simp [hw, hs]
theorem Run.hidden {q : Nat} {c : Cand} (hq : ord[q]? = some c) (hlt : q < ord.length) {k : Nat} :
    Dx.hidden (N q) (hazOf (ord.take q) c 0) k = true ↔ ∃ p a, p < q ∧ ord[p]? = some a ∧ hazard a c = true ∧ (S p).next ≤ k ∧ k < (S (p + 1)).next := by
  rw [hidden_iff]
  constructor
  · rintro ⟨p, hp, h1, h2⟩
    obtain ⟨p', a, e, ha, hh⟩ := (hazOf_mem _ _ _ _).1 hp
    have e' : p = p' := by omega
    subst e'
    rw [List.getElem?_take] at ha
    split at ha
    · rename_i hpq
      rcases R.noted with hn | hn
      · rw [Run.noteAt R U hfr hn hpq (by omega) ha] at h1 h2
        obtain ⟨r1, r2⟩ := Run.range R U hfr ha _ rfl
        rw [r1] at h1; rw [r2] at h2
        exact ⟨p, a, hpq, ha, hh, h1, h2⟩
      · rw [hn q c hq] at hp; cases hp
    · cases ha
  · rintro ⟨p, a, hpq, ha, hh, h1, h2⟩
    have hmem : p ∈ hazOf (ord.take q) c 0 := (hazOf_mem _ _ _ _).2 ⟨p, a, by omega, by rw [List.getElem?_take, if_pos hpq]; exact ha, hh⟩
    rcases R.noted with hn | hn
    · refine ⟨p, hmem, ?_⟩
      rw [Run.noteAt R U hfr hn hpq (by omega) ha]
      obtain ⟨r1, r2⟩ := Run.range R U hfr ha _ rfl
      rw [r1, r2]
      exact ⟨h1, h2⟩
    · rw [hn q c hq] at hmem; cases hmem
theorem Run.shielded {q p k : Nat} {c a : Cand} (hq : ord[q]? = some c) (hlt : q < ord.length) (hpq : p < q) (ha : ord[p]? = some a) (hh : hazard a c = true) (hw : wantedD (T p) a.guard = true) (hk : k ∈ foot (ev (T p)) (S p) a.dop) :
    Dx.shielded (N q) (hazOf (ord.take q) c 0) k = true := by
  have hmem : p ∈ hazOf (ord.take q) c 0 := (hazOf_mem _ _ _ _).2 ⟨p, a, by omega, by rw [List.getElem?_take, if_pos hpq]; exact ha, hh⟩
  rcases R.noted with hn | hn
  · rw [shielded_iff]
    refine ⟨p, hmem, ?_⟩
    rw [Run.noteAt R U hfr hn hpq (by omega) ha]
    simp only [noteOf, hw, if_true]
    exact hk
  · rw [hn q c hq] at hmem; cases hmem

/-- one that is no writer makes nothing, or one thing -/
theorem Run.plainStep {q : Nat} {c : Cand} (hq : ord[q]? = some c) (hW : isW c = false) :
    (S (q + 1)).heap = (S q).heap ∧ (S (q + 1)).next = (S q).next ∨ (isMk c = true ∧ wantedD (T q) c.guard = true ∧ ∃ x, (S (q + 1)).heap = ((S q).new x).heap ∧ (S (q + 1)).next = (S q).next + 1) := by
  have _ := hfr
  rcases (U.step q _ (R.list q c hq)).1 with ⟨hw, v, s1, hd, _, hs⟩ | ⟨_, _, hs⟩
  · simp only at hd
    unfold dop at hd
    have hW' : c.dop.cls ≠ .write ∧ c.dop.cls ≠ .call ∧ c.dop.cls ≠ .bad := by
      unfold isW at hW
      simp only [Bool.or_eq_false_iff, decide_eq_false_iff_not] at hW
      exact ⟨hW.1.1, hW.1.2, hW.2⟩
    cases hc : c.dop.cls <;> simp only [hc] at hd
    · split at hd
      · cases hd; left; rw [hs]; exact ⟨rfl, rfl⟩
      · cases hd
    · split at hd
      · cases hd; left; rw [hs]; exact ⟨rfl, rfl⟩
      · cases hd
    · obtain ⟨x, e1, _⟩ := dmake_local (s2 := veil (S q) (N q) (hazOf (ord.take q) c 0)) hd rfl (fun _ _ => rfl)
      right
      refine ⟨by simp [isMk, hc], hw, x, ?_, ?_⟩
      · rw [hs, e1]; rfl
      · rw [hs, e1]; rfl
    · exact absurd hc hW'.1
    · exact absurd hc hW'.2.1
    · exact absurd hc hW'.2.2
  · left; rw [hs]; exact ⟨rfl, rfl⟩

/-- what a step does not write it does not change -/
theorem Run.same {q k : Nat} {c : Cand} (hq : ord[q]? = some c) (hm : mw ord S N q k = false) : (S (q + 1)).get k = (S q).get k := by
  unfold mw at hm
  rw [hq] at hm
  simp only [Bool.or_eq_false_iff] at hm
  obtain ⟨hrange, hwr⟩ := hm
  obtain ⟨hnx, hvis, _⟩ := Run.frame R U hfr hq
  have hr : ¬ ((S q).next ≤ k ∧ k < (S (q + 1)).next) := by
    intro ⟨a, b⟩
    rw [Bool.and_eq_false_iff] at hrange
    rcases hrange with h | h
    · rw [Nat.ble_eq_true_of_le a] at h; cases h
    · rw [(blt_iff _ _).2 b] at h; cases h
  unfold DS.get
  rw [hvis]
  by_cases hk : k < (S q).next
  · have hk' : k < (S (q + 1)).next := by omega
    rw [(blt_iff _ _).2 hk, (blt_iff _ _).2 hk']
    have : (S (q + 1)).heap.get k = (S q).heap.get k := by
      by_cases hW : isW c = true
      · rw [hW, Bool.true_and] at hwr
        rcases (U.step q _ (R.list q c hq)).1 with ⟨_, v, s1, hd, _, hs⟩ | ⟨_, _, hs⟩
        · have hf := dop_frame hfr hd
          rw [hs]
          exact hf.keep k hk hwr
        · rw [hs]
      · have hW' : isW c = false := by simpa using hW
        rcases Run.plainStep R U hfr hq hW' with ⟨h1, _⟩ | ⟨_, _, x, h1, _⟩
        · rw [h1]
        · rw [h1]; simp [DS.new, PT.get_put, Nat.ne_of_lt hk]
    rw [this]
  · have hk' : ¬ k < (S (q + 1)).next := by omega
    have e1 : Nat.blt k (S q).next = false := by
      cases h : Nat.blt k (S q).next with
      | false => rfl
      | true => exact absurd ((blt_iff _ _).1 h) hk
    have e2 : Nat.blt k (S (q + 1)).next = false := by
      cases h : Nat.blt k (S (q + 1)).next with
      | false => rfl
      | true => exact absurd ((blt_iff _ _).1 h) hk'
    rw [e1, e2]; rfl
end
end Go.Dx
