/- The evaluator Dx: regions that draw their order: the theorem. -/
import Derived.Test.YtnmajohhfcgddaaDxDraw3
set_option linter.unusedVariables false
set_option linter.unusedSimpArgs false
set_option linter.unusedSectionVars false
namespace Go.Dx
open Go

theorem orBits_has : ∀ {l : List Nat} {x i : Nat}, x ∈ l → x.testBit i = true → (orBits l).testBit i = true
  | y :: l, x, i, h, hi => by
    simp only [orBits, Nat.testBit_or, Bool.or_eq_true]
    rcases List.mem_cons.1 h with rfl | h
    · exact .inl hi
    · exact .inr (orBits_has h hi)
theorem edge_bit {l : List Oper} {j : Nat} {o : Oper} (ho : l[j]? = some o) {b : Nat} (hb : (befores l [])[j]? = some b) {e : Nat} (he : e ∈ anyEdges o) : b.testBit e = true := by
  have h := (befores_spec l []).2 j o ho
  simp only [List.length_nil, Nat.zero_add] at h
  rw [h] at hb
  cases hb
  refine orBits_has (List.mem_map.2 ⟨e, he, rfl⟩) ?_
  rw [Nat.testBit_or, Nat.testBit_two_pow_self, Bool.true_or]

def lis (ord : List Cand) (listed : Array Bool) (p : Nat) : Bool := match ord[p]? with | some c => listed.getD c.bit false | none => false

section
variable {P : Program} {n : Nat} {ops : Array Oper} {ord : List Cand} {L : List DOper} {note : Bool} {call : CallFn}
variable {T : Nat → PT Value} {S : Nat → DS} {N : Nat → List Note}

abbrev VT (ord : List Cand) (T : Nat → PT Value) (listed : Array Bool) (x : Nat) : Option Value := sel (fun p => (T p).get x) (fun p => dw ord p x) (lis ord listed) ord.length
abbrev VH (ord : List Cand) (S : Nat → DS) (N : Nat → List Note) (listed : Array Bool) (k : Nat) : Option DObj := sel (fun p => (S p).get k) (fun p => mw ord S N p k) (lis ord listed) ord.length

structure Inv (P : Program) (n : Nat) (ops : Array Oper) (ord : List Cand) (T : Nat → PT Value) (S : Nat → DS) (N : Nat → List Note) (β0 : Emb) (w0 : World) (ds : List Deferred) (listed : Array Bool) (β : Emb) (a : Act) (w : World) : Prop where
  size : listed.size = ops.size
  closed : ∀ (i : Nat) (o : Oper), ops[i]? = some o → listed.getD i false = true → ∀ e ∈ anyEdges o, listed.getD e false = true
  tsize : a.tmps.size = n
  tmp : ∀ x, VRel β ((VT ord T listed x).getD undefD) (a.tmps.getD x undef)
  step : Step P β0 (S 0).get (S 0).next w0 β (VH ord S N listed) (S ord.length).next w
  fresh : ∀ (p : Nat) (c : Cand), ord[p]? = some c → listed.getD c.bit false = false → ∀ k, (S p).next ≤ k → k < (S (p + 1)).next → β k = none
  defers : a.defers = ds

variable (R : Reg P n ops ord L note) (U : Run call L T S N) (hfr : CallFrame call)
include R U hfr

/-- one that may come next, and how the others stand to it -/
structure Next (ops : Array Oper) (ord : List Cand) (listed : Array Bool) (q : Nat) (c : Cand) : Prop where
  at_ : ord[q]? = some c
  un : listed.getD c.bit false = false
  lt : ∀ (p : Nat) (a : Cand), p < q → ord[p]? = some a → ordered a c = true → listed.getD a.bit false = true
  gt : ∀ (p : Nat) (a : Cand), q < p → ord[p]? = some a → ordered c a = true → listed.getD a.bit false = false

theorem next_of {listed : Array Bool} (hcl : ∀ (i : Nat) (o : Oper), ops[i]? = some o → listed.getD i false = true → ∀ e ∈ anyEdges o, listed.getD e false = true)
    {q : Nat} {c : Cand} (hq : ord[q]? = some c) (hun : listed.getD c.bit false = false) {o : Oper} (ho : ops[c.bit]? = some o) (hedge : ∀ e ∈ anyEdges o, listed.getD e false = true) : Next ops ord listed q c := by
  have hcl' : ∀ (j : Nat) (o : Oper), ops.toList[j]? = some o → listed.getD j false = true → ∀ i ∈ anyEdges o, listed.getD i false = true := fun j o h => hcl j o (by rwa [Array.getElem?_toList] at h)
  have hbef : ∀ (p : Nat) (a : Cand), ord[p]? = some a → (∀ oa, ops[a.bit]? = some oa → ∀ e ∈ anyEdges oa, listed.getD e false = true) → ∀ i, a.bef.testBit i = true → listed.getD i false = true := by
    intro p a ha he i hi
    obtain ⟨oa, h1, h2, _⟩ := R.get p a ha
    exact closed_bef (S := fun i => listed.getD i false = true) hcl' a.bit oa (by rw [Array.getElem?_toList]; exact h1) (he oa h1) a.bef h2 i hi
  have hc : ∀ i, c.bef.testBit i = true → listed.getD i false = true := hbef q c hq fun oa h => by rw [ho] at h; cases h; exact hedge
  refine ⟨hq, hun, ?_, ?_⟩
  · intro p a hp ha hord
    unfold ordered at hord
    rw [Bool.or_eq_true] at hord
    rcases hord with h | h
    · exact hc _ h
    · obtain ⟨p', a', h1, h2, h3⟩ := R.ext p a ha _ h
      have := R.inj p' q a' c h2 hq h3
      omega
  · intro p a hp ha hord
    unfold ordered at hord
    rw [Bool.or_eq_true] at hord
    rcases hord with h | h
    · cases hl : listed.getD a.bit false with
      | false => rfl
      | true =>
        have := hbef p a ha (fun oa h1 => hcl a.bit oa h1 hl) _ h
        rw [hun] at this; cases this
    · obtain ⟨p', a', h1, h2, h3⟩ := R.ext q c hq _ h
      have := R.inj p' p a' a h2 ha h3
      omega

theorem T_same {p x : Nat} (hp : p < ord.length) (h : dw ord p x = false) : (T (p + 1)).get x = (T p).get x := by
  obtain ⟨a, ha⟩ : ∃ a, ord[p]? = some a := ⟨ord[p], List.getElem?_eq_getElem hp⟩
  unfold dw at h
  rw [ha] at h
  have hne : a.dst ≠ some x := by intro e; simp [e] at h
  have hput : ∀ v, (putT (T p) a.dst v).get x = (T p).get x := by
    intro v
    cases hd : a.dst with
    | none => rfl
    | some d =>
      simp only [putT, PT.get_put]
      have : ¬ x = d := by rintro rfl; exact hne hd
      simp [this]
  rcases (U.step p _ (R.list p a ha)).1 with ⟨_, v, s1, _, ht, _⟩ | ⟨_, ht, _⟩
  · rw [ht]; exact hput v
  · rw [ht]; exact hput _

variable {listed : Array Bool} {q : Nat} {c : Cand} (X : Next ops ord listed q c)
include X

theorem lis_lt {p : Nat} {a : Cand} (hp : p < q) (ha : ord[p]? = some a) (h : ordered a c = true) : lis ord listed p = true := by
  unfold lis; rw [ha]; exact X.lt p a hp ha h
theorem lis_gt {p : Nat} {a : Cand} (hp : q < p) (ha : ord[p]? = some a) (h : ordered c a = true) : lis ord listed p = false := by
  unfold lis; rw [ha]; exact X.gt p a hp ha h
theorem lis_at : lis ord listed q = false := by unfold lis; rw [X.at_]; exact X.un

/-- it reads what it read in the canonical run: temporaries -/
theorem RT {x : Nat} (hx : x ∈ c.uses) (hlt : q < ord.length) : VT ord T listed x = (T q).get x := by
  have := sel_eq (f := fun p => (T p).get x) (wr := fun p => dw ord p x) (S := lis ord listed) (q := q) (m := ord.length) (fun p hp h => T_same R U hfr hp h) ?_
  · rw [show min ord.length q = q from by omega] at this; exact this
  · intro p hp hw
    obtain ⟨a, ha⟩ : ∃ a, ord[p]? = some a := ⟨ord[p], List.getElem?_eq_getElem hp⟩
    unfold dw at hw
    rw [ha] at hw
    have hd : a.dst = some x := eq_of_beq hw
    have hmem : memN c.uses x = true := (memN_iff _ _).2 hx
    rcases Nat.lt_trichotomy p q with h | h | h
    · have hpr := R.pairs p q a c h ha X.at_
      unfold pairOk at hpr
      rw [Bool.or_eq_true, Bool.and_eq_true] at hpr
      rcases hpr with hpr | ⟨hpr, _⟩
      · simp [lis_lt R U hfr X h ha hpr, h]
      · unfold disjointT at hpr
        rw [hd] at hpr
        simp [hmem] at hpr
    · subst h
      simp [lis_at R U hfr X]
    · have hpr := R.pairs q p c a h X.at_ ha
      unfold pairOk at hpr
      rw [Bool.or_eq_true, Bool.and_eq_true] at hpr
      rcases hpr with hpr | ⟨hpr, _⟩
      · simp [lis_gt R U hfr X h ha hpr]; omega
      · unfold disjointT at hpr
        rw [hd] at hpr
        simp [hmem] at hpr
/-- .. and memory -/
theorem RH {k : Nat} (hlt : q < ord.length) (hk : (isW c = true ∧ hidden (N q) (hazOf (ord.take q) c 0) k = false) ∨
      (k ∈ foot (ev (T q)) (S q) c.dop ∧ wantedD (T q) c.guard = true ∧ hidden (N q) (hazOf (ord.take q) c 0) k = false ∧ k < (S q).next)) : VH ord S N listed k = (S q).get k := by
  have := sel_eq (f := fun p => (S p).get k) (wr := fun p => mw ord S N p k) (S := lis ord listed) (q := q) (m := ord.length) (fun p hp h => by
    obtain ⟨a, ha⟩ : ∃ a, ord[p]? = some a := ⟨ord[p], List.getElem?_eq_getElem hp⟩
    exact Run.same R U hfr ha h) ?_
  · rw [show min ord.length q = q from by omega] at this; exact this
  · intro p hp hw
    obtain ⟨a, ha⟩ : ∃ a, ord[p]? = some a := ⟨ord[p], List.getElem?_eq_getElem hp⟩
    unfold mw at hw
    rw [ha] at hw
    simp only [Bool.or_eq_true, Bool.and_eq_true] at hw
    have hrd : isW c = true ∨ isRd c = true := by
      rcases hk with hk | hk
      · exact .inl hk.1
      · exact .inr (foot_rd hk.1)
    have hnh : hidden (N q) (hazOf (ord.take q) c 0) k = false := by
      rcases hk with hk | hk
      · exact hk.2
      · exact hk.2.2.1
    rcases Nat.lt_trichotomy p q with h | h | h
    · by_cases hor : ordered a c = true
      · simp [lis_lt R U hfr X h ha hor, h]
      · exfalso
        have hpr := R.pairs p q a c h ha X.at_
        unfold pairOk at hpr
        simp only [hor, Bool.false_or, Bool.and_eq_true] at hpr
        have haW : isW a = false := by simpa using hpr.2
        rcases hw with ⟨h1, h2⟩ | ⟨h1, _⟩
        · have h1 := Nat.le_of_ble_eq_true h1
          have h2 := (blt_iff _ _).1 h2
          rcases Run.plainStep R U hfr ha haW with ⟨_, e⟩ | ⟨hmk, _, _⟩
          · omega
          · have hhz : hazard a c = true := by
              unfold hazard
              have : ordered a c = false := by simpa using hor
              rw [this]
              rcases hrd with hrd | hrd <;> simp [hmk, hrd]
            have := (Run.hidden R U hfr X.at_ hlt).2 ⟨p, a, h, ha, hhz, h1, h2⟩
            rw [hnh] at this; cases this
        · rw [haW] at h1; cases h1
    · subst h
      simp [lis_at R U hfr X]
    · by_cases hor : ordered c a = true
      · simp [lis_gt R U hfr X h ha hor]; omega
      · exfalso
        have hpr := R.pairs q p c a h X.at_ ha
        unfold pairOk at hpr
        simp only [hor, Bool.false_or, Bool.and_eq_true] at hpr
        have hcW : isW c = false := by simpa using hpr.2
        rcases hk with ⟨hk, _⟩ | ⟨hk, hwt, _, hkn⟩
        · rw [hcW] at hk; cases hk
        · have hrd := foot_rd hk
          rcases hw with ⟨h1, h2⟩ | ⟨h1, h2⟩
          · have h1 := Nat.le_of_ble_eq_true h1
            have := (Run.mono R U hfr (show q ≤ p from by omega) (by omega)).1
            omega
          · have hhz : hazard c a = true := by
              unfold hazard
              have : ordered c a = false := by simpa using hor
              rw [this]
              simp [hrd, h1]
            have := Run.shielded R U hfr ha hp h X.at_ hhz hwt hk
            simp only [veil] at h2
            rw [this] at h2
            simp at h2

/-- behind it: temporaries -/
theorem WT {x : Nat} {listed' : Array Bool} (hlt : q < ord.length) (hl : ∀ p a, ord[p]? = some a → listed'.getD a.bit false = if p = q then true else listed.getD a.bit false) :
    VT ord T listed' x = if c.dst = some x then (T (q + 1)).get x else VT ord T listed x := by
  have hlis : ∀ p, p < ord.length → lis ord listed' p = if p = q then true else lis ord listed p := by
    intro p hp
    obtain ⟨a, ha⟩ : ∃ a, ord[p]? = some a := ⟨ord[p], List.getElem?_eq_getElem hp⟩
    unfold lis; rw [ha]; exact hl p a ha
  by_cases hd : c.dst = some x
  · rw [if_pos hd]
    have := sel_eq (f := fun p => (T p).get x) (wr := fun p => dw ord p x) (S := lis ord listed') (q := q + 1) (m := ord.length) (fun p hp h => T_same R U hfr hp h) ?_
    · rw [show min ord.length (q + 1) = q + 1 from by omega] at this; exact this
    · intro p hp hw
      obtain ⟨a, ha⟩ : ∃ a, ord[p]? = some a := ⟨ord[p], List.getElem?_eq_getElem hp⟩
      unfold dw at hw
      rw [ha] at hw
      have hda : a.dst = some x := eq_of_beq hw
      rw [hlis p hp]
      rcases Nat.lt_trichotomy p q with h | h | h
      · have hpr := R.pairs p q a c h ha X.at_
        unfold pairOk at hpr
        rw [Bool.or_eq_true, Bool.and_eq_true] at hpr
        rcases hpr with hpr | ⟨hpr, _⟩
        · rw [if_neg (by omega), lis_lt R U hfr X h ha hpr]; simp; omega
        · unfold disjointT at hpr
          rw [hda, hd] at hpr
          simp at hpr
      · subst h; simp
      · have hpr := R.pairs q p c a h X.at_ ha
        unfold pairOk at hpr
        rw [Bool.or_eq_true, Bool.and_eq_true] at hpr
        rcases hpr with hpr | ⟨hpr, _⟩
        · rw [if_neg (by omega), lis_gt R U hfr X h ha hpr]; simp; omega
        · unfold disjointT at hpr
          rw [hda, hd] at hpr
          simp at hpr
  · rw [if_neg hd]
    refine sel_same fun p hp hw => ?_
    rw [hlis p hp]
    by_cases e : p = q
    · subst e
      unfold dw at hw
      rw [X.at_] at hw
      exact absurd (eq_of_beq hw) hd
    · rw [if_neg e]

/-- two that may stand either way round write nothing in common -/
theorem noWW {p k : Nat} (hlt : q < ord.length) (hp : p < ord.length) (hq : mw ord S N q k = true) (hpw : mw ord S N p k = true) (hne : p ≠ q) : lis ord listed p = true ↔ p < q := by
  obtain ⟨a, ha⟩ : ∃ a, ord[p]? = some a := ⟨ord[p], List.getElem?_eq_getElem hp⟩
  unfold mw at hq hpw
  rw [X.at_] at hq
  rw [ha] at hpw
  simp only [Bool.or_eq_true, Bool.and_eq_true] at hq hpw
  rcases Nat.lt_or_gt_of_ne hne with h | h
  · by_cases hor : ordered a c = true
    · simp [lis_lt R U hfr X h ha hor, h]
    · exfalso
      have hpr := R.pairs p q a c h ha X.at_
      unfold pairOk at hpr
      simp only [hor, Bool.false_or, Bool.and_eq_true] at hpr
      have haW : isW a = false := by simpa using hpr.2
      rcases hpw with ⟨h1, h2⟩ | ⟨h1, _⟩
      · have h1 := Nat.le_of_ble_eq_true h1
        have h2 := (blt_iff _ _).1 h2
        rcases Run.plainStep R U hfr ha haW with ⟨_, e⟩ | ⟨hmk, _, _⟩
        · omega
        · rcases hq with ⟨h3, _⟩ | ⟨h3, h4⟩
          · have h3 := Nat.le_of_ble_eq_true h3
            have := (Run.mono R U hfr (show p + 1 ≤ q from by omega) (by omega)).1
            omega
          · have hhz : hazard a c = true := by
              unfold hazard
              have : ordered a c = false := by simpa using hor
              rw [this]
              simp [hmk, h3]
            have := (Run.hidden R U hfr X.at_ hlt).2 ⟨p, a, h, ha, hhz, h1, h2⟩
            simp only [veil] at h4
            rw [this] at h4
            simp at h4
      · rw [haW] at h1; cases h1
  · by_cases hor : ordered c a = true
    · simp [lis_gt R U hfr X h ha hor]; omega
    · exfalso
      have hpr := R.pairs q p c a h X.at_ ha
      unfold pairOk at hpr
      simp only [hor, Bool.false_or, Bool.and_eq_true] at hpr
      have hcW : isW c = false := by simpa using hpr.2
      rcases hq with ⟨h1, h2⟩ | ⟨h1, _⟩
      · have h1 := Nat.le_of_ble_eq_true h1
        have h2 := (blt_iff _ _).1 h2
        rcases Run.plainStep R U hfr X.at_ hcW with ⟨_, e⟩ | ⟨hmk, _, _⟩
        · omega
        · rcases hpw with ⟨h3, _⟩ | ⟨h3, h4⟩
          · have h3 := Nat.le_of_ble_eq_true h3
            have := (Run.mono R U hfr (show q + 1 ≤ p from by omega) (by omega)).1
            omega
          · have hhz : hazard c a = true := by
              unfold hazard
              have : ordered c a = false := by simpa using hor
              rw [this]
              simp [hmk, h3]
            have := (Run.hidden R U hfr ha hp).2 ⟨q, c, h, X.at_, hhz, h1, h2⟩
            simp only [veil] at h4
            rw [this] at h4
            simp at h4
      · rw [hcW] at h1; cases h1
/-- .. and memory -/
theorem WH {k : Nat} {listed' : Array Bool} (hlt : q < ord.length) (hl : ∀ p a, ord[p]? = some a → listed'.getD a.bit false = if p = q then true else listed.getD a.bit false) :
    VH ord S N listed' k = if mw ord S N q k then (S (q + 1)).get k else VH ord S N listed k := by
  have hlis : ∀ p, p < ord.length → lis ord listed' p = if p = q then true else lis ord listed p := by
    intro p hp
    obtain ⟨a, ha⟩ : ∃ a, ord[p]? = some a := ⟨ord[p], List.getElem?_eq_getElem hp⟩
    unfold lis; rw [ha]; exact hl p a ha
  by_cases hd : mw ord S N q k = true
  · rw [if_pos hd]
    have := sel_eq (f := fun p => (S p).get k) (wr := fun p => mw ord S N p k) (S := lis ord listed') (q := q + 1) (m := ord.length) (fun p hp h => by
      obtain ⟨a, ha⟩ : ∃ a, ord[p]? = some a := ⟨ord[p], List.getElem?_eq_getElem hp⟩
      exact Run.same R U hfr ha h) ?_
    · rw [show min ord.length (q + 1) = q + 1 from by omega] at this; exact this
    · intro p hp hw
      rw [hlis p hp]
      by_cases e : p = q
      · subst e; simp
      · rw [if_neg e, noWW R U hfr X hlt hp hd hw e]
        omega
  · rw [if_neg hd]
    refine sel_same fun p hp hw => ?_
    rw [hlis p hp]
    by_cases e : p = q
    · subst e; exact absurd hw hd
    · rw [if_neg e]
theorem VH_at {k : Nat} (hlt : q < ord.length) (hd : mw ord S N q k = true) : VH ord S N listed k = (S q).get k := by
  have := sel_eq (f := fun p => (S p).get k) (wr := fun p => mw ord S N p k) (S := lis ord listed) (q := q) (m := ord.length) (fun p hp h => by
    obtain ⟨a, ha⟩ : ∃ a, ord[p]? = some a := ⟨ord[p], List.getElem?_eq_getElem hp⟩
    exact Run.same R U hfr ha h) ?_
  · rw [show min ord.length q = q from by omega] at this; exact this
  · intro p hp hw
    by_cases e : p = q
    · subst e; simp [lis_at R U hfr X]
    · exact noWW R U hfr X hlt hp hd hw e
end
end Go.Dx
