/- The evaluator Dx: regions that draw their order: the whole. -/
import Derived.Test.YtnmajohhfcgddaaDxDraw5
set_option linter.unusedVariables false
set_option linter.unusedSimpArgs false
set_option linter.unusedSectionVars false
namespace Go.Dx
open Go

theorem mem_bit {l : List Cand} (hn : (l.map (·.bit)).Nodup) : ∀ (p q : Nat) (c c' : Cand), l[p]? = some c → l[q]? = some c' → c.bit = c'.bit → p = q := by
  intro p q c c' h1 h2 he
  have e1 : (l.map (·.bit))[p]? = some c.bit := by simp [h1]
  have e2 : (l.map (·.bit))[q]? = some c.bit := by simp [h2, he]
  have hp : p < (l.map (·.bit)).length := (List.getElem?_eq_some_iff.1 e1).1
  exact (List.getElem?_inj hp hn).1 (e1.trans e2.symm)

theorem reg_of {P : Program} {n : Nat} {ops : Array Oper} {L : List DOper} (h : trRegion P n ops true = some L) : ∃ ord note, Reg P n ops ord L note := by
  unfold trRegion at h
  simp only [Bool.not_true, Bool.false_eq_true, if_false] at h
  split at h
  · cases h
  rename_i hall
  simp only [Bool.not_eq_true', Bool.not_eq_false] at hall
  split at h
  · cases h
  rename_i ord harr
  split at h
  rotate_left
  · cases h
  rename_i hchk
  simp only [Bool.and_eq_true] at hchk
  simp only [Option.some.injEq] at h
  have hperm := arrange_perm harr
  obtain ⟨⟨r, hr1, hr2⟩, hbs⟩ := befores_spec ops.toList []
  have hblen : (befores ops.toList []).length = ops.toList.length := by rw [hr1]; simpa using hr2
  have hclen : (cands P ops.toList ops.toList (befores ops.toList []) 0).length = ops.toList.length := cands_length P _ _ _ _ hblen
  have hok : ∀ (i : Nat) (o : Oper), ops[i]? = some o → opOk n ops.toList o = true := by
    intro i o ho
    refine List.all_eq_true.1 hall o ?_
    have : ops.toList[i]? = some o := by rw [Array.getElem?_toList]; exact ho
    exact List.mem_of_getElem? this
  have hcget : ∀ (i : Nat) (o : Oper), ops.toList[i]? = some o → ∃ b, (befores ops.toList [])[i]? = some b ∧
      (cands P ops.toList ops.toList (befores ops.toList []) 0)[i]? = some { bit := i, bef := b, dop := trOp P o, dst := o.dst, uses := usesOf ops.toList o, guard := (trGuard ops.toList o.guard).getD none } := by
    intro i o ho
    have hi : i < (befores ops.toList []).length := by rw [hblen]; exact (List.getElem?_eq_some_iff.1 ho).1
    refine ⟨(befores ops.toList [])[i], List.getElem?_eq_getElem hi, ?_⟩
    have := cands_get P ops.toList ops.toList (befores ops.toList []) 0 i o _ ho (List.getElem?_eq_getElem hi)
    simpa using this
  have hnd : (ord.map (·.bit)).Nodup := by
    have h1 : (cands P ops.toList ops.toList (befores ops.toList []) 0).map (·.bit) = List.range ops.toList.length := by
      apply List.ext_getElem?
      intro i
      by_cases hi : i < ops.toList.length
      · obtain ⟨b, _, hb⟩ := hcget i _ (List.getElem?_eq_getElem hi)
        rw [List.getElem?_map, hb, List.getElem?_range hi]
        rfl
      · rw [List.getElem?_eq_none (by simp [hclen]; simpa using hi), List.getElem?_eq_none (by simpa using hi)]
    rw [← (hperm.map (·.bit)).nodup_iff, h1]
    exact List.nodup_range
  have hget : ∀ (p : Nat) (c : Cand), ord[p]? = some c → ∃ i o b, ops.toList[i]? = some o ∧ (befores ops.toList [])[i]? = some b ∧ c = { bit := i, bef := b, dop := trOp P o, dst := o.dst, uses := usesOf ops.toList o, guard := (trGuard ops.toList o.guard).getD none } := by
    intro p c hc
    have hm : c ∈ cands P ops.toList ops.toList (befores ops.toList []) 0 := hperm.mem_iff.2 (List.mem_of_getElem? hc)
    obtain ⟨i, hi, e⟩ := List.mem_iff_getElem.1 hm
    have hi' : i < ops.toList.length := by rw [← hclen]; exact hi
    obtain ⟨b, h1, h2⟩ := hcget i _ (List.getElem?_eq_getElem hi')
    refine ⟨i, _, b, List.getElem?_eq_getElem hi', h1, ?_⟩
    rw [List.getElem?_eq_getElem hi, e] at h2
    exact Option.some.inj h2
  refine ⟨ord, (withHaz [] ord).any fun x => !x.2.isEmpty, ?_⟩
  refine { ok := hok, get := ?_, cover := ?_, inj := mem_bit hnd, pairs := ?_, ext := ?_, list := ?_, len := ?_, noted := ?_ }
  · intro p c hc
    obtain ⟨i, o, b, h1, h2, rfl⟩ := hget p c hc
    rw [Array.getElem?_toList] at h1
    refine ⟨o, h1, h2, rfl, rfl, rfl, ?_⟩
    have hgd := hok i o h1
    cases hg : o.guard with
    | none => rfl
    | some jb =>
      obtain ⟨j, w⟩ := jb
      obtain ⟨g, hg2, _⟩ := opOk_guard hgd hg
      simp [trGuard, hg2]
  · intro i hi
    have hi' : i < ops.toList.length := by simpa using hi
    obtain ⟨b, h1, h2⟩ := hcget i _ (List.getElem?_eq_getElem hi')
    have hm := hperm.mem_iff.1 (List.mem_of_getElem? h2)
    obtain ⟨p, hp, e⟩ := List.mem_iff_getElem.1 hm
    exact ⟨p, _, by rw [List.getElem?_eq_getElem hp, e], rfl⟩
  · intro p q a c hpq ha hc
    exact pairsOk_get hchk.1 q c hc a (.inr ⟨p, hpq, ha⟩)
  · intro q c hc i hi
    rcases extendsOk_get hchk.2 q c hc i hi with h1 | h1
    · simp at h1
    · exact h1
  · intro q c hc
    rw [← h, List.getElem?_map, withHaz_get _ _ _ _ hc]
    simp
  · rw [← h]; simp [withHaz_length]
  · cases hn : (withHaz [] ord).any fun x => !x.2.isEmpty with
    | true => exact .inl rfl
    | false =>
      right
      intro q c hc
      have h1 := withHaz_get ord [] q c hc
      rw [List.nil_append] at h1
      have h2 := List.any_eq_false.1 hn _ (List.mem_of_getElem? h1)
      simpa using h2

theorem countP_lt {α : Type} {p p' : α → Bool} : ∀ {l : List α}, (∀ x, p' x = true → p x = true) → (∃ x ∈ l, p x = true ∧ p' x = false) → l.countP p' < l.countP p
  | [], _, ⟨x, h, _⟩ => by cases h
  | y :: l, h, ⟨x, hx, h1, h2⟩ => by
    have hle : l.countP p' ≤ l.countP p := List.countP_mono_left fun x _ => h x
    rcases List.mem_cons.1 hx with rfl | hx
    · simp [List.countP_cons, h1, h2]; omega
    · have := countP_lt (l := l) h ⟨x, hx, h1, h2⟩
      simp only [List.countP_cons]
      by_cases e : p' y = true
      · simp [e, h y e]; omega
      · simp [e]; omega

section
variable {P : Program} {n : Nat} {ops : Array Oper} {ord : List Cand} {L : List DOper} {note : Bool} {call : CallFn}
variable {T : Nat → PT Value} {S : Nat → DS} {N : Nat → List Note} {β0 : Emb} {w0 : World} {ds : List Deferred} {ro : Option Nat}

theorem ready_edge {listed : Array Bool} {i : Nat} (h : i ∈ Region.ready .any ops listed) : ∃ o, ops[i]? = some o ∧ listed.getD i true = false ∧ ∀ e ∈ anyEdges o, listed.getD e false = true := by
  unfold Region.ready at h
  rw [List.mem_filter, List.mem_range] at h
  obtain ⟨h1, h2⟩ := h
  simp only [Bool.and_eq_true, Bool.not_eq_true'] at h2
  obtain ⟨h2, h3⟩ := h2
  rw [Array.getElem?_eq_getElem h1] at h3
  simp only [Option.map_some, Option.getD_some] at h3
  refine ⟨ops[i], Array.getElem?_eq_getElem h1, h2, ?_⟩
  intro e he
  unfold anyEdges at he
  obtain ⟨x, hx, rfl⟩ := List.mem_map.1 he
  obtain ⟨hx1, hx2⟩ := List.mem_filter.1 hx
  have := Array.all_eq_true_iff_forall_mem.1 h3 x (by simpa using hx1)
  simpa [hx2] using this
theorem edge_ready {listed : Array Bool} {i : Nat} {o : Oper} (ho : ops[i]? = some o) (hl : listed.getD i true = false) (he : ∀ e ∈ anyEdges o, listed.getD e false = true) : i ∈ Region.ready .any ops listed := by
  unfold Region.ready
  rw [List.mem_filter, List.mem_range]
  obtain ⟨hlt, hget⟩ := Array.getElem?_eq_some_iff.1 ho
  refine ⟨hlt, ?_⟩
  simp only [Bool.and_eq_true, Bool.not_eq_true']
  refine ⟨hl, ?_⟩
  rw [ho]
  simp only [Option.map_some, Option.getD_some]
  rw [Array.all_eq_true_iff_forall_mem]
  intro x hx
  by_cases hb : Region.binds .any x = true
  · rw [he x.on]
    · simp
    · unfold anyEdges
      exact List.mem_map.2 ⟨x, List.mem_filter.2 ⟨by simpa using hx, hb⟩, rfl⟩
  · simp [hb]
theorem getD_both {listed : Array Bool} {i : Nat} (h : i < listed.size) : listed.getD i true = listed.getD i false := by
  simp [h]

theorem any_wp (R : Reg P n ops ord L note) (U : Run call L T S N) (hfr : CallFrame call) (hcall : CallOk P call) {Q : Exit → Act → World → Prop}
    (hQ : ∀ β' a' w', TRel β' n (T ord.length) a'.tmps → a'.defers = ds → Step P β0 (S 0).get (S 0).next w0 β' (S ord.length).get (S ord.length).next w' → Q .normal a' w') :
    ∀ (fuel : Nat) (listed : Array Bool) (β : Emb) (a : Act) (w : World), Inv P n ops ord T S N β0 w0 ds listed β a w → (List.range ops.size).countP (fun i => !listed.getD i true) ≤ fuel →
      wpAnyIn (FW ro) 0 P .any ops Q fuel listed a w := by
  have hnil : ∀ (listed : Array Bool) (β : Emb) (a : Act) (w : World), Inv P n ops ord T S N β0 w0 ds listed β a w → Region.ready .any ops listed = [] → Q .normal a w := by
    intro listed β a w I hr
    have hall : ∀ (p : Nat) (c : Cand), ord[p]? = some c → listed.getD c.bit false = true := by
      intro p
      induction p using Nat.strongRecOn with
      | _ p ih =>
        intro c hc
        obtain ⟨o, h1, h2, _⟩ := R.get p c hc
        cases hl : listed.getD c.bit false with
        | true => rfl
        | false =>
          have : c.bit ∈ Region.ready .any ops listed := by
            refine edge_ready h1 ?_ ?_
            · rw [getD_both (by rw [I.size]; exact (Array.getElem?_eq_some_iff.1 h1).1)]; exact hl
            · intro e he
              have hb := edge_bit (by rw [Array.getElem?_toList]; exact h1) h2 he
              obtain ⟨p', a', hp', ha', rfl⟩ := R.ext p c hc e hb
              exact ih p' hp' a' ha'
          rw [hr] at this; cases this
    have hlis : ∀ p, p < ord.length → lis ord listed p = true := by
      intro p hp
      unfold lis
      rw [List.getElem?_eq_getElem hp]
      exact hall p _ (List.getElem?_eq_getElem hp)
    have hT : ∀ x, VT ord T listed x = (T ord.length).get x := by
      intro x
      have := sel_eq (f := fun p => (T p).get x) (wr := fun p => dw ord p x) (S := lis ord listed) (q := ord.length) (m := ord.length) (fun p hp h => T_same R U hfr hp h) (fun p hp _ => by simp [hlis p hp, hp])
      rw [Nat.min_self] at this
      exact this
    have hS : ∀ k, VH ord S N listed k = (S ord.length).get k := by
      intro k
      have := sel_eq (f := fun p => (S p).get k) (wr := fun p => mw ord S N p k) (S := lis ord listed) (q := ord.length) (m := ord.length) (fun p hp h => by
        obtain ⟨a, ha⟩ : ∃ a, ord[p]? = some a := ⟨ord[p], List.getElem?_eq_getElem hp⟩
        exact Run.same R U hfr ha h) (fun p hp _ => by simp [hlis p hp, hp])
      rw [Nat.min_self] at this
      exact this
    refine hQ β a w ⟨I.tsize, fun x => ?_⟩ I.defers (I.step.congr fun k => (hS k).symm)
    rw [← hT x]; exact I.tmp x
  have hone : ∀ (fuel : Nat) (listed : Array Bool) (β : Emb) (a : Act) (w : World), Inv P n ops ord T S N β0 w0 ds listed β a w → (List.range ops.size).countP (fun i => !listed.getD i true) ≤ fuel + 1 →
      (∀ (listed : Array Bool) (β : Emb) (a : Act) (w : World), Inv P n ops ord T S N β0 w0 ds listed β a w → (List.range ops.size).countP (fun i => !listed.getD i true) ≤ fuel → wpAnyIn (FW ro) 0 P .any ops Q fuel listed a w) →
      ∀ i ∈ Region.ready .any ops listed, wpOpIn (FW ro) 0 P ops Q i (wpAnyIn (FW ro) 0 P .any ops Q fuel (listed.setIfInBounds i true)) a w := by
    intro fuel listed β a w I hc ih i hi
    obtain ⟨o, ho, hl, he⟩ := ready_edge hi
    have hilt : i < ops.size := (Array.getElem?_eq_some_iff.1 ho).1
    obtain ⟨q, c, hq, rfl⟩ := R.cover i hilt
    have hl' : listed.getD c.bit false = false := by rw [← getD_both (by rw [I.size]; exact hilt)]; exact hl
    have X := next_of R U hfr I.closed hq hl' ho he
    refine step_any R U hfr hcall I X ho he ?_
    intro β' a' w' I'
    refine ih _ β' a' w' I' ?_
    have : (List.range ops.size).countP (fun j => !(listed.setIfInBounds c.bit true).getD j true) < (List.range ops.size).countP (fun i => !listed.getD i true) := by
      refine countP_lt ?_ ⟨c.bit, List.mem_range.2 hilt, by rw [hl]; rfl, ?_⟩
      · intro x hx
        by_cases e : c.bit = x
        · subst e; simp [hl]
        · simpa [Array.getElem?_setIfInBounds, e] using hx
      · have : c.bit < listed.size := by rw [I.size]; exact hilt
        simp [this]
    omega
  intro fuel
  induction fuel with
  | zero =>
    intro listed β a w I hc
    have hr : Region.ready .any ops listed = [] := by
      cases h : Region.ready .any ops listed with
      | nil => rfl
      | cons i r =>
        exfalso
        have hi : i ∈ Region.ready .any ops listed := by rw [h]; simp
        obtain ⟨o, ho, hl, he⟩ := ready_edge hi
        have h0 : (List.range ops.size).countP (fun i => !listed.getD i true) = 0 := by omega
        have := List.countP_eq_zero.1 h0 i (List.mem_range.2 (Array.getElem?_eq_some_iff.1 ho).1)
        rw [hl] at this
        exact this rfl
    exact ⟨hr, hnil listed β a w I hr⟩
  | succ fuel ih =>
    intro listed β a w I hc
    exact ⟨hnil listed β a w I, hone fuel listed β a w I hc ih⟩
end

/-- A REGION THAT DRAWS. -/
theorem dops_draw {P : Program} {n id : Nat} {ops : Array Oper} {L : List DOper} {call : CallFn} {t t' : PT Value} {s s' : DS} {β : Emb} {a : Act} {w : World} {ro : Option Nat} {Q : Exit → Act → World → Prop}
    (hm : P.follows .mixedOrders = true) (hcall : CallOk P call) (hfr : CallFrame call) (htr : trRegion P n ops true = some L) (h : dops call L [] t s = some (t', s'))
    (ht : TRel β n t a.tmps) (hR : Rel P β s.get w) (hf : fresh β s s')
    (hQ : ∀ β' a' w', TRel β' n t' a'.tmps → a'.defers = a.defers → Step P β s.get s.next w β' s'.get s'.next w' → Q .normal a' w') :
    (Code.region id ops true).wpIn (FW ro) 0 P Q a w := by
  obtain ⟨ord, note, R⟩ := reg_of htr
  obtain ⟨T, S, N, hT, hS, hN, hT', hS', hst⟩ := trace_ex hfr L [] t s h
  have U : Run call L T S N := ⟨hN, hst⟩
  rw [R.len] at hT' hS'
  refine wpIn_region_any hm ?_
  have hlis : ∀ p, lis ord (Array.replicate ops.size false) p = false := by
    intro p
    unfold lis
    split
    · simp only [Array.getD_eq_getD_getElem?, Array.getElem?_replicate]
      split <;> rfl
    · rfl
  refine any_wp (T := T) (S := S) (N := N) (β0 := β) (w0 := w) (ds := a.defers) R U hfr hcall ?_ ops.size _ β a _ ?_ ?_
  · rw [hT', hS', hS]
    exact hQ
  · have hmono := (Run.mono R U hfr (Nat.zero_le ord.length) (Nat.le_refl _)).1
    have h0T : ∀ x, VT ord T (Array.replicate ops.size false) x = (T 0).get x := by
      intro x
      have := sel_eq (f := fun p => (T p).get x) (wr := fun p => dw ord p x) (S := lis ord (Array.replicate ops.size false)) (q := 0) (m := ord.length) (fun p hp h => T_same R U hfr hp h) (fun p hp _ => by simp [hlis p])
      rw [Nat.min_zero] at this
      exact this
    have h0S : ∀ k, VH ord S N (Array.replicate ops.size false) k = (S 0).get k := by
      intro k
      have := sel_eq (f := fun p => (S p).get k) (wr := fun p => mw ord S N p k) (S := lis ord (Array.replicate ops.size false)) (q := 0) (m := ord.length) (fun p hp h => by
        obtain ⟨a, ha⟩ : ∃ a, ord[p]? = some a := ⟨ord[p], List.getElem?_eq_getElem hp⟩
        exact Run.same R U hfr ha h) (fun p hp _ => by simp [hlis p])
      rw [Nat.min_zero] at this
      exact this
    refine { size := by simp, closed := ?_, tsize := ht.1, tmp := ?_, step := ?_, fresh := ?_, defers := rfl }
    · intro i o _ hl
      simp only [Array.getD_eq_getD_getElem?, Array.getElem?_replicate] at hl
      split at hl <;> simp at hl
    · intro x
      rw [h0T x, hT]
      exact ht.2 x
    · refine Step.congr ?_ h0S
      rw [hS]
      refine Step.widen (Step.same hR rfl rfl rfl rfl) (Nat.le_refl _) ?_
      rw [← hS]; exact hmono
    · intro p c hc _ k h1 h2
      have hp := (List.getElem?_eq_some_iff.1 hc).1
      have m1 := (Run.mono R U hfr (Nat.zero_le p) (by omega)).1
      have m2 := (Run.mono R U hfr (show p + 1 ≤ ord.length from by omega) (Nat.le_refl _)).1
      rw [hS] at m1
      rw [hS'] at m2
      exact hf k (by omega) (by omega)
  · have := List.countP_le_length (p := fun i => !(Array.replicate ops.size false).getD i true) (l := List.range ops.size)
    simpa using this
end Go.Dx
