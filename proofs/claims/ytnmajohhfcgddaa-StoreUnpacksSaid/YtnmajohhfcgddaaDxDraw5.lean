/- The evaluator Dx: regions that draw their order: the theorem. -/
import Derived.Test.YtnmajohhfcgddaaDxDraw4
set_option linter.unusedVariables false
set_option linter.unusedSimpArgs false
set_option linter.unusedSectionVars false
namespace Go.Dx
open Go

theorem Step.trans' {P : Program} {β β' β'' : Emb} {g g' g'' : Nat → Option DObj} {n0 a b M : Nat} {w w' w'' : World} (h : Step P β g n0 w β' g' M w') (h' : Step P β' g' a w' β'' g'' b w'') (h1 : n0 ≤ a) (h2 : b ≤ M) :
    Step P β g n0 w β'' g'' M w'' where
  le := h.le
  emb := h.emb.trans h'.emb
  dom := fun k hk hk' => by
    by_cases e : β' k = none
    · have := h'.dom k e hk'; omega
    · exact h.dom k hk e
  rel := h'.rel
  size := Nat.le_trans h.size h'.size
  os := h'.os.trans h.os
  tape := h'.tape.trans h.tape
  output := h'.output.trans h.output
  frame := fun r hr hk => by
    refine (h'.frame r (Nat.lt_of_lt_of_le hr h.size) fun k o l ho hown hl e => ?_).trans (h.frame r hr hk)
    rcases h.fresh k o l ho hl with hlt | ⟨k0, o0, l0, h0, hl0, hb, hw⟩
    · omega
    · exact hk k0 o0 l0 h0 (hw hown) hl0 (hb.trans e)
  fresh := fun k o l ho hl => by
    rcases h'.fresh k o l ho hl with hlt | ⟨k1, o1, l1, h1, hl1, hb1, hw1⟩
    · exact .inl (Nat.le_trans h.size hlt)
    · rcases h.fresh k1 o1 l1 h1 hl1 with hlt | ⟨k0, o0, l0, h0, hl0, hb0, hw0⟩
      · exact .inl (by omega)
      · exact .inr ⟨k0, o0, l0, h0, hl0, hb0.trans hb1, fun hh => hw0 (hw1 hh)⟩

theorem boolIf {α : Type} (a b h : Bool) (x : Option α) : (if a && (b && !h) then x else none) = if h then none else if a && b then x else none := by
  cases a <;> cases b <;> cases h <;> rfl
theorem isW_cls {c : Cand} (h : isW c = false) : c.dop.cls = .pure ∨ c.dop.cls = .read ∨ c.dop.cls = .make := by
  unfold isW at h
  simp only [Bool.or_eq_false_iff, decide_eq_false_iff_not] at h
  cases hc : c.dop.cls <;> simp_all
theorem ev_uses {P : Program} {ops : List Oper} {o : Oper} {t : Nat} (h : Operand.tmp t ∈ o.op.operands) : t ∈ usesOf ops o := by
  unfold usesOf
  refine List.mem_append_left _ (List.mem_filterMap.2 ⟨.tmp t, by simpa using h, rfl⟩)

section
variable {P : Program} {n : Nat} {ops : Array Oper} {ord : List Cand} {L : List DOper} {note : Bool} {call : CallFn}
variable {T : Nat → PT Value} {S : Nat → DS} {N : Nat → List Note} {β0 : Emb} {w0 : World} {ds : List Deferred} {ro : Option Nat}

/-- ONE MORE, WHICHEVER MAY COME NEXT. -/
theorem step_any (R : Reg P n ops ord L note) (U : Run call L T S N) (hfr : CallFrame call) (hcall : CallOk P call) {listed : Array Bool} {β : Emb} {a : Act} {w : World} {q : Nat} {c : Cand} {o : Oper} {K : Act → World → Prop} {Q : Exit → Act → World → Prop}
    (I : Inv P n ops ord T S N β0 w0 ds listed β a w) (X : Next ops ord listed q c) (ho : ops[c.bit]? = some o) (hedge : ∀ e ∈ anyEdges o, listed.getD e false = true)
    (hK : ∀ β' a' w', Inv P n ops ord T S N β0 w0 ds (listed.setIfInBounds c.bit true) β' a' w' → K a' w') : wpOpIn (FW ro) 0 P ops Q c.bit K a w := by
  have hlt : q < ord.length := (List.getElem?_eq_some_iff.1 X.at_).1
  obtain ⟨o', ho', hbef, hdop, hdst, huses, hguard⟩ := R.get q c X.at_
  rw [ho] at ho'; cases ho'
  have hok := R.ok c.bit o ho
  have hbit : c.bit < listed.size := by rw [I.size]; exact (Array.getElem?_eq_some_iff.1 ho).1
  have hl : ∀ p a', ord[p]? = some a' → (listed.setIfInBounds c.bit true).getD a'.bit false = if p = q then true else listed.getD a'.bit false := by
    intro p a' ha'
    by_cases e : p = q
    · subst e
      rw [X.at_] at ha'; cases ha'
      simp [hbit]
    · have hne : c.bit ≠ a'.bit := fun e' => e (R.inj p q a' c ha' X.at_ e'.symm)
      simp [e, Array.getElem?_setIfInBounds, hne]
  have hclosed : ∀ (i : Nat) (o : Oper), ops[i]? = some o → (listed.setIfInBounds c.bit true).getD i false = true → ∀ e ∈ anyEdges o, (listed.setIfInBounds c.bit true).getD e false = true := by
    have hup : ∀ e, listed.getD e false = true → (listed.setIfInBounds c.bit true).getD e false = true := by
      intro e he
      by_cases h : c.bit = e
      · subst h; simp [hbit]
      · simpa [Array.getElem?_setIfInBounds, h] using he
    intro i oi hi hli e he
    by_cases h : c.bit = i
    · subst h
      rw [ho] at hi; cases hi
      exact hup e (hedge e he)
    · refine hup e (I.closed i oi hi ?_ e he)
      simpa [Array.getElem?_setIfInBounds, h] using hli
  -- operands and the guard read what they read in the canonical run
  have htmp : ∀ x, x ∈ c.uses → VRel β (((T q).get x).getD undefD) (a.tmps.getD x undef) := by
    intro x hx
    have := I.tmp x
    rw [RT R U hfr X hx hlt] at this
    exact this
  have hρ : ∀ x ∈ o.op.operands, VRel β (ev (T q) x) (a.eval x) := by
    intro x hx
    have hox := opOk_operands hok x hx
    cases x with
    | tmp t => exact htmp t (by rw [huses]; exact ev_uses (P := P) hx)
    | const v => exact VRel.closedV hox
    | global g => simp [okOpd] at hox
    | func f => exact .func .nil .nil
  have hwant := wanted_same (β := β) (t := T q) (tmps := a.tmps) hok hguard (fun j b x h1 h2 => by
    refine ⟨htmp x ?_, ?_⟩
    · rw [huses]; unfold usesOf; rw [h1]; simp [h2]
    · obtain ⟨x', hx', hlt'⟩ := opOk_guard hok h1
      rw [h2] at hx'; cases hx'
      rw [I.tsize]; exact hlt')
  have hdlt : ∀ d, c.dst = some d → d < n := fun d h => opOk_dst hok (by rw [← hdst]; exact h)
  obtain ⟨hnx, hvis, hwr⟩ := Run.frame R U hfr X.at_
  have hrel := I.step.rel
  -- what is owed behind it
  have finish : ∀ β' v v' w', T (q + 1) = putT (T q) c.dst v → VRel β' v v' → Step P β (VH ord S N listed) (S q).next w β' (VH ord S N (listed.setIfInBounds c.bit true)) (S (q + 1)).next w' → K (a.put o.dst v') w' := by
    intro β' v v' w' hT hv st
    have hm0 := (Run.mono R U hfr (Nat.zero_le q) (by omega)).1
    have hm1 := (Run.mono R U hfr (show q + 1 ≤ ord.length from by omega) (Nat.le_refl _)).1
    refine hK β' _ w' { size := by simp [I.size], closed := hclosed, tsize := ?_, tmp := ?_, step := ?_, fresh := ?_, defers := ?_ }
    · cases hd : o.dst <;> simp [Act.put, I.tsize]
    · intro x
      rw [WT R U hfr X hlt hl]
      cases hd : c.dst with
      | none =>
        have hod : o.dst = none := by rw [← hdst]; exact hd
        simp only [reduceCtorEq, if_false, hod, Act.put]
        exact (I.tmp x).mono st.emb
      | some d =>
        have hod : o.dst = some d := by rw [← hdst]; exact hd
        simp only [Option.some.injEq, hod, Act.put]
        by_cases e : d = x
        · subst e
          simp only [if_true, hT, hd, putT, PT.get_put, Option.getD_some]
          have : d < a.tmps.size := by rw [I.tsize]; exact hdlt d hd
          simp [this]
          exact hv
        · simp only [e, if_false]
          have := (I.tmp x).mono st.emb
          simpa [Array.getElem?_setIfInBounds, e] using this
    · exact I.step.trans' st hm0 hm1
    · intro p a' ha' hun k h1 h2
      rw [hl p a' ha'] at hun
      split at hun
      · cases hun
      · rename_i hpq
        have h0 := I.fresh p a' ha' hun k h1 h2
        cases hb : β' k with
        | none => rfl
        | some l =>
          have := st.dom k h0 (by rw [hb]; simp)
          rcases Nat.lt_or_gt_of_ne hpq with h | h
          · have := (Run.mono R U hfr (show p + 1 ≤ q from by omega) (by omega)).1; omega
          · have := (Run.mono R U hfr (show q + 1 ≤ p from by omega) (by
              have := (List.getElem?_eq_some_iff.1 ha').1; omega)).1
            omega
    · rw [← I.defers]; cases o.dst <;> rfl
  have hnoh : ∀ k, (S q).next ≤ k → hidden (N q) (hazOf (ord.take q) c 0) k = false := by
    intro k hk
    cases hh : hidden (N q) (hazOf (ord.take q) c 0) k with
    | false => rfl
    | true =>
      obtain ⟨p, a', hp, _, _, _, h2⟩ := (Run.hidden R U hfr X.at_ hlt).1 hh
      have := (Run.mono R U hfr (show p + 1 ≤ q from by omega) (by omega)).1
      omega
  unfold wpOpIn
  simp only [ho]
  rw [hwant]
  rcases (U.step q _ (R.list q c X.at_)).1 with ⟨hwt, v, s1, hd, hT, hS⟩ | ⟨hwt, hT, hS⟩
  · simp only at hwt hd hT
    rw [hwt]
    simp only [if_true]
    have hnx1 : (S (q + 1)).next = s1.next := by rw [hS]
    have hfrv := dop_frame hfr hd
    have hfresh : ∀ k, (S q).next ≤ k → k < s1.next → β k = none := fun k h1 h2 => I.fresh q c X.at_ X.un k h1 (by rw [hnx1]; exact h2)
    have hvget : ∀ k, (veil (S q) (N q) (hazOf (ord.take q) c 0)).get k = if hidden (N q) (hazOf (ord.take q) c 0) k then none else (S q).get k := by
      intro k
      exact boolIf _ _ _ _
    by_cases hW : isW c = true
    · have hsub : ∀ k o, (veil (S q) (N q) (hazOf (ord.take q) c 0)).get k = some o → VH ord S N listed k = some o := by
        intro k ob hk
        rw [hvget] at hk
        split at hk
        · cases hk
        · rename_i hh
          rw [RH R U hfr X hlt (.inl ⟨hW, by simpa using hh⟩)]
          exact hk
      refine dop_sim hcall o (opOk_defer hok) hρ (hrel.sub hsub) (s := veil (S q) (N q) (hazOf (ord.take q) c 0)) hfresh (by rw [← hdop]; exact hd) ?_
      intro β' v' w' hv st
      suffices hg : ∀ k o, VH ord S N (listed.setIfInBounds c.bit true) k = some o → s1.get k = some o ∨ (VH ord S N listed k = some o ∧ (veil (S q) (N q) (hazOf (ord.take q) c 0)).get k = none) from
        finish β' v v' w' hT hv (by rw [hnx1]; exact Step.part hrel hsub st hg)
      intro k ob hk
      rw [WH R U hfr X hlt hl] at hk
      by_cases hm : mw ord S N q k = true
      · left
        rw [if_pos hm] at hk
        have hh : hidden (N q) (hazOf (ord.take q) c 0) k = false := by
          unfold mw at hm
          rw [X.at_] at hm
          simp only [Bool.or_eq_true, Bool.and_eq_true] at hm
          rcases hm with ⟨h1, _⟩ | ⟨_, h1⟩
          · exact hnoh k (Nat.le_of_ble_eq_true h1)
          · simp only [veil, Bool.and_eq_true, Bool.not_eq_true'] at h1
            exact h1.1.2
        rw [hS] at hk
        simp only [DS.get] at hk ⊢
        rw [hfrv.vis]
        simp only [veil, hh, Bool.not_false, Bool.and_true]
        exact hk
      · rw [if_neg hm] at hk
        cases hh : hidden (N q) (hazOf (ord.take q) c 0) k with
        | true => exact .inr ⟨hk, by rw [hvget, hh]; rfl⟩
        | false =>
          left
          rw [RH R U hfr X hlt (.inl ⟨hW, hh⟩)] at hk
          have hlt' := DS.get_lt hk
          have hwrk : (veil (S q) (N q) (hazOf (ord.take q) c 0)).wr k = false := by
            unfold mw at hm
            rw [X.at_] at hm
            simp only [hW, Bool.true_and, Bool.or_eq_true, not_or] at hm
            simpa using hm.2
          have hkeep := hfrv.keep k hlt' hwrk
          simp only [DS.get] at hk ⊢
          rw [hfrv.vis, hkeep]
          simp only [veil, hh, Bool.not_false, Bool.and_true]
          have e1 : Nat.blt k (S q).next = true := (blt_iff _ _).2 hlt'
          have e2 : Nat.blt k s1.next = true := (blt_iff _ _).2 (Nat.lt_of_lt_of_le hlt' hfrv.next)
          rw [e2]
          rw [e1] at hk
          exact hk
    · have hW' : isW c = false := by simpa using hW
      let sr : DS := { S q with vis := fun k => (S q).vis k && !hidden (N q) (hazOf (ord.take q) c 0) k && (memN (foot (ev (T q)) (S q) c.dop) k || Nat.ble (S q).next k) }
      have hsrget : ∀ k, sr.get k = if memN (foot (ev (T q)) (S q) c.dop) k then (veil (S q) (N q) (hazOf (ord.take q) c 0)).get k else none := by
        intro k
        simp only [veil, DS.get, sr]
        by_cases hk : k < (S q).next
        · have : Nat.ble (S q).next k = false := by
            cases h : Nat.ble (S q).next k with
            | false => rfl
            | true => have := Nat.le_of_ble_eq_true h; omega
          rw [this]
          cases memN (foot (ev (T q)) (S q) c.dop) k <;> simp
        · have : Nat.blt k (S q).next = false := by
            cases h : Nat.blt k (S q).next with
            | false => rfl
            | true => exact absurd ((blt_iff _ _).1 h) hk
          simp [this]
      have hsub : ∀ k o, sr.get k = some o → VH ord S N listed k = some o := by
        intro k ob hk
        rw [hsrget] at hk
        split at hk
        · rename_i hmem
          rw [hvget] at hk
          split at hk
          · cases hk
          · rename_i hh
            rw [RH R U hfr X hlt (.inr ⟨(memN_iff _ _).1 hmem, hwt, by simpa using hh, DS.get_lt hk⟩)]
            exact hk
        · cases hk
      have hloc : ∀ k ∈ foot (ev (T q)) (veil (S q) (N q) (hazOf (ord.take q) c 0)) c.dop, sr.get k = (veil (S q) (N q) (hazOf (ord.take q) c 0)).get k := by
        intro k hk
        have : k ∈ foot (ev (T q)) (S q) c.dop := foot_sub (s2 := veil (S q) (N q) (hazOf (ord.take q) c 0)) (fun k o h => by
          rw [hvget] at h
          split at h
          · cases h
          · exact h) hk
        rw [hsrget, (memN_iff _ _).2 this]; rfl
      have hdr : ∃ s1r, dop call (ev (T q)) sr c.dop = some (v, s1r) ∧ ((s1 = veil (S q) (N q) (hazOf (ord.take q) c 0) ∧ s1r = sr) ∨ ∃ x, s1 = (veil (S q) (N q) (hazOf (ord.take q) c 0)).new x ∧ s1r = sr.new x) := by
        rcases isW_cls hW' with hc | hc | hc
        · unfold dop at hd ⊢
          simp only [hc] at hd ⊢
          split at hd
          · rename_i v0 hv0
            cases hd
            exact ⟨sr, rfl, .inl ⟨rfl, rfl⟩⟩
          · cases hd
        · unfold dop at hd ⊢
          simp only [hc] at hd ⊢
          split at hd
          · rename_i v0 hv0
            cases hd
            exact ⟨sr, by rw [dread_local hv0 hloc], .inl ⟨rfl, rfl⟩⟩
          · cases hd
        · unfold dop at hd ⊢
          simp only [hc] at hd ⊢
          obtain ⟨x, h1, h2⟩ := dmake_local (s2 := sr) hd rfl hloc
          exact ⟨sr.new x, h2, .inr ⟨x, h1, rfl⟩⟩
      obtain ⟨s1r, hdr, hcase⟩ := hdr
      have hn1 : s1r.next = s1.next := by
        rcases hcase with ⟨h1, h2⟩ | ⟨x, h1, h2⟩ <;> rw [h1, h2] <;> rfl
      refine dop_sim hcall o (opOk_defer hok) hρ (hrel.sub hsub) (s := sr) (fun k h1 h2 => hfresh k h1 (by rw [← hn1]; exact h2)) (by rw [← hdop]; exact hdr) ?_
      intro β' v' w' hv st
      suffices hg : ∀ k o, VH ord S N (listed.setIfInBounds c.bit true) k = some o → s1r.get k = some o ∨ (VH ord S N listed k = some o ∧ sr.get k = none) from
        finish β' v v' w' hT hv (by rw [hnx1, ← hn1]; exact Step.part hrel hsub st hg)
      intro k ob hk
      rw [WH R U hfr X hlt hl] at hk
      by_cases hm : mw ord S N q k = true
      · left
        rw [if_pos hm] at hk
        unfold mw at hm
        rw [X.at_] at hm
        simp only [hW', Bool.false_and, Bool.or_false, Bool.and_eq_true] at hm
        have h1 := Nat.le_of_ble_eq_true hm.1
        have h2 := (blt_iff _ _).1 hm.2
        rw [hnx1] at h2
        rcases hcase with ⟨e1, e2⟩ | ⟨x, e1, e2⟩
        · rw [e1] at h2
          simp only [veil] at h2
          omega
        · rw [hS, e1] at hk
          have hv2 : sr.vis k = (S q).vis k := by
            show ((S q).vis k && !hidden (N q) (hazOf (ord.take q) c 0) k && (memN (foot (ev (T q)) (S q) c.dop) k || Nat.ble (S q).next k)) = _
            rw [hnoh k h1, Nat.ble_eq_true_of_le h1]; simp
          rw [e2, DS.get_new, hv2]
          show (if Nat.blt k ((S q).next + 1) && (S q).vis k then (if k = (S q).next then some x else (S q).heap.get k) else none) = some ob
          have hk2 : (if Nat.blt k ((S q).next + 1) && (S q).vis k then ((S q).heap.put (S q).next (some x)).get k else none) = some ob := hk
          rw [PT.get_put] at hk2
          exact hk2
      · rw [if_neg hm] at hk
        cases hs : sr.get k with
        | none => exact .inr ⟨hk, rfl⟩
        | some o' =>
          left
          have := hsub k o' hs
          rw [hk] at this; cases this
          rcases hcase with ⟨e1, e2⟩ | ⟨x, e1, e2⟩
          · rw [e2]; exact hs
          · rw [e2, DS.get_new_old (Nat.ne_of_lt (DS.get_lt hs))]; exact hs
  · simp only at hwt hT
    rw [hwt]
    simp only [Bool.false_eq_true, if_false]
    refine ⟨fun _ _ => trivial, ?_⟩
    refine finish β undefD undef w hT .undef ?_
    rw [hS]
    refine (Step.refl hrel).congr fun k => ?_
    rw [WH R U hfr X hlt hl]
    by_cases hm : mw ord S N q k = true
    · rw [if_pos hm, VH_at R U hfr X hlt hm, hS]
    · rw [if_neg hm]
end
end Go.Dx
