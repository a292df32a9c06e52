/- The evaluator Dx: a region's operations one by one. -/
import Derived.Test.YtnmajohhfcgddaaDxRun
set_option linter.unusedVariables false
set_option linter.unusedSimpArgs false
set_option linter.unusedSectionVars false
namespace Go.Dx
open Go

theorem dstOf_get : ∀ (ops : List Oper) (j : Nat), dstOf ops j = (ops[j]?).bind (·.dst)
  | [], j => by cases j <;> rfl
  | o :: _, 0 => rfl
  | _ :: l, j + 1 => by simp only [dstOf, dstOf_get l j, List.getElem?_cons_succ]
theorem okOps_mem : ∀ {n : Nat} {l : List Operand}, okOps n l = true → ∀ x ∈ l, okOpd n x = true
  | _, [], _, x, hx => by cases hx
  | n, y :: l, h, x, hx => by
    simp only [okOps, Bool.and_eq_true] at h
    rcases List.mem_cons.1 hx with rfl | hx
    · exact h.1
    · exact okOps_mem h.2 x hx

/-- a D-operation is the one at place i -/
structure Fits (P : Program) (n : Nat) (ops : Array Oper) (i : Nat) (l : DOper) : Prop where
  op : ∃ o, ops[i]? = some o ∧ l.dst = o.dst ∧ l.op = trOp P o ∧ opOk n ops.toList o = true ∧ (∃ g, trGuard ops.toList o.guard = some g ∧ l.guard = g)

section
variable {P : Program} {β : Emb} {w : World} {s s' : DS} {v : Value} {call : CallFn} {t t' : PT Value} {n : Nat} {ops : Array Oper} {ro : Option Nat}

theorem opOk_operands {o : Oper} (h : opOk n ops.toList o = true) : ∀ x ∈ o.op.operands, okOpd n x = true := by
  unfold opOk at h
  simp only [Bool.and_eq_true] at h
  intro x hx
  exact okOps_mem h.1.1.1 x (by simpa using hx)
theorem opOk_dst {o : Oper} (h : opOk n ops.toList o = true) {d : Nat} (hd : o.dst = some d) : d < n := by
  unfold opOk at h
  simp only [Bool.and_eq_true] at h
  have := h.1.1.2
  rw [hd] at this
  exact blt_lt this
theorem opOk_guard {o : Oper} (h : opOk n ops.toList o = true) {j : Nat} {b : Bool} (hg : o.guard = some (j, b)) : ∃ g, dstOf ops.toList j = some g ∧ g < n := by
  unfold opOk at h
  simp only [Bool.and_eq_true] at h
  have := h.1.2
  rw [hg] at this
  simp only at this
  cases hd : dstOf ops.toList j with
  | none => simp [hd] at this
  | some g => simp only [hd] at this; exact ⟨g, rfl, blt_lt this⟩
theorem opOk_defer {o : Oper} (h : opOk n ops.toList o = true) : ∀ c, o.op ≠ .defer c := by
  unfold opOk at h
  simp only [Bool.and_eq_true] at h
  intro c hc
  have := h.2
  rw [hc] at this
  cases this

/-- what a guard's temporary says -/
theorem wanted_same {o : Oper} (hok : opOk n ops.toList o = true) {g : Option (Nat × Bool)} (hg : trGuard ops.toList o.guard = some g) {tmps : Array Value}
    (ht : ∀ j b x, o.guard = some (j, b) → dstOf ops.toList j = some x → VRel β ((t.get x).getD undefD) (tmps.getD x undef) ∧ x < tmps.size) :
    Region.wanted o (yielded ops tmps) = wantedD t g := by
  cases hgd : o.guard with
  | none =>
    rw [hgd] at hg
    simp only [trGuard, Option.some.injEq] at hg
    subst hg
    simp [Region.wanted, wantedD, hgd]
  | some jb =>
    obtain ⟨j, b⟩ := jb
    obtain ⟨x, hx, _⟩ := opOk_guard hok hgd
    rw [hgd] at hg
    simp only [trGuard, hx, Option.some.injEq] at hg
    subst hg
    obtain ⟨hv, hsz⟩ := ht j b x hgd hx
    rw [dstOf_get, Array.getElem?_toList] at hx
    simp only [Region.wanted, hgd, yielded, hx, Option.bind_some, wantedD]
    have hgt : tmps[x]? = some (tmps.getD x undef) := by simp [hsz]
    rw [hgt]
    generalize tmps.getD x undef = V at hv
    cases hq : t.get x with
    | none =>
      rw [hq] at hv
      simp only [Option.getD_none] at hv
      cases hv
      cases b <;> rfl
    | some u =>
      rw [hq] at hv
      simp only [Option.getD_some] at hv
      cases hv <;> first | rfl | (cases b <;> rfl) | (rename_i hh; cases V <;> first | (cases hh; done) | rfl | (cases b <;> rfl))

theorem put_rel {a : Act} (h : TRel β n t a.tmps) {o : Oper} (hok : opOk n ops.toList o = true) {v v' : Value} (hv : VRel β v v') :
    TRel β n (putT t o.dst v) (a.put o.dst v').tmps := by
  cases hd : o.dst with
  | none => exact h
  | some d => exact h.put (opOk_dst hok hd) hv

/-- A REGION WHOSE ORDER IS FIXED. -/
theorem dops_plain {a : Act} {Q : Exit → Act → World → Prop} (hcall : CallOk P call) (hfr : CallFrame call) : ∀ (L : List DOper) (idx : List Nat) (t : PT Value) (s : DS) (β : Emb) (a : Act) (w : World),
    L.length = idx.length → (∀ (p : Nat) (l : DOper) (i : Nat), L[p]? = some l → idx[p]? = some i → Fits P n ops i l ∧ l.haz = [] ∧ l.note = false) →
    dops call L [] t s = some (t', s') → TRel β n t a.tmps → Rel P β s.get w → fresh β s s' →
    (∀ β' a' w', TRel β' n t' a'.tmps → a'.defers = a.defers → Step P β s.get s.next w β' s'.get s'.next w' → Q .normal a' w') →
    wpOpsIn (FW ro) 0 P ops Q idx a w := by
  intro L
  induction L with
  | nil =>
    intro idx t s β a w hlen hfit h ht hR hf hQ
    simp only [dops, Option.some.injEq, Prod.mk.injEq] at h
    obtain ⟨rfl, rfl⟩ := h
    cases idx with
    | nil => exact hQ β a w ht rfl (Step.refl hR)
    | cons i r => simp at hlen
  | cons l L ih =>
    intro idx t s β a w hlen hfit h ht hR hf hQ
    cases idx with
    | nil => simp at hlen
    | cons i idx =>
      obtain ⟨⟨o, ho, hdst, hop, hok, g, hg1, hg2⟩, hhaz, hnote⟩ := hfit 0 l i rfl rfl
      have hrest : ∀ (p : Nat) (l : DOper) (i : Nat), L[p]? = some l → idx[p]? = some i → Fits P n ops i l ∧ l.haz = [] ∧ l.note = false := fun p l i h1 h2 => hfit (p + 1) l i (by simpa using h1) (by simpa using h2)
      have hw := wanted_same (β := β) (t := t) (tmps := a.tmps) hok hg1 (fun j b x h1 h2 => ⟨ht.2 x, by
        obtain ⟨x', hx', hlt⟩ := opOk_guard hok h1
        rw [h2] at hx'; cases hx'
        rw [ht.1]; exact hlt⟩)
      rw [wpOpsIn_cons]
      unfold wpOpIn
      simp only [ho]
      rw [hw]
      simp only [dops, hg2, hhaz, hnote, Bool.false_eq_true, if_false] at h
      by_cases hwt : wantedD t g = true
      · simp only [hwt, if_true] at h ⊢
        cases hd : dop call (ev t) s l.op with
        | none => simp [hd] at h
        | some r =>
          obtain ⟨v, s1⟩ := r
          simp only [hd] at h
          rw [hop] at hd
          have f1 := dop_frame hfr hd
          have f2 := dops_frame hfr h
          refine dop_sim hcall o (opOk_defer hok) (fun x hx => ht.ev (opOk_operands hok x hx)) hR (hf.left f2.next) hd ?_
          intro β' v' w' hv st
          have ht' : TRel β' n (putT t l.dst v) (a.put o.dst v').tmps := by rw [hdst]; exact put_rel (ht.mono st.emb) hok hv
          refine ih idx _ s1 β' (a.put o.dst v') w' (by simpa using hlen) hrest h ht' st.rel (hf.right st) ?_
          intro β2 a2 w2 hT hD st2
          refine hQ β2 a2 w2 hT (hD.trans ?_) (st.trans st2)
          cases o.dst <;> rfl
      · simp only [hwt, Bool.false_eq_true, if_false] at h ⊢
        refine ⟨fun _ _ => trivial, ?_⟩
        have ht' : TRel β n (putT t l.dst undefD) (a.put o.dst undef).tmps := by rw [hdst]; exact put_rel ht hok .undef
        refine ih idx _ s β (a.put o.dst undef) w (by simpa using hlen) hrest h ht' hR hf ?_
        intro β2 a2 w2 hT hD st2
        refine hQ β2 a2 w2 hT (hD.trans ?_) st2
        cases o.dst <;> rfl
end
end Go.Dx
