/- A part. -/
import Derived.Test.YthmgnfeljhdioaaGreatDxRun
set_option linter.unusedVariables false
set_option linter.unusedSimpArgs false
set_option linter.unusedSectionVars false
namespace Go.Dx
open Go
theorem VD : ∀ (ops : List Oper) (j : Nat), Q0 ops j = (ops[j]?).bind (·.dst)
 | [], j => by cases j <;> rfl
 | o :: _, 0 => rfl
 | _ :: l, j + 1 => by simp only [Q0, VD l j, List.getElem?_cons_succ]
theorem Vv : ∀ {n : Nat} {l : List Operand}, CR n l = true → ∀ x ∈ l, JA n x = true
 | _, [], _, x, hx => by cases hx
 | n, y :: l, h, x, hx => by
  simp only [CR, Bool.and_eq_true] at h
  rcases List.mem_cons.1 hx with rfl | hx
  · exact h.1
  · exact Vv h.2 x hx
structure Fits (P : Program) (n : Nat) (ops : Array Oper) (i : Nat) (l : zK) : Prop where
 op : ∃ o, ops[i]? = some o ∧ l.dst = o.dst ∧ l.op = zC P o ∧ QN n ops.toList o = true ∧ (∃ g, Z9 ops.toList o.guard = some g ∧ l.guard = g)
section
variable {P : Program} {β : Emb} {w : World} {s s' : DS} {v : Value} {call : zn} {t t' : PT Value} {n : Nat} {ops : Array Oper} {ro : Option Nat}
theorem Qq {o : Oper} (h : QN n ops.toList o = true) : ∀ x ∈ o.op.operands, JA n x = true := by
 unfold QN at h
 simp only [Bool.and_eq_true] at h
 intro x hx
 exact Vv h.1.1.1 x (by simpa using hx)
theorem Fi {o : Oper} (h : QN n ops.toList o = true) {d : Nat} (hd : o.dst = some d) : d < n := by
 unfold QN at h
 simp only [Bool.and_eq_true] at h
 have := h.1.1.2
 rw [hd] at this
 exact YO this
theorem Xj {o : Oper} (h : QN n ops.toList o = true) {j : Nat} {b : Bool} (hg : o.guard = some (j, b)) : ∃ g, Q0 ops.toList j = some g ∧ g < n := by
 unfold QN at h
 simp only [Bool.and_eq_true] at h
 have := h.1.2
 rw [hg] at this
 simp only at this
 cases hd : Q0 ops.toList j with
 | none => simp [hd] at this
 | some g => simp only [hd] at this; exact ⟨g, rfl, YO this⟩
theorem Qx {o : Oper} (h : QN n ops.toList o = true) : ∀ c, o.op ≠ .defer c := by
 unfold QN at h
 simp only [Bool.and_eq_true] at h
 intro c hc
 have := h.2
 rw [hc] at this
 cases this
theorem Jq {o : Oper} (hok : QN n ops.toList o = true) {g : Option (Nat × Bool)} (hg : Z9 ops.toList o.guard = some g) {tmps : Array Value}
 (ht : ∀ j b x, o.guard = some (j, b) → Q0 ops.toList j = some x → VRel β ((t.get x).getD zv) (tmps.getD x undef) ∧ x < tmps.size) :
 Region.wanted o (yielded ops tmps) = zE t g := by
 cases hgd : o.guard with
 | none =>
  rw [hgd] at hg
  simp only [Z9, z2] at hg
  subst hg
  simp [Region.wanted, zE, hgd]
 | some jb =>
  obtain ⟨j, b⟩ := jb
  obtain ⟨x, hx, _⟩ := Xj hok hgd
  rw [hgd] at hg
  simp only [Z9, hx, z2] at hg
  subst hg
  obtain ⟨hv, hsz⟩ := ht j b x hgd hx
  rw [VD, Array.getElem?_toList] at hx
  simp only [Region.wanted, hgd, yielded, hx, Option.bind_some, zE]
  have hgt : tmps[x]? = some (tmps.getD x undef) := by simp [hsz]
  rw [hgt]
  generalize tmps.getD x undef = V at hv
  cases hq : t.get x with
  | none =>
   rw [hq] at hv
   simp only [Option.getD_none] at hv
   cases hv
   cases b <;> rfl
  | some u =>
   rw [hq] at hv
   simp only [z1] at hv
   cases hv <;> first | rfl | (cases b <;> rfl) | (rename_i hh; cases V <;> first | (cases hh; done) | rfl | (cases b <;> rfl))
theorem CM {a : Act} (h : YF β n t a.tmps) {o : Oper} (hok : QN n ops.toList o = true) {v v' : Value} (hv : VRel β v v') :
 YF β n (ZJ t o.dst v) (a.put o.dst v').tmps := by
 cases hd : o.dst with
 | none => exact h
 | some d => exact h.put (Fi hok hd) hv
theorem Ca {a : Act} {Q : Exit → Act → World → Prop} (hcall : QG P call) (hfr : zG call) : ∀ (L : List zK) (idx : List Nat) (t : PT Value) (s : DS) (β : Emb) (a : Act) (w : World),
 L.length = idx.length → (∀ (p : Nat) (l : zK) (i : Nat), L[p]? = some l → idx[p]? = some i → Fits P n ops i l ∧ l.haz = [] ∧ l.note = false) →
 Z0 call L [] t s = some (t', s') → YF β n t a.tmps → Rel P β s.get w → fresh β s s' →
 (∀ β' a' w', YF β' n t' a'.tmps → a'.defers = a.defers → Step P β s.get s.next w β' s'.get s'.next w' → Q .normal a' w') →
 wpOpsIn (FW ro) 0 P ops Q idx a w := by
 intro L
 induction L with
 | nil =>
  intro idx t s β a w hlen hfit h ht hR hf hQ
  simp only [Z0, z2, Prod.mk.injEq] at h
  obtain ⟨rfl, rfl⟩ := h
  cases idx with
  | nil => exact hQ β a w ht rfl (Step.refl hR)
  | cons i r => simp at hlen
 | cons l L ih =>
  intro idx t s β a w hlen hfit h ht hR hf hQ
  cases idx with
  | nil => simp at hlen
  | cons i idx =>
   obtain ⟨⟨o, ho, hdst, hop, hok, g, hg1, hg2⟩, hhaz, hnote⟩ := hfit 0 l i rfl rfl
   have hrest : ∀ (p : Nat) (l : zK) (i : Nat), L[p]? = some l → idx[p]? = some i → Fits P n ops i l ∧ l.haz = [] ∧ l.note = false := fun p l i h1 h2 => hfit (p + 1) l i (by simpa using h1) (by simpa using h2)
   have hw := Jq (β := β) (t := t) (tmps := a.tmps) hok hg1 (fun j b x h1 h2 => ⟨ht.2 x, by
    obtain ⟨x', hx', hlt⟩ := Xj hok h1
    rw [h2] at hx'; cases hx'
    rw [ht.1]; exact hlt⟩)
   rw [wpOpsIn_cons]
   unfold wpOpIn
   simp only [ho]
   rw [hw]
   simp only [Z0, hg2, hhaz, hnote, z3, if_false] at h
   by_cases hwt : zE t g = true
   · simp only [hwt, if_true] at h ⊢
     cases hd : dop call (ev t) s l.op with
     | none => simp [hd] at h
     | some r =>
      obtain ⟨v, s1⟩ := r
      simp only [hd] at h
      rw [hop] at hd
      have f1 := YN hfr hd
      have f2 := KW hfr h
      refine Gp hcall o (Qx hok) (fun x hx => ht.ev (Qq hok x hx)) hR (hf.left f2.next) hd ?_
      intro β' v' w' hv st
      have ht' : YF β' n (ZJ t l.dst v) (a.put o.dst v').tmps := by rw [hdst]; exact CM (ht.mono st.emb) hok hv
      refine ih idx _ s1 β' (a.put o.dst v') w' (by simpa using hlen) hrest h ht' st.rel (hf.right st) ?_
      intro β2 a2 w2 hT hD st2
      refine hQ β2 a2 w2 hT (hD.trans ?_) (st.trans st2)
      cases o.dst <;> rfl
   · simp only [hwt, z3, if_false] at h ⊢
     refine ⟨fun _ _ => trivial, ?_⟩
     have ht' : YF β n (ZJ t l.dst zv) (a.put o.dst undef).tmps := by rw [hdst]; exact CM ht hok .undef
     refine ih idx _ s β (a.put o.dst undef) w (by simpa using hlen) hrest h ht' hR hf ?_
     intro β2 a2 w2 hT hD st2
     refine hQ β2 a2 w2 hT (hD.trans ?_) st2
     cases o.dst <;> rfl
end
end Go.Dx
