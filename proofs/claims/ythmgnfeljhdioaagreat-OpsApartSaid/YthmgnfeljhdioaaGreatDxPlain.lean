/- A part. -/
import Derived.Test.YthmgnfeljhdioaaGreatDxRun
set_option linter.unusedVariables false
set_option linter.unusedSimpArgs false
set_option linter.unusedSectionVars false
namespace Go.Dx
open Go
theorem Kx : ∀ (ops : List Oper) (j : Nat), W2 ops j = (ops[j]?).bind (·.dst)
 | [], j => by cases j <;> rfl
 | o :: _, 0 => rfl
 | _ :: l, j + 1 => by simp only [W2, Kx l j, List.getElem?_cons_succ]
theorem Ko : ∀ {n : Nat} {l : List Operand}, FI n l = true → ∀ x ∈ l, QA n x = true
 | _, [], _, x, hx => by cases hx
 | n, y :: l, h, x, hx => by
  simp only [FI, Bool.and_eq_true] at h
  rcases List.mem_cons.1 hx with rfl | hx
  · exact h.1
  · exact Ko h.2 x hx
structure Fits (P : Program) (n : Nat) (ops : Array Oper) (i : Nat) (l : zw) : Prop where
 op : ∃ o, ops[i]? = some o ∧ l.dst = o.dst ∧ l.op = zp P o ∧ WQ n ops.toList o = true ∧ (∃ g, ZG ops.toList o.guard = some g ∧ l.guard = g)
section
variable {P : Program} {β : Emb} {w : World} {s s' : DS} {v : Value} {call : zg} {t t' : PT Value} {n : Nat} {ops : Array Oper} {ro : Option Nat}
theorem Wn {o : Oper} (h : WQ n ops.toList o = true) : ∀ x ∈ o.op.operands, QA n x = true := by
 unfold WQ at h
 simp only [Bool.and_eq_true] at h
 intro x hx
 exact Ko h.1.1.1 x (by simpa using hx)
theorem VQ {o : Oper} (h : WQ n ops.toList o = true) {d : Nat} (hd : o.dst = some d) : d < n := by
 unfold WQ at h
 simp only [Bool.and_eq_true] at h
 have := h.1.1.2
 rw [hd] at this
 exact Yc this
theorem Yz {o : Oper} (h : WQ n ops.toList o = true) {j : Nat} {b : Bool} (hg : o.guard = some (j, b)) : ∃ g, W2 ops.toList j = some g ∧ g < n := by
 unfold WQ at h
 simp only [Bool.and_eq_true] at h
 have := h.1.2
 rw [hg] at this
 simp only at this
 cases hd : W2 ops.toList j with
 | none => simp [hd] at this
 | some g => simp only [hd] at this; exact ⟨g, rfl, Yc this⟩
theorem Wy {o : Oper} (h : WQ n ops.toList o = true) : ∀ c, o.op ≠ .defer c := by
 unfold WQ at h
 simp only [Bool.and_eq_true] at h
 intro c hc
 have := h.2
 rw [hc] at this
 cases this
theorem Qs {o : Oper} (hok : WQ n ops.toList o = true) {g : Option (Nat × Bool)} (hg : ZG ops.toList o.guard = some g) {tmps : Array Value}
 (ht : ∀ j b x, o.guard = some (j, b) → W2 ops.toList j = some x → VRel β ((t.get x).getD zl) (tmps.getD x undef) ∧ x < tmps.size) :
 Region.wanted o (yielded ops tmps) = zr t g := by
 cases hgd : o.guard with
 | none =>
  rw [hgd] at hg
  simp only [ZG, z2] at hg
  subst hg
  simp [Region.wanted, zr, hgd]
 | some jb =>
  obtain ⟨j, b⟩ := jb
  obtain ⟨x, hx, _⟩ := Yz hok hgd
  rw [hgd] at hg
  simp only [ZG, hx, z2] at hg
  subst hg
  obtain ⟨hv, hsz⟩ := ht j b x hgd hx
  rw [Kx, Array.getElem?_toList] at hx
  simp only [Region.wanted, hgd, yielded, hx, Option.bind_some, zr]
  have hgt : tmps[x]? = some (tmps.getD x undef) := by simp [hsz]
  rw [hgt]
  generalize tmps.getD x undef = V at hv
  cases hq : t.get x with
  | none =>
   rw [hq] at hv
   simp only [Option.getD_none] at hv
   cases hv
   cases b <;> rfl
  | some u =>
   rw [hq] at hv
   simp only [z1] at hv
   cases hv <;> first | rfl | (cases b <;> rfl) | (rename_i hh; cases V <;> first | (cases hh; done) | rfl | (cases b <;> rfl))
theorem FF {a : Act} (h : Z3 β n t a.tmps) {o : Oper} (hok : WQ n ops.toList o = true) {v v' : Value} (hv : VRel β v v') :
 Z3 β n (Zn t o.dst v) (a.put o.dst v').tmps := by
 cases hd : o.dst with
 | none => exact h
 | some d => exact h.put (VQ hok hd) hv
theorem Ff {a : Act} {Q : Exit → Act → World → Prop} (hcall : WI P call) (hfr : zO call) : ∀ (L : List zw) (idx : List Nat) (t : PT Value) (s : DS) (β : Emb) (a : Act) (w : World),
 L.length = idx.length → (∀ (p : Nat) (l : zw) (i : Nat), L[p]? = some l → idx[p]? = some i → Fits P n ops i l ∧ l.haz = [] ∧ l.note = false) →
 ZD call L [] t s = some (t', s') → Z3 β n t a.tmps → Rel P β s.get w → fresh β s s' →
 (∀ β' a' w', Z3 β' n t' a'.tmps → a'.defers = a.defers → Step P β s.get s.next w β' s'.get s'.next w' → Q .normal a' w') →
 wpOpsIn (FW ro) 0 P ops Q idx a w := by
 intro L
 induction L with
 | nil =>
  intro idx t s β a w hlen hfit h ht hR hf hQ
  simp only [ZD, z2, Prod.mk.injEq] at h
  obtain ⟨rfl, rfl⟩ := h
  cases idx with
  | nil => exact hQ β a w ht rfl (Step.refl hR)
  | cons i r => simp at hlen
 | cons l L ih =>
  intro idx t s β a w hlen hfit h ht hR hf hQ
  cases idx with
  | nil => simp at hlen
  | cons i idx =>
   obtain ⟨⟨o, ho, hdst, hop, hok, g, hg1, hg2⟩, hhaz, hnote⟩ := hfit 0 l i rfl rfl
   have hrest : ∀ (p : Nat) (l : zw) (i : Nat), L[p]? = some l → idx[p]? = some i → Fits P n ops i l ∧ l.haz = [] ∧ l.note = false := fun p l i h1 h2 => hfit (p + 1) l i (by simpa using h1) (by simpa using h2)
   have hw := Qs (β := β) (t := t) (tmps := a.tmps) hok hg1 (fun j b x h1 h2 => ⟨ht.2 x, by
    obtain ⟨x', hx', hlt⟩ := Yz hok h1
    rw [h2] at hx'; cases hx'
    rw [ht.1]; exact hlt⟩)
   rw [wpOpsIn_cons]
   unfold wpOpIn
   simp only [ho]
   rw [hw]
   simp only [ZD, hg2, hhaz, hnote, z3, if_false] at h
   by_cases hwt : zr t g = true
   · simp only [hwt, if_true] at h ⊢
     cases hd : dop call (ev t) s l.op with
     | none => simp [hd] at h
     | some r =>
      obtain ⟨v, s1⟩ := r
      simp only [hd] at h
      rw [hop] at hd
      have f1 := Yb hfr hd
      have f2 := JU hfr h
      refine Vf hcall o (Wy hok) (fun x hx => ht.ev (Wn hok x hx)) hR (hf.left f2.next) hd ?_
      intro β' v' w' hv st
      have ht' : Z3 β' n (Zn t l.dst v) (a.put o.dst v').tmps := by rw [hdst]; exact FF (ht.mono st.emb) hok hv
      refine ih idx _ s1 β' (a.put o.dst v') w' (by simpa using hlen) hrest h ht' st.rel (hf.right st) ?_
      intro β2 a2 w2 hT hD st2
      refine hQ β2 a2 w2 hT (hD.trans ?_) (st.trans st2)
      cases o.dst <;> rfl
   · simp only [hwt, z3, if_false] at h ⊢
     refine ⟨fun _ _ => trivial, ?_⟩
     have ht' : Z3 β n (Zn t l.dst zl) (a.put o.dst undef).tmps := by rw [hdst]; exact FF ht hok .undef
     refine ih idx _ s β (a.put o.dst undef) w (by simpa using hlen) hrest h ht' hR hf ?_
     intro β2 a2 w2 hT hD st2
     refine hQ β2 a2 w2 hT (hD.trans ?_) st2
     cases o.dst <;> rfl
end
end Go.Dx
