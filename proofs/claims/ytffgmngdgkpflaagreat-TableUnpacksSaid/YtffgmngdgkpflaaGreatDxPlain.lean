/- A part. -/
import Derived.Test.YtffgmngdgkpflaaGreatDxRun
set_option linter.unusedVariables false
set_option linter.unusedSimpArgs false
set_option linter.unusedSectionVars false
namespace Go.Dx
open Go
theorem DJ : ∀ (ops : List Oper) (j : Nat), Vh ops j = (ops[j]?).bind (·.dst)
 | [], j => by cases j <;> rfl
 | o :: _, 0 => rfl
 | _ :: l, j + 1 => by simp only [Vh, DJ l j, List.getElem?_cons_succ]
theorem Du : ∀ {n : Nat} {l : List Operand}, Rj n l = true → ∀ x ∈ l, VP n x = true
 | _, [], _, x, hx => by cases hx
 | n, y :: l, h, x, hx => by
  simp only [Rj, Bool.and_eq_true] at h
  rcases List.mem_cons.1 hx with rfl | hx
  · exact h.1
  · exact Du h.2 x hx
structure Fits (P : Program) (n : Nat) (ops : Array Oper) (i : Nat) (l : Ya) : Prop where
 op : ∃ o, ops[i]? = some o ∧ l.dst = o.dst ∧ l.op = ZJ P o ∧ K5 n ops.toList o = true ∧ (∃ g, XW ops.toList o.guard = some g ∧ l.guard = g)
section
variable {P : Program} {β : Emb} {w : World} {s s' : DS} {v : Value} {call : Zg} {t t' : PT Value} {n : Nat} {ops : Array Oper} {ro : Option Nat}
theorem Ku {o : Oper} (h : K5 n ops.toList o = true) : ∀ x ∈ o.op.operands, VP n x = true := by
 unfold K5 at h
 simp only [Bool.and_eq_true] at h
 intro x hx
 exact Du h.1.1.1 x (by simpa using hx)
theorem CT {o : Oper} (h : K5 n ops.toList o = true) {d : Nat} (hd : o.dst = some d) : d < n := by
 unfold K5 at h
 simp only [Bool.and_eq_true] at h
 have := h.1.1.2
 rw [hd] at this
 exact QE this
theorem Qv {o : Oper} (h : K5 n ops.toList o = true) {j : Nat} {b : Bool} (hg : o.guard = some (j, b)) : ∃ g, Vh ops.toList j = some g ∧ g < n := by
 unfold K5 at h
 simp only [Bool.and_eq_true] at h
 have := h.1.2
 rw [hg] at this
 simp only at this
 cases hd : Vh ops.toList j with
 | none => simp [hd] at this
 | some g => simp only [hd] at this; exact ⟨g, rfl, QE this⟩
theorem KE {o : Oper} (h : K5 n ops.toList o = true) : ∀ c, o.op ≠ .defer c := by
 unfold K5 at h
 simp only [Bool.and_eq_true] at h
 intro c hc
 have := h.2
 rw [hc] at this
 cases this
theorem VG {o : Oper} (hok : K5 n ops.toList o = true) {g : Option (Nat × Bool)} (hg : XW ops.toList o.guard = some g) {tmps : Array Value}
 (ht : ∀ j b x, o.guard = some (j, b) → Vh ops.toList j = some x → VRel β ((t.get x).getD Zt) (tmps.getD x undef) ∧ x < tmps.size) :
 Region.wanted o (yielded ops tmps) = ZT t g := by
 cases hgd : o.guard with
 | none =>
  rw [hgd] at hg
  simp only [XW, z2] at hg
  subst hg
  simp [Region.wanted, ZT, hgd]
 | some jb =>
  obtain ⟨j, b⟩ := jb
  obtain ⟨x, hx, _⟩ := Qv hok hgd
  rw [hgd] at hg
  simp only [XW, hx, z2] at hg
  subst hg
  obtain ⟨hv, hsz⟩ := ht j b x hgd hx
  rw [DJ, Array.getElem?_toList] at hx
  simp only [Region.wanted, hgd, yielded, hx, Option.bind_some, ZT]
  have hgt : tmps[x]? = some (tmps.getD x undef) := by simp [hsz]
  rw [hgt]
  generalize tmps.getD x undef = V at hv
  cases hq : t.get x with
  | none =>
   rw [hq] at hv
   simp only [Option.getD_none] at hv
   cases hv
   cases b <;> rfl
  | some u =>
   rw [hq] at hv
   simp only [z1] at hv
   cases hv <;> first | rfl | (cases b <;> rfl) | (rename_i hh; cases V <;> first | (cases hh; done) | rfl | (cases b <;> rfl))
theorem Rc {a : Act} (h : WK β n t a.tmps) {o : Oper} (hok : K5 n ops.toList o = true) {v v' : Value} (hv : VRel β v v') :
 WK β n (Xx t o.dst v) (a.put o.dst v').tmps := by
 cases hd : o.dst with
 | none => exact h
 | some d => exact h.put (CT hok hd) hv
theorem Sx {a : Act} {Q : Exit → Act → World → Prop} (hcall : KP P call) (hfr : ZR call) : ∀ (L : List Ya) (idx : List Nat) (t : PT Value) (s : DS) (β : Emb) (a : Act) (w : World),
 L.length = idx.length → (∀ (p : Nat) (l : Ya) (i : Nat), L[p]? = some l → idx[p]? = some i → Fits P n ops i l ∧ l.haz = [] ∧ l.note = false) →
 XY call L [] t s = some (t', s') → WK β n t a.tmps → Rel P β s.get w → fresh β s s' →
 (∀ β' a' w', WK β' n t' a'.tmps → a'.defers = a.defers → Step P β s.get s.next w β' s'.get s'.next w' → Q .normal a' w') →
 wpOpsIn (FW ro) 0 P ops Q idx a w := by
 intro L
 induction L with
 | nil =>
  intro idx t s β a w hlen hfit h ht hR hf hQ
  simp only [XY, z2, Prod.mk.injEq] at h
  obtain ⟨rfl, rfl⟩ := h
  cases idx with
  | nil => exact hQ β a w ht rfl (Step.refl hR)
  | cons i r => simp at hlen
 | cons l L ih =>
  intro idx t s β a w hlen hfit h ht hR hf hQ
  cases idx with
  | nil => simp at hlen
  | cons i idx =>
   obtain ⟨⟨o, ho, hdst, hop, hok, g, hg1, hg2⟩, hhaz, hnote⟩ := hfit 0 l i rfl rfl
   have hrest : ∀ (p : Nat) (l : Ya) (i : Nat), L[p]? = some l → idx[p]? = some i → Fits P n ops i l ∧ l.haz = [] ∧ l.note = false := fun p l i h1 h2 => hfit (p + 1) l i (by simpa using h1) (by simpa using h2)
   have hw := VG (β := β) (t := t) (tmps := a.tmps) hok hg1 (fun j b x h1 h2 => ⟨ht.2 x, by
    obtain ⟨x', hx', hlt⟩ := Qv hok h1
    rw [h2] at hx'; cases hx'
    rw [ht.1]; exact hlt⟩)
   rw [wpOpsIn_cons]
   unfold wpOpIn
   simp only [ho]
   rw [hw]
   simp only [XY, hg2, hhaz, hnote, z3, if_false] at h
   by_cases hwt : ZT t g = true
   · simp only [hwt, if_true] at h ⊢
     cases hd : dop call (ev t) s l.op with
     | none => simp [hd] at h
     | some r =>
      obtain ⟨v, s1⟩ := r
      simp only [hd] at h
      rw [hop] at hd
      have f1 := WU hfr hd
      have f2 := FE hfr h
      refine Ch hcall o (KE hok) (fun x hx => ht.ev (Ku hok x hx)) hR (hf.left f2.next) hd ?_
      intro β' v' w' hv st
      have ht' : WK β' n (Xx t l.dst v) (a.put o.dst v').tmps := by rw [hdst]; exact Rc (ht.mono st.emb) hok hv
      refine ih idx _ s1 β' (a.put o.dst v') w' (by simpa using hlen) hrest h ht' st.rel (hf.right st) ?_
      intro β2 a2 w2 hT hD st2
      refine hQ β2 a2 w2 hT (hD.trans ?_) (st.trans st2)
      cases o.dst <;> rfl
   · simp only [hwt, z3, if_false] at h ⊢
     refine ⟨fun _ _ => trivial, ?_⟩
     have ht' : WK β n (Xx t l.dst Zt) (a.put o.dst undef).tmps := by rw [hdst]; exact Rc ht hok .undef
     refine ih idx _ s β (a.put o.dst undef) w (by simpa using hlen) hrest h ht' hR hf ?_
     intro β2 a2 w2 hT hD st2
     refine hQ β2 a2 w2 hT (hD.trans ?_) st2
     cases o.dst <;> rfl
end
end Go.Dx
