/- A part. -/
import Derived.Test.YtffgmngdgkpflaaGreatDxApp
set_option linter.unusedVariables false
set_option linter.unusedSimpArgs false
set_option linter.unusedSectionVars false
namespace Go.Dx
open Go
section
variable {P : Program} {β : Emb} {w w' : World} {ρ ρ' : Operand → Value} {v : Value} {s s' : DS}
theorem Rn (o : Oper) (hR : Rel P β s.get w) (hρ : ∀ x ∈ o.op.operands, VRel β (ρ x) (ρ' x)) (hf : s.next < s'.next → β s.next = none) (h : zn ρ s (zF P o) = some (v, s')) :
 Pc P o β ρ' w s s' v := by
 obtain ⟨dst, op, type, pos, after, guard⟩ := o
 cases op
 case store t a x => exact Rr rfl hR hρ h
 case mapUpdate t m k x => exact D5 _ (.inl ⟨t, m, k, x, rfl⟩) hR hρ h
 case insert t m k x => exact D5 _ (.inr ⟨t, m, k, x, rfl⟩) hR hρ h
 case mapEntry t m k =>
  have hm := hρ m (by simp [Op.operands])
  have hk := hρ k (by simp [Op.operands])
  simp only [zF] at h
  split at h
  · rename_i kt e hu
    split at h
    · rename_i b z hb hz
      split at h
      · rename_i hcz
        obtain ⟨v', w', e1, e2, st⟩ := RF hu hb hz hcz hR hm hk h
        exact ⟨β, v', w', .inl (by simp [execOp, e1]), e2, st⟩
      · simp [zn] at h
    · simp [zn] at h
  · simp [zn] at h
 case entryStore t m b x =>
  simp only [zF] at h
  obtain ⟨w', e1, rfl, st⟩ := Cv (t := t) hR (hρ m (by simp [Op.operands])) (hρ b (by simp [Op.operands])) (hρ x (by simp [Op.operands])) h
  exact ⟨β, undef, w', .inr ⟨rfl, by simp [execOp, e1]⟩, .undef, st⟩
 case next it b =>
  cases b with
  | true => simp [zF, zn] at h
  | false =>
   simp only [zF] at h
   obtain ⟨v', w', e1, e2, st⟩ := P2 (ty := type) hR (hρ it (by simp [Op.operands])) h
   exact ⟨β, v', w', .inl (by simp [execOp, e1]), e2, st⟩
 case convert src dst' x =>
  have hx := hρ x (by simp [Op.operands])
  simp only [zF] at h
  split at h
  · simp [zn] at h
  · simp [zn] at h
  · split at h <;> simp [zn] at h
  · split at h <;> simp [zn] at h
  · rename_i e0 e hs hd
    split at h
    · rename_i hsd
      subst hsd
      split at h
      · rename_i he
        obtain ⟨v', w', e1, e2, st⟩ := ND hd he hR hx h
        exact ⟨β, v', w', .inl (by simp [execOp, e1]), e2, st⟩
      · simp [zn] at h
    · simp [zn] at h
  · simp [zn] at h
 case call c =>
  obtain ⟨callee, args, ats⟩ := c
  cases callee with
  | value f => simp only [zF, zn] at h; cases h
  | invoke r n => simp only [zF, zn] at h; cases h
  | builtin b =>
   simp only [zF] at h
   have hargs : ∀ x ∈ args.toList, VRel β (ρ x) (ρ' x) := fun x hx => hρ x (by simp [Op.operands, Call.operands]; simpa using hx)
   have ea : args = args.toList.toArray := by simp
   have et : ats = ats.toList.toArray := by simp
   generalize args.toList = al at *
   generalize ats.toList = tl at *
   subst ea; subst et
   unfold XY at h
   split at h
   · rename_i sx x t u rest
     have h1 := hargs sx (by simp)
     have h2 := hargs x (by simp)
     have key : ∀ e (hu : P.underlying t = some (.slice e)) (hz : Vx P u), zn ρ s (Xw P e sx x) = some (v, s') → Pc P ⟨dst, .call ⟨.builtin .append, #[sx, x], (t :: u :: rest).toArray⟩, type, pos, after, guard⟩ β ρ' w s s' v := by
      intro e hu hz h
      unfold Xw at h
      split at h
      · rename_i sz by_ z hs hb hzo
        split at h
        · rename_i hzl
          obtain ⟨β', v', w', e1, e2, st⟩ := NV (ty := type) (rest := rest) hu hz hs (Nat.succ_pos _) hb hzo (Nat.eq_of_beq_eq_true hzl) hR h1 h2 hf h
          exact ⟨β', v', w', .inl (by simp only [execOp, resolve, Sem.run_bind, Sem.run_pure, Result.andThen_ok, invoke, builtin, List.map_toArray, z4, z5, e1]), e2, st⟩
        · simp [zn] at h
      · simp [zn] at h
     split at h
     · rename_i e e2 hu hz
       exact key e hu (.inl ⟨e2, hz⟩) h
     · rename_i e hu hz
       exact key e hu (.inr hz) h
     · rename_i e q hu hz
       split at h
       · rename_i sz by_ z hs hb hzo
         split at h
         · rename_i hzl
           obtain ⟨β', v', w', e1, e2, st⟩ := R6 (ty := type) (rest := rest) hu hz hs (Nat.succ_pos _) hb hzo (Nat.eq_of_beq_eq_true hzl) hR h1 h2 hf h
           exact ⟨β', v', w', .inl (by simp only [execOp, resolve, Sem.run_bind, Sem.run_pure, Result.andThen_ok, invoke, builtin, List.map_toArray, z4, z5, e1]), e2, st⟩
         · simp [zn] at h
       · simp [zn] at h
     · simp [zn] at h
   · (repeat' split at h) <;> simp [zn] at h
   · (repeat' split at h) <;> simp [zn] at h
   · rename_i d x t rest
     have h1 := hargs d (by simp)
     have h2 := hargs x (by simp)
     split at h
     · rename_i e hu
       split at h
       · rename_i sz hs
         obtain ⟨v', w', e1, e2, st⟩ := RW (ty := type) (rest := rest) hu hs hR h1 h2 h
         exact ⟨β, v', w', .inl (by simp only [execOp, resolve, Sem.run_bind, Sem.run_pure, Result.andThen_ok, invoke, builtin, List.map_toArray, z4, z5, e1]), e2, st⟩
       · simp [zn] at h
     · simp [zn] at h
   · rename_i m k t rest
     have h1 := hargs m (by simp)
     have h2 := hargs k (by simp)
     split at h
     · rename_i kt e hu
       split at h
       · rename_i b hb
         obtain ⟨v', w', e1, e2, st⟩ := NA (u := t) (ty := type) (rest := rest) hu hb hR h1 h2 h
         exact ⟨β, v', w', .inl (by simp only [execOp, resolve, Sem.run_bind, Sem.run_pure, Result.andThen_ok, invoke, builtin, List.map_toArray, z4, z5, e1]), e2, st⟩
       · simp [zn] at h
     · simp [zn] at h
   · rename_i m t rest
     have h1 := hargs m (by simp)
     split at h
     · rename_i kt e hu
       obtain ⟨v', w', e1, e2, st⟩ := NJ (ty := type) (rest := rest) hu hR h1 h
       exact ⟨β, v', w', .inl (by simp only [execOp, resolve, Sem.run_bind, Sem.run_pure, Result.andThen_ok, invoke, builtin, List.map_toArray, z4, z5, e1]), e2, st⟩
     · rename_i e hu
       split at h
       · rename_i z hz
         split at h
         · rename_i hz0
           obtain ⟨v', w', e1, e2, st⟩ := RX (ty := type) (rest := rest) hu hz ((Zs _ _).1 hz0) hR h1 h
           exact ⟨β, v', w', .inl (by simp only [execOp, resolve, Sem.run_bind, Sem.run_pure, Result.andThen_ok, invoke, builtin, List.map_toArray, z4, z5, e1]), e2, st⟩
         · simp [zn] at h
       · simp [zn] at h
     · simp [zn] at h
   · (repeat' split at h) <;> simp [zn] at h
   · (repeat' split at h) <;> simp [zn] at h
   · simp [zn] at h
 case makeFunc f a b => cases f <;> simp [zF, zn] at h
 case binOp op t x y z => cases op <;> simp only [zF, DG] at h <;> (repeat' split at h) <;> simp [zn] at h
 all_goals (simp only [zF] at h; (repeat' split at h) <;> simp [zn] at h)
end
end Go.Dx
namespace Go.Dx
open Go
structure zu (s s' : DS) : Prop where
 next : s.next ≤ s'.next
 vis : s'.vis = s.vis
 wr : s'.wr = s.wr
 keep : ∀ k, k < s.next → s.wr k = false → s'.heap.get k = s.heap.get k
theorem zu.refl (s : DS) : zu s s := ⟨Nat.le_refl _, rfl, rfl, fun _ _ _ => rfl⟩
theorem zu.trans {a b c : DS} (h : zu a b) (h' : zu b c) : zu a c :=
 ⟨Nat.le_trans h.next h'.next, h'.vis.trans h.vis, h'.wr.trans h.wr, fun k hk hw => (h'.keep k (Nat.lt_of_lt_of_le hk h.next) (by rw [h.wr]; exact hw)).trans (h.keep k hk hw)⟩
theorem zu.new (s : DS) (o : DObj) : zu s (s.new o) :=
 ⟨Nat.le_succ _, rfl, rfl, fun k hk _ => by simp [DS.new, PT.get_put, Nat.ne_of_lt hk]⟩
theorem zu.set {s s' : DS} {k : Nat} {o : DObj} (h : s.set k o = some s') : zu s s' := by
 unfold DS.set at h
 split at h
 · rename_i hw
   cases h
   refine ⟨Nat.le_refl _, rfl, rfl, fun j hj hwj => ?_⟩
   have : j ≠ k := by rintro rfl; rw [hw] at hwj; cases hwj
   simp [PT.get_put, this]
 · cases h
theorem zu.kill {s s' : DS} {k : Nat} (h : s.kill k = some s') : zu s s' := by
 unfold DS.kill at h
 split at h
 · rename_i hw
   cases h
   refine ⟨Nat.le_refl _, rfl, rfl, fun j hj hwj => ?_⟩
   have : j ≠ k := by rintro rfl; rw [hw] at hwj; cases hwj
   simp [PT.get_put, this]
 · cases h
theorem zu.write {s s' : DS} {k off : Nat} {l : List Value} (h : s.write k off l = some s') : zu s s' := by
 unfold DS.write at h
 (repeat' split at h) <;> first | exact zu.set h | cases h
section
variable {ρ : Operand → Value} {s s' : DS} {v : Value} {o : DOp}
theorem Tu (h : z8 ρ s o = some (v, s')) : zu s s' := by
 unfold z8 at h
 (repeat' split at h) <;> simp only [z2, Prod.mk.injEq, reduceCtorEq] at h <;> (obtain ⟨_, rfl⟩ := h; exact zu.new _ _)
theorem DD (h : zn ρ s o = some (v, s')) : zu s s' := by
 unfold zn at h
 cases o <;> simp only [reduceCtorEq] at h
 all_goals
  (repeat' split at h) <;> (try simp only [z2, Prod.mk.injEq, reduceCtorEq] at h) <;>
  first
   | (obtain ⟨_, rfl⟩ := h; first | exact zu.refl _ | exact zu.new _ _ | (exact zu.set (by assumption)) | (exact zu.write (by assumption)) | (exact (zu.kill (by assumption)).trans (zu.new _ _)))
   | done
def zG (call : zy) : Prop := ∀ fv args s v s', call fv args s = some (v, s') → zu s s'
theorem Xq {call : zy} (hc : zG call) (h : dop call ρ s o = some (v, s')) : zu s s' := by
 unfold dop at h
 split at h
 · split at h
   · cases h; exact zu.refl _
   · cases h
 · split at h
   · cases h; exact zu.refl _
   · cases h
 · exact Tu h
 · exact DD h
 · split at h
   · exact hc _ _ _ _ _ h
   · cases h
 · cases h
theorem Gw {call : zy} (hc : zG call) : ∀ {l : List z9} {notes : List ZW} {t t' : PT Value} {s s' : DS}, Xf call l notes t s = some (t', s') → zu s s' := by
 intro l
 induction l with
 | nil => intro notes t t' s s' h; simp only [Xf, z2, Prod.mk.injEq] at h; obtain ⟨_, rfl⟩ := h; exact zu.refl _
 | cons o rest ih =>
  intro notes t t' s s' h
  simp only [Xf] at h
  split at h
  · split at h
    · split at h
      · rename_i v s1 h1
        exact (Xq hc h1).trans (ih h)
      · cases h
    · split at h
      · rename_i v s1 h1
        have hf := Xq hc h1
        refine zu.trans (b := { s1 with vis := s.vis, wr := s.wr }) ⟨hf.next, rfl, rfl, fun k hk hw => ?_⟩ (ih h)
        exact hf.keep k hk (by simp [hw])
      · cases h
  · exact ih h
end
end Go.Dx
namespace Go.Dx
open Go
def FW (ro : Option Nat) : Fence := { Fence.wide with round := ro }
theorem GO (ro : Option Nat) : (FW ro).depth = none := rfl
def Enters (P : Program) (r : Result Next) (K : Value → World → Prop) : Prop :=
 match r with
 | .ok (.enter f args) w' => CallsIn Fence.wide 0 P f args w' fun e w'' => ∃ v', e = .returned v' ∧ K v' w''
 | .ok (.round l f tmps assign body) w' => RoundIn Fence.wide 0 P l f tmps assign body w' fun e w'' => ∃ v', e = .returned v' ∧ K v' w''
 | _ => False
theorem Enters.upon {P : Program} {r : Result Next} {K : Value → World → Prop} (h : Enters P r K) {ro : Option Nat} {o : Oper} {a : Act} {next : Act → World → Prop} {Q : Exit → Act → World → Prop}
 (hn : ∀ v' w'', K v' w'' → next (a.put o.dst v') w'') : o.uponIn (FW ro) 0 P a next Q r := by
 unfold Enters at h
 split at h
 · refine ⟨fun h => by simp [GO] at h, ?_⟩
   refine CallsIn.mono (F := FW ro) (R := fun e w'' => ∃ v', e = .returned v' ∧ K v' w'') h ?_
   rintro e w'' ⟨v', rfl, hk⟩
   exact hn v' w'' hk
 · refine ⟨fun h => by simp [GO] at h, ?_⟩
   refine RoundIn.mono (F := FW ro) (R := fun e w'' => ∃ v', e = .returned v' ∧ K v' w'') h ?_
   rintro e w'' ⟨v', rfl, hk⟩
   exact hn v' w'' hk
 · exact h.elim
def fresh (β : Emb) (s s' : DS) : Prop := ∀ k, s.next ≤ k → k < s'.next → β k = none
def JV (P : Program) (call : zy) : Prop := ∀ fv args s v s', call fv args s = some (v, s') →
 ∀ (β : Emb) (w : World) (fv' : Value) (args' : Array Value), VRel β fv fv' → LRel β args args'.toList → Rel P β s.get w → fresh β s s' →
  Enters P ((do let d ← Deferred.ofValue fv' args'; invoke d.target d.args : Sem Next).run P w) fun v' w' => ∃ β', VRel β' v v' ∧ Step P β s.get s.next w β' s'.get s'.next w'
section
variable {P : Program} {β : Emb} {w : World} {s s' : DS} {v : Value} {call : zy} {t : PT Value}
theorem fresh.left {β : Emb} {a b c : DS} (h : fresh β a c) (hbc : b.next ≤ c.next) : fresh β a b := fun k h1 h2 => h k h1 (Nat.lt_of_lt_of_le h2 hbc)
theorem fresh.right {β β' : Emb} {a b c : DS} {g g' : Nat → Option DObj} {w w' : World} (h : fresh β a c) (st : Step P β g a.next w β' g' b.next w') : fresh β' b c := by
 intro k h1 h2
 by_cases e : β' k = none
 · exact e
 · have h0 := h k (Nat.le_trans st.le h1) h2
   have := st.dom k h0 e
   omega
theorem NI {o : Oper} (h : (zF P o).cls = .call) : ∃ f args, zF P o = .call f args := by
 cases hd : zF P o <;> rw [hd] at h <;> simp [DOp.cls] at h
 exact ⟨_, _, rfl⟩
theorem Ro {o : Oper} {f : Operand} {args : List Operand} (h : zF P o = .call f args) : ∃ c : Call, o.op = .call c ∧ c.callee = .value f ∧ c.args.toList = args := by
 obtain ⟨dst, op, type, pos, after, guard⟩ := o
 cases op
 case call c =>
  obtain ⟨callee, as, ats⟩ := c
  cases callee with
  | value f0 => simp only [zF, DOp.call.injEq] at h; exact ⟨_, rfl, by rw [h.1], h.2⟩
  | invoke r n => simp [zF] at h
  | builtin b =>
   simp only [zF] at h
   unfold XY Xw at h
   (repeat' split at h) <;> simp at h
 case next it b => cases b <;> simp [zF] at h
 case makeFunc f a b => cases f <;> simp [zF] at h
 case binOp op t x y z => cases op <;> simp only [zF, DG] at h <;> (repeat' split at h) <;> simp at h
 all_goals (simp only [zF] at h; (repeat' split at h) <;> simp at h)
theorem Dm {ρ : Operand → Value} {a : Act} {ro : Option Nat} {next : Act → World → Prop} {Q : Exit → Act → World → Prop} (hcall : JV P call) (o : Oper) (hd : ∀ c, o.op ≠ .defer c)
 (hρ : ∀ x ∈ o.op.operands, VRel β (ρ x) (a.eval x)) (hR : Rel P β s.get w) (hf : fresh β s s') (h : dop call ρ s (zF P o) = some (v, s'))
 (hn : ∀ β' v' w', VRel β' v v' → Step P β s.get s.next w β' s'.get s'.next w' → next (a.put o.dst v') w') : o.wpIn (FW ro) 0 P a w next Q := by
 refine ⟨fun _ _ => trivial, ?_⟩
 rw [show (FW ro).round = ro from rfl, Oper.semAt_eq ro a.eval o hd]
 have done : Pc P o β a.eval w s s' v → o.uponIn (FW ro) 0 P a next Q ((execOp a.eval o).run P w) := by
  rintro ⟨β', v', w', hr | ⟨rfl, hr⟩, hv, st⟩
  · rw [hr]; exact hn β' v' w' hv st
  · rw [hr]; exact hn β' undef w' hv st
 have hfx : s.next < s'.next → β s.next = none := fun h => hf s.next (Nat.le_refl _) h
 unfold dop at h
 split at h
 · rename_i hc
   split at h
   · rename_i v0 hv0
     simp only [z2, Prod.mk.injEq] at h
     obtain ⟨rfl, rfl⟩ := h
     obtain ⟨v', hr, hv⟩ := PQ (w := w) o hρ hc hv0
     exact done ⟨β, v', w, .inl hr, hv, Step.refl hR⟩
   · cases h
 · rename_i hc
   split at h
   · rename_i v0 hv0
     simp only [z2, Prod.mk.injEq] at h
     obtain ⟨rfl, rfl⟩ := h
     obtain ⟨v', hr, hv⟩ := PI o hR hρ hc hv0
     exact done ⟨β, v', w, .inl hr, hv, Step.refl hR⟩
   · cases h
 · exact done (P3 o hR hρ hfx h)
 · exact done (Rn o hR hρ hfx h)
 · rename_i hc
   obtain ⟨f, args, hfa⟩ := NI hc
   rw [hfa] at h
   simp only at h
   obtain ⟨c, h1, h2, h3⟩ := Ro hfa
   have hop : o.op.operands = #[f] ++ c.args := by rw [h1]; simp [Op.operands, Call.operands, h2]
   have hff : VRel β (ρ f) (a.eval f) := hρ f (by rw [hop]; simp)
   have haa : LRel β (args.map ρ) (c.args.map a.eval).toList := by
    rw [Array.toList_map, h3]
    exact LRel.map fun x hx => hρ x (by rw [hop]; simp; exact .inr (by rw [← h3] at hx; simpa using hx))
   have he := hcall (ρ f) (args.map ρ) s v s' h β w (a.eval f) (c.args.map a.eval) hff haa hR hf
   have hexec : (execOp a.eval o).run P w = (do let d ← Deferred.ofValue (a.eval f) (c.args.map a.eval); invoke d.target d.args : Sem Next).run P w := by
    simp only [execOp, h1, resolve, h2]
   rw [hexec]
   exact he.upon fun v' w'' ⟨β', hv, st⟩ => hn β' v' w'' hv st
 · cases h
end
end Go.Dx
namespace Go.Dx
open Go
theorem FC : ∀ (ops : List Oper) (j : Nat), Km ops j = (ops[j]?).bind (·.dst)
 | [], j => by cases j <;> rfl
 | o :: _, 0 => rfl
 | _ :: l, j + 1 => by simp only [Km, FC l j, List.getElem?_cons_succ]
theorem Ft : ∀ {n : Nat} {l : List Operand}, Sr n l = true → ∀ x ∈ l, KZ n x = true
 | _, [], _, x, hx => by cases hx
 | n, y :: l, h, x, hx => by
  simp only [Sr, Bool.and_eq_true] at h
  rcases List.mem_cons.1 hx with rfl | hx
  · exact h.1
  · exact Ft h.2 x hx
structure Fits (P : Program) (n : Nat) (ops : Array Oper) (i : Nat) (l : z9) : Prop where
 op : ∃ o, ops[i]? = some o ∧ l.dst = o.dst ∧ l.op = zF P o ∧ J8 n ops.toList o = true ∧ (∃ g, Yx ops.toList o.guard = some g ∧ l.guard = g)
section
variable {P : Program} {β : Emb} {w : World} {s s' : DS} {v : Value} {call : zy} {t t' : PT Value} {n : Nat} {ops : Array Oper} {ro : Option Nat}
theorem JB {o : Oper} (h : J8 n ops.toList o = true) : ∀ x ∈ o.op.operands, KZ n x = true := by
 unfold J8 at h
 simp only [Bool.and_eq_true] at h
 intro x hx
 exact Ft h.1.1.1 x (by simpa using hx)
theorem DW {o : Oper} (h : J8 n ops.toList o = true) {d : Nat} (hd : o.dst = some d) : d < n := by
 unfold J8 at h
 simp only [Bool.and_eq_true] at h
 have := h.1.1.2
 rw [hd] at this
 exact Wq this
theorem Wi {o : Oper} (h : J8 n ops.toList o = true) {j : Nat} {b : Bool} (hg : o.guard = some (j, b)) : ∃ g, Km ops.toList j = some g ∧ g < n := by
 unfold J8 at h
 simp only [Bool.and_eq_true] at h
 have := h.1.2
 rw [hg] at this
 simp only at this
 cases hd : Km ops.toList j with
 | none => simp [hd] at this
 | some g => simp only [hd] at this; exact ⟨g, rfl, Wq this⟩
theorem JI {o : Oper} (h : J8 n ops.toList o = true) : ∀ c, o.op ≠ .defer c := by
 unfold J8 at h
 simp only [Bool.and_eq_true] at h
 intro c hc
 have := h.2
 rw [hc] at this
 cases this
theorem KR {o : Oper} (hok : J8 n ops.toList o = true) {g : Option (Nat × Bool)} (hg : Yx ops.toList o.guard = some g) {tmps : Array Value}
 (ht : ∀ j b x, o.guard = some (j, b) → Km ops.toList j = some x → VRel β ((t.get x).getD zK) (tmps.getD x undef) ∧ x < tmps.size) :
 Region.wanted o (yielded ops tmps) = Zk t g := by
 cases hgd : o.guard with
 | none =>
  rw [hgd] at hg
  simp only [Yx, z2] at hg
  subst hg
  simp [Region.wanted, Zk, hgd]
 | some jb =>
  obtain ⟨j, b⟩ := jb
  obtain ⟨x, hx, _⟩ := Wi hok hgd
  rw [hgd] at hg
  simp only [Yx, hx, z2] at hg
  subst hg
  obtain ⟨hv, hsz⟩ := ht j b x hgd hx
  rw [FC, Array.getElem?_toList] at hx
  simp only [Region.wanted, hgd, yielded, hx, Option.bind_some, Zk]
  have hgt : tmps[x]? = some (tmps.getD x undef) := by simp [hsz]
  rw [hgt]
  generalize tmps.getD x undef = V at hv
  cases hq : t.get x with
  | none =>
   rw [hq] at hv
   simp only [Option.getD_none] at hv
   cases hv
   cases b <;> rfl
  | some u =>
   rw [hq] at hv
   simp only [z1] at hv
   cases hv <;> first | rfl | (cases b <;> rfl) | (rename_i hh; cases V <;> first | (cases hh; done) | rfl | (cases b <;> rfl))
theorem Si {a : Act} (h : Xg β n t a.tmps) {o : Oper} (hok : J8 n ops.toList o = true) {v v' : Value} (hv : VRel β v v') :
 Xg β n (YQ t o.dst v) (a.put o.dst v').tmps := by
 cases hd : o.dst with
 | none => exact h
 | some d => exact h.put (DW hok hd) hv
theorem TH {a : Act} {Q : Exit → Act → World → Prop} (hcall : JV P call) (hfr : zG call) : ∀ (L : List z9) (idx : List Nat) (t : PT Value) (s : DS) (β : Emb) (a : Act) (w : World),
 L.length = idx.length → (∀ (p : Nat) (l : z9) (i : Nat), L[p]? = some l → idx[p]? = some i → Fits P n ops i l ∧ l.haz = [] ∧ l.note = false) →
 Xf call L [] t s = some (t', s') → Xg β n t a.tmps → Rel P β s.get w → fresh β s s' →
 (∀ β' a' w', Xg β' n t' a'.tmps → a'.defers = a.defers → Step P β s.get s.next w β' s'.get s'.next w' → Q .normal a' w') →
 wpOpsIn (FW ro) 0 P ops Q idx a w := by
 intro L
 induction L with
 | nil =>
  intro idx t s β a w hlen hfit h ht hR hf hQ
  simp only [Xf, z2, Prod.mk.injEq] at h
  obtain ⟨rfl, rfl⟩ := h
  cases idx with
  | nil => exact hQ β a w ht rfl (Step.refl hR)
  | cons i r => simp at hlen
 | cons l L ih =>
  intro idx t s β a w hlen hfit h ht hR hf hQ
  cases idx with
  | nil => simp at hlen
  | cons i idx =>
   obtain ⟨⟨o, ho, hdst, hop, hok, g, hg1, hg2⟩, hhaz, hnote⟩ := hfit 0 l i rfl rfl
   have hrest : ∀ (p : Nat) (l : z9) (i : Nat), L[p]? = some l → idx[p]? = some i → Fits P n ops i l ∧ l.haz = [] ∧ l.note = false := fun p l i h1 h2 => hfit (p + 1) l i (by simpa using h1) (by simpa using h2)
   have hw := KR (β := β) (t := t) (tmps := a.tmps) hok hg1 (fun j b x h1 h2 => ⟨ht.2 x, by
    obtain ⟨x', hx', hlt⟩ := Wi hok h1
    rw [h2] at hx'; cases hx'
    rw [ht.1]; exact hlt⟩)
   rw [wpOpsIn_cons]
   unfold wpOpIn
   simp only [ho]
   rw [hw]
   simp only [Xf, hg2, hhaz, hnote, z3, if_false] at h
   by_cases hwt : Zk t g = true
   · simp only [hwt, if_true] at h ⊢
     cases hd : dop call (ev t) s l.op with
     | none => simp [hd] at h
     | some r =>
      obtain ⟨v, s1⟩ := r
      simp only [hd] at h
      rw [hop] at hd
      have f1 := Xq hfr hd
      have f2 := Gw hfr h
      refine Dm hcall o (JI hok) (fun x hx => ht.ev (JB hok x hx)) hR (hf.left f2.next) hd ?_
      intro β' v' w' hv st
      have ht' : Xg β' n (YQ t l.dst v) (a.put o.dst v').tmps := by rw [hdst]; exact Si (ht.mono st.emb) hok hv
      refine ih idx _ s1 β' (a.put o.dst v') w' (by simpa using hlen) hrest h ht' st.rel (hf.right st) ?_
      intro β2 a2 w2 hT hD st2
      refine hQ β2 a2 w2 hT (hD.trans ?_) (st.trans st2)
      cases o.dst <;> rfl
   · simp only [hwt, z3, if_false] at h ⊢
     refine ⟨fun _ _ => trivial, ?_⟩
     have ht' : Xg β n (YQ t l.dst zK) (a.put o.dst undef).tmps := by rw [hdst]; exact Si ht hok .undef
     refine ih idx _ s β (a.put o.dst undef) w (by simpa using hlen) hrest h ht' hR hf ?_
     intro β2 a2 w2 hT hD st2
     refine hQ β2 a2 w2 hT (hD.trans ?_) st2
     cases o.dst <;> rfl
end
end Go.Dx
