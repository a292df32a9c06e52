/- A part. -/
import Derived.Test.YthmgnfeljhdioaaGreatDxApp
set_option linter.unusedVariables false
set_option linter.unusedSimpArgs false
set_option linter.unusedSectionVars false
namespace Go.Dx
open Go
section
variable {P : Program} {β : Emb} {w w' : World} {ρ ρ' : Operand → Value} {v : Value} {s s' : DS}
theorem TG (o : Oper) (hR : Rel P β s.get w) (hρ : ∀ x ∈ o.op.operands, VRel β (ρ x) (ρ' x)) (hf : s.next < s'.next → β s.next = none) (h : zl ρ s (zC P o) = some (v, s')) :
 Sk P o β ρ' w s s' v := by
 obtain ⟨dst, op, type, pos, after, guard⟩ := o
 cases op
 case store t a x => exact TI rfl hR hρ h
 case mapUpdate t m k x => exact Fp _ (.inl ⟨t, m, k, x, rfl⟩) hR hρ h
 case insert t m k x => exact Fp _ (.inr ⟨t, m, k, x, rfl⟩) hR hρ h
 case mapEntry t m k =>
  have hm := hρ m (by simp [Op.operands])
  have hk := hρ k (by simp [Op.operands])
  simp only [zC] at h
  split at h
  · rename_i kt e hu
    split at h
    · rename_i b z hb hz
      split at h
      · rename_i hcz
        obtain ⟨v', w', e1, e2, st⟩ := TZ hu hb hz hcz hR hm hk h
        exact ⟨β, v', w', .inl (by simp [execOp, e1]), e2, st⟩
      · simp [zl] at h
    · simp [zl] at h
  · simp [zl] at h
 case entryStore t m b x =>
  simp only [zC] at h
  obtain ⟨w', e1, rfl, st⟩ := FR (t := t) hR (hρ m (by simp [Op.operands])) (hρ b (by simp [Op.operands])) (hρ x (by simp [Op.operands])) h
  exact ⟨β, undef, w', .inr ⟨rfl, by simp [execOp, e1]⟩, .undef, st⟩
 case next it b =>
  cases b with
  | true => simp [zC, zl] at h
  | false =>
   simp only [zC] at h
   obtain ⟨v', w', e1, e2, st⟩ := Rx (ty := type) hR (hρ it (by simp [Op.operands])) h
   exact ⟨β, v', w', .inl (by simp [execOp, e1]), e2, st⟩
 case convert src dst' x =>
  have hx := hρ x (by simp [Op.operands])
  simp only [zC] at h
  split at h
  · simp [zl] at h
  · simp [zl] at h
  · split at h <;> simp [zl] at h
  · split at h <;> simp [zl] at h
  · rename_i e0 e hs hd
    split at h
    · rename_i hsd
      subst hsd
      split at h
      · rename_i he
        obtain ⟨v', w', e1, e2, st⟩ := Pg hd he hR hx h
        exact ⟨β, v', w', .inl (by simp [execOp, e1]), e2, st⟩
      · simp [zl] at h
    · simp [zl] at h
  · simp [zl] at h
 case call c =>
  obtain ⟨callee, args, ats⟩ := c
  cases callee with
  | value f => simp only [zC, zl] at h; cases h
  | invoke r n => simp only [zC, zl] at h; cases h
  | builtin b =>
   simp only [zC] at h
   have hargs : ∀ x ∈ args.toList, VRel β (ρ x) (ρ' x) := fun x hx => hρ x (by simp [Op.operands, Call.operands]; simpa using hx)
   have ea : args = args.toList.toArray := by simp
   have et : ats = ats.toList.toArray := by simp
   generalize args.toList = al at *
   generalize ats.toList = tl at *
   subst ea; subst et
   unfold Y8 at h
   split at h
   · rename_i sx x t u rest
     have h1 := hargs sx (by simp)
     have h2 := hargs x (by simp)
     have key : ∀ e (hu : P.underlying t = some (.slice e)) (hz : J1 P u), zl ρ s (YS P e sx x) = some (v, s') → Sk P ⟨dst, .call ⟨.builtin .append, #[sx, x], (t :: u :: rest).toArray⟩, type, pos, after, guard⟩ β ρ' w s s' v := by
      intro e hu hz h
      unfold YS at h
      split at h
      · rename_i sz by_ z hs hb hzo
        split at h
        · rename_i hzl
          obtain ⟨β', v', w', e1, e2, st⟩ := Px (ty := type) (rest := rest) hu hz hs (Nat.succ_pos _) hb hzo (Nat.eq_of_beq_eq_true hzl) hR h1 h2 hf h
          exact ⟨β', v', w', .inl (by simp only [execOp, resolve, Sem.run_bind, Sem.run_pure, Result.andThen_ok, invoke, builtin, List.map_toArray, z4, z5, e1]), e2, st⟩
        · simp [zl] at h
      · simp [zl] at h
     split at h
     · rename_i e e2 hu hz
       exact key e hu (.inl ⟨e2, hz⟩) h
     · rename_i e hu hz
       exact key e hu (.inr hz) h
     · rename_i e q hu hz
       split at h
       · rename_i sz by_ z hs hb hzo
         split at h
         · rename_i hzl
           obtain ⟨β', v', w', e1, e2, st⟩ := Sg (ty := type) (rest := rest) hu hz hs (Nat.succ_pos _) hb hzo (Nat.eq_of_beq_eq_true hzl) hR h1 h2 hf h
           exact ⟨β', v', w', .inl (by simp only [execOp, resolve, Sem.run_bind, Sem.run_pure, Result.andThen_ok, invoke, builtin, List.map_toArray, z4, z5, e1]), e2, st⟩
         · simp [zl] at h
       · simp [zl] at h
     · simp [zl] at h
   · (repeat' split at h) <;> simp [zl] at h
   · (repeat' split at h) <;> simp [zl] at h
   · rename_i d x t rest
     have h1 := hargs d (by simp)
     have h2 := hargs x (by simp)
     split at h
     · rename_i e hu
       split at h
       · rename_i sz hs
         obtain ⟨v', w', e1, e2, st⟩ := Sb (ty := type) (rest := rest) hu hs hR h1 h2 h
         exact ⟨β, v', w', .inl (by simp only [execOp, resolve, Sem.run_bind, Sem.run_pure, Result.andThen_ok, invoke, builtin, List.map_toArray, z4, z5, e1]), e2, st⟩
       · simp [zl] at h
     · simp [zl] at h
   · rename_i m k t rest
     have h1 := hargs m (by simp)
     have h2 := hargs k (by simp)
     split at h
     · rename_i kt e hu
       split at h
       · rename_i b hb
         obtain ⟨v', w', e1, e2, st⟩ := Pd (u := t) (ty := type) (rest := rest) hu hb hR h1 h2 h
         exact ⟨β, v', w', .inl (by simp only [execOp, resolve, Sem.run_bind, Sem.run_pure, Result.andThen_ok, invoke, builtin, List.map_toArray, z4, z5, e1]), e2, st⟩
       · simp [zl] at h
     · simp [zl] at h
   · rename_i m t rest
     have h1 := hargs m (by simp)
     split at h
     · rename_i kt e hu
       obtain ⟨v', w', e1, e2, st⟩ := Pk (ty := type) (rest := rest) hu hR h1 h
       exact ⟨β, v', w', .inl (by simp only [execOp, resolve, Sem.run_bind, Sem.run_pure, Result.andThen_ok, invoke, builtin, List.map_toArray, z4, z5, e1]), e2, st⟩
     · rename_i e hu
       split at h
       · rename_i z hz
         split at h
         · rename_i hz0
           obtain ⟨v', w', e1, e2, st⟩ := Sc (ty := type) (rest := rest) hu hz ((zX _ _).1 hz0) hR h1 h
           exact ⟨β, v', w', .inl (by simp only [execOp, resolve, Sem.run_bind, Sem.run_pure, Result.andThen_ok, invoke, builtin, List.map_toArray, z4, z5, e1]), e2, st⟩
         · simp [zl] at h
       · simp [zl] at h
     · simp [zl] at h
   · (repeat' split at h) <;> simp [zl] at h
   · (repeat' split at h) <;> simp [zl] at h
   · simp [zl] at h
 case makeFunc f a b => cases f <;> simp [zC, zl] at h
 case binOp op t x y z => cases op <;> simp only [zC, GN] at h <;> (repeat' split at h) <;> simp [zl] at h
 all_goals (simp only [zC] at h; (repeat' split at h) <;> simp [zl] at h)
end
end Go.Dx
