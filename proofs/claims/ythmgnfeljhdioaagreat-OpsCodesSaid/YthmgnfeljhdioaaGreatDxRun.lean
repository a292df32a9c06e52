/- A part. -/
import Derived.Test.YthmgnfeljhdioaaGreatDxFrame
set_option linter.unusedVariables false
set_option linter.unusedSimpArgs false
set_option linter.unusedSectionVars false
namespace Go.Dx
open Go
def FW (ro : Option Nat) : Fence := { Fence.wide with round := ro }
theorem K7 (ro : Option Nat) : (FW ro).depth = none := rfl
def Enters (P : Program) (r : Result Next) (K : Value → World → Prop) : Prop :=
 match r with
 | .ok (.enter f args) w' => CallsIn Fence.wide 0 P f args w' fun e w'' => ∃ v', e = .returned v' ∧ K v' w''
 | .ok (.round l f tmps assign body) w' => RoundIn Fence.wide 0 P l f tmps assign body w' fun e w'' => ∃ v', e = .returned v' ∧ K v' w''
 | _ => False
theorem Enters.upon {P : Program} {r : Result Next} {K : Value → World → Prop} (h : Enters P r K) {ro : Option Nat} {o : Oper} {a : Act} {next : Act → World → Prop} {Q : Exit → Act → World → Prop}
 (hn : ∀ v' w'', K v' w'' → next (a.put o.dst v') w'') : o.uponIn (FW ro) 0 P a next Q r := by
 unfold Enters at h
 split at h
 · refine ⟨fun h => by simp [K7] at h, ?_⟩
   refine CallsIn.mono (F := FW ro) (R := fun e w'' => ∃ v', e = .returned v' ∧ K v' w'') h ?_
   rintro e w'' ⟨v', rfl, hk⟩
   exact hn v' w'' hk
 · refine ⟨fun h => by simp [K7] at h, ?_⟩
   refine RoundIn.mono (F := FW ro) (R := fun e w'' => ∃ v', e = .returned v' ∧ K v' w'') h ?_
   rintro e w'' ⟨v', rfl, hk⟩
   exact hn v' w'' hk
 · exact h.elim
def fresh (β : Emb) (s s' : DS) : Prop := ∀ k, s.next ≤ k → k < s'.next → β k = none
def QG (P : Program) (call : zn) : Prop := ∀ fv args s v s', call fv args s = some (v, s') →
 ∀ (β : Emb) (w : World) (fv' : Value) (args' : Array Value), VRel β fv fv' → LRel β args args'.toList → Rel P β s.get w → fresh β s s' →
  Enters P ((do let d ← Deferred.ofValue fv' args'; invoke d.target d.args : Sem Next).run P w) fun v' w' => ∃ β', VRel β' v v' ∧ Step P β s.get s.next w β' s'.get s'.next w'
section
variable {P : Program} {β : Emb} {w : World} {s s' : DS} {v : Value} {call : zn} {t : PT Value}
theorem fresh.left {β : Emb} {a b c : DS} (h : fresh β a c) (hbc : b.next ≤ c.next) : fresh β a b := fun k h1 h2 => h k h1 (Nat.lt_of_lt_of_le h2 hbc)
theorem fresh.right {β β' : Emb} {a b c : DS} {g g' : Nat → Option DObj} {w w' : World} (h : fresh β a c) (st : Step P β g a.next w β' g' b.next w') : fresh β' b c := by
 intro k h1 h2
 by_cases e : β' k = none
 · exact e
 · have h0 := h k (Nat.le_trans st.le h1) h2
   have := st.dom k h0 e
   omega
theorem Pj {o : Oper} (h : (zC P o).cls = .call) : ∃ f args, zC P o = .call f args := by
 cases hd : zC P o <;> rw [hd] at h <;> simp [DOp.cls] at h
 exact ⟨_, _, rfl⟩
theorem TH {o : Oper} {f : Operand} {args : List Operand} (h : zC P o = .call f args) : ∃ c : Call, o.op = .call c ∧ c.callee = .value f ∧ c.args.toList = args := by
 obtain ⟨dst, op, type, pos, after, guard⟩ := o
 cases op
 case call c =>
  obtain ⟨callee, as, ats⟩ := c
  cases callee with
  | value f0 => simp only [zC, DOp.call.injEq] at h; exact ⟨_, rfl, by rw [h.1], h.2⟩
  | invoke r n => simp [zC] at h
  | builtin b =>
   simp only [zC] at h
   unfold Y8 YS at h
   (repeat' split at h) <;> simp at h
 case next it b => cases b <;> simp [zC] at h
 case makeFunc f a b => cases f <;> simp [zC] at h
 case binOp op t x y z => cases op <;> simp only [zC, GN] at h <;> (repeat' split at h) <;> simp at h
 all_goals (simp only [zC] at h; (repeat' split at h) <;> simp at h)
theorem Gp {ρ : Operand → Value} {a : Act} {ro : Option Nat} {next : Act → World → Prop} {Q : Exit → Act → World → Prop} (hcall : QG P call) (o : Oper) (hd : ∀ c, o.op ≠ .defer c)
 (hρ : ∀ x ∈ o.op.operands, VRel β (ρ x) (a.eval x)) (hR : Rel P β s.get w) (hf : fresh β s s') (h : dop call ρ s (zC P o) = some (v, s'))
 (hn : ∀ β' v' w', VRel β' v v' → Step P β s.get s.next w β' s'.get s'.next w' → next (a.put o.dst v') w') : o.wpIn (FW ro) 0 P a w next Q := by
 refine ⟨fun _ _ => trivial, ?_⟩
 rw [show (FW ro).round = ro from rfl, Oper.semAt_eq ro a.eval o hd]
 have done : Sk P o β a.eval w s s' v → o.uponIn (FW ro) 0 P a next Q ((execOp a.eval o).run P w) := by
  rintro ⟨β', v', w', hr | ⟨rfl, hr⟩, hv, st⟩
  · rw [hr]; exact hn β' v' w' hv st
  · rw [hr]; exact hn β' undef w' hv st
 have hfx : s.next < s'.next → β s.next = none := fun h => hf s.next (Nat.le_refl _) h
 unfold dop at h
 split at h
 · rename_i hc
   split at h
   · rename_i v0 hv0
     simp only [z2, Prod.mk.injEq] at h
     obtain ⟨rfl, rfl⟩ := h
     obtain ⟨v', hr, hv⟩ := Rr (w := w) o hρ hc hv0
     exact done ⟨β, v', w, .inl hr, hv, Step.refl hR⟩
   · cases h
 · rename_i hc
   split at h
   · rename_i v0 hv0
     simp only [z2, Prod.mk.injEq] at h
     obtain ⟨rfl, rfl⟩ := h
     obtain ⟨v', hr, hv⟩ := Rh o hR hρ hc hv0
     exact done ⟨β, v', w, .inl hr, hv, Step.refl hR⟩
   · cases h
 · exact done (Ry o hR hρ hfx h)
 · exact done (TG o hR hρ hfx h)
 · rename_i hc
   obtain ⟨f, args, hfa⟩ := Pj hc
   rw [hfa] at h
   simp only at h
   obtain ⟨c, h1, h2, h3⟩ := TH hfa
   have hop : o.op.operands = #[f] ++ c.args := by rw [h1]; simp [Op.operands, Call.operands, h2]
   have hff : VRel β (ρ f) (a.eval f) := hρ f (by rw [hop]; simp)
   have haa : LRel β (args.map ρ) (c.args.map a.eval).toList := by
    rw [Array.toList_map, h3]
    exact LRel.map fun x hx => hρ x (by rw [hop]; simp; exact .inr (by rw [← h3] at hx; simpa using hx))
   have he := hcall (ρ f) (args.map ρ) s v s' h β w (a.eval f) (c.args.map a.eval) hff haa hR hf
   have hexec : (execOp a.eval o).run P w = (do let d ← Deferred.ofValue (a.eval f) (c.args.map a.eval); invoke d.target d.args : Sem Next).run P w := by
    simp only [execOp, h1, resolve, h2]
   rw [hexec]
   exact he.upon fun v' w'' ⟨β', hv, st⟩ => hn β' v' w'' hv st
 · cases h
end
end Go.Dx
