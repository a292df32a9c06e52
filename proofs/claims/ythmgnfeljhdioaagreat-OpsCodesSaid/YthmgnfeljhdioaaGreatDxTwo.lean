/- A part. -/
import Derived.Test.YthmgnfeljhdioaaGreatDxTopM
import Derived.Test.YthmgnfeljhdioaaGreatDxC
set_option linter.unusedVariables false
set_option linter.unusedSimpArgs false
set_option linter.unusedSectionVars false
namespace Go.Dx
open Go
theorem MM {P : Program} {W : World} {s : DS} {β : Emb} {ks : List Kd} {v : Value} {l : List (List Value)} (hR : Rel P β s.get W) (hn : ∀ k, s.next ≤ k → β k = none) (hro : ∀ k o, s.get k = some o → owned o = false) (hG : s.Good) (h : JR W ks v l) (hp : ks.all Gc = true) :
 ∃ (s' : DS) (β' : Emb) (v' : Value), VRel β' v' v ∧ β.le β' ∧ Rel P β' s'.get W ∧ (∀ k, s'.next ≤ k → β' k = none) ∧ (∀ k o, s'.get k = some o → owned o = false) ∧ s'.Good ∧ VY s' v' l ∧ Ext [] s s' := by
 rcases h with ⟨rfl, rfl⟩ | ⟨b, o, c, rfl, hc, hm, hb, hf, hcell⟩
 · exact ⟨s, β, .slice none 0 0, .nilSlice, Emb.le.refl _, hR, hn, hro, hG, .inl ⟨rfl, rfl⟩, .refl⟩
 · have hlen : ∀ x, x ∈ l → x.length = ks.length := fun x hx => z7.length (hf x hx)
   obtain ⟨ob, hob⟩ : ∃ ob : DObj, ob = .cells (.list l.flatten) true := ⟨_, rfl⟩
   obtain ⟨lc, hlc⟩ : ∃ lc : Loc, lc = ⟨b, o, 0, 1, l.flatten.length⟩ := ⟨_, rfl⟩
   obtain ⟨β', hβ⟩ : ∃ β' : Emb, β' = fun k => if k = s.next then some lc else β k := ⟨_, rfl⟩
   have hle : β.le β' := fun k x hx => by
    have hne : k ≠ s.next := fun e => by rw [hn k (by omega)] at hx; cases hx
    rw [hβ]
    show (if k = s.next then some lc else β k) = some x
    rw [if_neg hne]; exact hx
   have hat : β' s.next = some lc := by rw [hβ]; simp
   have hget : ∀ k ob', (s.new ob).get k = some ob' → (k = s.next ∧ ob' = ob) ∨ (k < s.next ∧ s.get k = some ob') := by
    intro k ob' hk
    have hlt : k < s.next + 1 := DS.get_lt' hk
    by_cases e : k = s.next
    · subst e
      rw [DS.new_get_self hG] at hk
      cases hk
      exact .inl ⟨rfl, rfl⟩
    · have h2 : k < s.next := by omega
      rw [DS.new_get_lt h2] at hk
      exact .inr ⟨h2, hk⟩
   have hro' : ∀ k o', (s.new ob).get k = some o' → owned o' = false := fun k o' hk => by
    rcases hget k o' hk with ⟨_, rfl⟩ | ⟨_, h⟩
    · rw [hob]; rfl
    · exact hro k o' h
   refine ⟨s.new ob, β', .slice (some ⟨s.next, 0, none⟩) l.length c, ?_, hle, ⟨?_, ?_⟩, ?_, hro', DS.new_good hG, .inr ⟨s.next, c, rfl, by rw [DS.new_get_self hG, hob]⟩, Ext.new⟩
   · subst hlc
     exact .closed (l := ⟨b, o, 0, 1, l.flatten.length⟩) hat hc (.inr rfl)
   · intro k ob' hk
     rcases hget k ob' hk with ⟨rfl, rfl⟩ | ⟨_, h⟩
     · refine ⟨lc, hat, ?_⟩
       subst hob hlc
       refine ⟨hb, rfl, fun i v hv => ?_, fun h => (nomatch h), fun h => (nomatch h)⟩
       have hv' : l.flatten[i]? = some v := by rw [← QV]; exact hv
       obtain ⟨q, r, x, h1, h2, h3⟩ := Gk hlen hv'
       refine ⟨v, ?_, KN (hf x (List.mem_of_getElem? h1)) hp h2⟩
       have := hcell q x h1 r v h2
       rw [h3, ← Nat.add_assoc]
       exact this
     · obtain ⟨x, hx, ho⟩ := hR.obj k ob' h
       exact ⟨x, hle k x hx, ho.keep hle rfl⟩
   · intro k k' o1 o2 l1 l2 h1 _ _ _ _ ho
     rw [hro' k o1 h1] at ho
     cases ho
   · intro k hk
     have : s.next + 1 ≤ k := hk
     rw [hβ]
     show (if k = s.next then some lc else β k) = none
     rw [if_neg (by omega)]
     exact hn k (by omega)
end Go.Dx
