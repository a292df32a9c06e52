/- A part. -/
import Derived.Test.YtffgmngdgkpflaaGreatDxMake
set_option linter.unusedVariables false
set_option linter.unusedSimpArgs false
set_option linter.unusedSectionVars false
namespace Go.Dx
open Go
section
variable {P : Program} {β : Emb} {w w' : World} {ρ ρ' : Operand → Value} {v : Value} {s s' : DS}
theorem Wt : ∀ (l : List Value) (i : Nat) (v : Value), (Zb l i v).length = l.length
 | [], _, _ => rfl
 | _ :: l, 0, _ => rfl
 | _ :: l, i + 1, v => by simp [Zb, Wt l i v]
theorem Kk : ∀ (l : List Value) (i j : Nat) (v : Value), i < l.length → getN (Zb l i v) j = if j = i then some v else getN l j
 | [], _, _, _, h => absurd h (Nat.not_lt_zero _)
 | _ :: l, 0, j, v, _ => by cases j <;> simp [Zb, getN]
 | _ :: l, i + 1, j, v, h => by
  cases j with
  | zero => simp [Zb, getN]
  | succ j =>
   simp only [Zb, getN, Kk l i j v (by simpa using h)]
   by_cases e : j = i <;> simp [e]
theorem Cells.size_set (c : Cells) (i : Nat) (v : Value) : (c.set i v).size = c.size := by
 cases c <;> simp [Cells.set, Cells.size, Wt]
theorem Cells.get_set (c : Cells) (i j : Nat) (v : Value) (h : i < c.size) : (c.set i v).get j = if j = i then some v else c.get j := by
 cases c with
 | list l => exact Kk l i j v h
 | str l => exact Kk l i j v h
 | tree n z t =>
  simp only [Cells.size] at h
  simp only [Cells.set, Cells.get, h, if_true, PT.get_put]
  by_cases e : j = i
  · subst e; simp [h]
  · simp [e]
theorem Cells.size_fill : ∀ (l : List Value) (c : Cells) (off : Nat), (c.fillFrom off l).size = c.size
 | [], c, _ => rfl
 | v :: l, c, off => by simp only [Cells.fillFrom, Cells.size_fill l, Cells.size_set]
theorem Cells.plain_set (c : Cells) (i : Nat) (v : Value) : (c.set i v).plain = c.plain := by
 cases c <;> rfl
theorem Cells.plain_fill : ∀ (l : List Value) (c : Cells) (off : Nat), (c.fillFrom off l).plain = c.plain
 | [], c, _ => rfl
 | v :: l, c, off => by simp only [Cells.fillFrom, Cells.plain_fill l, Cells.plain_set]
theorem Cells.get_fill : ∀ (l : List Value) (c : Cells) (off j : Nat), off + l.length ≤ c.size →
 (c.fillFrom off l).get j = if off ≤ j ∧ j < off + l.length then l[j - off]? else c.get j
 | [], c, off, j, _ => by simp [Cells.fillFrom]; omega
 | v :: l, c, off, j, h => by
  simp only [List.length_cons] at h
  simp only [Cells.fillFrom]
  rw [Cells.get_fill l (c.set off v) (off + 1) j (by rw [Cells.size_set]; omega), Cells.get_set c off j v (by omega)]
  by_cases e : j = off
  · subst e
    have n1 : ¬ (j + 1 ≤ j ∧ j < j + 1 + l.length) := by omega
    rw [if_neg n1]; simp
  · by_cases e2 : off + 1 ≤ j ∧ j < off + 1 + l.length
    · have e3 : off ≤ j ∧ j < off + (v :: l).length := by simp; omega
      rw [if_pos e2, if_pos e3]
      obtain ⟨m, rfl⟩ : ∃ m, j = off + 1 + m := ⟨j - (off + 1), by omega⟩
      rw [show off + 1 + m - (off + 1) = m from by omega, show off + 1 + m - off = m + 1 from by omega]
      simp
    · have e3 : ¬ (off ≤ j ∧ j < off + (v :: l).length) := by simp; omega
      rw [if_neg e2, if_neg e, if_neg e3]
theorem F1 (w : World) (a : Addr) (v : Value) (r : Nat) (h : r ≠ a.block) : (w.setCell a v).heap[r]? = w.heap[r]? := by
 simp [World.setCell, Array.getElem?_modify, Ne.symm h]
theorem F2 (w : World) (a : Addr) (v : Value) (b : Nat) : JK (w.setCell a v) b = JK w b := by
 unfold JK World.setCell
 simp only [Array.getElem?_modify]
 by_cases h : a.block = b
 · rw [if_pos h]
   cases w.heap[b]? with
   | none => rfl
   | some o => cases o <;> rfl
 · rw [if_neg h]
theorem QI : ∀ (vs : List Value) (b o i : Nat) (w : World), (∀ v ∈ vs, v.oneCell' = true) →
 (∀ j, j < vs.length → (∃ u, w.cell? ⟨b, o + (i + j), none⟩ = some u) ∧ w.frozen? ⟨b, o + (i + j), none⟩ = false) →
 ∃ w', (storeCells ⟨b, o, none⟩ vs i).run P w = .ok () w' ∧ w'.heap.size = w.heap.size ∧ (∀ r, r ≠ b → w'.heap[r]? = w.heap[r]?) ∧ w'.os = w.os ∧ w'.tape = w.tape ∧ w'.output = w.output ∧
  (∀ q, w'.cell? ⟨b, q, none⟩ = if o + i ≤ q ∧ q < o + i + vs.length then vs[q - (o + i)]? else w.cell? ⟨b, q, none⟩) ∧ (∀ a, w'.frozen? a = w.frozen? a) ∧ JK w' b = JK w b
 | [], b, o, i, w, _, _ => ⟨w, rfl, rfl, fun _ _ => rfl, rfl, rfl, rfl, fun q => by simp; omega, fun _ => rfl, rfl⟩
 | v :: vs, b, o, i, w, h1, h2 => by
  obtain ⟨⟨u, hu⟩, hf⟩ := h2 0 (by simp)
  simp only [Nat.add_zero] at hu hf
  have hstep : (store (Addr.add ⟨b, o, none⟩ i) v).run P w = .ok () (w.setCell ⟨b, o + i, none⟩ v) := by
   rw [Addr.add_lit, run_store P w _ v _ (h1 v (by simp))]
   simp [hu, hf]
  obtain ⟨w', e1, e2, e3, e4, e5, e6, e7, e8, e9⟩ := QI vs b o (i + 1) (w.setCell ⟨b, o + i, none⟩ v) (fun x hx => h1 x (by simp [hx])) (by
   intro j hj
   obtain ⟨⟨u2, hu2⟩, hf2⟩ := h2 (j + 1) (by simp; omega)
   rw [show i + (j + 1) = i + 1 + j from by omega] at hu2 hf2
   refine ⟨⟨u2, ?_⟩, by rw [World.frozen?_setCell]; exact hf2⟩
   rw [World.cell?_setCell_other w _ _ _ (by intro h; injection h with h1 h2; omega)]
   exact hu2)
  refine ⟨w', ?_, by rw [e2]; exact World.size_setCell .., fun r hr => (e3 r hr).trans (F1 w _ v r hr), e4, e5, e6, ?_, fun a => (e8 a).trans (World.frozen?_setCell ..), e9.trans (F2 ..)⟩
  · simp only [storeCells, Sem.run_bind, hstep, Result.andThen_ok]
    exact e1
  · intro q
    rw [e7 q]
    by_cases c1 : q = o + i
    · subst c1
      have n1 : ¬ (o + (i + 1) ≤ o + i ∧ o + i < o + (i + 1) + vs.length) := by omega
      have p1 : o + i ≤ o + i ∧ o + i < o + i + (v :: vs).length := by simp
      rw [if_neg n1, if_pos p1, World.cell?_setCell_same w _ _ hu]
      simp
    · rw [World.cell?_setCell_other w _ _ _ (by intro h; injection h with h1 h2; omega)]
      by_cases c2 : o + (i + 1) ≤ q ∧ q < o + (i + 1) + vs.length
      · have p1 : o + i ≤ q ∧ q < o + i + (v :: vs).length := by simp; omega
        rw [if_pos c2, if_pos p1]
        obtain ⟨m, rfl⟩ : ∃ m, q = o + (i + 1) + m := ⟨q - (o + (i + 1)), by omega⟩
        rw [show o + (i + 1) + m - (o + (i + 1)) = m from by omega, show o + (i + 1) + m - (o + i) = m + 1 from by omega]
        simp
      · have n1 : ¬ (o + i ≤ q ∧ q < o + i + (v :: vs).length) := by simp; omega
        rw [if_neg c2, if_neg n1]
theorem CU {v v' : Value} (h : VRel β v v') (ho : zH v = true) : v'.oneCell' = true := by
 cases h <;> simp [zH] at ho <;> first | rfl | (rename_i hh; cases v' <;> first | rfl | cases hh)
theorem Jy : ∀ {l l' : List Value}, LRel β l l' → zL l = true → ∀ v ∈ l', v.oneCell' = true
 | _, _, .nil, _ => by simp
 | _, _, .cons h t, ha => by
  simp only [zL, Bool.and_eq_true] at ha
  intro v hv
  rcases List.mem_cons.1 hv with rfl | hv
  · exact CU h ha.1
  · exact Jy t ha.2 v hv
theorem Qi (hR : Rel P β s.get w) {k off : Nat} {l l' : List Value} (h : s.write k off l = some s') (hl : LRel β l l') (ho : zL l = true) {loc : Loc} (hk : β k = some loc) :
 ∃ w', (storeCells ⟨loc.blk, loc.off + off, none⟩ l' 0).run P w = .ok () w' ∧ Step P β s.get s.next w β s'.get s'.next w' := by
 unfold DS.write at h
 split at h
 · rename_i c hg
   split at h
   · rename_i hle
     have hle := Nat.le_of_ble_eq_true hle
     obtain ⟨l2, h1, hb, hsz, hc, hown, hpl⟩ := hR.obj k _ hg
     rw [hk] at h1; cases h1
     have hlen := hl.length
     obtain ⟨w', e1, e2, e3, e4, e5, e6, e7, e8, e9⟩ := QI (P := P) l' loc.blk (loc.off + off) 0 w (Jy hl ho) (by
      intro j hj
      have := hown rfl (off + j) (by omega)
      simpa [Nat.add_assoc] using this)
     refine ⟨w', e1, Step.write hR h hg rfl rfl hk e2 e3 e4 e5 e6 ⟨by omega, by rw [Cells.size_fill]; exact hsz, ?_, ?_, fun hr hp => ⟨fun i => by rw [e8]; exact (hpl hr (by rw [← Cells.plain_fill l c off]; exact hp)).1 i, by rw [e9]; exact (hpl hr (by rw [← Cells.plain_fill l c off]; exact hp)).2⟩⟩⟩
     · intro i v hv
       rw [Cells.get_fill l c off i hle] at hv
       rw [e7]
       by_cases cnd : off ≤ i ∧ i < off + l.length
       · rw [if_pos cnd] at hv
         have cnd' : loc.off + off + 0 ≤ loc.off + i ∧ loc.off + i < loc.off + off + 0 + l'.length := by omega
         rw [if_pos cnd', show loc.off + i - (loc.off + off + 0) = i - off from by omega]
         exact hl.get? hv
       · rw [if_neg cnd] at hv
         have cnd' : ¬ (loc.off + off + 0 ≤ loc.off + i ∧ loc.off + i < loc.off + off + 0 + l'.length) := by omega
         rw [if_neg cnd']
         exact hc i v hv
     · intro hr i hi
       obtain ⟨⟨u, hu⟩, hf⟩ := hown hr i hi
       refine ⟨?_, by rw [e8]; exact hf⟩
       rw [e7]
       by_cases cnd : loc.off + off + 0 ≤ loc.off + i ∧ loc.off + i < loc.off + off + 0 + l'.length
       · rw [if_pos cnd]
         exact ⟨_, List.getElem?_eq_getElem (by omega)⟩
       · rw [if_neg cnd]; exact ⟨u, hu⟩
   · cases h
 · cases h
theorem Pc {o : Oper} {t : TypeId} {a x : Operand} (ho : o.op = .store t a x) (hR : Rel P β s.get w) (hρ : ∀ x ∈ o.op.operands, VRel β (ρ x) (ρ' x)) (h : z6 ρ s (ZJ P o) = some (v, s')) :
 PY P o β ρ' w s s' v := by
 obtain ⟨dst, op, type, pos, after, guard⟩ := o
 subst ho
 have ha := hρ a (by simp [Op.operands])
 have hx := hρ x (by simp [Op.operands])
 simp only [ZJ] at h
 cases hs : YW P t with
 | none => simp [hs, z6] at h
 | some sz =>
  simp only [hs, z6] at h
  generalize ρ a = A at ha h
  generalize hA : ρ' a = A' at ha
  cases ha <;> try (simp only [reduceCtorEq] at h; done)
  rename_i k off loc hl
  simp only at h
  split at h
  · rename_i hc
    simp only [Bool.and_eq_true] at hc
    have hn := Nat.eq_of_beq_eq_true hc.1
    split at h
    · rename_i s1 hw
      simp only [z2, Prod.mk.injEq] at h
      obtain ⟨rfl, rfl⟩ := h
      obtain ⟨w', e1, st⟩ := Qi hR hw hx.cells hc.2 hl
      refine ⟨β, undef, w', .inr ⟨rfl, ?_⟩, .undef, st⟩
      have hsz : (ρ' x).cells.size = sz := by rw [← Array.length_toList, ← hx.cells.length]; exact hn
      simp [execOp, Instr.storeAt, hA, Instr.sureAddr, storeVar, Zs hs, hsz, e1]
    · simp at h
  · simp at h
end
end Go.Dx
