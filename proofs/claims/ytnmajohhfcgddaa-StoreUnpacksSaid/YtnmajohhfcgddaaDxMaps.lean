/- The evaluator Dx: maps are written. -/
import Derived.Test.YtnmajohhfcgddaaDxStore
set_option linter.unusedVariables false
set_option linter.unusedSimpArgs false
set_option linter.unusedSectionVars false
namespace Go.Dx
open Go

section
variable {P : Program} {β : Emb} {w w' : World} {ρ ρ' : Operand → Value} {v : Value} {s s' : DS}

theorem setObj_run {r : Nat} {o o' : Obj} (h : w.heap[r]? = some o) (hc : ∀ a b c, o ≠ .cells a b c) : (setObj r o').run P w = .ok () { w with heap := w.heap.setIfInBounds r o' } := by
  unfold setObj
  cases o <;> first | exact absurd rfl (hc _ _ _) | simp [Sem.run, h]
theorem heap_set_same {r : Nat} {o o' : Obj} (h : w.heap[r]? = some o) : (w.heap.setIfInBounds r o')[r]? = some o' := by
  have := (Array.getElem?_eq_some_iff.1 h).1
  simp [this]
theorem heap_set_other {r q : Nat} {o' : Obj} (h : q ≠ r) : (w.heap.setIfInBounds r o')[q]? = w.heap[q]? := by
  simp [Array.getElem?_setIfInBounds, Ne.symm h]

/-- AN OBJECT THAT IS NO ROW OF CELLS IS WRITTEN. -/
theorem obj_step (hR : Rel P β s.get w) {k : Nat} {o o' : DObj} (h : s.set k o' = some s') (hg : s.get k = some o) (ho : owned o = true) (ho' : owned o' = true) {loc : Loc} (hk : β k = some loc) {O : Obj}
    (hO : ORel P β loc o' { w with heap := w.heap.setIfInBounds loc.blk O }) :
    Step P β s.get s.next w β s'.get s'.next { w with heap := w.heap.setIfInBounds loc.blk O } :=
  Step.write hR h hg ho ho' hk (by simp) (fun r hr => heap_set_other hr) rfl rfl rfl hO

theorem ERel.append : ∀ {a b : List DEntry} {x y : List MapEntry}, ERel β a x → ERel β b y → ERel β (a ++ b) (x ++ y)
  | [], _, [], _, _, h => h
  | _ :: _, _, _ :: _, _, ⟨h1, h2, h3, h4⟩, h => ⟨h1, h2, h3, ERel.append h4 h⟩
  | [], _, _ :: _, _, h, _ => h.elim
  | _ :: _, _, [], _, h, _ => h.elim
theorem ERel.setVal : ∀ {es : List DEntry} {xs : List MapEntry} (i : Nat) {u u' : Value} {kk : Value}, ERel β es xs → VRel β u u' → (∀ x, xs[i]? = some x → kk = x.key) →
    ERel β (Dx.setVal es i u) (xs.modify i fun e => { e with key := kk, val := u' })
  | [], [], _, _, _, _, _, _, _ => by simp [Dx.setVal, ERel]
  | e :: es, x :: xs, 0, _, _, _, ⟨h1, h2, h3, h4⟩, hu, hk => by
    have := hk x rfl
    simp only [Dx.setVal, List.modify_zero_cons]
    exact ⟨⟨h1.1.trans this.symm, h1.2⟩, h2, hu, h4⟩
  | e :: es, x :: xs, i + 1, _, _, _, ⟨h1, h2, h3, h4⟩, hu, hk => by
    simp only [Dx.setVal, List.modify_succ_cons]
    exact ⟨h1, h2, h3, ERel.setVal i h4 hu fun y hy => hk y (by simpa using hy)⟩
  | [], _ :: _, _, _, _, _, h, _, _ => h.elim
  | _ :: _, [], _, _, _, _, h, _, _ => h.elim
theorem ERel.setVal' : ∀ {es : List DEntry} {xs : List MapEntry} (i : Nat) {u u' : Value}, ERel β es xs → VRel β u u' →
    ERel β (Dx.setVal es i u) (xs.modify i fun e => { e with val := u' })
  | [], [], _, _, _, _, _ => by simp [Dx.setVal, ERel]
  | e :: es, x :: xs, 0, _, _, ⟨h1, h2, h3, h4⟩, hu => by
    simp only [Dx.setVal, List.modify_zero_cons]
    exact ⟨h1, h2, hu, h4⟩
  | e :: es, x :: xs, i + 1, _, _, ⟨h1, h2, h3, h4⟩, hu => by
    simp only [Dx.setVal, List.modify_succ_cons]
    exact ⟨h1, h2, h3, ERel.setVal' i h4 hu⟩
  | [], _ :: _, _, _, _, h, _ => h.elim
  | _ :: _, [], _, _, _, h, _ => h.elim
theorem ERel.drop : ∀ {es : List DEntry} {xs : List MapEntry} (i : Nat), ERel β es xs → ERel β (dropE es i) (xs.eraseIdx i)
  | [], [], _, _ => by simp [dropE, ERel]
  | e :: es, x :: xs, 0, ⟨h1, h2, h3, h4⟩ => by simpa [dropE] using h4
  | e :: es, x :: xs, i + 1, ⟨h1, h2, h3, h4⟩ => by simp only [dropE, List.eraseIdx_cons_succ]; exact ⟨h1, h2, h3, ERel.drop i h4⟩
  | [], _ :: _, _, h => h.elim
  | _ :: _, [], _, h => h.elim
theorem isKey_closed {b : KT} {k : Value} (h : isKey b k = true) : closedV k = true := by
  cases b with
  | num => cases k <;> simp [isKey] at h; rfl
  | txt => cases k <;> simp [isKey] at h; rfl
  | agg ks =>
    obtain ⟨⟨a⟩, rfl, h2⟩ := isKey_agg h
    simpa [closedV] using kinds_closed h2
theorem aggEq_eq : ∀ {x y : List Value}, aggEq x y = some true → x = y
  | [], [], _ => rfl
  | [], _ :: _, h => by simp [aggEq] at h
  | v :: x, y, h => by
    cases v <;> try (cases y <;> simp [aggEq] at h; done)
    obtain ⟨m, r', rfl, h | h⟩ := aggEq_cons h
    · rw [h.1, aggEq_eq h.2]
    · cases h.2
theorem keyEq_eq {b : KT} {k k' : Value} (h : keyEq b k k' = some true) : k = k' := by
  cases b with
  | num =>
    cases k <;> try (simp [keyEq] at h; done)
    cases k' <;> try (simp [keyEq] at h; done)
    rename_i k1 a k2 c
    simp only [keyEq] at h
    by_cases e : k1 = k2
    · simp [e] at h; rw [e, h]
    · simp [e] at h
  | txt =>
    cases k <;> try (simp [keyEq] at h; done)
    cases k' <;> try (simp [keyEq] at h; done)
    rename_i a c
    simp only [keyEq, bytesEq_eq, Option.some.injEq, beq_iff_eq] at h
    rw [show a = c from ByteArray.ext (Array.ext' h)]
  | agg ks =>
    cases k <;> try (simp [keyEq] at h; done)
    cases k' <;> try (simp [keyEq] at h; done)
    rename_i a c
    simp only [keyEq] at h
    rw [Array.ext' (aggEq_eq h)]
theorem sameBits_kinds : ∀ {ks : List IntKind} {l : List Value}, kindsOk ks l = true → (l.zip l).all (fun p => Instr.sameBits 9999 p.1 p.2) = true
  | [], _, h => by rw [kindsOk_nil h]; rfl
  | q :: ks, _, h => by
    obtain ⟨n, r, rfl, _, h2⟩ := kindsOk_cons h
    simp [Instr.sameBits, sameBits_kinds h2]
theorem keyStays_run {b : KT} {k : Value} (h : isKey b k = true) : (Instr.keyThatStays k k).run P w = .ok k w := by
  have : Instr.sameBits 10000 k k = true := by
    cases b with
    | num => cases k <;> simp [isKey] at h; simp [Instr.sameBits]
    | txt => cases k <;> simp [isKey] at h; simp [Instr.sameBits, beq_toListBytes]
    | agg ks =>
      obtain ⟨a, rfl, h2⟩ := isKey_agg h
      have := sameBits_kinds h2
      simp only [Instr.sameBits, beq_self_eq_true, Bool.true_and]
      exact this
  simp [Instr.keyThatStays, this]
theorem map_notCells {xs : Array MapEntry} {c : Nat} : ∀ a b d, Obj.map xs c ≠ .cells a b d := fun _ _ _ h => by cases h

/-- what all operations on a map's key share -/
theorem map_open {m k : Operand} {kt : TypeId} {b : KT} {r : Nat} (hb : isStrKey P kt = some b) (hR : Rel P β s.get w) (hm : VRel β (.map (some r)) (ρ' m)) (hk : VRel β (ρ k) (ρ' k)) {es : List DEntry} {clock : Nat} (hg : s.get r = some (.map es clock))
    (hik : isKey b (ρ k) = true) {res : Option (Nat × DEntry)} (hf : findE b (ρ k) es 0 = some res) :
    ∃ loc xs, β r = some loc ∧ ρ' m = .map (some loc.blk) ∧ ρ' k = ρ k ∧ w.heap[loc.blk]? = some (.map xs clock) ∧ ERel β es xs.toList ∧
      ((res = none ∧ ∀ u, (Instr.findKey kt (ρ k) xs.toList).run P u = .ok none u) ∨
       ∃ j e x, res = some (j, e) ∧ (∀ u, (Instr.findKey kt (ρ k) xs.toList).run P u = .ok (some (j, x.val)) u) ∧ xs[j]? = some x ∧ es[j]? = some e ∧ x.key = ρ k ∧ e.born = x.born ∧ VRel β e.val x.val) := by
  generalize hM : ρ' m = M' at hm
  cases hm
  rename_i loc hl
  obtain ⟨l2, h1, xs, hx, hE⟩ := hR.obj r _ hg
  rw [hl] at h1; cases h1
  have hkk := isKey_same hik hk
  refine ⟨loc, xs, hl, rfl, hkk, hx, hE, ?_⟩
  rcases findKey_rel hb hik hE hf with ⟨rfl, e2⟩ | ⟨j, e0, x0, rfl, e2, e3, e4, e5, e6, hv, e7⟩
  · exact .inl ⟨rfl, e2⟩
  · refine .inr ⟨j, e0, x0, rfl, e2, by simpa using e4, e3, ?_, e6, hv⟩
    rw [← e5]; exact (keyEq_eq e7).symm

theorem toList_modify (xs : Array MapEntry) (i : Nat) (f : MapEntry → MapEntry) : (xs.modify i f).toList = xs.toList.modify i f := by
  simp [Array.toList_modify]

theorem upd_core {t : TypeId} {m k x : Operand} {kt e : TypeId} {b : KT} (hu : P.underlying t = some (.map kt e)) (hb : isStrKey P kt = some b) (hR : Rel P β s.get w)
    (hm : VRel β (ρ m) (ρ' m)) (hk : VRel β (ρ k) (ρ' k)) (hx : VRel β (ρ x) (ρ' x)) (h : dwrite ρ s (.mupd b m k x) = some (v, s')) :
    ∃ w', (Instr.mapUpdate t (ρ' m) (ρ' k) (ρ' x)).run P w = .ok () w' ∧ v = undefD ∧ Step P β s.get s.next w β s'.get s'.next w' := by
  simp only [dwrite] at h
  cases hM : ρ m <;> rw [hM] at h hm <;> try (simp only [reduceCtorEq] at h; done)
  rename_i r0
  cases r0 with
  | none => simp at h
  | some r =>
    cases hg : s.get r with
    | none => simp [hg] at h
    | some ob =>
      cases ob <;> simp only [hg, reduceCtorEq] at h
      rename_i es clock
      by_cases hik : isKey b (ρ k) = true
      · simp only [hik, if_true] at h
        cases hf : findE b (ρ k) es 0 with
        | none => simp [hf] at h
        | some res =>
          obtain ⟨loc, xs, hl, e1, e2, hh, hE, hres⟩ := map_open (m := m) hb hR hm hk hg hik hf
          rcases hres with ⟨rfl, hfk⟩ | ⟨j, en, xn, rfl, hfk, hxj, hej, hkey, _, _⟩
          · simp only [hf] at h
            split at h
            · rename_i s1 hs1
              simp only [Option.some.injEq, Prod.mk.injEq] at h
              obtain ⟨rfl, rfl⟩ := h
              have st := obj_step (O := .map (xs.push { key := ρ k, val := ρ' x, born := clock }) (clock + 1)) hR hs1 hg rfl rfl hl ⟨_, heap_set_same hh, by
                rw [Array.toList_push]; exact hE.append ⟨⟨rfl, isKey_closed hik⟩, rfl, hx, trivial⟩⟩
              refine ⟨_, ?_, rfl, st⟩
              simp only [Instr.mapUpdate, Sem.run_bind, underlying_run hu, Result.andThen_ok, e1, e2, getObj_map hh, checkKey_run hb hik, hfk, setObj_run hh map_notCells]
            · simp at h
          · simp only [hf] at h
            split at h
            · rename_i s1 hs1
              simp only [Option.some.injEq, Prod.mk.injEq] at h
              obtain ⟨rfl, rfl⟩ := h
              have st := obj_step (O := .map (xs.modify j fun e => { e with key := ρ k, val := ρ' x }) clock) hR hs1 hg rfl rfl hl ⟨_, heap_set_same hh, by
                rw [toList_modify]; exact hE.setVal j hx fun y hy => by
                  rw [Array.getElem?_toList, hxj] at hy; cases hy; exact hkey.symm⟩
              refine ⟨_, ?_, rfl, st⟩
              have hold : (((xs[j]?).map (·.key)).getD (ρ k)) = ρ k := by rw [hxj]; simp [hkey]
              simp only [Instr.mapUpdate, Sem.run_bind, underlying_run hu, Result.andThen_ok, e1, e2, getObj_map hh, checkKey_run hb hik, hfk, hold, keyStays_run hik, setObj_run hh map_notCells]
            · simp at h
      · simp [hik] at h

theorem mapw_sim (o : Oper) (ho : (∃ t m k x, o.op = .mapUpdate t m k x) ∨ (∃ t m k x, o.op = .insert t m k x)) (hR : Rel P β s.get w) (hρ : ∀ x ∈ o.op.operands, VRel β (ρ x) (ρ' x)) (h : dwrite ρ s (trOp P o) = some (v, s')) :
    Done P o β ρ' w s s' v := by
  obtain ⟨dst, op, type, pos, after, guard⟩ := o
  rcases ho with ⟨t, m, k, x, rfl⟩ | ⟨t, m, k, x, rfl⟩
  all_goals
    have hm := hρ m (by simp [Op.operands])
    have hk := hρ k (by simp [Op.operands])
    have hx := hρ x (by simp [Op.operands])
    simp only [trOp] at h
    split at h
    · rename_i kt e hu
      split at h
      · rename_i b hb
        obtain ⟨w', e1, rfl, st⟩ := upd_core hu hb hR hm hk hx h
        exact ⟨β, undef, w', .inr ⟨rfl, by simp [execOp, e1]⟩, .undef, st⟩
      · simp [dwrite] at h
    · simp [dwrite] at h
end
end Go.Dx
