/- A part. -/
import Derived.Test.YtffgmngdgkpflaaGreatDxStore
set_option linter.unusedVariables false
set_option linter.unusedSimpArgs false
set_option linter.unusedSectionVars false
namespace Go.Dx
open Go
section
variable {P : Program} {β : Emb} {w w' : World} {ρ ρ' : Operand → Value} {v : Value} {s s' : DS}
theorem Xv {r : Nat} {o o' : Obj} (h : w.heap[r]? = some o) (hc : ∀ a b c, o ≠ .cells a b c) : (setObj r o').run P w = .ok () { w with heap := w.heap.setIfInBounds r o' } := by
 unfold setObj
 cases o <;> first | exact absurd rfl (hc _ _ _) | simp [Sem.run, h]
theorem YC {r : Nat} {o o' : Obj} (h : w.heap[r]? = some o) : (w.heap.setIfInBounds r o')[r]? = some o' := by
 have := (Array.getElem?_eq_some_iff.1 h).1
 simp [this]
theorem Fo {r q : Nat} {o' : Obj} (h : q ≠ r) : (w.heap.setIfInBounds r o')[q]? = w.heap[q]? := by
 simp [Array.getElem?_setIfInBounds, Ne.symm h]
theorem WA (hR : Rel P β s.get w) {k : Nat} {o o' : DObj} (h : s.set k o' = some s') (hg : s.get k = some o) (ho : owned o = true) (ho' : owned o' = true) {loc : Loc} (hk : β k = some loc) {O : Obj}
 (hO : Gc P β loc o' { w with heap := w.heap.setIfInBounds loc.blk O }) :
 Step P β s.get s.next w β s'.get s'.next { w with heap := w.heap.setIfInBounds loc.blk O } :=
 Step.write hR h hg ho ho' hk (by simp) (fun r hr => Fo hr) rfl rfl rfl hO
theorem YT.append : ∀ {a b : List Yo} {x y : List MapEntry}, YT β a x → YT β b y → YT β (a ++ b) (x ++ y)
 | [], _, [], _, _, h => h
 | _ :: _, _, _ :: _, _, ⟨h1, h2, h3, h4⟩, h => ⟨h1, h2, h3, YT.append h4 h⟩
 | [], _, _ :: _, _, h, _ => h.elim
 | _ :: _, _, [], _, h, _ => h.elim
theorem YT.setVal : ∀ {es : List Yo} {xs : List MapEntry} (i : Nat) {u u' : Value} {kk : Value}, YT β es xs → VRel β u u' → (∀ x, xs[i]? = some x → kk = x.key) →
 YT β (Dx.setVal es i u) (xs.modify i fun e => { e with key := kk, val := u' })
 | [], [], _, _, _, _, _, _, _ => by simp [Dx.setVal, YT]
 | e :: es, x :: xs, 0, _, _, _, ⟨h1, h2, h3, h4⟩, hu, hk => by
  have := hk x rfl
  simp only [Dx.setVal, List.modify_zero_cons]
  exact ⟨⟨h1.1.trans this.symm, h1.2⟩, h2, hu, h4⟩
 | e :: es, x :: xs, i + 1, _, _, _, ⟨h1, h2, h3, h4⟩, hu, hk => by
  simp only [Dx.setVal, List.modify_succ_cons]
  exact ⟨h1, h2, h3, YT.setVal i h4 hu fun y hy => hk y (by simpa using hy)⟩
 | [], _ :: _, _, _, _, _, h, _, _ => h.elim
 | _ :: _, [], _, _, _, _, h, _, _ => h.elim
theorem YT.setVal' : ∀ {es : List Yo} {xs : List MapEntry} (i : Nat) {u u' : Value}, YT β es xs → VRel β u u' →
 YT β (Dx.setVal es i u) (xs.modify i fun e => { e with val := u' })
 | [], [], _, _, _, _, _ => by simp [Dx.setVal, YT]
 | e :: es, x :: xs, 0, _, _, ⟨h1, h2, h3, h4⟩, hu => by
  simp only [Dx.setVal, List.modify_zero_cons]
  exact ⟨h1, h2, hu, h4⟩
 | e :: es, x :: xs, i + 1, _, _, ⟨h1, h2, h3, h4⟩, hu => by
  simp only [Dx.setVal, List.modify_succ_cons]
  exact ⟨h1, h2, h3, YT.setVal' i h4 hu⟩
 | [], _ :: _, _, _, _, h, _ => h.elim
 | _ :: _, [], _, _, _, h, _ => h.elim
theorem YT.drop : ∀ {es : List Yo} {xs : List MapEntry} (i : Nat), YT β es xs → YT β (DK es i) (xs.eraseIdx i)
 | [], [], _, _ => by simp [DK, YT]
 | e :: es, x :: xs, 0, ⟨h1, h2, h3, h4⟩ => by simpa [DK] using h4
 | e :: es, x :: xs, i + 1, ⟨h1, h2, h3, h4⟩ => by simp only [DK, List.eraseIdx_cons_succ]; exact ⟨h1, h2, h3, YT.drop i h4⟩
 | [], _ :: _, _, h => h.elim
 | _ :: _, [], _, h => h.elim
theorem Vc {b : KT} {k : Value} (h : isKey b k = true) : closedV k = true := by
 cases b with
 | num => cases k <;> simp [isKey] at h; rfl
 | txt => cases k <;> simp [isKey] at h; rfl
 | agg ks =>
  obtain ⟨⟨a⟩, rfl, h2⟩ := Ki h
  simpa [closedV] using Jq h2
theorem TN : ∀ {x y : List Value}, WI x y = some true → x = y
 | [], [], _ => rfl
 | [], _ :: _, h => by simp [WI] at h
 | v :: x, y, h => by
  cases v <;> try (cases y <;> simp [WI] at h; done)
  obtain ⟨m, r', rfl, h | h⟩ := KN h
  · rw [h.1, TN h.2]
  · cases h.2
theorem Mc {b : KT} {k k' : Value} (h : Xh b k k' = some true) : k = k' := by
 cases b with
 | num =>
  cases k <;> try (simp [Xh] at h; done)
  cases k' <;> try (simp [Xh] at h; done)
  rename_i k1 a k2 c
  simp only [Xh] at h
  by_cases e : k1 = k2
  · simp [e] at h; rw [e, h]
  · simp [e] at h
 | txt =>
  cases k <;> try (simp [Xh] at h; done)
  cases k' <;> try (simp [Xh] at h; done)
  rename_i a c
  simp only [Xh, Wo, z2, beq_iff_eq] at h
  rw [show a = c from ByteArray.ext (Array.ext' h)]
 | agg ks =>
  cases k <;> try (simp [Xh] at h; done)
  cases k' <;> try (simp [Xh] at h; done)
  rename_i a c
  simp only [Xh] at h
  rw [Array.ext' (TN h)]
theorem JJ : ∀ {ks : List IntKind} {l : List Value}, Yi ks l = true → (l.zip l).all (fun p => Instr.sameBits 9999 p.1 p.2) = true
 | [], _, h => by rw [W2 h]; rfl
 | q :: ks, _, h => by
  obtain ⟨n, r, rfl, _, h2⟩ := Xy h
  simp [Instr.sameBits, JJ h2]
theorem Vb {b : KT} {k : Value} (h : isKey b k = true) : (Instr.keyThatStays k k).run P w = .ok k w := by
 have : Instr.sameBits 10000 k k = true := by
  cases b with
  | num => cases k <;> simp [isKey] at h; simp [Instr.sameBits]
  | txt => cases k <;> simp [isKey] at h; simp [Instr.sameBits, beq_toListBytes]
  | agg ks =>
   obtain ⟨a, rfl, h2⟩ := Ki h
   have := JJ h2
   simp only [Instr.sameBits, beq_self_eq_true, Bool.true_and]
   exact this
 simp [Instr.keyThatStays, this]
theorem YX {xs : Array MapEntry} {c : Nat} : ∀ a b d, Obj.map xs c ≠ .cells a b d := fun _ _ _ h => by cases h
theorem Fd {m k : Operand} {kt : TypeId} {b : KT} {r : Nat} (hb : YP P kt = some b) (hR : Rel P β s.get w) (hm : VRel β (.map (some r)) (ρ' m)) (hk : VRel β (ρ k) (ρ' k)) {es : List Yo} {clock : Nat} (hg : s.get r = some (.map es clock))
 (hik : isKey b (ρ k) = true) {res : Option (Nat × Yo)} (hf : Wl b (ρ k) es 0 = some res) :
 ∃ loc xs, β r = some loc ∧ ρ' m = .map (some loc.blk) ∧ ρ' k = ρ k ∧ w.heap[loc.blk]? = some (.map xs clock) ∧ YT β es xs.toList ∧
  ((res = none ∧ ∀ u, (Instr.findKey kt (ρ k) xs.toList).run P u = .ok none u) ∨
   ∃ j e x, res = some (j, e) ∧ (∀ u, (Instr.findKey kt (ρ k) xs.toList).run P u = .ok (some (j, x.val)) u) ∧ xs[j]? = some x ∧ es[j]? = some e ∧ x.key = ρ k ∧ e.born = x.born ∧ VRel β e.val x.val) := by
 generalize hM : ρ' m = M' at hm
 cases hm
 rename_i loc hl
 obtain ⟨l2, h1, xs, hx, hE⟩ := hR.obj r _ hg
 rw [hl] at h1; cases h1
 have hkk := KF hik hk
 refine ⟨loc, xs, hl, rfl, hkk, hx, hE, ?_⟩
 rcases VZ hb hik hE hf with ⟨rfl, e2⟩ | ⟨j, e0, x0, rfl, e2, e3, e4, e5, e6, hv, e7⟩
 · exact .inl ⟨rfl, e2⟩
 · refine .inr ⟨j, e0, x0, rfl, e2, by simpa using e4, e3, ?_, e6, hv⟩
   rw [← e5]; exact (Mc e7).symm
theorem toList_modify (xs : Array MapEntry) (i : Nat) (f : MapEntry → MapEntry) : (xs.modify i f).toList = xs.toList.modify i f := by
 simp [Array.toList_modify]
theorem Na {t : TypeId} {m k x : Operand} {kt e : TypeId} {b : KT} (hu : P.underlying t = some (.map kt e)) (hb : YP P kt = some b) (hR : Rel P β s.get w)
 (hm : VRel β (ρ m) (ρ' m)) (hk : VRel β (ρ k) (ρ' k)) (hx : VRel β (ρ x) (ρ' x)) (h : z6 ρ s (.mupd b m k x) = some (v, s')) :
 ∃ w', (Instr.mapUpdate t (ρ' m) (ρ' k) (ρ' x)).run P w = .ok () w' ∧ v = Zt ∧ Step P β s.get s.next w β s'.get s'.next w' := by
 simp only [z6] at h
 cases hM : ρ m <;> rw [hM] at h hm <;> try (simp only [reduceCtorEq] at h; done)
 rename_i r0
 cases r0 with
 | none => simp at h
 | some r =>
  cases hg : s.get r with
  | none => simp [hg] at h
  | some ob =>
   cases ob <;> simp only [hg, reduceCtorEq] at h
   rename_i es clock
   by_cases hik : isKey b (ρ k) = true
   · simp only [hik, if_true] at h
     cases hf : Wl b (ρ k) es 0 with
     | none => simp [hf] at h
     | some res =>
      obtain ⟨loc, xs, hl, e1, e2, hh, hE, hres⟩ := Fd (m := m) hb hR hm hk hg hik hf
      rcases hres with ⟨rfl, hfk⟩ | ⟨j, en, xn, rfl, hfk, hxj, hej, hkey, _, _⟩
      · simp only [hf] at h
        split at h
        · rename_i s1 hs1
          simp only [z2, Prod.mk.injEq] at h
          obtain ⟨rfl, rfl⟩ := h
          have st := WA (O := .map (xs.push { key := ρ k, val := ρ' x, born := clock }) (clock + 1)) hR hs1 hg rfl rfl hl ⟨_, YC hh, by
           rw [Array.toList_push]; exact hE.append ⟨⟨rfl, Vc hik⟩, rfl, hx, trivial⟩⟩
          refine ⟨_, ?_, rfl, st⟩
          simp only [Instr.mapUpdate, Sem.run_bind, zv hu, Result.andThen_ok, e1, e2, Yq hh, Xc hb hik, hfk, Xv hh YX]
        · simp at h
      · simp only [hf] at h
        split at h
        · rename_i s1 hs1
          simp only [z2, Prod.mk.injEq] at h
          obtain ⟨rfl, rfl⟩ := h
          have st := WA (O := .map (xs.modify j fun e => { e with key := ρ k, val := ρ' x }) clock) hR hs1 hg rfl rfl hl ⟨_, YC hh, by
           rw [toList_modify]; exact hE.setVal j hx fun y hy => by
            rw [Array.getElem?_toList, hxj] at hy; cases hy; exact hkey.symm⟩
          refine ⟨_, ?_, rfl, st⟩
          have hold : (((xs[j]?).map (·.key)).getD (ρ k)) = ρ k := by rw [hxj]; simp [hkey]
          simp only [Instr.mapUpdate, Sem.run_bind, zv hu, Result.andThen_ok, e1, e2, Yq hh, Xc hb hik, hfk, hold, Vb hik, Xv hh YX]
        · simp at h
   · simp [hik] at h
theorem C0 (o : Oper) (ho : (∃ t m k x, o.op = .mapUpdate t m k x) ∨ (∃ t m k x, o.op = .insert t m k x)) (hR : Rel P β s.get w) (hρ : ∀ x ∈ o.op.operands, VRel β (ρ x) (ρ' x)) (h : z6 ρ s (ZJ P o) = some (v, s')) :
 PY P o β ρ' w s s' v := by
 obtain ⟨dst, op, type, pos, after, guard⟩ := o
 rcases ho with ⟨t, m, k, x, rfl⟩ | ⟨t, m, k, x, rfl⟩
 all_goals
  have hm := hρ m (by simp [Op.operands])
  have hk := hρ k (by simp [Op.operands])
  have hx := hρ x (by simp [Op.operands])
  simp only [ZJ] at h
  split at h
  · rename_i kt e hu
    split at h
    · rename_i b hb
      obtain ⟨w', e1, rfl, st⟩ := Na hu hb hR hm hk hx h
      exact ⟨β, undef, w', .inr ⟨rfl, by simp [execOp, e1]⟩, .undef, st⟩
    · simp [z6] at h
  · simp [z6] at h
end
end Go.Dx
