/- A part. -/
import Derived.Test.YtffgmngdgkpflaaGreatDxMaps
set_option linter.unusedVariables false
set_option linter.unusedSimpArgs false
set_option linter.unusedSectionVars false
namespace Go.Dx
open Go
section
variable {P : Program} {β : Emb} {w w' : World} {ρ ρ' : Operand → Value} {v : Value} {s s' : DS}
theorem Pz {t : TypeId} {m k : Operand} {kt e : TypeId} {b : KT} {z : Value} (hu : P.underlying t = some (.map kt e)) (hb : YP P kt = some b) (hz : (P.info? e).bind (·.zero) = some z) (hcz : closedV z = true) (hR : Rel P β s.get w)
 (hm : VRel β (ρ m) (ρ' m)) (hk : VRel β (ρ k) (ρ' k)) (h : z6 ρ s (.ment b z m k) = some (v, s')) :
 ∃ v' w', (Instr.mapEntry t (ρ' m) (ρ' k)).run P w = .ok v' w' ∧ VRel β v v' ∧ Step P β s.get s.next w β s'.get s'.next w' := by
 have hzero : ∀ u, (zeroValue e).run P u = .ok z u := by
  intro u
  cases hi : P.info? e with
  | none => simp [hi] at hz
  | some i => simp only [hi, Option.bind_some] at hz; simp [zeroValue, typeInfo, hi, hz]
 simp only [z6] at h
 cases hM : ρ m <;> rw [hM] at h hm <;> try (simp only [reduceCtorEq] at h; done)
 rename_i r0
 cases r0 with
 | none => simp at h
 | some r =>
  cases hg : s.get r with
  | none => simp [hg] at h
  | some ob =>
   cases ob <;> simp only [hg, reduceCtorEq] at h
   rename_i es clock
   by_cases hik : isKey b (ρ k) = true
   · simp only [hik, if_true] at h
     cases hf : Wl b (ρ k) es 0 with
     | none => simp [hf] at h
     | some res =>
      obtain ⟨loc, xs, hl, e1, e2, hh, hE, hres⟩ := Fd (m := m) hb hR hm hk hg hik hf
      rcases hres with ⟨rfl, hfk⟩ | ⟨j, en, xn, rfl, hfk, hxj, hej, hkey, hborn, hval⟩
      · simp only [hf] at h
        split at h
        · rename_i s1 hs1
          simp only [z2, Prod.mk.injEq] at h
          obtain ⟨rfl, rfl⟩ := h
          have st := WA (O := .map (xs.push { key := ρ k, val := z, born := clock }) (clock + 1)) hR hs1 hg rfl rfl hl ⟨_, YC hh, by
           rw [Array.toList_push]; exact hE.append ⟨⟨rfl, Vc hik⟩, rfl, VRel.closedV hcz, trivial⟩⟩
          refine ⟨.tuple #[z, .int .i64 clock], _, ?_, .tuple (.cons (VRel.closedV hcz) (.cons (.int _ _) .nil)), st⟩
          simp only [Instr.mapEntry, Sem.run_bind, zv hu, Result.andThen_ok, e1, e2, Yq hh, Xc hb hik, hfk, hzero, Xv hh YX, Sem.run_pure]
          rfl
        · simp at h
      · simp only [hf] at h
        split at h
        · rename_i s1 hs1
          simp only [z2, Prod.mk.injEq] at h
          obtain ⟨rfl, rfl⟩ := h
          have hkeep : YT β es (xs.modify j fun e => { e with key := ρ k }).toList := by
           rw [toList_modify]
           have : xs.toList.modify j (fun e => { e with key := ρ k }) = xs.toList := by
            apply List.ext_getElem?
            intro i
            rw [List.getElem?_modify]
            by_cases e : j = i
            · subst e
              rw [Array.getElem?_toList, hxj]
              simp only [if_true, Option.map_eq_map, Option.map_some]
              rw [← hkey]
            · simp [e]
           rw [this]; exact hE
          have st := WA (O := .map (xs.modify j fun e => { e with key := ρ k }) clock) hR hs1 hg rfl rfl hl ⟨_, YC hh, hkeep⟩
          refine ⟨.tuple #[xn.val, .int .i64 xn.born], _, ?_, .tuple (.cons hval (.cons (by rw [hborn]; exact .int _ _) .nil)), st⟩
          have hold : (((xs[j]?).map (·.key)).getD (ρ k)) = ρ k := by rw [hxj]; simp [hkey]
          have hb2 : (((xs[j]?).map (fun x => (x.born : Int))).getD 0) = (xn.born : Int) := by rw [hxj]; simp
          simp only [Instr.mapEntry, Sem.run_bind, zv hu, Result.andThen_ok, e1, e2, Yq hh, Xc hb hik, hfk, hold, Vb hik, Xv hh YX, Sem.run_pure, hb2]
          rfl
        · simp at h
   · simp [hik] at h
theorem V0 {n : Nat} : ∀ {es : List Yo} {xs : List MapEntry}, YT β es xs → es.findIdx? (fun e => Nat.beq e.born n) = xs.findIdx? (fun e => (e.born : Int) == (n : Int))
 | [], [], _ => rfl
 | e :: es, x :: xs, ⟨h1, h2, h3, h4⟩ => by
  rw [List.findIdx?_cons, List.findIdx?_cons, V0 h4]
  have : Nat.beq e.born n = ((x.born : Int) == (n : Int)) := by
   rw [Bool.eq_iff_iff, ← h2]
   constructor
   · intro h; have := Nat.eq_of_beq_eq_true h; subst this; simp
   · intro h
     have : e.born = n := by have := eq_of_beq h; omega
     subst this; exact Nat.beq_refl _
  rw [this]
 | [], _ :: _, h => h.elim
 | _ :: _, [], h => h.elim
theorem Tn {t : TypeId} {m b x : Operand} (hR : Rel P β s.get w) (hm : VRel β (ρ m) (ρ' m)) (hb : VRel β (ρ b) (ρ' b)) (hx : VRel β (ρ x) (ρ' x)) (h : z6 ρ s (.estore m b x) = some (v, s')) :
 ∃ w', (Instr.entryStore t (ρ' m) (ρ' b) (ρ' x)).run P w = .ok () w' ∧ v = Zt ∧ Step P β s.get s.next w β s'.get s'.next w' := by
 simp only [z6] at h
 cases hi : Yk (ρ b) with
 | none => cases hM : ρ m <;> simp [hM, hi] at h
 | some n =>
  obtain ⟨kk, _, e2⟩ := hb.idx hi
  cases hM : ρ m <;> rw [hM] at h hm <;> try (simp only [hi, reduceCtorEq] at h; done)
  rename_i r0
  cases r0 with
  | none => simp [hi] at h
  | some r =>
   simp only [hi] at h
   cases hg : s.get r with
   | none => simp [hg] at h
   | some ob =>
    cases ob <;> simp only [hg, reduceCtorEq] at h
    rename_i es clock
    generalize hM' : ρ' m = M' at hm
    cases hm
    rename_i loc hl
    obtain ⟨l2, h1, xs, hh, hE⟩ := hR.obj r _ hg
    rw [hl] at h1; cases h1
    cases hf : es.findIdx? (fun e => Nat.beq e.born n) with
    | none => simp [hf] at h
    | some i =>
     simp only [hf] at h
     split at h
     · rename_i s1 hs1
       simp only [z2, Prod.mk.injEq] at h
       obtain ⟨rfl, rfl⟩ := h
       have st := WA (O := .map (xs.modify i fun e => { e with val := ρ' x }) clock) hR hs1 hg rfl rfl hl ⟨_, YC hh, by rw [toList_modify]; exact hE.setVal' i hx⟩
       refine ⟨_, ?_, rfl, st⟩
       have hf2 : xs.findIdx? (fun e => (e.born : Int) == (n : Int)) = some i := by
        obtain ⟨xl⟩ := xs
        rw [List.findIdx?_toArray]
        exact (V0 hE).symm.trans hf
       have hf3 : xs.findIdx? (fun e => (e.born : Int) == Int.ofNat n) = some i := hf2
       simp only [Instr.entryStore, Sem.run_bind, hM', Yq hh, Result.andThen_ok, e2, asInt, asIntOf, Sem.run_pure, hf3, Xv hh YX]
     · simp at h
theorem My {t u : TypeId} {m k : Operand} {kt e : TypeId} {b : KT} {rest : List TypeId} {ty : TypeId} (hu : P.underlying t = some (.map kt e)) (hb : YP P kt = some b) (hR : Rel P β s.get w)
 (hm : VRel β (ρ m) (ρ' m)) (hk : VRel β (ρ k) (ρ' k)) (h : z6 ρ s (.bdel b m k) = some (v, s')) :
 ∃ v' w', (Builtin.delete_ (t :: rest).toArray ty #[ρ' m, ρ' k]).run P w = .ok v' w' ∧ VRel β v v' ∧ Step P β s.get s.next w β s'.get s'.next w' := by
 simp only [z6] at h
 cases hM : ρ m <;> rw [hM] at h hm <;> try (simp only [reduceCtorEq] at h; done)
 rename_i r0
 cases r0 with
 | none => simp at h
 | some r =>
  cases hg : s.get r with
  | none => simp [hg] at h
  | some ob =>
   cases ob <;> simp only [hg, reduceCtorEq] at h
   rename_i es clock
   by_cases hik : isKey b (ρ k) = true
   · simp only [hik, if_true] at h
     cases hf : Wl b (ρ k) es 0 with
     | none => simp [hf] at h
     | some res =>
      obtain ⟨loc, xs, hl, e1, e2, hh, hE, hres⟩ := Fd (m := m) hb hR hm hk hg hik hf
      rcases hres with ⟨rfl, hfk⟩ | ⟨j, en, xn, rfl, hfk, hxj, hej, hkey, hborn, hval⟩
      · simp only [hf] at h
        split at h
        · rename_i s1 hs1
          simp only [z2, Prod.mk.injEq] at h
          obtain ⟨rfl, rfl⟩ := h
          have st := WA (O := .map xs clock) hR hs1 hg rfl rfl hl ⟨_, YC hh, hE⟩
          refine ⟨_, _, ?_, .undef, st⟩
          simp only [Builtin.delete_, Sem.run_bind, zv hu, Result.andThen_ok, e1, e2, Yq hh, Xc hb hik, hfk, Xv hh YX, Sem.run_pure, List.getElem?_toArray, List.getElem?_cons_zero, List.getElem?_cons_succ]
          rfl
        · simp at h
      · simp only [hf] at h
        split at h
        · rename_i s1 hs1
          simp only [z2, Prod.mk.injEq] at h
          obtain ⟨rfl, rfl⟩ := h
          have hj : j < xs.size := (Array.getElem?_eq_some_iff.1 hxj).1
          have st := WA (O := .map (xs.eraseIdxIfInBounds j) clock) hR hs1 hg rfl rfl hl ⟨_, YC hh, by
           have : (xs.eraseIdxIfInBounds j).toList = xs.toList.eraseIdx j := by simp [Array.eraseIdxIfInBounds, hj]
           rw [this]; exact hE.drop j⟩
          refine ⟨_, _, ?_, .undef, st⟩
          simp only [Builtin.delete_, Sem.run_bind, zv hu, Result.andThen_ok, e1, e2, Yq hh, Xc hb hik, hfk, Xv hh YX, Sem.run_pure, List.getElem?_toArray, List.getElem?_cons_zero, List.getElem?_cons_succ]
          rfl
        · simp at h
   · simp [hik] at h
theorem MF {t : TypeId} {m : Operand} {kt e : TypeId} {rest : List TypeId} {ty : TypeId} (hu : P.underlying t = some (.map kt e)) (hR : Rel P β s.get w)
 (hm : VRel β (ρ m) (ρ' m)) (h : z6 ρ s (.bclrM m) = some (v, s')) :
 ∃ v' w', (Builtin.clear_ (t :: rest).toArray ty #[ρ' m]).run P w = .ok v' w' ∧ VRel β v v' ∧ Step P β s.get s.next w β s'.get s'.next w' := by
 simp only [z6] at h
 generalize ρ m = M at hm h
 generalize hM' : ρ' m = M' at hm
 cases hm <;> try (simp only [reduceCtorEq] at h; done)
 · simp only [z2, Prod.mk.injEq] at h
   obtain ⟨rfl, rfl⟩ := h
   refine ⟨_, w, ?_, .undef, Step.refl hR⟩
   simp only [Builtin.clear_, Sem.run_bind, zv hu, Result.andThen_ok, List.getElem?_toArray, List.getElem?_cons_zero, Sem.run_pure]
   rfl
 · rename_i r loc hl
   cases hg : s.get r with
   | none => simp [hg] at h
   | some ob =>
    cases ob <;> simp only [hg, reduceCtorEq] at h
    rename_i es clock
    obtain ⟨l2, h1, xs, hh, hE⟩ := hR.obj r _ hg
    rw [hl] at h1; cases h1
    split at h
    · rename_i s1 hs1
      simp only [z2, Prod.mk.injEq] at h
      obtain ⟨rfl, rfl⟩ := h
      have st := WA (O := .map #[] clock) hR hs1 hg rfl rfl hl ⟨_, YC hh, trivial⟩
      refine ⟨_, _, ?_, .undef, st⟩
      simp only [Builtin.clear_, Sem.run_bind, zv hu, Result.andThen_ok, Yq hh, Xv hh YX, List.getElem?_toArray, List.getElem?_cons_zero, Sem.run_pure]
      rfl
    · simp at h
theorem Jc : ∀ (l : List Nat) (n : Nat), ZD l n = true ↔ n ∈ l
 | [], n => by simp [ZD]
 | x :: l, n => by
  simp only [ZD, Bool.or_eq_true, Jc l n, List.mem_cons]
  constructor
  · rintro (h | h)
    · exact .inl (Nat.eq_of_beq_eq_true h).symm
    · exact .inr h
  · rintro (h | h)
    · subst h; exact .inl (Nat.beq_refl _)
    · exact .inr h
theorem YT.filter {p : Nat → Bool} : ∀ {es : List Yo} {xs : List MapEntry}, YT β es xs → YT β (es.filter fun e => p e.born) (xs.filter fun e => p e.born)
 | [], [], _ => trivial
 | e :: es, x :: xs, ⟨h1, h2, h3, h4⟩ => by
  rw [List.filter_cons, List.filter_cons, ← h2]
  split
  · exact ⟨h1, h2, h3, YT.filter h4⟩
  · exact YT.filter h4
 | [], _ :: _, h => h.elim
 | _ :: _, [], h => h.elim
theorem YT.all {p : Nat → Bool} : ∀ {es : List Yo} {xs : List MapEntry}, YT β es xs → (es.all fun e => p e.born) = xs.all fun e => p e.born
 | [], [], _ => rfl
 | e :: es, x :: xs, ⟨h1, h2, h3, h4⟩ => by simp only [List.all_cons, YT.all h4, h2]
 | [], _ :: _, h => h.elim
 | _ :: _, [], h => h.elim
theorem N2 {it : Operand} {ty : TypeId} (hR : Rel P β s.get w) (hi : VRel β (ρ it) (ρ' it)) (h : z6 ρ s (.nxt it) = some (v, s')) :
 ∃ v' w', (Instr.next (ρ' it) false ty).run P w = .ok v' w' ∧ VRel β v v' ∧ Step P β s.get s.next w β s'.get s'.next w' := by
 simp only [z6] at h
 generalize ρ it = X at hi h
 generalize hX : ρ' it = X' at hi
 cases hi <;> try (simp only [reduceCtorEq] at h; done)
 rename_i r off loc hl
 cases off with
 | succ n => simp at h
 | zero =>
  cases hg : s.get r with
  | none => simp [hg] at h
  | some ob =>
   cases ob <;> simp only [hg, reduceCtorEq] at h
   rename_i m since seen last
   obtain ⟨l2, h1, h0, m', seen', hx, hs, hm⟩ := hR.obj r _ hg
   rw [hl] at h1; cases h1
   cases m with
   | none =>
    simp only [z2, Prod.mk.injEq] at h
    obtain ⟨rfl, rfl⟩ := h
    simp only at hm
    subst hm
    refine ⟨.tuple #[.bool false], w, ?_, .tuple (.cons (.bool _) .nil), Step.refl hR⟩
    simp only [Instr.next, Sem.run_bind, Nat.add_zero, h0, QN hx, Result.andThen_ok, Sem.run_pure]
   | some m =>
    obtain ⟨lm, hm1, hm2⟩ := hm
    subst hm2
    simp only at h
    cases hg2 : s.get m with
    | none => simp [hg2] at h
    | some ob2 =>
     cases ob2 <;> simp only [hg2, reduceCtorEq] at h
     rename_i es clock
     obtain ⟨l3, h3, xs, hx3, hE⟩ := hR.obj m _ hg2
     rw [hm1] at h3; cases h3
     split at h
     · cases h
     · rename_i hno
       have hseen : seen'.isEmpty = seen.isEmpty := by
        rw [← hs]; simp
       have hes : xs.isEmpty = es.isEmpty := by
        have := hE.length
        have e1 : xs.isEmpty = xs.toList.isEmpty := by cases xs; simp
        rw [e1]
        cases es <;> cases hxl : xs.toList <;> simp_all
       have hall : (xs.all fun e => decide (e.born ≥ last)) = es.all fun e => Nat.ble last e.born := by
        have := hE.all (p := fun n => Nat.ble last n)
        rw [this]
        rw [← Array.all_toList]
        congr 1
        funext e
        rw [Bool.eq_iff_iff]; simp [Nat.ble_eq]
       have hcond : ¬ ((!seen'.isEmpty && !xs.isEmpty && xs.all fun e => decide (e.born ≥ last)) = true) := by rw [hseen, hes, hall]; exact hno
       have hcontains : ∀ n, seen'.contains n = ZD seen n := by
        intro n
        rw [Bool.eq_iff_iff, Jc, ← hs]
        simp
       have hleft : (xs.filter fun e => !seen'.contains e.born).toList = xs.toList.filter fun e => !ZD seen e.born := by
        rw [Array.toList_filter]
        congr 1
        funext e
        rw [hcontains]
       have hrel := hE.filter (p := fun n => !ZD seen n)
       split at h
       · rename_i hnil
         simp only [z2, Prod.mk.injEq] at h
         obtain ⟨rfl, rfl⟩ := h
         rw [hnil] at hrel
         have hl0 : (xs.filter fun e => !seen'.contains e.born) = #[] := by
          apply Array.toList_inj.1
          rw [hleft]
          cases hq : xs.toList.filter fun e => !ZD seen e.born with
          | nil => rfl
          | cons a b => rw [hq] at hrel; exact hrel.elim
         refine ⟨.tuple #[.bool false], w, ?_, .tuple (.cons (.bool _) .nil), Step.refl hR⟩
         simp only [Instr.next, Sem.run_bind, Nat.add_zero, h0, hX, QN hx, Yq hx3, Result.andThen_ok, hcond, z3, if_false, hl0]
         simp [Question.forced]
       · rename_i e hone
         split at h
         · rename_i hlt
           have hlt := QE hlt
           split at h
           · rename_i s1 hs1
             simp only [z2, Prod.mk.injEq] at h
             obtain ⟨rfl, rfl⟩ := h
             rw [hone] at hrel
             obtain ⟨x, hl1, hxe⟩ : ∃ x, (xs.filter fun e => !seen'.contains e.born) = #[x] ∧ YT β [e] [x] := by
              cases hq : xs.toList.filter fun e => !ZD seen e.born with
              | nil => rw [hq] at hrel; exact hrel.elim
              | cons a b =>
               rw [hq] at hrel
               obtain ⟨g1, g2, g3, g4⟩ := hrel
               cases b with
               | nil => exact ⟨a, by apply Array.toList_inj.1; rw [hleft, hq], g1, g2, g3, trivial⟩
               | cons c d => exact g4.elim
             obtain ⟨⟨q1, q2⟩, q3, q4, _⟩ := hxe
             have hborn : x.born < since := by rw [← q3]; exact hlt
             have st := WA (O := .mapIter (some lm.blk) since (seen'.push x.born) clock) hR hs1 hg rfl rfl hl ⟨h0, some lm.blk, _, YC hx, by simp [hs, q3], lm, hm1, rfl⟩
             refine ⟨.tuple #[.bool true, x.key, x.val], _, ?_, .tuple (.cons (.bool _) (.cons (q1 ▸ VRel.closedV q2) (.cons q4 .nil))), st⟩
             simp only [Instr.next, Sem.run_bind, Nat.add_zero, h0, hX, QN hx, Yq hx3, Result.andThen_ok, hcond, z3, if_false, hl1]
             have f1 : (#[x].filter fun e => decide (e.born < since)) = #[x] := by simp [hborn]
             have f2 : (#[x].filter fun e => decide (e.born ≥ since)) = #[] := by simp; omega
             simp only [f1, f2]
             simp [Question.forced, Xv hx (fun _ _ _ h => by cases h)]
           · simp at h
         · simp at h
       · cases h
end
end Go.Dx
