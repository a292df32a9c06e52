/- The evaluator Dx: operations that read memory. -/
import Derived.Test.YtlcgbhpemkomkaaDxOps2
import Derived.Laws.Cells
import Derived.Laws.BytesString
import Derived.Laws.BytesArg
import Derived.Lib.ConvBytes
set_option linter.unusedVariables false
set_option linter.unusedSimpArgs false
set_option linter.unusedSectionVars false
namespace Go.Dx
open Go

section
variable {P : Program} {β : Emb} {w : World} {ρ ρ' : Operand → Value} {v : Value} {s : DS}

theorem take_rel {c : Cells} {b o : Nat} (h : ∀ i v, c.get i = some v → ∃ v', w.cell? ⟨b, o + i, none⟩ = some v' ∧ VRel β v v') :
    ∀ (n off : Nat) (l : List Value), c.take off n = some l → ∃ l', l'.length = n ∧ LRel β l l' ∧ ∀ j u, l'[j]? = some u → w.cell? ⟨b, o + (off + j), none⟩ = some u := by
  intro n
  induction n with
  | zero => intro off l hl; simp [Cells.take] at hl; subst hl; exact ⟨[], rfl, .nil, by simp⟩
  | succ n ih =>
    intro off l hl
    unfold Cells.take at hl
    cases hg : c.get off with
    | none => simp [hg] at hl
    | some x =>
      cases ht : c.take (off + 1) n with
      | none => simp [hg, ht] at hl
      | some r =>
        simp only [hg, ht, Option.some.injEq] at hl
        subst hl
        obtain ⟨x', h1, h2⟩ := h off x hg
        obtain ⟨r', h3, h4, h5⟩ := ih (off + 1) r ht
        refine ⟨x' :: r', by simp [h3], .cons h2 h4, ?_⟩
        intro j u hu
        cases j with
        | zero => simp at hu; subst hu; simpa using h1
        | succ j =>
          have := h5 j u (by simpa using hu)
          rwa [show off + 1 + j = off + (j + 1) from by omega] at this
theorem read_run (hR : Rel P β s.get w) {k off n : Nat} {l : List Value} (h : s.read k off n = some l) {loc : Loc} (hl : β k = some loc) :
    ∃ l', l'.length = n ∧ LRel β l l' ∧ (loadCells ⟨loc.blk, loc.off + off, none⟩ n).run P w = .ok l'.toArray w ∧
      ∀ j u, l'[j]? = some u → w.cell? ((⟨loc.blk, loc.off + off, none⟩ : Addr).add j) = some u := by
  unfold DS.read at h
  split at h
  · rename_i c ro hg
    obtain ⟨l2, h1, ho⟩ := hR.obj k _ hg
    rw [hl] at h1
    cases h1
    obtain ⟨l', e1, e2, e3⟩ := take_rel ho.2.2.1 n off l h
    have e4 : ∀ j u, l'[j]? = some u → w.cell? ((⟨loc.blk, loc.off + off, none⟩ : Addr).add j) = some u := by
      intro j u hu
      rw [Addr.add_lit, Nat.add_assoc]
      exact e3 j u hu
    refine ⟨l', e1, e2, ?_, e4⟩
    have := run_loadCells_list (P := P) w ⟨loc.blk, loc.off + off, none⟩ l' e4
    rwa [e1] at this
  · cases h

theorem toBytes_nums : ∀ {l l' : List Value} {b : List UInt8}, LRel β l l' → toBytes l = some b →
    ∃ ns : List Int, l' = ns.map (Value.int .u8) ∧ b = ns.map fun n => UInt8.ofNat n.toNat
  | _, _, b, .nil, h => by simp [toBytes] at h; subst h; exact ⟨[], rfl, rfl⟩
  | _, _, b, @LRel.cons _ x x' l l' hx t, h => by
    cases hx
    case int k n =>
      cases k <;> simp only [toBytes, reduceCtorEq] at h
      cases hb : toBytes l with
      | none => simp [hb] at h
      | some b' =>
        simp only [hb, Option.some.injEq] at h
        subst h
        obtain ⟨ns, e1, e2⟩ := toBytes_nums t hb
        exact ⟨n :: ns, by simp [e1], by simp [e2]⟩
    all_goals simp [toBytes] at h
theorem bytesToString_run {a : Addr} {len cap : Nat} {l l' : List Value} {b : List UInt8} (hl : LRel β l l') (hb : toBytes l = some b) (hr : (loadCells a len).run P w = .ok l'.toArray w) :
    (Conv.bytesToString (.slice (some a) len cap)).run P w = .ok (.string ⟨⟨b⟩⟩) w := by
  obtain ⟨ns, e1, e2⟩ := toBytes_nums hl hb
  subst e1
  rw [run_bytesToString w a len cap ns hr, foldl_push_bytes, e2]
  congr 2
  apply ByteArray.ext
  show (#[] : Array UInt8) ++ _ = _
  simp

theorem isKey_same {b : Bool} {k k' : Value} (hk : isKey b k = true) (h : VRel β k k') : k' = k := by
  cases h <;> simp [isKey] at hk <;> rfl
theorem isStrKey_spec {t : TypeId} {b : Bool} (h : isStrKey P t = some b) : (b = true ∧ P.underlying t = some .string) ∨ (b = false ∧ ∃ k, P.underlying t = some (.int k)) := by
  unfold isStrKey at h
  split at h
  · rename_i hu; cases h; exact .inl ⟨rfl, hu⟩
  · rename_i k hu; cases h; exact .inr ⟨rfl, k, hu⟩
  · cases h
theorem checkKey_run {t : TypeId} {b e : Bool} {k : Value} (ht : isStrKey P t = some b) : (Instr.checkKey e 10000 t k).run P w = .ok () w := by
  have : ∀ n, (Instr.checkKey e (n + 1) t k).run P w = .ok () w := by
    intro n
    unfold Instr.checkKey
    rcases isStrKey_spec ht with ⟨_, hu⟩ | ⟨_, kk, hu⟩
    · simp only [Sem.run_bind, underlying_run hu, Result.andThen_ok]; rfl
    · simp only [Sem.run_bind, underlying_run hu, Result.andThen_ok]; rfl
  exact this 9999
def entryOf0 (e : MapEntry) : Nat × Value → Prop := fun r => r.2 = e.val
theorem findNow_rel {t : TypeId} {b : Bool} {d : TypeDesc} {k : Value} (ht : isStrKey P t = some b) (hd : P.underlying t = some d) : ∀ {es : List DEntry} {xs : List MapEntry} {i : Nat} {r : Option (Nat × DEntry)},
    ERel β es xs → findE b k es i = some r →
    (r = none ∧ Instr.findNow d k xs i = some none) ∨ (∃ j e x, r = some (i + j, e) ∧ Instr.findNow d k xs i = some (some (i + j, x.val)) ∧ es[j]? = some e ∧ xs[j]? = some x ∧ e.key = x.key ∧ e.born = x.born ∧ VRel β e.val x.val ∧ keyEq b k e.key = some true)
  | [], [], i, r, _, h => by simp [findE] at h; subst h; exact .inl ⟨rfl, rfl⟩
  | [], _ :: _, _, _, hE, _ => hE.elim
  | _ :: _, [], _, _, hE, _ => hE.elim
  | e :: es, x :: xs, i, r, ⟨⟨hk, hkc⟩, hb, hv, hE⟩, h => by
    have hsame : ∀ c, keyEq b k e.key = some c → Instr.sameNow d k x.key = some c := by
      intro c hc
      rw [← hk]
      rcases isStrKey_spec ht with ⟨rfl, hu⟩ | ⟨rfl, kk, hu⟩
      · rw [hu] at hd; cases hd
        generalize e.key = K at hc ⊢
        cases k <;> try (simp [keyEq] at hc; done)
        cases K <;> try (simp [keyEq] at hc; done)
        simp only [keyEq, Option.some.injEq] at hc
        subst hc
        simp only [Instr.sameNow, bytesEq_eq, ← toList_data, ← beq_toListBytes]
      · rw [hu] at hd; cases hd
        generalize e.key = K at hc ⊢
        cases k <;> try (simp [keyEq] at hc; done)
        cases K <;> try (simp [keyEq] at hc; done)
        rename_i k1 a k2 b2
        simp only [keyEq] at hc
        by_cases e' : k1 = k2
        · simp only [e', if_true, Option.some.injEq] at hc
          subst hc
          simp only [Instr.sameNow, e', if_true]
          rfl
        · simp [e'] at hc
    unfold findE at h
    cases hc : keyEq b k e.key with
    | none => simp [hc] at h
    | some c =>
      have h1 := hsame c hc
      simp only [hc] at h
      cases c with
      | true =>
        simp only [Option.some.injEq] at h
        subst h
        refine .inr ⟨0, e, x, rfl, ?_, rfl, rfl, hk, hb, hv, hc⟩
        simp [Instr.findNow, h1]
      | false =>
        simp only at h
        rcases findNow_rel ht hd hE h with ⟨e1, e2⟩ | ⟨j, e0, x0, e1, e2, e3, e4, e5⟩
        · exact .inl ⟨e1, by simp [Instr.findNow, h1, e2]⟩
        · refine .inr ⟨j + 1, e0, x0, by rw [e1]; congr 2; omega, ?_, by simpa using e3, by simpa using e4, e5⟩
          simp only [Instr.findNow, h1, e2]
          congr 3
          omega
theorem findKey_run {t : TypeId} {k : Value} {d : TypeDesc} (hd : P.underlying t = some d) {es : List MapEntry} {r : Option (Nat × Value)} (h : Instr.findNow d k es 0 = some r) :
    (Instr.findKey t k es).run P w = .ok r w := by
  simp only [Instr.findKey, Sem.run_bind, underlying_run hd, Result.andThen_ok, h, Sem.run_pure]
theorem ERel.length : ∀ {es : List DEntry} {xs : List MapEntry}, ERel β es xs → es.length = xs.length
  | [], [], _ => rfl
  | _ :: _, _ :: _, ⟨_, _, _, h⟩ => by simp [ERel.length h]
  | [], _ :: _, h => h.elim
  | _ :: _, [], h => h.elim
theorem getObj_map {r : Nat} {xs : Array MapEntry} {c : Nat} (h : w.heap[r]? = some (.map xs c)) : (getObj r).run P w = .ok (.map xs c) w := by
  simp [getObj, Sem.run, h]
theorem getObj_iter {r : Nat} {m : Option Nat} {a : Nat} {b : Array Nat} {c : Nat} (h : w.heap[r]? = some (.mapIter m a b c)) : (getObj r).run P w = .ok (.mapIter m a b c) w := by
  simp [getObj, Sem.run, h]

theorem find?_rel {stamp : Nat} : ∀ {es : List DEntry} {xs : List MapEntry}, ERel β es xs → ∀ {e : DEntry}, es.find? (fun e => Nat.beq e.born stamp) = some e →
    ∃ x, xs.find? (fun x => x.born == stamp) = some x ∧ VRel β e.key x.key ∧ VRel β e.val x.val
  | [], [], _, e, h => by simp at h
  | _ :: _, [], hE, _, _ => hE.elim
  | [], _ :: _, hE, _, _ => hE.elim
  | a :: es, x :: xs, ⟨⟨hk, hkc⟩, hb, hv, hE⟩, e, h => by
    rw [List.find?_cons] at h
    by_cases hq : a.born = stamp
    · have h1 : Nat.beq a.born stamp = true := by rw [hq]; exact Nat.beq_refl _
      rw [h1] at h
      simp only [Option.some.injEq] at h
      subst h
      exact ⟨x, by rw [List.find?_cons]; simp [← hb, hq], hk ▸ VRel.closedV hkc, hv⟩
    · have h1 : Nat.beq a.born stamp = false := by
        cases h' : Nat.beq a.born stamp with
        | false => rfl
        | true => exact absurd (Nat.eq_of_beq_eq_true h') hq
      rw [h1] at h
      obtain ⟨y, h2, h3⟩ := find?_rel hE h
      refine ⟨y, ?_, h3⟩
      rw [List.find?_cons]
      have : (x.born == stamp) = false := by rw [← hb]; simpa using hq
      rw [this]
      exact h2

theorem VRel.str_inv {a : ByteArray} {x : Value} (h : VRel β (.string a) x) : x = .string a := by cases h; rfl

theorem read_sim (o : Oper) (hR : Rel P β s.get w) (hρ : ∀ x ∈ o.op.operands, VRel β (ρ x) (ρ' x)) (hc : (trOp P o).cls = .read) (h : dread ρ s (trOp P o) = some v) :
    ∃ v', (execOp ρ' o).run P w = .ok (.value v') w ∧ VRel β v v' := by
  obtain ⟨dst, op, type, pos, after, guard⟩ := o
  cases op
  case load t a =>
    have ha := hρ a (by simp [Op.operands])
    simp only [trOp] at h
    cases hg : aggOf P t with
    | none => simp [hg, dread] at h
    | some g =>
      simp only [hg, dread] at h
      generalize ρ a = A at ha h
      generalize hA : ρ' a = A' at ha
      cases ha <;> simp only [reduceCtorEq] at h
      rename_i k off loc hl
      cases g with
      | none =>
        simp only at h
        split at h
        · rename_i c ro hk
          obtain ⟨l2, h1, ho⟩ := hR.obj k _ hk
          rw [hl] at h1; cases h1
          obtain ⟨v', hv1, hv2⟩ := ho.2.2.1 off v h
          refine ⟨v', ?_, hv2⟩
          have h1 := (isAgg_run (w := w) hg).1
          simp only [Option.isSome_none] at h1
          simp [execOp, Instr.loadAt, hA, Instr.sureAddr, loadVar, h1, hv1]
        · cases h
      | some n =>
        simp only at h
        split at h
        · rename_i l hk
          simp only [Option.some.injEq] at h
          subst h
          obtain ⟨l', e1, e2, e3, _⟩ := read_run hR hk hl
          have h1 := isAgg_run (w := w) hg
          simp only [Option.isSome_some] at h1
          refine ⟨.agg l'.toArray, ?_, .agg (by simpa using e2)⟩
          simp [execOp, Instr.loadAt, hA, Instr.sureAddr, loadVar, h1.1, sizeOf_run (h1.2 n rfl), e3]
        · cases h
  case convert src dst x =>
    have hx := hρ x (by simp [Op.operands])
    simp only [trOp] at h hc
    split at h <;> rename_i hs hd
    · simp [dread] at h
    · simp [dread] at h
    · split at h <;> simp [dread] at h
    · split at h
      · rename_i hu8
        simp only [dread] at h
        generalize ρ x = X at hx h
        generalize hX : ρ' x = X' at hx
        have fin : ∀ (a : Option Addr) (l c : Nat) (y : Value), X' = .slice a l c → (Conv.bytesToString X').run P w = .ok y w → (execOp ρ' ⟨dst, .convert src dst x, type, pos, after, guard⟩).run P w = .ok (.value y) w := by
          intro a l c y e hy
          subst e
          simp only [execOp, Sem.run_bind, hX, run_convert_bytes_string w src _ _ a l c hs hu8 hd, hy, Result.andThen_ok, Sem.run_pure]
        cases hx <;> simp only [Option.some.injEq, reduceCtorEq] at h
        · subst h
          refine ⟨_, fin none _ _ (.string .empty) rfl (by simp [Conv.bytesToString]), ?_⟩
          exact .string _
        case' closed k off loc n c a' hl hn ha => skip
        case' opened k off loc n c a' hl hn hs' ha hx9 => skip
        all_goals
          cases hk : s.read k off n with
          | none => simp [hk] at h
          | some l =>
            simp only [hk] at h
            cases hb : toBytes l with
            | none => simp [hb] at h
            | some b =>
              simp only [hb, Option.some.injEq] at h
              subst h
              obtain ⟨l', e1, e2, e3, _⟩ := read_run hR hk hl
              refine ⟨_, fin _ _ _ _ rfl (bytesToString_run e2 hb ?_), .string _⟩
              rcases ha with ha | ha
              · have : n = 0 := by omega
                subst this
                have : l' = [] := List.eq_nil_of_length_eq_zero e1
                subst this
                simp [loadCells, loadCellsFrom]
              · rw [ha]; exact e3
      · simp [dread] at h
    · (repeat' split at h) <;> simp [dread] at h
    · simp [dread] at h
  case lookup t m k ok =>
    have hm := hρ m (by simp [Op.operands])
    have hk := hρ k (by simp [Op.operands])
    simp only [trOp] at h
    split at h
    · rename_i kt e hu
      split at h
      · rename_i b z hb hz
        split at h
        · rename_i hcz
          have hzero : (zeroValue e).run P w = .ok z w := by
            cases hi : P.info? e with
            | none => simp [hi] at hz
            | some i => simp only [hi, Option.bind_some] at hz; simp [zeroValue, typeInfo, hi, hz]
          simp only [dread] at h
          generalize ρ m = M at hm h
          generalize hM : ρ' m = M' at hm
          have hfin : ∀ (xs : Array MapEntry) (r : Option (Nat × Value)) (kd : TypeDesc), (M' = .map none ∧ xs = #[] ∨ ∃ b clock, M' = .map (some b) ∧ w.heap[b]? = some (.map xs clock)) → P.underlying kt = some kd → Instr.findNow kd (ρ' k) xs.toList 0 = some r →
              (execOp ρ' ⟨dst, .lookup t m k ok, type, pos, after, guard⟩).run P w = .ok (.value (match r with
                | some (_, v) => if ok then .tuple #[v, .bool true] else v
                | none => if ok then .tuple #[z, .bool false] else z)) w := by
            intro xs r kd h1 hkd h2
            rcases h1 with ⟨rfl, rfl⟩ | ⟨bk, clock, rfl, hh⟩
            · have h3 : (Instr.findKey kt (ρ' k) []).run P w = .ok r w := findKey_run hkd h2
              simp only [execOp, Instr.lookup, Sem.run_bind, underlying_run hu, Result.andThen_ok, hM, checkKey_run hb]
              cases r with
              | none => cases ok <;> simp [hzero, h3]
              | some p => cases ok <;> simp [h3]
            · have h3 := findKey_run (P := P) (w := w) hkd h2
              simp only [execOp, Instr.lookup, Sem.run_bind, underlying_run hu, Result.andThen_ok, hM, getObj_map hh, checkKey_run hb]
              cases r with
              | none => cases ok <;> simp [hzero, h3]
              | some p => cases ok <;> simp [h3]
          obtain ⟨kd, hkd⟩ : ∃ kd, P.underlying kt = some kd := by
            rcases isStrKey_spec hb with ⟨_, h⟩ | ⟨_, kk, h⟩ <;> exact ⟨_, h⟩
          cases hm <;> simp only [reduceCtorEq] at h
          · by_cases hik : isKey b (ρ k) = true
            · simp only [hik, if_true, Option.some.injEq] at h
              subst h
              refine ⟨_, hfin #[] none kd (.inl ⟨rfl, rfl⟩) hkd (by simp [Instr.findNow]), ?_⟩
              cases ok
              · exact VRel.closedV hcz
              · exact .tuple (.cons (VRel.closedV hcz) (.cons (.bool _) .nil))
            · simp [hik] at h
          · rename_i r loc hl
            cases hg : s.get r with
            | none => simp [hg] at h
            | some ob =>
              cases ob <;> simp only [hg, reduceCtorEq] at h
              rename_i es clock
              by_cases hik : isKey b (ρ k) = true
              · simp only [hik, if_true] at h
                obtain ⟨l2, h1, xs, hx, hE⟩ := hR.obj r _ hg
                rw [hl] at h1; cases h1
                have hkk := isKey_same hik hk
                cases hf : findE b (ρ k) es 0 with
                | none => simp [hf] at h
                | some res =>
                  have hE2 := findNow_rel hb hkd hE hf
                  rcases hE2 with ⟨rfl, e2⟩ | ⟨j, e0, x0, rfl, e2, _, _, _, _, hv, _⟩
                  · simp only [hf, Option.some.injEq] at h
                    subst h
                    refine ⟨_, hfin xs none kd (.inr ⟨_, _, rfl, hx⟩) hkd (by rw [hkk]; exact e2), ?_⟩
                    cases ok
                    · exact VRel.closedV hcz
                    · exact .tuple (.cons (VRel.closedV hcz) (.cons (.bool _) .nil))
                  · simp only [hf, Option.some.injEq] at h
                    subst h
                    refine ⟨_, hfin xs (some (0 + j, x0.val)) kd (.inr ⟨_, _, rfl, hx⟩) hkd (by rw [hkk]; exact e2), ?_⟩
                    cases ok
                    · exact hv
                    · exact .tuple (.cons hv (.cons (.bool _) .nil))
              · simp [hik] at h
        · simp [dread] at h
      · simp [dread] at h
    · simp [dread] at h
  case entry it =>
    have hi := hρ it (by simp [Op.operands])
    simp only [trOp, dread] at h
    generalize ρ it = X at hi h
    generalize hX : ρ' it = X' at hi
    cases hi <;> try (simp only [reduceCtorEq] at h; done)
    rename_i r off loc hl
    cases off with
    | succ n => simp at h
    | zero =>
      cases hg : s.get r with
      | none => simp [hg] at h
      | some ob =>
        cases ob <;> simp only [hg, reduceCtorEq] at h
        rename_i m since seen last
        cases m with
        | none => simp at h
        | some m =>
          cases seen with
          | nil => simp at h
          | cons stamp rest =>
            cases hg2 : s.get m with
            | none => simp [hg2] at h
            | some ob2 =>
              cases ob2 <;> simp only [hg2, reduceCtorEq] at h
              rename_i es clock
              obtain ⟨l2, h1, h0, m', seen', hx, hs, hm⟩ := hR.obj r _ hg
              rw [hl] at h1; cases h1
              obtain ⟨lm, hm1, hm2⟩ := hm
              subst hm2
              obtain ⟨l3, h3, xs, hx3, hE⟩ := hR.obj m _ hg2
              rw [hm1] at h3; cases h3
              by_cases hcl : Nat.beq clock last = true
              · simp only [hcl, if_true] at h
                have hcl' := Nat.eq_of_beq_eq_true hcl
                subst hcl'
                cases hf : es.find? (fun e => Nat.beq e.born stamp) with
                | none => simp [hf] at h
                | some e =>
                  simp only [hf, Option.some.injEq] at h
                  subst h
                  obtain ⟨x, f1, f2, f3⟩ := find?_rel hE hf
                  have hback : seen'.back? = some stamp := by
                    have h0 : seen'.toList = (stamp :: rest).reverse := by rw [← hs, List.reverse_reverse]
                    rw [← Array.getLast?_toList, h0]
                    simp
                  have hfa : xs.find? (fun x => x.born == stamp) = some x := by
                    rw [← Array.find?_toList]; exact f1
                  refine ⟨.tuple #[x.key, x.val], ?_, .tuple (.cons f2 (.cons f3 .nil))⟩
                  · simp only [execOp, Instr.entry, Sem.run_bind, hX, Nat.add_zero, h0, getObj_iter hx, Result.andThen_ok, hback, getObj_map hx3, bne_self_eq_false, Bool.false_eq_true, if_false, hfa, Sem.run_pure]
              · simp [hcl] at h
  case call c =>
    obtain ⟨callee, args, ats⟩ := c
    cases callee with
    | value f => simp only [trOp, dread] at h; cases h
    | invoke r n => simp only [trOp, dread] at h; cases h
    | builtin b =>
      simp only [trOp] at h hc
      have hargs : ∀ x ∈ args.toList, VRel β (ρ x) (ρ' x) := fun x hx => hρ x (by simp [Op.operands, Call.operands]; simpa using hx)
      have ea : args = args.toList.toArray := by simp
      have et : ats = ats.toList.toArray := by simp
      generalize args.toList = al at *
      generalize ats.toList = tl at *
      subst ea; subst et
      unfold trBuiltin trAppend at h hc
      split at h
      · (repeat' split at h) <;> simp [dread] at h
      · rename_i x t rest
        have hx := hargs x (by simp)
        split at h
        · simp [dread] at h
        · simp [dread] at h
        · rename_i kt e hu
          simp only [dread] at h
          generalize ρ x = X at hx h
          generalize hX : ρ' x = X' at hx
          cases hx <;> simp only [Option.some.injEq, reduceCtorEq] at h
          · subst h
            exact ⟨_, by simp only [execOp, resolve, Sem.run_bind, Sem.run_pure, Result.andThen_ok, invoke, builtin, List.map_toArray, List.map_cons, List.map_nil, hX, Builtin.len_, List.getElem?_toArray, List.getElem?_cons_zero, underlying_run hu]; rfl, .int _ _⟩
          · rename_i r loc hl
            cases hg : s.get r with
            | none => simp [hg] at h
            | some ob =>
              cases ob <;> simp only [hg, reduceCtorEq, Option.some.injEq] at h
              rename_i es clock
              subst h
              obtain ⟨l2, h1, xs, hx, hE⟩ := hR.obj r _ hg
              rw [hl] at h1; cases h1
              have hlen : (es.length : Int) = (xs.size : Int) := by rw [hE.length]; simp
              refine ⟨.int .i64 xs.size, ?_, by rw [hlen]; exact .int _ _⟩
              simp only [execOp, resolve, Sem.run_bind, Sem.run_pure, Result.andThen_ok, invoke, builtin, List.map_toArray, List.map_cons, List.map_nil, hX, Builtin.len_, List.getElem?_toArray, List.getElem?_cons_zero, underlying_run hu, getObj_map hx]
              rfl
        · simp [dread] at h
        · (repeat' split at h) <;> simp [dread] at h
        · simp [dread] at h
      all_goals ((repeat' split at h) <;> simp [dread] at h)
  case next it b => cases b <;> simp [trOp, dread] at h
  case makeFunc f a b => cases f <;> simp [trOp, dread] at h
  case binOp op t x y z => cases op <;> simp only [trOp, trEq] at h <;> (repeat' split at h) <;> simp [dread] at h
  all_goals (simp only [trOp] at h; (repeat' split at h) <;> simp [dread] at h)
end
end Go.Dx
