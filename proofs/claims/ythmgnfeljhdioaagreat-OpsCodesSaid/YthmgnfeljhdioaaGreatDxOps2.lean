/- A part. -/
import Derived.Test.YthmgnfeljhdioaaGreatDxOps
set_option linter.unusedVariables false
set_option linter.unusedSimpArgs false
set_option linter.unusedSectionVars false
namespace Go.Dx
open Go
section
variable {P : Program} {β : Emb} {w : World} {ρ ρ' : Operand → Value} {v : Value}
theorem VRel.cells {v v' : Value} (h : VRel β v v') : LRel β v.cells.toList v'.cells.toList := by
 cases h <;> first | assumption | (simp only [Value.cells]; exact .cons (by constructor <;> assumption) .nil) | (rename_i hh; cases v' <;> first | (cases hh; done) | exact .cons (.any hh) .nil)
theorem FJ (off : Nat) : ∀ (vs : List Value) (j : Nat) (cs : Array Value), off + j + vs.length ≤ cs.size →
 ((vs.zipIdx j).foldl (fun cs (x : Value × Nat) => cs.setIfInBounds (off + x.2) x.1) cs).toList = cs.toList.take (off + j) ++ (vs ++ cs.toList.drop (off + j + vs.length)) := by
 intro vs
 induction vs with
 | nil => intro j cs h; simp
 | cons x vs ih =>
  intro j cs h
  simp only [List.length_cons] at h
  rw [List.zipIdx_cons, List.foldl_cons, ih (j + 1) _ (by simp; omega)]
  simp only [Array.toList_setIfInBounds, List.length_cons]
  rw [show off + (j + 1) = off + j + 1 from by omega]
  have hlt : off + j < cs.toList.length := by simp; omega
  rw [List.set_eq_take_append_cons_drop]
  simp only [hlt, if_true]
  have hl : (cs.toList.take (off + j)).length = off + j := by simp; omega
  rw [List.take_append]
  simp only [hl, Nat.add_sub_cancel_left]
  rw [List.take_of_length_le (by omega)]
  rw [List.drop_append]
  simp only [hl]
  rw [List.drop_of_length_le (by omega : (cs.toList.take (off + j)).length ≤ _)]
  rw [show off + j + 1 + vs.length - (off + j) = vs.length + 1 from by omega]
  simp [List.drop_drop]
  rw [show off + j + 1 + vs.length = off + j + (vs.length + 1) from by omega]
theorem KO {place : Nat → Option (Nat × Nat)} : ∀ {parts : List (Nat × Operand)} {l : List (Nat × Nat × Operand)} {z : List Value} {z' : Array Value} {cs : List Value},
 Xw place parts = some l → (∀ p ∈ parts, VRel β (ρ p.2) (ρ' p.2)) → LRel β z z'.toList → zi ρ z l = some cs →
 ∃ cs', Instr.fill place z' (parts.map fun p => (p.1, ρ' p.2)) = some cs' ∧ LRel β cs cs'.toList := by
 intro parts
 induction parts with
 | nil =>
  intro l z z' cs hl _ hz h
  simp [Xw] at hl; subst hl
  simp [zi] at h; subst h
  exact ⟨z', rfl, hz⟩
 | cons p parts ih =>
  intro l z z' cs hl hρ hz h
  obtain ⟨i, x⟩ := p
  simp only [Xw] at hl
  cases hp : place i with
  | none => simp [hp] at hl
  | some os =>
   obtain ⟨off, size⟩ := os
   cases hr : Xw place parts with
   | none => simp [hp, hr] at hl
   | some l' =>
    simp only [hp, hr, z2] at hl
    subst hl
    simp only [zi] at h
    split at h
    · rename_i hc
      simp only [Bool.and_eq_true] at hc
      have h1 := Nat.eq_of_beq_eq_true hc.1
      have h2 := Nat.le_of_ble_eq_true hc.2
      have hv : VRel β (ρ x) (ρ' x) := hρ (i, x) (by simp)
      have hlen := hv.cells.length
      have hzl := hz.length
      have e1 : (ρ' x).cells.size = size := by rw [← h1, hlen]; simp
      have e2 : off + size ≤ z'.size := by rw [← Array.length_toList, ← hzl]; exact h2
      have key := FJ off (ρ' x).cells.toList 0 z' (by simp; omega)
      simp only [Instr.fill, z4, hp]
      have hcond : ¬ (((ρ' x).cells.size ≠ size || off + (ρ' x).cells.size > z'.size) = true) := by simp [e1]; omega
      simp only [hcond, if_false]
      refine ih hr (fun p hp => hρ p (by simp [hp])) ?_ h
      rw [← Array.foldl_toList, Array.toList_zipIdx, key]
      simp only [Nat.add_zero]
      refine (hz.take _).append (hv.cells.append ?_)
      have := hz.drop (off + size)
      rw [show off + (ρ' x).cells.toList.length = off + size from by simp [e1]]
      exact this
    · cases h
theorem YO {a b : Nat} (h : Nat.blt a b = true) : a < b := by rw [Nat.blt_eq] at h; exact h
theorem KL : ∀ (fs : List Field) (i : Nat), Fy fs i = fs[i]?
 | [], _ => rfl
 | _ :: _, 0 => rfl
 | _ :: l, n + 1 => by simp [Fy, KL l n]
theorem Ku {t : TypeId} {g : Option Nat} {cs : List Value} {cs' : Array Value} {off : Nat} (hg : ZV P t = some g) (hc : LRel β cs cs'.toList) (h : partOf g cs off = some v) :
 ∃ v', (part t cs' off).run P w = .ok v' w ∧ VRel β v v' := by
 cases g with
 | none =>
  simp only [partOf] at h
  obtain ⟨v', h1, h2⟩ := hc.getN h
  rw [Array.getElem?_toList] at h1
  exact ⟨v', Yw hg h1, h2⟩
 | some n =>
  simp only [partOf, z2] at h
  subst h
  exact ⟨_, Yx hg, .agg (by rw [extract_toList]; exact (hc.drop _).take _)⟩
theorem ZC {t : TypeId} {z : List Value} (h : zeroOf P t = some z) : ∃ z0 : Value, (zeroValue t).run P w = .ok z0 w ∧ z0.cells.toList = z ∧ closedA z = true := by
 unfold zeroOf at h
 cases hi : P.info? t with
 | none => simp [hi] at h
 | some i =>
  simp only [hi, Option.bind_some] at h
  cases hz : i.zero with
  | none => simp [hz] at h
  | some z0 =>
   simp only [hz, Option.bind_some] at h
   split at h
   · rename_i hc
     simp only [z2] at h
     exact ⟨z0, by simp [zeroValue, typeInfo, hi, hz], h, h ▸ hc⟩
   · cases h
theorem DE {a : Option Addr} {a' : Value} {size len cap l h m : Nat} {cut : Bool} (hv : VRel β (.slice a len cap) a') (ht : Yd a size l h m cut = some v)
 (hl : l ≤ h) (hm : h ≤ m ∨ (h = len ∧ cut = false)) (hc : cut = true → m ≤ cap) (hc' : cut = false → m = cap) :
 ∃ b cap', a' = .slice b len cap' ∧ cap ≤ cap' ∧
  VRel β v (.slice (if (if cut then m else cap') = l then b else b.map (·.add (l * size))) (h - l) ((if cut then m else cap') - l)) := by
 cases hv with
 | nilSlice =>
  refine ⟨none, cap, rfl, Nat.le_refl _, ?_⟩
  simp only [Yd, z2] at ht
  subst ht
  have : (if (if cut = true then m else cap) = l then (none : Option Addr) else Option.map (fun x : Addr => x.add (l * size)) none) = none := by
   (repeat' split) <;> rfl
  rw [this]
  cases cut
  · rw [hc' rfl]; exact .nilSlice
  · exact .nilSlice
 | @closed k off loc _ _ a' h1 hn ha =>
  refine ⟨some a', cap, rfl, Nat.le_refl _, ?_⟩
  have hhm : h ≤ m := by
   rcases hm with hm | ⟨hm, hcut⟩
   · exact hm
   · have := hc' hcut; omega
  have hm' : (if cut = true then m else cap) = m := by
   cases cut
   · simp [hc' rfl]
   · rfl
  rw [hm']
  have hle : m ≤ cap := by
   cases cut
   · rw [hc' rfl]; exact Nat.le_refl _
   · exact hc rfl
  have hv' : v = .slice (some ⟨k, off + l * size, none⟩) (h - l) (m - l) := by
   simp only [Yd] at ht
   split at ht <;> simpa using ht.symm
  subst hv'
  by_cases e : m = l
  · simp only [e, if_true, Nat.sub_self]
    have : h - l = 0 := by omega
    rw [this]
    exact .closed h1 (Nat.le_refl _) (.inl rfl)
  · simp only [e, if_false, Option.map_some]
    refine .closed h1 (by omega) (.inr ?_)
    rcases ha with ha | ha
    · omega
    · subst ha; rw [Addr.add_lit]; simp [Nat.add_assoc]
 | @opened k off loc _ _ a' h1 hn hs ha hx9 =>
  refine ⟨some a', cap + loc.ext, rfl, Nat.le_add_right _ _, ?_⟩
  have hhm : h ≤ m := by
   rcases hm with hm | ⟨hm, hcut⟩
   · exact hm
   · have := hc' hcut; omega
  cases cut with
  | true =>
   simp only [Yd, if_true, z2] at ht
   subst ht
   simp only [if_true]
   have hle := hc rfl
   by_cases e : m = l
   · simp only [e, if_true, Nat.sub_self]
     have : h - l = 0 := by omega
     rw [this]
     exact .closed h1 (Nat.le_refl _) (.inl rfl)
   · simp only [e, if_false, Option.map_some]
     refine .closed h1 (by omega) (.inr ?_)
     rcases ha with ha | ha
     · omega
     · subst ha; rw [Addr.add_lit]; simp [Nat.add_assoc]
  | false =>
   have hmc := hc' rfl
   subst hmc
   simp only [Yd, z3, if_false] at ht
   split at ht
   · rename_i hz
     have hz := Nat.eq_of_beq_eq_true hz
     simp only [z2] at ht
     subst ht
     simp only [z3, if_false]
     have hlm : l ≤ m := by omega
     have hs' : off + l * size + (m - l) * loc.sz = loc.size := by
      rw [← hz, Nat.add_assoc, ← Nat.add_mul, Nat.add_sub_cancel' hlm]; exact hs
     rw [show m + loc.ext - l = (m - l) + loc.ext from by omega]
     by_cases e : m + loc.ext = l
     · simp only [e, if_true]
       exact .opened h1 (by omega) hs' (.inl (by omega)) (by omega)
     · simp only [e, if_false, Option.map_some]
       refine .opened h1 (by omega) hs' (.inr ?_) (by omega)
       rcases ha with ha | ha
       · omega
       · subst ha; rw [Addr.add_lit]; simp [Nat.add_assoc]
   · cases ht
theorem Xr : ∀ (r : List Value), r.foldl W8 none = none
 | [] => rfl
 | _ :: r => by simp only [List.foldl_cons]; exact Xr r
theorem Xs : ∀ (r : List Value), r.foldl W9 none = none
 | [] => rfl
 | _ :: r => by simp only [List.foldl_cons]; exact Xs r
theorem CS : ∀ {r r' : List Value}, LRel β r r' → ∀ {k : IntKind} {a : Int}, r.foldl W8 (some (.int k a)) = some v → (r'.foldlM Builtin.min2 (.int k a)).run P w = .ok v w ∧ VRel β v v
 | _, _, .nil, k, a, h => by simp at h; subst h; exact ⟨rfl, .int _ _⟩
 | _, _, @LRel.cons _ x x' l l' hx t, k, a, h => by
  simp only [List.foldl_cons] at h
  cases hx
  case int k' b =>
   by_cases e : k = k'
   · subst e
     simp only [W8, if_true] at h
     simp only [List.foldlM_cons, Builtin.min2, Sem.run_bind, Sem.run_pure, Result.andThen_ok]
     exact CS t h
   · simp [W8, e, Xr] at h
  all_goals simp [W8, Xr] at h
theorem CU : ∀ {r r' : List Value}, LRel β r r' → ∀ {k : IntKind} {a : Int}, r.foldl W9 (some (.int k a)) = some v → (r'.foldlM Builtin.max2 (.int k a)).run P w = .ok v w ∧ VRel β v v
 | _, _, .nil, k, a, h => by simp at h; subst h; exact ⟨rfl, .int _ _⟩
 | _, _, @LRel.cons _ x x' l l' hx t, k, a, h => by
  simp only [List.foldl_cons] at h
  cases hx
  case int k' b =>
   by_cases e : k = k'
   · subst e
     simp only [W9, if_true] at h
     simp only [List.foldlM_cons, Builtin.max2, Sem.run_bind, Sem.run_pure, Result.andThen_ok]
     exact CU t h
   · simp [W9, e, Xs] at h
  all_goals simp [W9, Xs] at h
theorem Rr (o : Oper) (hρ : ∀ x ∈ o.op.operands, VRel β (ρ x) (ρ' x)) (hc : (zC P o).cls = .pure) (h : zb ρ (zC P o) = some v) :
 ∃ v', (execOp ρ' o).run P w = .ok (.value v') w ∧ VRel β v v' := by
 obtain ⟨dst, op, type, pos, after, guard⟩ := o
 cases op
 case move x => simp only [zC, zb, z2] at h; subst h; exact ⟨_, rfl, hρ x (by simp [Op.operands])⟩
 case assign x => simp only [zC, zb, z2] at h; subst h; exact ⟨_, rfl, hρ x (by simp [Op.operands])⟩
 case pick c a b =>
  simp only [zC, zb] at h
  have h1 := hρ c (by simp [Op.operands])
  have h2 := hρ a (by simp [Op.operands])
  have h3 := hρ b (by simp [Op.operands])
  generalize hC : ρ c = C at h1 h
  generalize hC' : ρ' c = C' at h1
  cases h1 <;> simp only [z2, reduceCtorEq] at h
  rename_i t
  subst h
  refine ⟨if t then ρ' a else ρ' b, ?_, by cases t <;> assumption⟩
  simp [execOp, hC', asBool]
 case binOp op t x y yT =>
  have hx := hρ x (by simp [Op.operands])
  have hy := hρ y (by simp [Op.operands])
  have direct : ∀ op' : BinOp, zo op' (ρ x) (ρ y) = some v → ∃ v', (do eqGuard op' t x y (ρ' x) (ρ' y); binOp op' t (ρ' x) (ρ' y) : Sem Value).run P w = .ok v' w ∧ VRel β v v' := fun op' hh => PW hx hy hh
  have eqs : ∀ neg : Bool, zb ρ (GN P neg t x y) = some v → ∃ v', (do eqGuard (if neg then .neq else .eql) t x y (ρ' x) (ρ' y); binOp (if neg then .neq else .eql) t (ρ' x) (ρ' y) : Sem Value).run P w = .ok v' w ∧ VRel β v v' := by
   intro neg hh
   unfold GN at hh
   split at hh
   · simp only [zb] at hh; exact direct _ hh
   · simp only [zb] at hh; exact direct _ hh
   · rename_i n1 n2
     split at hh
     · rename_i e he
       split at hh
       · simp [zb] at hh
       · rename_i hg
         simp only [zb] at hh
         cases hq0 : Ym 5000 e (ρ x) (ρ y) with
         | none => simp [hq0] at hh
         | some b =>
          simp only [hq0, z2] at hh
          subst hh
          have hq := (R6 5000).1 _ _ _ _ hq0
          exact ⟨_, MI he (by simpa using hg) (fun k e' => n1 k e') (fun e' => n2 e') hx hy hq, .bool _⟩
     · simp [zb] at hh
  have fin : ∀ (op' : BinOp) (x1 : ∃ v', (do eqGuard op' t x y (ρ' x) (ρ' y); binOp op' t (ρ' x) (ρ' y) : Sem Value).run P w = .ok v' w ∧ VRel β v v'),
   ∃ v', (execOp ρ' ⟨dst, .binOp op' t x y yT, type, pos, after, guard⟩).run P w = .ok (.value v') w ∧ VRel β v v' := by
   rintro op' ⟨v', hr, hv⟩
   refine ⟨v', ?_, hv⟩
   simp only [execOp]
   rw [Sem.run_bind, hr]
   rfl
  cases op
  case eql => exact fin .eql (eqs false (by simpa [zC] using h))
  case neq => exact fin .neq (eqs true (by simpa [zC] using h))
  all_goals exact fin _ (direct _ (by simpa [zC, zb] using h))
 case unOp op t x =>
  simp only [zC] at h
  obtain ⟨v', hr, hv⟩ := MH (P := P) (w := w) (hρ x (by simp [Op.operands])) h
  exact ⟨v', by simp [execOp, hr], hv⟩
 case convert src dst x =>
  have hx := hρ x (by simp [Op.operands])
  simp only [zC] at h hc
  split at h <;> rename_i hs hd <;> (try simp only [hs, hd] at hc)
  · simp only [zb] at h
    generalize ρ x = X at hx h
    generalize hX : ρ' x = X' at hx
    cases hx <;> simp only [z2, reduceCtorEq] at h
    subst h
    rename_i k0 k n
    refine ⟨.int _ (zt _ n), ?_, .int _ _⟩
    simp [execOp, convert, zc hs, zc hd, hX, Conv.intToInt, zS]
  · simp only [zb] at h
    generalize ρ x = X at hx h
    generalize hX : ρ' x = X' at hx
    cases hx <;> simp only [z2, reduceCtorEq] at h
    subst h
    rename_i s
    refine ⟨.string s, ?_, .string _⟩
    simp [execOp, convert, zc hs, zc hd, hX]
  · split at h <;> simp [zb] at h
  · split at h <;> simp [zb] at h
  · (repeat' split at h) <;> simp [zb] at h
  · simp [zb] at h
 case nilCheck x =>
  have hx := hρ x (by simp [Op.operands])
  simp only [zC, zb] at h
  generalize ρ x = X at hx h
  generalize hX : ρ' x = X' at hx
  cases hx <;> simp only [z2, reduceCtorEq] at h <;> subst h
  · rename_i h1; exact ⟨_, by simp only [execOp, hX]; rfl, .ptr h1⟩
  · rename_i ha hb; exact ⟨_, by simp only [execOp, hX]; rfl, .func ha hb⟩
  · rename_i h1; exact ⟨_, by simp only [execOp, hX]; rfl, .yield h1⟩
 case sliceToArrayPointer t x =>
  have hx := hρ x (by simp [Op.operands])
  simp only [zC] at h
  split at h
  · rename_i n e hu
    simp only [zb] at h
    generalize ρ x = X at hx h
    generalize hX : ρ' x = X' at hx
    have fin : ∀ (a : Addr) (len cap : Nat), X' = .slice (some a) len cap → n ≤ len → (execOp ρ' ⟨dst, .sliceToArrayPointer t x, type, pos, after, guard⟩).run P w = .ok (.value (.pointer (some a))) w := by
     intro a len cap he hn
     have hlt : ¬ len < n := by omega
     simp [execOp, Instr.arrayAt, zc hu, hX, he, hlt]
    cases hx <;> simp only [reduceCtorEq] at h
    · rename_i k off l len c a hl hn ha
      split at h
      · rename_i hcc
        simp only [Bool.and_eq_true] at hcc
        have h0 := YO hcc.1
        have h1 := Nat.le_of_ble_eq_true hcc.2
        simp only [z2] at h
        subst h
        have ha' : a = ⟨l.blk, l.off + off, none⟩ := ha.resolve_left (by omega)
        subst ha'
        exact ⟨_, fin _ _ _ rfl h1, .ptr hl⟩
      · cases h
    · rename_i k off l len c a hl hn hs ha hxx
      split at h
      · rename_i hcc
        simp only [Bool.and_eq_true] at hcc
        have h0 := YO hcc.1
        have h1 := Nat.le_of_ble_eq_true hcc.2
        simp only [z2] at h
        subst h
        have ha' : a = ⟨l.blk, l.off + off, none⟩ := ha.resolve_left (by omega)
        subst ha'
        exact ⟨_, fin _ _ _ rfl h1, .ptr hl⟩
      · cases h
  · simp [zb] at h
 case build t parts =>
  simp only [zC] at h hc
  have hρ' : ∀ p ∈ parts.toList, VRel β (ρ p.2) (ρ' p.2) := fun p hp => hρ p.2 (by simp [Op.operands]; exact ⟨p.1, by simpa using hp⟩)
  split at h
  · rename_i z fs hz hu
    split at h
    · rename_i l hl
      split at h
      · rename_i hall
        obtain ⟨z0, hz1, hz2, hz3⟩ := ZC (w := w) hz
        have hzr : LRel β z z0.cells.toList := by rw [hz2]; exact LRel.closedA hz3
        simp only [zb] at h
        cases hf : zi ρ z l with
        | none => simp [hf] at h
        | some cs =>
         simp only [hf, z2] at h
         subst h
         have hplaces : ∃ pl : Array (Nat × Nat), (fs.mapM fun f : Field => (do pure (f.offset, ← sizeOf f.type) : Sem (Nat × Nat))).run P w = .ok pl w ∧
          ∀ i : Nat, pl[i]? = Yp P fs.toList i := by
          have key : ∀ (l : List Field), (∀ f ∈ l, (Zx P f.type).isSome) → ∃ pl : List (Nat × Nat), (l.mapM fun f : Field => (do pure (f.offset, ← sizeOf f.type) : Sem (Nat × Nat))).run P w = .ok pl w ∧
           ∀ i : Nat, pl[i]? = Yp P l i := by
           intro l
           induction l with
           | nil => intro _; exact ⟨[], by simp, fun i => rfl⟩
           | cons f l ih =>
            intro hf
            obtain ⟨pl, h1, h2⟩ := ih fun g hg => hf g (by simp [hg])
            obtain ⟨s, hs⟩ := Option.isSome_iff_exists.1 (hf f (by simp))
            refine ⟨(f.offset, s) :: pl, ?_, ?_⟩
            · simp only [List.mapM_cons, Sem.run_bind, zu hs, Result.andThen_ok, Sem.run_pure]
              rw [h1]; rfl
            · intro i
              cases i with
              | zero => simp [hs, Yp, Fy]
              | succ i => simpa [Yp, Fy] using h2 i
          obtain ⟨pl, h1, h2⟩ := key fs.toList (by intro f hf; exact (Array.all_eq_true'.1 hall) f (by simpa using hf))
          refine ⟨pl.toArray, ?_, fun i => by simpa using h2 i⟩
          rw [Array.mapM_eq_mapM_toList]
          rw [Sem.run_map, h1]
          rfl
         obtain ⟨pl, hp1, hp2⟩ := hplaces
         obtain ⟨cs', hc1, hc2⟩ := KO (β := β) (ρ' := ρ') hl hρ' hzr hf
         refine ⟨.agg cs', ?_, .agg hc2⟩
         have hpl : (fun i => pl[i]?) = Yp P fs.toList := funext hp2
         simp only [execOp, Sem.run_bind, Instr.build, hz1, Result.andThen_ok, zc hu, hp1]
         rw [hpl]
         have : (parts.map fun x => (x.1, ρ' x.2)).toList = parts.toList.map fun p => (p.1, ρ' p.2) := by simp
         rw [this, hc1]
         rfl
      · simp [zb] at h
    · simp [zb] at h
  · rename_i z n e hz hu
    split at h
    · rename_i s hs
      split at h
      · rename_i l hl
        obtain ⟨z0, hz1, hz2, hz3⟩ := ZC (w := w) hz
        have hzr : LRel β z z0.cells.toList := by rw [hz2]; exact LRel.closedA hz3
        simp only [zb] at h
        cases hf : zi ρ z l with
        | none => simp [hf] at h
        | some cs =>
         simp only [hf, z2] at h
         subst h
         obtain ⟨cs', hc1, hc2⟩ := KO (β := β) (ρ' := ρ') hl hρ' hzr hf
         refine ⟨.agg cs', ?_, .agg hc2⟩
         simp only [execOp, Sem.run_bind, Instr.build, hz1, Result.andThen_ok, zc hu, zu hs]
         show Result.andThen (Sem.run P (match Instr.fill (K4 s) z0.cells (parts.map fun x => (x.1, ρ' x.2)).toList with | some cells => _ | _ => _) w) _ = _
         have : (parts.map fun x => (x.1, ρ' x.2)).toList = parts.toList.map fun p => (p.1, ρ' p.2) := by simp
         rw [this, hc1]
         rfl
      · simp [zb] at h
    · simp [zb] at h
  · simp [zb] at h
 case makeFunc fn first captured =>
  cases fn with
  | func f =>
   simp only [zC, zb, z2] at h
   subst h
   refine ⟨.func (.func f) (first.map ρ') (captured.map ρ'), by simp [execOp, Instr.makeFunc], .func ?_ ?_⟩
   · simp only [Array.toList_map]; exact LRel.map fun x hx => hρ x (by simp [Op.operands]; exact .inl (by simpa using hx))
   · simp only [Array.toList_map]; exact LRel.map fun x hx => hρ x (by simp [Op.operands]; exact .inr (by simpa using hx))
  | _ => simp [zC, zb] at h
 case extract x i =>
  have hx := hρ x (by simp [Op.operands])
  simp only [zC, zb] at h
  generalize ρ x = X at hx h
  generalize hX : ρ' x = X' at hx
  cases hx <;> simp only [reduceCtorEq] at h
  rename_i a a' ha
  obtain ⟨v', h1, h2⟩ := ha.getN h
  rw [Array.getElem?_toList] at h1
  exact ⟨v', by simp [execOp, hX, Instr.extract, h1], h2⟩
 case fieldAddr t x i =>
  have hx := hρ x (by simp [Op.operands])
  simp only [zC] at h
  split at h
  · rename_i fs hu
    split at h
    · rename_i f hf
      split at h
      · rename_i n hs
        simp only [zb] at h
        generalize ρ x = X at hx h
        generalize hX : ρ' x = X' at hx
        cases hx <;> simp only [z2, reduceCtorEq] at h
        rename_i k off l hl
        subst h
        rw [KL] at hf
        have hf' : fs[i]? = some f := by simpa using hf
        refine ⟨.pointer (some ⟨l.blk, l.off + (off + f.offset), none⟩), ?_, .ptr hl⟩
        simp [execOp, Instr.fieldAt, zc hu, hf', hX, Instr.sureAddr, fieldPlace, zu hs, Addr.add_lit, Nat.add_assoc]
      · simp [zb] at h
    · simp [zb] at h
  · simp [zb] at h
 case field t x i =>
  have hx := hρ x (by simp [Op.operands])
  simp only [zC] at h
  split at h
  · rename_i fs hu
    split at h
    · rename_i f hf
      split at h
      · rename_i g hg
        simp only [zb] at h
        generalize ρ x = X at hx h
        generalize hX : ρ' x = X' at hx
        cases hx <;> simp only [reduceCtorEq] at h
        rename_i a a' ha
        rw [KL] at hf
        have hf' : fs[i]? = some f := by simpa using hf
        obtain ⟨v', h1, h2⟩ := Ku (P := P) (w := w) hg ha h
        exact ⟨v', by simp [execOp, Instr.field, zc hu, hf', hX, asAgg, h1], h2⟩
      · simp [zb] at h
    · simp [zb] at h
  · simp [zb] at h
 case indexAddr t x i =>
  have hx := hρ x (by simp [Op.operands])
  have hi := hρ i (by simp [Op.operands])
  simp only [zC] at h
  split at h
  · rename_i n e hu
    split at h
    · rename_i s hs
      simp only [zb] at h
      generalize ρ x = X at hx h
      generalize hX : ρ' x = X' at hx
      cases hj : zU (ρ i) with
      | none => cases hx <;> simp [hj] at h
      | some j =>
       obtain ⟨k0, _, e2⟩ := hi.idx hj
       cases hx <;> simp only [hj, reduceCtorEq] at h
       rename_i k off l hl
       by_cases hlt : Nat.blt j n = true
       · simp only [hlt, if_true, z2] at h
         subst h
         have hlt' : j < n := YO hlt
         refine ⟨.pointer (some ⟨l.blk, l.off + (off + j * (s + 1)), none⟩), ?_, .ptr hl⟩
         simp [execOp, Instr.indexAt, zc hu, hX, e2, asIntOf, Instr.sureAddr, zu hs, Addr.add_lit, Nat.add_assoc, hlt']
       · simp [hlt] at h
    · simp [zb] at h
  · rename_i e hu
    split at h
    · rename_i s hs
      simp only [zb] at h
      generalize ρ x = X at hx h
      generalize hX : ρ' x = X' at hx
      cases hj : zU (ρ i) with
      | none => cases hx <;> simp [hj] at h
      | some j =>
       obtain ⟨k0, _, e2⟩ := hi.idx hj
       cases hx <;> simp only [hj, reduceCtorEq] at h
       · rename_i k off l len cap a' hl hn ha
         by_cases hlt : Nat.blt j len = true
         · simp only [hlt, if_true, z2] at h
           subst h
           have hlt' : j < len := YO hlt
           rcases ha with ha | ha
           · omega
           · subst ha
             refine ⟨.pointer (some ⟨l.blk, l.off + (off + j * (s + 1)), none⟩), ?_, .ptr hl⟩
             simp [execOp, Instr.indexAt, zc hu, hX, e2, asIntOf, zu hs, Addr.add_lit, Nat.add_assoc, hlt']
         · simp [hlt] at h
       · rename_i k off l len cap a' hl hn hsz ha hx9
         by_cases hlt : Nat.blt j len = true
         · simp only [hlt, if_true, z2] at h
           subst h
           have hlt' : j < len := YO hlt
           rcases ha with ha | ha
           · omega
           · subst ha
             refine ⟨.pointer (some ⟨l.blk, l.off + (off + j * (s + 1)), none⟩), ?_, .ptr hl⟩
             simp [execOp, Instr.indexAt, zc hu, hX, e2, asIntOf, zu hs, Addr.add_lit, Nat.add_assoc, hlt']
         · simp [hlt] at h
    · simp [zb] at h
  · simp [zb] at h
 case index t x i =>
  have hx := hρ x (by simp [Op.operands])
  have hi := hρ i (by simp [Op.operands])
  simp only [zC] at h
  split at h
  · rename_i n e hu
    split at h
    · rename_i s g hs hg
      simp only [zb] at h
      generalize ρ x = X at hx h
      generalize hX : ρ' x = X' at hx
      cases hj : zU (ρ i) with
      | none => cases hx <;> simp [hj] at h
      | some j =>
       obtain ⟨k0, _, e2⟩ := hi.idx hj
       cases hx <;> simp only [hj, reduceCtorEq] at h
       rename_i a a' ha
       by_cases hlt : Nat.blt j n = true
       · simp only [hlt, if_true] at h
         have hlt' : j < n := YO hlt
         obtain ⟨v', h1, h2⟩ := Ku (P := P) (w := w) hg ha h
         refine ⟨v', ?_, h2⟩
         simp [execOp, Instr.index, zc hu, hX, e2, asIntOf, zu hs, hlt', h1]
       · simp [hlt] at h
    · simp [zb] at h
  · rename_i hu
    simp only [zb] at h
    generalize ρ x = X at hx h
    generalize hX : ρ' x = X' at hx
    cases hj : zU (ρ i) with
    | none => cases hx <;> simp [hj] at h
    | some j =>
     obtain ⟨k0, _, e2⟩ := hi.idx hj
     cases hx <;> simp only [hj, reduceCtorEq] at h
     rename_i b
     cases hd : b.data.toList.drop j with
     | nil => simp [hd] at h
     | cons c r =>
      simp only [hd, z2] at h
      subst h
      have hg := (Wc hd).1
      have hget : b[j]? = some c := by
       have : b.data[j]? = some c := by simpa using hg
       rw [← this]; rfl
      refine ⟨.int .u8 c.toNat, ?_, .int _ _⟩
      simp [execOp, Instr.index, zc hu, hX, e2, asIntOf, hget]
  · simp [zb] at h
 case slice t x lo hi mx =>
  have hx := hρ x (by simp [Op.operands])
  have hb : ∀ y, (some y = lo ∨ some y = hi ∨ some y = mx) → VRel β (ρ y) (ρ' y) := by
   intro y hy
   refine hρ y ?_
   rcases hy with rfl | rfl | rfl <;> simp [Op.operands]
  simp only [zC] at h
  have arrcase : ∀ (n s : Nat), zb ρ (.slA n (s + 1) x lo hi mx) = some v → ∃ (k off : Nat) (loc : Loc), β k = some loc ∧ ρ' x = .pointer (some ⟨loc.blk, loc.off + off, none⟩) ∧
   ∃ l h0 m, (∀ (is : Bool), (Instr.sliceBounds is n n (lo.map ρ') (hi.map ρ') (mx.map ρ')).run P w = .ok (l, h0, m) w) ∧
    VRel β v (.slice (some (if m = l then ⟨loc.blk, loc.off + off, none⟩ else (⟨loc.blk, loc.off + off, none⟩ : Addr).add (l * (s + 1)))) (h0 - l) (m - l)) := by
   intro n s h
   simp only [zb] at h
   generalize ρ x = X at hx h
   generalize hX : ρ' x = X' at hx
   cases hx <;> simp only [reduceCtorEq] at h
   rename_i k off loc hl
   cases hbd : ZS n n (lo.map ρ) (hi.map ρ) (mx.map ρ) with
   | none => simp [hbd] at h
   | some r =>
    obtain ⟨l, h0, m⟩ := r
    simp only [hbd] at h
    refine ⟨k, off, loc, hl, rfl, l, h0, m, ?_, ?_⟩
    · intro is
      obtain ⟨hr, hlh, hm1, hm2, hm3⟩ := Xe (P := P) (w := w) (isSlice := is) hb hbd (Nat.le_refl n)
      rw [hr]
      cases mx with
      | none => simp [hm2 rfl]
      | some z => simp
    · obtain ⟨hr, hlh, hm1, hm2, hm3⟩ := Xe (P := P) (w := w) (isSlice := true) hb hbd (Nat.le_refl n)
      simp only [Yd, if_true, z2] at h
      subst h
      have hmn : m ≤ n := by
       cases mx with
       | none => simp [hm2 rfl]
       | some z => exact hm1 rfl
      have hhm : h0 ≤ m := by
       rcases hm3 with hm3 | ⟨_, hmx, hm3⟩
       · exact hm3
       · rw [hm2 hmx, hm3]; exact Nat.le_refl _
      by_cases e : m = l
      · simp only [e, if_true, Nat.sub_self]
        have : h0 - l = 0 := by omega
        rw [this]
        exact .closed hl (Nat.le_refl _) (.inl rfl)
      · simp only [e, if_false]
        refine .closed hl (by omega) (.inr ?_)
        rw [Addr.add_lit]; simp [Nat.add_assoc]
  split at h
  · rename_i hu
    split at h
    · simp [zb] at h
    · rename_i hmx
      have hmx' : mx = none := by cases mx <;> simp_all
      subst hmx'
      simp only [zb] at h
      generalize ρ x = X at hx h
      generalize hX : ρ' x = X' at hx
      cases hx <;> simp only [reduceCtorEq] at h
      rename_i b
      replace h : (match ZS b.size b.size (lo.map ρ) (hi.map ρ) none with | some (l, h, _) => some (Value.string ⟨⟨(b.data.toList.drop l).take (h - l)⟩⟩) | none => none) = some v := h
      cases hbd : ZS b.size b.size (lo.map ρ) (hi.map ρ) none with
      | none => rw [hbd] at h; cases h
      | some r =>
       obtain ⟨l, h0, m⟩ := r
       rw [hbd] at h
       simp only [z2] at h
       subst h
       obtain ⟨hr, hlh, hm1, hm2, hm3⟩ := Xe (P := P) (w := w) (isSlice := false) (mx := none) hb hbd (Nat.le_refl _)
       simp only [Option.map_none] at hr
       refine ⟨.string (b.extract l h0), ?_, ?_⟩
       · simp only [execOp, Instr.sliceAt, Instr.slice, Sem.run_bind, zc hu, Result.andThen_ok, hX, Option.map_none, Option.isSome_none, z3, if_false, Sem.run_pure, hr]
       · have : b.extract l h0 = ⟨⟨(b.data.toList.drop l).take (h0 - l)⟩⟩ := by
          apply ByteArray.ext
          apply Array.ext'
          simp [ByteArray.data_extract, Array.toList_extract, List.extract_eq_take_drop]
         rw [this]
         exact .string _
  · rename_i e hu
    split at h
    · rename_i s hs
      simp only [zb] at h
      cases hX : ρ x <;> rw [hX] at h hx <;> simp only [reduceCtorEq] at h
      rename_i a len cap
      cases hbd : ZS len cap (lo.map ρ) (hi.map ρ) (mx.map ρ) with
      | none => simp [hbd] at h
      | some r =>
       obtain ⟨l, h0, m⟩ := r
       simp only [hbd] at h
       obtain ⟨_, hlh, hm1, hm2, hm3⟩ := Xe (P := P) (w := w) (isSlice := true) hb hbd (Nat.le_refl cap)
       obtain ⟨b, cap', e1, hcap, hv⟩ := DE hx h hlh (by
        rcases hm3 with hm3 | ⟨h1, h2, h3⟩
        · exact .inl hm3
        · exact .inr ⟨h3, by simp [h2]⟩) (fun hh => hm1 hh) (fun hh => hm2 (by cases mx <;> simp_all))
       obtain ⟨hr, _⟩ := Xe (P := P) (w := w) (isSlice := true) hb hbd hcap
       refine ⟨_, ?_, hv⟩
       simp only [execOp, Instr.sliceAt, Instr.slice, Sem.run_bind, zc hu, Result.andThen_ok, e1, hr, zu hs]
       rfl
    · simp [zb] at h
  · rename_i n e hu
    split at h
    · rename_i s hs
      obtain ⟨k, off, loc, hl, hX, l, h0, m, hr, hv⟩ := arrcase n s h
      refine ⟨_, ?_, hv⟩
      simp only [execOp, Instr.sliceAt, Sem.run_bind, zc hu, Result.andThen_ok, hX, Instr.sureAddr, Sem.run_pure, hr, zu hs]
    · simp [zb] at h
  · rename_i a hu
    split at h
    · rename_i n e hu2
      split at h
      · rename_i s hs
        obtain ⟨k, off, loc, hl, hX, l, h0, m, hr, hv⟩ := arrcase n s h
        refine ⟨_, ?_, hv⟩
        simp only [execOp, Instr.sliceAt, Instr.slice, Sem.run_bind, zc hu, zc hu2, Result.andThen_ok, hX, asAddr, Sem.run_pure, hr, zu hs]
      · simp [zb] at h
    · simp [zb] at h
  · simp [zb] at h
 case call c =>
  obtain ⟨callee, args, ats⟩ := c
  cases callee with
  | value f => simp only [zC, zb] at h; cases h
  | invoke r n => simp only [zC, zb] at h; cases h
  | builtin b =>
   simp only [zC] at h hc
   have hargs : ∀ x ∈ args.toList, VRel β (ρ x) (ρ' x) := fun x hx => hρ x (by simp [Op.operands, Call.operands]; simpa using hx)
   have ea : args = args.toList.toArray := by simp
   have et : ats = ats.toList.toArray := by simp
   generalize args.toList = al at *
   generalize ats.toList = tl at *
   subst ea; subst et
   unfold Y8 YS at h hc
   split at h
   · (repeat' split at h) <;> simp [zb] at h
   · rename_i x t rest
     have hx := hargs x (by simp)
     split at h
     · rename_i hu
       simp only [zb] at h
       generalize ρ x = X at hx h
       generalize hX : ρ' x = X' at hx
       cases hx <;> simp only [z2, reduceCtorEq] at h
       rename_i b
       subst h
       exact ⟨_, by simp only [execOp, resolve, Sem.run_bind, Sem.run_pure, Result.andThen_ok, invoke, builtin, List.map_toArray, z4, z5, hX, Builtin.len_, List.getElem?_toArray, List.getElem?_cons_zero, zc hu]; rfl, .int _ _⟩
     · rename_i e hu
       simp only [zb] at h
       generalize hX : ρ' x = X' at hx
       cases hY : ρ x <;> rw [hY] at h hx <;> simp only [z2, reduceCtorEq] at h
       subst h
       cases hx <;> exact ⟨_, by simp only [execOp, resolve, Sem.run_bind, Sem.run_pure, Result.andThen_ok, invoke, builtin, List.map_toArray, z4, z5, hX, Builtin.len_, List.getElem?_toArray, List.getElem?_cons_zero, zc hu]; rfl, .int _ _⟩
     · simp [zb] at h
     · rename_i n e hu
       simp only [zb, z2] at h
       subst h
       exact ⟨_, by simp only [execOp, resolve, Sem.run_bind, Sem.run_pure, Result.andThen_ok, invoke, builtin, List.map_toArray, z4, z5, Builtin.len_, List.getElem?_toArray, List.getElem?_cons_zero, zc hu]; rfl, .int _ _⟩
     · rename_i a hu
       split at h
       · rename_i n e hu2
         simp only [zb, z2] at h
         subst h
         exact ⟨_, by simp only [execOp, resolve, Sem.run_bind, Sem.run_pure, Result.andThen_ok, invoke, builtin, List.map_toArray, z4, z5, Builtin.len_, List.getElem?_toArray, List.getElem?_cons_zero, zc hu, zc hu2]; rfl, .int _ _⟩
       · simp [zb] at h
     · simp [zb] at h
   · rename_i x t rest
     have hx := hargs x (by simp)
     split at h
     · rename_i e hu
       simp only [zb] at h
       generalize ρ x = X at hx h
       generalize hX : ρ' x = X' at hx
       cases hx <;> simp only [z2, reduceCtorEq] at h <;> (subst h; exact ⟨_, by simp only [execOp, resolve, Sem.run_bind, Sem.run_pure, Result.andThen_ok, invoke, builtin, List.map_toArray, z4, z5, hX, Builtin.cap_, List.getElem?_toArray, List.getElem?_cons_zero, zc hu]; rfl, .int _ _⟩)
     · rename_i n e hu
       simp only [zb, z2] at h
       subst h
       exact ⟨_, by simp only [execOp, resolve, Sem.run_bind, Sem.run_pure, Result.andThen_ok, invoke, builtin, List.map_toArray, z4, z5, Builtin.cap_, List.getElem?_toArray, List.getElem?_cons_zero, zc hu]; rfl, .int _ _⟩
     · rename_i a hu
       split at h
       · rename_i n e hu2
         simp only [zb, z2] at h
         subst h
         exact ⟨_, by simp only [execOp, resolve, Sem.run_bind, Sem.run_pure, Result.andThen_ok, invoke, builtin, List.map_toArray, z4, z5, Builtin.cap_, List.getElem?_toArray, List.getElem?_cons_zero, zc hu, zc hu2]; rfl, .int _ _⟩
       · simp [zb] at h
     · simp [zb] at h
   · (repeat' split at h) <;> simp [zb] at h
   · (repeat' split at h) <;> simp [zb] at h
   · (repeat' split at h) <;> simp [zb] at h
   · split at h
     · simp only [zb] at h
       have hl : LRel β (al.map ρ) (al.map ρ') := LRel.map hargs
       generalize hA : al.map ρ = A at hl h
       generalize hA' : al.map ρ' = A' at hl
       cases hl with
       | nil => simp at h
       | cons hx t =>
        cases hx <;> simp only [reduceCtorEq] at h
        obtain ⟨h1, h2⟩ := CS (P := P) (w := w) t h
        refine ⟨v, ?_, h2⟩
        simp only [execOp, resolve, Sem.run_bind, Sem.run_pure, Result.andThen_ok, invoke, builtin, List.map_toArray, hA', Builtin.min_, h1]
     · simp [zb] at h
   · split at h
     · simp only [zb] at h
       have hl : LRel β (al.map ρ) (al.map ρ') := LRel.map hargs
       generalize hA : al.map ρ = A at hl h
       generalize hA' : al.map ρ' = A' at hl
       cases hl with
       | nil => simp at h
       | cons hx t =>
        cases hx <;> simp only [reduceCtorEq] at h
        obtain ⟨h1, h2⟩ := CU (P := P) (w := w) t h
        refine ⟨v, ?_, h2⟩
        simp only [execOp, resolve, Sem.run_bind, Sem.run_pure, Result.andThen_ok, invoke, builtin, List.map_toArray, hA', Builtin.max_, h1]
     · simp [zb] at h
   · simp [zb] at h
 case next it b => cases b <;> simp [zC, zb] at h
 case range t x => simp only [zC] at h; (repeat' split at h) <;> simp [zb] at h
 all_goals (simp only [zC] at h; (repeat' split at h) <;> simp [zb] at h)
end
end Go.Dx
