/- A part. -/
import Derived.Test.YthmgnfeljhdioaaGreatDxStep
import Derived.Laws.StructEq
set_option linter.unusedVariables false
set_option linter.unusedSimpArgs false
set_option linter.unusedSectionVars false
namespace Go.Dx
open Go
section
variable {P : Program} {β : Emb} {w : World}
theorem zc {t : TypeId} {d : TypeDesc} (h : P.underlying t = some d) : (underlying t).run P w = .ok d w := by
 simp [underlying, h]
theorem D3 {t : TypeId} {n : Nat} (h : Zx P t = some n) : ∃ i, P.info? t = some i ∧ i.size = n := by
 unfold Zx at h
 cases hi : P.info? t with
 | none => simp [hi] at h
 | some i => simp [hi] at h; exact ⟨i, rfl, h⟩
theorem zu {t : TypeId} {n : Nat} (h : Zx P t = some n) : (sizeOf t).run P w = .ok n w := by
 obtain ⟨i, hi, rfl⟩ := D3 h
 simp [sizeOf, typeInfo, hi]
theorem Xc {t : TypeId} {g : Option Nat} (h : ZV P t = some g) :
 (isAgg t).run P w = .ok g.isSome w ∧ ∀ n, g = some n → Zx P t = some n := by
 unfold ZV at h
 cases hu : P.underlying t with
 | none => simp [hu] at h
 | some d =>
  rw [hu] at h
  cases d <;> simp only [z2] at h
  case struct fs =>
   cases hs : Zx P t with
   | none => simp [hs] at h
   | some n => simp [hs] at h; subst h; exact ⟨by simp [isAgg, zc hu], fun m hm => by cases hm; rfl⟩
  case array n e =>
   cases hs : Zx P t with
   | none => simp [hs] at h
   | some n => simp [hs] at h; subst h; exact ⟨by simp [isAgg, zc hu], fun m hm => by cases hm; rfl⟩
  all_goals (subst h; exact ⟨by simp [isAgg, zc hu], fun m hm => by cases hm⟩)
theorem Cr {v : Value} {n : Nat} (h : zU v = some n) : ∃ k, v = .int k (.ofNat n) := by
 unfold zU at h
 split at h
 · rename_i k m
   cases h
   exact ⟨k, rfl⟩
 · cases h
theorem VRel.idx {v v' : Value} {n : Nat} (hv : VRel β v v') (h : zU v = some n) : ∃ k, v = .int k (.ofNat n) ∧ v' = .int k (.ofNat n) := by
 obtain ⟨k, rfl⟩ := Cr h
 cases hv
 exact ⟨k, rfl, rfl⟩
def SF (P : Program) (t : TypeId) : SK → Prop
 | .bool => P.underlying t = some .bool
 | .int => ∃ k, P.underlying t = some (.int k)
 | .str => P.underlying t = some .string
 | .ptr => ∃ e n, P.underlying t = some (.pointer e) ∧ Zx P e = some (n + 1)
 | .slice => ∃ e, P.underlying t = some (.slice e)
 | .map => ∃ a e, P.underlying t = some (.map a e)
 | .func => ∃ a e v, P.underlying t = some (.func a e v)
theorem T7 {k : SK} {t : TypeId} {x y x' y' : Value} {b : Bool} {d : Nat} (h : zH k x y = some b) (hx : VRel β x x') (hy : VRel β y y')
 (ht : SF P t k) : (Op.equalIn (d + 1) t x' y').run P w = .ok b w := by
 unfold Op.equalIn
 cases k
 case bool =>
  simp only [Sem.run_bind, zc ht, Result.andThen_ok]
  cases hx <;> cases hy <;> simp only [zH, z2, reduceCtorEq] at h
  subst h; rfl
 case int =>
  obtain ⟨k, ht⟩ := ht
  simp only [Sem.run_bind, zc ht, Result.andThen_ok]
  cases hx <;> cases hy <;> simp only [zH, z2, reduceCtorEq] at h
  split at h
  · rename_i e
    subst e
    simp only [z2] at h
    subst h
    simp only [if_true]
    rfl
  · cases h
 case str =>
  simp only [Sem.run_bind, zc ht, Result.andThen_ok]
  cases hx <;> cases hy <;> simp only [zH, z2, reduceCtorEq, Z7, ← toList_data, ← beq_toListBytes] at h
  subst h; rfl
 case ptr =>
  obtain ⟨e, n, ht, hs⟩ := ht
  simp only [Sem.run_bind, zc ht, Result.andThen_ok]
  cases hx <;> cases hy <;> simp only [zH, z2, reduceCtorEq] at h
  case nilPtr.nilPtr => subst h; rfl
  case nilPtr.ptr => subst h; rfl
  case ptr.nilPtr => subst h; rfl
  case ptr.ptr k1 o1 l1 h1 k2 o2 l2 h2 =>
   by_cases he : k1 = k2
   · subst he
     rw [h1] at h2
     cases h2
     simp only [if_true, z2] at h
     subst h
     simp only [Sem.run_bind, zu hs, Result.andThen_ok, ne_eq, Nat.add_one_ne_zero, z0, if_true, sameAddr, beq_self_eq_true]
     simp only [Sem.run_pure]
     congr 1
     rw [Bool.eq_iff_iff]
     simp
   · simp [he] at h
 case slice =>
  obtain ⟨e, ht⟩ := ht
  simp only [Sem.run_bind, zc ht, Result.andThen_ok]
  cases hx <;> cases hy <;> simp only [zH, z2, reduceCtorEq] at h <;> subst h <;> rfl
 case map =>
  obtain ⟨a, e, ht⟩ := ht
  simp only [Sem.run_bind, zc ht, Result.andThen_ok]
  cases hx <;> cases hy <;> simp only [zH, z2, reduceCtorEq] at h <;> subst h <;> rfl
 case func =>
  obtain ⟨a, e, v, ht⟩ := ht
  simp only [Sem.run_bind, zc ht, Result.andThen_ok]
  cases hx <;> cases hy <;> simp only [zH, z2, reduceCtorEq] at h <;> subst h <;> rfl
theorem Yw {t : TypeId} (h : ZV P t = some none) {cs : Array Value} {off : Nat} {v : Value} (hv : cs[off]? = some v) : (part t cs off).run P w = .ok v w := by
 have h1 := (Xc (w := w) h).1
 simp only [Option.isSome_none] at h1
 simp [part, h1, hv]
theorem Yx {t : TypeId} {n : Nat} (h : ZV P t = some (some n)) {cs : Array Value} {off : Nat} : (part t cs off).run P w = .ok (.agg (cs.extract off (off + n))) w := by
 have h1 := Xc (w := w) h
 simp only [Option.isSome_some] at h1
 simp [part, h1.1, zu (h1.2 n rfl)]
theorem extract_toList (cs : Array Value) (off n : Nat) : (cs.extract off (off + n)).toList = (cs.toList.drop off).take n := by
 simp [Array.toList_extract, List.extract_eq_take_drop]
theorem QY {f : Nat} {t : TypeId} {e : ET} (h : XN P f t = some e) :
 (∃ k, e = .one k ∧ SF P t k ∧ ZV P t = some none) ∨ (∃ fs l, P.underlying t = some (.struct fs) ∧ P.stoodInHeld t = false ∧ e = .struct l ∧ ∃ f', f = f' + 1 ∧ Zz P f' fs.toList = some l) ∨
 (∃ n el s x, P.underlying t = some (.array n el) ∧ Zx P el = some s ∧ e = .arr n s x ∧ (∀ k, x = .one k → s = 1) ∧ ∃ f', f = f' + 1 ∧ XN P f' el = some x) := by
 cases f with
 | zero => simp [XN] at h
 | succ f =>
  unfold XN at h
  cases hu : P.underlying t with
  | none => simp [hu] at h
  | some d =>
   rw [hu] at h
   cases d <;> simp only [z2, reduceCtorEq] at h
   case bool => subst h; exact .inl ⟨_, rfl, hu, by simp [ZV, hu]⟩
   case int k => subst h; exact .inl ⟨_, rfl, ⟨k, hu⟩, by simp [ZV, hu]⟩
   case string => subst h; exact .inl ⟨_, rfl, hu, by simp [ZV, hu]⟩
   case pointer el =>
    cases hs : Zx P el with
    | none => simp [hs] at h
    | some n =>
     cases n with
     | zero => simp [hs] at h
     | succ n => simp [hs] at h; subst h; exact .inl ⟨_, rfl, ⟨el, n, hu, hs⟩, by simp [ZV, hu]⟩
   case slice el => subst h; exact .inl ⟨_, rfl, ⟨el, hu⟩, by simp [ZV, hu]⟩
   case map a el => subst h; exact .inl ⟨_, rfl, ⟨a, el, hu⟩, by simp [ZV, hu]⟩
   case func a el v => subst h; exact .inl ⟨_, rfl, ⟨a, el, v, hu⟩, by simp [ZV, hu]⟩
   case struct fs =>
    split at h
    · cases h
    · rename_i hst
      cases he : Zz P f fs.toList with
      | none => simp [he] at h
      | some l => simp [he] at h; subst h; exact .inr (.inl ⟨fs, l, rfl, by simpa using hst, rfl, f, rfl, he⟩)
   case array n el =>
    cases hs : Zx P el with
    | none => simp [hs] at h
    | some s =>
     cases he : XN P f el with
     | none => simp [hs, he] at h
     | some x =>
      simp only [hs, he] at h
      cases x with
      | one k =>
       by_cases hb : Nat.beq s 1 = true
       · simp only [hb, if_true, z2] at h
         subst h
         exact .inr (.inr ⟨n, el, s, _, rfl, hs, rfl, fun _ _ => Nat.eq_of_beq_eq_true hb, f, rfl, he⟩)
       · simp [hb] at h
      | struct l => simp only [if_true, z2] at h; subst h; exact .inr (.inr ⟨n, el, s, _, rfl, hs, rfl, (fun _ e => by cases e), f, rfl, he⟩)
      | arr a b c => simp only [if_true, z2] at h; subst h; exact .inr (.inr ⟨n, el, s, _, rfl, hs, rfl, (fun _ e => by cases e), f, rfl, he⟩)
theorem LRel.cons_inv {x : Value} {l m : List Value} (h : LRel β (x :: l) m) : ∃ x' l', m = x' :: l' ∧ VRel β x x' ∧ LRel β l l' := by
 cases h with
 | cons h t => exact ⟨_, _, rfl, h, t⟩
theorem Wc {α : Type} {l r : List α} {x : α} {k : Nat} (h : l.drop k = x :: r) : l[k]? = some x ∧ l.drop (k + 1) = r := by
 constructor
 · have := List.getElem?_drop (xs := l) (i := k) (j := 0)
   rw [h] at this; simpa using this.symm
 · rw [← List.drop_drop, h]; rfl
def J9 (P : Program) (t : TypeId) (s : Nat) : ET → Prop
 | .one _ => ZV P t = some none
 | _ => ZV P t = some (some s)
theorem VB {f : Nat} {t : TypeId} {e : ET} {s : Nat} (h : XN P f t = some e) (hs : Zx P t = some s) : J9 P t s e := by
 rcases QY h with ⟨k, rfl, _, ha⟩ | ⟨fs, l, hu, _, rfl, _⟩ | ⟨n, el, s', x, hu, hs', rfl, _⟩
 · exact ha
 · simp [J9, ZV, hu, hs]
 · simp [J9, ZV, hu, hs]
theorem T8 {d : Nat} {el : TypeId} {s : Nat} {x : ET} {xs ys : List Value} {xs' ys' : Array Value} (hx : LRel β xs xs'.toList) (hy : LRel β ys ys'.toList)
 (hfit : J9 P el s x) (h1 : ∀ k, x = .one k → s = 1)
 (A : ∀ u v u' v' b, Zq x u v = some b → VRel β u u' → VRel β v v' → (Op.equalIn d el u' v').run P w = .ok b w) :
 ∀ (m k : Nat) (b : Bool), ZG x s (xs.drop (k * s)) (ys.drop (k * s)) m = some b →
  (forIn (List.range' k m 1) ((none, ()) : Option Bool × Unit) fun i _ => do
   let a ← part el xs' (i * s)
   let c ← part el ys' (i * s)
   let r ← Op.equalIn d el a c
   if (!r) = true then pure (ForInStep.done (some false, ())) else pure (ForInStep.yield (none, ()))).run P w = .ok (if b then (none, ()) else (some false, ())) w := by
 intro m
 induction m with
 | zero => intro k b h; simp [ZG] at h; subst h; simp
 | succ m ih =>
  intro k b h
  rw [List.range'_succ, List.forIn_cons]
  cases x with
  | one kk =>
   have hs := h1 kk rfl
   subst hs
   simp only [Nat.mul_one] at h ih ⊢
   unfold ZG at h
   cases hxd : xs.drop k with
   | nil => simp [hxd] at h
   | cons u us =>
    cases hyd : ys.drop k with
    | nil => simp [hxd, hyd] at h
    | cons v vs =>
     simp only [hxd, hyd] at h
     obtain ⟨hu0, hus⟩ := Wc hxd
     obtain ⟨hv0, hvs⟩ := Wc hyd
     have ru := hx.drop k
     have rv := hy.drop k
     rw [hxd] at ru; rw [hyd] at rv
     obtain ⟨u', us', eu, ru1, _⟩ := ru.cons_inv
     obtain ⟨v', vs', ev, rv1, _⟩ := rv.cons_inv
     have hu' := (Wc eu).1
     have hv' := (Wc ev).1
     rw [Array.getElem?_toList] at hu' hv'
     cases he : zH kk u v with
     | none => simp [he] at h
     | some r =>
      have hr := A u v u' v' r (by simpa [Zq] using he) ru1 rv1
      simp only [he] at h
      simp only [Sem.run_bind, Yw hfit hu', Yw hfit hv', Result.andThen_ok, hr]
      cases r with
      | true =>
       simp only [Bool.not_true, z3, if_false, Sem.run_pure, Result.andThen_ok]
       exact ih (k + 1) b (by rw [hus, hvs]; exact h)
      | false =>
       simp only [z2] at h
       subst h
       simp
  | struct fs =>
   unfold ZG at h
   cases he : Zq (.struct fs) (.agg ⟨(xs.drop (k * s)).take s⟩) (.agg ⟨(ys.drop (k * s)).take s⟩) with
   | none => simp [he] at h
   | some r =>
    have hr := A _ _ (.agg (xs'.extract (k * s) (k * s + s))) (.agg (ys'.extract (k * s) (k * s + s))) r he (.agg (by rw [extract_toList]; exact (hx.drop _).take _)) (.agg (by rw [extract_toList]; exact (hy.drop _).take _))
    simp only [he] at h
    simp only [Sem.run_bind, Yx hfit, Result.andThen_ok, hr]
    cases r with
    | true =>
     simp only [Bool.not_true, z3, if_false, Sem.run_pure, Result.andThen_ok]
     refine ih (k + 1) b ?_
     rw [List.drop_drop, List.drop_drop] at h
     rw [Nat.add_mul, Nat.one_mul]
     exact h
    | false =>
     simp only [z2] at h
     subst h
     simp
  | arr n' s' e' =>
   unfold ZG at h
   cases he : Zq (.arr n' s' e') (.agg ⟨(xs.drop (k * s)).take s⟩) (.agg ⟨(ys.drop (k * s)).take s⟩) with
   | none => simp [he] at h
   | some r =>
    have hr := A _ _ (.agg (xs'.extract (k * s) (k * s + s))) (.agg (ys'.extract (k * s) (k * s + s))) r he (.agg (by rw [extract_toList]; exact (hx.drop _).take _)) (.agg (by rw [extract_toList]; exact (hy.drop _).take _))
    simp only [he] at h
    simp only [Sem.run_bind, Yx hfit, Result.andThen_ok, hr]
    cases r with
    | true =>
     simp only [Bool.not_true, z3, if_false, Sem.run_pure, Result.andThen_ok]
     refine ih (k + 1) b ?_
     rw [List.drop_drop, List.drop_drop] at h
     rw [Nat.add_mul, Nat.one_mul]
     exact h
    | false =>
     simp only [z2] at h
     subst h
     simp
theorem VC : ∀ (f : Nat),
 (∀ (t : TypeId) (e : ET), XN P f t = some e → ∀ (d : Nat) (x y x' y' : Value) (b : Bool), Zq e x y = some b → VRel β x x' → VRel β y y' → (Op.equalIn (d + f) t x' y').run P w = .ok b w) ∧
 (∀ (fs : List Field) (l : List (Nat × Nat × ET)), Zz P f fs = some l → ∀ (d : Nat) (xs ys : List Value) (xs' ys' : Array Value) (b : Bool), eqFields l xs ys = some b →
  LRel β xs xs'.toList → LRel β ys ys'.toList → (Op.eqFields (d + f) xs' ys' fs).run P w = .ok b w) := by
 intro f
 induction f with
 | zero => exact ⟨fun t e h => by simp [XN] at h, fun fs l h => by simp [Zz] at h⟩
 | succ f ih =>
  obtain ⟨ihA, ihB⟩ := ih
  refine ⟨?_, ?_⟩
  · intro t e he d x y x' y' b h hx hy
    rcases QY he with ⟨k, rfl, hf, _⟩ | ⟨fs, l, hu, hst, rfl, f', hf', hl⟩ | ⟨n, el, s, x0, hu, hs, rfl, h1, f', hf', hel⟩
    · exact T7 (d := d + f) (by simpa [Zq] using h) hx hy hf
    · cases hf'
      cases hx <;> try (simp only [Zq, reduceCtorEq] at h; done)
      rename_i xs xs' hxs
      cases hy <;> try (simp only [Zq, reduceCtorEq] at h; done)
      rename_i ys ys' hys
      simp only [Zq] at h
      have hfo : P.fieldsOf t = fs := by unfold Program.fieldsOf; rw [hu]
      rw [show d + (f + 1) = (d + f) + 1 from by omega, run_equalIn_struct w (d + f) t xs' ys' (by rw [hfo]; exact hu) hst, hfo]
      exact ihB fs.toList l hl d _ _ xs' ys' b h hxs hys
    · cases hf'
      cases hx <;> try (simp only [Zq, reduceCtorEq] at h; done)
      rename_i xs xs' hxs
      cases hy <;> try (simp only [Zq, reduceCtorEq] at h; done)
      rename_i ys ys' hys
      simp only [Zq] at h
      have hlp := T8 (w := w) (d := d + f) (s := s) hxs hys (VB hel hs) h1 (fun u v u' v' b hb hu hv => ihA el x0 hel d u v u' v' b hb hu hv) n 0 b (by simpa using h)
      rw [show d + (f + 1) = (d + f) + 1 from by omega]
      unfold Op.equalIn
      simp only [Sem.run_bind, zc hu, Result.andThen_ok, zu hs]
      rw [Std.Legacy.Range.forIn_eq_forIn_range']
      have hsz : [:n].size = n := by simp [Std.Legacy.Range.size]
      rw [hsz]
      rw [hlp]
      cases b <;> rfl
  · intro fs l hl d xs ys xs' ys' b h hx hy
    cases fs with
    | nil => simp [Zz] at hl; subst hl; simp [eqFields] at h; subst h; simp [Op.eqFields]
    | cons fd fs =>
     unfold Zz at hl
     split at hl
     · cases hl
     · rename_i hn
       have hn' : fd.name ≠ "_" := by simpa using hn
       cases hs : Zx P fd.type with
       | none => simp [hs] at hl
       | some s =>
        cases he : XN P f fd.type with
        | none => simp [hs, he] at hl
        | some e =>
         cases hr : Zz P f fs with
         | none => simp [hs, he, hr] at hl
         | some l' =>
          simp only [hs, he, hr, z2] at hl
          subst hl
          have hfit := VB he hs
          have hcall := ihA fd.type e he (d + 1)
          have hrest := fun b hb => ihB fs l' hr (d + 1) xs ys xs' ys' b hb hx hy
          rw [show d + 1 + f = d + (f + 1) from by omega] at hcall hrest
          unfold Op.eqFields
          simp only [hn', ne_eq, z0, if_true]
          cases e with
          | one k =>
           unfold eqFields at h
           cases hu : getN xs fd.offset with
           | none => simp [hu] at h
           | some u =>
            cases hv : getN ys fd.offset with
            | none => simp [hu, hv] at h
            | some v =>
             simp only [hu, hv] at h
             obtain ⟨u', hu', ru⟩ := hx.getN hu
             obtain ⟨v', hv', rv⟩ := hy.getN hv
             rw [Array.getElem?_toList] at hu' hv'
             cases hq : zH k u v with
             | none => simp [hq] at h
             | some r =>
              have h2 := hcall u v u' v' r (by simpa [Zq] using hq) ru rv
              simp only [hq] at h
              simp only [Sem.run_bind, Yw hfit hu', Yw hfit hv', Result.andThen_ok, h2]
              cases r with
              | true => simp only [Bool.not_true, z3, if_false]; exact hrest b h
              | false => simp only [z2] at h; subst h; simp
          | struct fs2 =>
           unfold eqFields at h
           cases hq : Zq (.struct fs2) (.agg ⟨(xs.drop fd.offset).take s⟩) (.agg ⟨(ys.drop fd.offset).take s⟩) with
           | none => simp [hq] at h
           | some r =>
            have h2 := hcall _ _ (.agg (xs'.extract fd.offset (fd.offset + s))) (.agg (ys'.extract fd.offset (fd.offset + s))) r hq (.agg (by rw [extract_toList]; exact (hx.drop _).take _)) (.agg (by rw [extract_toList]; exact (hy.drop _).take _))
            simp only [hq] at h
            simp only [Sem.run_bind, Yx hfit, Result.andThen_ok, h2]
            cases r with
            | true => simp only [Bool.not_true, z3, if_false]; exact hrest b h
            | false => simp only [z2] at h; subst h; simp
          | arr n2 s2 e2 =>
           unfold eqFields at h
           cases hq : Zq (.arr n2 s2 e2) (.agg ⟨(xs.drop fd.offset).take s⟩) (.agg ⟨(ys.drop fd.offset).take s⟩) with
           | none => simp [hq] at h
           | some r =>
            have h2 := hcall _ _ (.agg (xs'.extract fd.offset (fd.offset + s))) (.agg (ys'.extract fd.offset (fd.offset + s))) r hq (.agg (by rw [extract_toList]; exact (hx.drop _).take _)) (.agg (by rw [extract_toList]; exact (hy.drop _).take _))
            simp only [hq] at h
            simp only [Sem.run_bind, Yx hfit, Result.andThen_ok, h2]
            cases r with
            | true => simp only [Bool.not_true, z3, if_false]; exact hrest b h
            | false => simp only [z2] at h; subst h; simp
end
end Go.Dx
