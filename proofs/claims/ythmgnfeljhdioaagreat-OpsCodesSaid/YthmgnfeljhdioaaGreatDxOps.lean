/- A part. -/
import Derived.Test.YthmgnfeljhdioaaGreatDxPure
set_option linter.unusedVariables false
set_option linter.unusedSimpArgs false
set_option linter.unusedSectionVars false
namespace Go.Dx
open Go
section
variable {P : Program} {β : Emb} {w : World} {ρ ρ' : Operand → Value} {v : Value}
theorem JI {op : BinOp} {t : TypeId} {x y : Operand} {a b : Value} (h : P.eqGuardType P.depth t = false ∨ (∀ xs ys, ¬ (a = .agg xs ∧ b = .agg ys))) (hn : a ≠ .nilIface) :
 (eqGuard op t x y a b).run P w = .ok () w := by
 unfold eqGuard
 split
 all_goals first
  | rfl
  | (simp only [Bool.not_true, z3, if_false]
     split
     · exact absurd rfl hn
     · rename_i xs ys
       rcases h with h | h
       · simp [h]
       · exact absurd ⟨rfl, rfl⟩ (h xs ys)
     · rfl)
theorem VRel.notNilIface {a a' : Value} (h : VRel β a a') : a' ≠ .nilIface := by
 cases h <;> first | (simp; done) | (rintro rfl; rename_i hh; cases hh)
theorem F4 {op : BinOp} {a b a' b' : Value} (h : zo op a b = some v) (ha : VRel β a a') (hb : VRel β b b') : a' = a ∧ b' = b ∧ (∀ xs ys, ¬ (a' = .agg xs ∧ b' = .agg ys)) := by
 unfold zo at h
 cases ha <;> cases hb <;> simp_all
theorem Pe {op : BinOp} {a b : Value} (h : zo op a b = some v) : VRel β v v := by
 unfold zo at h
 split at h
 · rename_i k a k' b
   cases op <;> simp only [Zr, zm] at h <;> (repeat' split at h) <;> simp only [z2, reduceCtorEq] at h <;> subst h <;> first | exact .int _ _ | exact .bool _
 · cases op <;> simp only [FY] at h <;> (repeat' split at h) <;> simp only [z2, reduceCtorEq] at h <;> subst h <;> first | exact .string _ | exact .bool _
 · cases h
theorem PW {op : BinOp} {t : TypeId} {x y : Operand} (hx : VRel β (ρ x) (ρ' x)) (hy : VRel β (ρ y) (ρ' y)) (h : zo op (ρ x) (ρ y) = some v) :
 ∃ v', (do eqGuard op t x y (ρ' x) (ρ' y); binOp op t (ρ' x) (ρ' y) : Sem Value).run P w = .ok v' w ∧ VRel β v v' := by
 obtain ⟨e1, e2, e3⟩ := F4 h hx hy
 refine ⟨v, ?_, Pe h⟩
 simp only [Sem.run_bind, JI (.inr e3) hx.notNilIface, Result.andThen_ok]
 rw [e1, e2]
 exact Pf t h
theorem MI {neg : Bool} {t : TypeId} {x y : Operand} {e : ET} (he : XN P 12 t = some e) (hg : P.eqGuardType P.depth t = false) (hi : ∀ k, P.underlying t ≠ some (.int k)) (hs : P.underlying t ≠ some .string)
 (hx : VRel β (ρ x) (ρ' x)) (hy : VRel β (ρ y) (ρ' y)) {b : Bool} (h : Zq e (ρ x) (ρ y) = some b) :
 (do eqGuard (if neg then .neq else .eql) t x y (ρ' x) (ρ' y); binOp (if neg then .neq else .eql) t (ρ' x) (ρ' y) : Sem Value).run P w = .ok (.bool (if neg then !b else b)) w := by
 simp only [Sem.run_bind, JI (.inl hg) hx.notNilIface, Result.andThen_ok]
 have hq := (VC (P := P) (β := β) (w := w) 12).1 t e he 9988 (ρ x) (ρ y) (ρ' x) (ρ' y) b h hx hy
 have key : ∀ o : BinOp, (o = .eql ∨ o = .neq) → binOp o t (ρ' x) (ρ' y) = (do let r ← Op.equal t (ρ' x) (ρ' y); pure (.bool (if o = .neq then !r else r)) : Sem Value) := by
  have h1 : ∀ k n, ρ' x ≠ .int k n := by
   intro k n e'
   rw [e'] at hx
   generalize ρ x = X at hx h
   cases hx
   rcases QY he with ⟨kk, rfl, hf, _⟩ | ⟨_, _, _, _, rfl, _⟩ | ⟨_, _, _, _, _, _, rfl, _⟩
   · cases kk <;> cases hY : ρ y <;> simp only [Zq, zH, hY, reduceCtorEq] at h
     obtain ⟨k2, hf⟩ := hf
     exact hi k2 hf
   · simp [Zq] at h
   · simp [Zq] at h
   · rename_i hh; cases hh
  have h2 : ∀ n, ρ' x ≠ .string n := by
   intro n e'
   rw [e'] at hx
   generalize ρ x = X at hx h
   cases hx
   rcases QY he with ⟨kk, rfl, hf, _⟩ | ⟨_, _, _, _, rfl, _⟩ | ⟨_, _, _, _, _, _, rfl, _⟩
   · cases kk <;> cases hY : ρ y <;> simp only [Zq, zH, hY, reduceCtorEq] at h
     exact hs hf
   · simp [Zq] at h
   · simp [Zq] at h
   · rename_i hh; cases hh
  have h3 : ∀ k n, ρ' x ≠ .float k n := by
   intro k n e'; rw [e'] at hx; generalize ρ x = X at hx; cases hx; rename_i hh; cases hh
  have h4 : ∀ k n m, ρ' x ≠ .complex k n m := by
   intro k n m e'; rw [e'] at hx; generalize ρ x = X at hx; cases hx; rename_i hh; cases hh
  intro o ho
  rcases ho with rfl | rfl
  · generalize ρ' x = X at *
    cases X <;> first | exact absurd rfl (h1 _ _) | exact absurd rfl (h2 _) | exact absurd rfl (h3 _ _) | exact absurd rfl (h4 _ _ _) | (unfold binOp; simp)
  · generalize ρ' x = X at *
    cases X <;> first | exact absurd rfl (h1 _ _) | exact absurd rfl (h2 _) | exact absurd rfl (h3 _ _) | exact absurd rfl (h4 _ _ _) | (unfold binOp; simp)
 have hq' : (Op.equal t (ρ' x) (ρ' y)).run P w = .ok b w := by simpa [Op.equal, Op.maxDepth] using hq
 cases neg
 · simp only [z3, if_false]
   rw [key .eql (.inl rfl)]
   simp [hq']
 · simp only [if_true]
   rw [key .neq (.inr rfl)]
   simp [hq']
theorem MH {op : UnOp} {x : Operand} (hx : VRel β (ρ x) (ρ' x)) (h : zb ρ (.un op x) = some v) : ∃ v', (Op.unary op (ρ' x)).run P w = .ok v' w ∧ VRel β v v' := by
 simp only [zb] at h
 generalize ρ x = X at hx h
 generalize ρ' x = X' at hx ⊢
 cases op <;> cases hx <;> simp only [z2, reduceCtorEq] at h
 case neg k n => subst h; exact ⟨.int k (zt k (0 - n)), by simp [Op.unary, Op.intArith, zS], .int _ _⟩
 case xor k n =>
  have hmx : (if k.signed = true then (-1 : Int) else k.max) = (if Xm k = true then -1 else Int.ofNat (zF k - 1)) := by cases k <;> rfl
  have := F3 (P := P) (w := w) h
  simp only [zm, z2] at h
  subst h
  refine ⟨_, ?_, .int _ _⟩
  simp only [Op.unary, hmx]
  exact this
 case not b => subst h; exact ⟨.bool (!b), by simp [Op.unary], .bool _⟩
theorem Xe {len cap cap' : Nat} {isSlice : Bool} {lo hi mx : Option Operand} {l h m : Nat} (hρ : ∀ x, (some x = lo ∨ some x = hi ∨ some x = mx) → VRel β (ρ x) (ρ' x))
 (hb : ZS len cap (lo.map ρ) (hi.map ρ) (mx.map ρ) = some (l, h, m)) (hcap : cap ≤ cap') :
 (Instr.sliceBounds isSlice len cap' (lo.map ρ') (hi.map ρ') (mx.map ρ')).run P w = .ok (l, h, if mx.isSome then m else cap') w ∧ l ≤ h ∧ (mx.isSome → m ≤ cap) ∧ (mx = none → m = cap) ∧ (h ≤ m ∨ hi = none ∧ mx = none ∧ h = len) := by
 have sb : ∀ (x : Operand) (n y y' : Nat) (c : BoundsCode), VRel β (ρ x) (ρ' x) → zU (ρ x) = some n → n ≤ y → y ≤ y' → (Instr.sliceBound (ρ' x) y' c).run P w = .ok n w := by
  intro x n y y' c hv hn hy hy'
  obtain ⟨k, _, e⟩ := hv.idx hn
  rw [e]
  have : (0 : Int) ≤ Int.ofNat n ∧ Int.ofNat n ≤ (y' : Int) := ⟨by simp, by simp; omega⟩
  simp [Instr.sliceBound, asIntOf]
  omega
 unfold ZS at hb
 cases mx with
 | none =>
  simp only [Option.map_none] at hb
  cases hi with
  | none =>
   simp only [Option.map_none] at hb
   cases lo with
   | none =>
    simp at hb
    obtain ⟨rfl, rfl, rfl⟩ := hb
    simp [Instr.sliceBounds]
   | some x =>
    simp only [Option.map_some] at hb
    cases hx : zU (ρ x) with
    | none => simp [hx] at hb
    | some n =>
     simp only [hx] at hb
     by_cases hle : Nat.ble n len = true
     · simp only [hle, if_true, z2, Prod.mk.injEq] at hb
       obtain ⟨rfl, rfl, rfl⟩ := hb
       have := sb x n len len .sliceB (hρ x (.inl rfl)) hx (Nat.le_of_ble_eq_true hle) (Nat.le_refl _)
       simp [Instr.sliceBounds, this, Nat.le_of_ble_eq_true hle]
     · simp [hle] at hb
  | some y =>
   simp only [Option.map_some] at hb
   cases hy : zU (ρ y) with
   | none => simp [hy] at hb
   | some n =>
    simp only [hy] at hb
    by_cases hle : Nat.ble n cap = true
    · simp only [hle, if_true] at hb
      have h1 := fun c => sb y n cap cap' c (hρ y (.inr (.inl rfl))) hy (Nat.le_of_ble_eq_true hle) hcap
      have h1' := Nat.le_of_ble_eq_true hle
      cases lo with
      | none =>
       simp at hb
       obtain ⟨rfl, rfl, rfl⟩ := hb
       simp [Instr.sliceBounds, h1, h1']
      | some x =>
       simp only [Option.map_some] at hb
       cases hx : zU (ρ x) with
       | none => simp [hx] at hb
       | some i =>
        simp only [hx] at hb
        by_cases hle2 : Nat.ble i n = true
        · simp only [hle2, if_true, z2, Prod.mk.injEq] at hb
          obtain ⟨rfl, rfl, rfl⟩ := hb
          have := sb x i n n .sliceB (hρ x (.inl rfl)) hx (Nat.le_of_ble_eq_true hle2) (Nat.le_refl _)
          simp [Instr.sliceBounds, this, h1, h1', Nat.le_of_ble_eq_true hle2]
        · simp [hle2] at hb
    · simp [hle] at hb
 | some z =>
  simp only [Option.map_some] at hb
  cases hz : zU (ρ z) with
  | none => simp [hz] at hb
  | some q =>
   simp only [hz] at hb
   by_cases hle0 : Nat.ble q cap = true
   · simp only [hle0, if_true] at hb
     have h0 := fun c => sb z q cap cap' c (hρ z (.inr (.inr rfl))) hz (Nat.le_of_ble_eq_true hle0) hcap
     have h0' := Nat.le_of_ble_eq_true hle0
     cases hi with
     | none => simp at hb
     | some y =>
      simp only [Option.map_some] at hb
      cases hy : zU (ρ y) with
      | none => simp [hy] at hb
      | some n =>
       simp only [hy] at hb
       by_cases hle : Nat.ble n q = true
       · simp only [hle, if_true] at hb
         have h1 := fun c => sb y n q q c (hρ y (.inr (.inl rfl))) hy (Nat.le_of_ble_eq_true hle) (Nat.le_refl _)
         have h1' := Nat.le_of_ble_eq_true hle
         cases lo with
         | none =>
          simp at hb
          obtain ⟨rfl, rfl, rfl⟩ := hb
          simp [Instr.sliceBounds, h0, h1, h1', h0']
         | some x =>
          simp only [Option.map_some] at hb
          cases hx : zU (ρ x) with
          | none => simp [hx] at hb
          | some i =>
           simp only [hx] at hb
           by_cases hle2 : Nat.ble i n = true
           · simp only [hle2, if_true, z2, Prod.mk.injEq] at hb
             obtain ⟨rfl, rfl, rfl⟩ := hb
             have := fun c => sb x i n n c (hρ x (.inl rfl)) hx (Nat.le_of_ble_eq_true hle2) (Nat.le_refl _)
             simp [Instr.sliceBounds, this, h0, h1, h1', h0', Nat.le_of_ble_eq_true hle2]
           · simp [hle2] at hb
       · simp [hle] at hb
   · simp [hle0] at hb
end
end Go.Dx
