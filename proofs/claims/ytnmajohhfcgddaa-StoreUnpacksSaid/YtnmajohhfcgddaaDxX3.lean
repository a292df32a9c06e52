/- The compiled form of Dx: the operations are the same. -/
import Derived.Test.YtnmajohhfcgddaaDxX2
set_option linter.unusedVariables false
set_option linter.unusedSimpArgs false
set_option linter.unusedSectionVars false
namespace Go.Dx
open Go
noncomputable section
variable (ρ : Operand → Value)

theorem s_not_eq (x : Operand) : s_not (ρ x) = dpure ρ (.un .not x) := by
  simp only [s_not, asB_rec, dpure]
  generalize ρ x = A
  cases A with
  | bool b => cases b <;> rfl
  | _ => rfl
theorem s_pick_eq (c a b : Operand) : s_pick (ρ c) (ρ a) (ρ b) = dpure ρ (.pick c a b) := by
  simp only [s_pick, asB_rec, dpure]
  generalize ρ c = A
  cases A with
  | bool b => cases b <;> rfl
  | _ => rfl
theorem s_cvInt_eq (k : IntKind) (x : Operand) : s_cvInt k (ρ x) = dpure ρ (.cvInt k x) := by
  simp only [s_cvInt, asI_rec, dpure]
  generalize ρ x = A
  cases A with
  | int j a =>
    cases a with
    | ofNat m => show some (Value.int k (kmod k m)) = _; rw [kmod_eq]
    | negSucc m => rfl
  | _ => rfl
theorem x_nil_eq (x : Operand) : x_nil (ρ x) = dpure ρ (.nilck x) := by
  simp only [x_nil, dpure]
  generalize ρ x = A
  cases A with
  | pointer p => cases p <;> rfl
  | func g a b => cases g <;> rfl
  | _ => rfl
theorem s_fadr_eq (off : Nat) (x : Operand) : s_fadr off (ρ x) = dpure ρ (.fadr off x) := by
  simp only [s_fadr, asP_rec, dpure]
  generalize ρ x = A
  cases A with
  | pointer p =>
    cases p with
    | none => rfl
    | some ad =>
      obtain ⟨k, o, sp⟩ := ad
      cases sp <;> rfl
  | _ => rfl
theorem cond_if {α : Type} (c : Bool) (a b : α) : _root_.cond c a b = if c = true then a else b := by cases c <;> rfl
theorem s_ixA_eq (n size : Nat) (x i : Operand) : s_ixA n size (ρ x) (ρ i) = dpure ρ (.ixA n size x i) := by
  simp only [s_ixA, asP_rec, asN_eq, dpure, brec_if]
  generalize ρ x = A
  cases A with
  | pointer p =>
    cases p with
    | none => rfl
    | some ad =>
      obtain ⟨k, o, sp⟩ := ad
      cases sp with
      | some z => rfl
      | none => dsimp only; cases asIdx (ρ i) <;> rfl
  | _ => rfl
theorem s_ixL_eq (size : Nat) (x i : Operand) : s_ixL size (ρ x) (ρ i) = dpure ρ (.ixL size x i) := by
  simp only [s_ixL, asL_rec, asN_eq, dpure, brec_if]
  generalize ρ x = A
  cases A with
  | slice p len cap =>
    cases p with
    | none => rfl
    | some ad =>
      obtain ⟨k, o, sp⟩ := ad
      dsimp only; cases asIdx (ρ i) <;> rfl
  | _ => rfl
theorem s_lenL_eq (x : Operand) : s_lenL (ρ x) = dpure ρ (.blenL x) := by
  simp only [s_lenL, asL_rec, dpure]
  generalize ρ x = A
  cases A <;> rfl
theorem s_ext_eq (x : Operand) (i : Nat) : s_ext i (ρ x) = dpure ρ (.ext x i) := by
  simp only [s_ext, asT_rec, dpure, nth_eq]
  generalize ρ x = A
  cases A <;> rfl
theorem evF_one (k : SK) (x y : Value) : eqValF 5000 (.one k) x y = eqOne k x y := by
  show eqValF (4999 + 1) (.one k) x y = _
  simp only [eqValF]
theorem s_eq1_eq (neg : Bool) (k : SK) (x y : Operand) : s_eq1 neg k (ρ x) (ρ y) = dpure ρ (.eq neg (.one k) x y) := by
  simp only [s_eq1, dpure, evF_one]
  cases eqOne k (ρ x) (ρ y) with
  | none => rfl
  | some b => cases neg <;> cases b <;> rfl
theorem s_eqI_val (neg : Bool) (x y : Value) : s_eqI neg x y = s_eq1 neg .int x y := by
  simp only [s_eqI, s_eq1, asI_rec]
  cases x with
  | int k a =>
    cases y with
    | int k' b =>
      simp only [eqOne, sameK_eq', fEql_eq, fNeq_eq]
      by_cases e : k = k'
      · subst e
        simp only [decide_true, if_true]
        cases neg with
        | false => rfl
        | true => show dint .neq k a b = some (.bool (Bool.rec true false (decide (a = b)))); simp only [dint]; cases decide (a = b) <;> rfl
      · simp only [decide_eq_false e, if_neg e]
    | _ => rfl
  | _ => rfl
theorem s_eqP_val (neg : Bool) (x y : Value) : s_eqP neg x y = s_eq1 neg .ptr x y := by
  cases x with
  | pointer a =>
    cases y with
    | pointer b =>
      cases a with
      | none => cases b <;> cases neg <;> rfl
      | some a => cases b with
        | none => cases neg <;> rfl
        | some b => rfl
    | _ => first | rfl | (cases a with | none => rfl | some a => rfl) 
  | _ => rfl
theorem s_st_eq (s : DS) (size : Nat) (a x : Operand) : (Option.rec (motive := fun _ => Option (Value × DS)) none (fun s' => some (undefD, s')) (s_st size (ρ a) (ρ x) s)) = dwrite ρ s (.st size a x) := by
  simp only [s_st, dwrite]
  generalize ρ a = A
  cases A with
  | pointer p =>
    cases p with
    | none => rfl
    | some ad =>
      obtain ⟨k, o, sp⟩ := ad
      cases sp with
      | some z => rfl
      | none =>
        dsimp only
        split
        · cases s.write k o (ρ x).cells.toList <;> rfl
        · rfl
  | _ => rfl
theorem xop_ok (o : DOp) (call : CallFn) (t : PT Value) (s : DS) : (xop o).go call t s = dop call (ev t) s o := by
  have val : ∀ (o : DOp) (z : Option Value), o.cls = .pure → z = dpure (ev t) o → (Option.rec (motive := fun _ => Option (Value × DS)) none (fun v => some (v, s)) z) = dop call (ev t) s o := by
    intro o z hc hz
    subst hz
    unfold dop
    rw [hc]
    cases dpure (ev t) o <;> rfl
  have rdv : ∀ (o : DOp) (z : Option Value), o.cls = .read → z = dread (ev t) s o → (Option.rec (motive := fun _ => Option (Value × DS)) none (fun v => some (v, s)) z) = dop call (ev t) s o := by
    intro o z hc hz
    subst hz
    unfold dop
    rw [hc]
    cases dread (ev t) s o <;> rfl
  cases o with
  | mv x => simp only [xop, lt1_eq]; rfl
  | bin op x y => simp only [xop, lt1_eq, pickB_eq]; exact val (.bin op x y) _ rfl rfl
  | eq neg e x y =>
    cases e with
    | one k =>
      cases k <;> simp only [xop, lt1_eq]
      case int => exact val (.eq neg (.one .int) x y) _ rfl ((s_eqI_val neg _ _).trans (s_eq1_eq _ neg .int x y))
      case ptr => exact val (.eq neg (.one .ptr) x y) _ rfl ((s_eqP_val neg _ _).trans (s_eq1_eq _ neg .ptr x y))
      all_goals exact val (.eq neg (.one _) x y) _ rfl (s_eq1_eq _ neg _ x y)
    | struct fs => rfl
    | arr n z e => rfl
  | un op x =>
    cases op <;> first
      | rfl
      | (simp only [xop, lt1_eq]; exact val (.un .not x) _ rfl (s_not_eq _ x))
  | pick c a b => simp only [xop, lt1_eq]; exact val (.pick c a b) _ rfl (s_pick_eq _ c a b)
  | cvInt k x => simp only [xop, lt1_eq]; exact val (.cvInt k x) _ rfl (s_cvInt_eq _ k x)
  | nilck x => simp only [xop, lt1_eq]; exact val (.nilck x) _ rfl (x_nil_eq _ x)
  | alloc z => show some (Value.pointer (some ⟨s.next, 0, none⟩), xnew s (.cells (.list z) false)) = _; rw [xnew_eq]; rfl
  | box x => simp only [xop, lt1_eq]; show some (Value.pointer (some ⟨s.next, 0, none⟩), xnew s (.cells (.list (ev t x).cells.toList) false)) = _; rw [xnew_eq]; rfl
  | build z parts => exact val (.build z parts) _ rfl (by simp only [s_build, xparts_eq, evX_eq, dpure]; rfl)
  | ld agg a =>
    cases agg with
    | none => simp only [xop, lt1_eq]; exact rdv (.ld none a) _ rfl (xld_eq _ s a)
    | some n => simp only [xop, lt1_eq]; exact rdv (.ld (some n) a) _ rfl (by simp only [s_ldn, xread_eq, dread]; rfl)
  | st size a x =>
    by_cases h : size = 1
    · subst h
      simp only [xop, lt1_eq]
      refine Eq.trans ?_ (s_st_eq (ev t) s 1 a x)
      rw [← xst1_eq]
      rfl
    · have : xop (.st size a x) = lt1 a fun f => lt1 x fun g => .eff fun t s => x_st size (f t) (g t) s := by
        unfold xop
        split <;> first | rfl | contradiction | (rename_i heq; cases heq; first | rfl | exact absurd rfl h) | skip
        all_goals simp_all
      rw [this]
      simp only [lt1_eq, x_st_eq]
      exact s_st_eq (ev t) s size a x
  | mkf f first captured => simp only [xop, la_eq]; rfl
  | slL size x lo hi mx => simp only [xop, lt1_eq]; exact val (.slL size x lo hi mx) _ rfl (by simp only [s_slL, dpure, Option.isSome_map, evX_eq]; generalize ev t x = A; cases A <;> rfl)
  | slA n size x lo hi mx => simp only [xop, lt1_eq]; exact val (.slA n size x lo hi mx) _ rfl (by simp only [s_slA, dpure, evX_eq]; rfl)
  | fadr off x => simp only [xop, lt1_eq]; exact val (.fadr off x) _ rfl (s_fadr_eq _ off x)
  | fld off agg x => simp only [xop, lt1_eq]; exact val (.fld off agg x) _ rfl rfl
  | ixA n size x i => simp only [xop, lt1_eq]; exact val (.ixA n size x i) _ rfl (s_ixA_eq _ n size x i)
  | ixL size x i => simp only [xop, lt1_eq]; exact val (.ixL size x i) _ rfl (s_ixL_eq _ size x i)
  | idxA n size agg x i => simp only [xop, lt1_eq]; exact val (.idxA n size agg x i) _ rfl rfl
  | idxS x i => simp only [xop, lt1_eq]; exact val (.idxS x i) _ rfl rfl
  | ext x i => simp only [xop, lt1_eq]; exact val (.ext x i) _ rfl (s_ext_eq _ x i)
  | blenL x => simp only [xop, lt1_eq]; exact val (.blenL x) _ rfl (s_lenL_eq _ x)
  | blenS x => simp only [xop, lt1_eq]; exact val (.blenS x) _ rfl rfl
  | cvToStr x => simp only [xop, lt1_eq]; exact rdv (.cvToStr x) _ rfl (by simp only [s_toStr, dread, xread_eq]; rfl)
  | bslice n size z parts => show s_bslice n size z parts (evX t) s = dmake (ev t) s (.bslice n size z parts); simp only [s_bslice, dmake, xparts_eq, evX_eq, xnew_eq]; rfl
  | mkslice bytes z l c => simp only [xop, lt1_eq]; show s_mkslice bytes z (ev t l) (ev t c) s = dmake (ev t) s (.mkslice bytes z l c); simp only [s_mkslice, dmake, xnew_eq]; rfl
  | bapp bytes size x y => simp only [xop, lt1_eq]; show s_bapp bytes size (ev t x) (ev t y) s = dwrite (ev t) s (.bapp bytes size x y); simp only [s_bapp, dwrite, xnew_eq, xsrc_eq, xread_eq, xwrite_eq, hp_eq, xtake_eq, allX_eq, lenN_eq, appX_eq]; rfl
  | bcopy size x y => simp only [xop, lt1_eq]; show s_bcopy size (ev t x) (ev t y) s = dwrite (ev t) s (.bcopy size x y); simp only [s_bcopy, dwrite, xnew_eq, xsrc_eq, xread_eq, xwrite_eq, allX_eq, lenN_eq]; rfl
  | call f args => simp only [xop, lt1_eq, la_eq]; rfl
  | _ => rfl
end
end Go.Dx
