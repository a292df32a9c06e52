/- CacheKeeps returns true for every input, and leaves what it was given as it was. -/
import Derived.Test.YtlcgbhpemkomkaaRows
import Derived.Test.YtlcgbhpemkomkaaDxCk
import Derived.Test.YtlcgbhpemkomkaaDxRow
import Derived.Test.YtlcgbhpemkomkaaC1OrderD
import Derived.Test.YtlcgbhpemkomkaaC1Keeps
namespace Go.Proofs.Ytlcgbhpemkomkaa.cacheKeeps
open Go.ChangeShapes Go.WideShapes Go.ChangeAt Go.RowKit Go.Dx Go.Shelf
set_option linter.unusedVariables false
set_option linter.unusedSimpArgs false
set_option maxRecDepth 100000
set_option maxHeartbeats 4000000

/-! ### The evaluator's tables -/
inductive BT where
  | leaf
  | node (k : Nat) (d : DFunc) (l r : BT)
def BT.find : BT → Nat → Option DFunc
  | .leaf, _ => none
  | .node k d l r, x => bif Nat.beq x k then some d else bif Nat.blt x k then l.find x else r.find x
def BT.All (Q : Nat → DFunc → Prop) : BT → Prop
  | .leaf => True
  | .node k d l r => Q k d ∧ l.All Q ∧ r.All Q
theorem BT.find_all {Q : Nat → DFunc → Prop} : ∀ {t : BT} {x : Nat} {d : DFunc}, t.All Q → t.find x = some d → Q x d
  | .leaf, x, d, _, h => by cases h
  | .node k d0 l r, x, d, ⟨h1, h2, h3⟩, h => by
    unfold BT.find at h
    cases hb : Nat.beq x k with
    | true =>
      rw [hb] at h
      simp only [cond_true, Option.some.injEq] at h
      subst h
      rw [Nat.eq_of_beq_eq_true hb]; exact h1
    | false =>
      rw [hb] at h
      cases hl : Nat.blt x k with
      | true => rw [hl] at h; exact BT.find_all h2 h
      | false => rw [hl] at h; exact BT.find_all h3 h
def FnOk (k : Nat) (df : DFunc) : Prop := ∃ f, Try.prog.funcs[k]? = some f ∧ trFunc Try.prog f = some df
def tab : BT := (.node 15 d15 (.node 9 d9 (.node 7 d7 (.node 4 d4 .leaf .leaf) (.node 8 d8 .leaf .leaf)) (.node 13 d13 (.node 11 d11 .leaf .leaf) .leaf)) (.node 26 d26 (.node 19 d19 (.node 17 d17 .leaf .leaf) (.node 20 d20 .leaf .leaf)) (.node 31 d31 (.node 27 d27 .leaf .leaf) .leaf)))
theorem tab_ok : tab.All FnOk := ⟨⟨_, Try.func15, tr15⟩, ⟨⟨_, Try.func9, tr9⟩, ⟨⟨_, Try.func7, tr7⟩, ⟨⟨_, Try.func4, tr4⟩, trivial, trivial⟩, ⟨⟨_, Try.func8, tr8⟩, trivial, trivial⟩⟩, ⟨⟨_, Try.func13, tr13⟩, ⟨⟨_, Try.func11, tr11⟩, trivial, trivial⟩, trivial⟩⟩, ⟨⟨_, Try.func26, tr26⟩, ⟨⟨_, Try.func19, tr19⟩, ⟨⟨_, Try.func17, tr17⟩, trivial, trivial⟩, ⟨⟨_, Try.func20, tr20⟩, trivial, trivial⟩⟩, ⟨⟨_, Try.func31, tr31⟩, ⟨⟨_, Try.func27, tr27⟩, trivial, trivial⟩, trivial⟩⟩⟩

noncomputable def env : Env := { fn := tab.find, intr := fun k => bif Nat.beq k 30 then some (orderD .txt) else bif Nat.beq k 35 then some (orderD .num) else none, lf := 100000 }
theorem env_ok : EnvOk Try.prog env := by
  refine ⟨by kernel_rfl, fun k df h => BT.find_all tab_ok h, fun k F h => ?_⟩
  have h : (bif Nat.beq k 30 then some (orderD .txt) else bif Nat.beq k 35 then some (orderD .num) else none) = some F := h
  cases hb30 : Nat.beq k 30 with
  | true =>
    rw [hb30] at h
    simp only [cond_true, Option.some.injEq] at h
    subst h
    rw [Nat.eq_of_beq_eq_true hb30]
    exact orderS_ok
  | false =>
    rw [hb30] at h
    simp only [cond_false] at h
    cases hb35 : Nat.beq k 35 with
    | true =>
      rw [hb35] at h
      simp only [cond_true, Option.some.injEq] at h
      subst h
      rw [Nat.eq_of_beq_eq_true hb35]
      exact orderI_ok
    | false =>
      rw [hb35] at h
      simp only [cond_false] at h
      cases h

theorem runs8 : okOf (xcall env 200 (.func (.func 8) #[] #[]) [] s0) = true := by kernel_rfl
theorem lives8 (W : World) : Calls Try.prog 8 #[] W fun e w' => e = .returned (.bool true) ∧ Kept W w' := top env_ok runs8 (fun _ => .nil) W
noncomputable def env2 : Env := { fn := tab.find, intr := fun k => bif Nat.beq k 8 then some trueD else env.intr k, lf := 1000 }
theorem env2_ok : EnvOk Try.prog env2 := by
  refine ⟨env_ok.mixed, fun k df h => BT.find_all tab_ok h, fun k F h => ?_⟩
  have h : (bif Nat.beq k 8 then some trueD else env.intr k) = some F := h
  cases hb : Nat.beq k 8 with
  | true =>
    rw [hb] at h
    simp only [cond_true, Option.some.injEq] at h
    subst h
    rw [Nat.eq_of_beq_eq_true hb]
    exact trueD_ok lives8 (fun X w => callFunc_run Try.func8 (by kernel_rfl) (by kernel_rfl) X w)
  | false =>
    rw [hb] at h
    simp only [cond_false] at h
    exact env_ok.intr k F h
theorem fns : Go.Dx.CaS.Fns env2 := by constructor <;> kernel_rfl
theorem walk (a0 : Int) (v1 : Value) (l1 : List (List Value)) {W : World} (m1 : RowIn W [.str] v1 l1) : Calls Try.prog 4 #[.int .i64 a0, v1] W fun e w' => e = .returned (.bool true) ∧ Kept W w' := by
  have hl : ∀ x, x ∈ l1 → FitK [.str] x := by
    rcases m1 with ⟨_, rfl⟩ | ⟨_, _, _, _, _, _, _, h, _⟩
    · exact fun _ h => (nomatch h)
    · exact h
  obtain ⟨s, β, v', hv, hR, hn, hro, hG, hin⟩ := rowState (P := Try.prog) m1 rfl
  obtain ⟨⟨rv, s'⟩, hr, hq⟩ := Go.Dx.CaS.law fns (by kernel_rfl) (by kernel_rfl) (by kernel_rfl) (by kernel_rfl) (by kernel_rfl) (Nat.le_refl 1000) hG (d := 0) a0 hin hl
  simp only at hq
  subst hq
  exact topM env2_ok hr (.cons (.int _ _) (.cons hv .nil)) hR hn hro
end Go.Proofs.Ytlcgbhpemkomkaa.cacheKeeps
