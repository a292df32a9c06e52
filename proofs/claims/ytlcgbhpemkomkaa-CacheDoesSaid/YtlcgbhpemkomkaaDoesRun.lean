/- CacheDoes returns true for every input, and leaves what it was given as it was. -/
import Derived.Test.YtlcgbhpemkomkaaRows
import Derived.Test.YtlcgbhpemkomkaaDxCk
import Derived.Test.YtlcgbhpemkomkaaDxRow
import Derived.Test.YtlcgbhpemkomkaaC1OrderD
import Derived.Test.YtlcgbhpemkomkaaC1Law
namespace Go.Proofs.Ytlcgbhpemkomkaa.cacheDoes
open Go.ChangeShapes Go.WideShapes Go.ChangeAt Go.RowKit Go.Dx Go.Shelf
set_option linter.unusedVariables false
set_option linter.unusedSimpArgs false
set_option maxRecDepth 100000
set_option maxHeartbeats 4000000

/-! ### The evaluator's tables -/
inductive BT where
  | leaf
  | node (k : Nat) (d : DFunc) (l r : BT)
def BT.find : BT → Nat → Option DFunc
  | .leaf, _ => none
  | .node k d l r, x => bif Nat.beq x k then some d else bif Nat.blt x k then l.find x else r.find x
def BT.All (Q : Nat → DFunc → Prop) : BT → Prop
  | .leaf => True
  | .node k d l r => Q k d ∧ l.All Q ∧ r.All Q
theorem BT.find_all {Q : Nat → DFunc → Prop} : ∀ {t : BT} {x : Nat} {d : DFunc}, t.All Q → t.find x = some d → Q x d
  | .leaf, x, d, _, h => by cases h
  | .node k d0 l r, x, d, ⟨h1, h2, h3⟩, h => by
    unfold BT.find at h
    cases hb : Nat.beq x k with
    | true =>
      rw [hb] at h
      simp only [cond_true, Option.some.injEq] at h
      subst h
      rw [Nat.eq_of_beq_eq_true hb]; exact h1
    | false =>
      rw [hb] at h
      cases hl : Nat.blt x k with
      | true => rw [hl] at h; exact BT.find_all h2 h
      | false => rw [hl] at h; exact BT.find_all h3 h
def FnOk (k : Nat) (df : DFunc) : Prop := ∃ f, Try.prog.funcs[k]? = some f ∧ trFunc Try.prog f = some df
def tab : BT := (.node 16 d16 (.node 11 d11 (.node 8 d8 (.node 7 d7 (.node 3 d3 .leaf .leaf) .leaf) (.node 10 d10 (.node 9 d9 .leaf .leaf) .leaf)) (.node 14 d14 (.node 13 d13 (.node 12 d12 .leaf .leaf) .leaf) (.node 15 d15 .leaf .leaf))) (.node 26 d26 (.node 19 d19 (.node 18 d18 (.node 17 d17 .leaf .leaf) .leaf) (.node 20 d20 .leaf .leaf)) (.node 29 d29 (.node 28 d28 (.node 27 d27 .leaf .leaf) .leaf) (.node 31 d31 .leaf .leaf))))
theorem tab_ok : tab.All FnOk := ⟨⟨_, Try.func16, tr16⟩, ⟨⟨_, Try.func11, tr11⟩, ⟨⟨_, Try.func8, tr8⟩, ⟨⟨_, Try.func7, tr7⟩, ⟨⟨_, Try.func3, tr3⟩, trivial, trivial⟩, trivial⟩, ⟨⟨_, Try.func10, tr10⟩, ⟨⟨_, Try.func9, tr9⟩, trivial, trivial⟩, trivial⟩⟩, ⟨⟨_, Try.func14, tr14⟩, ⟨⟨_, Try.func13, tr13⟩, ⟨⟨_, Try.func12, tr12⟩, trivial, trivial⟩, trivial⟩, ⟨⟨_, Try.func15, tr15⟩, trivial, trivial⟩⟩⟩, ⟨⟨_, Try.func26, tr26⟩, ⟨⟨_, Try.func19, tr19⟩, ⟨⟨_, Try.func18, tr18⟩, ⟨⟨_, Try.func17, tr17⟩, trivial, trivial⟩, trivial⟩, ⟨⟨_, Try.func20, tr20⟩, trivial, trivial⟩⟩, ⟨⟨_, Try.func29, tr29⟩, ⟨⟨_, Try.func28, tr28⟩, ⟨⟨_, Try.func27, tr27⟩, trivial, trivial⟩, trivial⟩, ⟨⟨_, Try.func31, tr31⟩, trivial, trivial⟩⟩⟩⟩

noncomputable def env : Env := { fn := tab.find, intr := fun k => bif Nat.beq k 30 then some (orderD .txt) else bif Nat.beq k 35 then some (orderD .num) else none, lf := 100000 }
theorem env_ok : EnvOk Try.prog env := by
  refine ⟨by kernel_rfl, fun k df h => BT.find_all tab_ok h, fun k F h => ?_⟩
  have h : (bif Nat.beq k 30 then some (orderD .txt) else bif Nat.beq k 35 then some (orderD .num) else none) = some F := h
  cases hb30 : Nat.beq k 30 with
  | true =>
    rw [hb30] at h
    simp only [cond_true, Option.some.injEq] at h
    subst h
    rw [Nat.eq_of_beq_eq_true hb30]
    exact orderS_ok
  | false =>
    rw [hb30] at h
    simp only [cond_false] at h
    cases hb35 : Nat.beq k 35 with
    | true =>
      rw [hb35] at h
      simp only [cond_true, Option.some.injEq] at h
      subst h
      rw [Nat.eq_of_beq_eq_true hb35]
      exact orderI_ok
    | false =>
      rw [hb35] at h
      simp only [cond_false] at h
      cases h

theorem runs8 : okOf (xcall env 200 (.func (.func 8) #[] #[]) [] s0) = true := by kernel_rfl
theorem lives8 (W : World) : Calls Try.prog 8 #[] W fun e w' => e = .returned (.bool true) ∧ Kept W w' := top env_ok runs8 (fun _ => .nil) W
noncomputable def env2 (lf : Nat) : Env := { fn := tab.find, intr := fun k => bif Nat.beq k 8 then some trueD else env.intr k, lf := lf }
theorem env2_ok (lf : Nat) : EnvOk Try.prog (env2 lf) := by
  refine ⟨env_ok.mixed, fun k df h => BT.find_all tab_ok h, fun k F h => ?_⟩
  have h : (bif Nat.beq k 8 then some trueD else env.intr k) = some F := h
  cases hb : Nat.beq k 8 with
  | true =>
    rw [hb] at h
    simp only [cond_true, Option.some.injEq] at h
    subst h
    rw [Nat.eq_of_beq_eq_true hb]
    exact trueD_ok lives8 (fun X w => callFunc_run Try.func8 (by kernel_rfl) (by kernel_rfl) X w)
  | false =>
    rw [hb] at h
    simp only [cond_false] at h
    exact env_ok.intr k F h
theorem fns (lf : Nat) : Go.Dx.CaS.Fns (env2 lf) := by constructor <;> rfl
theorem refs (lf : Nat) : Go.Dx.CaS.Refs (env2 lf) := by
  constructor
  case fr => exact fun d => (dcall_ok (env2_ok lf) d).1
  all_goals rfl
theorem lks (lf : Nat) : Go.Dx.CaS.Looks (env2 lf) := by constructor <;> rfl
theorem walk (a0 : Int) (v1 : Value) (l1 : List (List Value)) {W : World} (m1 : RowIn W [.int .i64, .str, .int .i64] v1 l1) : Calls Try.prog 3 #[.int .i64 a0, v1] W fun e w' => e = .returned (.bool true) ∧ Kept W w' := by
  have hl : ∀ x, x ∈ l1 → FitK [.int .i64, .str, .int .i64] x := by
    rcases m1 with ⟨_, rfl⟩ | ⟨_, _, _, _, _, _, _, h, _⟩
    · exact fun _ h => (nomatch h)
    · exact h
  have hmax : l1.length ≤ 9223372036854775807 := by
    rcases m1 with ⟨_, rfl⟩ | ⟨_, _, c, _, h1, h2, _⟩
    · simp
    · exact Nat.le_trans h1 h2
  obtain ⟨s, β, v', hv, hR, hn, hro, hG, hin⟩ := rowState (P := Try.prog) m1 rfl
  obtain ⟨⟨rv, s'⟩, hr, hq⟩ := Go.Dx.CaS.doesLaw (fns (l1.length + 1001)) (lks _) (refs _) (by rw [← Go.Dx.CaS.d3x_eq]; rfl) rfl rfl hG (d := 0) a0 (by show l1.length + 1000 < l1.length + 1001; omega) hmax hin hl
  simp only at hq
  subst hq
  exact topM (env2_ok _) hr (.cons (.int _ _) (.cons hv .nil)) hR hn hro
end Go.Proofs.Ytlcgbhpemkomkaa.cacheDoes
