/- StoreSame returns true for every input, and leaves what it was given as it was. -/
import Derived.Test.YtnmajohhfcgddaaRows
import Derived.Test.YtnmajohhfcgddaaDxSk
import Derived.Test.YtnmajohhfcgddaaDxRow
import Derived.Shelf.Lays2
import Derived.Test.YtnmajohhfcgddaaDxIns
import Derived.Test.YtnmajohhfcgddaaS1Same
namespace Go.Proofs.Ytnmajohhfcgddaa.storeSame
open Go.ChangeShapes Go.WideShapes Go.ChangeAt Go.RowKit Go.Dx Go.Shelf
set_option linter.unusedVariables false
set_option linter.unusedSimpArgs false
set_option maxRecDepth 100000
set_option maxHeartbeats 4000000

/-! ### The evaluator's tables -/
inductive BT where
  | leaf
  | node (k : Nat) (d : DFunc) (l r : BT)
def BT.find : BT → Nat → Option DFunc
  | .leaf, _ => none
  | .node k d l r, x => bif Nat.beq x k then some d else bif Nat.blt x k then l.find x else r.find x
def BT.All (Q : Nat → DFunc → Prop) : BT → Prop
  | .leaf => True
  | .node k d l r => Q k d ∧ l.All Q ∧ r.All Q
theorem BT.find_all {Q : Nat → DFunc → Prop} : ∀ {t : BT} {x : Nat} {d : DFunc}, t.All Q → t.find x = some d → Q x d
  | .leaf, x, d, _, h => by cases h
  | .node k d0 l r, x, d, ⟨h1, h2, h3⟩, h => by
    unfold BT.find at h
    cases hb : Nat.beq x k with
    | true =>
      rw [hb] at h
      simp only [cond_true, Option.some.injEq] at h
      subst h
      rw [Nat.eq_of_beq_eq_true hb]; exact h1
    | false =>
      rw [hb] at h
      cases hl : Nat.blt x k with
      | true => rw [hl] at h; exact BT.find_all h2 h
      | false => rw [hl] at h; exact BT.find_all h3 h
def FnOk (k : Nat) (df : DFunc) : Prop := ∃ f, Try.prog.funcs[k]? = some f ∧ trFunc Try.prog f = some df
def tab : BT := (.node 59 d59 (.node 35 d35 (.node 15 d15 (.node 11 d11 (.node 9 d9 (.node 5 d5 .leaf .leaf) (.node 10 d10 .leaf .leaf)) (.node 13 d13 (.node 12 d12 .leaf .leaf) (.node 14 d14 .leaf .leaf))) (.node 21 d21 (.node 19 d19 (.node 18 d18 .leaf .leaf) (.node 20 d20 .leaf .leaf)) (.node 33 d33 (.node 22 d22 .leaf .leaf) (.node 34 d34 .leaf .leaf)))) (.node 52 d52 (.node 42 d42 (.node 37 d37 (.node 36 d36 .leaf .leaf) (.node 38 d38 .leaf .leaf)) (.node 44 d44 (.node 43 d43 .leaf .leaf) (.node 45 d45 .leaf .leaf))) (.node 56 d56 (.node 54 d54 (.node 53 d53 .leaf .leaf) (.node 55 d55 .leaf .leaf)) (.node 58 d58 (.node 57 d57 .leaf .leaf) .leaf)))) (.node 82 d82 (.node 73 d73 (.node 65 d65 (.node 63 d63 (.node 60 d60 .leaf .leaf) (.node 64 d64 .leaf .leaf)) (.node 67 d67 (.node 66 d66 .leaf .leaf) (.node 72 d72 .leaf .leaf))) (.node 78 d78 (.node 76 d76 (.node 75 d75 .leaf .leaf) (.node 77 d77 .leaf .leaf)) (.node 80 d80 (.node 79 d79 .leaf .leaf) (.node 81 d81 .leaf .leaf)))) (.node 95 d95 (.node 91 d91 (.node 85 d85 (.node 84 d84 .leaf .leaf) (.node 90 d90 .leaf .leaf)) (.node 93 d93 (.node 92 d92 .leaf .leaf) (.node 94 d94 .leaf .leaf))) (.node 100 d100 (.node 97 d97 (.node 96 d96 .leaf .leaf) (.node 99 d99 .leaf .leaf)) (.node 102 d102 (.node 101 d101 .leaf .leaf) .leaf)))))
theorem tab_ok : tab.All FnOk := ⟨⟨_, Try.func59, tr59⟩, ⟨⟨_, Try.func35, tr35⟩, ⟨⟨_, Try.func15, tr15⟩, ⟨⟨_, Try.func11, tr11⟩, ⟨⟨_, Try.func9, tr9⟩, ⟨⟨_, Try.func5, tr5⟩, trivial, trivial⟩, ⟨⟨_, Try.func10, tr10⟩, trivial, trivial⟩⟩, ⟨⟨_, Try.func13, tr13⟩, ⟨⟨_, Try.func12, tr12⟩, trivial, trivial⟩, ⟨⟨_, Try.func14, tr14⟩, trivial, trivial⟩⟩⟩, ⟨⟨_, Try.func21, tr21⟩, ⟨⟨_, Try.func19, tr19⟩, ⟨⟨_, Try.func18, tr18⟩, trivial, trivial⟩, ⟨⟨_, Try.func20, tr20⟩, trivial, trivial⟩⟩, ⟨⟨_, Try.func33, tr33⟩, ⟨⟨_, Try.func22, tr22⟩, trivial, trivial⟩, ⟨⟨_, Try.func34, tr34⟩, trivial, trivial⟩⟩⟩⟩, ⟨⟨_, Try.func52, tr52⟩, ⟨⟨_, Try.func42, tr42⟩, ⟨⟨_, Try.func37, tr37⟩, ⟨⟨_, Try.func36, tr36⟩, trivial, trivial⟩, ⟨⟨_, Try.func38, tr38⟩, trivial, trivial⟩⟩, ⟨⟨_, Try.func44, tr44⟩, ⟨⟨_, Try.func43, tr43⟩, trivial, trivial⟩, ⟨⟨_, Try.func45, tr45⟩, trivial, trivial⟩⟩⟩, ⟨⟨_, Try.func56, tr56⟩, ⟨⟨_, Try.func54, tr54⟩, ⟨⟨_, Try.func53, tr53⟩, trivial, trivial⟩, ⟨⟨_, Try.func55, tr55⟩, trivial, trivial⟩⟩, ⟨⟨_, Try.func58, tr58⟩, ⟨⟨_, Try.func57, tr57⟩, trivial, trivial⟩, trivial⟩⟩⟩⟩, ⟨⟨_, Try.func82, tr82⟩, ⟨⟨_, Try.func73, tr73⟩, ⟨⟨_, Try.func65, tr65⟩, ⟨⟨_, Try.func63, tr63⟩, ⟨⟨_, Try.func60, tr60⟩, trivial, trivial⟩, ⟨⟨_, Try.func64, tr64⟩, trivial, trivial⟩⟩, ⟨⟨_, Try.func67, tr67⟩, ⟨⟨_, Try.func66, tr66⟩, trivial, trivial⟩, ⟨⟨_, Try.func72, tr72⟩, trivial, trivial⟩⟩⟩, ⟨⟨_, Try.func78, tr78⟩, ⟨⟨_, Try.func76, tr76⟩, ⟨⟨_, Try.func75, tr75⟩, trivial, trivial⟩, ⟨⟨_, Try.func77, tr77⟩, trivial, trivial⟩⟩, ⟨⟨_, Try.func80, tr80⟩, ⟨⟨_, Try.func79, tr79⟩, trivial, trivial⟩, ⟨⟨_, Try.func81, tr81⟩, trivial, trivial⟩⟩⟩⟩, ⟨⟨_, Try.func95, tr95⟩, ⟨⟨_, Try.func91, tr91⟩, ⟨⟨_, Try.func85, tr85⟩, ⟨⟨_, Try.func84, tr84⟩, trivial, trivial⟩, ⟨⟨_, Try.func90, tr90⟩, trivial, trivial⟩⟩, ⟨⟨_, Try.func93, tr93⟩, ⟨⟨_, Try.func92, tr92⟩, trivial, trivial⟩, ⟨⟨_, Try.func94, tr94⟩, trivial, trivial⟩⟩⟩, ⟨⟨_, Try.func100, tr100⟩, ⟨⟨_, Try.func97, tr97⟩, ⟨⟨_, Try.func96, tr96⟩, trivial, trivial⟩, ⟨⟨_, Try.func99, tr99⟩, trivial, trivial⟩⟩, ⟨⟨_, Try.func102, tr102⟩, ⟨⟨_, Try.func101, tr101⟩, trivial, trivial⟩, trivial⟩⟩⟩⟩⟩

def ren : Ren := { f := fun n => if n = 21 then 53 else if n = 27 then 74 else if n = 28 then 75 else if n = 35 then 91 else if n = 39 then 99 else n, t := fun n => if n = 22 then 34 else n, g := fun n => n }
theorem lays : Lays2.n21 Try.prog ren := by
  constructor
  all_goals first | kernel_rfl | (intro w; kernel_rfl)
theorem body53 (X : Array Value) (w : World) : (callFunc 53 X).run Try.prog w = .ok (.enter 53 X) w := callFunc_run Try.func53 (by kernel_rfl) (by kernel_rfl) X w
def env : Env := { fn := tab.find, intr := fun k => bif Nat.beq k 53 then some insD else none, lf := 100000 }
theorem env_ok : EnvOk Try.prog env := by
  refine ⟨by kernel_rfl, fun k df h => BT.find_all tab_ok h, fun k F h => ?_⟩
  have h : (bif Nat.beq k 53 then some insD else none) = some F := h
  cases hb : Nat.beq k 53 with
  | false => rw [hb] at h; cases h
  | true =>
    rw [hb] at h
    simp only [cond_true, Option.some.injEq] at h
    subst h
    rw [Nat.eq_of_beq_eq_true hb]
    exact ins_ok lays body53

theorem runsL : okOf (xcall env 200 (.func (.func 10) #[] #[]) [] s0) = true := by kernel_rfl
theorem livesL (W : World) : Calls Try.prog 10 #[] W fun e w' => e = .returned (.bool true) ∧ Kept W w' := top env_ok runsL (fun _ => .nil) W
noncomputable def env2 (lf : Nat) : Env := { fn := tab.find, intr := fun k => bif Nat.beq k 10 then some trueD else env.intr k, lf := lf }
theorem env2_ok (lf : Nat) : EnvOk Try.prog (env2 lf) := by
  refine ⟨env_ok.mixed, fun k df h => BT.find_all tab_ok h, fun k F h => ?_⟩
  have h : (bif Nat.beq k 10 then some trueD else env.intr k) = some F := h
  cases hb : Nat.beq k 10 with
  | true =>
    rw [hb] at h
    simp only [cond_true, Option.some.injEq] at h
    subst h
    rw [Nat.eq_of_beq_eq_true hb]
    exact trueD_ok livesL (fun X w => callFunc_run Try.func10 (by kernel_rfl) (by kernel_rfl) X w)
  | false =>
    rw [hb] at h
    simp only [cond_false] at h
    exact env_ok.intr k F h
variable {lf : Nat}
theorem fns (h : 10000 ≤ lf) : Go.Dx.StA.Fns (env2 lf) := by constructor <;> first | rfl | exact h
theorem its : Go.Dx.StA.Its (env2 lf) := by constructor <;> rfl
theorem cfns (h : 10000 ≤ lf) : Go.Dx.StA.CFns (env2 lf) := by constructor <;> first | rfl | exact h
theorem bfns (h : 10000 ≤ lf) : Go.Dx.StA.BFns (env2 lf) := by constructor <;> first | rfl | exact h
theorem pkfns : Go.Dx.StA.PkFns (env2 lf) := by constructor <;> first | rfl | exact fun d => (dcall_ok (env2_ok lf) d).1
theorem len_max {P : Program} {W : World} {ks : List Kd} {v : Value} {l : List (List Value)} {t e : TypeId} {base : Nat} (hu : P.underlying t = some (.slice e)) (hv : Value.okWide P W .any base t v) (m : RowIn W ks v l) : (l.length : Int) ≤ 9223372036854775807 := by
  rcases m with ⟨_, rfl⟩ | ⟨b, o, c, rfl, _⟩
  · simp
  · simp only [Value.okWide, hu, Cell.okWide, Cell.ok] at hv
    obtain ⟨h1, h2, _⟩ := hv
    have h3 : IntKind.i64.max = 9223372036854775807 := by decide
    omega
theorem walk (v0 : Value) (l0 : List (List Value)) {W : World} (m0 : RowIn W [.int .i64, .int .i64, .int .i64] v0 l0) (hmax : (l0.length : Int) ≤ 9223372036854775807) : Calls Try.prog 5 #[v0] W fun e w' => e = .returned (.bool true) ∧ Kept W w' := by
  have hl : ∀ x, x ∈ l0 → FitK [.int .i64, .int .i64, .int .i64] x := by
    rcases m0 with ⟨_, rfl⟩ | ⟨_, _, _, _, _, _, _, h, _⟩
    · exact fun _ h => (nomatch h)
    · exact h
  obtain ⟨s, β, v', hv, hR, hn, hro, hG, hin⟩ := rowState (P := Try.prog) m0 rfl
  have h : 10000 ≤ l0.length + 20000 := by omega
  obtain ⟨⟨rv, s'⟩, hr, hq⟩ := Go.Dx.StA.sameLaw (cfns h) pkfns (fns h) its (bfns h) (by rw [← Go.Dx.StA.d5x_eq]; rfl) rfl rfl rfl rfl hG (d := 0) hin hl (show l0.length < l0.length + 20000 by omega) hmax
  simp only at hq
  subst hq
  exact topM (env2_ok _) hr (.cons hv .nil) hR hn hro
end Go.Proofs.Ytnmajohhfcgddaa.storeSame
