/- InterpReckons returns true for every input, and leaves what it was given as it was. -/
import Derived.Test.YtiiohhhabkdglaaGreatRows
import Derived.Test.YtiiohhhabkdglaaGreatDxIn
import Derived.Test.YtiiohhhabkdglaaGreatDxRow
import Derived.Test.YtiiohhhabkdglaaGreatDxReck
namespace Go.Proofs.YtiiohhhabkdglaaGreat.interpReckons
open Go.ChangeShapes Go.WideShapes Go.ChangeAt Go.RowKit Go.Dx Go.Shelf
set_option linter.unusedVariables false
set_option linter.unusedSimpArgs false
set_option maxRecDepth 100000
set_option maxHeartbeats 4000000

/-! ### The evaluator's tables -/
inductive BT where
  | leaf
  | node (k : Nat) (d : DFunc) (l r : BT)
def BT.find : BT → Nat → Option DFunc
  | .leaf, _ => none
  | .node k d l r, x => bif Nat.beq x k then some d else bif Nat.blt x k then l.find x else r.find x
def BT.All (Q : Nat → DFunc → Prop) : BT → Prop
  | .leaf => True
  | .node k d l r => Q k d ∧ l.All Q ∧ r.All Q
theorem BT.find_all {Q : Nat → DFunc → Prop} : ∀ {t : BT} {x : Nat} {d : DFunc}, t.All Q → t.find x = some d → Q x d
  | .leaf, x, d, _, h => by cases h
  | .node k d0 l r, x, d, ⟨h1, h2, h3⟩, h => by
    unfold BT.find at h
    cases hb : Nat.beq x k with
    | true =>
      rw [hb] at h
      simp only [cond_true, Option.some.injEq] at h
      subst h
      rw [Nat.eq_of_beq_eq_true hb]; exact h1
    | false =>
      rw [hb] at h
      cases hl : Nat.blt x k with
      | true => rw [hl] at h; exact BT.find_all h2 h
      | false => rw [hl] at h; exact BT.find_all h3 h
def FnOk (k : Nat) (df : DFunc) : Prop := ∃ f, Tryz.prog.funcs[k]? = some f ∧ trFunc Tryz.prog f = some df
def tab : BT := (.node 56 d56 (.node 29 d29 (.node 18 d18 (.node 12 d12 (.node 9 d9 (.node 8 d8 (.node 3 d3 .leaf .leaf) .leaf) (.node 10 d10 .leaf .leaf)) (.node 16 d16 (.node 14 d14 (.node 13 d13 .leaf .leaf) .leaf) (.node 17 d17 .leaf .leaf))) (.node 23 d23 (.node 21 d21 (.node 20 d20 (.node 19 d19 .leaf .leaf) .leaf) (.node 22 d22 .leaf .leaf)) (.node 26 d26 (.node 25 d25 (.node 24 d24 .leaf .leaf) .leaf) (.node 28 d28 .leaf .leaf)))) (.node 41 d41 (.node 36 d36 (.node 34 d34 (.node 33 d33 (.node 30 d30 .leaf .leaf) .leaf) (.node 35 d35 .leaf .leaf)) (.node 39 d39 (.node 38 d38 (.node 37 d37 .leaf .leaf) .leaf) (.node 40 d40 .leaf .leaf))) (.node 46 d46 (.node 44 d44 (.node 43 d43 (.node 42 d42 .leaf .leaf) .leaf) (.node 45 d45 .leaf .leaf)) (.node 54 d54 (.node 50 d50 (.node 48 d48 .leaf .leaf) .leaf) (.node 55 d55 .leaf .leaf))))) (.node 79 d79 (.node 68 d68 (.node 61 d61 (.node 59 d59 (.node 58 d58 (.node 57 d57 .leaf .leaf) .leaf) (.node 60 d60 .leaf .leaf)) (.node 66 d66 (.node 65 d65 (.node 63 d63 .leaf .leaf) .leaf) (.node 67 d67 .leaf .leaf))) (.node 73 d73 (.node 71 d71 (.node 70 d70 (.node 69 d69 .leaf .leaf) .leaf) (.node 72 d72 .leaf .leaf)) (.node 76 d76 (.node 75 d75 (.node 74 d74 .leaf .leaf) .leaf) (.node 78 d78 .leaf .leaf)))) (.node 99 d99 (.node 87 d87 (.node 83 d83 (.node 82 d82 (.node 81 d81 .leaf .leaf) .leaf) (.node 84 d84 .leaf .leaf)) (.node 90 d90 (.node 89 d89 (.node 88 d88 .leaf .leaf) .leaf) (.node 91 d91 .leaf .leaf))) (.node 106 d106 (.node 104 d104 (.node 103 d103 (.node 102 d102 .leaf .leaf) .leaf) (.node 105 d105 .leaf .leaf)) (.node 116 d116 (.node 114 d114 .leaf .leaf) (.node 117 d117 .leaf .leaf))))))
theorem tab_ok : tab.All FnOk := ⟨⟨_, Tryz.func56, tr56⟩, ⟨⟨_, Tryz.func29, tr29⟩, ⟨⟨_, Tryz.func18, tr18⟩, ⟨⟨_, Tryz.func12, tr12⟩, ⟨⟨_, Tryz.func9, tr9⟩, ⟨⟨_, Tryz.func8, tr8⟩, ⟨⟨_, Tryz.func3, tr3⟩, trivial, trivial⟩, trivial⟩, ⟨⟨_, Tryz.func10, tr10⟩, trivial, trivial⟩⟩, ⟨⟨_, Tryz.func16, tr16⟩, ⟨⟨_, Tryz.func14, tr14⟩, ⟨⟨_, Tryz.func13, tr13⟩, trivial, trivial⟩, trivial⟩, ⟨⟨_, Tryz.func17, tr17⟩, trivial, trivial⟩⟩⟩, ⟨⟨_, Tryz.func23, tr23⟩, ⟨⟨_, Tryz.func21, tr21⟩, ⟨⟨_, Tryz.func20, tr20⟩, ⟨⟨_, Tryz.func19, tr19⟩, trivial, trivial⟩, trivial⟩, ⟨⟨_, Tryz.func22, tr22⟩, trivial, trivial⟩⟩, ⟨⟨_, Tryz.func26, tr26⟩, ⟨⟨_, Tryz.func25, tr25⟩, ⟨⟨_, Tryz.func24, tr24⟩, trivial, trivial⟩, trivial⟩, ⟨⟨_, Tryz.func28, tr28⟩, trivial, trivial⟩⟩⟩⟩, ⟨⟨_, Tryz.func41, tr41⟩, ⟨⟨_, Tryz.func36, tr36⟩, ⟨⟨_, Tryz.func34, tr34⟩, ⟨⟨_, Tryz.func33, tr33⟩, ⟨⟨_, Tryz.func30, tr30⟩, trivial, trivial⟩, trivial⟩, ⟨⟨_, Tryz.func35, tr35⟩, trivial, trivial⟩⟩, ⟨⟨_, Tryz.func39, tr39⟩, ⟨⟨_, Tryz.func38, tr38⟩, ⟨⟨_, Tryz.func37, tr37⟩, trivial, trivial⟩, trivial⟩, ⟨⟨_, Tryz.func40, tr40⟩, trivial, trivial⟩⟩⟩, ⟨⟨_, Tryz.func46, tr46⟩, ⟨⟨_, Tryz.func44, tr44⟩, ⟨⟨_, Tryz.func43, tr43⟩, ⟨⟨_, Tryz.func42, tr42⟩, trivial, trivial⟩, trivial⟩, ⟨⟨_, Tryz.func45, tr45⟩, trivial, trivial⟩⟩, ⟨⟨_, Tryz.func54, tr54⟩, ⟨⟨_, Tryz.func50, tr50⟩, ⟨⟨_, Tryz.func48, tr48⟩, trivial, trivial⟩, trivial⟩, ⟨⟨_, Tryz.func55, tr55⟩, trivial, trivial⟩⟩⟩⟩⟩, ⟨⟨_, Tryz.func79, tr79⟩, ⟨⟨_, Tryz.func68, tr68⟩, ⟨⟨_, Tryz.func61, tr61⟩, ⟨⟨_, Tryz.func59, tr59⟩, ⟨⟨_, Tryz.func58, tr58⟩, ⟨⟨_, Tryz.func57, tr57⟩, trivial, trivial⟩, trivial⟩, ⟨⟨_, Tryz.func60, tr60⟩, trivial, trivial⟩⟩, ⟨⟨_, Tryz.func66, tr66⟩, ⟨⟨_, Tryz.func65, tr65⟩, ⟨⟨_, Tryz.func63, tr63⟩, trivial, trivial⟩, trivial⟩, ⟨⟨_, Tryz.func67, tr67⟩, trivial, trivial⟩⟩⟩, ⟨⟨_, Tryz.func73, tr73⟩, ⟨⟨_, Tryz.func71, tr71⟩, ⟨⟨_, Tryz.func70, tr70⟩, ⟨⟨_, Tryz.func69, tr69⟩, trivial, trivial⟩, trivial⟩, ⟨⟨_, Tryz.func72, tr72⟩, trivial, trivial⟩⟩, ⟨⟨_, Tryz.func76, tr76⟩, ⟨⟨_, Tryz.func75, tr75⟩, ⟨⟨_, Tryz.func74, tr74⟩, trivial, trivial⟩, trivial⟩, ⟨⟨_, Tryz.func78, tr78⟩, trivial, trivial⟩⟩⟩⟩, ⟨⟨_, Tryz.func99, tr99⟩, ⟨⟨_, Tryz.func87, tr87⟩, ⟨⟨_, Tryz.func83, tr83⟩, ⟨⟨_, Tryz.func82, tr82⟩, ⟨⟨_, Tryz.func81, tr81⟩, trivial, trivial⟩, trivial⟩, ⟨⟨_, Tryz.func84, tr84⟩, trivial, trivial⟩⟩, ⟨⟨_, Tryz.func90, tr90⟩, ⟨⟨_, Tryz.func89, tr89⟩, ⟨⟨_, Tryz.func88, tr88⟩, trivial, trivial⟩, trivial⟩, ⟨⟨_, Tryz.func91, tr91⟩, trivial, trivial⟩⟩⟩, ⟨⟨_, Tryz.func106, tr106⟩, ⟨⟨_, Tryz.func104, tr104⟩, ⟨⟨_, Tryz.func103, tr103⟩, ⟨⟨_, Tryz.func102, tr102⟩, trivial, trivial⟩, trivial⟩, ⟨⟨_, Tryz.func105, tr105⟩, trivial, trivial⟩⟩, ⟨⟨_, Tryz.func116, tr116⟩, ⟨⟨_, Tryz.func114, tr114⟩, trivial, trivial⟩, ⟨⟨_, Tryz.func117, tr117⟩, trivial, trivial⟩⟩⟩⟩⟩⟩

def env : Env := { fn := tab.find, intr := fun _ => none, lf := 100000 }
theorem env_ok : EnvOk Tryz.prog env := ⟨by kernel_rfl, fun k df h => BT.find_all tab_ok h, fun k F h => by cases h⟩

theorem livesRun : okOf (xcall env 200 (.func (.func 10) #[] #[]) [] s0) = true := by kernel_rfl
theorem livesCall (W : World) : Calls Tryz.prog 10 #[] W fun e w' => e = .returned (.bool true) ∧ Kept W w' := top env_ok livesRun (fun _ => .nil) W
theorem env2_ok : EnvOk Tryz.prog reck.E := by
  refine ⟨by kernel_rfl, fun k df h => ?_, fun k F h => ?_⟩
  · have h : reck.fnT k = some df := h
    unfold reck.fnT at h
    split at h
    · cases h; exact ⟨_, Tryz.func3, tr3⟩
    · cases h; exact ⟨_, Tryz.func8, tr8⟩
    · cases h; exact ⟨_, Tryz.func9, tr9⟩
    · cases h; exact ⟨_, Tryz.func16, tr16⟩
    · cases h; exact ⟨_, Tryz.func17, tr17⟩
    · cases h
  · simp only [reck.E] at h
    split at h
    · cases h; exact trueD_ok livesCall (fun X w => callFunc_run Tryz.func10 (by kernel_rfl) (by kernel_rfl) X w)
    · cases h
theorem walk (a0 a1 a2 : Int) (w : World) : Calls Tryz.prog 3 #[.int .i64 a0, .int .i64 a1, .int .i64 a2] w fun e w' => e = .returned (.bool true) ∧ Kept w w' :=
  top_d env2_ok (reck.run3 a0 a1 a2 s0 0) (fun _ => .cons (.int _ _) (.cons (.int _ _) (.cons (.int _ _) .nil))) w
end Go.Proofs.YtiiohhhabkdglaaGreat.interpReckons
