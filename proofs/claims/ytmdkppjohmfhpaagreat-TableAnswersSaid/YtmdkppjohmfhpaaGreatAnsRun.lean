/- TableAnswers returns true for every input, and leaves what it was given as it was. -/
import Derived.Test.YtmdkppjohmfhpaaGreatRows
import Derived.Test.YtmdkppjohmfhpaaGreatDxTk
import Derived.Test.YtmdkppjohmfhpaaGreatDxRow
import Derived.Test.YtmdkppjohmfhpaaGreatDxSorted
import Derived.Shelf.SortM.Plain
import Derived.Shelf.SortM.SortNone
import Derived.Test.YtmdkppjohmfhpaaGreatDxStir
import Derived.Test.YtmdkppjohmfhpaaGreatT1Ans
import Derived.Test.YtmdkppjohmfhpaaGreatDxTopM
namespace Go.Proofs.YtmdkppjohmfhpaaGreat.tableAnswers
open Go.ChangeShapes Go.WideShapes Go.ChangeAt Go.RowKit Go.Dx Go.Shelf
set_option linter.unusedVariables false
set_option linter.unusedSimpArgs false
set_option maxRecDepth 100000
set_option maxHeartbeats 4000000

/-! ### The evaluator's tables -/
inductive BT where
  | leaf
  | node (k : Nat) (d : DFunc) (l r : BT)
def BT.find : BT → Nat → Option DFunc
  | .leaf, _ => none
  | .node k d l r, x => bif Nat.beq x k then some d else bif Nat.blt x k then l.find x else r.find x
def BT.All (Q : Nat → DFunc → Prop) : BT → Prop
  | .leaf => True
  | .node k d l r => Q k d ∧ l.All Q ∧ r.All Q
theorem BT.find_all {Q : Nat → DFunc → Prop} : ∀ {t : BT} {x : Nat} {d : DFunc}, t.All Q → t.find x = some d → Q x d
  | .leaf, x, d, _, h => by cases h
  | .node k d0 l r, x, d, ⟨h1, h2, h3⟩, h => by
    unfold BT.find at h
    cases hb : Nat.beq x k with
    | true =>
      rw [hb] at h
      simp only [cond_true, Option.some.injEq] at h
      subst h
      rw [Nat.eq_of_beq_eq_true hb]; exact h1
    | false =>
      rw [hb] at h
      cases hl : Nat.blt x k with
      | true => rw [hl] at h; exact BT.find_all h2 h
      | false => rw [hl] at h; exact BT.find_all h3 h
def FnOk (k : Nat) (df : DFunc) : Prop := ∃ f, Tryz.prog.funcs[k]? = some f ∧ trFunc Tryz.prog f = some df
def tab : BT := (.node 47 d47 (.node 23 d23 (.node 13 d13 (.node 8 d8 (.node 5 d5 (.node 4 d4 (.node 3 d3 .leaf .leaf) .leaf) (.node 7 d7 (.node 6 d6 .leaf .leaf) .leaf)) (.node 11 d11 (.node 10 d10 (.node 9 d9 .leaf .leaf) .leaf) (.node 12 d12 .leaf .leaf))) (.node 18 d18 (.node 16 d16 (.node 15 d15 (.node 14 d14 .leaf .leaf) .leaf) (.node 17 d17 .leaf .leaf)) (.node 21 d21 (.node 20 d20 (.node 19 d19 .leaf .leaf) .leaf) (.node 22 d22 .leaf .leaf)))) (.node 37 d37 (.node 29 d29 (.node 26 d26 (.node 25 d25 (.node 24 d24 .leaf .leaf) .leaf) (.node 28 d28 (.node 27 d27 .leaf .leaf) .leaf)) (.node 35 d35 (.node 34 d34 (.node 30 d30 .leaf .leaf) .leaf) (.node 36 d36 .leaf .leaf))) (.node 42 d42 (.node 40 d40 (.node 39 d39 (.node 38 d38 .leaf .leaf) .leaf) (.node 41 d41 .leaf .leaf)) (.node 45 d45 (.node 44 d44 (.node 43 d43 .leaf .leaf) .leaf) (.node 46 d46 .leaf .leaf))))) (.node 71 d71 (.node 61 d61 (.node 56 d56 (.node 50 d50 (.node 49 d49 (.node 48 d48 .leaf .leaf) .leaf) (.node 52 d52 (.node 51 d51 .leaf .leaf) .leaf)) (.node 59 d59 (.node 58 d58 (.node 57 d57 .leaf .leaf) .leaf) (.node 60 d60 .leaf .leaf))) (.node 66 d66 (.node 64 d64 (.node 63 d63 (.node 62 d62 .leaf .leaf) .leaf) (.node 65 d65 .leaf .leaf)) (.node 69 d69 (.node 68 d68 (.node 67 d67 .leaf .leaf) .leaf) (.node 70 d70 .leaf .leaf)))) (.node 93 d93 (.node 77 d77 (.node 74 d74 (.node 73 d73 (.node 72 d72 .leaf .leaf) .leaf) (.node 76 d76 (.node 75 d75 .leaf .leaf) .leaf)) (.node 80 d80 (.node 79 d79 (.node 78 d78 .leaf .leaf) .leaf) (.node 81 d81 .leaf .leaf))) (.node 98 d98 (.node 96 d96 (.node 95 d95 (.node 94 d94 .leaf .leaf) .leaf) (.node 97 d97 .leaf .leaf)) (.node 101 d101 (.node 100 d100 (.node 99 d99 .leaf .leaf) .leaf) (.node 108 d108 .leaf .leaf))))))
theorem tab_ok : tab.All FnOk := ⟨⟨_, Tryz.func47, tr47⟩, ⟨⟨_, Tryz.func23, tr23⟩, ⟨⟨_, Tryz.func13, tr13⟩, ⟨⟨_, Tryz.func8, tr8⟩, ⟨⟨_, Tryz.func5, tr5⟩, ⟨⟨_, Tryz.func4, tr4⟩, ⟨⟨_, Tryz.func3, tr3⟩, trivial, trivial⟩, trivial⟩, ⟨⟨_, Tryz.func7, tr7⟩, ⟨⟨_, Tryz.func6, tr6⟩, trivial, trivial⟩, trivial⟩⟩, ⟨⟨_, Tryz.func11, tr11⟩, ⟨⟨_, Tryz.func10, tr10⟩, ⟨⟨_, Tryz.func9, tr9⟩, trivial, trivial⟩, trivial⟩, ⟨⟨_, Tryz.func12, tr12⟩, trivial, trivial⟩⟩⟩, ⟨⟨_, Tryz.func18, tr18⟩, ⟨⟨_, Tryz.func16, tr16⟩, ⟨⟨_, Tryz.func15, tr15⟩, ⟨⟨_, Tryz.func14, tr14⟩, trivial, trivial⟩, trivial⟩, ⟨⟨_, Tryz.func17, tr17⟩, trivial, trivial⟩⟩, ⟨⟨_, Tryz.func21, tr21⟩, ⟨⟨_, Tryz.func20, tr20⟩, ⟨⟨_, Tryz.func19, tr19⟩, trivial, trivial⟩, trivial⟩, ⟨⟨_, Tryz.func22, tr22⟩, trivial, trivial⟩⟩⟩⟩, ⟨⟨_, Tryz.func37, tr37⟩, ⟨⟨_, Tryz.func29, tr29⟩, ⟨⟨_, Tryz.func26, tr26⟩, ⟨⟨_, Tryz.func25, tr25⟩, ⟨⟨_, Tryz.func24, tr24⟩, trivial, trivial⟩, trivial⟩, ⟨⟨_, Tryz.func28, tr28⟩, ⟨⟨_, Tryz.func27, tr27⟩, trivial, trivial⟩, trivial⟩⟩, ⟨⟨_, Tryz.func35, tr35⟩, ⟨⟨_, Tryz.func34, tr34⟩, ⟨⟨_, Tryz.func30, tr30⟩, trivial, trivial⟩, trivial⟩, ⟨⟨_, Tryz.func36, tr36⟩, trivial, trivial⟩⟩⟩, ⟨⟨_, Tryz.func42, tr42⟩, ⟨⟨_, Tryz.func40, tr40⟩, ⟨⟨_, Tryz.func39, tr39⟩, ⟨⟨_, Tryz.func38, tr38⟩, trivial, trivial⟩, trivial⟩, ⟨⟨_, Tryz.func41, tr41⟩, trivial, trivial⟩⟩, ⟨⟨_, Tryz.func45, tr45⟩, ⟨⟨_, Tryz.func44, tr44⟩, ⟨⟨_, Tryz.func43, tr43⟩, trivial, trivial⟩, trivial⟩, ⟨⟨_, Tryz.func46, tr46⟩, trivial, trivial⟩⟩⟩⟩⟩, ⟨⟨_, Tryz.func71, tr71⟩, ⟨⟨_, Tryz.func61, tr61⟩, ⟨⟨_, Tryz.func56, tr56⟩, ⟨⟨_, Tryz.func50, tr50⟩, ⟨⟨_, Tryz.func49, tr49⟩, ⟨⟨_, Tryz.func48, tr48⟩, trivial, trivial⟩, trivial⟩, ⟨⟨_, Tryz.func52, tr52⟩, ⟨⟨_, Tryz.func51, tr51⟩, trivial, trivial⟩, trivial⟩⟩, ⟨⟨_, Tryz.func59, tr59⟩, ⟨⟨_, Tryz.func58, tr58⟩, ⟨⟨_, Tryz.func57, tr57⟩, trivial, trivial⟩, trivial⟩, ⟨⟨_, Tryz.func60, tr60⟩, trivial, trivial⟩⟩⟩, ⟨⟨_, Tryz.func66, tr66⟩, ⟨⟨_, Tryz.func64, tr64⟩, ⟨⟨_, Tryz.func63, tr63⟩, ⟨⟨_, Tryz.func62, tr62⟩, trivial, trivial⟩, trivial⟩, ⟨⟨_, Tryz.func65, tr65⟩, trivial, trivial⟩⟩, ⟨⟨_, Tryz.func69, tr69⟩, ⟨⟨_, Tryz.func68, tr68⟩, ⟨⟨_, Tryz.func67, tr67⟩, trivial, trivial⟩, trivial⟩, ⟨⟨_, Tryz.func70, tr70⟩, trivial, trivial⟩⟩⟩⟩, ⟨⟨_, Tryz.func93, tr93⟩, ⟨⟨_, Tryz.func77, tr77⟩, ⟨⟨_, Tryz.func74, tr74⟩, ⟨⟨_, Tryz.func73, tr73⟩, ⟨⟨_, Tryz.func72, tr72⟩, trivial, trivial⟩, trivial⟩, ⟨⟨_, Tryz.func76, tr76⟩, ⟨⟨_, Tryz.func75, tr75⟩, trivial, trivial⟩, trivial⟩⟩, ⟨⟨_, Tryz.func80, tr80⟩, ⟨⟨_, Tryz.func79, tr79⟩, ⟨⟨_, Tryz.func78, tr78⟩, trivial, trivial⟩, trivial⟩, ⟨⟨_, Tryz.func81, tr81⟩, trivial, trivial⟩⟩⟩, ⟨⟨_, Tryz.func98, tr98⟩, ⟨⟨_, Tryz.func96, tr96⟩, ⟨⟨_, Tryz.func95, tr95⟩, ⟨⟨_, Tryz.func94, tr94⟩, trivial, trivial⟩, trivial⟩, ⟨⟨_, Tryz.func97, tr97⟩, trivial, trivial⟩⟩, ⟨⟨_, Tryz.func101, tr101⟩, ⟨⟨_, Tryz.func100, tr100⟩, ⟨⟨_, Tryz.func99, tr99⟩, trivial, trivial⟩, trivial⟩, ⟨⟨_, Tryz.func108, tr108⟩, trivial, trivial⟩⟩⟩⟩⟩⟩

theorem bears_auto {P : Program} {f : FuncId} {B : Func} (h1 : (((P.funcs[f]?).getD default).name == "runtime.NumGoroutine") = false) (h2 : P.funcs[f]? = some { B with name := ((P.funcs[f]?).getD default).name }) : Go.Proofs.Bears P f B := ⟨_, h1, h2⟩
def renS : Ren := { f := fun n => match n with | 5 => 32 | 7 => 54 | 8 => 55 | 10 => 82 | 11 => 83 | 12 => 84 | 13 => 85 | 14 => 86 | 15 => 87 | 16 => 88 | 17 => 89 | 18 => 90 | 19 => 91 | 20 => 92 | 30 => 102 | 31 => 103 | 32 => 104 | 33 => 105 | 34 => 106 | 35 => 107 | 40 => 109 | n => n, t := fun n => match n with | 0 => 0 | 3 => 3 | 4 => 4 | 5 => 5 | 9 => 9 | 22 => 61 | 23 => 61 | 25 => 3 | 32 => 155 | 35 => 177 | 36 => 178 | 41 => 182 | 44 => 166 | 46 => 170 | 53 => 197 | 57 => 201 | 63 => 206 | 64 => 207 | n => n, g := fun n => n }
theorem laysS : SlLaysM.n5 Tryz.prog renS := by
  constructor
  all_goals first
    | kernel_rfl
    | (intro w; kernel_rfl)
    | exact bears_auto (by kernel_rfl) (by kernel_rfl)
def renK0 : Ren := { f := fun n => match n with | 6 => 20 | 7 => 21 | 8 => 31 | 9 => 32 | 10 => 33 | 11 => 53 | n => n, t := fun n => match n with | 0 => 0 | 3 => 55 | 4 => 4 | 5 => 5 | 9 => 9 | 23 => 42 | 24 => 61 | 26 => 3 | 27 => 45 | 28 => 46 | 33 => 60 | 37 => 155 | 39 => 177 | 40 => 178 | 45 => 182 | 48 => 166 | 50 => 170 | 51 => 197 | 55 => 201 | 57 => 206 | 58 => 207 | n => n, g := fun n => n }
theorem laysK0 : SlLaysZI.n7 Tryz.prog renK0 := by
  constructor
  all_goals first
    | kernel_rfl
    | (intro w; kernel_rfl)
    | exact bears_auto (by kernel_rfl) (by kernel_rfl)
theorem laysO : SlLaysZI.n6 Tryz.prog renK0 := by
  constructor
  all_goals first
    | kernel_rfl
    | (intro w; kernel_rfl)
    | exact bears_auto (by kernel_rfl) (by kernel_rfl)
theorem sorts (m : Nat) : Go.Proofs.AnyZI.SortsIn Tryz.prog renK0 Fence.wide m :=
  ⟨fun blk off cap ss W hH hblk hsz => callsIn_wide.2 (Go.Proofs.AnyM.slices_Sort_int laysS blk off cap ss W hH hblk hsz), fun p cap W => callsIn_wide.2 (Go.Proofs.AnyM.slices_Sort_int_none laysS p cap W)⟩
theorem stirOk : IntrOk Tryz.prog 101 stirX :=
  stirX_ok (r := 108) (by kernel_rfl) (by kernel_rfl) Tryz.func101 (by kernel_rfl) Tryz.func108 (by kernel_rfl) (fun X w => callFunc_run Tryz.func101 (by kernel_rfl) (by kernel_rfl) X w)
noncomputable def env : Env := { fn := tab.find, intr := fun k => bif Nat.beq k 21 then some (fun all s => keysD all 33 s) else bif Nat.beq k 20 then some (fun all s => sortedD 33 all s) else bif Nat.beq k 101 then some (stirX) else none, lf := 100000 }
theorem env_ok : EnvOk Tryz.prog env := by
  refine ⟨by kernel_rfl, fun k df h => BT.find_all tab_ok h, fun k F h => ?_⟩
  have h : (bif Nat.beq k 21 then some (fun all s => keysD all 33 s) else bif Nat.beq k 20 then some (fun all s => sortedD 33 all s) else bif Nat.beq k 101 then some (stirX) else none) = some F := h
  cases hb21 : Nat.beq k 21 with
  | true =>
    rw [hb21] at h
    simp only [cond_true, Option.some.injEq] at h
    subst h
    rw [Nat.eq_of_beq_eq_true hb21]
    exact keys_ok (ρ := renK0) laysK0 (fun X w => callFunc_run Tryz.func21 (by kernel_rfl) (by kernel_rfl) X w)
  | false =>
    rw [hb21] at h
    simp only [cond_false] at h
    cases hb20 : Nat.beq k 20 with
    | true =>
      rw [hb20] at h
      simp only [cond_true, Option.some.injEq] at h
      subst h
      rw [Nat.eq_of_beq_eq_true hb20]
      exact sorted_ok (ρ := renK0) laysO { laysK0 with } sorts (fun X w => callFunc_run Tryz.func32 (by kernel_rfl) (by kernel_rfl) X w) (fun X w => callFunc_run Tryz.func20 (by kernel_rfl) (by kernel_rfl) X w)
    | false =>
      rw [hb20] at h
      simp only [cond_false] at h
      cases hb101 : Nat.beq k 101 with
      | true =>
        rw [hb101] at h
        simp only [cond_true, Option.some.injEq] at h
        subst h
        rw [Nat.eq_of_beq_eq_true hb101]
        exact stirOk
      | false =>
        rw [hb101] at h
        simp only [cond_false] at h
        cases h

theorem runsL : okOf (xcall env 200 (.func (.func 6) #[] #[]) [] s0) = true := by kernel_rfl
theorem livesL (W : World) : Calls Tryz.prog 6 #[] W fun e w' => e = .returned (.bool true) ∧ Kept W w' := top env_ok runsL (fun _ => .nil) W
noncomputable def env2 : Env := { fn := tab.find, intr := fun k => bif Nat.beq k 6 then some trueD else env.intr k, lf := 100000 }
theorem env2_ok : EnvOk Tryz.prog env2 := by
  refine ⟨env_ok.mixed, fun k df h => BT.find_all tab_ok h, fun k F h => ?_⟩
  have h : (bif Nat.beq k 6 then some trueD else env.intr k) = some F := h
  cases hb : Nat.beq k 6 with
  | true =>
    rw [hb] at h
    simp only [cond_true, Option.some.injEq] at h
    subst h
    rw [Nat.eq_of_beq_eq_true hb]
    exact trueD_ok livesL (fun X w => callFunc_run Tryz.func6 (by kernel_rfl) (by kernel_rfl) X w)
  | false =>
    rw [hb] at h
    simp only [cond_false] at h
    exact env_ok.intr k F h
theorem cfns : Go.Dx.TbA.CFns env2 := by constructor <;> first | rfl | exact of_decide_eq_true rfl
theorem tfns : Go.Dx.TbA.TFns env2 := by constructor <;> rfl
theorem efns : Go.Dx.TbA.EFns env2 := by constructor <;> first | rfl | exact fun d => (dcall_ok env2_ok d).1
theorem walk (v0 : Value) (l0 : List (List Value)) {W : World} (m0 : RowIn W [.int .i64, .int .i64, .bool, .int .i64, .int .i64, .int .i64] v0 l0) : Calls Tryz.prog 4 #[v0] W fun e w' => e = .returned (.bool true) ∧ Kept W w' := by
  have hl : ∀ x, x ∈ l0 → FitK [.int .i64, .int .i64, .bool, .int .i64, .int .i64, .int .i64] x := by
    rcases m0 with ⟨_, rfl⟩ | ⟨_, _, _, _, _, _, _, h, _⟩
    · exact fun _ h => (nomatch h)
    · exact h
  obtain ⟨s, β, v0', hv0, hR, hn, hro, hG, hin⟩ := rowState (P := Tryz.prog) m0 rfl
  obtain ⟨⟨rv, s'⟩, hr, hq⟩ := Go.Dx.TbA.ansLaw cfns tfns efns rfl rfl rfl rfl rfl hG (d := 0) hin hl
  simp only at hq
  subst hq
  exact topM env2_ok hr (.cons hv0 .nil) hR hn hro
end Go.Proofs.YtmdkppjohmfhpaaGreat.tableAnswers
