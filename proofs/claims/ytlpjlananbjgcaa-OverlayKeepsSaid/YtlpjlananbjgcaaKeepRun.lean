/- OverlayKeeps returns true for every input, and leaves what it was given as it was. -/
import Derived.Test.YtlpjlananbjgcaaRows
import Derived.Test.YtlpjlananbjgcaaDxOk
import Derived.Test.YtlpjlananbjgcaaDxRow
import Derived.Test.YtlpjlananbjgcaaDxSorted
import Derived.Shelf.SortM.Plain
import Derived.Shelf.SortM.SortNone
import Derived.Shelf.Lays2
import Derived.Test.YtlpjlananbjgcaaDxIns
import Derived.Test.YtlpjlananbjgcaaO1All
import Derived.Test.YtlpjlananbjgcaaDxTwo
namespace Go.Proofs.Ytlpjlananbjgcaa.overlayKeeps
open Go.ChangeShapes Go.WideShapes Go.ChangeAt Go.RowKit Go.Dx Go.Shelf
set_option linter.unusedVariables false
set_option linter.unusedSimpArgs false
set_option maxRecDepth 100000
set_option maxHeartbeats 4000000

/-! ### The evaluator's tables -/
inductive BT where
  | leaf
  | node (k : Nat) (d : DFunc) (l r : BT)
def BT.find : BT → Nat → Option DFunc
  | .leaf, _ => none
  | .node k d l r, x => bif Nat.beq x k then some d else bif Nat.blt x k then l.find x else r.find x
def BT.All (Q : Nat → DFunc → Prop) : BT → Prop
  | .leaf => True
  | .node k d l r => Q k d ∧ l.All Q ∧ r.All Q
theorem BT.find_all {Q : Nat → DFunc → Prop} : ∀ {t : BT} {x : Nat} {d : DFunc}, t.All Q → t.find x = some d → Q x d
  | .leaf, x, d, _, h => by cases h
  | .node k d0 l r, x, d, ⟨h1, h2, h3⟩, h => by
    unfold BT.find at h
    cases hb : Nat.beq x k with
    | true =>
      rw [hb] at h
      simp only [cond_true, Option.some.injEq] at h
      subst h
      rw [Nat.eq_of_beq_eq_true hb]; exact h1
    | false =>
      rw [hb] at h
      cases hl : Nat.blt x k with
      | true => rw [hl] at h; exact BT.find_all h2 h
      | false => rw [hl] at h; exact BT.find_all h3 h
def FnOk (k : Nat) (df : DFunc) : Prop := ∃ f, Try.prog.funcs[k]? = some f ∧ trFunc Try.prog f = some df
def tab : BT := (.node 54 d54 (.node 31 d31 (.node 15 d15 (.node 11 d11 (.node 9 d9 (.node 8 d8 (.node 5 d5 .leaf .leaf) .leaf) (.node 10 d10 .leaf .leaf)) (.node 13 d13 (.node 12 d12 .leaf .leaf) (.node 14 d14 .leaf .leaf))) (.node 27 d27 (.node 17 d17 (.node 16 d16 .leaf .leaf) (.node 18 d18 .leaf .leaf)) (.node 29 d29 (.node 28 d28 .leaf .leaf) (.node 30 d30 .leaf .leaf)))) (.node 45 d45 (.node 37 d37 (.node 35 d35 (.node 34 d34 (.node 33 d33 .leaf .leaf) .leaf) (.node 36 d36 .leaf .leaf)) (.node 39 d39 (.node 38 d38 .leaf .leaf) (.node 40 d40 .leaf .leaf))) (.node 49 d49 (.node 47 d47 (.node 46 d46 .leaf .leaf) (.node 48 d48 .leaf .leaf)) (.node 51 d51 (.node 50 d50 .leaf .leaf) (.node 52 d52 .leaf .leaf))))) (.node 74 d74 (.node 63 d63 (.node 59 d59 (.node 57 d57 (.node 56 d56 (.node 55 d55 .leaf .leaf) .leaf) (.node 58 d58 .leaf .leaf)) (.node 61 d61 (.node 60 d60 .leaf .leaf) (.node 62 d62 .leaf .leaf))) (.node 70 d70 (.node 65 d65 (.node 64 d64 .leaf .leaf) (.node 66 d66 .leaf .leaf)) (.node 72 d72 (.node 71 d71 .leaf .leaf) (.node 73 d73 .leaf .leaf)))) (.node 89 d89 (.node 79 d79 (.node 77 d77 (.node 76 d76 (.node 75 d75 .leaf .leaf) .leaf) (.node 78 d78 .leaf .leaf)) (.node 86 d86 (.node 85 d85 .leaf .leaf) (.node 87 d87 .leaf .leaf))) (.node 106 d106 (.node 92 d92 (.node 90 d90 .leaf .leaf) (.node 94 d94 .leaf .leaf)) (.node 108 d108 (.node 107 d107 .leaf .leaf) (.node 117 d117 .leaf .leaf))))))
theorem tab_ok : tab.All FnOk := ⟨⟨_, Try.func54, tr54⟩, ⟨⟨_, Try.func31, tr31⟩, ⟨⟨_, Try.func15, tr15⟩, ⟨⟨_, Try.func11, tr11⟩, ⟨⟨_, Try.func9, tr9⟩, ⟨⟨_, Try.func8, tr8⟩, ⟨⟨_, Try.func5, tr5⟩, trivial, trivial⟩, trivial⟩, ⟨⟨_, Try.func10, tr10⟩, trivial, trivial⟩⟩, ⟨⟨_, Try.func13, tr13⟩, ⟨⟨_, Try.func12, tr12⟩, trivial, trivial⟩, ⟨⟨_, Try.func14, tr14⟩, trivial, trivial⟩⟩⟩, ⟨⟨_, Try.func27, tr27⟩, ⟨⟨_, Try.func17, tr17⟩, ⟨⟨_, Try.func16, tr16⟩, trivial, trivial⟩, ⟨⟨_, Try.func18, tr18⟩, trivial, trivial⟩⟩, ⟨⟨_, Try.func29, tr29⟩, ⟨⟨_, Try.func28, tr28⟩, trivial, trivial⟩, ⟨⟨_, Try.func30, tr30⟩, trivial, trivial⟩⟩⟩⟩, ⟨⟨_, Try.func45, tr45⟩, ⟨⟨_, Try.func37, tr37⟩, ⟨⟨_, Try.func35, tr35⟩, ⟨⟨_, Try.func34, tr34⟩, ⟨⟨_, Try.func33, tr33⟩, trivial, trivial⟩, trivial⟩, ⟨⟨_, Try.func36, tr36⟩, trivial, trivial⟩⟩, ⟨⟨_, Try.func39, tr39⟩, ⟨⟨_, Try.func38, tr38⟩, trivial, trivial⟩, ⟨⟨_, Try.func40, tr40⟩, trivial, trivial⟩⟩⟩, ⟨⟨_, Try.func49, tr49⟩, ⟨⟨_, Try.func47, tr47⟩, ⟨⟨_, Try.func46, tr46⟩, trivial, trivial⟩, ⟨⟨_, Try.func48, tr48⟩, trivial, trivial⟩⟩, ⟨⟨_, Try.func51, tr51⟩, ⟨⟨_, Try.func50, tr50⟩, trivial, trivial⟩, ⟨⟨_, Try.func52, tr52⟩, trivial, trivial⟩⟩⟩⟩⟩, ⟨⟨_, Try.func74, tr74⟩, ⟨⟨_, Try.func63, tr63⟩, ⟨⟨_, Try.func59, tr59⟩, ⟨⟨_, Try.func57, tr57⟩, ⟨⟨_, Try.func56, tr56⟩, ⟨⟨_, Try.func55, tr55⟩, trivial, trivial⟩, trivial⟩, ⟨⟨_, Try.func58, tr58⟩, trivial, trivial⟩⟩, ⟨⟨_, Try.func61, tr61⟩, ⟨⟨_, Try.func60, tr60⟩, trivial, trivial⟩, ⟨⟨_, Try.func62, tr62⟩, trivial, trivial⟩⟩⟩, ⟨⟨_, Try.func70, tr70⟩, ⟨⟨_, Try.func65, tr65⟩, ⟨⟨_, Try.func64, tr64⟩, trivial, trivial⟩, ⟨⟨_, Try.func66, tr66⟩, trivial, trivial⟩⟩, ⟨⟨_, Try.func72, tr72⟩, ⟨⟨_, Try.func71, tr71⟩, trivial, trivial⟩, ⟨⟨_, Try.func73, tr73⟩, trivial, trivial⟩⟩⟩⟩, ⟨⟨_, Try.func89, tr89⟩, ⟨⟨_, Try.func79, tr79⟩, ⟨⟨_, Try.func77, tr77⟩, ⟨⟨_, Try.func76, tr76⟩, ⟨⟨_, Try.func75, tr75⟩, trivial, trivial⟩, trivial⟩, ⟨⟨_, Try.func78, tr78⟩, trivial, trivial⟩⟩, ⟨⟨_, Try.func86, tr86⟩, ⟨⟨_, Try.func85, tr85⟩, trivial, trivial⟩, ⟨⟨_, Try.func87, tr87⟩, trivial, trivial⟩⟩⟩, ⟨⟨_, Try.func106, tr106⟩, ⟨⟨_, Try.func92, tr92⟩, ⟨⟨_, Try.func90, tr90⟩, trivial, trivial⟩, ⟨⟨_, Try.func94, tr94⟩, trivial, trivial⟩⟩, ⟨⟨_, Try.func108, tr108⟩, ⟨⟨_, Try.func107, tr107⟩, trivial, trivial⟩, ⟨⟨_, Try.func117, tr117⟩, trivial, trivial⟩⟩⟩⟩⟩⟩

theorem bears_of {P : Program} {f : FuncId} {B g : Func} (hf : P.funcs[f]? = some g) (hn : (g.name == "runtime.NumGoroutine") = false) (h : { B with name := g.name } = g) : Go.Proofs.Bears P f B := ⟨g.name, hn, by rw [h]; exact hf⟩
def renS : Ren := { f := fun n => match n with | 5 => 68 | 7 => 83 | 8 => 84 | 10 => 96 | 11 => 97 | 12 => 98 | 13 => 99 | 14 => 100 | 15 => 101 | 16 => 78 | 17 => 102 | 18 => 103 | 19 => 104 | 20 => 105 | 30 => 112 | 31 => 113 | 32 => 114 | 33 => 115 | 34 => 116 | 35 => 94 | 40 => 119 | n => n, t := fun n => match n with | 0 => 0 | 3 => 3 | 4 => 4 | 5 => 5 | 9 => 9 | 22 => 86 | 23 => 86 | 25 => 3 | 32 => 131 | 35 => 169 | 36 => 170 | 41 => 25 | 44 => 121 | 46 => 125 | 53 => 181 | 57 => 185 | 63 => 190 | 64 => 191 | n => n, g := fun n => n }
theorem laysS : SlLaysM.n5 Try.prog renS := by
  constructor
  all_goals first
    | kernel_rfl
    | (intro w; kernel_rfl)
    | exact bears_of Try.func68 (by kernel_rfl) (by kernel_rfl)
    | exact bears_of Try.func78 (by kernel_rfl) (by kernel_rfl)
    | exact bears_of Try.func83 (by kernel_rfl) (by kernel_rfl)
    | exact bears_of Try.func84 (by kernel_rfl) (by kernel_rfl)
    | exact bears_of Try.func94 (by kernel_rfl) (by kernel_rfl)
    | exact bears_of Try.func96 (by kernel_rfl) (by kernel_rfl)
    | exact bears_of Try.func97 (by kernel_rfl) (by kernel_rfl)
    | exact bears_of Try.func98 (by kernel_rfl) (by kernel_rfl)
    | exact bears_of Try.func99 (by kernel_rfl) (by kernel_rfl)
    | exact bears_of Try.func100 (by kernel_rfl) (by kernel_rfl)
    | exact bears_of Try.func101 (by kernel_rfl) (by kernel_rfl)
    | exact bears_of Try.func102 (by kernel_rfl) (by kernel_rfl)
    | exact bears_of Try.func103 (by kernel_rfl) (by kernel_rfl)
    | exact bears_of Try.func104 (by kernel_rfl) (by kernel_rfl)
    | exact bears_of Try.func105 (by kernel_rfl) (by kernel_rfl)
    | exact bears_of Try.func112 (by kernel_rfl) (by kernel_rfl)
    | exact bears_of Try.func113 (by kernel_rfl) (by kernel_rfl)
    | exact bears_of Try.func114 (by kernel_rfl) (by kernel_rfl)
    | exact bears_of Try.func115 (by kernel_rfl) (by kernel_rfl)
    | exact bears_of Try.func116 (by kernel_rfl) (by kernel_rfl)
    | exact bears_of Try.func119 (by kernel_rfl) (by kernel_rfl)
def renK0 : Ren := { f := fun n => match n with | 6 => 55 | 7 => 56 | 8 => 67 | 9 => 68 | 10 => 69 | 11 => 82 | n => n, t := fun n => match n with | 0 => 0 | 3 => 64 | 4 => 4 | 5 => 5 | 9 => 9 | 23 => 60 | 24 => 86 | 26 => 3 | 27 => 96 | 28 => 97 | 33 => 32 | 37 => 131 | 39 => 169 | 40 => 170 | 45 => 25 | 48 => 121 | 50 => 125 | 51 => 181 | 55 => 185 | 57 => 190 | 58 => 191 | n => n, g := fun n => n }
theorem laysK0 : SlLaysZI.n7 Try.prog renK0 := by
  constructor
  all_goals first
    | kernel_rfl
    | (intro w; kernel_rfl)
    | exact bears_of Try.func55 (by kernel_rfl) (by kernel_rfl)
    | exact bears_of Try.func56 (by kernel_rfl) (by kernel_rfl)
    | exact bears_of Try.func67 (by kernel_rfl) (by kernel_rfl)
    | exact bears_of Try.func68 (by kernel_rfl) (by kernel_rfl)
    | exact bears_of Try.func69 (by kernel_rfl) (by kernel_rfl)
    | exact bears_of Try.func82 (by kernel_rfl) (by kernel_rfl)
theorem laysO : SlLaysZI.n6 Try.prog renK0 := by
  constructor
  all_goals first
    | kernel_rfl
    | (intro w; kernel_rfl)
    | exact bears_of Try.func55 (by kernel_rfl) (by kernel_rfl)
    | exact bears_of Try.func56 (by kernel_rfl) (by kernel_rfl)
    | exact bears_of Try.func67 (by kernel_rfl) (by kernel_rfl)
    | exact bears_of Try.func68 (by kernel_rfl) (by kernel_rfl)
    | exact bears_of Try.func69 (by kernel_rfl) (by kernel_rfl)
    | exact bears_of Try.func82 (by kernel_rfl) (by kernel_rfl)
theorem sorts (m : Nat) : Go.Proofs.AnyZI.SortsIn Try.prog renK0 Fence.wide m :=
  ⟨fun blk off cap ss W hH hblk hsz => callsIn_wide.2 (Go.Proofs.AnyM.slices_Sort_int laysS blk off cap ss W hH hblk hsz), fun p cap W => callsIn_wide.2 (Go.Proofs.AnyM.slices_Sort_int_none laysS p cap W)⟩
def renI : Ren := { f := fun n => match n with | 21 => 66 | 27 => 80 | 28 => 81 | 35 => 95 | 39 => 111 | n => n, t := fun n => match n with | 22 => 86 | n => n, g := fun n => n }
theorem laysI : Lays2.n21 Try.prog renI := by
  constructor
  all_goals first
    | kernel_rfl
    | (intro w; kernel_rfl)
def env : Env := { fn := tab.find, intr := fun k => bif Nat.beq k 56 then some (fun all s => keysD all 69 s) else bif Nat.beq k 55 then some (fun all s => sortedD 69 all s) else bif Nat.beq k 66 then some (insD) else none, lf := 100000 }
theorem env_ok : EnvOk Try.prog env := by
  refine ⟨by kernel_rfl, fun k df h => BT.find_all tab_ok h, fun k F h => ?_⟩
  have h : (bif Nat.beq k 56 then some (fun all s => keysD all 69 s) else bif Nat.beq k 55 then some (fun all s => sortedD 69 all s) else bif Nat.beq k 66 then some (insD) else none) = some F := h
  cases hb56 : Nat.beq k 56 with
  | true =>
    rw [hb56] at h
    simp only [cond_true, Option.some.injEq] at h
    subst h
    rw [Nat.eq_of_beq_eq_true hb56]
    exact keys_ok (ρ := renK0) laysK0 (fun X w => callFunc_run Try.func56 (by kernel_rfl) (by kernel_rfl) X w)
  | false =>
    rw [hb56] at h
    simp only [cond_false] at h
    cases hb55 : Nat.beq k 55 with
    | true =>
      rw [hb55] at h
      simp only [cond_true, Option.some.injEq] at h
      subst h
      rw [Nat.eq_of_beq_eq_true hb55]
      exact sorted_ok (ρ := renK0) laysO { laysK0 with } sorts (fun X w => callFunc_run Try.func68 (by kernel_rfl) (by kernel_rfl) X w) (fun X w => callFunc_run Try.func55 (by kernel_rfl) (by kernel_rfl) X w)
    | false =>
      rw [hb55] at h
      simp only [cond_false] at h
      cases hb66 : Nat.beq k 66 with
      | true =>
        rw [hb66] at h
        simp only [cond_true, Option.some.injEq] at h
        subst h
        rw [Nat.eq_of_beq_eq_true hb66]
        exact ins_ok (ρ := renI) laysI (fun X w => callFunc_run Try.func66 (by kernel_rfl) (by kernel_rfl) X w)
      | false =>
        rw [hb66] at h
        simp only [cond_false] at h
        cases h

theorem runsL : okOf (xcall env 200 (.func (.func 11) #[] #[]) [] s0) = true := by kernel_rfl
theorem livesL (W : World) : Calls Try.prog 11 #[] W fun e w' => e = .returned (.bool true) ∧ Kept W w' := top env_ok runsL (fun _ => .nil) W
noncomputable def env2 : Env := { fn := tab.find, intr := fun k => bif Nat.beq k 11 then some trueD else env.intr k, lf := 200000 }
theorem env2_ok : EnvOk Try.prog env2 := by
  refine ⟨env_ok.mixed, fun k df h => BT.find_all tab_ok h, fun k F h => ?_⟩
  have h : (bif Nat.beq k 11 then some trueD else env.intr k) = some F := h
  cases hb : Nat.beq k 11 with
  | true =>
    rw [hb] at h
    simp only [cond_true, Option.some.injEq] at h
    subst h
    rw [Nat.eq_of_beq_eq_true hb]
    exact trueD_ok livesL (fun X w => callFunc_run Try.func11 (by kernel_rfl) (by kernel_rfl) X w)
  | false =>
    rw [hb] at h
    simp only [cond_false] at h
    exact env_ok.intr k F h
theorem fns : Go.Dx.OvA.Fns env2 := by constructor <;> first | rfl | exact of_decide_eq_true rfl
theorem its : Go.Dx.OvA.Its env2 := by constructor <;> rfl
theorem cfns : Go.Dx.OvA.CFns env2 := by constructor <;> first | rfl | exact of_decide_eq_true rfl
theorem bfns : Go.Dx.OvA.BFns env2 := by constructor <;> first | rfl | exact of_decide_eq_true rfl
theorem pkfns : Go.Dx.OvA.PkFns env2 := by constructor <;> first | rfl | exact fun d => (dcall_ok env2_ok d).1
theorem r3fns : Go.Dx.OvA.R3Fns env2 := by constructor <;> rfl
theorem bafns : Go.Dx.OvA.BaseFns env2 := by constructor <;> rfl
theorem ovfns : Go.Dx.OvA.OvFns env2 := by constructor <;> first | rfl | exact fun d => (dcall_ok env2_ok d).1
theorem chfns : Go.Dx.OvA.ChFns env2 := by constructor <;> rfl
theorem nxfns : Go.Dx.OvA.NxFns env2 := by constructor <;> rfl
theorem cgfns : Go.Dx.OvA.CgFns env2 := by constructor <;> rfl
theorem walk (v0 : Value) (l0 : List (List Value)) {W : World} (m0 : RowIn W [.int .i64, .int .i64, .int .i64] v0 l0) (v1 : Value) (l1 : List (List Value)) (m1 : RowIn W [.int .i64, .int .i64, .int .i64] v1 l1) (a2 : Bool) : Calls Try.prog 5 #[v0, v1, .bool a2] W fun e w' => e = .returned (.bool true) ∧ Kept W w' := by
  have hl : ∀ {v : Value} {l : List (List Value)}, RowIn W [.int .i64, .int .i64, .int .i64] v l → ∀ x, x ∈ l → FitK [.int .i64, .int .i64, .int .i64] x := fun m => by
    rcases m with ⟨_, rfl⟩ | ⟨_, _, _, _, _, _, _, h, _⟩
    · exact fun _ h => (nomatch h)
    · exact h
  obtain ⟨s0', β0, v0', hv0, hR0, hn0, hro0, hG0, hin0⟩ := rowState (P := Try.prog) m0 rfl
  obtain ⟨s, β, v1', hv1, hle, hR, hn, hro, hG, hin1, X⟩ := rowAdd hR0 hn0 hro0 hG0 m1 rfl
  obtain ⟨⟨rv, s'⟩, hr, hq⟩ := Go.Dx.OvA.keepLaw cfns pkfns fns its bfns r3fns bafns ovfns chfns nxfns cgfns rfl rfl rfl rfl rfl hG (d := 0) (Go.Dx.OvA.InRow.keep hin0 X (by simp)) (hl m0) hin1 (hl m1)
  simp only at hq
  subst hq
  exact topM env2_ok hr (.cons (hv0.mono hle) (.cons hv1 (.cons (.bool _) .nil))) hR hn hro
end Go.Proofs.Ytlpjlananbjgcaa.overlayKeeps
