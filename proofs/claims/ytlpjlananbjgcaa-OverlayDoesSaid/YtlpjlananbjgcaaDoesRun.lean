/- OverlayDoes returns true for every input, and leaves what it was given as it was. -/
import Derived.Test.YtlpjlananbjgcaaRows
import Derived.Test.YtlpjlananbjgcaaDxOk
import Derived.Test.YtlpjlananbjgcaaDxRow
import Derived.Test.YtlpjlananbjgcaaDxSorted
import Derived.Shelf.SortM.Plain
import Derived.Shelf.SortM.SortNone
import Derived.Shelf.Lays2
import Derived.Test.YtlpjlananbjgcaaDxIns
import Derived.Test.YtlpjlananbjgcaaO1Last
import Derived.Test.YtlpjlananbjgcaaDxTwo
namespace Go.Proofs.Ytlpjlananbjgcaa.overlayDoes
open Go.ChangeShapes Go.WideShapes Go.ChangeAt Go.RowKit Go.Dx Go.Shelf
set_option linter.unusedVariables false
set_option linter.unusedSimpArgs false
set_option maxRecDepth 100000
set_option maxHeartbeats 4000000

/-! ### The evaluator's tables -/
inductive BT where
  | leaf
  | node (k : Nat) (d : DFunc) (l r : BT)
def BT.find : BT → Nat → Option DFunc
  | .leaf, _ => none
  | .node k d l r, x => bif Nat.beq x k then some d else bif Nat.blt x k then l.find x else r.find x
def BT.All (Q : Nat → DFunc → Prop) : BT → Prop
  | .leaf => True
  | .node k d l r => Q k d ∧ l.All Q ∧ r.All Q
theorem BT.find_all {Q : Nat → DFunc → Prop} : ∀ {t : BT} {x : Nat} {d : DFunc}, t.All Q → t.find x = some d → Q x d
  | .leaf, x, d, _, h => by cases h
  | .node k d0 l r, x, d, ⟨h1, h2, h3⟩, h => by
    unfold BT.find at h
    cases hb : Nat.beq x k with
    | true =>
      rw [hb] at h
      simp only [cond_true, Option.some.injEq] at h
      subst h
      rw [Nat.eq_of_beq_eq_true hb]; exact h1
    | false =>
      rw [hb] at h
      cases hl : Nat.blt x k with
      | true => rw [hl] at h; exact BT.find_all h2 h
      | false => rw [hl] at h; exact BT.find_all h3 h
def FnOk (k : Nat) (df : DFunc) : Prop := ∃ f, Try.prog.funcs[k]? = some f ∧ trFunc Try.prog f = some df
def tab : BT := (.node 47 d47 (.node 26 d26 (.node 16 d16 (.node 11 d11 (.node 9 d9 (.node 8 d8 (.node 4 d4 .leaf .leaf) .leaf) (.node 10 d10 .leaf .leaf)) (.node 14 d14 (.node 13 d13 (.node 12 d12 .leaf .leaf) .leaf) (.node 15 d15 .leaf .leaf))) (.node 21 d21 (.node 19 d19 (.node 18 d18 (.node 17 d17 .leaf .leaf) .leaf) (.node 20 d20 .leaf .leaf)) (.node 24 d24 (.node 23 d23 (.node 22 d22 .leaf .leaf) .leaf) (.node 25 d25 .leaf .leaf)))) (.node 37 d37 (.node 31 d31 (.node 29 d29 (.node 28 d28 (.node 27 d27 .leaf .leaf) .leaf) (.node 30 d30 .leaf .leaf)) (.node 35 d35 (.node 34 d34 (.node 33 d33 .leaf .leaf) .leaf) (.node 36 d36 .leaf .leaf))) (.node 42 d42 (.node 40 d40 (.node 39 d39 (.node 38 d38 .leaf .leaf) .leaf) (.node 41 d41 .leaf .leaf)) (.node 45 d45 (.node 44 d44 (.node 43 d43 .leaf .leaf) .leaf) (.node 46 d46 .leaf .leaf))))) (.node 71 d71 (.node 58 d58 (.node 52 d52 (.node 50 d50 (.node 49 d49 (.node 48 d48 .leaf .leaf) .leaf) (.node 51 d51 .leaf .leaf)) (.node 56 d56 (.node 55 d55 (.node 54 d54 .leaf .leaf) .leaf) (.node 57 d57 .leaf .leaf))) (.node 63 d63 (.node 61 d61 (.node 60 d60 (.node 59 d59 .leaf .leaf) .leaf) (.node 62 d62 .leaf .leaf)) (.node 66 d66 (.node 65 d65 (.node 64 d64 .leaf .leaf) .leaf) (.node 70 d70 .leaf .leaf)))) (.node 86 d86 (.node 76 d76 (.node 74 d74 (.node 73 d73 (.node 72 d72 .leaf .leaf) .leaf) (.node 75 d75 .leaf .leaf)) (.node 79 d79 (.node 78 d78 (.node 77 d77 .leaf .leaf) .leaf) (.node 85 d85 .leaf .leaf))) (.node 94 d94 (.node 90 d90 (.node 89 d89 (.node 87 d87 .leaf .leaf) .leaf) (.node 92 d92 .leaf .leaf)) (.node 108 d108 (.node 107 d107 (.node 106 d106 .leaf .leaf) .leaf) (.node 117 d117 .leaf .leaf))))))
theorem tab_ok : tab.All FnOk := ⟨⟨_, Try.func47, tr47⟩, ⟨⟨_, Try.func26, tr26⟩, ⟨⟨_, Try.func16, tr16⟩, ⟨⟨_, Try.func11, tr11⟩, ⟨⟨_, Try.func9, tr9⟩, ⟨⟨_, Try.func8, tr8⟩, ⟨⟨_, Try.func4, tr4⟩, trivial, trivial⟩, trivial⟩, ⟨⟨_, Try.func10, tr10⟩, trivial, trivial⟩⟩, ⟨⟨_, Try.func14, tr14⟩, ⟨⟨_, Try.func13, tr13⟩, ⟨⟨_, Try.func12, tr12⟩, trivial, trivial⟩, trivial⟩, ⟨⟨_, Try.func15, tr15⟩, trivial, trivial⟩⟩⟩, ⟨⟨_, Try.func21, tr21⟩, ⟨⟨_, Try.func19, tr19⟩, ⟨⟨_, Try.func18, tr18⟩, ⟨⟨_, Try.func17, tr17⟩, trivial, trivial⟩, trivial⟩, ⟨⟨_, Try.func20, tr20⟩, trivial, trivial⟩⟩, ⟨⟨_, Try.func24, tr24⟩, ⟨⟨_, Try.func23, tr23⟩, ⟨⟨_, Try.func22, tr22⟩, trivial, trivial⟩, trivial⟩, ⟨⟨_, Try.func25, tr25⟩, trivial, trivial⟩⟩⟩⟩, ⟨⟨_, Try.func37, tr37⟩, ⟨⟨_, Try.func31, tr31⟩, ⟨⟨_, Try.func29, tr29⟩, ⟨⟨_, Try.func28, tr28⟩, ⟨⟨_, Try.func27, tr27⟩, trivial, trivial⟩, trivial⟩, ⟨⟨_, Try.func30, tr30⟩, trivial, trivial⟩⟩, ⟨⟨_, Try.func35, tr35⟩, ⟨⟨_, Try.func34, tr34⟩, ⟨⟨_, Try.func33, tr33⟩, trivial, trivial⟩, trivial⟩, ⟨⟨_, Try.func36, tr36⟩, trivial, trivial⟩⟩⟩, ⟨⟨_, Try.func42, tr42⟩, ⟨⟨_, Try.func40, tr40⟩, ⟨⟨_, Try.func39, tr39⟩, ⟨⟨_, Try.func38, tr38⟩, trivial, trivial⟩, trivial⟩, ⟨⟨_, Try.func41, tr41⟩, trivial, trivial⟩⟩, ⟨⟨_, Try.func45, tr45⟩, ⟨⟨_, Try.func44, tr44⟩, ⟨⟨_, Try.func43, tr43⟩, trivial, trivial⟩, trivial⟩, ⟨⟨_, Try.func46, tr46⟩, trivial, trivial⟩⟩⟩⟩⟩, ⟨⟨_, Try.func71, tr71⟩, ⟨⟨_, Try.func58, tr58⟩, ⟨⟨_, Try.func52, tr52⟩, ⟨⟨_, Try.func50, tr50⟩, ⟨⟨_, Try.func49, tr49⟩, ⟨⟨_, Try.func48, tr48⟩, trivial, trivial⟩, trivial⟩, ⟨⟨_, Try.func51, tr51⟩, trivial, trivial⟩⟩, ⟨⟨_, Try.func56, tr56⟩, ⟨⟨_, Try.func55, tr55⟩, ⟨⟨_, Try.func54, tr54⟩, trivial, trivial⟩, trivial⟩, ⟨⟨_, Try.func57, tr57⟩, trivial, trivial⟩⟩⟩, ⟨⟨_, Try.func63, tr63⟩, ⟨⟨_, Try.func61, tr61⟩, ⟨⟨_, Try.func60, tr60⟩, ⟨⟨_, Try.func59, tr59⟩, trivial, trivial⟩, trivial⟩, ⟨⟨_, Try.func62, tr62⟩, trivial, trivial⟩⟩, ⟨⟨_, Try.func66, tr66⟩, ⟨⟨_, Try.func65, tr65⟩, ⟨⟨_, Try.func64, tr64⟩, trivial, trivial⟩, trivial⟩, ⟨⟨_, Try.func70, tr70⟩, trivial, trivial⟩⟩⟩⟩, ⟨⟨_, Try.func86, tr86⟩, ⟨⟨_, Try.func76, tr76⟩, ⟨⟨_, Try.func74, tr74⟩, ⟨⟨_, Try.func73, tr73⟩, ⟨⟨_, Try.func72, tr72⟩, trivial, trivial⟩, trivial⟩, ⟨⟨_, Try.func75, tr75⟩, trivial, trivial⟩⟩, ⟨⟨_, Try.func79, tr79⟩, ⟨⟨_, Try.func78, tr78⟩, ⟨⟨_, Try.func77, tr77⟩, trivial, trivial⟩, trivial⟩, ⟨⟨_, Try.func85, tr85⟩, trivial, trivial⟩⟩⟩, ⟨⟨_, Try.func94, tr94⟩, ⟨⟨_, Try.func90, tr90⟩, ⟨⟨_, Try.func89, tr89⟩, ⟨⟨_, Try.func87, tr87⟩, trivial, trivial⟩, trivial⟩, ⟨⟨_, Try.func92, tr92⟩, trivial, trivial⟩⟩, ⟨⟨_, Try.func108, tr108⟩, ⟨⟨_, Try.func107, tr107⟩, ⟨⟨_, Try.func106, tr106⟩, trivial, trivial⟩, trivial⟩, ⟨⟨_, Try.func117, tr117⟩, trivial, trivial⟩⟩⟩⟩⟩⟩

theorem bears_of {P : Program} {f : FuncId} {B g : Func} (hf : P.funcs[f]? = some g) (hn : (g.name == "runtime.NumGoroutine") = false) (h : { B with name := g.name } = g) : Go.Proofs.Bears P f B := ⟨g.name, hn, by rw [h]; exact hf⟩
def renS : Ren := { f := fun n => match n with | 5 => 68 | 7 => 83 | 8 => 84 | 10 => 96 | 11 => 97 | 12 => 98 | 13 => 99 | 14 => 100 | 15 => 101 | 16 => 78 | 17 => 102 | 18 => 103 | 19 => 104 | 20 => 105 | 30 => 112 | 31 => 113 | 32 => 114 | 33 => 115 | 34 => 116 | 35 => 94 | 40 => 119 | n => n, t := fun n => match n with | 0 => 0 | 3 => 3 | 4 => 4 | 5 => 5 | 9 => 9 | 22 => 86 | 23 => 86 | 25 => 3 | 32 => 131 | 35 => 169 | 36 => 170 | 41 => 25 | 44 => 121 | 46 => 125 | 53 => 181 | 57 => 185 | 63 => 190 | 64 => 191 | n => n, g := fun n => n }
theorem laysS : SlLaysM.n5 Try.prog renS := by
  constructor
  all_goals first
    | kernel_rfl
    | (intro w; kernel_rfl)
    | exact bears_of Try.func68 (by kernel_rfl) (by kernel_rfl)
    | exact bears_of Try.func78 (by kernel_rfl) (by kernel_rfl)
    | exact bears_of Try.func83 (by kernel_rfl) (by kernel_rfl)
    | exact bears_of Try.func84 (by kernel_rfl) (by kernel_rfl)
    | exact bears_of Try.func94 (by kernel_rfl) (by kernel_rfl)
    | exact bears_of Try.func96 (by kernel_rfl) (by kernel_rfl)
    | exact bears_of Try.func97 (by kernel_rfl) (by kernel_rfl)
    | exact bears_of Try.func98 (by kernel_rfl) (by kernel_rfl)
    | exact bears_of Try.func99 (by kernel_rfl) (by kernel_rfl)
    | exact bears_of Try.func100 (by kernel_rfl) (by kernel_rfl)
    | exact bears_of Try.func101 (by kernel_rfl) (by kernel_rfl)
    | exact bears_of Try.func102 (by kernel_rfl) (by kernel_rfl)
    | exact bears_of Try.func103 (by kernel_rfl) (by kernel_rfl)
    | exact bears_of Try.func104 (by kernel_rfl) (by kernel_rfl)
    | exact bears_of Try.func105 (by kernel_rfl) (by kernel_rfl)
    | exact bears_of Try.func112 (by kernel_rfl) (by kernel_rfl)
    | exact bears_of Try.func113 (by kernel_rfl) (by kernel_rfl)
    | exact bears_of Try.func114 (by kernel_rfl) (by kernel_rfl)
    | exact bears_of Try.func115 (by kernel_rfl) (by kernel_rfl)
    | exact bears_of Try.func116 (by kernel_rfl) (by kernel_rfl)
    | exact bears_of Try.func119 (by kernel_rfl) (by kernel_rfl)
def renK0 : Ren := { f := fun n => match n with | 6 => 55 | 7 => 56 | 8 => 67 | 9 => 68 | 10 => 69 | 11 => 82 | n => n, t := fun n => match n with | 0 => 0 | 3 => 64 | 4 => 4 | 5 => 5 | 9 => 9 | 23 => 60 | 24 => 86 | 26 => 3 | 27 => 96 | 28 => 97 | 33 => 32 | 37 => 131 | 39 => 169 | 40 => 170 | 45 => 25 | 48 => 121 | 50 => 125 | 51 => 181 | 55 => 185 | 57 => 190 | 58 => 191 | n => n, g := fun n => n }
theorem laysK0 : SlLaysZI.n7 Try.prog renK0 := by
  constructor
  all_goals first
    | kernel_rfl
    | (intro w; kernel_rfl)
    | exact bears_of Try.func55 (by kernel_rfl) (by kernel_rfl)
    | exact bears_of Try.func56 (by kernel_rfl) (by kernel_rfl)
    | exact bears_of Try.func67 (by kernel_rfl) (by kernel_rfl)
    | exact bears_of Try.func68 (by kernel_rfl) (by kernel_rfl)
    | exact bears_of Try.func69 (by kernel_rfl) (by kernel_rfl)
    | exact bears_of Try.func82 (by kernel_rfl) (by kernel_rfl)
theorem laysO : SlLaysZI.n6 Try.prog renK0 := by
  constructor
  all_goals first
    | kernel_rfl
    | (intro w; kernel_rfl)
    | exact bears_of Try.func55 (by kernel_rfl) (by kernel_rfl)
    | exact bears_of Try.func56 (by kernel_rfl) (by kernel_rfl)
    | exact bears_of Try.func67 (by kernel_rfl) (by kernel_rfl)
    | exact bears_of Try.func68 (by kernel_rfl) (by kernel_rfl)
    | exact bears_of Try.func69 (by kernel_rfl) (by kernel_rfl)
    | exact bears_of Try.func82 (by kernel_rfl) (by kernel_rfl)
theorem sorts (m : Nat) : Go.Proofs.AnyZI.SortsIn Try.prog renK0 Fence.wide m :=
  ⟨fun blk off cap ss W hH hblk hsz => callsIn_wide.2 (Go.Proofs.AnyM.slices_Sort_int laysS blk off cap ss W hH hblk hsz), fun p cap W => callsIn_wide.2 (Go.Proofs.AnyM.slices_Sort_int_none laysS p cap W)⟩
def renI : Ren := { f := fun n => match n with | 21 => 66 | 27 => 80 | 28 => 81 | 35 => 95 | 39 => 111 | n => n, t := fun n => match n with | 22 => 86 | n => n, g := fun n => n }
theorem laysI : Lays2.n21 Try.prog renI := by
  constructor
  all_goals first
    | kernel_rfl
    | (intro w; kernel_rfl)
def env : Env := { fn := tab.find, intr := fun k => bif Nat.beq k 56 then some (fun all s => keysD all 69 s) else bif Nat.beq k 55 then some (fun all s => sortedD 69 all s) else bif Nat.beq k 66 then some (insD) else none, lf := 100000 }
theorem env_ok : EnvOk Try.prog env := by
  refine ⟨by kernel_rfl, fun k df h => BT.find_all tab_ok h, fun k F h => ?_⟩
  have h : (bif Nat.beq k 56 then some (fun all s => keysD all 69 s) else bif Nat.beq k 55 then some (fun all s => sortedD 69 all s) else bif Nat.beq k 66 then some (insD) else none) = some F := h
  cases hb56 : Nat.beq k 56 with
  | true =>
    rw [hb56] at h
    simp only [cond_true, Option.some.injEq] at h
    subst h
    rw [Nat.eq_of_beq_eq_true hb56]
    exact keys_ok (ρ := renK0) laysK0 (fun X w => callFunc_run Try.func56 (by kernel_rfl) (by kernel_rfl) X w)
  | false =>
    rw [hb56] at h
    simp only [cond_false] at h
    cases hb55 : Nat.beq k 55 with
    | true =>
      rw [hb55] at h
      simp only [cond_true, Option.some.injEq] at h
      subst h
      rw [Nat.eq_of_beq_eq_true hb55]
      exact sorted_ok (ρ := renK0) laysO { laysK0 with } sorts (fun X w => callFunc_run Try.func68 (by kernel_rfl) (by kernel_rfl) X w) (fun X w => callFunc_run Try.func55 (by kernel_rfl) (by kernel_rfl) X w)
    | false =>
      rw [hb55] at h
      simp only [cond_false] at h
      cases hb66 : Nat.beq k 66 with
      | true =>
        rw [hb66] at h
        simp only [cond_true, Option.some.injEq] at h
        subst h
        rw [Nat.eq_of_beq_eq_true hb66]
        exact ins_ok (ρ := renI) laysI (fun X w => callFunc_run Try.func66 (by kernel_rfl) (by kernel_rfl) X w)
      | false =>
        rw [hb66] at h
        simp only [cond_false] at h
        cases h

theorem runsL : okOf (xcall env 200 (.func (.func 11) #[] #[]) [] s0) = true := by kernel_rfl
theorem livesL (W : World) : Calls Try.prog 11 #[] W fun e w' => e = .returned (.bool true) ∧ Kept W w' := top env_ok runsL (fun _ => .nil) W
noncomputable def env2 (lf : Nat) : Env := { fn := tab.find, intr := fun k => bif Nat.beq k 11 then some trueD else env.intr k, lf := lf }
theorem env2_ok (lf : Nat) : EnvOk Try.prog (env2 lf) := by
  refine ⟨env_ok.mixed, fun k df h => BT.find_all tab_ok h, fun k F h => ?_⟩
  have h : (bif Nat.beq k 11 then some trueD else env.intr k) = some F := h
  cases hb : Nat.beq k 11 with
  | true =>
    rw [hb] at h
    simp only [cond_true, Option.some.injEq] at h
    subst h
    rw [Nat.eq_of_beq_eq_true hb]
    exact trueD_ok livesL (fun X w => callFunc_run Try.func11 (by kernel_rfl) (by kernel_rfl) X w)
  | false =>
    rw [hb] at h
    simp only [cond_false] at h
    exact env_ok.intr k F h
variable {lf : Nat}
theorem fns (h : 10000 ≤ lf) : Go.Dx.OvA.Fns (env2 lf) := by constructor <;> first | rfl | exact h | exact fun d => (dcall_ok (env2_ok lf) d).1
theorem r4fns (h : 10000 ≤ lf) : Go.Dx.OvA.R4Fns (env2 lf) := by constructor <;> first | rfl | exact h | exact fun d => (dcall_ok (env2_ok lf) d).1
theorem cgfns (h : 10000 ≤ lf) : Go.Dx.OvA.CgFns (env2 lf) := by constructor <;> first | rfl | exact h | exact fun d => (dcall_ok (env2_ok lf) d).1
theorem its : Go.Dx.OvA.Its (env2 lf) := by constructor <;> first | rfl | exact fun d => (dcall_ok (env2_ok lf) d).1
theorem r3fns : Go.Dx.OvA.R3Fns (env2 lf) := by constructor <;> first | rfl | exact fun d => (dcall_ok (env2_ok lf) d).1
theorem bafns : Go.Dx.OvA.BaseFns (env2 lf) := by constructor <;> first | rfl | exact fun d => (dcall_ok (env2_ok lf) d).1
theorem ovfns : Go.Dx.OvA.OvFns (env2 lf) := by constructor <;> first | rfl | exact fun d => (dcall_ok (env2_ok lf) d).1
theorem chfns : Go.Dx.OvA.ChFns (env2 lf) := by constructor <;> first | rfl | exact fun d => (dcall_ok (env2_ok lf) d).1
theorem nxfns : Go.Dx.OvA.NxFns (env2 lf) := by constructor <;> first | rfl | exact fun d => (dcall_ok (env2_ok lf) d).1
theorem r3fns2 : Go.Dx.OvA.R3Fns2 (env2 lf) := by constructor <;> first | rfl | exact fun d => (dcall_ok (env2_ok lf) d).1
theorem walk (a0 : Int) (v1 : Value) (l1 : List (List Value)) {W : World} (m1 : RowIn W [.int .i64, .int .i64, .int .i64] v1 l1) (v2 : Value) (l2 : List (List Value)) (m2 : RowIn W [.int .i64, .int .i64, .int .i64] v2 l2) : Calls Try.prog 4 #[.int .i64 a0, v1, v2] W fun e w' => e = .returned (.bool true) ∧ Kept W w' := by
  have hl : ∀ {v : Value} {l : List (List Value)}, RowIn W [.int .i64, .int .i64, .int .i64] v l → ∀ x, x ∈ l → FitK [.int .i64, .int .i64, .int .i64] x := fun m => by
    rcases m with ⟨_, rfl⟩ | ⟨_, _, _, _, _, _, _, h, _⟩
    · exact fun _ h => (nomatch h)
    · exact h
  have hmax : l2.length ≤ 9223372036854775807 := by
    rcases m2 with ⟨_, rfl⟩ | ⟨_, _, c, _, h1, h2, _⟩
    · simp
    · exact Nat.le_trans h1 h2
  obtain ⟨s0', β0, v1', hv1, hR0, hn0, hro0, hG0, hin0⟩ := rowState (P := Try.prog) m1 rfl
  obtain ⟨s, β, v2', hv2, hle, hR, hn, hro, hG, hin1, X⟩ := rowAdd hR0 hn0 hro0 hG0 m2 rfl
  have h : 10000 ≤ l2.length + 20000 := by omega
  obtain ⟨⟨rv, s'⟩, hr, hq⟩ := Go.Dx.OvA.doesLaw (fns h) its r3fns bafns ovfns chfns nxfns r3fns2 (r4fns h) (cgfns h) (by rw [← Go.Dx.OvA.d4x_eq]; rfl) rfl rfl hG (d := 0) (room := a0) (Go.Dx.OvA.InRow.keep hin0 X (by simp)) (hl m1) hin1 (hl m2) (show l2.length < l2.length + 20000 by omega) (Int.ofNat_le.2 hmax)
  simp only at hq
  subst hq
  exact topM (env2_ok _) hr (.cons (.int _ _) (.cons (hv1.mono hle) (.cons hv2 .nil))) hR hn hro
end Go.Proofs.Ytlpjlananbjgcaa.overlayDoes
