/- StoreDoes returns true for every input, and leaves what it was given as it was. -/
import Derived.Test.YtnmajohhfcgddaaRows
import Derived.Test.YtnmajohhfcgddaaDxSk
import Derived.Test.YtnmajohhfcgddaaDxRow
import Derived.Shelf.Lays2
import Derived.Test.YtnmajohhfcgddaaDxIns
import Derived.Test.YtnmajohhfcgddaaS1Sd
import Derived.Test.YtnmajohhfcgddaaDxTopM
namespace Go.Proofs.Ytnmajohhfcgddaa.storeDoes
open Go.ChangeShapes Go.WideShapes Go.ChangeAt Go.RowKit Go.Dx Go.Shelf
set_option linter.unusedVariables false
set_option linter.unusedSimpArgs false
set_option maxRecDepth 100000
set_option maxHeartbeats 4000000

/-! ### The evaluator's tables -/
inductive BT where
  | leaf
  | node (k : Nat) (d : Zc) (l r : BT)
def BT.find : BT → Nat → Option Zc
  | .leaf, _ => none
  | .node k d l r, x => bif Nat.beq x k then some d else bif Nat.blt x k then l.find x else r.find x
def BT.All (Q : Nat → Zc → Prop) : BT → Prop
  | .leaf => True
  | .node k d l r => Q k d ∧ l.All Q ∧ r.All Q
theorem BT.find_all {Q : Nat → Zc → Prop} : ∀ {t : BT} {x : Nat} {d : Zc}, t.All Q → t.find x = some d → Q x d
  | .leaf, x, d, _, h => by cases h
  | .node k d0 l r, x, d, ⟨h1, h2, h3⟩, h => by
    unfold BT.find at h
    cases hb : Nat.beq x k with
    | true =>
      rw [hb] at h
      simp only [cond_true, Option.some.injEq] at h
      subst h
      rw [Nat.eq_of_beq_eq_true hb]; exact h1
    | false =>
      rw [hb] at h
      cases hl : Nat.blt x k with
      | true => rw [hl] at h; exact BT.find_all h2 h
      | false => rw [hl] at h; exact BT.find_all h3 h
def FnOk (k : Nat) (df : Zc) : Prop := ∃ f, Try.prog.funcs[k]? = some f ∧ z9 Try.prog f = some df
def tab : BT := (.node 55 d55 (.node 30 d30 (.node 19 d19 (.node 13 d13 (.node 10 d10 (.node 9 d9 (.node 8 d8 .leaf .leaf) .leaf) (.node 12 d12 (.node 11 d11 .leaf .leaf) .leaf)) (.node 17 d17 (.node 15 d15 (.node 14 d14 .leaf .leaf) .leaf) (.node 18 d18 .leaf .leaf))) (.node 25 d25 (.node 22 d22 (.node 21 d21 (.node 20 d20 .leaf .leaf) .leaf) (.node 24 d24 (.node 23 d23 .leaf .leaf) .leaf)) (.node 28 d28 (.node 27 d27 (.node 26 d26 .leaf .leaf) .leaf) (.node 29 d29 .leaf .leaf)))) (.node 44 d44 (.node 36 d36 (.node 33 d33 (.node 32 d32 (.node 31 d31 .leaf .leaf) .leaf) (.node 35 d35 (.node 34 d34 .leaf .leaf) .leaf)) (.node 42 d42 (.node 38 d38 (.node 37 d37 .leaf .leaf) .leaf) (.node 43 d43 .leaf .leaf))) (.node 50 d50 (.node 47 d47 (.node 46 d46 (.node 45 d45 .leaf .leaf) .leaf) (.node 49 d49 (.node 48 d48 .leaf .leaf) .leaf)) (.node 53 d53 (.node 52 d52 (.node 51 d51 .leaf .leaf) .leaf) (.node 54 d54 .leaf .leaf))))) (.node 80 d80 (.node 68 d68 (.node 63 d63 (.node 58 d58 (.node 57 d57 (.node 56 d56 .leaf .leaf) .leaf) (.node 60 d60 (.node 59 d59 .leaf .leaf) .leaf)) (.node 66 d66 (.node 65 d65 (.node 64 d64 .leaf .leaf) .leaf) (.node 67 d67 .leaf .leaf))) (.node 75 d75 (.node 71 d71 (.node 70 d70 (.node 69 d69 .leaf .leaf) .leaf) (.node 73 d73 (.node 72 d72 .leaf .leaf) .leaf)) (.node 78 d78 (.node 77 d77 (.node 76 d76 .leaf .leaf) .leaf) (.node 79 d79 .leaf .leaf)))) (.node 92 d92 (.node 87 d87 (.node 84 d84 (.node 82 d82 (.node 81 d81 .leaf .leaf) .leaf) (.node 86 d86 (.node 85 d85 .leaf .leaf) .leaf)) (.node 90 d90 (.node 89 d89 (.node 88 d88 .leaf .leaf) .leaf) (.node 91 d91 .leaf .leaf))) (.node 98 d98 (.node 95 d95 (.node 94 d94 (.node 93 d93 .leaf .leaf) .leaf) (.node 97 d97 (.node 96 d96 .leaf .leaf) .leaf)) (.node 101 d101 (.node 100 d100 (.node 99 d99 .leaf .leaf) .leaf) (.node 102 d102 .leaf .leaf))))))
theorem tab_ok : tab.All FnOk := ⟨⟨_, Try.func55, tr55⟩, ⟨⟨_, Try.func30, tr30⟩, ⟨⟨_, Try.func19, tr19⟩, ⟨⟨_, Try.func13, tr13⟩, ⟨⟨_, Try.func10, tr10⟩, ⟨⟨_, Try.func9, tr9⟩, ⟨⟨_, Try.func8, tr8⟩, trivial, trivial⟩, trivial⟩, ⟨⟨_, Try.func12, tr12⟩, ⟨⟨_, Try.func11, tr11⟩, trivial, trivial⟩, trivial⟩⟩, ⟨⟨_, Try.func17, tr17⟩, ⟨⟨_, Try.func15, tr15⟩, ⟨⟨_, Try.func14, tr14⟩, trivial, trivial⟩, trivial⟩, ⟨⟨_, Try.func18, tr18⟩, trivial, trivial⟩⟩⟩, ⟨⟨_, Try.func25, tr25⟩, ⟨⟨_, Try.func22, tr22⟩, ⟨⟨_, Try.func21, tr21⟩, ⟨⟨_, Try.func20, tr20⟩, trivial, trivial⟩, trivial⟩, ⟨⟨_, Try.func24, tr24⟩, ⟨⟨_, Try.func23, tr23⟩, trivial, trivial⟩, trivial⟩⟩, ⟨⟨_, Try.func28, tr28⟩, ⟨⟨_, Try.func27, tr27⟩, ⟨⟨_, Try.func26, tr26⟩, trivial, trivial⟩, trivial⟩, ⟨⟨_, Try.func29, tr29⟩, trivial, trivial⟩⟩⟩⟩, ⟨⟨_, Try.func44, tr44⟩, ⟨⟨_, Try.func36, tr36⟩, ⟨⟨_, Try.func33, tr33⟩, ⟨⟨_, Try.func32, tr32⟩, ⟨⟨_, Try.func31, tr31⟩, trivial, trivial⟩, trivial⟩, ⟨⟨_, Try.func35, tr35⟩, ⟨⟨_, Try.func34, tr34⟩, trivial, trivial⟩, trivial⟩⟩, ⟨⟨_, Try.func42, tr42⟩, ⟨⟨_, Try.func38, tr38⟩, ⟨⟨_, Try.func37, tr37⟩, trivial, trivial⟩, trivial⟩, ⟨⟨_, Try.func43, tr43⟩, trivial, trivial⟩⟩⟩, ⟨⟨_, Try.func50, tr50⟩, ⟨⟨_, Try.func47, tr47⟩, ⟨⟨_, Try.func46, tr46⟩, ⟨⟨_, Try.func45, tr45⟩, trivial, trivial⟩, trivial⟩, ⟨⟨_, Try.func49, tr49⟩, ⟨⟨_, Try.func48, tr48⟩, trivial, trivial⟩, trivial⟩⟩, ⟨⟨_, Try.func53, tr53⟩, ⟨⟨_, Try.func52, tr52⟩, ⟨⟨_, Try.func51, tr51⟩, trivial, trivial⟩, trivial⟩, ⟨⟨_, Try.func54, tr54⟩, trivial, trivial⟩⟩⟩⟩⟩, ⟨⟨_, Try.func80, tr80⟩, ⟨⟨_, Try.func68, tr68⟩, ⟨⟨_, Try.func63, tr63⟩, ⟨⟨_, Try.func58, tr58⟩, ⟨⟨_, Try.func57, tr57⟩, ⟨⟨_, Try.func56, tr56⟩, trivial, trivial⟩, trivial⟩, ⟨⟨_, Try.func60, tr60⟩, ⟨⟨_, Try.func59, tr59⟩, trivial, trivial⟩, trivial⟩⟩, ⟨⟨_, Try.func66, tr66⟩, ⟨⟨_, Try.func65, tr65⟩, ⟨⟨_, Try.func64, tr64⟩, trivial, trivial⟩, trivial⟩, ⟨⟨_, Try.func67, tr67⟩, trivial, trivial⟩⟩⟩, ⟨⟨_, Try.func75, tr75⟩, ⟨⟨_, Try.func71, tr71⟩, ⟨⟨_, Try.func70, tr70⟩, ⟨⟨_, Try.func69, tr69⟩, trivial, trivial⟩, trivial⟩, ⟨⟨_, Try.func73, tr73⟩, ⟨⟨_, Try.func72, tr72⟩, trivial, trivial⟩, trivial⟩⟩, ⟨⟨_, Try.func78, tr78⟩, ⟨⟨_, Try.func77, tr77⟩, ⟨⟨_, Try.func76, tr76⟩, trivial, trivial⟩, trivial⟩, ⟨⟨_, Try.func79, tr79⟩, trivial, trivial⟩⟩⟩⟩, ⟨⟨_, Try.func92, tr92⟩, ⟨⟨_, Try.func87, tr87⟩, ⟨⟨_, Try.func84, tr84⟩, ⟨⟨_, Try.func82, tr82⟩, ⟨⟨_, Try.func81, tr81⟩, trivial, trivial⟩, trivial⟩, ⟨⟨_, Try.func86, tr86⟩, ⟨⟨_, Try.func85, tr85⟩, trivial, trivial⟩, trivial⟩⟩, ⟨⟨_, Try.func90, tr90⟩, ⟨⟨_, Try.func89, tr89⟩, ⟨⟨_, Try.func88, tr88⟩, trivial, trivial⟩, trivial⟩, ⟨⟨_, Try.func91, tr91⟩, trivial, trivial⟩⟩⟩, ⟨⟨_, Try.func98, tr98⟩, ⟨⟨_, Try.func95, tr95⟩, ⟨⟨_, Try.func94, tr94⟩, ⟨⟨_, Try.func93, tr93⟩, trivial, trivial⟩, trivial⟩, ⟨⟨_, Try.func97, tr97⟩, ⟨⟨_, Try.func96, tr96⟩, trivial, trivial⟩, trivial⟩⟩, ⟨⟨_, Try.func101, tr101⟩, ⟨⟨_, Try.func100, tr100⟩, ⟨⟨_, Try.func99, tr99⟩, trivial, trivial⟩, trivial⟩, ⟨⟨_, Try.func102, tr102⟩, trivial, trivial⟩⟩⟩⟩⟩⟩

def ren : Ren := { f := fun n => if n = 21 then 53 else if n = 27 then 74 else if n = 28 then 75 else if n = 35 then 91 else if n = 39 then 99 else n, t := fun n => if n = 22 then 34 else n, g := fun n => n }
theorem lays : Lays2.n21 Try.prog ren := by
  constructor
  all_goals first | kernel_rfl | (intro w; kernel_rfl)
theorem body53 (X : Array Value) (w : World) : (callFunc 53 X).run Try.prog w = .ok (.enter 53 X) w := KO Try.func53 (by kernel_rfl) (by kernel_rfl) X w
def env : Env := { fn := tab.find, intr := fun k => bif Nat.beq k 53 then some KH else none, lf := 100000 }
theorem env_ok : TB Try.prog env := by
  refine ⟨by kernel_rfl, fun k df h => BT.find_all tab_ok h, fun k F h => ?_⟩
  have h : (bif Nat.beq k 53 then some KH else none) = some F := h
  cases hb : Nat.beq k 53 with
  | false => rw [hb] at h; cases h
  | true =>
    rw [hb] at h
    simp only [cond_true, Option.some.injEq] at h
    subst h
    rw [Nat.eq_of_beq_eq_true hb]
    exact FT lays body53

def env2 (lf : Nat) : Env := { fn := tab.find, intr := env.intr, lf := lf }
theorem env2_ok (lf : Nat) : TB Try.prog (env2 lf) := ⟨env_ok.mixed, fun k df h => BT.find_all tab_ok h, fun k F h => env_ok.intr k F h⟩
variable {lf : Nat}
theorem cfns (h : 80000 ≤ lf) : Go.Dx.StA.Ch (env2 lf) := by constructor <;> first | rfl | exact (by show 10000 ≤ lf; omega) | exact fun d => (Yw (env2_ok lf) d).1
theorem gfns (h : 80000 ≤ lf) : Go.Dx.StA.R8 (env2 lf) := by constructor <;> first | rfl | exact (by show 10000 ≤ lf; omega) | exact fun d => (Yw (env2_ok lf) d).1
theorem pkfns (h : 80000 ≤ lf) : Go.Dx.StA.Fu (env2 lf) := by constructor <;> first | rfl | exact (by show 10000 ≤ lf; omega) | exact fun d => (Yw (env2_ok lf) d).1
theorem upfns (h : 80000 ≤ lf) : Go.Dx.StA.Tx (env2 lf) := by constructor <;> first | rfl | exact (by show 10000 ≤ lf; omega) | exact fun d => (Yw (env2_ok lf) d).1
theorem fns (h : 80000 ≤ lf) : Go.Dx.StA.Fns (env2 lf) := by constructor <;> first | rfl | exact (by show 10000 ≤ lf; omega) | exact fun d => (Yw (env2_ok lf) d).1
theorem its (h : 80000 ≤ lf) : Go.Dx.StA.Its (env2 lf) := by constructor <;> first | rfl | exact (by show 10000 ≤ lf; omega) | exact fun d => (Yw (env2_ok lf) d).1
theorem bfns (h : 80000 ≤ lf) : Go.Dx.StA.Ni (env2 lf) := by constructor <;> first | rfl | exact (by show 10000 ≤ lf; omega) | exact fun d => (Yw (env2_ok lf) d).1
theorem rofns (h : 80000 ≤ lf) : Go.Dx.StA.KV (env2 lf) := by constructor <;> first | rfl | exact (by show 10000 ≤ lf; omega) | exact fun d => (Yw (env2_ok lf) d).1
theorem rsfns (h : 80000 ≤ lf) : Go.Dx.StA.Fs (env2 lf) := by constructor <;> first | rfl | exact (by show 10000 ≤ lf; omega) | exact fun d => (Yw (env2_ok lf) d).1
theorem dgfns (h : 80000 ≤ lf) : Go.Dx.StA.Pb (env2 lf) := by constructor <;> first | rfl | exact (by show 10000 ≤ lf; omega) | exact fun d => (Yw (env2_ok lf) d).1
theorem r3fns (h : 80000 ≤ lf) : Go.Dx.StA.Tz (env2 lf) := by constructor <;> first | rfl | exact (by show 10000 ≤ lf; omega) | exact fun d => (Yw (env2_ok lf) d).1
theorem r3fns2 (h : 80000 ≤ lf) : Go.Dx.StA.CS (env2 lf) := by constructor <;> first | rfl | exact (by show 10000 ≤ lf; omega) | exact fun d => (Yw (env2_ok lf) d).1
theorem fkfns (h : 80000 ≤ lf) : Go.Dx.StA.R9 (env2 lf) := by constructor <;> first | rfl | exact (by show 10000 ≤ lf; omega) | exact fun d => (Yw (env2_ok lf) d).1
theorem lkfns (h : 80000 ≤ lf) : Go.Dx.StA.R6 (env2 lf) := by constructor <;> first | rfl | exact (by show 10000 ≤ lf; omega) | exact fun d => (Yw (env2_ok lf) d).1
theorem rgfns (h : 80000 ≤ lf) : Go.Dx.StA.R0 (env2 lf) := by constructor <;> first | rfl | exact (by show 10000 ≤ lf; omega) | exact fun d => (Yw (env2_ok lf) d).1
theorem walk (a0 : Int) (v1 : Value) (l1 : List (List Value)) {W : World} (m1 : RZ W [.int .i64, .int .i64, .int .i64] v1 l1) : Calls Try.prog 8 #[.int .i64 a0, v1] W fun e w' => e = .returned (.bool true) ∧ Kept W w' := by
  have hl : ∀ x, x ∈ l1 → Yz [.int .i64, .int .i64, .int .i64] x := by
    rcases m1 with ⟨_, rfl⟩ | ⟨_, _, _, _, _, _, _, h, _⟩
    · exact fun _ h => (nomatch h)
    · exact h
  have hmax : l1.length ≤ 9223372036854775807 := by
    rcases m1 with ⟨_, rfl⟩ | ⟨_, _, c, _, h1, h2, _⟩
    · simp
    · exact Nat.le_trans h1 h2
  obtain ⟨s, β, v', hv, hR, hn, hro, hG, hin⟩ := SB (P := Try.prog) m1 rfl
  have h : 80000 ≤ l1.length + 80000 := by omega
  obtain ⟨⟨rv, s'⟩, hr, hq⟩ := Go.Dx.StA.Me (cfns h) (gfns h) (pkfns h) (upfns h) (fns h) (its h) (bfns h) (rofns h) (rsfns h) (dgfns h) (r3fns h) (r3fns2 h) (fkfns h) (lkfns h) (rgfns h) (by rw [← Go.Dx.StA.MZ]; rfl) rfl rfl rfl hG (d := 0) (room := a0) hin hl (show l1.length < l1.length + 80000 by omega) (show 70000 < l1.length + 80000 by omega) (Int.ofNat_le.2 hmax)
  simp only at hq
  subst hq
  exact MR (env2_ok _) hr (.cons (.int _ _) (.cons hv .nil)) hR hn hro
end Go.Proofs.Ytnmajohhfcgddaa.storeDoes
