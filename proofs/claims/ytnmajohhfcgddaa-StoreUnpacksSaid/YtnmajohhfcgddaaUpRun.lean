/- StoreUnpacks returns true for every input, and leaves what it was given as it was. -/
import Derived.Test.YtnmajohhfcgddaaRows
import Derived.Test.YtnmajohhfcgddaaDxSk
import Derived.Test.YtnmajohhfcgddaaDxRow
import Derived.Shelf.Lays2
import Derived.Test.YtnmajohhfcgddaaDxIns
import Derived.Test.YtnmajohhfcgddaaS1All
namespace Go.Proofs.Ytnmajohhfcgddaa.storeUnpacks
open Go.ChangeShapes Go.WideShapes Go.ChangeAt Go.RowKit Go.Dx Go.Shelf
set_option linter.unusedVariables false
set_option linter.unusedSimpArgs false
set_option maxRecDepth 100000
set_option maxHeartbeats 4000000

/-! ### The evaluator's tables -/
inductive BT where
  | leaf
  | node (k : Nat) (d : DFunc) (l r : BT)
def BT.find : BT → Nat → Option DFunc
  | .leaf, _ => none
  | .node k d l r, x => bif Nat.beq x k then some d else bif Nat.blt x k then l.find x else r.find x
def BT.All (Q : Nat → DFunc → Prop) : BT → Prop
  | .leaf => True
  | .node k d l r => Q k d ∧ l.All Q ∧ r.All Q
theorem BT.find_all {Q : Nat → DFunc → Prop} : ∀ {t : BT} {x : Nat} {d : DFunc}, t.All Q → t.find x = some d → Q x d
  | .leaf, x, d, _, h => by cases h
  | .node k d0 l r, x, d, ⟨h1, h2, h3⟩, h => by
    unfold BT.find at h
    cases hb : Nat.beq x k with
    | true =>
      rw [hb] at h
      simp only [cond_true, Option.some.injEq] at h
      subst h
      rw [Nat.eq_of_beq_eq_true hb]; exact h1
    | false =>
      rw [hb] at h
      cases hl : Nat.blt x k with
      | true => rw [hl] at h; exact BT.find_all h2 h
      | false => rw [hl] at h; exact BT.find_all h3 h
def FnOk (k : Nat) (df : DFunc) : Prop := ∃ f, Try.prog.funcs[k]? = some f ∧ trFunc Try.prog f = some df
def tab : BT := (.node 56 d56 (.node 33 d33 (.node 17 d17 (.node 12 d12 (.node 10 d10 (.node 9 d9 (.node 4 d4 .leaf .leaf) .leaf) (.node 11 d11 .leaf .leaf)) (.node 15 d15 (.node 14 d14 (.node 13 d13 .leaf .leaf) .leaf) (.node 16 d16 .leaf .leaf))) (.node 22 d22 (.node 20 d20 (.node 19 d19 (.node 18 d18 .leaf .leaf) .leaf) (.node 21 d21 .leaf .leaf)) (.node 25 d25 (.node 23 d23 .leaf .leaf) (.node 26 d26 .leaf .leaf)))) (.node 42 d42 (.node 38 d38 (.node 36 d36 (.node 35 d35 (.node 34 d34 .leaf .leaf) .leaf) (.node 37 d37 .leaf .leaf)) (.node 40 d40 (.node 39 d39 .leaf .leaf) (.node 41 d41 .leaf .leaf))) (.node 52 d52 (.node 45 d45 (.node 44 d44 (.node 43 d43 .leaf .leaf) .leaf) (.node 47 d47 .leaf .leaf)) (.node 54 d54 (.node 53 d53 .leaf .leaf) (.node 55 d55 .leaf .leaf))))) (.node 80 d80 (.node 66 d66 (.node 61 d61 (.node 59 d59 (.node 58 d58 (.node 57 d57 .leaf .leaf) .leaf) (.node 60 d60 .leaf .leaf)) (.node 64 d64 (.node 63 d63 (.node 62 d62 .leaf .leaf) .leaf) (.node 65 d65 .leaf .leaf))) (.node 76 d76 (.node 73 d73 (.node 72 d72 (.node 67 d67 .leaf .leaf) .leaf) (.node 75 d75 .leaf .leaf)) (.node 78 d78 (.node 77 d77 .leaf .leaf) (.node 79 d79 .leaf .leaf)))) (.node 93 d93 (.node 85 d85 (.node 83 d83 (.node 82 d82 (.node 81 d81 .leaf .leaf) .leaf) (.node 84 d84 .leaf .leaf)) (.node 91 d91 (.node 90 d90 .leaf .leaf) (.node 92 d92 .leaf .leaf))) (.node 99 d99 (.node 96 d96 (.node 95 d95 (.node 94 d94 .leaf .leaf) .leaf) (.node 97 d97 .leaf .leaf)) (.node 101 d101 (.node 100 d100 .leaf .leaf) (.node 102 d102 .leaf .leaf))))))
theorem tab_ok : tab.All FnOk := ⟨⟨_, Try.func56, tr56⟩, ⟨⟨_, Try.func33, tr33⟩, ⟨⟨_, Try.func17, tr17⟩, ⟨⟨_, Try.func12, tr12⟩, ⟨⟨_, Try.func10, tr10⟩, ⟨⟨_, Try.func9, tr9⟩, ⟨⟨_, Try.func4, tr4⟩, trivial, trivial⟩, trivial⟩, ⟨⟨_, Try.func11, tr11⟩, trivial, trivial⟩⟩, ⟨⟨_, Try.func15, tr15⟩, ⟨⟨_, Try.func14, tr14⟩, ⟨⟨_, Try.func13, tr13⟩, trivial, trivial⟩, trivial⟩, ⟨⟨_, Try.func16, tr16⟩, trivial, trivial⟩⟩⟩, ⟨⟨_, Try.func22, tr22⟩, ⟨⟨_, Try.func20, tr20⟩, ⟨⟨_, Try.func19, tr19⟩, ⟨⟨_, Try.func18, tr18⟩, trivial, trivial⟩, trivial⟩, ⟨⟨_, Try.func21, tr21⟩, trivial, trivial⟩⟩, ⟨⟨_, Try.func25, tr25⟩, ⟨⟨_, Try.func23, tr23⟩, trivial, trivial⟩, ⟨⟨_, Try.func26, tr26⟩, trivial, trivial⟩⟩⟩⟩, ⟨⟨_, Try.func42, tr42⟩, ⟨⟨_, Try.func38, tr38⟩, ⟨⟨_, Try.func36, tr36⟩, ⟨⟨_, Try.func35, tr35⟩, ⟨⟨_, Try.func34, tr34⟩, trivial, trivial⟩, trivial⟩, ⟨⟨_, Try.func37, tr37⟩, trivial, trivial⟩⟩, ⟨⟨_, Try.func40, tr40⟩, ⟨⟨_, Try.func39, tr39⟩, trivial, trivial⟩, ⟨⟨_, Try.func41, tr41⟩, trivial, trivial⟩⟩⟩, ⟨⟨_, Try.func52, tr52⟩, ⟨⟨_, Try.func45, tr45⟩, ⟨⟨_, Try.func44, tr44⟩, ⟨⟨_, Try.func43, tr43⟩, trivial, trivial⟩, trivial⟩, ⟨⟨_, Try.func47, tr47⟩, trivial, trivial⟩⟩, ⟨⟨_, Try.func54, tr54⟩, ⟨⟨_, Try.func53, tr53⟩, trivial, trivial⟩, ⟨⟨_, Try.func55, tr55⟩, trivial, trivial⟩⟩⟩⟩⟩, ⟨⟨_, Try.func80, tr80⟩, ⟨⟨_, Try.func66, tr66⟩, ⟨⟨_, Try.func61, tr61⟩, ⟨⟨_, Try.func59, tr59⟩, ⟨⟨_, Try.func58, tr58⟩, ⟨⟨_, Try.func57, tr57⟩, trivial, trivial⟩, trivial⟩, ⟨⟨_, Try.func60, tr60⟩, trivial, trivial⟩⟩, ⟨⟨_, Try.func64, tr64⟩, ⟨⟨_, Try.func63, tr63⟩, ⟨⟨_, Try.func62, tr62⟩, trivial, trivial⟩, trivial⟩, ⟨⟨_, Try.func65, tr65⟩, trivial, trivial⟩⟩⟩, ⟨⟨_, Try.func76, tr76⟩, ⟨⟨_, Try.func73, tr73⟩, ⟨⟨_, Try.func72, tr72⟩, ⟨⟨_, Try.func67, tr67⟩, trivial, trivial⟩, trivial⟩, ⟨⟨_, Try.func75, tr75⟩, trivial, trivial⟩⟩, ⟨⟨_, Try.func78, tr78⟩, ⟨⟨_, Try.func77, tr77⟩, trivial, trivial⟩, ⟨⟨_, Try.func79, tr79⟩, trivial, trivial⟩⟩⟩⟩, ⟨⟨_, Try.func93, tr93⟩, ⟨⟨_, Try.func85, tr85⟩, ⟨⟨_, Try.func83, tr83⟩, ⟨⟨_, Try.func82, tr82⟩, ⟨⟨_, Try.func81, tr81⟩, trivial, trivial⟩, trivial⟩, ⟨⟨_, Try.func84, tr84⟩, trivial, trivial⟩⟩, ⟨⟨_, Try.func91, tr91⟩, ⟨⟨_, Try.func90, tr90⟩, trivial, trivial⟩, ⟨⟨_, Try.func92, tr92⟩, trivial, trivial⟩⟩⟩, ⟨⟨_, Try.func99, tr99⟩, ⟨⟨_, Try.func96, tr96⟩, ⟨⟨_, Try.func95, tr95⟩, ⟨⟨_, Try.func94, tr94⟩, trivial, trivial⟩, trivial⟩, ⟨⟨_, Try.func97, tr97⟩, trivial, trivial⟩⟩, ⟨⟨_, Try.func101, tr101⟩, ⟨⟨_, Try.func100, tr100⟩, trivial, trivial⟩, ⟨⟨_, Try.func102, tr102⟩, trivial, trivial⟩⟩⟩⟩⟩⟩

def ren : Ren := { f := fun n => if n = 21 then 53 else if n = 27 then 74 else if n = 28 then 75 else if n = 35 then 91 else if n = 39 then 99 else n, t := fun n => if n = 22 then 34 else n, g := fun n => n }
theorem lays : Lays2.n21 Try.prog ren := by
  constructor
  all_goals first | kernel_rfl | (intro w; kernel_rfl)
theorem body53 (X : Array Value) (w : World) : (callFunc 53 X).run Try.prog w = .ok (.enter 53 X) w := callFunc_run Try.func53 (by kernel_rfl) (by kernel_rfl) X w
def env : Env := { fn := tab.find, intr := fun k => bif Nat.beq k 53 then some insD else none, lf := 100000 }
theorem env_ok : EnvOk Try.prog env := by
  refine ⟨by kernel_rfl, fun k df h => BT.find_all tab_ok h, fun k F h => ?_⟩
  have h : (bif Nat.beq k 53 then some insD else none) = some F := h
  cases hb : Nat.beq k 53 with
  | false => rw [hb] at h; cases h
  | true =>
    rw [hb] at h
    simp only [cond_true, Option.some.injEq] at h
    subst h
    rw [Nat.eq_of_beq_eq_true hb]
    exact ins_ok lays body53

theorem runsL : okOf (xcall env 200 (.func (.func 10) #[] #[]) [] s0) = true := by kernel_rfl
theorem livesL (W : World) : Calls Try.prog 10 #[] W fun e w' => e = .returned (.bool true) ∧ Kept W w' := top env_ok runsL (fun _ => .nil) W
noncomputable def env2 : Env := { fn := tab.find, intr := fun k => bif Nat.beq k 10 then some trueD else env.intr k, lf := 200000 }
theorem env2_ok : EnvOk Try.prog env2 := by
  refine ⟨env_ok.mixed, fun k df h => BT.find_all tab_ok h, fun k F h => ?_⟩
  have h : (bif Nat.beq k 10 then some trueD else env.intr k) = some F := h
  cases hb : Nat.beq k 10 with
  | true =>
    rw [hb] at h
    simp only [cond_true, Option.some.injEq] at h
    subst h
    rw [Nat.eq_of_beq_eq_true hb]
    exact trueD_ok livesL (fun X w => callFunc_run Try.func10 (by kernel_rfl) (by kernel_rfl) X w)
  | false =>
    rw [hb] at h
    simp only [cond_false] at h
    exact env_ok.intr k F h
theorem cfns : Go.Dx.StA.CFns env2 := by constructor <;> first | rfl | exact of_decide_eq_true rfl | exact fun d => (dcall_ok env2_ok d).1
theorem gfns : Go.Dx.StA.GFns env2 := by constructor <;> first | rfl | exact of_decide_eq_true rfl | exact fun d => (dcall_ok env2_ok d).1
theorem pkfns : Go.Dx.StA.PkFns env2 := by constructor <;> first | rfl | exact of_decide_eq_true rfl | exact fun d => (dcall_ok env2_ok d).1
theorem upfns : Go.Dx.StA.UpFns env2 := by constructor <;> first | rfl | exact of_decide_eq_true rfl | exact fun d => (dcall_ok env2_ok d).1
theorem rinfns : Go.Dx.StA.RInFns env2 := by constructor <;> first | rfl | exact of_decide_eq_true rfl | exact fun d => (dcall_ok env2_ok d).1
theorem fns : Go.Dx.StA.Fns env2 := by constructor <;> first | rfl | exact of_decide_eq_true rfl | exact fun d => (dcall_ok env2_ok d).1
theorem its : Go.Dx.StA.Its env2 := by constructor <;> first | rfl | exact of_decide_eq_true rfl | exact fun d => (dcall_ok env2_ok d).1
theorem lkfns : Go.Dx.StA.LkFns env2 := by constructor <;> first | rfl | exact of_decide_eq_true rfl | exact fun d => (dcall_ok env2_ok d).1
theorem flat_u8 : ∀ l : List (List Value), (∀ x, x ∈ l → ∃ n, x = [.int .u8 n] ∧ 0 ≤ n ∧ n < 256) → l.flatten = u8s (l.map fun x => numV (getN x 0))
  | [], _ => rfl
  | x :: l, h => by
    obtain ⟨n, rfl, _⟩ := h x (List.mem_cons_self ..)
    rw [List.flatten_cons, flat_u8 l fun y hy => h y (List.mem_cons_of_mem _ hy)]
    rfl
theorem rowR {W : World} {v0 : Value} {l0 : List (List Value)} (m0 : RowIn W [.int .u8] v0 l0) {s : DS} {β : Emb} {v' : Value} (hv : VRel β v' v0) (hin : InRow s v' l0) :
    SlR s v' (l0.map fun x => numV (getN x 0)) ∧ IsB (l0.map fun x => numV (getN x 0)) ∧ l0.length ≤ 9223372036854775807 := by
  have hf : ∀ x, x ∈ l0 → FitK [.int .u8] x := by
    rcases m0 with ⟨_, rfl⟩ | ⟨_, _, _, _, _, _, _, h, _⟩
    · exact fun _ h => (nomatch h)
    · exact h
  have hmax : l0.length ≤ 9223372036854775807 := by
    rcases m0 with ⟨_, rfl⟩ | ⟨_, _, c, _, h1, h2, _⟩
    · simp
    · exact Nat.le_trans h1 h2
  have hel : ∀ x, x ∈ l0 → ∃ n, x = [.int .u8 n] ∧ 0 ≤ n ∧ n < 256 := fun x hx => by
    obtain ⟨c, r, rfl, ⟨n, rfl, hw⟩, hr⟩ := FitK.cons (hf x hx)
    obtain rfl := FitK.nil hr
    simp [Lit.wf, IntKind.min, IntKind.max, IntKind.signed, IntKind.bits] at hw
    exact ⟨n, rfl, by omega, by omega⟩
  refine ⟨?_, fun b hb => ?_, hmax⟩
  · rcases hin with ⟨rfl, rfl⟩ | ⟨b, c, rfl, hg⟩
    · exact .inl ⟨rfl, rfl⟩
    · refine .inr ⟨b, 0, none, c, by rw [List.length_map], .inl rfl, ?_, ?_⟩
      · rw [List.length_map]
        rcases m0 with ⟨rfl, rfl⟩ | ⟨_, _, c0, rfl, h1, _⟩
        · exact Nat.zero_le _
        · cases hv
          exact h1
      · unfold DS.read
        rw [hg]
        show (Cells.list l0.flatten).take 0 _ = _
        rw [flat_u8 l0 hel]
        refine take_of (List.length_map ..) fun i hi => ?_
        rw [Nat.zero_add]
        show getN _ i = _
        rw [getN_eq]
  · obtain ⟨x, hx, rfl⟩ := List.mem_map.1 hb
    obtain ⟨n, rfl, h1, h2⟩ := hel x hx
    exact ⟨h1, h2⟩
theorem walk (v0 : Value) (l0 : List (List Value)) {W : World} (m0 : RowIn W [.int .u8] v0 l0) : Calls Try.prog 4 #[v0] W fun e w' => e = .returned (.bool true) ∧ Kept W w' := by
  obtain ⟨s, β, v', hv, hR, hn, hro, hG, hin⟩ := rowState (P := Try.prog) m0 rfl
  obtain ⟨hs, hB, hmax⟩ := rowR m0 hv hin
  have hmax' : ((l0.map fun x => numV (getN x 0)).length : Int) ≤ 9223372036854775807 := by rw [List.length_map]; omega
  obtain ⟨⟨rv, s'⟩, hr, hq⟩ := Go.Dx.StA.unpacksLaw cfns gfns pkfns upfns rinfns fns its lkfns (by rw [← Go.Dx.StA.d4x_eq]; rfl) rfl rfl hG (d := 0) hs hB hmax'
  simp only at hq
  subst hq
  exact topM env2_ok hr (.cons hv .nil) hR hn hro
end Go.Proofs.Ytnmajohhfcgddaa.storeUnpacks
