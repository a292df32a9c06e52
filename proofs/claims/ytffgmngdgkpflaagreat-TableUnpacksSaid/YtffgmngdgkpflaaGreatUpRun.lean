/- TableUnpacks returns true for every input, and leaves what it was given as it was. -/
import Derived.Test.YtffgmngdgkpflaaGreatRows
import Derived.Test.YtffgmngdgkpflaaGreatDxTz
import Derived.Test.YtffgmngdgkpflaaGreatDxRow
import Derived.Test.YtffgmngdgkpflaaGreatDxSorted
import Derived.Shelf.SortM.Plain
import Derived.Shelf.SortM.SortNone
import Derived.Test.YtffgmngdgkpflaaGreatDxStir
import Derived.Test.YtffgmngdgkpflaaGreatT1Ul
import Derived.Test.YtffgmngdgkpflaaGreatDxTopM
namespace Go.Proofs.YtffgmngdgkpflaaGreat.tableUnpacks
open Go.ChangeShapes Go.WideShapes Go.ChangeAt Go.RowKit Go.Dx Go.Shelf
set_option linter.unusedVariables false
set_option linter.unusedSimpArgs false
set_option maxRecDepth 100000
set_option maxHeartbeats 4000000

/-! ### The evaluator's tables -/
inductive BT where
  | leaf
  | node (k : Nat) (d : z7) (l r : BT)
def BT.find : BT → Nat → Option z7
  | .leaf, _ => none
  | .node k d l r, x => bif Nat.beq x k then some d else bif Nat.blt x k then l.find x else r.find x
def BT.All (Q : Nat → z7 → Prop) : BT → Prop
  | .leaf => True
  | .node k d l r => Q k d ∧ l.All Q ∧ r.All Q
theorem BT.find_all {Q : Nat → z7 → Prop} : ∀ {t : BT} {x : Nat} {d : z7}, t.All Q → t.find x = some d → Q x d
  | .leaf, x, d, _, h => by cases h
  | .node k d0 l r, x, d, ⟨h1, h2, h3⟩, h => by
    unfold BT.find at h
    cases hb : Nat.beq x k with
    | true =>
      rw [hb] at h
      simp only [cond_true, Option.some.injEq] at h
      subst h
      rw [Nat.eq_of_beq_eq_true hb]; exact h1
    | false =>
      rw [hb] at h
      cases hl : Nat.blt x k with
      | true => rw [hl] at h; exact BT.find_all h2 h
      | false => rw [hl] at h; exact BT.find_all h3 h
def FnOk (k : Nat) (df : z7) : Prop := ∃ f, Tryz.prog.funcs[k]? = some f ∧ zS Tryz.prog f = some df
def tab : BT := (.node 64 d64 (.node 35 d35 (.node 22 d22 (.node 10 d10 (.node 7 d7 (.node 5 d5 (.node 3 d3 .leaf .leaf) (.node 6 d6 .leaf .leaf)) (.node 9 d9 (.node 8 d8 .leaf .leaf) .leaf)) (.node 18 d18 (.node 13 d13 (.node 11 d11 .leaf .leaf) .leaf) (.node 21 d21 (.node 20 d20 .leaf .leaf) .leaf))) (.node 29 d29 (.node 26 d26 (.node 24 d24 (.node 23 d23 .leaf .leaf) (.node 25 d25 .leaf .leaf)) (.node 28 d28 (.node 27 d27 .leaf .leaf) .leaf)) (.node 32 d32 (.node 31 d31 (.node 30 d30 .leaf .leaf) .leaf) (.node 34 d34 (.node 33 d33 .leaf .leaf) .leaf)))) (.node 52 d52 (.node 46 d46 (.node 40 d40 (.node 37 d37 (.node 36 d36 .leaf .leaf) (.node 38 d38 .leaf .leaf)) (.node 45 d45 (.node 42 d42 .leaf .leaf) .leaf)) (.node 49 d49 (.node 48 d48 (.node 47 d47 .leaf .leaf) .leaf) (.node 51 d51 (.node 50 d50 .leaf .leaf) .leaf))) (.node 58 d58 (.node 55 d55 (.node 54 d54 (.node 53 d53 .leaf .leaf) .leaf) (.node 57 d57 (.node 56 d56 .leaf .leaf) .leaf)) (.node 61 d61 (.node 60 d60 (.node 59 d59 .leaf .leaf) .leaf) (.node 63 d63 (.node 62 d62 .leaf .leaf) .leaf))))) (.node 95 d95 (.node 83 d83 (.node 72 d72 (.node 68 d68 (.node 66 d66 (.node 65 d65 .leaf .leaf) (.node 67 d67 .leaf .leaf)) (.node 71 d71 (.node 70 d70 .leaf .leaf) .leaf)) (.node 80 d80 (.node 79 d79 (.node 78 d78 .leaf .leaf) .leaf) (.node 82 d82 (.node 81 d81 .leaf .leaf) .leaf))) (.node 89 d89 (.node 86 d86 (.node 85 d85 (.node 84 d84 .leaf .leaf) .leaf) (.node 88 d88 (.node 87 d87 .leaf .leaf) .leaf)) (.node 92 d92 (.node 91 d91 (.node 90 d90 .leaf .leaf) .leaf) (.node 94 d94 (.node 93 d93 .leaf .leaf) .leaf)))) (.node 114 d114 (.node 102 d102 (.node 99 d99 (.node 97 d97 (.node 96 d96 .leaf .leaf) (.node 98 d98 .leaf .leaf)) (.node 101 d101 (.node 100 d100 .leaf .leaf) .leaf)) (.node 105 d105 (.node 104 d104 (.node 103 d103 .leaf .leaf) .leaf) (.node 113 d113 (.node 112 d112 .leaf .leaf) .leaf))) (.node 120 d120 (.node 117 d117 (.node 116 d116 (.node 115 d115 .leaf .leaf) .leaf) (.node 119 d119 (.node 118 d118 .leaf .leaf) .leaf)) (.node 123 d123 (.node 122 d122 (.node 121 d121 .leaf .leaf) .leaf) (.node 125 d125 (.node 124 d124 .leaf .leaf) .leaf))))))
theorem tab_ok : tab.All FnOk := ⟨⟨_, Tryz.func64, tr64⟩, ⟨⟨_, Tryz.func35, tr35⟩, ⟨⟨_, Tryz.func22, tr22⟩, ⟨⟨_, Tryz.func10, tr10⟩, ⟨⟨_, Tryz.func7, tr7⟩, ⟨⟨_, Tryz.func5, tr5⟩, ⟨⟨_, Tryz.func3, tr3⟩, trivial, trivial⟩, ⟨⟨_, Tryz.func6, tr6⟩, trivial, trivial⟩⟩, ⟨⟨_, Tryz.func9, tr9⟩, ⟨⟨_, Tryz.func8, tr8⟩, trivial, trivial⟩, trivial⟩⟩, ⟨⟨_, Tryz.func18, tr18⟩, ⟨⟨_, Tryz.func13, tr13⟩, ⟨⟨_, Tryz.func11, tr11⟩, trivial, trivial⟩, trivial⟩, ⟨⟨_, Tryz.func21, tr21⟩, ⟨⟨_, Tryz.func20, tr20⟩, trivial, trivial⟩, trivial⟩⟩⟩, ⟨⟨_, Tryz.func29, tr29⟩, ⟨⟨_, Tryz.func26, tr26⟩, ⟨⟨_, Tryz.func24, tr24⟩, ⟨⟨_, Tryz.func23, tr23⟩, trivial, trivial⟩, ⟨⟨_, Tryz.func25, tr25⟩, trivial, trivial⟩⟩, ⟨⟨_, Tryz.func28, tr28⟩, ⟨⟨_, Tryz.func27, tr27⟩, trivial, trivial⟩, trivial⟩⟩, ⟨⟨_, Tryz.func32, tr32⟩, ⟨⟨_, Tryz.func31, tr31⟩, ⟨⟨_, Tryz.func30, tr30⟩, trivial, trivial⟩, trivial⟩, ⟨⟨_, Tryz.func34, tr34⟩, ⟨⟨_, Tryz.func33, tr33⟩, trivial, trivial⟩, trivial⟩⟩⟩⟩, ⟨⟨_, Tryz.func52, tr52⟩, ⟨⟨_, Tryz.func46, tr46⟩, ⟨⟨_, Tryz.func40, tr40⟩, ⟨⟨_, Tryz.func37, tr37⟩, ⟨⟨_, Tryz.func36, tr36⟩, trivial, trivial⟩, ⟨⟨_, Tryz.func38, tr38⟩, trivial, trivial⟩⟩, ⟨⟨_, Tryz.func45, tr45⟩, ⟨⟨_, Tryz.func42, tr42⟩, trivial, trivial⟩, trivial⟩⟩, ⟨⟨_, Tryz.func49, tr49⟩, ⟨⟨_, Tryz.func48, tr48⟩, ⟨⟨_, Tryz.func47, tr47⟩, trivial, trivial⟩, trivial⟩, ⟨⟨_, Tryz.func51, tr51⟩, ⟨⟨_, Tryz.func50, tr50⟩, trivial, trivial⟩, trivial⟩⟩⟩, ⟨⟨_, Tryz.func58, tr58⟩, ⟨⟨_, Tryz.func55, tr55⟩, ⟨⟨_, Tryz.func54, tr54⟩, ⟨⟨_, Tryz.func53, tr53⟩, trivial, trivial⟩, trivial⟩, ⟨⟨_, Tryz.func57, tr57⟩, ⟨⟨_, Tryz.func56, tr56⟩, trivial, trivial⟩, trivial⟩⟩, ⟨⟨_, Tryz.func61, tr61⟩, ⟨⟨_, Tryz.func60, tr60⟩, ⟨⟨_, Tryz.func59, tr59⟩, trivial, trivial⟩, trivial⟩, ⟨⟨_, Tryz.func63, tr63⟩, ⟨⟨_, Tryz.func62, tr62⟩, trivial, trivial⟩, trivial⟩⟩⟩⟩⟩, ⟨⟨_, Tryz.func95, tr95⟩, ⟨⟨_, Tryz.func83, tr83⟩, ⟨⟨_, Tryz.func72, tr72⟩, ⟨⟨_, Tryz.func68, tr68⟩, ⟨⟨_, Tryz.func66, tr66⟩, ⟨⟨_, Tryz.func65, tr65⟩, trivial, trivial⟩, ⟨⟨_, Tryz.func67, tr67⟩, trivial, trivial⟩⟩, ⟨⟨_, Tryz.func71, tr71⟩, ⟨⟨_, Tryz.func70, tr70⟩, trivial, trivial⟩, trivial⟩⟩, ⟨⟨_, Tryz.func80, tr80⟩, ⟨⟨_, Tryz.func79, tr79⟩, ⟨⟨_, Tryz.func78, tr78⟩, trivial, trivial⟩, trivial⟩, ⟨⟨_, Tryz.func82, tr82⟩, ⟨⟨_, Tryz.func81, tr81⟩, trivial, trivial⟩, trivial⟩⟩⟩, ⟨⟨_, Tryz.func89, tr89⟩, ⟨⟨_, Tryz.func86, tr86⟩, ⟨⟨_, Tryz.func85, tr85⟩, ⟨⟨_, Tryz.func84, tr84⟩, trivial, trivial⟩, trivial⟩, ⟨⟨_, Tryz.func88, tr88⟩, ⟨⟨_, Tryz.func87, tr87⟩, trivial, trivial⟩, trivial⟩⟩, ⟨⟨_, Tryz.func92, tr92⟩, ⟨⟨_, Tryz.func91, tr91⟩, ⟨⟨_, Tryz.func90, tr90⟩, trivial, trivial⟩, trivial⟩, ⟨⟨_, Tryz.func94, tr94⟩, ⟨⟨_, Tryz.func93, tr93⟩, trivial, trivial⟩, trivial⟩⟩⟩⟩, ⟨⟨_, Tryz.func114, tr114⟩, ⟨⟨_, Tryz.func102, tr102⟩, ⟨⟨_, Tryz.func99, tr99⟩, ⟨⟨_, Tryz.func97, tr97⟩, ⟨⟨_, Tryz.func96, tr96⟩, trivial, trivial⟩, ⟨⟨_, Tryz.func98, tr98⟩, trivial, trivial⟩⟩, ⟨⟨_, Tryz.func101, tr101⟩, ⟨⟨_, Tryz.func100, tr100⟩, trivial, trivial⟩, trivial⟩⟩, ⟨⟨_, Tryz.func105, tr105⟩, ⟨⟨_, Tryz.func104, tr104⟩, ⟨⟨_, Tryz.func103, tr103⟩, trivial, trivial⟩, trivial⟩, ⟨⟨_, Tryz.func113, tr113⟩, ⟨⟨_, Tryz.func112, tr112⟩, trivial, trivial⟩, trivial⟩⟩⟩, ⟨⟨_, Tryz.func120, tr120⟩, ⟨⟨_, Tryz.func117, tr117⟩, ⟨⟨_, Tryz.func116, tr116⟩, ⟨⟨_, Tryz.func115, tr115⟩, trivial, trivial⟩, trivial⟩, ⟨⟨_, Tryz.func119, tr119⟩, ⟨⟨_, Tryz.func118, tr118⟩, trivial, trivial⟩, trivial⟩⟩, ⟨⟨_, Tryz.func123, tr123⟩, ⟨⟨_, Tryz.func122, tr122⟩, ⟨⟨_, Tryz.func121, tr121⟩, trivial, trivial⟩, trivial⟩, ⟨⟨_, Tryz.func125, tr125⟩, ⟨⟨_, Tryz.func124, tr124⟩, trivial, trivial⟩, trivial⟩⟩⟩⟩⟩⟩

theorem bears_auto {P : Program} {f : FuncId} {B : Func} (h1 : (((P.funcs[f]?).getD default).name == "runtime.NumGoroutine") = false) (h2 : P.funcs[f]? = some { B with name := ((P.funcs[f]?).getD default).name }) : Go.Proofs.Bears P f B := ⟨_, h1, h2⟩
def renS : Ren := { f := fun n => match n with | 5 => 76 | 7 => 110 | 8 => 111 | 10 => 128 | 11 => 129 | 12 => 130 | 13 => 131 | 14 => 132 | 15 => 133 | 16 => 134 | 17 => 135 | 18 => 136 | 19 => 137 | 20 => 138 | 30 => 140 | 31 => 141 | 32 => 142 | 33 => 143 | 34 => 144 | 35 => 145 | 40 => 146 | n => n, t := fun n => match n with | 0 => 0 | 3 => 3 | 4 => 4 | 5 => 5 | 9 => 9 | 22 => 92 | 23 => 92 | 25 => 3 | 32 => 199 | 35 => 222 | 36 => 223 | 41 => 227 | 44 => 164 | 46 => 131 | 53 => 233 | 57 => 237 | 63 => 239 | 64 => 240 | n => n, g := fun n => n }
theorem laysS : SlLaysM.n5 Tryz.prog renS := by
  constructor
  all_goals first
    | kernel_rfl
    | (intro w; kernel_rfl)
    | exact bears_auto (by kernel_rfl) (by kernel_rfl)
def renK0 : Ren := { f := fun n => match n with | 6 => 43 | 7 => 44 | 8 => 75 | 9 => 76 | 10 => 77 | 11 => 109 | n => n, t := fun n => match n with | 0 => 0 | 3 => 72 | 4 => 4 | 5 => 5 | 9 => 9 | 23 => 75 | 24 => 92 | 26 => 3 | 27 => 51 | 28 => 52 | 33 => 91 | 37 => 199 | 39 => 222 | 40 => 223 | 45 => 227 | 48 => 164 | 50 => 131 | 51 => 233 | 55 => 237 | 57 => 239 | 58 => 240 | n => n, g := fun n => n }
theorem laysK0 : SlLaysZI.n7 Tryz.prog renK0 := by
  constructor
  all_goals first
    | kernel_rfl
    | (intro w; kernel_rfl)
    | exact bears_auto (by kernel_rfl) (by kernel_rfl)
theorem laysO : SlLaysZI.n6 Tryz.prog renK0 := by
  constructor
  all_goals first
    | kernel_rfl
    | (intro w; kernel_rfl)
    | exact bears_auto (by kernel_rfl) (by kernel_rfl)
theorem sorts (m : Nat) : Go.Proofs.AnyZI.SortsIn Tryz.prog renK0 Fence.wide m :=
  ⟨fun blk off cap ss W hH hblk hsz => callsIn_wide.2 (Go.Proofs.AnyM.slices_Sort_int laysS blk off cap ss W hH hblk hsz), fun p cap W => callsIn_wide.2 (Go.Proofs.AnyM.slices_Sort_int_none laysS p cap W)⟩
theorem stirOk : Qb Tryz.prog 126 GB :=
  Ni (r := 139) (by kernel_rfl) (by kernel_rfl) Tryz.func126 (by kernel_rfl) Tryz.func139 (by kernel_rfl) (fun X w => Wa Tryz.func126 (by kernel_rfl) (by kernel_rfl) X w)
noncomputable def env : Env := { fn := tab.find, intr := fun k => bif Nat.beq k 44 then some (fun all s => VR all 77 s) else bif Nat.beq k 43 then some (fun all s => WV 77 all s) else bif Nat.beq k 126 then some (GB) else none, lf := 100000 }
theorem env_ok : FX Tryz.prog env := by
  refine ⟨by kernel_rfl, fun k df h => BT.find_all tab_ok h, fun k F h => ?_⟩
  have h : (bif Nat.beq k 44 then some (fun all s => VR all 77 s) else bif Nat.beq k 43 then some (fun all s => WV 77 all s) else bif Nat.beq k 126 then some (GB) else none) = some F := h
  cases hb44 : Nat.beq k 44 with
  | true =>
    rw [hb44] at h
    simp only [cond_true, Option.some.injEq] at h
    subst h
    rw [Nat.eq_of_beq_eq_true hb44]
    exact Lq (ρ := renK0) laysK0 (fun X w => Wa Tryz.func44 (by kernel_rfl) (by kernel_rfl) X w)
  | false =>
    rw [hb44] at h
    simp only [cond_false] at h
    cases hb43 : Nat.beq k 43 with
    | true =>
      rw [hb43] at h
      simp only [cond_true, Option.some.injEq] at h
      subst h
      rw [Nat.eq_of_beq_eq_true hb43]
      exact Pe (ρ := renK0) laysO { laysK0 with } sorts (fun X w => Wa Tryz.func76 (by kernel_rfl) (by kernel_rfl) X w) (fun X w => Wa Tryz.func43 (by kernel_rfl) (by kernel_rfl) X w)
    | false =>
      rw [hb43] at h
      simp only [cond_false] at h
      cases hb126 : Nat.beq k 126 with
      | true =>
        rw [hb126] at h
        simp only [cond_true, Option.some.injEq] at h
        subst h
        rw [Nat.eq_of_beq_eq_true hb126]
        exact stirOk
      | false =>
        rw [hb126] at h
        simp only [cond_false] at h
        cases h

theorem runsL : HG (Cv env 200 (.func (.func 5) #[] #[]) [] s0) = true := by kernel_rfl
theorem livesL (W : World) : Calls Tryz.prog 5 #[] W fun e w' => e = .returned (.bool true) ∧ Kept W w' := top env_ok runsL (fun _ => .nil) W
noncomputable def FB : Env := { fn := tab.find, intr := fun k => bif Nat.beq k 5 then some Dj else env.intr k, lf := 200000 }
theorem env2_ok : FX Tryz.prog FB := by
  refine ⟨env_ok.mixed, fun k df h => BT.find_all tab_ok h, fun k F h => ?_⟩
  have h : (bif Nat.beq k 5 then some Dj else env.intr k) = some F := h
  cases hb : Nat.beq k 5 with
  | true =>
    rw [hb] at h
    simp only [cond_true, Option.some.injEq] at h
    subst h
    rw [Nat.eq_of_beq_eq_true hb]
    exact Nb livesL (fun X w => Wa Tryz.func5 (by kernel_rfl) (by kernel_rfl) X w)
  | false =>
    rw [hb] at h
    simp only [cond_false] at h
    exact env_ok.intr k F h
theorem cfns : Go.Dx.TbA.KQ FB := by constructor <;> first | rfl | exact of_decide_eq_true rfl | exact fun d => (Xo env2_ok d).1
theorem gfns : Go.Dx.TbA.Dd FB := by constructor <;> first | rfl | exact of_decide_eq_true rfl | exact fun d => (Xo env2_ok d).1
theorem rdfns : Go.Dx.TbA.FR FB := by constructor <;> first | rfl | exact of_decide_eq_true rfl | exact fun d => (Xo env2_ok d).1
theorem tffns : Go.Dx.TbA.FP FB := by constructor <;> first | rfl | exact of_decide_eq_true rfl | exact fun d => (Xo env2_ok d).1
theorem tfns : Go.Dx.TbA.FQ FB := by constructor <;> first | rfl | exact of_decide_eq_true rfl | exact fun d => (Xo env2_ok d).1
theorem efns : Go.Dx.TbA.PX FB := by constructor <;> first | rfl | exact of_decide_eq_true rfl | exact fun d => (Xo env2_ok d).1
theorem wfns : Go.Dx.TbA.LX FB := by constructor <;> first | rfl | exact of_decide_eq_true rfl | exact fun d => (Xo env2_ok d).1
theorem pfns : Go.Dx.TbA.LY FB := by constructor <;> first | rfl | exact of_decide_eq_true rfl | exact fun d => (Xo env2_ok d).1
theorem rifns : Go.Dx.TbA.Cp FB := by constructor <;> first | rfl | exact of_decide_eq_true rfl | exact fun d => (Xo env2_ok d).1
theorem rofns : Go.Dx.TbA.Gt FB := by constructor <;> first | rfl | exact of_decide_eq_true rfl | exact fun d => (Xo env2_ok d).1
theorem flat_u8 : ∀ l : List (List Value), (∀ x, x ∈ l → ∃ n, x = [.int .u8 n] ∧ 0 ≤ n ∧ n < 256) → l.flatten = u8s (l.map fun x => N3 (getN x 0))
  | [], _ => rfl
  | x :: l, h => by
    obtain ⟨n, rfl, _⟩ := h x (List.mem_cons_self ..)
    rw [List.flatten_cons, flat_u8 l fun y hy => h y (List.mem_cons_of_mem _ hy)]
    rfl
theorem rowR {W : World} {v0 : Value} {l0 : List (List Value)} (m0 : RZ W [.int .u8] v0 l0) {s : DS} {β : Emb} {v' : Value} (hv : VRel β v' v0) (hin : R0 s v' l0) :
    SlR s v' (l0.map fun x => N3 (getN x 0)) ∧ IsB (l0.map fun x => N3 (getN x 0)) ∧ l0.length ≤ 9223372036854775807 := by
  have hf : ∀ x, x ∈ l0 → Xs [.int .u8] x := by
    rcases m0 with ⟨_, rfl⟩ | ⟨_, _, _, _, _, _, _, h, _⟩
    · exact fun _ h => (nomatch h)
    · exact h
  have hmax : l0.length ≤ 9223372036854775807 := by
    rcases m0 with ⟨_, rfl⟩ | ⟨_, _, c, _, h1, h2, _⟩
    · simp
    · exact Nat.le_trans h1 h2
  have hel : ∀ x, x ∈ l0 → ∃ n, x = [.int .u8 n] ∧ 0 ≤ n ∧ n < 256 := fun x hx => by
    obtain ⟨c, r, rfl, ⟨n, rfl, hw⟩, hr⟩ := Xs.cons (hf x hx)
    obtain rfl := Xs.nil hr
    simp [Lit.wf, IntKind.min, IntKind.max, IntKind.signed, IntKind.bits] at hw
    exact ⟨n, rfl, by omega, by omega⟩
  refine ⟨?_, fun b hb => ?_, hmax⟩
  · rcases hin with ⟨rfl, rfl⟩ | ⟨b, c, rfl, hg⟩
    · exact .inl ⟨rfl, rfl⟩
    · refine .inr ⟨b, 0, none, c, by rw [List.length_map], .inl rfl, ?_, ?_⟩
      · rw [List.length_map]
        rcases m0 with ⟨rfl, rfl⟩ | ⟨_, _, c0, rfl, h1, _⟩
        · exact Nat.zero_le _
        · cases hv
          exact h1
      · unfold DS.read
        rw [hg]
        show (Cells.list l0.flatten).take 0 _ = _
        rw [flat_u8 l0 hel]
        refine Jj (List.length_map ..) fun i hi => ?_
        rw [Nat.zero_add]
        show getN _ i = _
        rw [Yu]
  · obtain ⟨x, hx, rfl⟩ := List.mem_map.1 hb
    obtain ⟨n, rfl, h1, h2⟩ := hel x hx
    exact ⟨h1, h2⟩
theorem walk (v0 : Value) (l0 : List (List Value)) {W : World} (m0 : RZ W [.int .u8] v0 l0) : Calls Tryz.prog 3 #[v0] W fun e w' => e = .returned (.bool true) ∧ Kept W w' := by
  obtain ⟨s, β, v', hv, hR, hn, hro, hG, hin⟩ := NF (P := Tryz.prog) m0 rfl
  obtain ⟨hs, hB, hmax⟩ := rowR m0 hv hin
  have hmax' : ((l0.map fun x => N3 (getN x 0)).length : Int) ≤ 9223372036854775807 := by rw [List.length_map]; omega
  obtain ⟨⟨rv, s'⟩, hr, hq⟩ := Go.Dx.TbA.He cfns gfns rdfns tffns tfns efns wfns pfns rifns rofns rfl rfl rfl rfl rfl rfl rfl rfl rfl rfl rfl rfl rfl hG (d := 0) hs hB hmax'
  simp only at hq
  subst hq
  exact EF env2_ok hr (.cons hv .nil) hR hn hro
end Go.Proofs.YtffgmngdgkpflaaGreat.tableUnpacks
