/- TableDoes returns true for every input, and leaves what it was given as it was. -/
import Derived.Test.YtffgmngdgkpflaaGreatRows
import Derived.Test.YtffgmngdgkpflaaGreatDxTz
import Derived.Test.YtffgmngdgkpflaaGreatDxXx
import Derived.Test.YtffgmngdgkpflaaGreatDxSorted
import Derived.Shelf.SortM.Plain
import Derived.Shelf.SortM.SortNone
import Derived.Test.YtffgmngdgkpflaaGreatDxCln
import Derived.Test.YtffgmngdgkpflaaGreatT1Do
import Derived.Test.YtffgmngdgkpflaaGreatDxTopM
namespace Go.Proofs.YtffgmngdgkpflaaGreat.tableDoes
open Go.ChangeShapes Go.WideShapes Go.ChangeAt Go.RowKit Go.Dx Go.Shelf
set_option linter.unusedVariables false
set_option linter.unusedSimpArgs false
set_option maxRecDepth 100000
set_option maxHeartbeats 4000000

/-! ### The evaluator's tables -/
inductive BT where
  | leaf
  | node (k : Nat) (d : zp) (l r : BT)
def BT.find : BT → Nat → Option zp
  | .leaf, _ => none
  | .node k d l r, x => bif Nat.beq x k then some d else bif Nat.blt x k then l.find x else r.find x
def BT.All (Q : Nat → zp → Prop) : BT → Prop
  | .leaf => True
  | .node k d l r => Q k d ∧ l.All Q ∧ r.All Q
theorem BT.find_all {Q : Nat → zp → Prop} : ∀ {t : BT} {x : Nat} {d : zp}, t.All Q → t.find x = some d → Q x d
  | .leaf, x, d, _, h => by cases h
  | .node k d0 l r, x, d, ⟨h1, h2, h3⟩, h => by
    unfold BT.find at h
    cases hb : Nat.beq x k with
    | true =>
      rw [hb] at h
      simp only [cond_true, Option.some.injEq] at h
      subst h
      rw [Nat.eq_of_beq_eq_true hb]; exact h1
    | false =>
      rw [hb] at h
      cases hl : Nat.blt x k with
      | true => rw [hl] at h; exact BT.find_all h2 h
      | false => rw [hl] at h; exact BT.find_all h3 h
def FnOk (k : Nat) (df : zp) : Prop := ∃ f, Tryz.prog.funcs[k]? = some f ∧ zj Tryz.prog f = some df
def tab : BT := (.node 70 d70 (.node 37 d37 (.node 18 d18 (.node 11 d11 (.node 8 d8 (.node 5 d5 (.node 4 d4 .leaf .leaf) (.node 6 d6 .leaf .leaf)) (.node 10 d10 (.node 9 d9 .leaf .leaf) .leaf)) (.node 15 d15 (.node 13 d13 (.node 12 d12 .leaf .leaf) (.node 14 d14 .leaf .leaf)) (.node 17 d17 (.node 16 d16 .leaf .leaf) .leaf))) (.node 25 d25 (.node 22 d22 (.node 20 d20 (.node 19 d19 .leaf .leaf) (.node 21 d21 .leaf .leaf)) (.node 24 d24 (.node 23 d23 .leaf .leaf) .leaf)) (.node 34 d34 (.node 33 d33 (.node 31 d31 .leaf .leaf) .leaf) (.node 36 d36 (.node 35 d35 .leaf .leaf) .leaf)))) (.node 53 d53 (.node 47 d47 (.node 42 d42 (.node 40 d40 (.node 38 d38 .leaf .leaf) (.node 41 d41 .leaf .leaf)) (.node 46 d46 (.node 45 d45 .leaf .leaf) .leaf)) (.node 50 d50 (.node 49 d49 (.node 48 d48 .leaf .leaf) .leaf) (.node 52 d52 (.node 51 d51 .leaf .leaf) .leaf))) (.node 63 d63 (.node 60 d60 (.node 58 d58 (.node 54 d54 .leaf .leaf) (.node 59 d59 .leaf .leaf)) (.node 62 d62 (.node 61 d61 .leaf .leaf) .leaf)) (.node 66 d66 (.node 65 d65 (.node 64 d64 .leaf .leaf) .leaf) (.node 68 d68 (.node 67 d67 .leaf .leaf) .leaf))))) (.node 100 d100 (.node 87 d87 (.node 80 d80 (.node 74 d74 (.node 72 d72 (.node 71 d71 .leaf .leaf) (.node 73 d73 .leaf .leaf)) (.node 79 d79 (.node 78 d78 .leaf .leaf) .leaf)) (.node 84 d84 (.node 82 d82 (.node 81 d81 .leaf .leaf) (.node 83 d83 .leaf .leaf)) (.node 86 d86 (.node 85 d85 .leaf .leaf) .leaf))) (.node 94 d94 (.node 91 d91 (.node 89 d89 (.node 88 d88 .leaf .leaf) (.node 90 d90 .leaf .leaf)) (.node 93 d93 (.node 92 d92 .leaf .leaf) .leaf)) (.node 97 d97 (.node 96 d96 (.node 95 d95 .leaf .leaf) .leaf) (.node 99 d99 (.node 98 d98 .leaf .leaf) .leaf)))) (.node 116 d116 (.node 107 d107 (.node 104 d104 (.node 102 d102 (.node 101 d101 .leaf .leaf) (.node 103 d103 .leaf .leaf)) (.node 106 d106 (.node 105 d105 .leaf .leaf) .leaf)) (.node 113 d113 (.node 112 d112 (.node 108 d108 .leaf .leaf) .leaf) (.node 115 d115 (.node 114 d114 .leaf .leaf) .leaf))) (.node 123 d123 (.node 120 d120 (.node 118 d118 (.node 117 d117 .leaf .leaf) (.node 119 d119 .leaf .leaf)) (.node 122 d122 (.node 121 d121 .leaf .leaf) .leaf)) (.node 126 d126 (.node 125 d125 (.node 124 d124 .leaf .leaf) .leaf) (.node 139 d139 (.node 127 d127 .leaf .leaf) .leaf))))))
theorem tab_ok : tab.All FnOk := ⟨⟨_, Tryz.func70, tr70⟩, ⟨⟨_, Tryz.func37, tr37⟩, ⟨⟨_, Tryz.func18, tr18⟩, ⟨⟨_, Tryz.func11, tr11⟩, ⟨⟨_, Tryz.func8, tr8⟩, ⟨⟨_, Tryz.func5, tr5⟩, ⟨⟨_, Tryz.func4, tr4⟩, trivial, trivial⟩, ⟨⟨_, Tryz.func6, tr6⟩, trivial, trivial⟩⟩, ⟨⟨_, Tryz.func10, tr10⟩, ⟨⟨_, Tryz.func9, tr9⟩, trivial, trivial⟩, trivial⟩⟩, ⟨⟨_, Tryz.func15, tr15⟩, ⟨⟨_, Tryz.func13, tr13⟩, ⟨⟨_, Tryz.func12, tr12⟩, trivial, trivial⟩, ⟨⟨_, Tryz.func14, tr14⟩, trivial, trivial⟩⟩, ⟨⟨_, Tryz.func17, tr17⟩, ⟨⟨_, Tryz.func16, tr16⟩, trivial, trivial⟩, trivial⟩⟩⟩, ⟨⟨_, Tryz.func25, tr25⟩, ⟨⟨_, Tryz.func22, tr22⟩, ⟨⟨_, Tryz.func20, tr20⟩, ⟨⟨_, Tryz.func19, tr19⟩, trivial, trivial⟩, ⟨⟨_, Tryz.func21, tr21⟩, trivial, trivial⟩⟩, ⟨⟨_, Tryz.func24, tr24⟩, ⟨⟨_, Tryz.func23, tr23⟩, trivial, trivial⟩, trivial⟩⟩, ⟨⟨_, Tryz.func34, tr34⟩, ⟨⟨_, Tryz.func33, tr33⟩, ⟨⟨_, Tryz.func31, tr31⟩, trivial, trivial⟩, trivial⟩, ⟨⟨_, Tryz.func36, tr36⟩, ⟨⟨_, Tryz.func35, tr35⟩, trivial, trivial⟩, trivial⟩⟩⟩⟩, ⟨⟨_, Tryz.func53, tr53⟩, ⟨⟨_, Tryz.func47, tr47⟩, ⟨⟨_, Tryz.func42, tr42⟩, ⟨⟨_, Tryz.func40, tr40⟩, ⟨⟨_, Tryz.func38, tr38⟩, trivial, trivial⟩, ⟨⟨_, Tryz.func41, tr41⟩, trivial, trivial⟩⟩, ⟨⟨_, Tryz.func46, tr46⟩, ⟨⟨_, Tryz.func45, tr45⟩, trivial, trivial⟩, trivial⟩⟩, ⟨⟨_, Tryz.func50, tr50⟩, ⟨⟨_, Tryz.func49, tr49⟩, ⟨⟨_, Tryz.func48, tr48⟩, trivial, trivial⟩, trivial⟩, ⟨⟨_, Tryz.func52, tr52⟩, ⟨⟨_, Tryz.func51, tr51⟩, trivial, trivial⟩, trivial⟩⟩⟩, ⟨⟨_, Tryz.func63, tr63⟩, ⟨⟨_, Tryz.func60, tr60⟩, ⟨⟨_, Tryz.func58, tr58⟩, ⟨⟨_, Tryz.func54, tr54⟩, trivial, trivial⟩, ⟨⟨_, Tryz.func59, tr59⟩, trivial, trivial⟩⟩, ⟨⟨_, Tryz.func62, tr62⟩, ⟨⟨_, Tryz.func61, tr61⟩, trivial, trivial⟩, trivial⟩⟩, ⟨⟨_, Tryz.func66, tr66⟩, ⟨⟨_, Tryz.func65, tr65⟩, ⟨⟨_, Tryz.func64, tr64⟩, trivial, trivial⟩, trivial⟩, ⟨⟨_, Tryz.func68, tr68⟩, ⟨⟨_, Tryz.func67, tr67⟩, trivial, trivial⟩, trivial⟩⟩⟩⟩⟩, ⟨⟨_, Tryz.func100, tr100⟩, ⟨⟨_, Tryz.func87, tr87⟩, ⟨⟨_, Tryz.func80, tr80⟩, ⟨⟨_, Tryz.func74, tr74⟩, ⟨⟨_, Tryz.func72, tr72⟩, ⟨⟨_, Tryz.func71, tr71⟩, trivial, trivial⟩, ⟨⟨_, Tryz.func73, tr73⟩, trivial, trivial⟩⟩, ⟨⟨_, Tryz.func79, tr79⟩, ⟨⟨_, Tryz.func78, tr78⟩, trivial, trivial⟩, trivial⟩⟩, ⟨⟨_, Tryz.func84, tr84⟩, ⟨⟨_, Tryz.func82, tr82⟩, ⟨⟨_, Tryz.func81, tr81⟩, trivial, trivial⟩, ⟨⟨_, Tryz.func83, tr83⟩, trivial, trivial⟩⟩, ⟨⟨_, Tryz.func86, tr86⟩, ⟨⟨_, Tryz.func85, tr85⟩, trivial, trivial⟩, trivial⟩⟩⟩, ⟨⟨_, Tryz.func94, tr94⟩, ⟨⟨_, Tryz.func91, tr91⟩, ⟨⟨_, Tryz.func89, tr89⟩, ⟨⟨_, Tryz.func88, tr88⟩, trivial, trivial⟩, ⟨⟨_, Tryz.func90, tr90⟩, trivial, trivial⟩⟩, ⟨⟨_, Tryz.func93, tr93⟩, ⟨⟨_, Tryz.func92, tr92⟩, trivial, trivial⟩, trivial⟩⟩, ⟨⟨_, Tryz.func97, tr97⟩, ⟨⟨_, Tryz.func96, tr96⟩, ⟨⟨_, Tryz.func95, tr95⟩, trivial, trivial⟩, trivial⟩, ⟨⟨_, Tryz.func99, tr99⟩, ⟨⟨_, Tryz.func98, tr98⟩, trivial, trivial⟩, trivial⟩⟩⟩⟩, ⟨⟨_, Tryz.func116, tr116⟩, ⟨⟨_, Tryz.func107, tr107⟩, ⟨⟨_, Tryz.func104, tr104⟩, ⟨⟨_, Tryz.func102, tr102⟩, ⟨⟨_, Tryz.func101, tr101⟩, trivial, trivial⟩, ⟨⟨_, Tryz.func103, tr103⟩, trivial, trivial⟩⟩, ⟨⟨_, Tryz.func106, tr106⟩, ⟨⟨_, Tryz.func105, tr105⟩, trivial, trivial⟩, trivial⟩⟩, ⟨⟨_, Tryz.func113, tr113⟩, ⟨⟨_, Tryz.func112, tr112⟩, ⟨⟨_, Tryz.func108, tr108⟩, trivial, trivial⟩, trivial⟩, ⟨⟨_, Tryz.func115, tr115⟩, ⟨⟨_, Tryz.func114, tr114⟩, trivial, trivial⟩, trivial⟩⟩⟩, ⟨⟨_, Tryz.func123, tr123⟩, ⟨⟨_, Tryz.func120, tr120⟩, ⟨⟨_, Tryz.func118, tr118⟩, ⟨⟨_, Tryz.func117, tr117⟩, trivial, trivial⟩, ⟨⟨_, Tryz.func119, tr119⟩, trivial, trivial⟩⟩, ⟨⟨_, Tryz.func122, tr122⟩, ⟨⟨_, Tryz.func121, tr121⟩, trivial, trivial⟩, trivial⟩⟩, ⟨⟨_, Tryz.func126, tr126⟩, ⟨⟨_, Tryz.func125, tr125⟩, ⟨⟨_, Tryz.func124, tr124⟩, trivial, trivial⟩, trivial⟩, ⟨⟨_, Tryz.func139, tr139⟩, ⟨⟨_, Tryz.func127, tr127⟩, trivial, trivial⟩, trivial⟩⟩⟩⟩⟩⟩

theorem bears_auto {P : Program} {f : FuncId} {B : Func} (h1 : (((P.funcs[f]?).getD default).name == "runtime.NumGoroutine") = false) (h2 : P.funcs[f]? = some { B with name := ((P.funcs[f]?).getD default).name }) : Go.Proofs.Bears P f B := ⟨_, h1, h2⟩
def renS : Ren := { f := fun n => match n with | 5 => 76 | 7 => 110 | 8 => 111 | 10 => 128 | 11 => 129 | 12 => 130 | 13 => 131 | 14 => 132 | 15 => 133 | 16 => 134 | 17 => 135 | 18 => 136 | 19 => 137 | 20 => 138 | 30 => 140 | 31 => 141 | 32 => 142 | 33 => 143 | 34 => 144 | 35 => 145 | 40 => 146 | n => n, t := fun n => match n with | 0 => 0 | 3 => 3 | 4 => 4 | 5 => 5 | 9 => 9 | 22 => 92 | 23 => 92 | 25 => 3 | 32 => 199 | 35 => 222 | 36 => 223 | 41 => 227 | 44 => 164 | 46 => 131 | 53 => 233 | 57 => 237 | 63 => 239 | 64 => 240 | n => n, g := fun n => n }
theorem laysS : SlLaysM.n5 Tryz.prog renS := by
  constructor
  all_goals first
    | kernel_rfl
    | (intro w; kernel_rfl)
    | exact bears_auto (by kernel_rfl) (by kernel_rfl)
def renK0 : Ren := { f := fun n => match n with | 6 => 43 | 7 => 44 | 8 => 75 | 9 => 76 | 10 => 77 | 11 => 109 | n => n, t := fun n => match n with | 0 => 0 | 3 => 72 | 4 => 4 | 5 => 5 | 9 => 9 | 23 => 75 | 24 => 92 | 26 => 3 | 27 => 51 | 28 => 52 | 33 => 91 | 37 => 199 | 39 => 222 | 40 => 223 | 45 => 227 | 48 => 164 | 50 => 131 | 51 => 233 | 55 => 237 | 57 => 239 | 58 => 240 | n => n, g := fun n => n }
theorem laysK0 : SlLaysZI.n7 Tryz.prog renK0 := by
  constructor
  all_goals first
    | kernel_rfl
    | (intro w; kernel_rfl)
    | exact bears_auto (by kernel_rfl) (by kernel_rfl)
theorem laysO : SlLaysZI.n6 Tryz.prog renK0 := by
  constructor
  all_goals first
    | kernel_rfl
    | (intro w; kernel_rfl)
    | exact bears_auto (by kernel_rfl) (by kernel_rfl)
theorem sorts (m : Nat) : Go.Proofs.AnyZI.SortsIn Tryz.prog renK0 Fence.wide m :=
  ⟨fun blk off cap ss W hH hblk hsz => callsIn_wide.2 (Go.Proofs.AnyM.slices_Sort_int laysS blk off cap ss W hH hblk hsz), fun p cap W => callsIn_wide.2 (Go.Proofs.AnyM.slices_Sort_int_none laysS p cap W)⟩
def renC0 : Ren := { f := fun n => match n with | 5 => 39 | 7 => 69 | n => n, t := fun n => match n with | 3 => 72 | 4 => 4 | 20 => 20 | 23 => 75 | 25 => 3 | n => n, g := fun n => n }
theorem laysC0 : SlLaysW.n5 Tryz.prog renC0 := by
  constructor
  all_goals first
    | kernel_rfl
    | (intro w; kernel_rfl)
    | exact bears_auto (by kernel_rfl) (by kernel_rfl)
noncomputable def env : Env := { fn := tab.find, intr := fun k => bif Nat.beq k 44 then some (fun all s => K1 all 77 s) else bif Nat.beq k 43 then some (fun all s => Xs 77 all s) else bif Nat.beq k 39 then some (Wp) else none, lf := 100000 }
theorem env_ok : Rm Tryz.prog env := by
  refine ⟨by kernel_rfl, fun k df h => BT.find_all tab_ok h, fun k F h => ?_⟩
  have h : (bif Nat.beq k 44 then some (fun all s => K1 all 77 s) else bif Nat.beq k 43 then some (fun all s => Xs 77 all s) else bif Nat.beq k 39 then some (Wp) else none) = some F := h
  cases hb44 : Nat.beq k 44 with
  | true =>
    rw [hb44] at h
    simp only [cond_true, Option.some.injEq] at h
    subst h
    rw [Nat.eq_of_beq_eq_true hb44]
    exact MH (ρ := renK0) laysK0 (fun X w => YZ Tryz.func44 (by kernel_rfl) (by kernel_rfl) X w)
  | false =>
    rw [hb44] at h
    simp only [cond_false] at h
    cases hb43 : Nat.beq k 43 with
    | true =>
      rw [hb43] at h
      simp only [cond_true, Option.some.injEq] at h
      subst h
      rw [Nat.eq_of_beq_eq_true hb43]
      exact Rt (ρ := renK0) laysO { laysK0 with } sorts (fun X w => YZ Tryz.func76 (by kernel_rfl) (by kernel_rfl) X w) (fun X w => YZ Tryz.func43 (by kernel_rfl) (by kernel_rfl) X w)
    | false =>
      rw [hb43] at h
      simp only [cond_false] at h
      cases hb39 : Nat.beq k 39 with
      | true =>
        rw [hb39] at h
        simp only [cond_true, Option.some.injEq] at h
        subst h
        rw [Nat.eq_of_beq_eq_true hb39]
        exact NK (ρ := renC0) laysC0 (fun X w => YZ Tryz.func39 (by kernel_rfl) (by kernel_rfl) X w)
      | false =>
        rw [hb39] at h
        simp only [cond_false] at h
        cases h

noncomputable def KM (lf : Nat) : Env := { fn := tab.find, intr := env.intr, lf := lf }
theorem env2_ok (lf : Nat) : Rm Tryz.prog (KM lf) := ⟨env_ok.mixed, fun k df h => BT.find_all tab_ok h, fun k F h => env_ok.intr k F h⟩
variable {lf : Nat}
theorem cfns (h : 80000 ≤ lf) : Go.Dx.TbA.QE (KM lf) := by constructor <;> first | rfl | exact (by show 10000 ≤ lf; omega) | exact fun d => (Yc (env2_ok lf) d).1
theorem gfns (h : 80000 ≤ lf) : Go.Dx.TbA.GM (KM lf) := by constructor <;> first | rfl | exact (by show 10000 ≤ lf; omega) | exact fun d => (Yc (env2_ok lf) d).1
theorem rdfns (h : 80000 ≤ lf) : Go.Dx.TbA.Vh (KM lf) := by constructor <;> first | rfl | exact (by show 10000 ≤ lf; omega) | exact fun d => (Yc (env2_ok lf) d).1
theorem tffns (h : 80000 ≤ lf) : Go.Dx.TbA.Kw (KM lf) := by constructor <;> first | rfl | exact (by show 10000 ≤ lf; omega) | exact fun d => (Yc (env2_ok lf) d).1
theorem tfns (h : 80000 ≤ lf) : Go.Dx.TbA.Jx (KM lf) := by constructor <;> first | rfl | exact (by show 10000 ≤ lf; omega) | exact fun d => (Yc (env2_ok lf) d).1
theorem efns (h : 80000 ≤ lf) : Go.Dx.TbA.Dy (KM lf) := by constructor <;> first | rfl | exact (by show 10000 ≤ lf; omega) | exact fun d => (Yc (env2_ok lf) d).1
theorem wfns (h : 80000 ≤ lf) : Go.Dx.TbA.R7 (KM lf) := by constructor <;> first | rfl | exact (by show 10000 ≤ lf; omega) | exact fun d => (Yc (env2_ok lf) d).1
theorem pfns (h : 80000 ≤ lf) : Go.Dx.TbA.R9 (KM lf) := by constructor <;> first | rfl | exact (by show 10000 ≤ lf; omega) | exact fun d => (Yc (env2_ok lf) d).1
theorem rifns (h : 80000 ≤ lf) : Go.Dx.TbA.TV (KM lf) := by constructor <;> first | rfl | exact (by show 10000 ≤ lf; omega) | exact fun d => (Yc (env2_ok lf) d).1
theorem rofns (h : 80000 ≤ lf) : Go.Dx.TbA.Ky (KM lf) := by constructor <;> first | rfl | exact (by show 10000 ≤ lf; omega) | exact fun d => (Yc (env2_ok lf) d).1
theorem bfns (h : 80000 ≤ lf) : Go.Dx.RpA.En (KM lf) := by constructor <;> first | rfl | exact (by show 10000 ≤ lf; omega) | exact fun d => (Yc (env2_ok lf) d).1
theorem rsfns (h : 80000 ≤ lf) : Go.Dx.RpA.Mf (KM lf) := by constructor <;> first | rfl | exact (by show 10000 ≤ lf; omega) | exact fun d => (Yc (env2_ok lf) d).1
theorem walk (v1 : Value) (l1 : List (List Value)) {W : World} (m1 : Me W [.int .i64, .int .i64, .int .i64, .int .i64, .int .i64, .bool, .int .i64, .int .i64, .int .i64] v1 l1) : Calls Tryz.prog 4 #[v1] W fun e w' => e = .returned (.bool true) ∧ Kept W w' := by
  have hl : ∀ x, x ∈ l1 → Zv [.int .i64, .int .i64, .int .i64, .int .i64, .int .i64, .bool, .int .i64, .int .i64, .int .i64] x := by
    rcases m1 with ⟨_, rfl⟩ | ⟨_, _, _, _, _, _, _, h, _⟩
    · exact fun _ h => (nomatch h)
    · exact h
  have hmax : l1.length ≤ 9223372036854775807 := by
    rcases m1 with ⟨_, rfl⟩ | ⟨_, _, c, _, h1, h2, _⟩
    · simp
    · exact Nat.le_trans h1 h2
  obtain ⟨s, β, v', hv, hR, hn, hro, hG, hin⟩ := Px (P := Tryz.prog) m1 rfl
  have h : 80000 ≤ l1.length + 80000 := by omega
  obtain ⟨⟨rv, s'⟩, hr, hq⟩ := Go.Dx.TbA.Hj (cfns h) (gfns h) (rdfns h) (tffns h) (tfns h) (efns h) (wfns h) (pfns h) (rifns h) (rofns h) (bfns h) (rsfns h) rfl rfl rfl rfl rfl rfl rfl rfl rfl rfl rfl rfl rfl rfl rfl rfl rfl rfl rfl rfl rfl rfl rfl rfl rfl rfl rfl hG (d := 0) hin hl (show l1.length < l1.length + 80000 by omega) (Int.ofNat_le.2 hmax)
  simp only at hq
  subst hq
  exact H4 (env2_ok _) hr (.cons hv .nil) hR hn hro
end Go.Proofs.YtffgmngdgkpflaaGreat.tableDoes
