/- TableNobody returns true for every input, and leaves what it was given as it was. -/
import Derived.Test.YtkhpdfjlfamncaaGreatRows
import Derived.Test.YtkhpdfjlfamncaaGreatDxTn
import Derived.Test.YtkhpdfjlfamncaaGreatDxRow
import Derived.Test.YtkhpdfjlfamncaaGreatDxSorted
import Derived.Shelf.SortM.Plain
import Derived.Shelf.SortM.SortNone
namespace Go.Proofs.YtkhpdfjlfamncaaGreat.tableNobody
open Go.ChangeShapes Go.WideShapes Go.ChangeAt Go.RowKit Go.Dx Go.Shelf
set_option linter.unusedVariables false
set_option linter.unusedSimpArgs false
set_option maxRecDepth 100000

theorem own : ownKnob Tryz.prog.godebug = none := by kernel_rfl

/-! ### The evaluator's tables -/
inductive BT where
  | leaf
  | node (k : Nat) (d : DFunc) (l r : BT)
def BT.find : BT → Nat → Option DFunc
  | .leaf, _ => none
  | .node k d l r, x => bif Nat.beq x k then some d else bif Nat.blt x k then l.find x else r.find x
def BT.All (Q : Nat → DFunc → Prop) : BT → Prop
  | .leaf => True
  | .node k d l r => Q k d ∧ l.All Q ∧ r.All Q
theorem BT.find_all {Q : Nat → DFunc → Prop} : ∀ {t : BT} {x : Nat} {d : DFunc}, t.All Q → t.find x = some d → Q x d
  | .leaf, x, d, _, h => by cases h
  | .node k d0 l r, x, d, ⟨h1, h2, h3⟩, h => by
    unfold BT.find at h
    cases hb : Nat.beq x k with
    | true =>
      rw [hb] at h
      simp only [cond_true, Option.some.injEq] at h
      subst h
      rw [Nat.eq_of_beq_eq_true hb]; exact h1
    | false =>
      rw [hb] at h
      cases hl : Nat.blt x k with
      | true => rw [hl] at h; exact BT.find_all h2 h
      | false => rw [hl] at h; exact BT.find_all h3 h
def FnOk (k : Nat) (df : DFunc) : Prop := ∃ f, Tryz.prog.funcs[k]? = some f ∧ trFunc Tryz.prog f = some df
def tab : BT := (.node 77 d77 (.node 42 d42 (.node 20 d20 (.node 14 d14 (.node 9 d9 (.node 8 d8 (.node 6 d6 .leaf .leaf) .leaf) (.node 13 d13 (.node 12 d12 .leaf .leaf) .leaf)) (.node 18 d18 (.node 16 d16 (.node 15 d15 .leaf .leaf) .leaf) (.node 19 d19 .leaf .leaf))) (.node 29 d29 (.node 27 d27 (.node 22 d22 (.node 21 d21 .leaf .leaf) .leaf) (.node 28 d28 .leaf .leaf)) (.node 40 d40 (.node 39 d39 (.node 38 d38 .leaf .leaf) .leaf) (.node 41 d41 .leaf .leaf)))) (.node 55 d55 (.node 50 d50 (.node 45 d45 (.node 44 d44 (.node 43 d43 .leaf .leaf) .leaf) (.node 49 d49 (.node 48 d48 .leaf .leaf) .leaf)) (.node 53 d53 (.node 52 d52 (.node 51 d51 .leaf .leaf) .leaf) (.node 54 d54 .leaf .leaf))) (.node 69 d69 (.node 67 d67 (.node 57 d57 (.node 56 d56 .leaf .leaf) .leaf) (.node 68 d68 .leaf .leaf)) (.node 75 d75 (.node 71 d71 (.node 70 d70 .leaf .leaf) .leaf) (.node 76 d76 .leaf .leaf))))) (.node 104 d104 (.node 91 d91 (.node 86 d86 (.node 83 d83 (.node 82 d82 (.node 81 d81 .leaf .leaf) .leaf) (.node 85 d85 (.node 84 d84 .leaf .leaf) .leaf)) (.node 89 d89 (.node 88 d88 (.node 87 d87 .leaf .leaf) .leaf) (.node 90 d90 .leaf .leaf))) (.node 96 d96 (.node 94 d94 (.node 93 d93 (.node 92 d92 .leaf .leaf) .leaf) (.node 95 d95 .leaf .leaf)) (.node 102 d102 (.node 98 d98 (.node 97 d97 .leaf .leaf) .leaf) (.node 103 d103 .leaf .leaf)))) (.node 121 d121 (.node 116 d116 (.node 110 d110 (.node 106 d106 (.node 105 d105 .leaf .leaf) .leaf) (.node 115 d115 (.node 111 d111 .leaf .leaf) .leaf)) (.node 119 d119 (.node 118 d118 (.node 117 d117 .leaf .leaf) .leaf) (.node 120 d120 .leaf .leaf))) (.node 126 d126 (.node 124 d124 (.node 123 d123 (.node 122 d122 .leaf .leaf) .leaf) (.node 125 d125 .leaf .leaf)) (.node 140 d140 (.node 139 d139 (.node 127 d127 .leaf .leaf) .leaf) (.node 148 d148 .leaf .leaf))))))
theorem tab_ok : tab.All FnOk := ⟨⟨_, Tryz.func77, tr77⟩, ⟨⟨_, Tryz.func42, tr42⟩, ⟨⟨_, Tryz.func20, tr20⟩, ⟨⟨_, Tryz.func14, tr14⟩, ⟨⟨_, Tryz.func9, tr9⟩, ⟨⟨_, Tryz.func8, tr8⟩, ⟨⟨_, Tryz.func6, tr6⟩, trivial, trivial⟩, trivial⟩, ⟨⟨_, Tryz.func13, tr13⟩, ⟨⟨_, Tryz.func12, tr12⟩, trivial, trivial⟩, trivial⟩⟩, ⟨⟨_, Tryz.func18, tr18⟩, ⟨⟨_, Tryz.func16, tr16⟩, ⟨⟨_, Tryz.func15, tr15⟩, trivial, trivial⟩, trivial⟩, ⟨⟨_, Tryz.func19, tr19⟩, trivial, trivial⟩⟩⟩, ⟨⟨_, Tryz.func29, tr29⟩, ⟨⟨_, Tryz.func27, tr27⟩, ⟨⟨_, Tryz.func22, tr22⟩, ⟨⟨_, Tryz.func21, tr21⟩, trivial, trivial⟩, trivial⟩, ⟨⟨_, Tryz.func28, tr28⟩, trivial, trivial⟩⟩, ⟨⟨_, Tryz.func40, tr40⟩, ⟨⟨_, Tryz.func39, tr39⟩, ⟨⟨_, Tryz.func38, tr38⟩, trivial, trivial⟩, trivial⟩, ⟨⟨_, Tryz.func41, tr41⟩, trivial, trivial⟩⟩⟩⟩, ⟨⟨_, Tryz.func55, tr55⟩, ⟨⟨_, Tryz.func50, tr50⟩, ⟨⟨_, Tryz.func45, tr45⟩, ⟨⟨_, Tryz.func44, tr44⟩, ⟨⟨_, Tryz.func43, tr43⟩, trivial, trivial⟩, trivial⟩, ⟨⟨_, Tryz.func49, tr49⟩, ⟨⟨_, Tryz.func48, tr48⟩, trivial, trivial⟩, trivial⟩⟩, ⟨⟨_, Tryz.func53, tr53⟩, ⟨⟨_, Tryz.func52, tr52⟩, ⟨⟨_, Tryz.func51, tr51⟩, trivial, trivial⟩, trivial⟩, ⟨⟨_, Tryz.func54, tr54⟩, trivial, trivial⟩⟩⟩, ⟨⟨_, Tryz.func69, tr69⟩, ⟨⟨_, Tryz.func67, tr67⟩, ⟨⟨_, Tryz.func57, tr57⟩, ⟨⟨_, Tryz.func56, tr56⟩, trivial, trivial⟩, trivial⟩, ⟨⟨_, Tryz.func68, tr68⟩, trivial, trivial⟩⟩, ⟨⟨_, Tryz.func75, tr75⟩, ⟨⟨_, Tryz.func71, tr71⟩, ⟨⟨_, Tryz.func70, tr70⟩, trivial, trivial⟩, trivial⟩, ⟨⟨_, Tryz.func76, tr76⟩, trivial, trivial⟩⟩⟩⟩⟩, ⟨⟨_, Tryz.func104, tr104⟩, ⟨⟨_, Tryz.func91, tr91⟩, ⟨⟨_, Tryz.func86, tr86⟩, ⟨⟨_, Tryz.func83, tr83⟩, ⟨⟨_, Tryz.func82, tr82⟩, ⟨⟨_, Tryz.func81, tr81⟩, trivial, trivial⟩, trivial⟩, ⟨⟨_, Tryz.func85, tr85⟩, ⟨⟨_, Tryz.func84, tr84⟩, trivial, trivial⟩, trivial⟩⟩, ⟨⟨_, Tryz.func89, tr89⟩, ⟨⟨_, Tryz.func88, tr88⟩, ⟨⟨_, Tryz.func87, tr87⟩, trivial, trivial⟩, trivial⟩, ⟨⟨_, Tryz.func90, tr90⟩, trivial, trivial⟩⟩⟩, ⟨⟨_, Tryz.func96, tr96⟩, ⟨⟨_, Tryz.func94, tr94⟩, ⟨⟨_, Tryz.func93, tr93⟩, ⟨⟨_, Tryz.func92, tr92⟩, trivial, trivial⟩, trivial⟩, ⟨⟨_, Tryz.func95, tr95⟩, trivial, trivial⟩⟩, ⟨⟨_, Tryz.func102, tr102⟩, ⟨⟨_, Tryz.func98, tr98⟩, ⟨⟨_, Tryz.func97, tr97⟩, trivial, trivial⟩, trivial⟩, ⟨⟨_, Tryz.func103, tr103⟩, trivial, trivial⟩⟩⟩⟩, ⟨⟨_, Tryz.func121, tr121⟩, ⟨⟨_, Tryz.func116, tr116⟩, ⟨⟨_, Tryz.func110, tr110⟩, ⟨⟨_, Tryz.func106, tr106⟩, ⟨⟨_, Tryz.func105, tr105⟩, trivial, trivial⟩, trivial⟩, ⟨⟨_, Tryz.func115, tr115⟩, ⟨⟨_, Tryz.func111, tr111⟩, trivial, trivial⟩, trivial⟩⟩, ⟨⟨_, Tryz.func119, tr119⟩, ⟨⟨_, Tryz.func118, tr118⟩, ⟨⟨_, Tryz.func117, tr117⟩, trivial, trivial⟩, trivial⟩, ⟨⟨_, Tryz.func120, tr120⟩, trivial, trivial⟩⟩⟩, ⟨⟨_, Tryz.func126, tr126⟩, ⟨⟨_, Tryz.func124, tr124⟩, ⟨⟨_, Tryz.func123, tr123⟩, ⟨⟨_, Tryz.func122, tr122⟩, trivial, trivial⟩, trivial⟩, ⟨⟨_, Tryz.func125, tr125⟩, trivial, trivial⟩⟩, ⟨⟨_, Tryz.func140, tr140⟩, ⟨⟨_, Tryz.func139, tr139⟩, ⟨⟨_, Tryz.func127, tr127⟩, trivial, trivial⟩, trivial⟩, ⟨⟨_, Tryz.func148, tr148⟩, trivial, trivial⟩⟩⟩⟩⟩⟩

theorem bears_of {P : Program} {f : FuncId} {B g : Func} (hf : P.funcs[f]? = some g) (hn : (g.name == "runtime.NumGoroutine") = false) (h : { B with name := g.name } = g) : Go.Proofs.Bears P f B := ⟨g.name, hn, by rw [h]; exact hf⟩
def renS : Ren := { f := fun n => match n with | 5 => 73 | 7 => 108 | 8 => 109 | 10 => 128 | 11 => 129 | 12 => 130 | 13 => 131 | 14 => 132 | 15 => 133 | 16 => 134 | 17 => 135 | 18 => 136 | 19 => 137 | 20 => 138 | 30 => 142 | 31 => 143 | 32 => 144 | 33 => 145 | 34 => 146 | 35 => 147 | 40 => 149 | n => n, t := fun n => match n with | 0 => 0 | 3 => 3 | 4 => 4 | 5 => 5 | 9 => 9 | 22 => 94 | 23 => 94 | 25 => 3 | 32 => 200 | 35 => 220 | 36 => 221 | 41 => 225 | 44 => 170 | 46 => 136 | 53 => 237 | 57 => 241 | 63 => 244 | 64 => 245 | n => n, g := fun n => n }
theorem laysS : SlLaysM.n5 Tryz.prog renS := by
  constructor
  all_goals first
    | kernel_rfl
    | (intro w; kernel_rfl)
    | exact bears_of Tryz.func73 (by kernel_rfl) (by kernel_rfl)
    | exact bears_of Tryz.func108 (by kernel_rfl) (by kernel_rfl)
    | exact bears_of Tryz.func109 (by kernel_rfl) (by kernel_rfl)
    | exact bears_of Tryz.func128 (by kernel_rfl) (by kernel_rfl)
    | exact bears_of Tryz.func129 (by kernel_rfl) (by kernel_rfl)
    | exact bears_of Tryz.func130 (by kernel_rfl) (by kernel_rfl)
    | exact bears_of Tryz.func131 (by kernel_rfl) (by kernel_rfl)
    | exact bears_of Tryz.func132 (by kernel_rfl) (by kernel_rfl)
    | exact bears_of Tryz.func133 (by kernel_rfl) (by kernel_rfl)
    | exact bears_of Tryz.func134 (by kernel_rfl) (by kernel_rfl)
    | exact bears_of Tryz.func135 (by kernel_rfl) (by kernel_rfl)
    | exact bears_of Tryz.func136 (by kernel_rfl) (by kernel_rfl)
    | exact bears_of Tryz.func137 (by kernel_rfl) (by kernel_rfl)
    | exact bears_of Tryz.func138 (by kernel_rfl) (by kernel_rfl)
    | exact bears_of Tryz.func142 (by kernel_rfl) (by kernel_rfl)
    | exact bears_of Tryz.func143 (by kernel_rfl) (by kernel_rfl)
    | exact bears_of Tryz.func144 (by kernel_rfl) (by kernel_rfl)
    | exact bears_of Tryz.func145 (by kernel_rfl) (by kernel_rfl)
    | exact bears_of Tryz.func146 (by kernel_rfl) (by kernel_rfl)
    | exact bears_of Tryz.func147 (by kernel_rfl) (by kernel_rfl)
    | exact bears_of Tryz.func149 (by kernel_rfl) (by kernel_rfl)
def renK0 : Ren := { f := fun n => match n with | 6 => 43 | 7 => 44 | 8 => 72 | 9 => 73 | 10 => 74 | 11 => 107 | n => n, t := fun n => match n with | 0 => 0 | 3 => 78 | 4 => 4 | 5 => 5 | 9 => 9 | 23 => 81 | 24 => 94 | 26 => 3 | 27 => 51 | 28 => 52 | 33 => 93 | 37 => 200 | 39 => 220 | 40 => 221 | 45 => 225 | 48 => 170 | 50 => 136 | 51 => 237 | 55 => 241 | 57 => 244 | 58 => 245 | n => n, g := fun n => n }
theorem laysK0 : SlLaysZI.n7 Tryz.prog renK0 := by
  constructor
  all_goals first
    | kernel_rfl
    | (intro w; kernel_rfl)
    | exact bears_of Tryz.func43 (by kernel_rfl) (by kernel_rfl)
    | exact bears_of Tryz.func44 (by kernel_rfl) (by kernel_rfl)
    | exact bears_of Tryz.func72 (by kernel_rfl) (by kernel_rfl)
    | exact bears_of Tryz.func73 (by kernel_rfl) (by kernel_rfl)
    | exact bears_of Tryz.func74 (by kernel_rfl) (by kernel_rfl)
    | exact bears_of Tryz.func107 (by kernel_rfl) (by kernel_rfl)
theorem laysO : SlLaysZI.n6 Tryz.prog renK0 := by
  constructor
  all_goals first
    | kernel_rfl
    | (intro w; kernel_rfl)
    | exact bears_of Tryz.func43 (by kernel_rfl) (by kernel_rfl)
    | exact bears_of Tryz.func44 (by kernel_rfl) (by kernel_rfl)
    | exact bears_of Tryz.func72 (by kernel_rfl) (by kernel_rfl)
    | exact bears_of Tryz.func73 (by kernel_rfl) (by kernel_rfl)
    | exact bears_of Tryz.func74 (by kernel_rfl) (by kernel_rfl)
    | exact bears_of Tryz.func107 (by kernel_rfl) (by kernel_rfl)
theorem sorts (m : Nat) : Go.Proofs.AnyZI.SortsIn Tryz.prog renK0 Fence.wide m :=
  ⟨fun blk off cap ss W hH hblk hsz => callsIn_wide.2 (Go.Proofs.AnyM.slices_Sort_int laysS blk off cap ss W hH hblk hsz), fun p cap W => callsIn_wide.2 (Go.Proofs.AnyM.slices_Sort_int_none laysS p cap W)⟩
def env : Env := { fn := tab.find, intr := fun k => bif Nat.beq k 44 then some (fun all s => keysD all 74 s) else bif Nat.beq k 43 then some (fun all s => sortedD 74 all s) else none, lf := 100000 }
theorem env_ok : EnvOk Tryz.prog env := by
  refine ⟨by kernel_rfl, fun k df h => BT.find_all tab_ok h, fun k F h => ?_⟩
  have h : (bif Nat.beq k 44 then some (fun all s => keysD all 74 s) else bif Nat.beq k 43 then some (fun all s => sortedD 74 all s) else none) = some F := h
  cases hb44 : Nat.beq k 44 with
  | true =>
    rw [hb44] at h
    simp only [cond_true, Option.some.injEq] at h
    subst h
    rw [Nat.eq_of_beq_eq_true hb44]
    exact keys_ok (ρ := renK0) laysK0 (fun X w => callFunc_run Tryz.func44 (by kernel_rfl) (by kernel_rfl) X w)
  | false =>
    rw [hb44] at h
    simp only [cond_false] at h
    cases hb43 : Nat.beq k 43 with
    | true =>
      rw [hb43] at h
      simp only [cond_true, Option.some.injEq] at h
      subst h
      rw [Nat.eq_of_beq_eq_true hb43]
      exact sorted_ok (ρ := renK0) laysO { laysK0 with } sorts (fun X w => callFunc_run Tryz.func73 (by kernel_rfl) (by kernel_rfl) X w) (fun X w => callFunc_run Tryz.func43 (by kernel_rfl) (by kernel_rfl) X w)
    | false =>
      rw [hb43] at h
      simp only [cond_false] at h
      cases h

theorem runs (a0 : Int) (a1 : Int) (a2 : Int) (a3 : Int) (a4 : Int) (a5 : Bool) (a6 : Int) (a7 : Int) (a8 : Int) : okOf (xcall env 200 (.func (.func 6) #[] #[]) [.agg #[.int .i64 a0, .int .i64 a1, .int .i64 a2, .int .i64 a3, .int .i64 a4, .bool a5, .int .i64 a6, .int .i64 a7, .int .i64 a8]] s0) = true := by kernel_rfl
theorem walk (a0 : Int) (a1 : Int) (a2 : Int) (a3 : Int) (a4 : Int) (a5 : Bool) (a6 : Int) (a7 : Int) (a8 : Int) (w : World) : Calls Tryz.prog 6 #[.agg ⟨[.int .i64 a0, .int .i64 a1, .int .i64 a2, .int .i64 a3, .int .i64 a4, .bool a5, .int .i64 a6, .int .i64 a7, .int .i64 a8]⟩] w fun e w' => e = .returned (.bool true) ∧ Kept w w' :=
  top env_ok (runs a0 a1 a2 a3 a4 a5 a6 a7 a8) (fun _ => .cons (.agg (.cons (.int _ _) (.cons (.int _ _) (.cons (.int _ _) (.cons (.int _ _) (.cons (.int _ _) (.cons (.bool _) (.cons (.int _ _) (.cons (.int _ _) (.cons (.int _ _) .nil)))))))))) .nil) w
theorem shape40 : shapeK Tryz.prog 9 40 = some [.int .i64, .int .i64, .int .i64, .int .i64, .int .i64, .bool, .int .i64, .int .i64, .int .i64] := by kernel_rfl
theorem readable : ∀ t ∈ Tryz.f6.params.toList, Tryz.prog.readableRec t = true ∧ t < Tryz.prog.types.size := by
  rw [Tryz.params6]
  intro t ht
  simp only [List.mem_cons, List.not_mem_nil, or_false] at ht
  subst ht
  exact ⟨by kernel_rfl, of_decide_eq_true (by kernel_rfl)⟩
/-- WHAT THE WALK GIVES, FOR EVERY ARGUMENT. -/
theorem contract (H : Type) (enc : TypeId × Value → H) (W : World) (base : Nat) (args : Array Value) (ds gs : List (DataW H)) (before : List MemPlace)
    (hval : ∀ (j : Nat) t v, Tryz.f6.params[j]? = some t → args[j]? = some v → Value.okWide Tryz.prog W .any base t v)
    (hW : DataW.Whole enc Tryz.prog Tryz.f6.params.toList Rows.tableNobodySpec.vars false W args.toList ds gs before) :
    Calls Tryz.prog 6 args W fun e W' => ∃ v, e = .returned v ∧ Rows.tableNobodySpec.post enc Tryz.prog Tryz.f6 false true false false W args v W' := by
  have hW' := hW
  obtain ⟨p, q, hA0, hV, _, _, _⟩ := hW
  have hA : DataW.TrodAll enc Tryz.prog W 0 (fun _ => true) true Tryz.f6.params.toList args.toList ds p := hA0
  rw [Tryz.params6] at hA hval
  obtain ⟨v0, vs0, d0, ds0, p0, q0, hargs0, hds0, _, t0, r0⟩ := trodAll_cons hA
  obtain ⟨hn1, hn2, _⟩ := trodAll_nil r0
  subst hn1 hn2
  subst hds0
  obtain rfl : args = #[v0] := by cases args; simp_all
  obtain ⟨rfl, rfl⟩ := trodVars_none hV
  obtain ⟨fu0, tf0⟩ := t0
  have k0_0 := fits_trod 9 fu0 _ _ _ _ shape40 tf0
  have hv0 := hval 0 40 v0 rfl rfl
  simp only [Value.okWide, Tryz.underlying40] at hv0
  obtain ⟨cs0, rfl, _, _⟩ := hv0
  obtain ⟨cs0⟩ := cs0
  simp only [Value.cells] at k0_0
  obtain ⟨c0, x0, e0, g0, k0_1⟩ := FitK.cons k0_0
  obtain ⟨c1, x1, e1, g1, k0_2⟩ := FitK.cons k0_1
  obtain ⟨c2, x2, e2, g2, k0_3⟩ := FitK.cons k0_2
  obtain ⟨c3, x3, e3, g3, k0_4⟩ := FitK.cons k0_3
  obtain ⟨c4, x4, e4, g4, k0_5⟩ := FitK.cons k0_4
  obtain ⟨c5, x5, e5, g5, k0_6⟩ := FitK.cons k0_5
  obtain ⟨c6, x6, e6, g6, k0_7⟩ := FitK.cons k0_6
  obtain ⟨c7, x7, e7, g7, k0_8⟩ := FitK.cons k0_7
  obtain ⟨c8, x8, e8, g8, k0_9⟩ := FitK.cons k0_8
  have z0 := FitK.nil k0_9
  subst z0
  subst e8
  subst e7
  subst e6
  subst e5
  subst e4
  subst e3
  subst e2
  subst e1
  subst e0
  obtain ⟨a0, rfl⟩ := g0
  obtain ⟨a1, rfl⟩ := g1
  obtain ⟨a2, rfl⟩ := g2
  obtain ⟨a3, rfl⟩ := g3
  obtain ⟨a4, rfl⟩ := g4
  obtain ⟨a5, rfl⟩ := g5
  obtain ⟨a6, rfl⟩ := g6
  obtain ⟨a7, rfl⟩ := g7
  obtain ⟨a8, rfl⟩ := g8
  refine (walk a0 a1 a2 a3 a4 a5 a6 a7 a8 W).mono fun e W' ⟨he, hk⟩ => ?_
  subst he
  exact ⟨_, rfl, post_kept (by kernel_rfl) readable hW' rfl (fun _ _ _ => trodAll_cons_mk (shut_bool Tryz.underlying4 _) trodAll_mk0) rfl rfl hk⟩

def zargs : Array Value := #[.agg #[.int .i64 0, .int .i64 0, .int .i64 0, .int .i64 0, .int .i64 0, .bool false, .int .i64 0, .int .i64 0, .int .i64 0]]
theorem laid_met (os : Os) : laidMet Tryz.prog Rows.tableNobodyRow.laid ((World.holding Tryz.prog os ⟨#[], #[], []⟩).forCall (fun _ _ => 0) ⟨#[], zargs, []⟩).memory :=
  laidMet_of_run' 8 (by kernel_rfl) (by kernel_rfl)
theorem reads (os : Os) {H : Type} (enc : TypeId × Value → H) : ∃ places, DataW.whole enc Tryz.prog ((World.holding Tryz.prog os ⟨#[], #[], []⟩).forCall (fun _ _ => 0) ⟨#[], zargs, []⟩).memory Tryz.f6.params.toList Rows.tableNobodySpec.vars false zargs.toList 12 = some ([.agg [.lit (.int .i64 0), .lit (.int .i64 0), .lit (.int .i64 0), .agg [.lit (.int .i64 0), .lit (.int .i64 0), .lit (.bool false), .lit (.int .i64 0), .lit (.int .i64 0), .lit (.int .i64 0)]]], [], places) :=
  ⟨[], by kernel_rfl⟩
theorem lifted (os : Os) (started : os.Started) (H : Type) (enc : TypeId × Value → H) (F : Stop.Interp) :
    ReturnsInHanded {} Tryz.checked os 6 .any ((OpenSpec.ofChange Rows.tableNobodySpec).preRow enc Tryz.prog Tryz.f6 Rows.tableNobodyRow.domain false Rows.tableNobodyRow.laid) (((OpenSpec.ofChange Rows.tableNobodySpec).at F).post enc Tryz.prog Tryz.f6 false true false false) := by
  obtain ⟨places, hx⟩ := reads os enc
  refine returnsInHanded_of_row (C := Tryz.checked) (s := OpenSpec.ofChange Rows.tableNobodySpec) own started (by kernel_rfl) Tryz.func6
    (witness_row_at (enc := enc) (C := Tryz.checked) false (World.holding Tryz.prog os ⟨#[], #[], []⟩) zargs rfl (by kernel_rfl) (by kernel_rfl) (by kernel_rfl)
      (OpenSpec.preRow_of_cond 12 hx (by kernel_rfl) (fun k hk => by cases hk) (by kernel_rfl) (laid_met os))) ?_
  intro W base args ds gs before hval hW _ _ _ _ _ _
  exact contract H enc W base args ds gs before hval hW
theorem proved : Rows.TableNobodySaid :=
  OpenClaim.holds_of_cond 6 Tryz.f6 rfl rfl rfl rfl rfl rfl rfl ⟨rfl, rfl, rfl, rfl, rfl⟩ rfl rfl rfl rfl rfl (by kernel_rfl) Tryz.func6 (by kernel_rfl)
    (of_decide_eq_true (by kernel_rfl)) (by unfold Func.isWrapper; first | (rw [if_pos (by decide +kernel)]; kernel_rfl) | (rw [if_neg (by decide +kernel)]; exact ⟨rfl, rfl⟩))
    (fun os started H enc _ F => by rw [OpenClaim.pre_eq_preRow]; exact lifted os started H enc F)
end Go.Proofs.YtkhpdfjlfamncaaGreat.tableNobody
