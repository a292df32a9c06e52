/- OverlayNobody returns true for every input, and leaves what it was given as it was. -/
import Derived.Test.YtlpjlananbjgcaaRows
import Derived.Test.YtlpjlananbjgcaaDxOn
import Derived.Test.YtlpjlananbjgcaaDxTop
import Derived.Test.YtlpjlananbjgcaaDxSorted
import Derived.Shelf.SortM.Plain
import Derived.Shelf.SortM.SortNone
import Derived.Shelf.Lays2
import Derived.Test.YtlpjlananbjgcaaDxIns
import Derived.WalkKit
import Derived.ProofKit
import Derived.OpenShut
import Derived.JoinedCond
import Derived.Deep.DeepHandedRow
import Derived.LaidLaws
namespace Go.Proofs.Ytlpjlananbjgcaa.overlayNobody
open Go.ChangeShapes Go.WideShapes Go.ChangeAt Go.RowKit Go.Dx Go.Shelf
set_option linter.unusedVariables false
set_option maxRecDepth 100000

theorem own : ownKnob Try.prog.godebug = none := by kernel_rfl

/-! ### Where nothing but plain data comes in -/
section
variable {H : Type} {enc : TypeId × Value → H} {P : Program}
theorem trod_struct3 {w : World} {base : Nat} {spare : Nat → Bool} {held : Bool} {t : TypeId} {f0 f1 f2 : Field} {fuel : Nat} {cs : List Value} {x : DataW H × List MemPlace} (ht : P.underlying t = some (.struct #[f0, f1, f2])) (h : DataW.trod enc P w base spare held fuel t cs = some x) :
    ∃ y0 y1 y2 n, x = (.agg [y0.1, y1.1, y2.1], y0.2 ++ (y1.2 ++ y2.2)) ∧ cs.length = P.cellsOf t ∧ DataW.trod enc P w base spare held n f0.type ((cs.drop f0.offset).take (P.cellsOf f0.type)) = some y0 ∧
      DataW.trod enc P w base spare held n f1.type ((cs.drop f1.offset).take (P.cellsOf f1.type)) = some y1 ∧ DataW.trod enc P w base spare held n f2.type ((cs.drop f2.offset).take (P.cellsOf f2.type)) = some y2 := by
  obtain ⟨xs, n, _, rfl, hl, hlen, hf⟩ := DataW.trod_struct ht h
  match xs, hlen with
  | [y0, y1, y2], _ => exact ⟨y0, y1, y2, n, by simp, hl, by simpa using hf 0 f0 rfl, by simpa using hf 1 f1 rfl, by simpa using hf 2 f2 rfl⟩
theorem post_plain {f : Func} {s : ChangeSpec} {apart fresh handsOn again : Bool} {W W' : World} {args : Array Value} {v : Value} {ds gs : List (DataW H)}
    (hW : DataW.Whole enc P f.params.toList s.vars apart W args.toList ds gs [])
    (hres : ∀ (b : Nat) (sp : Nat → Bool) (hd : Bool), DataW.TrodAll enc P W' b sp hd f.resultTypes.toList (v.resultList f.resultTypes.size) (s.fn H (ds ++ gs)).results [])
    (hargs : ∀ sp : Nat → Bool, DataW.TrodAll enc P W' 0 sp true f.params.toList args.toList (s.fn H (ds ++ gs)).args [])
    (hvars : ∀ sp : Nat → Bool, DataW.TrodVars enc P W' sp s.vars (s.fn H (ds ++ gs)).vars [])
    (hk : Kept W W')
    (hok : ∀ (j : Nat) (t : TypeId) (r : Value), f.resultTypes[j]? = some t → (v.resultList f.resultTypes.size)[j]? = some r → Value.okWide P W' .any 0 t r) :
    s.post enc P f apart fresh handsOn again W args v W' := by
  refine ⟨ds, gs, [], [], [], [], hW, hres _ _ _, hargs _, hvars _, hk.keptBut _, fun _ => ?_⟩
  refine ⟨hok, _, _, [], ⟨[], [], trodAll_append (hargs _) (hres _ _ _), hvars _, rfl, ?_, ?_⟩, ?_⟩
  · intro b off hp; cases hp
  · intro _; exact List.nodup_nil
  · intro p hp; cases hp
end

/-! ### The evaluator's tables -/
inductive BT where
  | leaf
  | node (k : Nat) (d : DFunc) (l r : BT)
def BT.find : BT → Nat → Option DFunc
  | .leaf, _ => none
  | .node k d l r, x => bif Nat.beq x k then some d else bif Nat.blt x k then l.find x else r.find x
def BT.All (Q : Nat → DFunc → Prop) : BT → Prop
  | .leaf => True
  | .node k d l r => Q k d ∧ l.All Q ∧ r.All Q
theorem BT.find_all {Q : Nat → DFunc → Prop} : ∀ {t : BT} {x : Nat} {d : DFunc}, t.All Q → t.find x = some d → Q x d
  | .leaf, x, d, _, h => by cases h
  | .node k d0 l r, x, d, ⟨h1, h2, h3⟩, h => by
    unfold BT.find at h
    cases hb : Nat.beq x k with
    | true =>
      rw [hb] at h
      simp only [cond_true, Option.some.injEq] at h
      subst h
      rw [Nat.eq_of_beq_eq_true hb]; exact h1
    | false =>
      rw [hb] at h
      cases hl : Nat.blt x k with
      | true => rw [hl] at h; exact BT.find_all h2 h
      | false => rw [hl] at h; exact BT.find_all h3 h
def FnOk (k : Nat) (df : DFunc) : Prop := ∃ f, Try.prog.funcs[k]? = some f ∧ trFunc Try.prog f = some df
def tab : BT := (.node 35 d35 (.node 15 d15 (.node 11 d11 (.node 9 d9 (.node 8 d8 (.node 3 d3 .leaf .leaf) .leaf) (.node 10 d10 .leaf .leaf)) (.node 13 d13 (.node 12 d12 .leaf .leaf) (.node 14 d14 .leaf .leaf))) (.node 30 d30 (.node 28 d28 (.node 18 d18 (.node 16 d16 .leaf .leaf) .leaf) (.node 29 d29 .leaf .leaf)) (.node 33 d33 (.node 31 d31 .leaf .leaf) (.node 34 d34 .leaf .leaf)))) (.node 55 d55 (.node 50 d50 (.node 38 d38 (.node 37 d37 (.node 36 d36 .leaf .leaf) .leaf) (.node 49 d49 .leaf .leaf)) (.node 52 d52 (.node 51 d51 .leaf .leaf) (.node 54 d54 .leaf .leaf))) (.node 66 d66 (.node 64 d64 (.node 63 d63 (.node 56 d56 .leaf .leaf) .leaf) (.node 65 d65 .leaf .leaf)) (.node 79 d79 (.node 78 d78 .leaf .leaf) (.node 94 d94 .leaf .leaf)))))
theorem tab_ok : tab.All FnOk := ⟨⟨_, Try.func35, tr35⟩, ⟨⟨_, Try.func15, tr15⟩, ⟨⟨_, Try.func11, tr11⟩, ⟨⟨_, Try.func9, tr9⟩, ⟨⟨_, Try.func8, tr8⟩, ⟨⟨_, Try.func3, tr3⟩, trivial, trivial⟩, trivial⟩, ⟨⟨_, Try.func10, tr10⟩, trivial, trivial⟩⟩, ⟨⟨_, Try.func13, tr13⟩, ⟨⟨_, Try.func12, tr12⟩, trivial, trivial⟩, ⟨⟨_, Try.func14, tr14⟩, trivial, trivial⟩⟩⟩, ⟨⟨_, Try.func30, tr30⟩, ⟨⟨_, Try.func28, tr28⟩, ⟨⟨_, Try.func18, tr18⟩, ⟨⟨_, Try.func16, tr16⟩, trivial, trivial⟩, trivial⟩, ⟨⟨_, Try.func29, tr29⟩, trivial, trivial⟩⟩, ⟨⟨_, Try.func33, tr33⟩, ⟨⟨_, Try.func31, tr31⟩, trivial, trivial⟩, ⟨⟨_, Try.func34, tr34⟩, trivial, trivial⟩⟩⟩⟩, ⟨⟨_, Try.func55, tr55⟩, ⟨⟨_, Try.func50, tr50⟩, ⟨⟨_, Try.func38, tr38⟩, ⟨⟨_, Try.func37, tr37⟩, ⟨⟨_, Try.func36, tr36⟩, trivial, trivial⟩, trivial⟩, ⟨⟨_, Try.func49, tr49⟩, trivial, trivial⟩⟩, ⟨⟨_, Try.func52, tr52⟩, ⟨⟨_, Try.func51, tr51⟩, trivial, trivial⟩, ⟨⟨_, Try.func54, tr54⟩, trivial, trivial⟩⟩⟩, ⟨⟨_, Try.func66, tr66⟩, ⟨⟨_, Try.func64, tr64⟩, ⟨⟨_, Try.func63, tr63⟩, ⟨⟨_, Try.func56, tr56⟩, trivial, trivial⟩, trivial⟩, ⟨⟨_, Try.func65, tr65⟩, trivial, trivial⟩⟩, ⟨⟨_, Try.func79, tr79⟩, ⟨⟨_, Try.func78, tr78⟩, trivial, trivial⟩, ⟨⟨_, Try.func94, tr94⟩, trivial, trivial⟩⟩⟩⟩⟩

theorem bears_of {P : Program} {f : FuncId} {B g : Func} (hf : P.funcs[f]? = some g) (hn : (g.name == "runtime.NumGoroutine") = false) (h : { B with name := g.name } = g) : Go.Proofs.Bears P f B := ⟨g.name, hn, by rw [h]; exact hf⟩
def renS : Ren := { f := fun n => match n with | 5 => 68 | 7 => 83 | 8 => 84 | 10 => 96 | 11 => 97 | 12 => 98 | 13 => 99 | 14 => 100 | 15 => 101 | 16 => 78 | 17 => 102 | 18 => 103 | 19 => 104 | 20 => 105 | 30 => 112 | 31 => 113 | 32 => 114 | 33 => 115 | 34 => 116 | 35 => 94 | 40 => 119 | n => n, t := fun n => match n with | 0 => 0 | 3 => 3 | 4 => 4 | 5 => 5 | 9 => 9 | 22 => 86 | 23 => 86 | 25 => 3 | 32 => 131 | 35 => 169 | 36 => 170 | 41 => 25 | 44 => 121 | 46 => 125 | 53 => 181 | 57 => 185 | 63 => 190 | 64 => 191 | n => n, g := fun n => n }
theorem laysS : SlLaysM.n5 Try.prog renS := by
  constructor
  all_goals first
    | kernel_rfl
    | (intro w; kernel_rfl)
    | exact bears_of Try.func68 (by kernel_rfl) (by kernel_rfl)
    | exact bears_of Try.func78 (by kernel_rfl) (by kernel_rfl)
    | exact bears_of Try.func83 (by kernel_rfl) (by kernel_rfl)
    | exact bears_of Try.func84 (by kernel_rfl) (by kernel_rfl)
    | exact bears_of Try.func94 (by kernel_rfl) (by kernel_rfl)
    | exact bears_of Try.func96 (by kernel_rfl) (by kernel_rfl)
    | exact bears_of Try.func97 (by kernel_rfl) (by kernel_rfl)
    | exact bears_of Try.func98 (by kernel_rfl) (by kernel_rfl)
    | exact bears_of Try.func99 (by kernel_rfl) (by kernel_rfl)
    | exact bears_of Try.func100 (by kernel_rfl) (by kernel_rfl)
    | exact bears_of Try.func101 (by kernel_rfl) (by kernel_rfl)
    | exact bears_of Try.func102 (by kernel_rfl) (by kernel_rfl)
    | exact bears_of Try.func103 (by kernel_rfl) (by kernel_rfl)
    | exact bears_of Try.func104 (by kernel_rfl) (by kernel_rfl)
    | exact bears_of Try.func105 (by kernel_rfl) (by kernel_rfl)
    | exact bears_of Try.func112 (by kernel_rfl) (by kernel_rfl)
    | exact bears_of Try.func113 (by kernel_rfl) (by kernel_rfl)
    | exact bears_of Try.func114 (by kernel_rfl) (by kernel_rfl)
    | exact bears_of Try.func115 (by kernel_rfl) (by kernel_rfl)
    | exact bears_of Try.func116 (by kernel_rfl) (by kernel_rfl)
    | exact bears_of Try.func119 (by kernel_rfl) (by kernel_rfl)
def renK0 : Ren := { f := fun n => match n with | 6 => 55 | 7 => 56 | 8 => 67 | 9 => 68 | 10 => 69 | 11 => 82 | n => n, t := fun n => match n with | 0 => 0 | 3 => 64 | 4 => 4 | 5 => 5 | 9 => 9 | 23 => 60 | 24 => 86 | 26 => 3 | 27 => 96 | 28 => 97 | 33 => 32 | 37 => 131 | 39 => 169 | 40 => 170 | 45 => 25 | 48 => 121 | 50 => 125 | 51 => 181 | 55 => 185 | 57 => 190 | 58 => 191 | n => n, g := fun n => n }
theorem laysK0 : SlLaysZI.n7 Try.prog renK0 := by
  constructor
  all_goals first
    | kernel_rfl
    | (intro w; kernel_rfl)
    | exact bears_of Try.func55 (by kernel_rfl) (by kernel_rfl)
    | exact bears_of Try.func56 (by kernel_rfl) (by kernel_rfl)
    | exact bears_of Try.func67 (by kernel_rfl) (by kernel_rfl)
    | exact bears_of Try.func68 (by kernel_rfl) (by kernel_rfl)
    | exact bears_of Try.func69 (by kernel_rfl) (by kernel_rfl)
    | exact bears_of Try.func82 (by kernel_rfl) (by kernel_rfl)
theorem laysO : SlLaysZI.n6 Try.prog renK0 := by
  constructor
  all_goals first
    | kernel_rfl
    | (intro w; kernel_rfl)
    | exact bears_of Try.func55 (by kernel_rfl) (by kernel_rfl)
    | exact bears_of Try.func56 (by kernel_rfl) (by kernel_rfl)
    | exact bears_of Try.func67 (by kernel_rfl) (by kernel_rfl)
    | exact bears_of Try.func68 (by kernel_rfl) (by kernel_rfl)
    | exact bears_of Try.func69 (by kernel_rfl) (by kernel_rfl)
    | exact bears_of Try.func82 (by kernel_rfl) (by kernel_rfl)
theorem sorts (m : Nat) : Go.Proofs.AnyZI.SortsIn Try.prog renK0 Fence.wide m :=
  ⟨fun blk off cap ss W hH hblk hsz => callsIn_wide.2 (Go.Proofs.AnyM.slices_Sort_int laysS blk off cap ss W hH hblk hsz), fun p cap W => callsIn_wide.2 (Go.Proofs.AnyM.slices_Sort_int_none laysS p cap W)⟩
def renI : Ren := { f := fun n => match n with | 21 => 66 | 27 => 80 | 28 => 81 | 35 => 95 | 39 => 111 | n => n, t := fun n => match n with | 22 => 86 | n => n, g := fun n => n }
theorem laysI : Lays2.n21 Try.prog renI := by
  constructor
  all_goals first
    | kernel_rfl
    | (intro w; kernel_rfl)
def env : Env := { fn := tab.find, intr := fun k => bif Nat.beq k 56 then some (fun all s => keysD all 69 s) else bif Nat.beq k 55 then some (fun all s => sortedD 69 all s) else bif Nat.beq k 66 then some (insD) else none, lf := 100000 }
theorem env_ok : EnvOk Try.prog env := by
  refine ⟨by kernel_rfl, fun k df h => BT.find_all tab_ok h, fun k F h => ?_⟩
  have h : (bif Nat.beq k 56 then some (fun all s => keysD all 69 s) else bif Nat.beq k 55 then some (fun all s => sortedD 69 all s) else bif Nat.beq k 66 then some (insD) else none) = some F := h
  cases hb56 : Nat.beq k 56 with
  | true =>
    rw [hb56] at h
    simp only [cond_true, Option.some.injEq] at h
    subst h
    rw [Nat.eq_of_beq_eq_true hb56]
    exact keys_ok (ρ := renK0) laysK0 (fun X w => callFunc_run Try.func56 (by kernel_rfl) (by kernel_rfl) X w)
  | false =>
    rw [hb56] at h
    simp only [cond_false] at h
    cases hb55 : Nat.beq k 55 with
    | true =>
      rw [hb55] at h
      simp only [cond_true, Option.some.injEq] at h
      subst h
      rw [Nat.eq_of_beq_eq_true hb55]
      exact sorted_ok (ρ := renK0) laysO { laysK0 with } sorts (fun X w => callFunc_run Try.func68 (by kernel_rfl) (by kernel_rfl) X w) (fun X w => callFunc_run Try.func55 (by kernel_rfl) (by kernel_rfl) X w)
    | false =>
      rw [hb55] at h
      simp only [cond_false] at h
      cases hb66 : Nat.beq k 66 with
      | true =>
        rw [hb66] at h
        simp only [cond_true, Option.some.injEq] at h
        subst h
        rw [Nat.eq_of_beq_eq_true hb66]
        exact ins_ok (ρ := renI) laysI (fun X w => callFunc_run Try.func66 (by kernel_rfl) (by kernel_rfl) X w)
      | false =>
        rw [hb66] at h
        simp only [cond_false] at h
        cases h

theorem runs (a b c : Int) : okOf (xcall env 200 (.func (.func 3) #[] #[]) [.agg #[.int .i64 a, .int .i64 b, .int .i64 c]] s0) = true := by kernel_rfl
theorem walk (a b c : Int) (w : World) : Calls Try.prog 3 #[.agg #[.int .i64 a, .int .i64 b, .int .i64 c]] w fun e w' => e = .returned (.bool true) ∧ Kept w w' :=
  top env_ok (runs a b c) (fun _ => .cons (.agg (.cons (.int _ _) (.cons (.int _ _) (.cons (.int _ _) .nil)))) .nil) w

theorem cells23 : Try.prog.cellsOf 23 = 3 := by kernel_rfl
theorem cells3 : Try.prog.cellsOf 3 = 1 := by kernel_rfl
/-- WHAT THE WALK GIVES, FOR EVERY ARGUMENT. -/
theorem contract (H : Type) (enc : TypeId × Value → H) (W : World) (base : Nat) (args : Array Value) (ds gs : List (DataW H)) (before : List MemPlace)
    (hval : ∀ (j : Nat) t v, Try.f3.params[j]? = some t → args[j]? = some v → Value.okWide Try.prog W .any base t v)
    (hW : DataW.Whole enc Try.prog Try.f3.params.toList Rows.overlayNobodySpec.vars false W args.toList ds gs before) :
    Calls Try.prog 3 args W fun e W' => ∃ v, e = .returned v ∧ Rows.overlayNobodySpec.post enc Try.prog Try.f3 false true false false W args v W' := by
  have hW' := hW
  obtain ⟨p, q, hA0, hV, rfl, hfz, hnd⟩ := hW
  have hA : DataW.TrodAll enc Try.prog W 0 (fun _ => true) true Try.f3.params.toList args.toList ds p := hA0
  rw [Try.params3] at hA hval
  obtain ⟨v0, vs0, d0, ds0, p0, q0, hargs, rfl, rfl, h0, r0⟩ := trodAll_cons hA
  obtain ⟨rfl, rfl, rfl⟩ := trodAll_nil r0
  obtain rfl : args = #[v0] := by cases args; simp_all
  obtain ⟨rfl, rfl⟩ := trodVars_none hV
  have hv0 := hval 0 23 v0 rfl rfl
  simp only [Value.okWide, Try.underlying23] at hv0
  obtain ⟨cs, rfl, hcs, _⟩ := hv0
  obtain ⟨fuel, hf⟩ := h0
  have hf0 := hf
  obtain ⟨y0, y1, y2, n, hx, hl, hy0, hy1, hy2⟩ := trod_struct3 Try.underlying23 hf
  obtain ⟨cs⟩ := cs
  simp only [Value.cells] at hl hy0 hy1 hy2 hf0
  rw [cells23] at hl
  match cs, hl with
  | [c0, c1, c2], _ =>
  simp only [cells3, List.drop_zero, List.drop_succ_cons, List.take_succ_cons, List.take_zero] at hy0 hy1 hy2
  obtain ⟨a, ea, rfl, ha⟩ := DataW.trod_int Try.underlying3 hy0
  obtain ⟨b, eb, rfl, hb⟩ := DataW.trod_int Try.underlying3 hy1
  obtain ⟨c, ec, rfl, hc⟩ := DataW.trod_int Try.underlying3 hy2
  simp only [List.cons.injEq, and_true] at ea eb ec
  subst ea; subst eb; subst ec
  simp only [Prod.mk.injEq, List.append_nil] at hx
  obtain ⟨rfl, rfl⟩ := hx
  simp only [List.append_nil] at hW'
  have again : ∀ (W2 : World) (sp : Nat → Bool), DataW.Trod enc Try.prog W2 0 sp true 23 (.agg ⟨[.int .i64 a, .int .i64 b, .int .i64 c]⟩) (.agg [.lit (.int .i64 a), .lit (.int .i64 b), .lit (.int .i64 c)]) [] := by
    intro W2 sp
    refine ⟨2, ?_⟩
    have := trod_struct_mk (enc := enc) (P := Try.prog) (w := W2) (base := 0) (spare := sp) (held := true) (n := 1) (t := 23) (cs := [.int .i64 a, .int .i64 b, .int .i64 c]) (xs := [(.lit (.int .i64 a), []), (.lit (.int .i64 b), []), (.lit (.int .i64 c), [])]) Try.underlying23 (by rw [cells23]; rfl) (by
      simp [cells3, DataW.trod, Try.underlying3, ha, hb, hc])
    simpa [Value.cells] using this
  refine (walk a b c W).mono fun e W' ⟨he, hk⟩ => ?_
  subst he
  exact ⟨_, rfl, post_plain hW' (fun _ _ _ => trodAll_cons_mk (shut_bool Try.underlying4 _) trodAll_mk0) (fun sp => trodAll_cons_mk (again W' sp) trodAll_mk0) (fun _ => rfl) hk (ok_one (by kernel_rfl) rfl (okWide_bool_mk Try.underlying4 _))⟩

theorem laid_met (os : Os) : laidMet Try.prog Rows.overlayNobodyRow.laid ((World.holding Try.prog os ⟨#[], #[], []⟩).forCall (fun _ _ => 0) ⟨#[], #[.agg #[.int .i64 0, .int .i64 0, .int .i64 0]], []⟩).memory :=
  laidMet_of_run' 8 (by kernel_rfl) (by kernel_rfl)
theorem reads (os : Os) {H : Type} (enc : TypeId × Value → H) : ∃ places, DataW.whole enc Try.prog ((World.holding Try.prog os ⟨#[], #[], []⟩).forCall (fun _ _ => 0) ⟨#[], #[.agg #[.int .i64 0, .int .i64 0, .int .i64 0]], []⟩).memory Try.f3.params.toList Rows.overlayNobodySpec.vars false #[Value.agg #[.int .i64 0, .int .i64 0, .int .i64 0]].toList 8 = some ([.agg [.lit (.int .i64 0), .lit (.int .i64 0), .lit (.int .i64 0)]], [], places) :=
  ⟨[], by kernel_rfl⟩
theorem lifted (os : Os) (started : os.Started) (H : Type) (enc : TypeId × Value → H) (F : Stop.Interp) :
    ReturnsInHanded {} Try.checked os 3 .any ((OpenSpec.ofChange Rows.overlayNobodySpec).preRow enc Try.prog Try.f3 Rows.overlayNobodyRow.domain false Rows.overlayNobodyRow.laid) (((OpenSpec.ofChange Rows.overlayNobodySpec).at F).post enc Try.prog Try.f3 false true false false) := by
  obtain ⟨places, hx⟩ := reads os enc
  refine returnsInHanded_of_row (C := Try.checked) (s := OpenSpec.ofChange Rows.overlayNobodySpec) own started (by kernel_rfl) Try.func3
    (witness_row_at (enc := enc) (C := Try.checked) false (World.holding Try.prog os ⟨#[], #[], []⟩) #[.agg #[.int .i64 0, .int .i64 0, .int .i64 0]] rfl (by kernel_rfl) (by kernel_rfl) (by kernel_rfl)
      (OpenSpec.preRow_of_cond 8 hx (by kernel_rfl) (fun k hk => by cases hk) (by kernel_rfl) (laid_met os))) ?_
  intro W base args ds gs before hval hW _ _ _ _ _ _
  exact contract H enc W base args ds gs before hval hW
theorem proved : Rows.OverlayNobodySaid :=
  OpenClaim.holds_of_cond 3 Try.f3 rfl rfl rfl rfl rfl rfl rfl ⟨rfl, rfl, rfl, rfl, rfl⟩ rfl rfl rfl rfl rfl (by kernel_rfl) Try.func3 (by kernel_rfl)
    (of_decide_eq_true (by kernel_rfl)) (by unfold Func.isWrapper; first | (rw [if_pos (by decide +kernel)]; kernel_rfl) | (rw [if_neg (by decide +kernel)]; exact ⟨rfl, rfl⟩))
    (fun os started H enc _ F => by rw [OpenClaim.pre_eq_preRow]; exact lifted os started H enc F)
end Go.Proofs.Ytlpjlananbjgcaa.overlayNobody
